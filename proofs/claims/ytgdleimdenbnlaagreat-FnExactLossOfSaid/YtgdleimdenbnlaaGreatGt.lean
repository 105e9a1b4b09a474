/- Contracts of l07Grown and GrowAlong of the reference. No condition but that the arguments are ints. -/
import Derived.Test.YtgdleimdenbnlaaGreatGs
import Derived.Test.YtgdleimdenbnlaaGreatEs
set_option linter.unusedSimpArgs false
set_option linter.unusedVariables false
set_option linter.unusedSectionVars false
namespace Go.Proofs.YtgdleimdenbnlaaGreat
open Go.RowKit

/-- The half planes of a grown region, in the reference's order. -/
def grownL (ps : List H3) (bx bY lo hi : Int) : List H3 × Bool :=
  if ps.all (fun g => (growF bx bY lo hi g).2) = true ∧ (sideF ps (dirA bx bY) (dirB bx bY)).2 = true ∧ (sideF ps (-dirA bx bY) (-dirB bx bY)).2 = true then
    (ps.map (fun g => (growF bx bY lo hi g).1) ++ [(sideF ps (dirA bx bY) (dirB bx bY)).1, (sideF ps (-dirA bx bY) (-dirB bx bY)).1], true)
  else ([], false)
theorem growM_grown {ps : List H3} {bx bY lo hi : Int} (h0 : ¬ (ps = [] ∨ (bx = 0 ∧ bY = 0))) : growM ps bx bY lo hi = if (grownL ps bx bY lo hi).2 = true then meetR (grownL ps bx bY lo hi).1 else ([], false) := by
  unfold growM grownL
  rw [if_neg h0]
  by_cases hc : ps.all (fun g => (growF bx bY lo hi g).2) = true ∧ (sideF ps (dirA bx bY) (dirB bx bY)).2 = true ∧ (sideF ps (-dirA bx bY) (-dirB bx bY)).2 = true
  · rw [if_pos ⟨hc.2.1, hc.2.2, hc.1⟩, if_pos hc, if_pos rfl]
    refine meetR_perm (fun g hg => ?_) (fun x => ?_)
    · rcases List.mem_cons.1 hg with rfl | hg
      · exact sideF_ok hc.2.1
      rcases List.mem_cons.1 hg with rfl | hg
      · exact sideF_ok hc.2.2
      obtain ⟨y, hy, rfl⟩ := List.mem_map.1 hg
      exact growF_ok (List.all_eq_true.1 hc.1 y hy)
    · simp only [List.mem_cons, List.mem_append, List.not_mem_nil, or_false]
      constructor
      · rintro (h | h | h)
        · exact .inr (.inl h)
        · exact .inr (.inr h)
        · exact .inl h
      · rintro (h | h | h)
        · exact .inr (.inr h)
        · exact .inl h
        · exact .inr (.inl h)
  · rw [if_neg (fun h => hc ⟨h.2.2, h.1, h.2.1⟩), if_neg hc, if_neg (by simp)]
theorem grownL_ok {ps out : List H3} {bx bY lo hi : Int} (h : grownL ps bx bY lo hi = (out, true)) : (∀ g ∈ out, HOk g) ∧ out.length = ps.length + 2 := by
  unfold grownL at h
  split at h
  · rename_i hc
    injection h with h _
    subst h
    refine ⟨fun g hg => ?_, by simp⟩
    rcases List.mem_append.1 hg with hg | hg
    · obtain ⟨y, hy, rfl⟩ := List.mem_map.1 hg
      exact growF_ok (List.all_eq_true.1 hc.1 y hy)
    · rcases List.mem_cons.1 hg with rfl | hg
      · exact sideF_ok hc.2.1
      · rw [List.mem_singleton.1 hg]
        exact sideF_ok hc.2.2
  · simp at h
theorem side_top {ps : List H3} {a b p q : Int} (kp : regionOk ps = true) (hne : ps ≠ []) (ha : -100 ≤ a ∧ a ≤ 100) (hb : -100 ≤ b ∧ b ≤ 100) (hz : a ≠ 0 ∨ b ≠ 0) (h : supN a b ps = (p, q)) : sideF ps a b = topF a b p q := by
  unfold sideF
  rw [h, top_half (sup_fr kp hne (by omega) (by omega) h).1 hz]

set_option maxRecDepth 100000 in
set_option maxHeartbeats 8000000 in
theorem l07Grown_eq {ps out : List H3} {bx bY lo hi : Int} {ok : Bool} {A : Option Addr} {c : Nat} {w : World} (kp : regionOk ps = true) (hne : ps ≠ []) (hl : ps.length ≤ 40) (R : R3 99 w A c ps) (B : GrowBd bx bY lo hi) (hb0 : ¬ (bx = 0 ∧ bY = 0)) (hr : Hid (grownL ps bx bY lo hi = (out, ok))) :
    Calls Tryz.prog 139 #[.agg #[.slice A ps.length c], .int .i64 bx, .int .i64 bY, .int .i64 lo, .int .i64 hi] w (SidePost w out ok) := by
  obtain ⟨i0, hi0, hz0, hz1, hz2⟩ := info_parts info_half
  have hr' := hr.out
  unfold grownL at hr'
  clear hr
  obtain ⟨g, a, b, eg, g0, g1, ea, eb, da, db, ba, bb, hz⟩ := dir_bd B.bx B.bY hb0
  rw [da, db] at hr'
  obtain ⟨⟨h, v1⟩, e1⟩ : ∃ s, sideF ps a b = s := ⟨_, rfl⟩
  obtain ⟨⟨k2, v2⟩, e2⟩ : ∃ s, sideF ps (-a) (-b) = s := ⟨_, rfl⟩
  rw [e1, e2] at hr'
  simp only at hr'
  obtain ⟨⟨p1, q1⟩, s1⟩ : ∃ s, supN a b ps = s := ⟨_, rfl⟩
  obtain ⟨⟨p2, q2⟩, s2⟩ : ∃ s, supN (-a) (-b) ps = s := ⟨_, rfl⟩
  obtain ⟨kb1, hkb1⟩ : ∃ s, farB (valsL a b ps) = s := ⟨_, rfl⟩
  obtain ⟨kb2, hkb2⟩ : ∃ s, farB (valsL (-a) (-b) ps) = s := ⟨_, rfl⟩
  rw [side_top kp hne ba bb hz s1] at e1
  rw [side_top kp hne (by omega) (by omega) (by omega) s2] at e2
  have E1 := Lib.hid e1
  have E2 := Lib.hid e2
  obtain ⟨_, hq1, hp1⟩ := sup_fr kp hne (by omega) (by omega) s1
  obtain ⟨_, hq2, hp2⟩ := sup_fr kp hne (by omega) (by omega) s2
  have HS1 := Lib.hid (fun W (R : R3 99 W A c ps) => l06Far_eq kp (show -50000 ≤ a ∧ a ≤ 50000 by omega) (show -50000 ≤ b ∧ b ≤ 50000 by omega) R (Lib.hid s1) (Lib.hid hkb1))
  have HS2 := Lib.hid (fun W (R : R3 99 W A c ps) => l06Far_eq kp (show -50000 ≤ -a ∧ -a ≤ 50000 by omega) (show -50000 ≤ -b ∧ -b ≤ 50000 by omega) R (Lib.hid s2) (Lib.hid hkb2))
  have t1 : (-bY).tdiv (g : Int) = a := tdiv_exact g0 ea
  have t2 : bx.tdiv (g : Int) = b := tdiv_exact g0 eb
  have t3 : bY.tdiv (g : Int) = -a := tdiv_exact g0 (by rw [Int.neg_mul, ← ea]; omega)
  have t4 : (-bx).tdiv (g : Int) = -b := tdiv_exact g0 (by rw [Int.neg_mul, ← eb])
  have gz : ((g : Int) == 0) = false := by simp; omega
  have egs : gcdS bx bY = (g : Int) := by rw [← gcdL2 bx bY (by have := B.bx; omega) (by have := B.bY; omega), eg]
  have EG := Lib.hid egs
  have GP : ∀ g ∈ ps, HOk g := (regionOk_parts kp hne).1
  have hp0 : 0 < ps.length := List.length_pos_iff.2 hne
  have hby := B.bx
  have hbz := B.bY
  have hlo := B.lo
  have hhi := B.hi
  obtain ⟨FX, hFX⟩ : ∃ FX, FX = growF bx bY lo hi := ⟨_, rfl⟩
  rw [← hFX] at hr'
  obtain ⟨ms, hms⟩ : ∃ ms, ps.map (fun g => (FX g).1) = ms := ⟨_, rfl⟩
  have hml : ms.length = ps.length := by rw [← hms]; simp
  have hmk : ∀ k (h : k < ps.length), ms[k]? = some (FX ps[k]).1 := fun k h => by rw [← hms, List.getElem?_map, List.getElem?_eq_getElem h]; rfl
  rw [hms] at hr'
  have HM := Lib.hid hr'
  have HF := Lib.hid hFX
  have HML := Lib.hid hml
  have HMK := Lib.hid hmk
  have HMS := Lib.hid hms
  clear hr' hFX hms hml hmk e1 e2 s1 s2 hkb1 hkb2 egs eg ea eb da db hz kp hne hb0
  go_enter Tryz.func139, Tryz.ntmps139
  go_wp2_with fail
  obtain ⟨U, hU⟩ : ∃ U, U = w.alloc (.cells #[.slice A ps.length c] 37) := ⟨_, rfl⟩
  rw [← hU]
  have TU : Below w.heap.size w U := by rw [hU]; exact (by repeat (first | exact bR | refine bO ?_ | refine bA ?_ | refine bS ?_ | refine bD ?_ | refine bN ?_))
  have X1 := Lib.hid (show U.heap[w.heap.size]? = some (.cells #[.slice A ps.length c] 37 (0, 0)) by rw [hU]; exact heap_alloc_new _ _)
  have sU : w.heap.size + 1 = U.heap.size := by rw [hU]; simp
  rw [sU]
  clear hU sU
  have tu := TU.size
  go_loopw [12, 29] (fun o i wr => ∃ (k : Nat) (A' : Option Addr) (c' : Nat), k ≤ ps.length ∧ i = .int .i64 k ∧ o = .slice A' k c' ∧ Hid ((ps.take k).all (fun g => (FX g).2) = true) ∧ RB U.heap.size 99 wr A' c' (ms.take k) ∧ Below U.heap.size U wr) (fun _ i _ => ps.length - (intOf i).toNat)
  case atStart => exact ⟨0, some ⟨U.heap.size, 0, none⟩, 0, Nat.zero_le _, rfl, rfl, Lib.hid rfl, RB.new0 rfl (Nat.le_refl _) rfl, (Below.refl _ _).alloc (Nat.le_refl _) _⟩
  case round =>
    obtain ⟨k, A', c', hk, rfl, rfl, HA, RO, hb⟩ := hrel
    have hbs := hb.size
    have htl : (ms.take k).length = k := by have := HML.out; simp; omega
    have T1 := TU.trans (hb.mono tu)
    by_cases hlt : k < ps.length
    · obtain ⟨g0', rfl, hg0, z0, z1, z2⟩ := (R.below T1).at_ hlt
      have kg := GP _ (List.getElem_mem hlt)
      obtain ⟨p1', p2', p3', p4'⟩ := grow_bd kg B
      have hab := kg.bc
      have hba := kg.ba
      have hbb := kg.bb
      have HE := Lib.hid (HMK.out k hlt)
      have HT := Lib.hid (all_take_succ (fun g => (FX g).2) ps k hlt)
      obtain ⟨⟨m, bv⟩, hmb⟩ : ∃ m, FX ps[k] = m := ⟨_, rfl⟩
      have hmb' := hmb
      rw [HF.out] at hmb'
      unfold growF at hmb'
      have HN := Lib.hid (show ms.take (k + 1) = ms.take k ++ [m] by
        obtain ⟨h1, h2⟩ := List.getElem?_eq_some_iff.1 HE.out
        rw [List.take_succ_eq_append_getElem h1, h2, hmb])
      have HB := Lib.hid (show (FX ps[k]).2 = bv by rw [hmb])
      clear hmb HE t1 t2 t3 t4 gz hq1 hq2 hp1 hp2
      have OV : wr.ownsRow U.heap.size 99 3 (.slice A' k c') k (cells3 (ms.take k)) := by unfold RB at RO; rw [htl] at RO; exact RO
      rcases max_of (a := -lo * (ps[k].a * bx + ps[k].b * bY)) (b := -hi * (ps[k].a * bx + ps[k].b * bY)) with ⟨hm1, hm2⟩ | ⟨hm1, hm2⟩
      all_goals
        rw [hm2] at hmb'
        have HS := Lib.hid hmb'
        clear hmb' hm2
        cases bv
        case' true =>
          go_wp2_with (first | (go_at_call 140; (first | (with_reducible refine (calls_ov2 (spec_HalfOf_eq HS (by omega) (by omega) (by omega))).mono ?_) | refine (calls_ov (spec_HalfOf_eq HS (by omega) (by omega) (by omega))).mono ?_); rintro e w' ⟨rfl, x, rfl⟩) | (at_builtin; refine wpList_append_own _ rfl _ _ 35 rfl U.heap.size 99 i0 (.agg #[.int .i64 0, .int .i64 0, .int .i64 0]) 3 24 Tryz.underlying35 hi0 hz0 hz1 hz2 rfl (by decide) _ _ _ rfl (OV.below' (by repeat (first | exact bR | refine bO ?_ | refine bA ?_ | refine bS ?_ | refine bD ?_ | refine bN ?_))) ⟨_, 0, none⟩ 1 1 (cells3 [m]) rfl rfl (news_at (heap_new_at (by simp) rfl)) (cells3_one _) (by unfold maxLen; omega) (by omega) (by simp [ov_size]; omega) ?_; intro v2 w2 O2 hg2 _; obtain ⟨A5, c5, rfl, RO5⟩ := own_slice2 HN.out htl O2; have HG := Lib.hid hg2; clear hg2 O2))
          go_roundw
          case rel => exact ⟨k + 1, A5, c5, by omega, by go_num, by go_num, Lib.hid (by rw [HT.out, HA.out, HB.out]; rfl), RO5, grown_below (B := U.heap.size) (by repeat (first | exact hb | refine bO ?_ | refine bA ?_ | refine bS ?_ | refine bD ?_ | refine bN ?_)) HG.out (fun k' hk' => (OV.lt k' hk').1) (Nat.le_refl _)⟩
          case measure => simp [intOf] <;> omega
        case' false =>
          have hr0 := HM.out
          have hall : ps.all (fun g => (FX g).2) = false := by
            rw [List.all_eq_false]
            exact ⟨ps[k], List.getElem_mem hlt, by rw [HB.out]; simp⟩
          rw [if_neg (by rw [hall]; simp)] at hr0
          simp at hr0
          obtain ⟨rfl, rfl⟩ := hr0
          clear hall
          go_wp2_with (first | (go_at_call 140; (first | (with_reducible refine (calls_ov2 (spec_HalfOf_eq HS (by omega) (by omega) (by omega))).mono ?_) | refine (calls_ov (spec_HalfOf_eq HS (by omega) (by omega) (by omega))).mono ?_); rintro e w' ⟨rfl, x, rfl⟩))
          go_ret2
          refine ⟨none, 0, rfl, RB.nil _ _ _, ?_⟩
          exact (by repeat (first | exact T1 | refine bO ?_ | refine bA ?_ | refine bS ?_ | refine bD ?_ | refine bN ?_))
    · obtain rfl : k = ps.length := by omega
      have hfull : ms.take ps.length = ms := by rw [← HML.out, List.take_length]
      rw [hfull] at RO
      have hall := HA.out
      rw [List.take_length] at hall
      have hr0 := HM.out
      have HM2 : Hid ((if v1 = true ∧ v2 = true then (ms ++ [h, k2], true) else ([], false)) = (out, ok)) := Lib.hid (by
        rw [← hr0]
        by_cases hv : v1 = true ∧ v2 = true
        · rw [if_pos hv, if_pos ⟨hall, hv⟩]
        · rw [if_neg hv, if_neg (fun e => hv e.2)])
      clear hr0 hall HA HM htl hfull
      go_wp2_with (first | (go_at_call 106; refine (spec_GcdOf_eq EG.out (by omega) (by omega) (by omega) (by omega)).mono ?_; rintro e w' ⟨rfl, n, rfl⟩))
      obtain ⟨Wb, hWb⟩ : ∃ Wb, Wb = wr.drewN n := ⟨_, rfl⟩
      rw [← hWb]
      have TB : Below wr.heap.size wr Wb := by rw [hWb]; exact (by repeat (first | exact bR | refine bO ?_ | refine bA ?_ | refine bS ?_ | refine bD ?_ | refine bN ?_))
      clear hWb
      have RO2 := RO.below TB
      have hb2 := hb.trans (TB.mono hbs)
      have X2 := box_below X1 hb2
      clear RO hb hbs TB T1
      have OD := owned_row [⟨a, b, 0⟩, ⟨-a, -b, 0⟩]
      have t2' := t2
      refine wp_region_rel [.pur [] ?s0, .pur [] ?s1, .pur [] ?s2, .pur [] ?s3, .pur [] ?s4, .pur [] ?s5, .pur [] ?s6, .pur [] ?s7, .pur [] ?s8, .pur [] ?s9, .pur [] ?s10, .pur [] ?s11, .pur [] ?s12, .pur [] ?s13, .pur [] ?s14, .pur [] ?s15, .rel [] [16] false (IsOw (GRow [⟨a, b, 0⟩, ⟨-a, -b, 0⟩])), .pur [16] ?s17, .pur [] ?s18] _ rfl rfl (by kernel_rfl) (by kernel_rfl) ?hst (fun vs => ?walk)
      case' walk =>
        (refine wpRel_pur rfl rfl (fun x => by ((go_wp2); refine relEnd_pur rfl ?_ (by repeat (first | exact bR | refine bO ?_ | refine bA ?_ | refine bS ?_ | refine bD ?_ | refine bN ?_)); simp only [Act.put, List.setIfInBounds_toArray, List.set_cons_succ, List.set_cons_zero]; rfl)) ?_; simp only [Act.put, List.setIfInBounds_toArray, List.set_cons_succ, List.set_cons_zero])
        (refine wpRel_pur rfl rfl (fun x => by ((go_wp2); refine relEnd_pur rfl ?_ (by repeat (first | exact bR | refine bO ?_ | refine bA ?_ | refine bS ?_ | refine bD ?_ | refine bN ?_)); simp only [Act.put, List.setIfInBounds_toArray, List.set_cons_succ, List.set_cons_zero]; rfl)) ?_; simp only [Act.put, List.setIfInBounds_toArray, List.set_cons_succ, List.set_cons_zero])
        (refine wpRel_pur rfl rfl (fun x => by ((go_wp2); refine relEnd_pur rfl ?_ (by repeat (first | exact bR | refine bO ?_ | refine bA ?_ | refine bS ?_ | refine bD ?_ | refine bN ?_)); simp only [Act.put, List.setIfInBounds_toArray, List.set_cons_succ, List.set_cons_zero]; rfl)) ?_; simp only [Act.put, List.setIfInBounds_toArray, List.set_cons_succ, List.set_cons_zero])
        (refine wpRel_pur rfl rfl (fun x => by ((go_wp2); refine relEnd_pur rfl ?_ (by repeat (first | exact bR | refine bO ?_ | refine bA ?_ | refine bS ?_ | refine bD ?_ | refine bN ?_)); simp only [Act.put, List.setIfInBounds_toArray, List.set_cons_succ, List.set_cons_zero]; rfl)) ?_; simp only [Act.put, List.setIfInBounds_toArray, List.set_cons_succ, List.set_cons_zero])
        (refine wpRel_pur rfl rfl (fun x => by ((go_wp2); refine relEnd_pur rfl ?_ (by repeat (first | exact bR | refine bO ?_ | refine bA ?_ | refine bS ?_ | refine bD ?_ | refine bN ?_)); simp only [Act.put, List.setIfInBounds_toArray, List.set_cons_succ, List.set_cons_zero]; rfl)) ?_; simp only [Act.put, List.setIfInBounds_toArray, List.set_cons_succ, List.set_cons_zero])
        (refine wpRel_pur rfl rfl (fun x => by ((go_wp2); refine relEnd_pur rfl ?_ (by repeat (first | exact bR | refine bO ?_ | refine bA ?_ | refine bS ?_ | refine bD ?_ | refine bN ?_)); simp only [Act.put, List.setIfInBounds_toArray, List.set_cons_succ, List.set_cons_zero]; rfl)) ?_; simp only [Act.put, List.setIfInBounds_toArray, List.set_cons_succ, List.set_cons_zero])
        (refine wpRel_pur rfl rfl (fun x => by ((go_wp2); refine relEnd_pur rfl ?_ (by repeat (first | exact bR | refine bO ?_ | refine bA ?_ | refine bS ?_ | refine bD ?_ | refine bN ?_)); simp only [Act.put, List.setIfInBounds_toArray, List.set_cons_succ, List.set_cons_zero]; rfl)) ?_; simp only [Act.put, List.setIfInBounds_toArray, List.set_cons_succ, List.set_cons_zero])
        (refine wpRel_pur rfl rfl (fun x => by ((go_wp2); refine relEnd_pur rfl ?_ (by repeat (first | exact bR | refine bO ?_ | refine bA ?_ | refine bS ?_ | refine bD ?_ | refine bN ?_)); simp only [Act.put, List.setIfInBounds_toArray, List.set_cons_succ, List.set_cons_zero]; rfl)) ?_; simp only [Act.put, List.setIfInBounds_toArray, List.set_cons_succ, List.set_cons_zero])
        (refine wpRel_pur rfl rfl (fun x => by ((go_wp2); refine relEnd_pur rfl ?_ (by repeat (first | exact bR | refine bO ?_ | refine bA ?_ | refine bS ?_ | refine bD ?_ | refine bN ?_)); simp only [Act.put, List.setIfInBounds_toArray, List.set_cons_succ, List.set_cons_zero]; rfl)) ?_; simp only [Act.put, List.setIfInBounds_toArray, List.set_cons_succ, List.set_cons_zero])
        (refine wpRel_pur rfl rfl (fun x => by ((go_wp2); refine relEnd_pur rfl ?_ (by repeat (first | exact bR | refine bO ?_ | refine bA ?_ | refine bS ?_ | refine bD ?_ | refine bN ?_)); simp only [Act.put, List.setIfInBounds_toArray, List.set_cons_succ, List.set_cons_zero]; rfl)) ?_; simp only [Act.put, List.setIfInBounds_toArray, List.set_cons_succ, List.set_cons_zero])
        (refine wpRel_pur rfl rfl (fun x => by ((go_wp2); refine relEnd_pur rfl ?_ (by repeat (first | exact bR | refine bO ?_ | refine bA ?_ | refine bS ?_ | refine bD ?_ | refine bN ?_)); simp only [Act.put, List.setIfInBounds_toArray, List.set_cons_succ, List.set_cons_zero]; rfl)) ?_; simp only [Act.put, List.setIfInBounds_toArray, List.set_cons_succ, List.set_cons_zero])
        (refine wpRel_pur rfl rfl (fun x => by ((go_wp2); refine relEnd_pur rfl ?_ (by repeat (first | exact bR | refine bO ?_ | refine bA ?_ | refine bS ?_ | refine bD ?_ | refine bN ?_)); simp only [Act.put, List.setIfInBounds_toArray, List.set_cons_succ, List.set_cons_zero]; rfl)) ?_; simp only [Act.put, List.setIfInBounds_toArray, List.set_cons_succ, List.set_cons_zero])
        (refine wpRel_pur rfl rfl (fun x => by ((go_wp2); refine relEnd_pur rfl ?_ (by repeat (first | exact bR | refine bO ?_ | refine bA ?_ | refine bS ?_ | refine bD ?_ | refine bN ?_)); simp only [Act.put, List.setIfInBounds_toArray, List.set_cons_succ, List.set_cons_zero]; rfl)) ?_; simp only [Act.put, List.setIfInBounds_toArray, List.set_cons_succ, List.set_cons_zero])
        (refine wpRel_pur rfl rfl (fun x => by ((go_wp2); refine relEnd_pur rfl ?_ (by repeat (first | exact bR | refine bO ?_ | refine bA ?_ | refine bS ?_ | refine bD ?_ | refine bN ?_)); simp only [Act.put, List.setIfInBounds_toArray, List.set_cons_succ, List.set_cons_zero]; rfl)) ?_; simp only [Act.put, List.setIfInBounds_toArray, List.set_cons_succ, List.set_cons_zero])
        (refine wpRel_pur rfl rfl (fun x => by ((go_wp2); refine relEnd_pur rfl ?_ (by repeat (first | exact bR | refine bO ?_ | refine bA ?_ | refine bS ?_ | refine bD ?_ | refine bN ?_)); simp only [Act.put, List.setIfInBounds_toArray, List.set_cons_succ, List.set_cons_zero]; rfl)) ?_; simp only [Act.put, List.setIfInBounds_toArray, List.set_cons_succ, List.set_cons_zero])
        (refine wpRel_pur rfl rfl (fun x => by ((go_wp2); refine relEnd_pur rfl ?_ (by repeat (first | exact bR | refine bO ?_ | refine bA ?_ | refine bS ?_ | refine bD ?_ | refine bN ?_)); simp only [Act.put, List.setIfInBounds_toArray, List.set_cons_succ, List.set_cons_zero]; rfl)) ?_; simp only [Act.put, List.setIfInBounds_toArray, List.set_cons_succ, List.set_cons_zero])
        refine wpRel_own rfl rfl rfl (fun x hh => ?_) ?_
        · go_wp2
          refine relEnd_ow rfl rfl ?_ (by repeat (first | exact bR | refine bO ?_ | refine bA ?_ | refine bS ?_ | refine bD ?_ | refine bN ?_)) ⟨some ⟨_, 0, none⟩, 2, rfl, pair_row (h := ⟨a, b, 0⟩) (k := ⟨-a, -b, 0⟩) (by rw [ov_size]; omega) (heap_alloc_new _ _) rfl⟩
          (simp only [Act.put, List.setIfInBounds_toArray, List.set_cons_succ, List.set_cons_zero] <;> rfl)
        simp only [Act.put, List.setIfInBounds_toArray, List.set_cons_succ, List.set_cons_zero]
        (refine wpRel_purn rfl rfl (fun x hh => by ((obtain ⟨a9, d9, f9, Q9⟩ := isOw_at (hh 16 (by simp)) rfl; simp only [f9]); (go_wp2); refine relEnd_pur rfl ?_ (by repeat (first | exact bR | refine bO ?_ | refine bA ?_ | refine bS ?_ | refine bD ?_ | refine bN ?_)); simp only [Act.put, List.setIfInBounds_toArray, List.set_cons_succ, List.set_cons_zero]; rfl)) ?_; simp only [Act.put, List.setIfInBounds_toArray, List.set_cons_succ, List.set_cons_zero])
        (refine wpRel_pur rfl rfl (fun x => by ((go_wp2); refine relEnd_pur rfl ?_ (by repeat (first | exact bR | refine bO ?_ | refine bA ?_ | refine bS ?_ | refine bD ?_ | refine bN ?_)); simp only [Act.put, List.setIfInBounds_toArray, List.set_cons_succ, List.set_cons_zero]; rfl)) ?_; simp only [Act.put, List.setIfInBounds_toArray, List.set_cons_succ, List.set_cons_zero])
        refine wpRelE_nilB0 (fun W K hh => ?_)
        obtain ⟨AD, cD, eD, RD0⟩ := isOw_at (hh 16) rfl
        have eD2 : _ = Value.slice AD 2 cD := eD
        simp only [eD2]
        clear hh eD eD2
        have AP0 : Apart A' AD := apart_new RO2 RD0 (Nat.le_refl _)
        have RD1 := RD0.weak (B' := U.heap.size) hb2.size
        have RO3 := RO2.below K
        have hb3 := hb2.trans (K.mono hb2.size)
        have X3 := box_below X2 K
        clear RD0 RO2 K X2
        go_wp2_with fail
        go_loopw [12, 90] (fun o i wr => ∃ (k : Nat) (A2 : Option Addr) (c2 : Nat), k ≤ 2 ∧ i = .int .i64 k ∧ o = .slice A2 (ps.length + k) c2 ∧ Hid (([v1, v2].take k).all id = true) ∧ RB U.heap.size 99 wr A2 c2 (ms ++ [h, k2].take k) ∧ Below U.heap.size U wr ∧ Hid (k < 2 → RB U.heap.size 99 wr AD cD [⟨a, b, 0⟩, ⟨-a, -b, 0⟩]) ∧ Hid (k = 0 → Apart A2 AD)) (fun _ i _ => 2 - (intOf i).toNat)
        case atStart => exact ⟨0, A', c', by omega, rfl, rfl, Lib.hid rfl, by simpa using RO3, hb3, Lib.hid (fun _ => RD1), Lib.hid (fun _ => AP0)⟩
        case round =>
          obtain ⟨k, A2, c2, hk, rfl, rfl, HA2, RO4, hb4, HD, HAP⟩ := hrel
          have hbs := hb4.size
          have T1 := TU.trans (hb4.mono tu)
          have htl : (ms ++ [h, k2].take k).length = ps.length + k := by have := HML.out; simp; omega
          by_cases hlt : k < 2
          · obtain ⟨ax, bb', p, q, kb, m, bv, HFR, HS, hax, hbx, hpn, hpq, hel, HN, HB, HFL⟩ : ∃ (ax bb' p q kb : Int) (m : H3) (bv : Bool), Hid (∀ W, R3 99 W A c ps → Calls Tryz.prog 122 #[.agg #[.slice A ps.length c], .int .i64 ax, .int .i64 bb'] W fun e w' => e = .returned (.tuple #[.int .i64 kb, .agg #[.int .i64 p, .int .i64 q]]) ∧ Below W.heap.size W w') ∧ Hid (topF ax bb' p q = (m, bv)) ∧ (-50000 ≤ ax ∧ ax ≤ 50000) ∧ (-50000 ≤ bb' ∧ bb' ≤ 50000) ∧ (-500000000000000000 ≤ p ∧ p ≤ 500000000000000000) ∧ (1 ≤ q ∧ q ≤ 5000000000) ∧ Hid (∀ (hq : k < [(⟨a, b, 0⟩ : H3), ⟨-a, -b, 0⟩].length), [(⟨a, b, 0⟩ : H3), ⟨-a, -b, 0⟩][k].a = ax ∧ [(⟨a, b, 0⟩ : H3), ⟨-a, -b, 0⟩][k].b = bb') ∧ Hid (ms ++ [h, k2].take (k + 1) = (ms ++ [h, k2].take k) ++ [m]) ∧ Hid (([v1, v2].take (k + 1)).all id = (([v1, v2].take k).all id && bv)) ∧ Hid (bv = false → ¬ (v1 = true ∧ v2 = true)) := by
              have hk01 : k = 0 ∨ k = 1 := by omega
              rcases hk01 with rfl | rfl
              · exact ⟨a, b, p1, q1, kb1, h, v1, HS1, E1, by omega, by omega, hp1, hq1, Lib.hid (fun _ => ⟨rfl, rfl⟩), Lib.hid (by simp), Lib.hid (by simp), Lib.hid (fun e h => by rw [e] at h; exact absurd h.1 (by simp))⟩
              · exact ⟨-a, -b, p2, q2, kb2, k2, v2, HS2, E2, by omega, by omega, hp2, hq2, Lib.hid (fun _ => ⟨rfl, rfl⟩), Lib.hid (by simp), Lib.hid (by simp), Lib.hid (fun e h => by rw [e] at h; exact absurd h.2 (by simp))⟩
            obtain ⟨g1, rfl, hg1, z0, z1, z2⟩ := (HD.out hlt).r3.at_ (show k < [(⟨a, b, 0⟩ : H3), ⟨-a, -b, 0⟩].length from hlt)
            rw [(hel.out hlt).1] at z0
            rw [(hel.out hlt).2] at z1
            have RPr := R.below T1
            have OV : wr.ownsRow U.heap.size 99 3 (.slice A2 (ps.length + k) c2) (ps.length + k) (cells3 (ms ++ [h, k2].take k)) := by unfold RB at RO4; rw [htl] at RO4; exact RO4
            have X5 := box_below X1 hb4
            have x5 := cell_blk (j := 0) (v := .slice A ps.length c) X5.out rfl
            have l5 := (Array.getElem?_eq_some_iff.1 X5.out).1
            clear HS1 HS2 E1 E2 t1 t2 t3 t4 gz hel
            cases bv
            case' true =>
              go_wp2_with (first | (go_at_call 122; (first | (with_reducible refine (calls_ov2 (HFR.out _ (RPr.below (by repeat (first | exact bR | refine bO ?_ | refine bA ?_ | refine bS ?_ | refine bD ?_ | refine bN ?_))))).mono ?_) | refine (calls_ov (HFR.out _ (RPr.below (by repeat (first | exact bR | refine bO ?_ | refine bA ?_ | refine bS ?_ | refine bD ?_ | refine bN ?_))))).mono ?_); rintro e w' ⟨rfl, x, rfl⟩) | (go_at_call 123; (first | (with_reducible refine (calls_ov2 (l07Top_eq HS hax hbx (by omega) (by omega))).mono ?_) | refine (calls_ov (l07Top_eq HS hax hbx (by omega) (by omega))).mono ?_); rintro e w' ⟨rfl, x, rfl⟩) | (at_builtin; refine wpList_append_own _ rfl _ _ 35 rfl U.heap.size 99 i0 (.agg #[.int .i64 0, .int .i64 0, .int .i64 0]) 3 24 Tryz.underlying35 hi0 hz0 hz1 hz2 rfl (by decide) _ _ _ rfl (OV.below' (by repeat (first | exact bR | refine bO ?_ | refine bA ?_ | refine bS ?_ | refine bD ?_ | refine bN ?_))) ⟨_, 0, none⟩ 1 1 (cells3 [m]) rfl rfl (news_at (heap_new_at (by simp) rfl)) (cells3_one _) (by unfold maxLen; omega) (by omega) (by simp [ov_size]; omega) ?_; intro v2' w2 O2 hg2 _; obtain ⟨A5, c5, rfl, RO5⟩ := own_slice2 HN.out htl O2; have HG := Lib.hid hg2; clear hg2 O2))
              go_roundw
              case rel => exact ⟨k + 1, A5, c5, by omega, by go_num, by first | go_num | (congr 1 <;> omega), Lib.hid (by rw [HB.out, HA2.out]; rfl), RO5, grown_below (B := U.heap.size) (by repeat (first | exact hb4 | refine bO ?_ | refine bA ?_ | refine bS ?_ | refine bD ?_ | refine bN ?_)) HG.out (fun k' hk' => (OV.lt k' hk').1) (Nat.le_refl _), Lib.hid (fun hk2 => by
                obtain rfl : k = 0 := by omega
                exact ((HD.out hlt).below (w' := _) (by repeat (first | exact bR | refine bO ?_ | refine bA ?_ | refine bS ?_ | refine bD ?_ | refine bN ?_))).grown RO4 HG.out (HAP.out rfl)), Lib.hid (fun e => by omega)⟩
              case measure => simp [intOf] <;> omega
            case' false =>
              have hr0 := HM2.out
              rw [if_neg (HFL.out rfl)] at hr0
              simp at hr0
              obtain ⟨rfl, rfl⟩ := hr0
              go_wp2_with (first | (go_at_call 122; (first | (with_reducible refine (calls_ov2 (HFR.out _ (RPr.below (by repeat (first | exact bR | refine bO ?_ | refine bA ?_ | refine bS ?_ | refine bD ?_ | refine bN ?_))))).mono ?_) | refine (calls_ov (HFR.out _ (RPr.below (by repeat (first | exact bR | refine bO ?_ | refine bA ?_ | refine bS ?_ | refine bD ?_ | refine bN ?_))))).mono ?_); rintro e w' ⟨rfl, x, rfl⟩) | (go_at_call 123; (first | (with_reducible refine (calls_ov2 (l07Top_eq HS hax hbx (by omega) (by omega))).mono ?_) | refine (calls_ov (l07Top_eq HS hax hbx (by omega) (by omega))).mono ?_); rintro e w' ⟨rfl, x, rfl⟩))
              go_ret2
              refine ⟨none, 0, rfl, RB.nil _ _ _, ?_⟩
              exact (by repeat (first | exact T1 | refine bO ?_ | refine bA ?_ | refine bS ?_ | refine bD ?_ | refine bN ?_))
          · obtain rfl : k = 2 := by omega
            have hv : v1 = true ∧ v2 = true := by
              have := HA2.out
              simpa using this
            have hr0 := HM2.out
            rw [if_pos hv] at hr0
            injection hr0 with e1 e2
            subst e1 e2
            have RO5 : RB U.heap.size 99 wr A2 c2 (ms ++ [h, k2]) := RO4
            have htl2 : (ms ++ [h, k2]).length = ps.length + 2 := htl
            go_wp2
            go_ret2
            refine ⟨A2, c2, ?_, RO5.weak tu, T1⟩
            rw [htl2]
            rfl
      case' hst => exact (by repeat (first | exact all_nil | refine all_cons trivial ?_ | refine all_cons isAl_stable ?_ | refine all_cons isSt_stable ?_ | refine all_cons isStB_stable ?_ | refine all_cons (isOw_stable (by assumption)) ?_))

end Go.Proofs.YtgdleimdenbnlaaGreat
