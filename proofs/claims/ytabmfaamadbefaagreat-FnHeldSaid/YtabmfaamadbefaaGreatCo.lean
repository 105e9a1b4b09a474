/- Contracts of crossings and corners, of the program and of the reference. Condition: valid half planes. -/
import Derived.Test.YtabmfaamadbefaaGreatSf
set_option linter.unusedSimpArgs false
set_option linter.unusedVariables false
set_option linter.unusedSectionVars false
namespace Go.Proofs.YtabmfaamadbefaaGreat
open Go.RowKit
theorem crossing_zero {g h : H3} {w : World} (kg : HOk g) (kh : HOk h) (hz : cross g h = 0) : Calls Tryz.prog 128 #[.agg #[.int .i64 g.a, .int .i64 g.b, .int .i64 g.c], .agg #[.int .i64 h.a, .int .i64 h.b, .int .i64 h.c]] w fun e w' =>
    e = .returned (.tuple #[.int .i64 (crossI g h).1, .int .i64 (crossI g h).2.1, .int .i64 (crossI g h).2.2, .bool false]) ∧ Below w.heap.size w w' := by
  obtain ⟨p1, p2, p3, p4⟩ := crossing_bd kg kh
  have p5 := cross_bd kg kh
  have HS := Lib.hid (show crossI g h = ((g.c * h.b - h.c * g.b), (g.a * h.c - h.a * g.c), 0) by unfold crossI; rw [if_neg (by omega), hz])
  have HC : ∀ w, _ := fun w => cross_any (w := w) kg kh
  rw [hz] at HC
  clear hz p5
  go_enter Tryz.func128, Tryz.ntmps128
  go_wp2_with (first | (go_at_call 126; (first | (with_reducible refine (calls_ov2 (HC _)).mono ?_) | refine (calls_ov (HC _)).mono ?_); rintro e w' ⟨rfl, x, rfl⟩))
  refine bodyPost_ret (results_tmp4 rfl _ _ _) rfl ⟨by rw [HS.out]; rfl, ?_⟩
  (repeat (first | exact bR | refine bO ?_ | refine bA ?_ | refine bS ?_ | refine bD ?_ | refine bN ?_))
/-- The crossing of two borders, reduced. -/
def cornerS (g h : H3) : P3 × Bool := spotOf (crossI g h).1 (crossI g h).2.1 (crossI g h).2.2
theorem crossI_zero {g h : H3} (h0 : cross g h = 0) : (crossI g h).2.2 = 0 := by unfold crossI; rw [if_neg (by omega)]; exact h0
theorem cornerS_zero {g h : H3} (h0 : cross g h = 0) : cornerS g h = ((0, 0, 0), false) := spotOf_bad (.inl (by rw [crossI_zero h0]; omega))

set_option maxHeartbeats 4000000 in
theorem CrossingOf_eq {g h : H3} {a b c : Int} {ok : Bool} {w : World} (kg : HOk g) (kh : HOk h) (hr : Hid (cornerS g h = ((a, b, c), ok))) :
    Calls Tryz.prog 107 #[.agg #[.int .i64 g.a, .int .i64 g.b, .int .i64 g.c], .agg #[.int .i64 h.a, .int .i64 h.b, .int .i64 h.c]] w fun e w' => e = .returned (.tuple #[.agg #[.int .i64 a, .int .i64 b, .int .i64 c], .bool ok]) ∧ Below w.heap.size w w' := by
  have og := Lib.hid ((halfOk_iff _).2 kg)
  have oh := Lib.hid ((halfOk_iff _).2 kh)
  by_cases h0 : cross g h = 0
  · have hr' := hr.out
    rw [cornerS_zero h0] at hr'
    simp at hr'
    obtain ⟨⟨rfl, rfl, rfl⟩, rfl⟩ := hr'
    have HC : ∀ w, _ := fun w => crossing_zero (w := w) kg kh h0
    clear h0 hr
    go_enter Tryz.func107, Tryz.ntmps107
    go_wp2_with (first | (go_at_call 55; (first | (with_reducible refine (calls_ov2 (impl_HalfOk_eq (by first | exact og.out | exact oh.out))).mono ?_) | refine (calls_ov (impl_HalfOk_eq (by first | exact og.out | exact oh.out))).mono ?_); rintro e w' ⟨rfl, x, rfl⟩) | (go_at_call 128; (first | (with_reducible refine (calls_ov2 (HC _)).mono ?_) | refine (calls_ov (HC _)).mono ?_); rintro e w' ⟨rfl, x, rfl⟩))
    refine bodyPost_ret (v := .tuple #[.agg #[.int .i64 0, .int .i64 0, .int .i64 0], .bool false]) (by simp [results, Tryz.results107, go_sem]) rfl ⟨rfl, ?_⟩
    (repeat (first | exact bR | refine bO ?_ | refine bA ?_ | refine bS ?_ | refine bD ?_ | refine bN ?_))
  · have HC : ∀ w, _ := fun w => crossing_any (w := w) kg kh h0
    have pb := crossI_pbd kg kh
    have HR : Hid (spotOf (crossI g h).1 (crossI g h).2.1 (crossI g h).2.2 = ((a, b, c), ok)) := hr
    obtain ⟨⟨x1, y1, d1⟩, hp⟩ : ∃ p, crossI g h = p := ⟨_, rfl⟩
    rw [hp] at HC pb HR
    have b1 := pb.b1
    have b2 := pb.b2
    have b3 := pb.b3
    simp only at HC b1 b2 b3 HR
    clear h0 hr hp pb
    go_enter Tryz.func107, Tryz.ntmps107
    go_wp2_with (first | (go_at_call 55; (first | (with_reducible refine (calls_ov2 (impl_HalfOk_eq (by first | exact og.out | exact oh.out))).mono ?_) | refine (calls_ov (impl_HalfOk_eq (by first | exact og.out | exact oh.out))).mono ?_); rintro e w' ⟨rfl, x, rfl⟩) | (go_at_call 128; (first | (with_reducible refine (calls_ov2 (HC _)).mono ?_) | refine (calls_ov (HC _)).mono ?_); rintro e w' ⟨rfl, x, rfl⟩) | (go_at_call 108; (first | (with_reducible refine (calls_ov2 (impl_SpotOf_eq HR (by omega) (by omega) (by omega))).mono ?_) | refine (calls_ov (impl_SpotOf_eq HR (by omega) (by omega) (by omega))).mono ?_); rintro e w' ⟨rfl, x, rfl⟩))
    refine bodyPost_ret (v := .tuple #[.agg #[.int .i64 a, .int .i64 b, .int .i64 c], .bool ok]) (by simp [results, Tryz.results107, go_sem]) rfl ⟨rfl, ?_⟩
    (repeat (first | exact bR | refine bO ?_ | refine bA ?_ | refine bS ?_ | refine bD ?_ | refine bN ?_))

/-- The corners, as rows of three numbers. -/
def nextH (hs : List H3) (k : Nat) : H3 := hs.getD ((k + 1) % hs.length) ⟨0, 0, 0⟩
def cornerH (hs : List H3) (k : Nat) : H3 := let p := (cornerS (hs.getD k ⟨0, 0, 0⟩) (nextH hs k)).1; ⟨p.1, p.2.1, p.2.2⟩
def cornersL (hs : List H3) : List H3 := (List.range hs.length).map (cornerH hs)
theorem cornersL_length (hs : List H3) : (cornersL hs).length = hs.length := by simp [cornersL]
theorem cornersL_take {hs : List H3} {k : Nat} (hk : k < hs.length) : (cornersL hs).take (k + 1) = (cornersL hs).take k ++ [cornerH hs k] := by
  have hk' : k < (cornersL hs).length := by rw [cornersL_length]; exact hk
  rw [List.take_succ_eq_append_getElem hk']
  simp [cornersL]
theorem cornerH_at {hs : List H3} {k j : Nat} (hk : k < hs.length) (hj : j < hs.length) (e : (k + 1) % hs.length = j) {a b c : Int} {ok : Bool} (h : cornerS hs[k] hs[j] = ((a, b, c), ok)) : cornerH hs k = ⟨a, b, c⟩ := by
  unfold cornerH nextH
  rw [e, List.getD_eq_getElem?_getD, List.getElem?_eq_getElem hk, List.getD_eq_getElem?_getD, List.getElem?_eq_getElem hj]
  simp only [Option.getD_some, h]
theorem info_spot : (Tryz.prog.info? 52).map (fun i => (i.zero, i.size, i.bytes)) = some (some (.agg #[.int .i64 0, .int .i64 0, .int .i64 0]), 3, 24) := by kernel_rfl
theorem news_atT {T : TypeId} {w : World} {vb : Nat} {a b c : Int} (hv : w.heap[vb]? = some (.cells #[.int .i64 a, .int .i64 b, .int .i64 c] T (0, 0))) : ∀ (j : Nat) (u : Value), (cells3 [⟨a, b, c⟩])[j]? = some u → w.cell? ((⟨vb, 0, none⟩ : Addr).add j) = some u := by
  intro j u hj
  rw [Addr.add_lit, cell_of_row w vb _ _ _ _ hv]
  have e : cells3 [⟨a, b, c⟩] = [.int .i64 a, .int .i64 b, .int .i64 c] := rfl
  rw [e] at hj
  simpa using hj
def SpotsPost (w : World) (n : Nat) (out : List H3) (e : Ending) (w' : World) : Prop := ∃ A c, e = .returned (.slice A n c) ∧ RB w.heap.size 52 w' A c out ∧ Below w.heap.size w w'
theorem next_rem {k n : Nat} (hk : k < n) : ((k : Int) + 1).tmod (n : Int) = ((k + 1) % n : Nat) := by
  rw [show (k : Int) + 1 = ((k + 1 : Nat) : Int) by omega, ← Int.ofNat_tmod]

set_option maxRecDepth 100000 in
set_option maxHeartbeats 8000000 in
theorem corners_any {hs : List H3} {A : Option Addr} {c : Nat} {w : World} (G : ∀ g ∈ hs, HOk g) (R : R3 44 w A c hs) (hl : hs.length ≤ 1000) :
    Calls Tryz.prog 71 #[.agg #[.slice A hs.length c]] w (SpotsPost w hs.length (cornersL hs)) := by
  obtain ⟨i0, hi, hz0, hz1, hz2⟩ := info_parts info_spot
  have HLN := Lib.hid (cornersL_length hs)
  go_enter Tryz.func71, Tryz.ntmps71
  go_wp2
  obtain ⟨W0, hW⟩ : ∃ W0, W0 = w.alloc (.cells #[.slice A hs.length c] 26) := ⟨_, rfl⟩
  rw [← hW]
  have T0 : Below w.heap.size w W0 := by rw [hW]; exact (by repeat (first | exact bR | refine bO ?_ | refine bA ?_ | refine bS ?_ | refine bD ?_ | refine bN ?_))
  have X2 := Lib.hid (show W0.heap[w.heap.size]? = some (.cells #[.slice A hs.length c] 26 (0, 0)) by rw [hW]; exact heap_new_at (by simp) rfl)
  have s0 : W0.heap.size = w.heap.size + 1 := by rw [hW]; simp
  (try rw [← s0])
  clear hW s0
  have t0 := T0.size
  have t1 : w.heap.size ≤ W0.heap.size := t0
  generalize hb2 : w.heap.size = b2 at X2 ⊢
  have RW := R.below T0
  go_loopw [3, 11] (fun o i wr => ∃ (k : Nat) (A' : Option Addr) (c' : Nat), k ≤ hs.length ∧ i = .int .i64 k ∧ o = .slice A' k c' ∧ RB W0.heap.size 52 wr A' c' ((cornersL hs).take k) ∧ Below W0.heap.size W0 wr) (fun _ i _ => hs.length - (intOf i).toNat)
  case atStart => exact ⟨0, none, 0, Nat.zero_le _, rfl, rfl, RB.nil _ _ _, Below.refl _ _⟩
  case round =>
    obtain ⟨k, A', c', hk, rfl, rfl, RO, hb⟩ := hrel
    have hbs := hb.size
    have htl : ((cornersL hs).take k).length = k := by have := HLN.out; simp; omega
    have T1 := T0.trans (hb.mono t0)
    by_cases hlt : k < hs.length
    · have hrem := next_rem hlt
      obtain ⟨j, hj⟩ : ∃ j, (k + 1) % hs.length = j := ⟨_, rfl⟩
      have hjl : j < hs.length := by rw [← hj]; exact Nat.mod_lt _ (by omega)
      have HJ := Lib.hid hj
      rw [hj] at hrem
      clear hj
      obtain ⟨gA, eA, hgA, z0, z1, z2⟩ := (RW.below hb).at_ hlt
      obtain ⟨gB, eB, hgB, y0, y1, y2⟩ := (RW.below hb).at_ hjl
      obtain rfl : gB = gA := by rw [eA] at eB; injection eB with e; injection e with e; exact e.symm
      clear eB
      subst eA
      have kg := G _ (List.getElem_mem hlt)
      have kh := G _ (List.getElem_mem hjl)
      have hn0 : ((hs.length : Int) == 0) = false := beq_eq_false_iff_ne.2 (by omega)
      have hn1 : ¬ ((hs.length : Int) = 0) := by omega
      obtain ⟨⟨⟨a, b, d⟩, ok⟩, hr⟩ : ∃ p, cornerS hs[k] hs[j] = p := ⟨_, rfl⟩
      have HR := Lib.hid hr
      have HN := Lib.hid (show (cornersL hs).take (k + 1) = (cornersL hs).take k ++ [⟨a, b, d⟩] by rw [cornersL_take hlt, cornerH_at hlt hjl HJ.out hr])
      clear hr
      have X3 := box_below X2 hb
      have x2 := cell_blk (j := 0) (v := .slice (some ⟨gB, 0, none⟩) hs.length c) X3.out rfl
      have hX2 := (Array.getElem?_eq_some_iff.1 X3.out).1
      have OV : wr.ownsRow W0.heap.size 52 3 (.slice A' k c') k (cells3 ((cornersL hs).take k)) := by unfold RB at RO; rw [htl] at RO; exact RO
      go_wp2
      obtain ⟨V, hV⟩ : ∃ V, wr.alloc (.cells #[.int .i64 hs[k].a, .int .i64 hs[k].b, .int .i64 hs[k].c] 44) = V := ⟨_, rfl⟩
      have KV : Below wr.heap.size wr V := by rw [← hV]; exact (by repeat (first | exact bR | refine bO ?_ | refine bA ?_ | refine bS ?_ | refine bD ?_ | refine bN ?_))
      have XV : V.heap[wr.heap.size]? = some (.cells #[.int .i64 hs[k].a, .int .i64 hs[k].b, .int .i64 hs[k].c] 44 (0, 0)) := by rw [← hV]; exact heap_alloc_new _ _
      have hvs := KV.size
      rw [hV]
      clear hV
      generalize hbk : wr.heap.size = bk at XV ⊢
      have v0 := cell_blk (j := 0) (v := .int .i64 hs[k].a) XV rfl
      have v1 := cell_blk (j := 1) (v := .int .i64 hs[k].b) XV rfl
      have v2 := cell_blk (j := 2) (v := .int .i64 hs[k].c) XV rfl
      have lv := (Array.getElem?_eq_some_iff.1 XV).1
      have u2 := (KV.cell (p := ⟨b2, 0, none⟩) hX2).trans x2
      have lu : b2 < V.heap.size := by omega
      have q0 := (KV.cell (p := ⟨gB, j * 3, none⟩) hgB).trans y0
      have q1 := (KV.cell (p := ⟨gB, j * 3 + 1, none⟩) hgB).trans y1
      have q2 := (KV.cell (p := ⟨gB, j * 3 + 2, none⟩) hgB).trans y2
      have lg : gB < V.heap.size := by omega
      clear XV z0 z1 z2 y0 y1 y2 x2 hgA hgB
      refine wp_region_rel (RD.pur [] ?s0 :: RD.pur [] ?s1 :: RD.pur [] ?s2 :: RD.pur [] ?s3 :: RD.pur [] ?s4 :: RD.pur [] ?s5 :: RD.pur [] ?s6 :: RD.pur [] ?s7 :: RD.pur [] ?s8 :: RD.pur [] ?s9 :: RD.pur [] ?s10 :: RD.pur [] ?s11 :: RD.pur [] ?s12 :: RD.pur [] ?s13 :: RD.pur [] ?s14 :: RD.rel [] [15] false (IsAl 52 3) :: RD.rel [15, 13] [15, 13] true (IsSt 52) :: RD.pur [] ?s17 :: []) _ rfl rfl (by kernel_rfl) (by kernel_rfl) ?hst (fun vs => ?walk)
      case' walk =>
        (refine wpRel_pur rfl rfl (fun x => by ((go_wp2); refine relEnd_pur rfl ?_ (by repeat (first | exact bR | refine bO ?_ | refine bA ?_ | refine bS ?_ | refine bD ?_ | refine bN ?_)); simp only [Act.put, List.setIfInBounds_toArray, List.set_cons_succ, List.set_cons_zero]; rfl)) ?_; simp only [Act.put, List.setIfInBounds_toArray, List.set_cons_succ, List.set_cons_zero])
        (refine wpRel_pur rfl rfl (fun x => by ((go_wp2); refine relEnd_pur rfl ?_ (by repeat (first | exact bR | refine bO ?_ | refine bA ?_ | refine bS ?_ | refine bD ?_ | refine bN ?_)); simp only [Act.put, List.setIfInBounds_toArray, List.set_cons_succ, List.set_cons_zero]; rfl)) ?_; simp only [Act.put, List.setIfInBounds_toArray, List.set_cons_succ, List.set_cons_zero])
        (refine wpRel_pur rfl rfl (fun x => by ((go_wp2); refine relEnd_pur rfl ?_ (by repeat (first | exact bR | refine bO ?_ | refine bA ?_ | refine bS ?_ | refine bD ?_ | refine bN ?_)); simp only [Act.put, List.setIfInBounds_toArray, List.set_cons_succ, List.set_cons_zero]; rfl)) ?_; simp only [Act.put, List.setIfInBounds_toArray, List.set_cons_succ, List.set_cons_zero])
        (refine wpRel_pur rfl rfl (fun x => by ((go_wp2); refine relEnd_pur rfl ?_ (by repeat (first | exact bR | refine bO ?_ | refine bA ?_ | refine bS ?_ | refine bD ?_ | refine bN ?_)); simp only [Act.put, List.setIfInBounds_toArray, List.set_cons_succ, List.set_cons_zero]; rfl)) ?_; simp only [Act.put, List.setIfInBounds_toArray, List.set_cons_succ, List.set_cons_zero])
        (refine wpRel_pur rfl rfl (fun x => by ((go_wp2); refine relEnd_pur rfl ?_ (by repeat (first | exact bR | refine bO ?_ | refine bA ?_ | refine bS ?_ | refine bD ?_ | refine bN ?_)); simp only [Act.put, List.setIfInBounds_toArray, List.set_cons_succ, List.set_cons_zero]; rfl)) ?_; simp only [Act.put, List.setIfInBounds_toArray, List.set_cons_succ, List.set_cons_zero])
        (refine wpRel_pur rfl rfl (fun x => by ((go_wp2); refine relEnd_pur rfl ?_ (by repeat (first | exact bR | refine bO ?_ | refine bA ?_ | refine bS ?_ | refine bD ?_ | refine bN ?_)); simp only [Act.put, List.setIfInBounds_toArray, List.set_cons_succ, List.set_cons_zero]; rfl)) ?_; simp only [Act.put, List.setIfInBounds_toArray, List.set_cons_succ, List.set_cons_zero])
        (refine wpRel_pur rfl rfl (fun x => by ((go_wp2); refine relEnd_pur rfl ?_ (by repeat (first | exact bR | refine bO ?_ | refine bA ?_ | refine bS ?_ | refine bD ?_ | refine bN ?_)); simp only [Act.put, List.setIfInBounds_toArray, List.set_cons_succ, List.set_cons_zero]; rfl)) ?_; simp only [Act.put, List.setIfInBounds_toArray, List.set_cons_succ, List.set_cons_zero])
        (refine wpRel_pur rfl rfl (fun x => by ((go_wp2); refine relEnd_pur rfl ?_ (by repeat (first | exact bR | refine bO ?_ | refine bA ?_ | refine bS ?_ | refine bD ?_ | refine bN ?_)); simp only [Act.put, List.setIfInBounds_toArray, List.set_cons_succ, List.set_cons_zero]; rfl)) ?_; simp only [Act.put, List.setIfInBounds_toArray, List.set_cons_succ, List.set_cons_zero])
        (refine wpRel_pur rfl rfl (fun x => by ((go_wp2); refine relEnd_pur rfl ?_ (by repeat (first | exact bR | refine bO ?_ | refine bA ?_ | refine bS ?_ | refine bD ?_ | refine bN ?_)); simp only [Act.put, List.setIfInBounds_toArray, List.set_cons_succ, List.set_cons_zero]; rfl)) ?_; simp only [Act.put, List.setIfInBounds_toArray, List.set_cons_succ, List.set_cons_zero])
        (refine wpRel_pur rfl rfl (fun x => by ((go_wp2); refine relEnd_pur rfl ?_ (by repeat (first | exact bR | refine bO ?_ | refine bA ?_ | refine bS ?_ | refine bD ?_ | refine bN ?_)); simp only [Act.put, List.setIfInBounds_toArray, List.set_cons_succ, List.set_cons_zero]; rfl)) ?_; simp only [Act.put, List.setIfInBounds_toArray, List.set_cons_succ, List.set_cons_zero])
        (refine wpRel_pur rfl rfl (fun x => by ((go_wp2); refine relEnd_pur rfl ?_ (by repeat (first | exact bR | refine bO ?_ | refine bA ?_ | refine bS ?_ | refine bD ?_ | refine bN ?_)); simp only [Act.put, List.setIfInBounds_toArray, List.set_cons_succ, List.set_cons_zero]; rfl)) ?_; simp only [Act.put, List.setIfInBounds_toArray, List.set_cons_succ, List.set_cons_zero])
        (refine wpRel_pur rfl rfl (fun x => by ((go_wp2_with (first | (go_at_call 107; refine (calls_ov (CrossingOf_eq kg kh HR)).mono ?_; rintro e w' ⟨rfl, x, rfl⟩))); refine relEnd_pur rfl ?_ (by repeat (first | exact bR | refine bO ?_ | refine bA ?_ | refine bS ?_ | refine bD ?_ | refine bN ?_)); simp only [Act.put, List.setIfInBounds_toArray, List.set_cons_succ, List.set_cons_zero]; rfl)) ?_; simp only [Act.put, List.setIfInBounds_toArray, List.set_cons_succ, List.set_cons_zero])
        (refine wpRel_pur rfl rfl (fun x => by ((go_wp2); refine relEnd_pur rfl ?_ (by repeat (first | exact bR | refine bO ?_ | refine bA ?_ | refine bS ?_ | refine bD ?_ | refine bN ?_)); simp only [Act.put, List.setIfInBounds_toArray, List.set_cons_succ, List.set_cons_zero]; rfl)) ?_; simp only [Act.put, List.setIfInBounds_toArray, List.set_cons_succ, List.set_cons_zero])
        (refine wpRel_pur rfl rfl (fun x => by ((go_wp2); refine relEnd_pur rfl ?_ (by repeat (first | exact bR | refine bO ?_ | refine bA ?_ | refine bS ?_ | refine bD ?_ | refine bN ?_)); simp only [Act.put, List.setIfInBounds_toArray, List.set_cons_succ, List.set_cons_zero]; rfl)) ?_; simp only [Act.put, List.setIfInBounds_toArray, List.set_cons_succ, List.set_cons_zero])
        (refine wpRel_pur rfl rfl (fun x => by ((go_wp2); refine relEnd_pur rfl ?_ (by repeat (first | exact bR | refine bO ?_ | refine bA ?_ | refine bS ?_ | refine bD ?_ | refine bN ?_)); simp only [Act.put, List.setIfInBounds_toArray, List.set_cons_succ, List.set_cons_zero]; rfl)) ?_; simp only [Act.put, List.setIfInBounds_toArray, List.set_cons_succ, List.set_cons_zero])
        refine wpRel_al #[.int .i64 0, .int .i64 0, .int .i64 0] rfl rfl rfl rfl rfl rfl (fun w => by simp [go_sem]) ?_
        simp only [Act.put, List.setIfInBounds_toArray, List.set_cons_succ, List.set_cons_zero]
        refine wpRel_st rfl rfl rfl rfl rfl rfl (by decide) (by decide) rfl rfl (by kernel_rfl) ⟨rfl, by simp [Value.cells, Value.oneCell']⟩ (by repeat (first | exact all_nil | refine all_cons trivial ?_ | refine all_cons isAl_steady ?_ | refine all_cons (isOw_steady (by assumption)) ?_)) ?_
        (refine wpRel_pur rfl rfl (fun x => by ((go_wp2); refine relEnd_pur rfl ?_ (by repeat (first | exact bR | refine bO ?_ | refine bA ?_ | refine bS ?_ | refine bD ?_ | refine bN ?_)); simp only [Act.put, List.setIfInBounds_toArray, List.set_cons_succ, List.set_cons_zero]; rfl)) ?_; simp only [Act.put, List.setIfInBounds_toArray, List.set_cons_succ, List.set_cons_zero])
        refine wpRel_nilB (fun wp hbp0 hh => ?_)
        obtain ⟨nb, en, hnb, hx⟩ := isSt_pur (hh 16) rfl rfl rfl
        simp only [en]
        clear hh en
        have hbp : Below W0.heap.size W0 wp := hb.trans ((KV.mono hbs).trans (hbp0.mono (by omega)))
        have OVp : wp.ownsRow W0.heap.size 52 3 (.slice A' k c') k (cells3 ((cornersL hs).take k)) := (OV.below' (by rw [hbk]; rw [hbk] at KV; exact KV)).below' hbp0
        have y0 := cell_blk (j := 0) (v := .int .i64 a) hx rfl
        have y1 := cell_blk (j := 1) (v := .int .i64 b) hx rfl
        have y2 := cell_blk (j := 2) (v := .int .i64 d) hx rfl
        have hlb := (Array.getElem?_eq_some_iff.1 hx).1
        have hbps := hbp.size
        clear hx vs hbp0 hnb hb v0 v1 v2 u2 q0 q1 q2 OV X3 RO T1 kg kh
        go_wp2_with (at_builtin; refine wpList_append_own _ rfl _ _ 75 rfl W0.heap.size 52 i0 (.agg #[.int .i64 0, .int .i64 0, .int .i64 0]) 3 24 Tryz.underlying75 hi hz0 hz1 hz2 rfl (by decide) _ _ _ rfl (OVp.below' (by repeat (first | exact bR | refine bO ?_ | refine bA ?_ | refine bS ?_ | refine bD ?_ | refine bN ?_))) ⟨_, 0, none⟩ 1 1 (cells3 [⟨a, b, d⟩]) rfl rfl (news_atT (heap_new_at (by simp) rfl)) (cells3_one _) (by unfold maxLen; omega) (by omega) (by simp [ov_size]; omega) ?_; intro v2 w2 O2 hg2 _; obtain ⟨A5, c5, rfl, RO5⟩ := own_slice2 HN.out htl O2; have HG := Lib.hid hg2; clear hg2 O2)
        go_roundw
        case rel => exact ⟨k + 1, A5, c5, by omega, by go_num, by go_num, RO5, grown_below (B := W0.heap.size) (by repeat (first | exact hbp | refine bO ?_ | refine bA ?_ | refine bS ?_ | refine bD ?_ | refine bN ?_)) HG.out (fun k' hk' => (OVp.lt k' hk').1) (Nat.le_refl _)⟩
        case measure => simp [intOf] <;> omega
      case' hst => exact (by repeat (first | exact all_nil | refine all_cons trivial ?_ | refine all_cons isAl_stable ?_ | refine all_cons isSt_stable ?_ | refine all_cons isStB_stable ?_ | refine all_cons (isOw_stable (by assumption)) ?_))
    · obtain rfl : k = hs.length := by omega
      have hfull : (cornersL hs).take hs.length = cornersL hs := by rw [← HLN.out, List.take_length]
      rw [hfull] at RO
      go_wp2
      go_ret
      exact ⟨A', c', rfl, RO.weak t0, T1⟩

end Go.Proofs.YtabmfaamadbefaaGreat