/- Contracts of PullBack, of the program and of the reference. Condition: the arguments are ints. -/
import Derived.Test.YtgdleimdenbnlaaGreatPq
set_option linter.unusedSimpArgs false
set_option linter.unusedVariables false
set_option linter.unusedSectionVars false
namespace Go.Proofs.YtgdleimdenbnlaaGreat
open Go.RowKit

set_option maxRecDepth 100000 in
set_option maxHeartbeats 8000000 in
theorem spec_PullBack_eq {hs out : List H3} {ok : Bool} {m : List Int} {q : Int} {A Am : Option Addr} {c cm : Nat} {w : World} (R : R3 99 w A c hs) (hl : hs.length ≤ 1000000000) (RM : RI w Am m) (hm : m.length ≤ 1048576) (hr : Hid (pullR m q hs = (out, ok))) :
    Calls Tryz.prog 82 #[.agg #[.slice A hs.length c], .slice Am m.length cm, .int .i64 q] w (RegPost w out ok) := by
  obtain ⟨i0, hi, hz0, hz1, hz2⟩ := info_parts info_half
  have hr' := hr.out
  clear hr
  obtain ⟨rk, hrk⟩ : ∃ v, regionOk hs = v := ⟨_, rfl⟩
  obtain ⟨tk, htk⟩ : ∃ v, turnOk m q = v := ⟨_, rfl⟩
  have HRK := Lib.hid hrk
  unfold pullR at hr'
  rw [hrk, htk] at hr'
  by_cases hall : tk = true ∧ rk = true
  · obtain ⟨rfl, rfl⟩ := hall
    rw [if_pos ⟨rfl, rfl⟩] at hr'
    obtain ⟨hmk, a, b, e, f, rfl, M, hd⟩ := turnOk_parts htk
    have HMP := Lib.hid hmk
    have q1 := mul_bd M.ba M.bf
    have q2 := mul_bd M.bb M.be
    have hG : (∀ g ∈ hs, HOk g) ∧ hs.length ≤ 40 := by
      by_cases h0 : hs = []
      · subst h0; exact ⟨(fun g hg => nomatch hg), by simp⟩
      · obtain ⟨G, _, h40⟩ := regionOk_parts hrk h0; exact ⟨G, h40⟩
    obtain ⟨G, h40⟩ := hG
    obtain ⟨FX, hFX⟩ : ∃ FX, FX = pullF a b e f q := ⟨_, rfl⟩
    have hrr : movedF FX hs = (out, ok) := by rw [hFX]; exact hr'
    obtain ⟨ms, hms⟩ : ∃ ms, hs.map (fun g => (FX g).1) = ms := ⟨_, rfl⟩
    have hml : ms.length = hs.length := by rw [← hms]; simp
    have hmk2 : ∀ k (h : k < hs.length), ms[k]? = some (FX hs[k]).1 := fun k h => by rw [← hms, List.getElem?_map, List.getElem?_eq_getElem h]; rfl
    unfold movedF at hrr
    rw [hms] at hrr
    have HM := Lib.hid hrr
    have HML := Lib.hid hml
    have HMK := Lib.hid hmk2
    have HMS := Lib.hid hms
    have HF := Lib.hid hFX
    clear hrr hms hml hmk2 hFX hr' hmk htk hrk
    obtain ⟨ag, og, rfl, hga, d0, d1, d2, d3⟩ := RM.four
    go_enter Tryz.func82, Tryz.ntmps82
    go_wp2
    obtain ⟨V, hV⟩ : ∃ V, (w.alloc (.cells #[.slice A hs.length c] 37)).alloc (.cells #[.slice none 0 0] 37) = V := ⟨_, rfl⟩
    rw [hV]
    have TV : Below w.heap.size w V := by rw [← hV]; exact (by repeat (first | exact bR | refine bO ?_ | refine bA ?_ | refine bS ?_ | refine bD ?_ | refine bN ?_))
    have XV := Lib.hid (show V.heap[w.heap.size + 1]? = some (.cells #[.slice none 0 0] 37 (0, 0)) by rw [← hV]; exact heap_new_at (by simp) rfl)
    have X0 : V.heap[w.heap.size]? = some (.cells #[.slice A hs.length c] 37 (0, 0)) := by rw [← hV]; exact (heap_old_at (by simp)).trans (heap_new_at (by simp) rfl)
    have x0 := cell_blk (j := 0) (v := .slice A hs.length c) X0 rfl
    have x0l := (Array.getElem?_eq_some_iff.1 X0).1
    have RV := R.below TV
    have RMV := RM.below TV
    have g0 := (TV.cell (p := ⟨ag, og, none⟩) hga).trans d0
    have g1 := (TV.cell (p := ⟨ag, og + 1, none⟩) hga).trans d1
    have g2 := (TV.cell (p := ⟨ag, og + 2, none⟩) hga).trans d2
    have g3 := (TV.cell (p := ⟨ag, og + 3, none⟩) hga).trans d3
    have hgv : ag < V.heap.size := by have := TV.size; omega
    clear hV X0
    ((first | (with_reducible refine wp_region_calm2 (by kernel_rfl) (by kernel_rfl) ?_) | refine wp_region_calm (by kernel_rfl) (by kernel_rfl) ?_); (repeat (go_big_quiet_step (first | first | (go_at_call 56; exact calm_below (spec_RegionOk_eq (by exact RV.below (by repeat (first | exact bR | refine bO ?_ | refine bA ?_ | refine bS ?_ | refine bD ?_ | refine bN ?_))) hl HRK)) | (go_at_call 121; exact calm_below (l07Matrix_eq (m := [a, b, e, f]) (by exact RMV.below (by repeat (first | exact bR | refine bO ?_ | refine bA ?_ | refine bS ?_ | refine bD ?_ | refine bN ?_))) (by simp) HMP))))); refine wpQuiet_nil ?_; rintro _ ⟨y, rfl⟩)
    go_wp2
    clear hd q1 q2 x0 g0 g1 g2 g3
    obtain ⟨W0, hW⟩ : ∃ W0, W0 = ov V y := ⟨_, rfl⟩
    rw [← hW]
    have T0 : Below w.heap.size w W0 := by rw [hW]; exact (by repeat (first | exact TV | refine bO ?_ | refine bA ?_ | refine bS ?_ | refine bD ?_ | refine bN ?_))
    have X2 := Lib.hid (show W0.heap[w.heap.size + 1]? = some (.cells #[.slice none 0 0] 37 (0, 0)) by rw [hW]; exact ov_blk XV.out)
    clear hW
    have t0 := T0.size
    have hb2 : w.heap.size ≤ w.heap.size + 1 := by omega
    generalize w.heap.size + 1 = b2 at X2 hb2 ⊢
    have RW := R.below T0
    go_loopw [8, 45] (fun o i wr => ∃ (k : Nat) (A' : Option Addr) (c' : Nat), k ≤ hs.length ∧ i = .int .i64 k ∧ o = .slice A' k c' ∧ Hid ((hs.take k).all (fun g => (FX g).2) = true) ∧ RB W0.heap.size 99 wr A' c' (ms.take k) ∧ Below W0.heap.size W0 wr) (fun _ i _ => hs.length - (intOf i).toNat)
    case atStart => exact ⟨0, some ⟨W0.heap.size, 0, none⟩, 0, Nat.zero_le _, rfl, rfl, Lib.hid rfl, RB.new0 rfl (Nat.le_refl _) rfl, (Below.refl _ _).alloc (Nat.le_refl _) _⟩
    case round =>
      obtain ⟨k, A', c', hk, rfl, rfl, HA, RO, hb⟩ := hrel
      have hbs := hb.size
      have htl : (ms.take k).length = k := by have := HML.out; simp; omega
      have T1 := T0.trans (hb.mono t0)
      have t1 := T1.size
      have X3 := box_below X2 hb
      have hX2 := (Array.getElem?_eq_some_iff.1 X3.out).1
      by_cases hlt : k < hs.length
      · obtain ⟨g0, rfl, hg0, z0, z1, z2⟩ := (RW.below hb).at_ hlt
        have kg := G _ (List.getElem_mem hlt)
        obtain ⟨p1, p2, p3, p4, p5⟩ := pullBd kg M
        have HE := Lib.hid (HMK.out k hlt)
        have HT := Lib.hid (all_take_succ (fun g => (FX g).2) hs k hlt)
        obtain ⟨⟨mm, v⟩, hmb⟩ : ∃ m, FX hs[k] = m := ⟨_, rfl⟩
        have hmb' := hmb
        rw [HF.out] at hmb'
        have HS : Hid (halfOf (hs[k].a * a + hs[k].b * e) (hs[k].a * b + hs[k].b * f) (hs[k].c * q) = (mm, v)) := Lib.hid hmb'
        have HN := Lib.hid (show ms.take (k + 1) = ms.take k ++ [mm] by
          obtain ⟨h1, h2⟩ := List.getElem?_eq_some_iff.1 HE.out
          rw [List.take_succ_eq_append_getElem h1, h2, hmb])
        have HB := Lib.hid (show (FX hs[k]).2 = v by rw [hmb])
        have HX := Lib.hid HE.out
        clear hmb hmb' HE HX
        have OV : wr.ownsRow W0.heap.size 99 3 (.slice A' k c') k (cells3 (ms.take k)) := by unfold RB at RO; rw [htl] at RO; exact RO
        have e0 := (T1.cell (p := ⟨ag, og, none⟩) hga).trans d0
        have e1 := (T1.cell (p := ⟨ag, og + 1, none⟩) hga).trans d1
        have e2 := (T1.cell (p := ⟨ag, og + 2, none⟩) hga).trans d2
        have e3 := (T1.cell (p := ⟨ag, og + 3, none⟩) hga).trans d3
        have hgr : ag < wr.heap.size := by omega
        clear kg d0 d1 d2 d3 hga
        go_wp2
        refine wp_region_rel (RD.pur [] ?s0 :: RD.pur [] ?s1 :: RD.pur [] ?s2 :: RD.pur [] ?s3 :: RD.pur [] ?s4 :: RD.pur [] ?s5 :: RD.pur [] ?s6 :: RD.pur [] ?s7 :: RD.pur [] ?s8 :: RD.pur [] ?s9 :: RD.pur [] ?s10 :: RD.pur [] ?s11 :: RD.pur [] ?s12 :: RD.pur [] ?s13 :: RD.pur [] ?s14 :: RD.pur [] ?s15 :: RD.pur [] ?s16 :: RD.pur [] ?s17 :: RD.pur [] ?s18 :: RD.pur [] ?s19 :: RD.pur [] ?s20 :: RD.pur [] ?s21 :: RD.pur [] ?s22 :: RD.pur [] ?s23 :: RD.pur [] ?s24 :: RD.pur [] ?s25 :: RD.pur [] ?s26 :: RD.pur [] ?s27 :: RD.pur [] ?s28 :: RD.pur [] ?s29 :: RD.pur [] ?s30 :: RD.pur [] ?s31 :: RD.pur [] ?s32 :: RD.pur [] ?s33 :: RD.rel [] [34] false (IsAl 99 3) :: RD.rel [34, 32] [34, 32] true (IsSt 99) :: RD.pur [] ?s36 :: []) _ rfl rfl (by kernel_rfl) (by kernel_rfl) ?hst (fun vs => ?walk)
        case' walk =>
          (refine wpRel_pur rfl rfl (fun x => by ((go_wp2); refine relEnd_pur rfl ?_ (by repeat (first | exact bR | refine bO ?_ | refine bA ?_ | refine bS ?_ | refine bD ?_ | refine bN ?_)); simp only [Act.put, List.setIfInBounds_toArray, List.set_cons_succ, List.set_cons_zero]; rfl)) ?_; simp only [Act.put, List.setIfInBounds_toArray, List.set_cons_succ, List.set_cons_zero])
          (refine wpRel_pur rfl rfl (fun x => by ((go_wp2); refine relEnd_pur rfl ?_ (by repeat (first | exact bR | refine bO ?_ | refine bA ?_ | refine bS ?_ | refine bD ?_ | refine bN ?_)); simp only [Act.put, List.setIfInBounds_toArray, List.set_cons_succ, List.set_cons_zero]; rfl)) ?_; simp only [Act.put, List.setIfInBounds_toArray, List.set_cons_succ, List.set_cons_zero])
          (refine wpRel_pur rfl rfl (fun x => by ((go_wp2); refine relEnd_pur rfl ?_ (by repeat (first | exact bR | refine bO ?_ | refine bA ?_ | refine bS ?_ | refine bD ?_ | refine bN ?_)); simp only [Act.put, List.setIfInBounds_toArray, List.set_cons_succ, List.set_cons_zero]; rfl)) ?_; simp only [Act.put, List.setIfInBounds_toArray, List.set_cons_succ, List.set_cons_zero])
          (refine wpRel_pur rfl rfl (fun x => by ((go_wp2); refine relEnd_pur rfl ?_ (by repeat (first | exact bR | refine bO ?_ | refine bA ?_ | refine bS ?_ | refine bD ?_ | refine bN ?_)); simp only [Act.put, List.setIfInBounds_toArray, List.set_cons_succ, List.set_cons_zero]; rfl)) ?_; simp only [Act.put, List.setIfInBounds_toArray, List.set_cons_succ, List.set_cons_zero])
          (refine wpRel_pur rfl rfl (fun x => by ((go_wp2); refine relEnd_pur rfl ?_ (by repeat (first | exact bR | refine bO ?_ | refine bA ?_ | refine bS ?_ | refine bD ?_ | refine bN ?_)); simp only [Act.put, List.setIfInBounds_toArray, List.set_cons_succ, List.set_cons_zero]; rfl)) ?_; simp only [Act.put, List.setIfInBounds_toArray, List.set_cons_succ, List.set_cons_zero])
          (refine wpRel_pur rfl rfl (fun x => by ((go_wp2); refine relEnd_pur rfl ?_ (by repeat (first | exact bR | refine bO ?_ | refine bA ?_ | refine bS ?_ | refine bD ?_ | refine bN ?_)); simp only [Act.put, List.setIfInBounds_toArray, List.set_cons_succ, List.set_cons_zero]; rfl)) ?_; simp only [Act.put, List.setIfInBounds_toArray, List.set_cons_succ, List.set_cons_zero])
          (refine wpRel_pur rfl rfl (fun x => by ((go_wp2); refine relEnd_pur rfl ?_ (by repeat (first | exact bR | refine bO ?_ | refine bA ?_ | refine bS ?_ | refine bD ?_ | refine bN ?_)); simp only [Act.put, List.setIfInBounds_toArray, List.set_cons_succ, List.set_cons_zero]; rfl)) ?_; simp only [Act.put, List.setIfInBounds_toArray, List.set_cons_succ, List.set_cons_zero])
          (refine wpRel_pur rfl rfl (fun x => by ((go_wp2); refine relEnd_pur rfl ?_ (by repeat (first | exact bR | refine bO ?_ | refine bA ?_ | refine bS ?_ | refine bD ?_ | refine bN ?_)); simp only [Act.put, List.setIfInBounds_toArray, List.set_cons_succ, List.set_cons_zero]; rfl)) ?_; simp only [Act.put, List.setIfInBounds_toArray, List.set_cons_succ, List.set_cons_zero])
          (refine wpRel_pur rfl rfl (fun x => by ((go_wp2); refine relEnd_pur rfl ?_ (by repeat (first | exact bR | refine bO ?_ | refine bA ?_ | refine bS ?_ | refine bD ?_ | refine bN ?_)); simp only [Act.put, List.setIfInBounds_toArray, List.set_cons_succ, List.set_cons_zero]; rfl)) ?_; simp only [Act.put, List.setIfInBounds_toArray, List.set_cons_succ, List.set_cons_zero])
          (refine wpRel_pur rfl rfl (fun x => by ((go_wp2); refine relEnd_pur rfl ?_ (by repeat (first | exact bR | refine bO ?_ | refine bA ?_ | refine bS ?_ | refine bD ?_ | refine bN ?_)); simp only [Act.put, List.setIfInBounds_toArray, List.set_cons_succ, List.set_cons_zero]; rfl)) ?_; simp only [Act.put, List.setIfInBounds_toArray, List.set_cons_succ, List.set_cons_zero])
          (refine wpRel_pur rfl rfl (fun x => by ((go_wp2); refine relEnd_pur rfl ?_ (by repeat (first | exact bR | refine bO ?_ | refine bA ?_ | refine bS ?_ | refine bD ?_ | refine bN ?_)); simp only [Act.put, List.setIfInBounds_toArray, List.set_cons_succ, List.set_cons_zero]; rfl)) ?_; simp only [Act.put, List.setIfInBounds_toArray, List.set_cons_succ, List.set_cons_zero])
          (refine wpRel_pur rfl rfl (fun x => by ((go_wp2); refine relEnd_pur rfl ?_ (by repeat (first | exact bR | refine bO ?_ | refine bA ?_ | refine bS ?_ | refine bD ?_ | refine bN ?_)); simp only [Act.put, List.setIfInBounds_toArray, List.set_cons_succ, List.set_cons_zero]; rfl)) ?_; simp only [Act.put, List.setIfInBounds_toArray, List.set_cons_succ, List.set_cons_zero])
          (refine wpRel_pur rfl rfl (fun x => by ((go_wp2); refine relEnd_pur rfl ?_ (by repeat (first | exact bR | refine bO ?_ | refine bA ?_ | refine bS ?_ | refine bD ?_ | refine bN ?_)); simp only [Act.put, List.setIfInBounds_toArray, List.set_cons_succ, List.set_cons_zero]; rfl)) ?_; simp only [Act.put, List.setIfInBounds_toArray, List.set_cons_succ, List.set_cons_zero])
          (refine wpRel_pur rfl rfl (fun x => by ((go_wp2); refine relEnd_pur rfl ?_ (by repeat (first | exact bR | refine bO ?_ | refine bA ?_ | refine bS ?_ | refine bD ?_ | refine bN ?_)); simp only [Act.put, List.setIfInBounds_toArray, List.set_cons_succ, List.set_cons_zero]; rfl)) ?_; simp only [Act.put, List.setIfInBounds_toArray, List.set_cons_succ, List.set_cons_zero])
          (refine wpRel_pur rfl rfl (fun x => by ((go_wp2); refine relEnd_pur rfl ?_ (by repeat (first | exact bR | refine bO ?_ | refine bA ?_ | refine bS ?_ | refine bD ?_ | refine bN ?_)); simp only [Act.put, List.setIfInBounds_toArray, List.set_cons_succ, List.set_cons_zero]; rfl)) ?_; simp only [Act.put, List.setIfInBounds_toArray, List.set_cons_succ, List.set_cons_zero])
          (refine wpRel_pur rfl rfl (fun x => by ((go_wp2); refine relEnd_pur rfl ?_ (by repeat (first | exact bR | refine bO ?_ | refine bA ?_ | refine bS ?_ | refine bD ?_ | refine bN ?_)); simp only [Act.put, List.setIfInBounds_toArray, List.set_cons_succ, List.set_cons_zero]; rfl)) ?_; simp only [Act.put, List.setIfInBounds_toArray, List.set_cons_succ, List.set_cons_zero])
          (refine wpRel_pur rfl rfl (fun x => by ((go_wp2); refine relEnd_pur rfl ?_ (by repeat (first | exact bR | refine bO ?_ | refine bA ?_ | refine bS ?_ | refine bD ?_ | refine bN ?_)); simp only [Act.put, List.setIfInBounds_toArray, List.set_cons_succ, List.set_cons_zero]; rfl)) ?_; simp only [Act.put, List.setIfInBounds_toArray, List.set_cons_succ, List.set_cons_zero])
          (refine wpRel_pur rfl rfl (fun x => by ((go_wp2); refine relEnd_pur rfl ?_ (by repeat (first | exact bR | refine bO ?_ | refine bA ?_ | refine bS ?_ | refine bD ?_ | refine bN ?_)); simp only [Act.put, List.setIfInBounds_toArray, List.set_cons_succ, List.set_cons_zero]; rfl)) ?_; simp only [Act.put, List.setIfInBounds_toArray, List.set_cons_succ, List.set_cons_zero])
          (refine wpRel_pur rfl rfl (fun x => by ((go_wp2); refine relEnd_pur rfl ?_ (by repeat (first | exact bR | refine bO ?_ | refine bA ?_ | refine bS ?_ | refine bD ?_ | refine bN ?_)); simp only [Act.put, List.setIfInBounds_toArray, List.set_cons_succ, List.set_cons_zero]; rfl)) ?_; simp only [Act.put, List.setIfInBounds_toArray, List.set_cons_succ, List.set_cons_zero])
          (refine wpRel_pur rfl rfl (fun x => by ((go_wp2); refine relEnd_pur rfl ?_ (by repeat (first | exact bR | refine bO ?_ | refine bA ?_ | refine bS ?_ | refine bD ?_ | refine bN ?_)); simp only [Act.put, List.setIfInBounds_toArray, List.set_cons_succ, List.set_cons_zero]; rfl)) ?_; simp only [Act.put, List.setIfInBounds_toArray, List.set_cons_succ, List.set_cons_zero])
          (refine wpRel_pur rfl rfl (fun x => by ((go_wp2); refine relEnd_pur rfl ?_ (by repeat (first | exact bR | refine bO ?_ | refine bA ?_ | refine bS ?_ | refine bD ?_ | refine bN ?_)); simp only [Act.put, List.setIfInBounds_toArray, List.set_cons_succ, List.set_cons_zero]; rfl)) ?_; simp only [Act.put, List.setIfInBounds_toArray, List.set_cons_succ, List.set_cons_zero])
          (refine wpRel_pur rfl rfl (fun x => by ((go_wp2); refine relEnd_pur rfl ?_ (by repeat (first | exact bR | refine bO ?_ | refine bA ?_ | refine bS ?_ | refine bD ?_ | refine bN ?_)); simp only [Act.put, List.setIfInBounds_toArray, List.set_cons_succ, List.set_cons_zero]; rfl)) ?_; simp only [Act.put, List.setIfInBounds_toArray, List.set_cons_succ, List.set_cons_zero])
          (refine wpRel_pur rfl rfl (fun x => by ((go_wp2); refine relEnd_pur rfl ?_ (by repeat (first | exact bR | refine bO ?_ | refine bA ?_ | refine bS ?_ | refine bD ?_ | refine bN ?_)); simp only [Act.put, List.setIfInBounds_toArray, List.set_cons_succ, List.set_cons_zero]; rfl)) ?_; simp only [Act.put, List.setIfInBounds_toArray, List.set_cons_succ, List.set_cons_zero])
          (refine wpRel_pur rfl rfl (fun x => by ((go_wp2); refine relEnd_pur rfl ?_ (by repeat (first | exact bR | refine bO ?_ | refine bA ?_ | refine bS ?_ | refine bD ?_ | refine bN ?_)); simp only [Act.put, List.setIfInBounds_toArray, List.set_cons_succ, List.set_cons_zero]; rfl)) ?_; simp only [Act.put, List.setIfInBounds_toArray, List.set_cons_succ, List.set_cons_zero])
          (refine wpRel_pur rfl rfl (fun x => by ((go_wp2); refine relEnd_pur rfl ?_ (by repeat (first | exact bR | refine bO ?_ | refine bA ?_ | refine bS ?_ | refine bD ?_ | refine bN ?_)); simp only [Act.put, List.setIfInBounds_toArray, List.set_cons_succ, List.set_cons_zero]; rfl)) ?_; simp only [Act.put, List.setIfInBounds_toArray, List.set_cons_succ, List.set_cons_zero])
          (refine wpRel_pur rfl rfl (fun x => by ((go_wp2); refine relEnd_pur rfl ?_ (by repeat (first | exact bR | refine bO ?_ | refine bA ?_ | refine bS ?_ | refine bD ?_ | refine bN ?_)); simp only [Act.put, List.setIfInBounds_toArray, List.set_cons_succ, List.set_cons_zero]; rfl)) ?_; simp only [Act.put, List.setIfInBounds_toArray, List.set_cons_succ, List.set_cons_zero])
          (refine wpRel_pur rfl rfl (fun x => by ((go_wp2); refine relEnd_pur rfl ?_ (by repeat (first | exact bR | refine bO ?_ | refine bA ?_ | refine bS ?_ | refine bD ?_ | refine bN ?_)); simp only [Act.put, List.setIfInBounds_toArray, List.set_cons_succ, List.set_cons_zero]; rfl)) ?_; simp only [Act.put, List.setIfInBounds_toArray, List.set_cons_succ, List.set_cons_zero])
          (refine wpRel_pur rfl rfl (fun x => by ((go_wp2); refine relEnd_pur rfl ?_ (by repeat (first | exact bR | refine bO ?_ | refine bA ?_ | refine bS ?_ | refine bD ?_ | refine bN ?_)); simp only [Act.put, List.setIfInBounds_toArray, List.set_cons_succ, List.set_cons_zero]; rfl)) ?_; simp only [Act.put, List.setIfInBounds_toArray, List.set_cons_succ, List.set_cons_zero])
          (refine wpRel_pur rfl rfl (fun x => by ((go_wp2); refine relEnd_pur rfl ?_ (by repeat (first | exact bR | refine bO ?_ | refine bA ?_ | refine bS ?_ | refine bD ?_ | refine bN ?_)); simp only [Act.put, List.setIfInBounds_toArray, List.set_cons_succ, List.set_cons_zero]; rfl)) ?_; simp only [Act.put, List.setIfInBounds_toArray, List.set_cons_succ, List.set_cons_zero])
          (refine wpRel_pur rfl rfl (fun x => by ((go_wp2); refine relEnd_pur rfl ?_ (by repeat (first | exact bR | refine bO ?_ | refine bA ?_ | refine bS ?_ | refine bD ?_ | refine bN ?_)); simp only [Act.put, List.setIfInBounds_toArray, List.set_cons_succ, List.set_cons_zero]; rfl)) ?_; simp only [Act.put, List.setIfInBounds_toArray, List.set_cons_succ, List.set_cons_zero])
          (refine wpRel_pur rfl rfl (fun x => by ((go_wp2_with (first | (go_at_call 140; refine (calls_ov (spec_HalfOf_eq HS (by omega) (by omega) (by omega))).mono ?_; rintro e w' ⟨rfl, x, rfl⟩))); refine relEnd_pur rfl ?_ (by repeat (first | exact bR | refine bO ?_ | refine bA ?_ | refine bS ?_ | refine bD ?_ | refine bN ?_)); simp only [Act.put, List.setIfInBounds_toArray, List.set_cons_succ, List.set_cons_zero]; rfl)) ?_; simp only [Act.put, List.setIfInBounds_toArray, List.set_cons_succ, List.set_cons_zero])
          (refine wpRel_pur rfl rfl (fun x => by ((go_wp2); refine relEnd_pur rfl ?_ (by repeat (first | exact bR | refine bO ?_ | refine bA ?_ | refine bS ?_ | refine bD ?_ | refine bN ?_)); simp only [Act.put, List.setIfInBounds_toArray, List.set_cons_succ, List.set_cons_zero]; rfl)) ?_; simp only [Act.put, List.setIfInBounds_toArray, List.set_cons_succ, List.set_cons_zero])
          (refine wpRel_pur rfl rfl (fun x => by ((go_wp2); refine relEnd_pur rfl ?_ (by repeat (first | exact bR | refine bO ?_ | refine bA ?_ | refine bS ?_ | refine bD ?_ | refine bN ?_)); simp only [Act.put, List.setIfInBounds_toArray, List.set_cons_succ, List.set_cons_zero]; rfl)) ?_; simp only [Act.put, List.setIfInBounds_toArray, List.set_cons_succ, List.set_cons_zero])
          (refine wpRel_pur rfl rfl (fun x => by ((go_wp2); refine relEnd_pur rfl ?_ (by repeat (first | exact bR | refine bO ?_ | refine bA ?_ | refine bS ?_ | refine bD ?_ | refine bN ?_)); simp only [Act.put, List.setIfInBounds_toArray, List.set_cons_succ, List.set_cons_zero]; rfl)) ?_; simp only [Act.put, List.setIfInBounds_toArray, List.set_cons_succ, List.set_cons_zero])
          refine wpRel_al #[.int .i64 0, .int .i64 0, .int .i64 0] rfl rfl rfl rfl rfl rfl (fun w => by simp [go_sem]) ?_
          simp only [Act.put, List.setIfInBounds_toArray, List.set_cons_succ, List.set_cons_zero]
          refine wpRel_st rfl rfl rfl rfl rfl rfl (by decide) (by decide) rfl rfl (by kernel_rfl) ⟨rfl, by simp [Value.cells, Value.oneCell']⟩ (by repeat (first | exact all_nil | refine all_cons trivial ?_ | refine all_cons isAl_steady ?_ | refine all_cons (isOw_steady (by assumption)) ?_)) ?_
          (refine wpRel_pur rfl rfl (fun x => by ((go_wp2); refine relEnd_pur rfl ?_ (by repeat (first | exact bR | refine bO ?_ | refine bA ?_ | refine bS ?_ | refine bD ?_ | refine bN ?_)); simp only [Act.put, List.setIfInBounds_toArray, List.set_cons_succ, List.set_cons_zero]; rfl)) ?_; simp only [Act.put, List.setIfInBounds_toArray, List.set_cons_succ, List.set_cons_zero])
          refine wpRel_nilB (fun wp hbp0 hh => ?_)
          obtain ⟨nb, en, hnb, hx⟩ := isSt_pur (hh 35) rfl rfl rfl
          simp only [en]
          clear hh en
          have hbp : Below W0.heap.size W0 wp := ((by repeat (first | exact hb | refine bO ?_ | refine bA ?_ | refine bS ?_ | refine bD ?_ | refine bN ?_)) : Below W0.heap.size W0 (wr.alloc (.cells #[.int .i64 hs[k].a, .int .i64 hs[k].b, .int .i64 hs[k].c] 99))).trans (hbp0.mono (by simp; omega))
          have OVp : wp.ownsRow W0.heap.size 99 3 (.slice A' k c') k (cells3 (ms.take k)) := (OV.below' (by repeat (first | exact bR | refine bO ?_ | refine bA ?_ | refine bS ?_ | refine bD ?_ | refine bN ?_))).below' hbp0
          have Tp := T0.trans (hbp.mono t0)
          have X5 := box_below X2 hbp
          have hX5 := (Array.getElem?_eq_some_iff.1 X5.out).1
          have y0 := cell_blk (j := 0) (v := .int .i64 mm.a) hx rfl
          have y1 := cell_blk (j := 1) (v := .int .i64 mm.b) hx rfl
          have y2 := cell_blk (j := 2) (v := .int .i64 mm.c) hx rfl
          have hlb := (Array.getElem?_eq_some_iff.1 hx).1
          have hbps := hbp.size
          clear hx vs hbp0 hnb hb z0 z1 z2 e0 e1 e2 e3 OV X3 hX2 T1 RO
          cases v with
          | true =>
            go_wp2_with (at_builtin; refine wpList_append_own _ rfl _ _ 35 rfl W0.heap.size 99 i0 (.agg #[.int .i64 0, .int .i64 0, .int .i64 0]) 3 24 Tryz.underlying35 hi hz0 hz1 hz2 rfl (by decide) _ _ _ rfl (OVp.below' (by repeat (first | exact bR | refine bO ?_ | refine bA ?_ | refine bS ?_ | refine bD ?_ | refine bN ?_))) ⟨_, 0, none⟩ 1 1 (cells3 [mm]) rfl rfl (news_at (heap_new_at (by simp) rfl)) (cells3_one _) (by unfold maxLen; omega) (by omega) (by simp [ov_size]; omega) ?_; intro v2 w2 O2 hg2 _; obtain ⟨A5, c5, rfl, RO5⟩ := own_slice2 HN.out htl O2; have HG := Lib.hid hg2; clear hg2 O2)
            go_roundw
            case rel => exact ⟨k + 1, A5, c5, by omega, by go_num, by go_num, Lib.hid (by rw [HT.out, HA.out, HB.out]; rfl), RO5, grown_below (B := W0.heap.size) (by repeat (first | exact hbp | refine bO ?_ | refine bA ?_ | refine bS ?_ | refine bD ?_ | refine bN ?_)) HG.out (fun k' hk' => (OVp.lt k' hk').1) (Nat.le_refl _)⟩
            case measure => simp [intOf] <;> omega
          | false =>
            have hr0 := HM.out
            have hne : hs ≠ [] := fun e => by rw [e] at hlt; cases hlt
            have hal : hs.all (fun g => (FX g).2) = false := by
              rw [List.all_eq_false]
              exact ⟨hs[k], List.getElem_mem hlt, by rw [HB.out]; simp⟩
            rw [if_neg hne, if_neg (by rw [hal]; simp)] at hr0
            simp at hr0
            obtain ⟨rfl, rfl⟩ := hr0
            clear hal hne
            have x2 := cell_blk (j := 0) (v := .slice none 0 0) X5.out rfl
            have f2 := frozen_blk (j := 0) X5.out
            go_wp2
            refine bodyPost_ret (v := .tuple #[.agg #[.slice none 0 0], .bool false]) (by simp [results, Tryz.results82, go_sem, x2, hX5]) rfl ⟨none, 0, rfl, RB.nil _ _ _, ?_⟩
            exact (by repeat (first | exact Tp | refine bO ?_ | refine bA ?_ | refine bS ?_ | refine bD ?_ | refine bN ?_))
        case' hst => exact (by repeat (first | exact all_nil | refine all_cons trivial ?_ | refine all_cons isAl_stable ?_ | refine all_cons isSt_stable ?_ | refine all_cons isStB_stable ?_ | refine all_cons (isOw_stable (by assumption)) ?_))
      · obtain rfl : k = hs.length := by omega
        have hfull : ms.take hs.length = ms := by rw [← HML.out, List.take_length]
        rw [hfull] at RO
        have hal := HA.out
        rw [List.take_length] at hal
        have HL := HML.out
        by_cases h0 : hs.length = 0
        · have hr0 := HM.out
          rw [if_pos (List.length_eq_zero_iff.1 h0)] at hr0
          simp at hr0
          obtain ⟨rfl, rfl⟩ := hr0
          have hz : ((hs.length : Int) == 0) = true := by rw [h0]; rfl
          have x2 := cell_blk (j := 0) (v := .slice none 0 0) X3.out rfl
          have f2 := frozen_blk (j := 0) X3.out
          clear h0 HL hal
          go_wp2
          refine bodyPost_ret (v := .tuple #[.agg #[.slice none 0 0], .bool true]) (by simp [results, Tryz.results82, go_sem, x2, hX2]) rfl ⟨none, 0, rfl, RB.nil _ _ _, ?_⟩
          exact (by repeat (first | exact T1 | refine bO ?_ | refine bA ?_ | refine bS ?_ | refine bD ?_ | refine bN ?_))
        · have hr0 := HM.out
          rw [if_neg (fun e => h0 (by rw [e]; rfl)), if_pos hal] at hr0
          have HM2 := Lib.hid hr0
          have GM : ∀ g ∈ ms, HOk g := fun g hg => by
            rw [← HMS.out] at hg
            obtain ⟨y, hy, rfl⟩ := List.mem_map.1 hg
            have h2 := List.all_eq_true.1 hal y hy
            rw [HF.out] at h2 ⊢
            exact halfOf_ok rfl h2
          have hz : ((hs.length : Int) == 0) = false := beq_eq_false_iff_ne.2 (by omega)
          have hz' : ¬ ((hs.length : Int) = 0) := by omega
          clear hr0 hal
          go_wp2_with fail
          refine (l05Fit_eqn (n := hs.length) HL GM RO.r3 (by omega) HM2).mono ?_
          rintro en w2 ⟨A2', c2', rfl, R2', hb2'⟩
          have T2 : Below w.heap.size w w2 := T1.trans (hb2'.mono T1.size)
          have X4 := box_below X3 hb2'
          have HR1 := R2'.weak (B' := w.heap.size) T1.size
          clear X3 X2 hb2' R2' RO hX2
          have x2 := cell_blk (j := 0) (v := .slice none 0 0) X4.out rfl
          have f2 := frozen_blk (j := 0) X4.out
          have l2 := (Array.getElem?_eq_some_iff.1 X4.out).1
          go_wp2
          refine bodyPost_ret (v := .tuple #[.agg #[.slice A2' out.length c2'], .bool ok]) (by simp [results, Tryz.results82, go_sem, x2, l2]) rfl ⟨A2', c2', rfl, HR1.set_box X4.out (by decide), T2.setCell (show w.heap.size ≤ b2 from hb2) _⟩
  · rw [if_neg hall] at hr'
    simp at hr'
    obtain ⟨rfl, rfl⟩ := hr'
    cases rk with
    | false =>
      clear hall hrk htk
      go_enter Tryz.func82, Tryz.ntmps82
      go_wp2
      ((first | (with_reducible refine wp_region_calm2 (by kernel_rfl) (by kernel_rfl) ?_) | refine wp_region_calm (by kernel_rfl) (by kernel_rfl) ?_); (repeat (go_big_quiet_step (first | first | (go_at_call 56; exact calm_below (spec_RegionOk_eq (by exact R.below (by repeat (first | exact bR | refine bO ?_ | refine bA ?_ | refine bS ?_ | refine bD ?_ | refine bN ?_))) hl HRK))))); refine wpQuiet_nil ?_; rintro _ ⟨y, rfl⟩)
      go_wp2
      refine bodyPost_ret (v := .tuple #[.agg #[.slice none 0 0], .bool false]) (by simp [results, Tryz.results82, go_sem]) rfl ⟨none, 0, rfl, RB.nil _ _ _, (by repeat (first | exact bR | refine bO ?_ | refine bA ?_ | refine bS ?_ | refine bD ?_ | refine bN ?_))⟩
    | true =>
      have htf : turnOk m q = false := by rw [htk]; simpa using hall
      clear hall hrk htk
      cases hmk : mapOk m q with
      | false =>
        have HMP := Lib.hid hmk
        clear hmk htf
        go_enter Tryz.func82, Tryz.ntmps82
        go_wp2
        ((first | (with_reducible refine wp_region_calm2 (by kernel_rfl) (by kernel_rfl) ?_) | refine wp_region_calm (by kernel_rfl) (by kernel_rfl) ?_); (repeat (go_big_quiet_step (first | first | (go_at_call 56; exact calm_below (spec_RegionOk_eq (by exact R.below (by repeat (first | exact bR | refine bO ?_ | refine bA ?_ | refine bS ?_ | refine bD ?_ | refine bN ?_))) hl HRK)) | (go_at_call 121; exact calm_below (l07Matrix_eq (by exact RM.below (by repeat (first | exact bR | refine bO ?_ | refine bA ?_ | refine bS ?_ | refine bD ?_ | refine bN ?_))) (by omega) HMP))))); refine wpQuiet_nil ?_; rintro _ ⟨y, rfl⟩)
        go_wp2
        refine bodyPost_ret (v := .tuple #[.agg #[.slice none 0 0], .bool false]) (by simp [results, Tryz.results82, go_sem]) rfl ⟨none, 0, rfl, RB.nil _ _ _, (by repeat (first | exact bR | refine bO ?_ | refine bA ?_ | refine bS ?_ | refine bD ?_ | refine bN ?_))⟩
      | true =>
        obtain ⟨a, b, e, f, rfl, M⟩ := mapOk_parts hmk
        have HMP := Lib.hid hmk
        have q1 := mul_bd M.ba M.bf
        have q2 := mul_bd M.bb M.be
        have hd : (a * f - b * e == 0) = true := by
          unfold turnOk at htf
          rw [hmk, Bool.true_and] at htf
          have h2 : (a * f - b * e != 0) = false := htf
          simpa using h2
        obtain ⟨ag, og, rfl, hga, d0, d1, d2, d3⟩ := RM.four
        clear hmk htf
        go_enter Tryz.func82, Tryz.ntmps82
        go_wp2
        obtain ⟨V, hV⟩ : ∃ V, (w.alloc (.cells #[.slice A hs.length c] 37)).alloc (.cells #[.slice none 0 0] 37) = V := ⟨_, rfl⟩
        rw [hV]
        have TV : Below w.heap.size w V := by rw [← hV]; exact (by repeat (first | exact bR | refine bO ?_ | refine bA ?_ | refine bS ?_ | refine bD ?_ | refine bN ?_))
        have XV := Lib.hid (show V.heap[w.heap.size + 1]? = some (.cells #[.slice none 0 0] 37 (0, 0)) by rw [← hV]; exact heap_new_at (by simp) rfl)
        have X0 : V.heap[w.heap.size]? = some (.cells #[.slice A hs.length c] 37 (0, 0)) := by rw [← hV]; exact (heap_old_at (by simp)).trans (heap_new_at (by simp) rfl)
        have x0 := cell_blk (j := 0) (v := .slice A hs.length c) X0 rfl
        have x0l := (Array.getElem?_eq_some_iff.1 X0).1
        have RV := R.below TV
        have RMV := RM.below TV
        have g0 := (TV.cell (p := ⟨ag, og, none⟩) hga).trans d0
        have g1 := (TV.cell (p := ⟨ag, og + 1, none⟩) hga).trans d1
        have g2 := (TV.cell (p := ⟨ag, og + 2, none⟩) hga).trans d2
        have g3 := (TV.cell (p := ⟨ag, og + 3, none⟩) hga).trans d3
        have hgv : ag < V.heap.size := by have := TV.size; omega
        clear hV X0
        ((first | (with_reducible refine wp_region_calm2 (by kernel_rfl) (by kernel_rfl) ?_) | refine wp_region_calm (by kernel_rfl) (by kernel_rfl) ?_); (repeat (go_big_quiet_step (first | first | (go_at_call 56; exact calm_below (spec_RegionOk_eq (by exact RV.below (by repeat (first | exact bR | refine bO ?_ | refine bA ?_ | refine bS ?_ | refine bD ?_ | refine bN ?_))) hl HRK)) | (go_at_call 121; exact calm_below (l07Matrix_eq (m := [a, b, e, f]) (by exact RMV.below (by repeat (first | exact bR | refine bO ?_ | refine bA ?_ | refine bS ?_ | refine bD ?_ | refine bN ?_))) (by simp) HMP))))); refine wpQuiet_nil ?_; rintro _ ⟨y, rfl⟩)
        have xv2 := cell_blk (j := 0) (v := .slice none 0 0) XV.out rfl
        have fv2 := frozen_blk (j := 0) XV.out
        have lv2 := (Array.getElem?_eq_some_iff.1 XV.out).1
        go_wp2
        refine bodyPost_ret (v := .tuple #[.agg #[.slice none 0 0], .bool false]) (by simp [results, Tryz.results82, go_sem, xv2, fv2, lv2]) rfl ⟨none, 0, rfl, RB.nil _ _ _, ?_⟩
        exact (by repeat (first | exact TV | refine bO ?_ | refine bA ?_ | refine bS ?_ | refine bD ?_ | refine bN ?_))
end Go.Proofs.YtgdleimdenbnlaaGreat
