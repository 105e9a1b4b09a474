/- Contracts of sideHalves, grow and GrowAlong of the program. No condition but that the arguments are ints. -/
import Derived.Test.YtabmfaamadbefaaGreatGp
import Derived.Test.YtabmfaamadbefaaGreatSv
import Derived.Test.YtabmfaamadbefaaGreatLq
import Derived.Test.YtabmfaamadbefaaGreatRd
set_option linter.unusedSimpArgs false
set_option linter.unusedVariables false
set_option linter.unusedSectionVars false
namespace Go.Proofs.YtabmfaamadbefaaGreat
open Go.RowKit
def SidePost (w : World) (l : List H3) (v : Bool) (e : Ending) (w' : World) : Prop := ∃ A c, e = .returned (.tuple #[.slice A l.length c, .bool v]) ∧ RB w.heap.size 44 w' A c l ∧ Below w.heap.size w w'
theorem pair_row {w : World} {B b : Nat} {h k : H3} {cs : Array Value} (hB : B ≤ b) (hb : w.heap[b]? = some (.cells cs 44 (0, 0))) (hc : cs = #[.int .i64 h.a, .int .i64 h.b, .int .i64 h.c, .int .i64 k.a, .int .i64 k.b, .int .i64 k.c]) : RB B 44 w (some ⟨b, 0, none⟩) 2 [h, k] := by
  subst hc
  exact ⟨rfl, .inr ⟨b, 2, _, rfl, hB, hb, by simp, by decide, rfl, by simp [cells3]⟩⟩

set_option maxRecDepth 100000 in
set_option maxHeartbeats 8000000 in
theorem sideHalves_eq {ps : List H3} {bx bY : Int} {h k : H3} {v1 v2 : Bool} {A : Option Addr} {c : Nat} {w : World} (kp : regionOk ps = true) (hne : ps ≠ []) (R : R3 44 w A c ps) (hx : -100 ≤ bx ∧ bx ≤ 100) (hy : -100 ≤ bY ∧ bY ≤ 100) (h0 : ¬ (bx = 0 ∧ bY = 0))
    (e1 : Hid (sideF ps (dirA bx bY) (dirB bx bY) = (h, v1))) (e2 : Hid (sideF ps (-dirA bx bY) (-dirB bx bY) = (k, v2))) :
    Calls Tryz.prog 119 #[.agg #[.slice A ps.length c], .int .i64 bx, .int .i64 bY] w (SidePost w [h, k] (v1 && v2)) := by
  obtain ⟨g, a, b, eg, g0, g1, ea, eb, da, db, ba, bb, hz⟩ := dir_bd hx hy h0
  rw [da, db] at e1 e2
  obtain ⟨⟨p1, q1⟩, s1⟩ : ∃ s, supN a b ps = s := ⟨_, rfl⟩
  obtain ⟨⟨p2, q2⟩, s2⟩ : ∃ s, supN (-a) (-b) ps = s := ⟨_, rfl⟩
  have E1 : Hid (halfOf (a * q1) (b * q1) p1 = (h, v1)) := by have := e1.out; unfold sideF at this; rw [s1] at this; exact Lib.hid this
  have E2 : Hid (halfOf (-a * q2) (-b * q2) p2 = (k, v2)) := by have := e2.out; unfold sideF at this; rw [s2] at this; exact Lib.hid this
  obtain ⟨_, hq1, hp1⟩ := sup_fr kp hne (by omega) (by omega) s1
  obtain ⟨_, hq2, hp2⟩ := sup_fr kp hne (by omega) (by omega) s2
  have HS1 := Lib.hid (fun W (R : R3 44 W A c ps) => support_eq kp (show -50000 ≤ a ∧ a ≤ 50000 by omega) (show -50000 ≤ b ∧ b ≤ 50000 by omega) hne R (Lib.hid s1))
  have HS2 := Lib.hid (fun W (R : R3 44 W A c ps) => support_eq kp (show -50000 ≤ -a ∧ -a ≤ 50000 by omega) (show -50000 ≤ -b ∧ -b ≤ 50000 by omega) hne R (Lib.hid s2))
  have t1 : (-bY).tdiv (g : Int) = a := tdiv_exact g0 ea
  have t2 : bx.tdiv (g : Int) = b := tdiv_exact g0 eb
  have gz : ((g : Int) == 0) = false := by simp; omega
  have m1 := mul_bd (x := a) (y := q1) (A := 100) (B := 5000000000) ba (by omega)
  have m2 := mul_bd (x := b) (y := q1) (A := 100) (B := 5000000000) bb (by omega)
  have m3 := mul_bd (x := -a) (y := q2) (A := 100) (B := 5000000000) (by omega) (by omega)
  have m4 := mul_bd (x := -b) (y := q2) (A := 100) (B := 5000000000) (by omega) (by omega)
  have hw1 : IntKind.i64.wrap (g : Int) = (g : Int) := by rw [IntKind.wrap_i64]; omega
  clear e1 e2 s1 s2 kp hne ea eb da db hz
  go_enter Tryz.func119, Tryz.ntmps119
  go_wp2_with (first | (go_at_call 70; refine (gcd2_eq eg (by simp) (by omega) (by omega)).mono ?_; rintro e w' ⟨rfl, n, rfl⟩))
  ((first | (with_reducible refine wp_region_calm2 (by kernel_rfl) (by kernel_rfl) ?_) | refine wp_region_calm (by kernel_rfl) (by kernel_rfl) ?_); (repeat (go_big_quiet_step (first | fail))); refine wpQuiet_nil ?_; rintro _ ⟨y, rfl⟩)
  go_wp2
  obtain ⟨W0, hW⟩ : ∃ W0, W0 = ov (((w.alloc (.cells #[.slice A ps.length c] 26)).alloc (.cells #[.int .i64 bx, .int .i64 bY] 3)).drewN n) y := ⟨_, rfl⟩
  rw [← hW]
  have T0 : Below w.heap.size w W0 := by rw [hW]; exact (by repeat (first | exact bR | refine bO ?_ | refine bA ?_ | refine bS ?_ | refine bD ?_ | refine bN ?_))
  have X0 := box_below (W := w.alloc (.cells #[.slice A ps.length c] 26)) (Lib.hid (heap_alloc_new _ _)) (show Below (w.alloc (.cells #[.slice A ps.length c] 26)).heap.size (w.alloc (.cells #[.slice A ps.length c] 26)) W0 by rw [hW]; exact (by repeat (first | exact bR | refine bO ?_ | refine bA ?_ | refine bS ?_ | refine bD ?_ | refine bN ?_)))
  clear hW
  have RW := R.below T0
  have t0 := T0.size
  obtain ⟨b0, e0⟩ : ∃ b, w.heap.size = b := ⟨_, rfl⟩
  rw [e0] at X0 ⊢
  have x0 := cell_blk (j := 0) (v := .slice A ps.length c) X0.out rfl
  have l0 := (Array.getElem?_eq_some_iff.1 X0.out).1
  refine wp_region_relD [10, 11] [.pur [] ?s0, .pur [] ?s1, .pur [] ?s2, .pur [] ?s3, .pur [] ?s4, .pur [] ?s5, .pur [] ?s6, .pur [] ?s7, .pur [] ?s8, .pur [] ?s9, .rel [] [10] false (IsAl 54 2), .rel [] [11] false (IsAl 54 2), .rel [10, 3] [10, 3] true (IsSt 54), .rel [11, 9] [11, 9] true (IsSt 54)] ?hAL _ rfl rfl (by kernel_rfl) (by kernel_rfl) ?hst (fun vs hv => ?walk)
  case' walk =>
    (refine wpRelD_pur rfl rfl (fun x => by ((go_wp2); refine gEnd_pur rfl (by decide) ?_ (by repeat (first | exact bR | refine bO ?_ | refine bA ?_ | refine bS ?_ | refine bD ?_ | refine bN ?_)); simp only [Act.put, List.setIfInBounds_toArray, List.set_cons_succ, List.set_cons_zero]; rfl)) ?_; simp only [Act.put, List.setIfInBounds_toArray, List.set_cons_succ, List.set_cons_zero])
    (refine wpRelD_pur rfl rfl (fun x => by ((go_wp2); refine gEnd_pur rfl (by decide) ?_ (by repeat (first | exact bR | refine bO ?_ | refine bA ?_ | refine bS ?_ | refine bD ?_ | refine bN ?_)); simp only [Act.put, List.setIfInBounds_toArray, List.set_cons_succ, List.set_cons_zero]; rfl)) ?_; simp only [Act.put, List.setIfInBounds_toArray, List.set_cons_succ, List.set_cons_zero])
    (refine wpRelD_pur rfl rfl (fun x => by ((go_wp2); refine gEnd_pur rfl (by decide) ?_ (by repeat (first | exact bR | refine bO ?_ | refine bA ?_ | refine bS ?_ | refine bD ?_ | refine bN ?_)); simp only [Act.put, List.setIfInBounds_toArray, List.set_cons_succ, List.set_cons_zero]; rfl)) ?_; simp only [Act.put, List.setIfInBounds_toArray, List.set_cons_succ, List.set_cons_zero])
    (refine wpRelD_pur rfl rfl (fun x => by ((go_wp2_with (first | (go_at_call 63; refine (calls_ov (HS1.out _ (RW.below (by repeat (first | exact bR | refine bO ?_ | refine bA ?_ | refine bS ?_ | refine bD ?_ | refine bN ?_))))).mono ?_; rintro e w' ⟨rfl, x, rfl⟩))); refine gEnd_pur rfl (by decide) ?_ (by repeat (first | exact bR | refine bO ?_ | refine bA ?_ | refine bS ?_ | refine bD ?_ | refine bN ?_)); simp only [Act.put, List.setIfInBounds_toArray, List.set_cons_succ, List.set_cons_zero]; rfl)) ?_; simp only [Act.put, List.setIfInBounds_toArray, List.set_cons_succ, List.set_cons_zero])
    (refine wpRelD_pur rfl rfl (fun x => by ((go_wp2); refine gEnd_pur rfl (by decide) ?_ (by repeat (first | exact bR | refine bO ?_ | refine bA ?_ | refine bS ?_ | refine bD ?_ | refine bN ?_)); simp only [Act.put, List.setIfInBounds_toArray, List.set_cons_succ, List.set_cons_zero]; rfl)) ?_; simp only [Act.put, List.setIfInBounds_toArray, List.set_cons_succ, List.set_cons_zero])
    (refine wpRelD_pur rfl rfl (fun x => by ((go_wp2); refine gEnd_pur rfl (by decide) ?_ (by repeat (first | exact bR | refine bO ?_ | refine bA ?_ | refine bS ?_ | refine bD ?_ | refine bN ?_)); simp only [Act.put, List.setIfInBounds_toArray, List.set_cons_succ, List.set_cons_zero]; rfl)) ?_; simp only [Act.put, List.setIfInBounds_toArray, List.set_cons_succ, List.set_cons_zero])
    (refine wpRelD_pur rfl rfl (fun x => by ((go_wp2); refine gEnd_pur rfl (by decide) ?_ (by repeat (first | exact bR | refine bO ?_ | refine bA ?_ | refine bS ?_ | refine bD ?_ | refine bN ?_)); simp only [Act.put, List.setIfInBounds_toArray, List.set_cons_succ, List.set_cons_zero]; rfl)) ?_; simp only [Act.put, List.setIfInBounds_toArray, List.set_cons_succ, List.set_cons_zero])
    (refine wpRelD_pur rfl rfl (fun x => by ((go_wp2); refine gEnd_pur rfl (by decide) ?_ (by repeat (first | exact bR | refine bO ?_ | refine bA ?_ | refine bS ?_ | refine bD ?_ | refine bN ?_)); simp only [Act.put, List.setIfInBounds_toArray, List.set_cons_succ, List.set_cons_zero]; rfl)) ?_; simp only [Act.put, List.setIfInBounds_toArray, List.set_cons_succ, List.set_cons_zero])
    (refine wpRelD_pur rfl rfl (fun x => by ((go_wp2); refine gEnd_pur rfl (by decide) ?_ (by repeat (first | exact bR | refine bO ?_ | refine bA ?_ | refine bS ?_ | refine bD ?_ | refine bN ?_)); simp only [Act.put, List.setIfInBounds_toArray, List.set_cons_succ, List.set_cons_zero]; rfl)) ?_; simp only [Act.put, List.setIfInBounds_toArray, List.set_cons_succ, List.set_cons_zero])
    (refine wpRelD_pur rfl rfl (fun x => by ((go_wp2_with (first | (go_at_call 63; refine (calls_ov (HS2.out _ (RW.below (by repeat (first | exact bR | refine bO ?_ | refine bA ?_ | refine bS ?_ | refine bD ?_ | refine bN ?_))))).mono ?_; rintro e w' ⟨rfl, x, rfl⟩))); refine gEnd_pur rfl (by decide) ?_ (by repeat (first | exact bR | refine bO ?_ | refine bA ?_ | refine bS ?_ | refine bD ?_ | refine bN ?_)); simp only [Act.put, List.setIfInBounds_toArray, List.set_cons_succ, List.set_cons_zero]; rfl)) ?_; simp only [Act.put, List.setIfInBounds_toArray, List.set_cons_succ, List.set_cons_zero])
    refine wpRelD_al #[.int .i64 0, .int .i64 0] rfl rfl rfl rfl rfl rfl (fun w => by simp [go_sem]) ?_
    simp only [Act.put, List.setIfInBounds_toArray, List.set_cons_succ, List.set_cons_zero]
    refine wpRelD_al #[.int .i64 0, .int .i64 0] rfl rfl rfl rfl rfl rfl (fun w => by simp [go_sem]) ?_
    simp only [Act.put, List.setIfInBounds_toArray, List.set_cons_succ, List.set_cons_zero]
    refine wpRelD_st hv (by decide) (by intro j hj; simp at hj; rcases hj with rfl | rfl <;> exact ⟨_, _, _, _, rfl⟩) rfl rfl rfl rfl rfl rfl (by decide) (by decide) (by decide) rfl rfl (by kernel_rfl) ⟨rfl, by simp [Value.cells, Value.oneCell']⟩ (by repeat (first | exact all_nil | refine all_cons (.inl trivial) ?_ | refine all_cons (.inl isAl_steady) ?_ | refine all_cons (.inr ⟨_, _, _, rfl, by decide, by decide⟩) ?_)) ?_
    refine wpRelD_st hv (by decide) (by intro j hj; simp at hj; rcases hj with rfl | rfl <;> exact ⟨_, _, _, _, rfl⟩) rfl rfl rfl rfl rfl rfl (by decide) (by decide) (by decide) rfl rfl (by kernel_rfl) ⟨rfl, by simp [Value.cells, Value.oneCell']⟩ (by repeat (first | exact all_nil | refine all_cons (.inl trivial) ?_ | refine all_cons (.inl isAl_steady) ?_ | refine all_cons (.inr ⟨_, _, _, rfl, by decide, by decide⟩) ?_)) ?_
    refine wpRelD_nilB0 (fun W K hh => ?_)
    obtain ⟨bl, el, _, xl⟩ := isSt_pur (hh 12) rfl rfl rfl
    obtain ⟨br, er, _, xr⟩ := isSt_pur (hh 13) rfl rfl rfl
    simp only [el, er]
    have yl0 := cell_blk (j := 0) (v := .int .i64 p1) xl rfl
    have yl1 := cell_blk (j := 1) (v := .int .i64 q1) xl rfl
    have yr0 := cell_blk (j := 0) (v := .int .i64 p2) xr rfl
    have yr1 := cell_blk (j := 1) (v := .int .i64 q2) xr rfl
    have ll := (Array.getElem?_eq_some_iff.1 xl).1
    have lr := (Array.getElem?_eq_some_iff.1 xr).1
    have T1 : Below w.heap.size w W := T0.trans (K.mono t0)
    have t1 := T1.size
    clear hh el er xl xr K x0 l0 hv
    cases v1 <;> cases v2
    all_goals
      go_wp2_with (first | (go_at_call 101; (first | (with_reducible refine (calls_ov2 (impl_HalfOf_eq (by first | exact E1 | exact E2) (by omega) (by omega) (by omega))).mono ?_) | refine (calls_ov (impl_HalfOf_eq (by first | exact E1 | exact E2) (by omega) (by omega) (by omega))).mono ?_); rintro e w' ⟨rfl, x, rfl⟩))
      go_ret2
      exact ⟨_, _, rfl, pair_row (by simp [ov_size] <;> omega) (heap_new_at (by simp [ov_size] <;> omega) rfl) rfl, (by repeat (first | exact T1 | refine bO ?_ | refine bA ?_ | refine bS ?_ | refine bD ?_ | refine bN ?_))⟩
  case' hst => exact (by repeat (first | exact all_nil | refine all_cons trivial ?_ | refine all_cons isAl_stable ?_ | refine all_cons isSt_stable ?_ | refine all_cons isStB_stable ?_ | refine all_cons (isOw_stable (by assumption)) ?_))
  case' hAL => exact by intro j hj; simp at hj; rcases hj with rfl | rfl <;> exact ⟨_, _, _, _, rfl⟩

theorem max_of {a b : Int} : (a < b ∧ max a b = b) ∨ (¬ a < b ∧ max a b = a) := by omega
theorem snoc_take {F : H3 → H3 × Bool} {pre ps : List H3} {k : Nat} {m : H3} {b : Bool} (hk : k < ps.length) (h : F ps[k] = (m, b)) : pre ++ (ps.map fun g => (F g).1).take (k + 1) = pre ++ (ps.map fun g => (F g).1).take k ++ [m] := by
  rw [List.take_succ_eq_append_getElem (by simpa using hk), List.getElem_map, h, List.append_assoc]

set_option maxRecDepth 100000 in
set_option maxHeartbeats 8000000 in
theorem grow_eq {ps out : List H3} {bx bY lo hi : Int} {ok : Bool} {A : Option Addr} {c : Nat} {w : World} (kp : regionOk ps = true) (hl : ps.length ≤ 38) (R : R3 44 w A c ps) (B : GrowBd bx bY lo hi) (hr : Hid (growM ps bx bY lo hi = (out, ok))) :
    Calls Tryz.prog 89 #[.agg #[.slice A ps.length c], .int .i64 bx, .int .i64 bY, .int .i64 lo, .int .i64 hi] w (RegPost w out ok) := by
  obtain ⟨i0, hi0, hz0, hz1, hz2⟩ := info_parts info_half
  have hr' := hr.out
  unfold growM at hr'
  clear hr
  obtain ⟨v0, hv0⟩ : ∃ v, decide (ps.length = 0) = v := ⟨_, rfl⟩
  have HV := Lib.hid hv0
  by_cases h0 : ps = [] ∨ (bx = 0 ∧ bY = 0)
  · rw [if_pos h0] at hr'
    simp at hr'
    obtain ⟨rfl, rfl⟩ := hr'
    have hc : v0 = true ∨ (v0 = false ∧ 0 < ps.length ∧ bx = 0 ∧ bY = 0) := by
      rw [← hv0]
      by_cases e : ps.length = 0
      · exact .inl (by simp [e])
      · rcases h0 with h0 | h0
        · exact absurd (by rw [h0]; rfl) e
        · exact .inr ⟨by simp [e], by omega, h0⟩
    clear hv0 h0
    rcases hc with rfl | ⟨rfl, hp0, rfl, rfl⟩
    all_goals
      go_enter Tryz.func89, Tryz.ntmps89
      go_wp2_with (first | (go_at_call 20; (first | (with_reducible refine (calls_ov2 (IsVoid_eq HV)).mono ?_) | refine (calls_ov (IsVoid_eq HV)).mono ?_); rintro e w' ⟨rfl, x, rfl⟩))
      refine (copyRegion_eq (R.below (by repeat (first | exact bR | refine bO ?_ | refine bA ?_ | refine bS ?_ | refine bD ?_ | refine bN ?_))) (by omega)).mono ?_
      rintro e w1 ⟨A1, c1, rfl, R1, hb1⟩
      have hbw : Below w.heap.size w w1 := Below.trans (by repeat (first | exact bR | refine bO ?_ | refine bA ?_ | refine bS ?_ | refine bD ?_ | refine bN ?_)) (hb1.mono (by simp [ov_size]; omega))
      have HX := Lib.hid ((hb1.block (w.heap.size + 1) (by simp [ov_size]; omega)).trans (ov_blk (heap_new_at (r := some (.cells #[.slice none 0 0] 26 (0, 0))) (by simp) rfl)))
      have HR1 := R1.weak (B' := w.heap.size) (by simp [ov_size]; omega)
      clear R1 hb1
      have hb2 : w.heap.size ≤ w.heap.size + 1 := by omega
      generalize w.heap.size + 1 = b4 at HX hb2 ⊢
      have x2 := cell_blk (j := 0) (v := .slice none 0 0) HX.out rfl
      have f2 := frozen_blk (j := 0) HX.out
      have l2 := (Array.getElem?_eq_some_iff.1 HX.out).1
      go_wp2
      refine bodyPost_ret (v := .tuple #[.agg #[.slice A1 ps.length c1], .bool true]) (by simp [results, Tryz.results89, go_sem, x2, l2]) rfl ⟨A1, c1, rfl, HR1.set_box HX.out (by decide), hbw.setCell (show w.heap.size ≤ b4 from hb2) _⟩
  · have hne : ps ≠ [] := fun e => h0 (.inl e)
    have hb0 : ¬ (bx = 0 ∧ bY = 0) := fun e => h0 (.inr e)
    rw [if_neg h0] at hr'
    obtain rfl : v0 = false := by rw [← hv0]; simp [hne]
    obtain ⟨⟨h, v1⟩, e1⟩ : ∃ s, sideF ps (dirA bx bY) (dirB bx bY) = s := ⟨_, rfl⟩
    obtain ⟨⟨k2, v2⟩, e2⟩ : ∃ s, sideF ps (-dirA bx bY) (-dirB bx bY) = s := ⟨_, rfl⟩
    rw [e1, e2] at hr'
    simp only at hr'
    have hs1 : v1 = true → HOk h := fun e => halfOf_ok (v := v1) (by unfold sideF at e1; exact e1) e
    have hs2 : v2 = true → HOk k2 := fun e => halfOf_ok (v := v2) (by unfold sideF at e2; exact e2) e
    have E1 := Lib.hid e1
    have E2 := Lib.hid e2
    have HH1 := Lib.hid hs1
    have HH2 := Lib.hid hs2
    clear e1 e2 hs1 hs2 h0 hv0
    have hby := B.bx
    have hbz := B.bY
    have hlo := B.lo
    have hhi := B.hi
    have hz : ((bx == 0) = true ∧ (bY == 0) = false) ∨ (bx == 0) = false := by
      by_cases e : bx = 0
      · exact .inl ⟨by simp [e], by simp; exact fun e2 => hb0 ⟨e, e2⟩⟩
      · exact .inr (by simp [e])
    have GP : ∀ g ∈ ps, HOk g := (regionOk_parts kp hne).1
    have hp0 : 0 < ps.length := List.length_pos_iff.2 hne
    obtain ⟨FX, hFX⟩ : ∃ FX, FX = growF bx bY lo hi := ⟨_, rfl⟩
    rw [← hFX] at hr'
    have HF := Lib.hid hFX
    have HM := Lib.hid hr'
    clear hr' hFX
    go_enter Tryz.func89, Tryz.ntmps89
    have key : ∀ (W : World), R3 44 W A c ps → Calls Tryz.prog 119 #[.agg #[.slice A ps.length c], .int .i64 bx, .int .i64 bY] W (SidePost W [h, k2] (v1 && v2)) := fun W RW => sideHalves_eq kp hne RW B.bx B.bY hb0 E1 E2
    have KEY := Lib.hid key
    clear key
    obtain ⟨ms, hms⟩ : ∃ ms, ps.map (fun g => (FX g).1) = ms := ⟨_, rfl⟩
    have hml : ms.length = ps.length := by rw [← hms]; simp
    have hmk : ∀ k (h : k < ps.length), ms[k]? = some (FX ps[k]).1 := fun k h => by rw [← hms, List.getElem?_map, List.getElem?_eq_getElem h]; rfl
    have HM1 := HM.out
    rw [hms] at HM1
    have HMM := Lib.hid HM1
    have HML := Lib.hid hml
    have HMK := Lib.hid hmk
    have HMS := Lib.hid hms
    clear HM HM1 hms hml hmk hb0 kp hne E1 E2
    rcases hz with ⟨hx1, hx2⟩ | hx1
    all_goals
      go_wp2_with (first | (go_at_call 20; (first | (with_reducible refine (calls_ov2 (IsVoid_eq HV)).mono ?_) | refine (calls_ov (IsVoid_eq HV)).mono ?_); rintro e w' ⟨rfl, x, rfl⟩))
      obtain ⟨U, hU⟩ : ∃ U, U = ov ((w.alloc (.cells #[.slice A ps.length c] 26)).alloc (.cells #[.slice none 0 0] 26)) x := ⟨_, rfl⟩
      rw [← hU]
      have TU : Below w.heap.size w U := by rw [hU]; exact (by repeat (first | exact bR | refine bO ?_ | refine bA ?_ | refine bS ?_ | refine bD ?_ | refine bN ?_))
      have X1 := Lib.hid (show U.heap[w.heap.size]? = some (.cells #[.slice A ps.length c] 26 (0, 0)) by rw [hU]; exact ov_blk ((heap_old_at (by simp)).trans (heap_alloc_new _ _)))
      have X2 := Lib.hid (show U.heap[w.heap.size + 1]? = some (.cells #[.slice none 0 0] 26 (0, 0)) by rw [hU]; exact ov_blk (heap_new_at (by simp) rfl))
      clear hU
      have tu := TU.size
      have hb2 : w.heap.size ≤ w.heap.size + 1 := by omega
      generalize w.heap.size + 1 = b2 at X2 hb2 ⊢
      obtain ⟨b1, hb1⟩ : ∃ b, w.heap.size = b := ⟨_, rfl⟩
      rw [hb1] at X1 ⊢
      refine (KEY.out U (R.below TU)).mono ?_
      rintro en W0 ⟨A0, c0, rfl, R0, hb0⟩
      have X3 := box_below X1 hb0
      have X4 := box_below X2 hb0
      have T0 := TU.trans (hb0.mono tu)
      have x1 := cell_blk (j := 0) (v := .slice A ps.length c) X3.out rfl
      have l1 := (Array.getElem?_eq_some_iff.1 X3.out).1
      have x2 := cell_blk (j := 0) (v := .slice none 0 0) X4.out rfl
      have f2 := frozen_blk (j := 0) X4.out
      have l2 := (Array.getElem?_eq_some_iff.1 X4.out).1
      by_cases hvv : v1 = true ∧ v2 = true
      case' neg =>
        have hr0 := HMM.out
        rw [if_neg (fun e => hvv ⟨e.1, e.2.1⟩)] at hr0
        simp at hr0
        obtain ⟨rfl, rfl⟩ := hr0
        have hv3 : (v1 && v2) = false := by cases v1 <;> cases v2 <;> simp at hvv ⊢
        rw [hv3]
        clear X1 X2 X3 X4
        go_wp2
        refine bodyPost_ret (v := .tuple #[.agg #[.slice none 0 0], .bool false]) (by simp [results, Tryz.results89, go_sem, x2, l2]) rfl ⟨none, 0, rfl, RB.nil _ _ _, ?_⟩
        exact (by repeat (first | exact T0 | refine bO ?_ | refine bA ?_ | refine bS ?_ | refine bD ?_ | refine bN ?_))
      obtain ⟨rfl, rfl⟩ := hvv
      have GH : HOk h := HH1.out rfl
      have GK : HOk k2 := HH2.out rfl
      have HM2 := Lib.hid HMM.out
      clear HH1 HH2 HMM
      rw [Bool.true_and]
      go_wp2
      clear x1 l1 x2 f2 l2 X3 X4
      clear KEY
      go_loopw [12, 44] (fun o i wr => ∃ (k : Nat) (A' : Option Addr) (c' : Nat), k ≤ ps.length ∧ i = .int .i64 k ∧ o = .slice A' (k + 2) c' ∧ Hid ((ps.take k).all (fun g => (FX g).2) = true) ∧ RB U.heap.size 44 wr A' c' (h :: k2 :: ms.take k) ∧ Below U.heap.size U wr) (fun _ i _ => ps.length - (intOf i).toNat)
      case atStart => exact ⟨0, A0, c0, Nat.zero_le _, rfl, rfl, Lib.hid rfl, R0, hb0⟩
      case round =>
        obtain ⟨k, A', c', hk, rfl, rfl, HA, RO, hb⟩ := hrel
        have hbs := hb.size
        have htl : (h :: k2 :: ms.take k).length = k + 2 := by have := HML.out; simp; omega
        have T1 := TU.trans (hb.mono tu)
        have X5 := box_below X2 hb
        have hX2 := (Array.getElem?_eq_some_iff.1 X5.out).1
        by_cases hlt : k < ps.length
        · obtain ⟨g0, rfl, hg0, z0, z1, z2⟩ := (R.below T1).at_ hlt
          have kg := GP _ (List.getElem_mem hlt)
          obtain ⟨p1, p2, p3, p4⟩ := grow_bd kg B
          have hab := kg.bc
          have hba := kg.ba
          have hbb := kg.bb
          have HE := Lib.hid (HMK.out k hlt)
          have HT := Lib.hid (all_take_succ (fun g => (FX g).2) ps k hlt)
          obtain ⟨⟨m, b⟩, hmb⟩ : ∃ m, FX ps[k] = m := ⟨_, rfl⟩
          have hmb' := hmb
          rw [HF.out] at hmb'
          unfold growF at hmb'
          have HN := Lib.hid (show h :: k2 :: ms.take (k + 1) = (h :: k2 :: ms.take k) ++ [m] by
            obtain ⟨h1, h2⟩ := List.getElem?_eq_some_iff.1 HE.out
            rw [List.take_succ_eq_append_getElem h1, h2, hmb]; rfl)
          have HB := Lib.hid (show (FX ps[k]).2 = b by rw [hmb])
          clear hmb HE
          have OV : wr.ownsRow U.heap.size 44 3 (.slice A' (k + 2) c') (k + 2) (cells3 (h :: k2 :: ms.take k)) := by unfold RB at RO; rw [htl] at RO; exact RO
          rcases max_of (a := -lo * (ps[k].a * bx + ps[k].b * bY)) (b := -hi * (ps[k].a * bx + ps[k].b * bY)) with ⟨hm1, hm2⟩ | ⟨hm1, hm2⟩
          all_goals
            rw [hm2] at hmb'
            have HS := Lib.hid hmb'
            clear hmb' hm2
            cases b
            case' true =>
              go_wp2_with (first | (go_at_call 101; (first | (with_reducible refine (calls_ov2 (impl_HalfOf_eq HS (by omega) (by omega) (by omega))).mono ?_) | refine (calls_ov (impl_HalfOf_eq HS (by omega) (by omega) (by omega))).mono ?_); rintro e w' ⟨rfl, x, rfl⟩) | (at_builtin; refine wpList_append_own _ rfl _ _ 24 rfl U.heap.size 44 i0 (.agg #[.int .i64 0, .int .i64 0, .int .i64 0]) 3 24 Tryz.underlying24 hi0 hz0 hz1 hz2 rfl (by decide) _ _ _ rfl (OV.below' (by repeat (first | exact bR | refine bO ?_ | refine bA ?_ | refine bS ?_ | refine bD ?_ | refine bN ?_))) ⟨_, 0, none⟩ 1 1 (cells3 [m]) rfl rfl (news_at (heap_new_at (by simp) rfl)) (cells3_one _) (by unfold maxLen; omega) (by omega) (by simp [ov_size]; omega) ?_; intro v2 w2 O2 hg2 _; obtain ⟨A5, c5, rfl, RO5⟩ := own_slice2 HN.out htl O2; have HG := Lib.hid hg2; clear hg2 O2))
              go_roundw
              case rel => exact ⟨k + 1, A5, c5, by omega, by go_num, by first | go_num | (congr 1 <;> omega), Lib.hid (by rw [HT.out, HA.out, HB.out]; rfl), RO5, grown_below (B := U.heap.size) (by repeat (first | exact hb | refine bO ?_ | refine bA ?_ | refine bS ?_ | refine bD ?_ | refine bN ?_)) HG.out (fun k' hk' => (OV.lt k' hk').1) (Nat.le_refl _)⟩
              case measure => simp [intOf] <;> omega
            case' false =>
              have hr0 := HM2.out
              have hall : ps.all (fun g => (FX g).2) = false := by
                rw [List.all_eq_false]
                exact ⟨ps[k], List.getElem_mem hlt, by rw [HB.out]; simp⟩
              rw [if_neg (by rw [hall]; simp)] at hr0
              simp at hr0
              obtain ⟨rfl, rfl⟩ := hr0
              clear hall
              go_wp2_with fail
              refine (calls_ov (impl_HalfOf_eq HS (by omega) (by omega) (by omega))).mono ?_
              rintro e w' ⟨rfl, x9, rfl⟩
              generalize hWz : ov _ x9 = Wz
              have TZ : Below wr.heap.size wr Wz := by rw [← hWz]; exact (by repeat (first | exact bR | refine bO ?_ | refine bA ?_ | refine bS ?_ | refine bD ?_ | refine bN ?_))
              have X6 := box_below X5 TZ
              have T2 := T1.trans (TZ.mono T1.size)
              have l2 := (Array.getElem?_eq_some_iff.1 X6.out).1
              have x2 := cell_blk (j := 0) (v := .slice none 0 0) X6.out rfl
              have f2 := frozen_blk (j := 0) X6.out
              clear hWz TZ
              go_wp2
              refine bodyPost_ret (v := .tuple #[.agg #[.slice none 0 0], .bool false]) (by simp [results, Tryz.results89, go_sem, x2, l2]) rfl ⟨none, 0, rfl, RB.nil _ _ _, ?_⟩
              exact (by repeat (first | exact T2 | refine bO ?_ | refine bA ?_ | refine bS ?_ | refine bD ?_ | refine bN ?_))
        · obtain rfl : k = ps.length := by omega
          have hfull : ms.take ps.length = ms := by rw [← HML.out, List.take_length]
          rw [hfull] at RO
          have hall := HA.out
          rw [List.take_length] at hall
          have HL : (h :: k2 :: ms).length = ps.length + 2 := by have := HML.out; simp; omega
          have hr0 := HM2.out
          rw [if_pos (by refine ⟨?_, ?_, hall⟩ <;> trivial)] at hr0
          have HM3 := Lib.hid hr0
          have GM : ∀ g ∈ h :: k2 :: ms, HOk g := fun g hg => by
            rcases List.mem_cons.1 hg with rfl | hg
            · exact GH
            rcases List.mem_cons.1 hg with rfl | hg
            · exact GK
            rw [← HMS.out] at hg
            obtain ⟨y, hy, rfl⟩ := List.mem_map.1 hg
            have h2 := List.all_eq_true.1 hall y hy
            rw [HF.out] at h2 ⊢
            exact growF_ok h2
          clear hr0 hall
          go_wp2_with fail
          refine (meetAll_eqn (n := ps.length + 2) HL GM RO.r3 (by omega) HM3).mono ?_
          rintro e w2 ⟨A2', c2', rfl, R2', hb2'⟩
          have T2 : Below w.heap.size w w2 := T1.trans (hb2'.mono T1.size)
          have X6 := box_below X5 hb2'
          have HR1 := R2'.weak (B' := w.heap.size) T1.size
          clear X1 X2 X5 hb2' R2' RO hX2
          have x2 := cell_blk (j := 0) (v := .slice none 0 0) X6.out rfl
          have f2 := frozen_blk (j := 0) X6.out
          have l2 := (Array.getElem?_eq_some_iff.1 X6.out).1
          go_wp2
          refine bodyPost_ret (v := .tuple #[.agg #[.slice A2' out.length c2'], .bool ok]) (by simp [results, Tryz.results89, go_sem, x2, l2]) rfl ⟨A2', c2', rfl, HR1.set_box X6.out (by decide), T2.setCell (show w.heap.size ≤ b2 from hb2) _⟩

end Go.Proofs.YtabmfaamadbefaaGreat