/- FnExactMapSpot returns true for every argument, and leaves it as it was. No condition. -/
import Derived.Test.YtncolpeeilgndaaMp
set_option linter.unusedVariables false
set_option linter.unusedSimpArgs false
set_option linter.unusedSectionVars false
namespace Go.Proofs.Ytncolpeeilgndaa
open Go.ChangeShapes Go.WideShapes Go.ChangeAt Go.RowKit Go.Joins

theorem toSpot_any (a b c : Int) (w : World) :
    Calls Try.prog 21 #[.agg #[.int .i64 a, .int .i64 b, .int .i64 c]] w fun e w' => e = .returned (.agg #[.int .i64 a, .int .i64 b, .int .i64 c]) ∧ Below w.heap.size w w' := by
  go_enter Try.func21, Try.ntmps21
  go_wp2
  refine bodyPost_ret (v := .agg #[.int .i64 a, .int .i64 b, .int .i64 c]) (by simp [results, Try.results21, go_sem]) rfl ⟨rfl, ?_⟩
  (repeat (first | exact Below.refl _ _ | refine below_ov _ _ ?_ (by first | omega | (simp [ov_size] <;> omega)) | refine Below.alloc ?_ (by first | omega | (simp [ov_size] <;> omega)) _ | refine Below.setCell ?_ (by first | omega | (simp [ov_size] <;> omega)) _ | refine Below.drew ?_ | refine below_drewN ?_ _))
theorem eqSpot_same (a b c : Int) (w : World) :
    Calls Try.prog 24 #[.agg #[.int .i64 a, .int .i64 b, .int .i64 c], .agg #[.int .i64 a, .int .i64 b, .int .i64 c]] w fun e w' => e = .returned (.bool true) ∧ Below w.heap.size w w' := by
  go_enter Try.func24, Try.ntmps24
  go_wp2
  go_ret
  exact ⟨rfl, (by repeat (first | exact Below.refl _ _ | refine below_ov _ _ ?_ (by first | omega | (simp [ov_size] <;> omega)) | refine Below.alloc ?_ (by first | omega | (simp [ov_size] <;> omega)) _ | refine Below.setCell ?_ (by first | omega | (simp [ov_size] <;> omega)) _ | refine Below.drew ?_ | refine below_drewN ?_ _))⟩
section
variable {H : Type} {enc : TypeId × Value → H} {w : World} {base : Nat} {spare : Nat → Bool} {held : Bool} {n : Nat}
set_option maxRecDepth 100000 in
theorem open_spot {v : Value} {d : DataW H} {p : List MemPlace} {r : Reach} {b0 : Nat} (hv : Value.okWide Try.prog w r b0 50 v) (h : DataW.Trod enc Try.prog w base spare held 50 v d p) :
    ∃ x y z : Int, v = .agg #[.int .i64 x, .int .i64 y, .int .i64 z] ∧ (-9223372036854775808 ≤ x ∧ x ≤ 9223372036854775807) ∧ (-9223372036854775808 ≤ y ∧ y ≤ 9223372036854775807) ∧ (-9223372036854775808 ≤ z ∧ z ≤ 9223372036854775807) := by
  obtain ⟨⟨l⟩, rfl, hsz⟩ := okWide_struct Try.underlying50 hv
  rw [show Try.prog.cellsOf 50 = 3 by kernel_rfl] at hsz
  match l, hsz with
  | [c0, c1, c2], _ =>
    obtain ⟨fuel, hf⟩ := h
    obtain ⟨ys, n', _, _, _, hyl, hg⟩ := DataW.trod_struct Try.underlying50 hf
    have f0 : DataW.trod enc Try.prog w base spare held n' 3 [c0] = ys[0]? := by simpa [cells_int, Value.cells] using hg 0 _ rfl
    have f1 : DataW.trod enc Try.prog w base spare held n' 3 [c1] = ys[1]? := by simpa [cells_int, Value.cells] using hg 1 _ rfl
    have f2 : DataW.trod enc Try.prog w base spare held n' 3 [c2] = ys[2]? := by simpa [cells_int, Value.cells] using hg 2 _ rfl
    have hy3 : ys.length = 3 := hyl
    obtain ⟨y0, hy0⟩ : ∃ y0, ys[0]? = some y0 := ⟨_, List.getElem?_eq_getElem (by omega)⟩
    obtain ⟨y1, hy1⟩ : ∃ y0, ys[1]? = some y0 := ⟨_, List.getElem?_eq_getElem (by omega)⟩
    obtain ⟨y2, hy2⟩ : ∃ y0, ys[2]? = some y0 := ⟨_, List.getElem?_eq_getElem (by omega)⟩
    rw [hy0] at f0
    rw [hy1] at f1
    rw [hy2] at f2
    obtain ⟨a, rfl, ba⟩ := int_of_trod f0
    obtain ⟨b, rfl, bb⟩ := int_of_trod f1
    obtain ⟨c, rfl, bc⟩ := int_of_trod f2
    exact ⟨a, b, c, rfl, ba, bb, bc⟩
end

set_option maxRecDepth 100000 in
set_option maxHeartbeats 4000000 in
theorem law4_any {x1 y1 d1 q : Int} {m : List Int} {A : Option Addr} {c : Nat} (w : World) (R : RI w A m) (hl : m.length ≤ 9223372036854775807)
    (hx : -9223372036854775808 ≤ x1 ∧ x1 ≤ 9223372036854775807) (hy : -9223372036854775808 ≤ y1 ∧ y1 ≤ 9223372036854775807) (hd : -9223372036854775808 ≤ d1 ∧ d1 ≤ 9223372036854775807) :
    Calls Try.prog 6 #[.agg #[.int .i64 x1, .int .i64 y1, .int .i64 d1], .slice A m.length c, .int .i64 q] w fun e w' => e = .returned (.bool true) ∧ Below w.heap.size w w' := by
  by_cases hm : 1048576 < m.length
  · go_enter Try.func6, Try.ntmps6
    go_wp2
    go_ret
    exact ⟨rfl, (by repeat (first | exact Below.refl _ _ | refine below_ov _ _ ?_ (by first | omega | (simp [ov_size] <;> omega)) | refine Below.alloc ?_ (by first | omega | (simp [ov_size] <;> omega)) _ | refine Below.setCell ?_ (by first | omega | (simp [ov_size] <;> omega)) _ | refine Below.drew ?_ | refine below_drewN ?_ _))⟩
  · have hl2 : m.length ≤ 1048576 := by omega
    obtain ⟨⟨⟨r, s, t⟩, ok⟩, hr⟩ : ∃ z, mapS x1 y1 d1 m q = z := ⟨_, rfl⟩
    have HR := Lib.hid hr
    clear hr
    go_enter Try.func6, Try.ntmps6
    go_wp2_with (first | (go_at_call 21; (first | (with_reducible refine (calls_ov2 (toSpot_any _ _ _ _)).mono ?_) | refine (calls_ov (toSpot_any _ _ _ _)).mono ?_); rintro e w' ⟨rfl, x, rfl⟩))
    refine (toIntS_any (by exact R.below (by repeat (first | exact Below.refl _ _ | refine below_ov _ _ ?_ (by first | omega | (simp [ov_size] <;> omega)) | refine Below.alloc ?_ (by first | omega | (simp [ov_size] <;> omega)) _ | refine Below.setCell ?_ (by first | omega | (simp [ov_size] <;> omega)) _ | refine Below.drew ?_ | refine below_drewN ?_ _))) hl2).mono ?_
    rintro e W1 ⟨A1, c1, rfl, R1, hb1⟩
    have T1 : Below w.heap.size w W1 := Below.trans (by repeat (first | exact Below.refl _ _ | refine below_ov _ _ ?_ (by first | omega | (simp [ov_size] <;> omega)) | refine Below.alloc ?_ (by first | omega | (simp [ov_size] <;> omega)) _ | refine Below.setCell ?_ (by first | omega | (simp [ov_size] <;> omega)) _ | refine Below.drew ?_ | refine below_drewN ?_ _)) (hb1.mono (by simp [ov_size]; omega))
    have HX := Lib.hid ((hb1.block w.heap.size (by simp [ov_size]; omega)).trans (ov_blk (heap_alloc_new _ _)))
    have q0 := cell_blk (j := 0) (v := .int .i64 x1) HX.out rfl
    have q1 := cell_blk (j := 1) (v := .int .i64 y1) HX.out rfl
    have q2 := cell_blk (j := 2) (v := .int .i64 d1) HX.out rfl
    have ql := (Array.getElem?_eq_some_iff.1 HX.out).1
    have S1 := R.below T1
    clear hb1
    go_wp2_with (first | (go_at_call 20; (first | (with_reducible refine (calls_ov2 (spec_MapSpot_eq HR (by exact R1.below (by repeat (first | exact Below.refl _ _ | refine below_ov _ _ ?_ (by first | omega | (simp [ov_size] <;> omega)) | refine Below.alloc ?_ (by first | omega | (simp [ov_size] <;> omega)) _ | refine Below.setCell ?_ (by first | omega | (simp [ov_size] <;> omega)) _ | refine Below.drew ?_ | refine below_drewN ?_ _))) hl2 hx hy hd)).mono ?_) | refine (calls_ov (spec_MapSpot_eq HR (by exact R1.below (by repeat (first | exact Below.refl _ _ | refine below_ov _ _ ?_ (by first | omega | (simp [ov_size] <;> omega)) | refine Below.alloc ?_ (by first | omega | (simp [ov_size] <;> omega)) _ | refine Below.setCell ?_ (by first | omega | (simp [ov_size] <;> omega)) _ | refine Below.drew ?_ | refine below_drewN ?_ _))) hl2 hx hy hd)).mono ?_); rintro e w' ⟨rfl, x, rfl⟩))
    refine (toIntS_any (by exact S1.below (by repeat (first | exact Below.refl _ _ | refine below_ov _ _ ?_ (by first | omega | (simp [ov_size] <;> omega)) | refine Below.alloc ?_ (by first | omega | (simp [ov_size] <;> omega)) _ | refine Below.setCell ?_ (by first | omega | (simp [ov_size] <;> omega)) _ | refine Below.drew ?_ | refine below_drewN ?_ _))) hl2).mono ?_
    rintro e W2 ⟨A2, c2, rfl, R2, hb2⟩
    have K2 : Below W1.heap.size W1 W2 := Below.trans (by repeat (first | exact Below.refl _ _ | refine below_ov _ _ ?_ (by first | omega | (simp [ov_size] <;> omega)) | refine Below.alloc ?_ (by first | omega | (simp [ov_size] <;> omega)) _ | refine Below.setCell ?_ (by first | omega | (simp [ov_size] <;> omega)) _ | refine Below.drew ?_ | refine below_drewN ?_ _)) (hb2.mono (by simp [ov_size]; omega))
    have HX2 := Lib.hid ((K2.block w.heap.size ql).trans HX.out)
    have HW := Lib.hid ((hb2.block (ov W1 x).heap.size (by simp)).trans (heap_new_at (r := some (.cells #[.int .i64 r, .int .i64 s, .int .i64 t] 52 (0, 0))) rfl rfl))
    have S2 := S1.below K2
    have T2 := T1.trans (K2.mono T1.size)
    clear q0 q1 q2 ql HX hb2 S1 R1
    generalize (ov W1 x).heap.size = bw at HW ⊢
    have q0 := cell_blk (j := 0) (v := .int .i64 x1) HX2.out rfl
    have q1 := cell_blk (j := 1) (v := .int .i64 y1) HX2.out rfl
    have q2 := cell_blk (j := 2) (v := .int .i64 d1) HX2.out rfl
    have ql := (Array.getElem?_eq_some_iff.1 HX2.out).1
    have e0 := cell_blk (j := 0) (v := .int .i64 r) HW.out rfl
    have e1 := cell_blk (j := 1) (v := .int .i64 s) HW.out rfl
    have e2 := cell_blk (j := 2) (v := .int .i64 t) HW.out rfl
    have el := (Array.getElem?_eq_some_iff.1 HW.out).1
    go_wp2_with (first | (go_at_call 21; (first | (with_reducible refine (calls_ov2 (toSpot_any _ _ _ _)).mono ?_) | refine (calls_ov (toSpot_any _ _ _ _)).mono ?_); rintro e w' ⟨rfl, x, rfl⟩) | (go_at_call 23; (first | (with_reducible refine (calls_ov2 (impl_MapSpot_eq HR (by exact R2.below (by repeat (first | exact Below.refl _ _ | refine below_ov _ _ ?_ (by first | omega | (simp [ov_size] <;> omega)) | refine Below.alloc ?_ (by first | omega | (simp [ov_size] <;> omega)) _ | refine Below.setCell ?_ (by first | omega | (simp [ov_size] <;> omega)) _ | refine Below.drew ?_ | refine below_drewN ?_ _))) hl2 hx hy hd)).mono ?_) | refine (calls_ov (impl_MapSpot_eq HR (by exact R2.below (by repeat (first | exact Below.refl _ _ | refine below_ov _ _ ?_ (by first | omega | (simp [ov_size] <;> omega)) | refine Below.alloc ?_ (by first | omega | (simp [ov_size] <;> omega)) _ | refine Below.setCell ?_ (by first | omega | (simp [ov_size] <;> omega)) _ | refine Below.drew ?_ | refine below_drewN ?_ _))) hl2 hx hy hd)).mono ?_); rintro e w' ⟨rfl, x, rfl⟩) | (go_at_call 24; (first | (with_reducible refine (calls_ov2 (eqSpot_same _ _ _ _)).mono ?_) | refine (calls_ov (eqSpot_same _ _ _ _)).mono ?_); rintro e w' ⟨rfl, x, rfl⟩))
    refine (toIntS_any (by exact S2.below (by repeat (first | exact Below.refl _ _ | refine below_ov _ _ ?_ (by first | omega | (simp [ov_size] <;> omega)) | refine Below.alloc ?_ (by first | omega | (simp [ov_size] <;> omega)) _ | refine Below.setCell ?_ (by first | omega | (simp [ov_size] <;> omega)) _ | refine Below.drew ?_ | refine below_drewN ?_ _))) hl2).mono ?_
    rintro e W3 ⟨A3, c3, rfl, R3, hb3⟩
    have K3 : Below W2.heap.size W2 W3 := Below.trans (by repeat (first | exact Below.refl _ _ | refine below_ov _ _ ?_ (by first | omega | (simp [ov_size] <;> omega)) | refine Below.alloc ?_ (by first | omega | (simp [ov_size] <;> omega)) _ | refine Below.setCell ?_ (by first | omega | (simp [ov_size] <;> omega)) _ | refine Below.drew ?_ | refine below_drewN ?_ _)) (hb3.mono (by simp [ov_size]; omega))
    have R4 := R2.below K3
    have T3 := T2.trans (K3.mono T2.size)
    have t3 := T3.size
    go_wp2_with (first | (go_at_call 25; (first | (with_reducible refine (calls_ov2 (eqIntS_same (by exact R4) (by exact R3) (by omega))).mono ?_) | refine (calls_ov (eqIntS_same (by exact R4) (by exact R3) (by omega))).mono ?_); rintro e w' ⟨rfl, x, rfl⟩))
    go_ret
    exact ⟨rfl, (by repeat (first | exact T3 | refine below_ov _ _ ?_ (by first | omega | (simp [ov_size] <;> omega)) | refine Below.alloc ?_ (by first | omega | (simp [ov_size] <;> omega)) _ | refine Below.setCell ?_ (by first | omega | (simp [ov_size] <;> omega)) _ | refine Below.drew ?_ | refine below_drewN ?_ _))⟩

set_option maxRecDepth 100000 in
theorem FnExactMapSpot_lifted (os : Os) (started : os.Started) (H : Type) (enc : TypeId × Value → H) :
    ReturnsInHanded {} Try.checked os 6 .any (Rows.fnExactMapSpotSpec.pre6 enc Try.prog Try.f6 Rows.fnExactMapSpotRow.domain false) (Rows.fnExactMapSpotSpec.post enc Try.prog Try.f6 false true false false) := by
  refine returnsInHanded_of_change (C := Try.checked) own started (by kernel_rfl) Try.func6
    (ChangeSpec.witness6 (enc := enc) (C := Try.checked) false ⟨#[], #[.agg #[.int .i64 0, .int .i64 0, .int .i64 0], .slice none 0 0, .int .i64 0], []⟩ 8 (by kernel_rfl) (by kernel_rfl) (by kernel_rfl) (by kernel_rfl)) ?_
  intro W base args ds gs before hval0 hW hcnd _
  have hval : ∀ (j : Nat) t v, Try.f6.params[j]? = some t → args[j]? = some v → Value.okWide Try.prog W .any base t v := hval0
  have hW' := hW
  obtain ⟨p, q, hA0, hV, rfl, hfz, hnd⟩ := hW
  have hA : DataW.TrodAll enc Try.prog W 0 (fun _ => true) true Try.f6.params.toList args.toList ds p := hA0
  rw [Try.params6] at hA hval
  obtain ⟨v0, vs0, d0, ds0, p0, q0, hargs0, rfl, rfl, h0, r0⟩ := trodAll_cons hA
  obtain ⟨v1, vs1, d1, ds1, p1, q1, hargs1, rfl, rfl, h1, r1⟩ := trodAll_cons r0
  obtain ⟨v2, vs2, d2, ds2, p2, q2, hargs2, rfl, rfl, h2, r2⟩ := trodAll_cons r1
  obtain ⟨rfl, rfl, rfl⟩ := trodAll_nil r2
  obtain rfl : args = #[v0, v1, v2] := by cases args; simp_all
  obtain ⟨rfl, rfl⟩ := trodVars_none hV
  have k0 := h0
  have lt0 : ∀ x ∈ p0, x.block < W.heap.size := by obtain ⟨m, hm⟩ := k0; exact DataW.trod_lt m _ _ _ hm
  have k1 := h1
  have lt1 : ∀ x ∈ p1, x.block < W.heap.size := by obtain ⟨m, hm⟩ := k1; exact DataW.trod_lt m _ _ _ hm
  have k2 := h2
  have lt2 : ∀ x ∈ p2, x.block < W.heap.size := by obtain ⟨m, hm⟩ := k2; exact DataW.trod_lt m _ _ _ hm
  have hv0 := hval 0 50 v0 rfl rfl
  have hv1 := hval 1 51 v1 rfl rfl
  have hv2 := hval 2 3 v2 rfl rfl
  obtain ⟨x1, y1, d1, rfl, bx, bY, bd⟩ := open_spot hv0 h0
  obtain ⟨A, c, m, rfl, RR, hlen, _⟩ := open_ints hv1 h1
  obtain ⟨q, rfl, _, _, _⟩ := open_int Try.underlying3 hv2 h2
  clear hA0 hval0
  refine (law4_any W RR hlen bx bY bd).mono fun e W' ⟨he, bel⟩ => ?_
  subst he
  exact ⟨_, rfl, _, _, _, [], _, [], hW', trodAll_mk1 (shut_bool Try.underlying4 _), (trodAll_cons_mk (Below.trod laidOut (by kernel_rfl) (of_decide_eq_true (by kernel_rfl)) k0 bel lt0) (trodAll_cons_mk (Below.trod laidOut (by kernel_rfl) (of_decide_eq_true (by kernel_rfl)) k1 bel lt1) (trodAll_cons_mk (Below.trod laidOut (by kernel_rfl) (of_decide_eq_true (by kernel_rfl)) k2 bel lt2) trodAll_mk0))), rfl, bel.frame _, fun h => by cases h⟩

theorem FnExactMapSpot_holds : Rows.FnExactMapSpotSaid :=
  OpenClaim.holds_of_wide 6 Try.f6 rfl rfl rfl rfl rfl rfl rfl ⟨rfl, rfl, rfl, rfl, rfl⟩ rfl rfl rfl rfl rfl (by kernel_rfl) Try.func6 (by kernel_rfl)
    (of_decide_eq_true (by kernel_rfl)) (by unfold Func.isWrapper; first | (rw [if_pos (by decide +kernel)]; kernel_rfl) | (rw [if_neg (by decide +kernel)]; exact ⟨rfl, rfl⟩))
    (fun os started H enc _ => FnExactMapSpot_lifted os started H enc)
#print axioms FnExactMapSpot_holds
end Go.Proofs.Ytncolpeeilgndaa
