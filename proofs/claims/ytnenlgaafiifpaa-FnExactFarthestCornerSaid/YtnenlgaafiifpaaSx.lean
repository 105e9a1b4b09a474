/- Contracts of SupportOf and FarthestCorner of the program. No condition but that lengths are ints. -/
import Derived.Test.YtnenlgaafiifpaaSv
set_option linter.unusedSimpArgs false
set_option linter.unusedVariables false
set_option linter.unusedSectionVars false
namespace Go.Proofs.Ytnenlgaafiifpaa
open Go.RowKit Go.Shelf

theorem isCoef_any {n : Int} {v : Bool} {w : World} (h : Hid (inR n (-50000) 50000 = v)) : Calls Try.prog 97 #[.int .i64 n] w fun e w' => e = .returned (.bool v) ∧ w = w' := isCoef_eq h.out
theorem sup_shape (hs : List H3) (a b : Int) : (supOk hs a b = false ∧ (decide (hs.length = 0) = true ∨ (decide (hs.length = 0) = false ∧ inR a (-50000) 50000 = false) ∨ (decide (hs.length = 0) = false ∧ inR a (-50000) 50000 = true ∧ inR b (-50000) 50000 = false) ∨ (decide (hs.length = 0) = false ∧ inR a (-50000) 50000 = true ∧ inR b (-50000) 50000 = true ∧ regionOk hs = false))) ∨
    (supOk hs a b = true ∧ decide (hs.length = 0) = false ∧ inR a (-50000) 50000 = true ∧ inR b (-50000) 50000 = true ∧ regionOk hs = true ∧ hs ≠ []) := by
  by_cases h0 : hs = []
  · subst h0; left; exact ⟨by simp [supOk], .inl rfl⟩
  · have e : decide (hs.length = 0) = false := decide_eq_false (fun e => h0 (List.length_eq_zero_iff.1 e))
    have e2 : decide (hs ≠ []) = true := decide_eq_true h0
    unfold supOk
    rw [e, e2]
    simp only [Bool.true_and]
    generalize inR a (-50000) 50000 = y
    generalize inR b (-50000) 50000 = z
    generalize regionOk hs = t
    cases y <;> cases z <;> cases t <;> simp [h0]
set_option maxRecDepth 100000 in
set_option maxHeartbeats 4000000 in
theorem impl_SupportOf_eq {hs : List H3} {a b p q : Int} {ok : Bool} {A : Option Addr} {c : Nat} {w : World} (R : R3 38 w A c hs) (hl : hs.length ≤ 1000000000) (hr : Hid (supR hs a b = ((p, q), ok))) :
    Calls Try.prog 53 #[.agg #[.slice A hs.length c], .int .i64 a, .int .i64 b] w fun e w' => e = .returned (.tuple #[.agg #[.int .i64 p, .int .i64 q], .bool ok]) ∧ Below w.heap.size w w' := by
  have hr' := hr.out
  clear hr
  unfold supR at hr'
  rcases sup_shape hs a b with ⟨h0, hc⟩ | ⟨h0, h1, h2, h3, h4, h5⟩
  · rw [h0, if_neg (by simp)] at hr'
    simp at hr'
    obtain ⟨⟨rfl, rfl⟩, rfl⟩ := hr'
    clear h0
    rcases hc with h1 | ⟨h1, h2⟩ | ⟨h1, h2, h3⟩ | ⟨h1, h2, h3, h4⟩
    · have H1 := Lib.hid h1
      clear h1
      go_enter Try.func53, Try.ntmps53
      go_wp2_with (first | (go_at_call 62; (first | (with_reducible refine (calls_ov2 (IsVoid_eq H1)).mono ?_) | refine (calls_ov (IsVoid_eq H1)).mono ?_); rintro e w' ⟨rfl, x, rfl⟩))
      refine bodyPost_ret (v := .tuple #[.agg #[.int .i64 0, .int .i64 0], .bool false]) (by simp [results, Try.results53, go_sem]) rfl ⟨rfl, (by repeat (first | exact Below.refl _ _ | refine below_ov _ _ ?_ (by first | omega | (simp [ov_size] <;> omega)) | refine Below.alloc ?_ (by first | omega | (simp [ov_size] <;> omega)) _ | refine Below.setCell ?_ (by first | omega | (simp [ov_size] <;> omega)) _ | refine Below.drew ?_ | refine below_drewN ?_ _))⟩
    · have H1 := Lib.hid h1
      have H2 := Lib.hid h2
      clear h1 h2
      go_enter Try.func53, Try.ntmps53
      go_wp2_with (first | (go_at_call 62; (first | (with_reducible refine (calls_ov2 (IsVoid_eq H1)).mono ?_) | refine (calls_ov (IsVoid_eq H1)).mono ?_); rintro e w' ⟨rfl, x, rfl⟩) | (go_at_call 97; refine (isCoef_any (by exact H2)).mono ?_; rintro e w' ⟨rfl, rfl⟩))
      refine bodyPost_ret (v := .tuple #[.agg #[.int .i64 0, .int .i64 0], .bool false]) (by simp [results, Try.results53, go_sem]) rfl ⟨rfl, (by repeat (first | exact Below.refl _ _ | refine below_ov _ _ ?_ (by first | omega | (simp [ov_size] <;> omega)) | refine Below.alloc ?_ (by first | omega | (simp [ov_size] <;> omega)) _ | refine Below.setCell ?_ (by first | omega | (simp [ov_size] <;> omega)) _ | refine Below.drew ?_ | refine below_drewN ?_ _))⟩
    · have H1 := Lib.hid h1
      have H2 := Lib.hid h2
      have H3 := Lib.hid h3
      clear h1 h2 h3
      go_enter Try.func53, Try.ntmps53
      go_wp2_with (first | (go_at_call 62; (first | (with_reducible refine (calls_ov2 (IsVoid_eq H1)).mono ?_) | refine (calls_ov (IsVoid_eq H1)).mono ?_); rintro e w' ⟨rfl, x, rfl⟩) | (go_at_call 97; refine (isCoef_any (by first | exact H2 | exact H3)).mono ?_; rintro e w' ⟨rfl, rfl⟩))
      refine bodyPost_ret (v := .tuple #[.agg #[.int .i64 0, .int .i64 0], .bool false]) (by simp [results, Try.results53, go_sem]) rfl ⟨rfl, (by repeat (first | exact Below.refl _ _ | refine below_ov _ _ ?_ (by first | omega | (simp [ov_size] <;> omega)) | refine Below.alloc ?_ (by first | omega | (simp [ov_size] <;> omega)) _ | refine Below.setCell ?_ (by first | omega | (simp [ov_size] <;> omega)) _ | refine Below.drew ?_ | refine below_drewN ?_ _))⟩
    · have H1 := Lib.hid h1
      have H2 := Lib.hid h2
      have H3 := Lib.hid h3
      have H4 := Lib.hid h4
      clear h1 h2 h3 h4
      go_enter Try.func53, Try.ntmps53
      go_wp2_with (first | (go_at_call 62; (first | (with_reducible refine (calls_ov2 (IsVoid_eq H1)).mono ?_) | refine (calls_ov (IsVoid_eq H1)).mono ?_); rintro e w' ⟨rfl, x, rfl⟩) | (go_at_call 97; refine (isCoef_any (by first | exact H2 | exact H3)).mono ?_; rintro e w' ⟨rfl, rfl⟩) | (go_at_call 61; (first | (with_reducible refine (calls_ov2 (impl_RegionOk_eq (by repeat (first | assumption | refine R3.ov ?_ _ | refine R3.alloc ?_ _)) hl H4)).mono ?_) | refine (calls_ov (impl_RegionOk_eq (by repeat (first | assumption | refine R3.ov ?_ _ | refine R3.alloc ?_ _)) hl H4)).mono ?_); rintro e w' ⟨rfl, x, rfl⟩))
      refine bodyPost_ret (v := .tuple #[.agg #[.int .i64 0, .int .i64 0], .bool false]) (by simp [results, Try.results53, go_sem]) rfl ⟨rfl, (by repeat (first | exact Below.refl _ _ | refine below_ov _ _ ?_ (by first | omega | (simp [ov_size] <;> omega)) | refine Below.alloc ?_ (by first | omega | (simp [ov_size] <;> omega)) _ | refine Below.setCell ?_ (by first | omega | (simp [ov_size] <;> omega)) _ | refine Below.drew ?_ | refine below_drewN ?_ _))⟩
  · rw [h0, if_pos rfl] at hr'
    have hse := congrArg (·.1) hr'
    have ho := congrArg (·.2) hr'
    simp only at hse ho
    subst ho
    have HS := Lib.hid hse
    obtain ⟨f, _, _⟩ := sup_parts (inR_iff.1 h2) (inR_iff.1 h3) h4 h5
    obtain ⟨g, _, _, _, _, hok⟩ := ratOf_fr f
    have HOK := Lib.hid (show ratioOk p q = true by unfold supN at hse; rw [hse] at hok; exact hok)
    obtain ⟨qb, pb⟩ := ratioOk_bd HOK.out
    have HSU := Lib.hid (fun W (R : R3 38 W A c hs) => support_eq h4 (inR_iff.1 h2) (inR_iff.1 h3) h5 R HS)
    have H1 := Lib.hid h1
    have H2 := Lib.hid h2
    have H3 := Lib.hid h3
    have H4 := Lib.hid h4
    clear h0 h1 h2 h3 h4 h5 hse hr' f hok
    go_enter Try.func53, Try.ntmps53
    go_wp2_with (first | (go_at_call 62; (first | (with_reducible refine (calls_ov2 (IsVoid_eq H1)).mono ?_) | refine (calls_ov (IsVoid_eq H1)).mono ?_); rintro e w' ⟨rfl, x, rfl⟩) | (go_at_call 97; refine (isCoef_any (by first | exact H2 | exact H3)).mono ?_; rintro e w' ⟨rfl, rfl⟩) | (go_at_call 61; (first | (with_reducible refine (calls_ov2 (impl_RegionOk_eq (by repeat (first | assumption | refine R3.ov ?_ _ | refine R3.alloc ?_ _)) hl H4)).mono ?_) | refine (calls_ov (impl_RegionOk_eq (by repeat (first | assumption | refine R3.ov ?_ _ | refine R3.alloc ?_ _)) hl H4)).mono ?_); rintro e w' ⟨rfl, x, rfl⟩) | (go_at_call 98; (first | (with_reducible refine (calls_ov2 (HSU.out _ (by repeat (first | assumption | refine R3.ov ?_ _ | refine R3.alloc ?_ _)))).mono ?_) | refine (calls_ov (HSU.out _ (by repeat (first | assumption | refine R3.ov ?_ _ | refine R3.alloc ?_ _)))).mono ?_); rintro e w' ⟨rfl, x, rfl⟩))
    go_region_with ((go_at_call 99; (first | (with_reducible refine (calls_ov2 (impl_RatioOk_eq (by exact HOK.out) (by omega) (by omega))).mono ?_) | refine (calls_ov (impl_RatioOk_eq (by exact HOK.out) (by omega) (by omega))).mono ?_); rintro e w' ⟨rfl, x, rfl⟩))
    all_goals go_wp2
    all_goals (refine bodyPost_ret (v := .tuple #[.agg #[.int .i64 p, .int .i64 q], .bool true]) (by simp [results, Try.results53, go_sem]) rfl ⟨rfl, ?_⟩)
    all_goals (repeat (first | exact Below.refl _ _ | refine below_ov _ _ ?_ (by first | omega | (simp [ov_size] <;> omega)) | refine Below.alloc ?_ (by first | omega | (simp [ov_size] <;> omega)) _ | refine Below.setCell ?_ (by first | omega | (simp [ov_size] <;> omega)) _ | refine Below.drew ?_ | refine below_drewN ?_ _))

set_option maxRecDepth 100000 in
set_option maxHeartbeats 8000000 in
theorem impl_FarthestCorner_eq {hs : List H3} {a b k : Int} {A : Option Addr} {c : Nat} {w : World} (R : R3 38 w A c hs) (hl : hs.length ≤ 1000000000) (hr : Hid (farR hs a b = k)) :
    Calls Try.prog 56 #[.agg #[.slice A hs.length c], .int .i64 a, .int .i64 b] w fun e w' => e = .returned (.int .i64 k) ∧ Below w.heap.size w w' := by
  have hr' := hr.out
  clear hr
  unfold farR at hr'
  cases hk : supOk hs a b with
  | false =>
    rw [hk, if_neg (by simp)] at hr'
    subst hr'
    have HS : Hid (supR hs a b = ((0, 0), false)) := Lib.hid (by unfold supR; rw [hk, if_neg (by simp)])
    clear hk
    go_enter Try.func56, Try.ntmps56
    go_wp2_with ((go_at_call 53; (first | (with_reducible refine (calls_ov2 (impl_SupportOf_eq (by repeat (first | assumption | refine R3.ov ?_ _ | refine R3.alloc ?_ _)) hl HS)).mono ?_) | refine (calls_ov (impl_SupportOf_eq (by repeat (first | assumption | refine R3.ov ?_ _ | refine R3.alloc ?_ _)) hl HS)).mono ?_); rintro e w' ⟨rfl, x, rfl⟩))
    go_ret
    exact ⟨rfl, (by repeat (first | exact Below.refl _ _ | refine below_ov _ _ ?_ (by first | omega | (simp [ov_size] <;> omega)) | refine Below.alloc ?_ (by first | omega | (simp [ov_size] <;> omega)) _ | refine Below.setCell ?_ (by first | omega | (simp [ov_size] <;> omega)) _ | refine Below.drew ?_ | refine below_drewN ?_ _))⟩
  | true =>
    rw [hk, if_pos rfl] at hr'
    obtain ⟨⟨p, q⟩, hsu⟩ : ∃ s, supN a b hs = s := ⟨_, rfl⟩
    have HS : Hid (supR hs a b = ((p, q), true)) := Lib.hid (by unfold supR; rw [hk, if_pos rfl, hsu])
    have hparts : inR a (-50000) 50000 = true ∧ inR b (-50000) 50000 = true ∧ regionOk hs = true ∧ hs ≠ [] := by
      rcases sup_shape hs a b with ⟨h0, _⟩ | ⟨_, _, h2, h3, h4, h5⟩
      · rw [hk] at h0; cases h0
      · exact ⟨h2, h3, h4, h5⟩
    obtain ⟨h2, h3, kp, hne⟩ := hparts
    have ha := inR_iff.1 h2
    have hb := inR_iff.1 h3
    obtain ⟨fN, hk0, hk1⟩ := sup_parts ha hb kp hne
    have okV := valsL_ok ha hb kp
    obtain ⟨vs, hvs⟩ := fv_list okV
    have hvl : vs.length = hs.length := by have := congrArg List.length hvs; rw [List.length_map, valsL_length] at this; exact this
    have h40 := (region_good kp).2
    rw [← hvs] at hr' fN hk0 hk1
    have HRR := Lib.hid hr'
    clear hk hsu h2 h3 hne okV hr'
    refine (callsIn_wide (n := 3)).1 ?_
    refine callsIn_of_wp_marks Try.func56 rfl trivial ?_ rfl
    simp only [Try.ntmps56, List.size_toArray, List.length_cons, List.length_nil, Nat.reduceAdd, Nat.reduceSub, Array.replicate_succ, Array.replicate_zero, List.push_toArray, List.append_toArray, List.nil_append, List.cons_append]
    gi_wp2_with fail
    refine ⟨trivial, ?_⟩
    refine (callsIn_wide.2 (impl_SupportOf_eq (R.below (by repeat (first | exact Below.refl _ _ | refine below_ov _ _ ?_ (by first | omega | (simp [ov_size] <;> omega)) | refine Below.alloc ?_ (by first | omega | (simp [ov_size] <;> omega)) _ | refine Below.setCell ?_ (by first | omega | (simp [ov_size] <;> omega)) _ | refine Below.drew ?_ | refine below_drewN ?_ _))) hl HS)).mono ?_
    rintro e W1 ⟨rfl, hb1⟩
    have T1 : Below w.heap.size w W1 := Below.trans (by repeat (first | exact Below.refl _ _ | refine below_ov _ _ ?_ (by first | omega | (simp [ov_size] <;> omega)) | refine Below.alloc ?_ (by first | omega | (simp [ov_size] <;> omega)) _ | refine Below.setCell ?_ (by first | omega | (simp [ov_size] <;> omega)) _ | refine Below.drew ?_ | refine below_drewN ?_ _)) (hb1.mono (by first | omega | (simp <;> omega)))
    have x1 := cell_blk (j := 0) (v := .slice A hs.length c) ((hb1.block w.heap.size (by simp)).trans (heap_alloc_new _ _)) rfl
    have l1 : w.heap.size < W1.heap.size := by have := hb1.size; simp at this; omega
    have RW1 := R.below T1
    clear hb1
    obtain ⟨n0, en⟩ : ∃ n, w.heap.size = n := ⟨_, rfl⟩
    have HEN := Lib.hid en
    have bl0 : n0 ≤ w.heap.size := by omega
    rw [en] at x1 l1 T1 ⊢
    clear en
    have la : n0 < W1.heap.size + 1 := by omega
    have lb : n0 < W1.heap.size + 1 + 1 := by omega
    have lc : n0 < W1.heap.size + 1 + 1 + 1 := by omega
    have ld : n0 < W1.heap.size + 1 + 1 + 1 + 1 := by omega
    have le : n0 < W1.heap.size + 1 + 1 + 1 + 1 + 1 := by omega
    gi_wp2_with (refine ⟨trivial, ?_⟩; gi_at_call 100; refine (callsIn_wide.2 valuesAt_any).mono ?_; rintro e w' ⟨rfl, rfl⟩)
    generalize hW0 : ((((((((W1.alloc (.cells #[.int .i64 p, .int .i64 q] 74)).alloc (.cells #[.int .i64 (-1)] 3)).alloc (.cells #[.int .i64 0] 3)).alloc (.cells #[.int .i64 0] 3)).alloc (.cells #[.int .i64 0] 3)).alloc (.cells #[.slice A hs.length c] 28)).alloc (.cells #[.int .i64 a] 3)).alloc (.cells #[.int .i64 b] 3)) = W0
    have T0 : Below n0 w W0 := by rw [← hW0]; exact (by repeat (first | exact T1 | refine below_ov _ _ ?_ (by first | omega | (simp [ov_size] <;> omega)) | refine Below.alloc ?_ (by first | omega | (simp [ov_size] <;> omega)) _ | refine Below.setCell ?_ (by first | omega | (simp [ov_size] <;> omega)) _ | refine Below.drew ?_ | refine below_drewN ?_ _))
    have s0 : W0.heap.size = W1.heap.size + 1 + 1 + 1 + 1 + 1 + 1 + 1 + 1 := by rw [← hW0]; simp
    have YB : W0.heap[W1.heap.size + 1]? = some (.cells #[.int .i64 (-1)] 3 (0, 0)) := by rw [← hW0]; exact ((heap_old_at (by simp)).trans ((heap_old_at (by simp)).trans ((heap_old_at (by simp)).trans ((heap_old_at (by simp)).trans ((heap_old_at (by simp)).trans ((heap_old_at (by simp)).trans (heap_new_at (by simp) rfl)))))))
    have YA : W0.heap[W1.heap.size + 1 + 1]? = some (.cells #[.int .i64 0] 3 (0, 0)) := by rw [← hW0]; exact ((heap_old_at (by simp)).trans ((heap_old_at (by simp)).trans ((heap_old_at (by simp)).trans ((heap_old_at (by simp)).trans ((heap_old_at (by simp)).trans (heap_new_at (by simp) rfl))))))
    have YN : W0.heap[W1.heap.size + 1 + 1 + 1]? = some (.cells #[.int .i64 0] 3 (0, 0)) := by rw [← hW0]; exact ((heap_old_at (by simp)).trans ((heap_old_at (by simp)).trans ((heap_old_at (by simp)).trans ((heap_old_at (by simp)).trans (heap_new_at (by simp) rfl)))))
    have YD : W0.heap[W1.heap.size + 1 + 1 + 1 + 1]? = some (.cells #[.int .i64 0] 3 (0, 0)) := by rw [← hW0]; exact ((heap_old_at (by simp)).trans ((heap_old_at (by simp)).trans ((heap_old_at (by simp)).trans (heap_new_at (by simp) rfl))))
    have Y1 : W0.heap[W1.heap.size + 1 + 1 + 1 + 1 + 1]? = some (.cells #[.slice A hs.length c] 28 (0, 0)) := by rw [← hW0]; exact ((heap_old_at (by simp)).trans ((heap_old_at (by simp)).trans (heap_new_at (by simp) rfl)))
    have Y2 : W0.heap[W1.heap.size + 1 + 1 + 1 + 1 + 1 + 1]? = some (.cells #[.int .i64 a] 3 (0, 0)) := by rw [← hW0]; exact ((heap_old_at (by simp)).trans (heap_new_at (by simp) rfl))
    have Y3 : W0.heap[W1.heap.size + 1 + 1 + 1 + 1 + 1 + 1 + 1]? = some (.cells #[.int .i64 b] 3 (0, 0)) := by rw [← hW0]; exact (heap_new_at (by simp) rfl)
    have RW := RW1.below (show Below W1.heap.size W1 W0 by rw [← hW0]; exact (by repeat (first | exact Below.refl _ _ | refine below_ov _ _ ?_ (by first | omega | (simp [ov_size] <;> omega)) | refine Below.alloc ?_ (by first | omega | (simp [ov_size] <;> omega)) _ | refine Below.setCell ?_ (by first | omega | (simp [ov_size] <;> omega)) _ | refine Below.drew ?_ | refine below_drewN ?_ _)))
    obtain ⟨n1, en⟩ : ∃ n, W1.heap.size = n := ⟨_, rfl⟩
    have hn01 : n0 ≤ n1 := by omega
    have HB : ∃ bB bA bn bd B1 B2 B3 : Nat, n0 ≤ bB ∧ n0 ≤ bA ∧ n0 ≤ bn ∧ n0 ≤ bd ∧ bB ≠ bA ∧ bB ≠ bn ∧ bB ≠ bd ∧ bA ≠ bn ∧ bA ≠ bd ∧ bn ≠ bd ∧ B2 ≠ bB ∧ B2 ≠ bA ∧ B2 ≠ bn ∧ B2 ≠ bd ∧ B3 ≠ bB ∧ B3 ≠ bA ∧ B3 ≠ bn ∧ B3 ≠ bd ∧ bB < W0.heap.size ∧ bA < W0.heap.size ∧ bn < W0.heap.size ∧ bd < W0.heap.size ∧ n1 + 1 = bB ∧ n1 + 1 + 1 = bA ∧ n1 + 1 + 1 + 1 = bn ∧ n1 + 1 + 1 + 1 + 1 = bd ∧ n1 + 1 + 1 + 1 + 1 + 1 = B1 ∧ n1 + 1 + 1 + 1 + 1 + 1 + 1 = B2 ∧ n1 + 1 + 1 + 1 + 1 + 1 + 1 + 1 = B3 := ⟨_, _, _, _, _, _, _, by omega, by omega, by omega, by omega, by omega, by omega, by omega, by omega, by omega, by omega, by omega, by omega, by omega, by omega, by omega, by omega, by omega, by omega, by omega, by omega, by omega, by omega, rfl, rfl, rfl, rfl, rfl, rfl, rfl⟩
    obtain ⟨bB, bA, bn, bd, B1, B2, B3, c0, c1, c2, c3, c4, c5, c6, c7, c8, c9, c10, c11, c12, c13, c14, c15, c16, c17, c18, c19, c20, c21, e1, e2, e3, e4, e5, e6, e7⟩ := HB
    rw [en] at YB YA YN YD Y1 Y2 Y3 ⊢
    rw [e1] at YB YA YN YD Y1 Y2 Y3 e2 e3 e4 e5 e6 e7 ⊢
    rw [e2] at YA YN YD Y1 Y2 Y3 e3 e4 e5 e6 e7 ⊢
    rw [e3] at YN YD Y1 Y2 Y3 e4 e5 e6 e7 ⊢
    rw [e4] at YD Y1 Y2 Y3 e5 e6 e7 ⊢
    rw [e5] at Y1 Y2 Y3 e6 e7 ⊢
    rw [e6] at Y2 Y3 e7 ⊢
    rw [e7] at Y3  ⊢
    have t0 : n0 ≤ W0.heap.size := by omega
    clear e1 e2 e3 e4 e5 e6 e7 s0 hW0 en RW1 x1 l1 la lb lc ld le T1
    refine wpIn_rangeFunc_ownF rfl (by omega) (gf := 132) (lb := #[.pointer (some ⟨B1, 0, none⟩), .pointer (some ⟨B2, 0, none⟩), .pointer (some ⟨B3, 0, none⟩)]) rfl trivial (enters_of Try.func132 (by kernel_rfl) rfl)
      (values_stops (bs := [bB, bA, bn, bd]) (vs := vs) _ (by omega) kp ha hb RW hvs Y1 Y2 Y3 (fun k hk => by simp at hk; omega) (by simp; omega) (by simp; omega)) (fun h k => kpX_t h k) (fun W l o o' _ hl ho _ => kpX_b W l o o' hl ho) (Below.refl _ _) (fun _ => rfl)
      (fun pre W => (W.heap[bB]? = some (.cells #[.int .i64 (farB (pre.map (·.1)))] 3 (0, 0)) ∧ W.heap[bA]? = some (.cells #[.int .i64 pre.length] 3 (0, 0)) ∧ W.heap[bn]? = some (.cells #[.int .i64 (farN (pre.map (·.1))).1] 3 (0, 0)) ∧ W.heap[bd]? = some (.cells #[.int .i64 (farN (pre.map (·.1))).2] 3 (0, 0))) ∧ Below n0 w W)
      (fun _ _ _ => False)
      (OwnFrom.and (Own.from (fun s A B row hs hg hr => ⟨blk_kept hs.1 hg hr, blk_kept hs.2.1 hg hr, blk_kept hs.2.2.1 hg hr, blk_kept hs.2.2.2 hg hr⟩) _) (ownFrom_below bl0 t0))
      (fun _ _ _ _ _ hs _ _ => hs)
      ⟨⟨YB, YA, YN, YD⟩, T0⟩
      (fun x => { tmps := #[.agg #[.slice A hs.length c], .int .i64 a, .int .i64 b, .pointer (some ⟨n0, 0, none⟩), undef, undef, .int .i64 0, .pointer (some ⟨n1, 0, none⟩), .bool true, .pointer (some ⟨bB, 0, none⟩), .pointer (some ⟨bA, 0, none⟩), .pointer (some ⟨bn, 0, none⟩), .pointer (some ⟨bd, 0, none⟩), .int .i64 x.1.1, .int .i64 x.1.2,
        .tuple #[.agg #[.int .i64 p, .int .i64 q], .bool true], .agg #[.slice A hs.length c], .int .i64 a, .int .i64 b, .tuple #[.agg #[.int .i64 p, .int .i64 q], .bool true], .agg #[.int .i64 p, .int .i64 q], .bool true, .bool true, .bool false, .agg #[.slice A hs.length c], .int .i64 a, .int .i64 b,
        .func (.func 132) #[] #[.pointer (some ⟨B1, 0, none⟩), .pointer (some ⟨B2, 0, none⟩), .pointer (some ⟨B3, 0, none⟩)], .int .i64 x.1.1, .int .i64 x.1.2, undef, undef, undef, undef, undef, undef, undef, undef, undef, undef, undef, undef, undef, undef, undef, undef], defers := [] }) ?assign ?body ?done ?stop
    case assign =>
      intro l x W K hK
      gi_wp2
      exact hK
    case body =>
      rintro l pre x W ⟨⟨hB0, hA0, hn, hd⟩, hB⟩ hlen
      have okp : ∀ y ∈ pre.map (·.1), FrOk y := fun y hy => by obtain ⟨z, _, rfl⟩ := List.mem_map.1 hy; exact z.2
      have hpl : pre.length ≤ 40 := by omega
      obtain ⟨⟨x1, x2⟩, hx⟩ := x
      have F1 := Lib.hid (farN_snoc (x := (x1, x2)) okp)
      have hbd := farN_ok okp
      have HM := Lib.hid (show (pre ++ [(⟨(x1, x2), hx⟩ : FV)]).map (·.1) = pre.map (·.1) ++ [(x1, x2)] by simp)
      have F2 : Hid (farGo (pre.map (·.1)) (x1, x2) = (decide ((farN (pre.map (·.1))).2 = 0) || decide (0 < cmpF x1 x2 (farN (pre.map (·.1))).1 (farN (pre.map (·.1))).2))) := Lib.hid rfl
      obtain ⟨go, hgo⟩ : ∃ go, farGo (pre.map (·.1)) (x1, x2) = go := ⟨_, rfl⟩
      rw [hgo] at F1 F2
      obtain ⟨⟨m, d⟩, hmd⟩ : ∃ s, farN (pre.map (·.1)) = s := ⟨_, rfl⟩
      obtain ⟨bb, hbb⟩ : ∃ s, farB (pre.map (·.1)) = s := ⟨_, rfl⟩
      rw [hmd] at hn hd F1 F2 hbd
      rw [hbb] at hB0 F1 hbd
      rw [List.length_map] at F1 hbd
      simp only at hn hd F2
      have cB := cell_blk (j := 0) (v := .int .i64 bb) hB0 rfl
      have cA := cell_blk (j := 0) (v := .int .i64 pre.length) hA0 rfl
      have cn := cell_blk (j := 0) (v := .int .i64 m) hn rfl
      have cd := cell_blk (j := 0) (v := .int .i64 d) hd rfl
      have fB := frozen_blk (j := 0) hB0
      have fA := frozen_blk (j := 0) hA0
      have fn := frozen_blk (j := 0) hn
      have fd := frozen_blk (j := 0) hd
      have lB := (Array.getElem?_eq_some_iff.1 hB0).1
      have lA := (Array.getElem?_eq_some_iff.1 hA0).1
      have ln := (Array.getElem?_eq_some_iff.1 hn).1
      have ld := (Array.getElem?_eq_some_iff.1 hd).1
      obtain ⟨⟨hx1, hx2⟩, hx3, hx4⟩ := hx
      simp only at hx1 hx2 hx3 hx4
      have hb4 : (bb = -1 ∧ d = 0) ∨ (0 ≤ bb ∧ bb ≤ 40 ∧ FrOk (m, d)) := by
        rcases hbd with ⟨_, h1, h2⟩ | ⟨f, h1, h2, _⟩
        · left; exact ⟨h2, by injection h1⟩
        · right; exact ⟨h1, by omega, f⟩
      clear hbd
      have HM2 : (pre ++ [(⟨(x1, x2), ⟨hx1, hx2⟩, hx3, hx4⟩ : FV)]).map (·.1) = pre.map (·.1) ++ [(x1, x2)] := HM.out
      by_cases hg : go = true
      · subst hg
        have F3 := Lib.hid (show farN ((pre ++ [(⟨(x1, x2), ⟨hx1, hx2⟩, hx3, hx4⟩ : FV)]).map (·.1)) = (x1, x2) by rw [HM2, F1.out.1, if_pos rfl])
        have F4 := Lib.hid (show farB ((pre ++ [(⟨(x1, x2), ⟨hx1, hx2⟩, hx3, hx4⟩ : FV)]).map (·.1)) = (pre.length : Int) by rw [HM2, F1.out.2, if_pos rfl])
        have NEW : Hid (KeepsOthers W ((((W.setCell ⟨bB, 0, none⟩ (.int .i64 pre.length)).setCell ⟨bn, 0, none⟩ (.int .i64 x1)).setCell ⟨bd, 0, none⟩ (.int .i64 x2)).setCell ⟨bA, 0, none⟩ (.int .i64 (pre.length + 1))) ∧ KpX [bB, bA, bn, bd] W ((((W.setCell ⟨bB, 0, none⟩ (.int .i64 pre.length)).setCell ⟨bn, 0, none⟩ (.int .i64 x1)).setCell ⟨bd, 0, none⟩ (.int .i64 x2)).setCell ⟨bA, 0, none⟩ (.int .i64 (pre.length + 1))) ∧
            (((((W.setCell ⟨bB, 0, none⟩ (.int .i64 pre.length)).setCell ⟨bn, 0, none⟩ (.int .i64 x1)).setCell ⟨bd, 0, none⟩ (.int .i64 x2)).setCell ⟨bA, 0, none⟩ (.int .i64 (pre.length + 1))).heap[bB]? = some (.cells #[.int .i64 pre.length] 3 (0, 0)) ∧ ((((W.setCell ⟨bB, 0, none⟩ (.int .i64 pre.length)).setCell ⟨bn, 0, none⟩ (.int .i64 x1)).setCell ⟨bd, 0, none⟩ (.int .i64 x2)).setCell ⟨bA, 0, none⟩ (.int .i64 (pre.length + 1))).heap[bA]? = some (.cells #[.int .i64 ((pre.length + 1 : Nat) : Int)] 3 (0, 0)) ∧ ((((W.setCell ⟨bB, 0, none⟩ (.int .i64 pre.length)).setCell ⟨bn, 0, none⟩ (.int .i64 x1)).setCell ⟨bd, 0, none⟩ (.int .i64 x2)).setCell ⟨bA, 0, none⟩ (.int .i64 (pre.length + 1))).heap[bn]? = some (.cells #[.int .i64 x1] 3 (0, 0)) ∧ ((((W.setCell ⟨bB, 0, none⟩ (.int .i64 pre.length)).setCell ⟨bn, 0, none⟩ (.int .i64 x1)).setCell ⟨bd, 0, none⟩ (.int .i64 x2)).setCell ⟨bA, 0, none⟩ (.int .i64 (pre.length + 1))).heap[bd]? = some (.cells #[.int .i64 x2] 3 (0, 0))) ∧ Below n0 w ((((W.setCell ⟨bB, 0, none⟩ (.int .i64 pre.length)).setCell ⟨bn, 0, none⟩ (.int .i64 x1)).setCell ⟨bd, 0, none⟩ (.int .i64 x2)).setCell ⟨bA, 0, none⟩ (.int .i64 (pre.length + 1)))) := by
          refine Lib.hid ⟨(((KeepsOthers.setCell _ _ _).trans (KeepsOthers.setCell _ _ _)).trans (KeepsOthers.setCell _ _ _)).trans (KeepsOthers.setCell _ _ _), kpX_set (kpX_set (kpX_set (kpX_set (kpX_refl W) (b := bB) (by simp) 0 _) (b := bn) (by simp) 0 _) (b := bd) (by simp) 0 _) (b := bA) (by simp) 0 _, ⟨?_, ?_, ?_, ?_⟩,
            (((hB.setCell (p := ⟨bB, 0, none⟩) c0 _).setCell (p := ⟨bn, 0, none⟩) c2 _).setCell (p := ⟨bd, 0, none⟩) c3 _).setCell (p := ⟨bA, 0, none⟩) c1 _⟩
          · exact (heap_setCell_other _ ⟨bA, 0, none⟩ _ _ (show bB ≠ bA from c4)).trans ((heap_setCell_other _ ⟨bd, 0, none⟩ _ _ (show bB ≠ bd from c6)).trans ((heap_setCell_other _ ⟨bn, 0, none⟩ _ _ (show bB ≠ bn from c5)).trans (heap_setCell_same _ _ _ _ _ _ hB0)))
          · exact heap_setCell_same _ _ _ _ _ _ ((heap_setCell_other _ ⟨bd, 0, none⟩ _ _ (show bA ≠ bd from c8)).trans ((heap_setCell_other _ ⟨bn, 0, none⟩ _ _ (show bA ≠ bn from c7)).trans ((heap_setCell_other _ ⟨bB, 0, none⟩ _ _ (show bA ≠ bB from (Ne.symm c4))).trans hA0)))
          · exact (heap_setCell_other _ ⟨bA, 0, none⟩ _ _ (show bn ≠ bA from (Ne.symm c7))).trans ((heap_setCell_other _ ⟨bd, 0, none⟩ _ _ (show bn ≠ bd from c9)).trans (heap_setCell_same _ _ _ _ _ _ ((heap_setCell_other _ ⟨bB, 0, none⟩ _ _ (show bn ≠ bB from (Ne.symm c5))).trans hn)))
          · exact (heap_setCell_other _ ⟨bA, 0, none⟩ _ _ (show bd ≠ bA from (Ne.symm c8))).trans (heap_setCell_same _ _ _ _ _ _ ((heap_setCell_other _ ⟨bn, 0, none⟩ _ _ (show bd ≠ bn from (Ne.symm c9))).trans ((heap_setCell_other _ ⟨bB, 0, none⟩ _ _ (show bd ≠ bB from (Ne.symm c6))).trans hd)))
        rcases hb4 with ⟨rfl, rfl⟩ | ⟨hb5, hb6, ⟨hf1, hf2⟩, hf3, hf4⟩
        · clear F1 F2 hn hd hB0 hA0 hB HM hmd hbb hgo okp
          gi_wp2
          refine ⟨trivial, ?_⟩
          gi_wp2
          exact ⟨NEW.out.1, NEW.out.2.1, ⟨⟨by rw [F4.out]; exact NEW.out.2.2.1.1, by rw [List.length_append]; exact NEW.out.2.2.1.2.1, by rw [F3.out]; exact NEW.out.2.2.1.2.2.1, by rw [F3.out]; exact NEW.out.2.2.1.2.2.2⟩, NEW.out.2.2.2⟩⟩
        · simp only at hf1 hf2 hf3 hf4
          have hc : 0 < cmpF x1 x2 m d := by have := F2.out; rw [decide_eq_false (show ¬ d = 0 by omega), Bool.false_or] at this; exact of_decide_eq_true this.symm
          clear F1 F2 hn hd hB0 hA0 hB HM hmd hbb hgo okp
          gi_wp2_with (refine ⟨trivial, ?_⟩; gi_at_call 101; refine (CallsIn.inRound l (callsIn_wide.2 (compareFractions_any x1 x2 m d _ (by omega) (by omega) (by omega) (by omega)))).mono ?_; rintro e w' ⟨rfl, rfl⟩)
          exact ⟨NEW.out.1, NEW.out.2.1, ⟨⟨by rw [F4.out]; exact NEW.out.2.2.1.1, by rw [List.length_append]; exact NEW.out.2.2.1.2.1, by rw [F3.out]; exact NEW.out.2.2.1.2.2.1, by rw [F3.out]; exact NEW.out.2.2.1.2.2.2⟩, NEW.out.2.2.2⟩⟩
      · obtain rfl : go = false := by simpa using hg
        have F3 := Lib.hid (show farN ((pre ++ [(⟨(x1, x2), ⟨hx1, hx2⟩, hx3, hx4⟩ : FV)]).map (·.1)) = (m, d) by rw [HM2, F1.out.1, if_neg (by simp)])
        have F4 := Lib.hid (show farB ((pre ++ [(⟨(x1, x2), ⟨hx1, hx2⟩, hx3, hx4⟩ : FV)]).map (·.1)) = bb by rw [HM2, F1.out.2, if_neg (by simp)])
        have h2 := F2.out.symm
        rw [Bool.or_eq_false_iff] at h2
        have d0 : ¬ d = 0 := of_decide_eq_false h2.1
        have hc : ¬ 0 < cmpF x1 x2 m d := of_decide_eq_false h2.2
        obtain ⟨hb5, hb6, ⟨hf1, hf2⟩, hf3, hf4⟩ := hb4.resolve_left (fun h => d0 h.2)
        simp only at hf1 hf2 hf3 hf4
        have NEW : Hid (KeepsOthers W (W.setCell ⟨bA, 0, none⟩ (.int .i64 (pre.length + 1))) ∧ KpX [bB, bA, bn, bd] W (W.setCell ⟨bA, 0, none⟩ (.int .i64 (pre.length + 1))) ∧
            ((W.setCell ⟨bA, 0, none⟩ (.int .i64 (pre.length + 1))).heap[bB]? = some (.cells #[.int .i64 bb] 3 (0, 0)) ∧ (W.setCell ⟨bA, 0, none⟩ (.int .i64 (pre.length + 1))).heap[bA]? = some (.cells #[.int .i64 ((pre.length + 1 : Nat) : Int)] 3 (0, 0)) ∧ (W.setCell ⟨bA, 0, none⟩ (.int .i64 (pre.length + 1))).heap[bn]? = some (.cells #[.int .i64 m] 3 (0, 0)) ∧ (W.setCell ⟨bA, 0, none⟩ (.int .i64 (pre.length + 1))).heap[bd]? = some (.cells #[.int .i64 d] 3 (0, 0))) ∧ Below n0 w (W.setCell ⟨bA, 0, none⟩ (.int .i64 (pre.length + 1)))) := by
          refine Lib.hid ⟨KeepsOthers.setCell _ _ _, kpX_set (kpX_refl W) (b := bA) (by simp) 0 _, ⟨?_, ?_, ?_, ?_⟩, hB.setCell (p := ⟨bA, 0, none⟩) c1 _⟩
          · exact (heap_setCell_other _ ⟨bA, 0, none⟩ _ _ (show bB ≠ bA from c4)).trans hB0
          · exact heap_setCell_same _ _ _ _ _ _ hA0
          · exact (heap_setCell_other _ ⟨bA, 0, none⟩ _ _ (show bn ≠ bA from (Ne.symm c7))).trans hn
          · exact (heap_setCell_other _ ⟨bA, 0, none⟩ _ _ (show bd ≠ bA from (Ne.symm c8))).trans hd
        clear d0 h2 hg
        clear F1 F2 hn hd hB0 hA0 hB HM hmd hbb hgo okp
        gi_wp2_with (refine ⟨trivial, ?_⟩; gi_at_call 101; refine (CallsIn.inRound l (callsIn_wide.2 (compareFractions_any x1 x2 m d _ (by omega) (by omega) (by omega) (by omega)))).mono ?_; rintro e w' ⟨rfl, rfl⟩)
        exact ⟨NEW.out.1, NEW.out.2.1, ⟨⟨by rw [F4.out]; exact NEW.out.2.2.1.1, by rw [List.length_append]; exact NEW.out.2.2.1.2.1, by rw [F3.out]; exact NEW.out.2.2.1.2.2.1, by rw [F3.out]; exact NEW.out.2.2.1.2.2.2⟩, NEW.out.2.2.2⟩⟩
    case done =>
      rintro D ys W hD hys ⟨⟨hB0, hA0, hn, hd⟩, hB⟩ hK
      have hys' : ys = vs := hys
      rw [hys'] at hB0
      rw [HRR.out] at hB0
      clear hys hys'
      have cB := cell_blk (j := 0) (v := .int .i64 k) hB0 rfl
      have lB := (Array.getElem?_eq_some_iff.1 hB0).1
      gi_wp2
      refine ⟨by simp, .inl ⟨_, _, rfl, run_takeDeferred hK, ?_⟩⟩
      exact ⟨_, results_tmp rfl _ _ _, rfl, by rw [HEN.out]; exact hB.trans (belowK_b (w := w) bl0 W D _ _ (by have := HEN.out; omega) hK rfl rfl)⟩
    case stop =>
      rintro D c pre W _ _ h _
      exact h.elim
end Go.Proofs.Ytnenlgaafiifpaa
