/- Several texts in one: Hf, Mv, Sf. Each says its own conditions. -/
import Derived.Test.YtabmfaamadbefaaGreatSp
import Derived.Test.YtabmfaamadbefaaGreatH
import Derived.Test.YtabmfaamadbefaaGreatCu
/- Contracts of HalfOf, of the program and of the reference. Condition: the arguments are ints. -/
set_option linter.unusedSimpArgs false
set_option linter.unusedVariables false
set_option linter.unusedSectionVars false
namespace Go.Proofs.YtabmfaamadbefaaGreat
open Go.RowKit
def leastI : Int := -9223372036854775808
def halfBad (a b c : Int) : Prop := a = -9223372036854775808 ∨ b = -9223372036854775808 ∨ c = -9223372036854775808 ∨ (a = 0 ∧ b = 0)
instance (a b c : Int) : Decidable (halfBad a b c) := by unfold halfBad; exact inferInstance
def halfOf (a b c : Int) : H3 × Bool :=
  if halfBad a b c then (⟨0, 0, 0⟩, false)
  else if halfOk ⟨a / (gcdL [a, b, c] : Int), b / (gcdL [a, b, c] : Int), c / (gcdL [a, b, c] : Int)⟩ then (⟨a / (gcdL [a, b, c] : Int), b / (gcdL [a, b, c] : Int), c / (gcdL [a, b, c] : Int)⟩, true)
  else (⟨0, 0, 0⟩, false)
theorem gcd3_parts {a b c : Int} (h : ¬ (a = 0 ∧ b = 0 ∧ c = 0)) : ∃ (g : Nat) (x y z : Int), gcdL [a, b, c] = g ∧ 0 < g ∧ a = x * g ∧ b = y * g ∧ c = z * g ∧ a / (g : Int) = x ∧ b / (g : Int) = y ∧ c / (g : Int) = z := by
  obtain ⟨h1, h2, h3⟩ := gcdL3_dvd a b c
  refine ⟨gcdL [a, b, c], a / (gcdL [a, b, c] : Int), b / (gcdL [a, b, c] : Int), c / (gcdL [a, b, c] : Int), rfl, ?_, (Int.ediv_mul_cancel h1).symm, (Int.ediv_mul_cancel h2).symm, (Int.ediv_mul_cancel h3).symm, rfl, rfl, rfl⟩
  rcases Nat.eq_zero_or_pos (gcdL [a, b, c]) with h0 | h0
  · exfalso
    rw [h0] at h1 h2 h3
    exact h ⟨Int.zero_dvd.1 (by simpa using h1), Int.zero_dvd.1 (by simpa using h2), Int.zero_dvd.1 (by simpa using h3)⟩
  · exact h0
theorem gcdL_zero3 : gcdL [0, 0, 0] = 0 := rfl
theorem halfOk_zero {c : Int} : halfOk ⟨0, 0, c⟩ = false := by simp [halfOk]
theorem halfOf_bad {a b c : Int} (h : halfBad a b c) : halfOf a b c = (⟨0, 0, 0⟩, false) := by unfold halfOf; rw [if_pos h]
theorem halfOf_red {a b c x y z : Int} {g : Nat} (h : ¬ halfBad a b c) (e : gcdL [a, b, c] = g) (qx : a / (g : Int) = x) (qy : b / (g : Int) = y) (qz : c / (g : Int) = z) :
    halfOf a b c = if halfOk ⟨x, y, z⟩ then (⟨x, y, z⟩, true) else (⟨0, 0, 0⟩, false) := by unfold halfOf; rw [if_neg h, e, qx, qy, qz]
def halfV (p : H3 × Bool) : Value := .tuple #[.agg #[.int .i64 p.1.a, .int .i64 p.1.b, .int .i64 p.1.c], .bool p.2]

set_option maxHeartbeats 4000000 in
theorem impl_HalfOf_any (a b c : Int) (w : World) (ha : -9223372036854775808 ≤ a ∧ a ≤ 9223372036854775807) (hb : -9223372036854775808 ≤ b ∧ b ≤ 9223372036854775807) (hc : -9223372036854775808 ≤ c ∧ c ≤ 9223372036854775807) :
    Calls Tryz.prog 101 #[.int .i64 a, .int .i64 b, .int .i64 c] w fun e w' => e = .returned (halfV (halfOf a b c)) ∧ Below w.heap.size w w' := by
  by_cases hz : a = 0 ∧ b = 0 ∧ c = 0
  · obtain ⟨rfl, rfl, rfl⟩ := hz
    rw [halfOf_bad (.inr (.inr (.inr ⟨rfl, rfl⟩)))]
    have eg : gcdL [0, 0, 0] = 0 := rfl
    go_enter Tryz.func101, Tryz.ntmps101
    go_wp2_with ((go_at_call 70; refine (gcd3_eq (g := 0) eg (by simp) ha hb hc).mono ?_; rintro e w' ⟨rfl, n, rfl⟩))
    refine bodyPost_ret (v := halfV (⟨0, 0, 0⟩, false)) (by simp [results, Tryz.results101, go_sem, halfV]) rfl ⟨rfl, ?_⟩
    (repeat (first | exact bR | refine bO ?_ | refine bA ?_ | refine bS ?_ | refine bD ?_ | refine bN ?_))
  · obtain ⟨g, r, s, t, eg, g0, ea, eb, ec, qx, qy, qz⟩ := gcd3_parts hz
    have gz : ((g : Int) == 0) = false := by simp; omega
    have EA := Lib.hid ea
    have EB := Lib.hid eb
    have EC := Lib.hid ec
    by_cases hl : a = -9223372036854775808 ∨ b = -9223372036854775808 ∨ c = -9223372036854775808
    · rw [halfOf_bad (show halfBad a b c from hl.elim .inl fun h => h.elim (fun h => .inr (.inl h)) fun h => .inr (.inr (.inl h)))]
      clear ea eb ec qx qy qz
      by_cases h1 : a = -9223372036854775808
      · have LA := Lib.hid h1
        clear hl h1
        go_enter Tryz.func101, Tryz.ntmps101
        go_wp2_with (first | (go_at_call 70; refine (gcd3_eq eg (by simp) ha hb hc).mono ?_; rintro e w' ⟨rfl, n, rfl⟩) | (go_at_call 74; refine (isLeast_f (by omega) (by omega)).mono ?_; rintro e w' ⟨rfl, rfl⟩) | (go_at_call 74; refine (isLeast_t (by exact LA.out) (by omega)).mono ?_; rintro e w' ⟨rfl, rfl⟩))
        refine bodyPost_ret (v := halfV (⟨0, 0, 0⟩, false)) (by simp [results, Tryz.results101, go_sem, halfV]) rfl ⟨rfl, ?_⟩
        (repeat (first | exact bR | refine bO ?_ | refine bA ?_ | refine bS ?_ | refine bD ?_ | refine bN ?_))
      · by_cases h2 : b = -9223372036854775808
        · have LA := Lib.hid h2
          clear hl h2
          go_enter Tryz.func101, Tryz.ntmps101
          go_wp2_with (first | (go_at_call 70; refine (gcd3_eq eg (by simp) ha hb hc).mono ?_; rintro e w' ⟨rfl, n, rfl⟩) | (go_at_call 74; refine (isLeast_f (by omega) (by omega)).mono ?_; rintro e w' ⟨rfl, rfl⟩) | (go_at_call 74; refine (isLeast_t (by exact LA.out) (by omega)).mono ?_; rintro e w' ⟨rfl, rfl⟩))
          refine bodyPost_ret (v := halfV (⟨0, 0, 0⟩, false)) (by simp [results, Tryz.results101, go_sem, halfV]) rfl ⟨rfl, ?_⟩
          (repeat (first | exact bR | refine bO ?_ | refine bA ?_ | refine bS ?_ | refine bD ?_ | refine bN ?_))
        · have LA : Hid (c = -9223372036854775808) := Lib.hid (by omega)
          clear hl
          go_enter Tryz.func101, Tryz.ntmps101
          go_wp2_with (first | (go_at_call 70; refine (gcd3_eq eg (by simp) ha hb hc).mono ?_; rintro e w' ⟨rfl, n, rfl⟩) | (go_at_call 74; refine (isLeast_f (by omega) (by omega)).mono ?_; rintro e w' ⟨rfl, rfl⟩) | (go_at_call 74; refine (isLeast_t (by exact LA.out) (by omega)).mono ?_; rintro e w' ⟨rfl, rfl⟩))
          refine bodyPost_ret (v := halfV (⟨0, 0, 0⟩, false)) (by simp [results, Tryz.results101, go_sem, halfV]) rfl ⟨rfl, ?_⟩
          (repeat (first | exact bR | refine bO ?_ | refine bA ?_ | refine bS ?_ | refine bD ?_ | refine bN ?_))
    · have h1 : a ≠ -9223372036854775808 := fun h => hl (.inl h)
      have h2 : b ≠ -9223372036854775808 := fun h => hl (.inr (.inl h))
      have h3 : c ≠ -9223372036854775808 := fun h => hl (.inr (.inr h))
      have bx := mul_le_bd (a := r) (M := 9223372036854775807) g0 (by omega) (by rw [← ea]; omega)
      have bY := mul_le_bd (a := s) (M := 9223372036854775807) g0 (by omega) (by rw [← eb]; omega)
      have bz := mul_le_bd (a := t) (M := 9223372036854775807) g0 (by omega) (by rw [← ec]; omega)
      have HE : Hid (halfOf a b c = if halfOk ⟨r, s, t⟩ then (⟨r, s, t⟩, true) else (⟨0, 0, 0⟩, false)) := Lib.hid (by
        by_cases hab : a = 0 ∧ b = 0
        · rw [halfOf_bad (.inr (.inr (.inr hab)))]
          have ex : r = 0 := by rw [← qx, hab.1]; simp
          have ey : s = 0 := by rw [← qy, hab.2]; simp
          rw [ex, ey, halfOk_zero, if_neg (by simp)]
        · exact halfOf_red (fun h => h.elim h1 fun h => h.elim h2 fun h => h.elim h3 hab) eg qx qy qz)
      clear hl hz ea eb ec qx qy qz
      cases hk : halfOk ⟨r, s, t⟩ with
      | true =>
        rw [HE.out, hk, if_pos rfl]
        have HK : ∀ w, _ := fun w => impl_HalfOk_eq (w := w) hk
        clear HE
        go_enter Tryz.func101, Tryz.ntmps101
        go_wp2_with (first | (go_at_call 70; refine (gcd3_eq eg (by simp) ha hb hc).mono ?_; rintro e w' ⟨rfl, n, rfl⟩) | (go_at_call 74; refine (isLeast_f (by omega) (by omega)).mono ?_; rintro e w' ⟨rfl, rfl⟩) | (go_at_call 131; refine (divided_eq (by exact EA.out) g0 (by omega)).mono ?_; rintro e w' ⟨rfl, rfl⟩) | (go_at_call 131; refine (divided_eq (by exact EB.out) g0 (by omega)).mono ?_; rintro e w' ⟨rfl, rfl⟩) | (go_at_call 131; refine (divided_eq (by exact EC.out) g0 (by omega)).mono ?_; rintro e w' ⟨rfl, rfl⟩) | (go_at_call 55; (first | (with_reducible refine (calls_ov2 (HK _)).mono ?_) | refine (calls_ov (HK _)).mono ?_); rintro e w' ⟨rfl, x, rfl⟩))
        refine bodyPost_ret (v := halfV (⟨r, s, t⟩, true)) (by simp [results, Tryz.results101, go_sem, halfV]) rfl ⟨rfl, ?_⟩
        (repeat (first | exact bR | refine bO ?_ | refine bA ?_ | refine bS ?_ | refine bD ?_ | refine bN ?_))
      | false =>
        rw [HE.out, hk, if_neg (by simp)]
        have HK : ∀ w, _ := fun w => impl_HalfOk_eq (w := w) hk
        clear HE
        go_enter Tryz.func101, Tryz.ntmps101
        go_wp2_with (first | (go_at_call 70; refine (gcd3_eq eg (by simp) ha hb hc).mono ?_; rintro e w' ⟨rfl, n, rfl⟩) | (go_at_call 74; refine (isLeast_f (by omega) (by omega)).mono ?_; rintro e w' ⟨rfl, rfl⟩) | (go_at_call 131; refine (divided_eq (by exact EA.out) g0 (by omega)).mono ?_; rintro e w' ⟨rfl, rfl⟩) | (go_at_call 131; refine (divided_eq (by exact EB.out) g0 (by omega)).mono ?_; rintro e w' ⟨rfl, rfl⟩) | (go_at_call 131; refine (divided_eq (by exact EC.out) g0 (by omega)).mono ?_; rintro e w' ⟨rfl, rfl⟩) | (go_at_call 55; (first | (with_reducible refine (calls_ov2 (HK _)).mono ?_) | refine (calls_ov (HK _)).mono ?_); rintro e w' ⟨rfl, x, rfl⟩))
        refine bodyPost_ret (v := halfV (⟨0, 0, 0⟩, false)) (by simp [results, Tryz.results101, go_sem, halfV]) rfl ⟨rfl, ?_⟩
        (repeat (first | exact bR | refine bO ?_ | refine bA ?_ | refine bS ?_ | refine bD ?_ | refine bN ?_))

set_option maxHeartbeats 4000000 in
theorem spec_HalfOf_any (a b c : Int) (w : World) (ha : -9223372036854775808 ≤ a ∧ a ≤ 9223372036854775807) (hb : -9223372036854775808 ≤ b ∧ b ≤ 9223372036854775807) (hc : -9223372036854775808 ≤ c ∧ c ≤ 9223372036854775807) :
    Calls Tryz.prog 84 #[.int .i64 a, .int .i64 b, .int .i64 c] w fun e w' => e = .returned (halfV (halfOf a b c)) ∧ Below w.heap.size w w' := by
  have one : ∀ n : Int, n ≠ -9223372036854775808 → -9223372036854775808 ≤ n → gcdS n 1 = 1 := fun n h1 h2 => by rw [gcdS_eq _ _ (by omega) (by omega)]; simp
  by_cases h1 : a = -9223372036854775808
  · rw [halfOf_bad (.inl h1)]
    have ga : gcdS a 1 = 0 := by rw [h1]; exact gcdS_least_left 1
    clear h1
    go_enter Tryz.func84, Tryz.ntmps84
    go_wp2_with ((go_at_call 114; refine (spec_GcdOf_eq (by assumption) (by omega) (by omega) (by omega) (by omega)).mono ?_; rintro e w' ⟨rfl, n, rfl⟩))
    refine bodyPost_ret (v := halfV (⟨0, 0, 0⟩, false)) (by simp [results, Tryz.results84, go_sem, halfV]) rfl ⟨rfl, ?_⟩
    (repeat (first | exact bR | refine bO ?_ | refine bA ?_ | refine bS ?_ | refine bD ?_ | refine bN ?_))
  · have ga := one a h1 ha.1
    by_cases h2 : b = -9223372036854775808
    · rw [halfOf_bad (.inr (.inl h2))]
      have gb : gcdS b 1 = 0 := by rw [h2]; exact gcdS_least_left 1
      clear h2
      go_enter Tryz.func84, Tryz.ntmps84
      go_wp2_with ((go_at_call 114; refine (spec_GcdOf_eq (by assumption) (by omega) (by omega) (by omega) (by omega)).mono ?_; rintro e w' ⟨rfl, n, rfl⟩))
      refine bodyPost_ret (v := halfV (⟨0, 0, 0⟩, false)) (by simp [results, Tryz.results84, go_sem, halfV]) rfl ⟨rfl, ?_⟩
      (repeat (first | exact bR | refine bO ?_ | refine bA ?_ | refine bS ?_ | refine bD ?_ | refine bN ?_))
    · have gb := one b h2 hb.1
      by_cases h3 : c = -9223372036854775808
      · rw [halfOf_bad (.inr (.inr (.inl h3)))]
        have gc : gcdS c 1 = 0 := by rw [h3]; exact gcdS_least_left 1
        clear h3
        go_enter Tryz.func84, Tryz.ntmps84
        go_wp2_with ((go_at_call 114; refine (spec_GcdOf_eq (by assumption) (by omega) (by omega) (by omega) (by omega)).mono ?_; rintro e w' ⟨rfl, n, rfl⟩))
        refine bodyPost_ret (v := halfV (⟨0, 0, 0⟩, false)) (by simp [results, Tryz.results84, go_sem, halfV]) rfl ⟨rfl, ?_⟩
        (repeat (first | exact bR | refine bO ?_ | refine bA ?_ | refine bS ?_ | refine bD ?_ | refine bN ?_))
      · have gc := one c h3 hc.1
        by_cases hab : a = 0 ∧ b = 0
        · rw [halfOf_bad (.inr (.inr (.inr hab)))]
          have za : (a == 0) = true := by simp [hab.1]
          have zb : (b == 0) = true := by simp [hab.2]
          clear hab
          go_enter Tryz.func84, Tryz.ntmps84
          go_wp2_with ((go_at_call 114; refine (spec_GcdOf_eq (by assumption) (by omega) (by omega) (by omega) (by omega)).mono ?_; rintro e w' ⟨rfl, n, rfl⟩))
          refine bodyPost_ret (v := halfV (⟨0, 0, 0⟩, false)) (by simp [results, Tryz.results84, go_sem, halfV]) rfl ⟨rfl, ?_⟩
          (repeat (first | exact bR | refine bO ?_ | refine bA ?_ | refine bS ?_ | refine bD ?_ | refine bN ?_))
        · obtain ⟨u, hu⟩ : ∃ u, gcdS a b = u := ⟨_, rfl⟩
          have ub := gcdS_bd a b ha.2 hb.2
          rw [hu] at ub
          obtain ⟨g, r, s, t, eg, g0, ea, eb, ec, qx, qy, qz⟩ := gcd3_parts (a := a) (b := b) (c := c) (fun h => hab ⟨h.1, h.2.1⟩)
          have hG : gcdS u c = (g : Int) := by rw [← hu, gcdS3 a b c (by omega) (by omega) (by omega), eg]
          have HE := Lib.hid (halfOf_red (fun h => h.elim h1 fun h => h.elim h2 fun h => h.elim h3 hab) eg qx qy qz)
          have bx := mul_le_bd (a := r) (M := 9223372036854775807) g0 (by omega) (by rw [← ea]; omega)
          have bY := mul_le_bd (a := s) (M := 9223372036854775807) g0 (by omega) (by rw [← eb]; omega)
          have bz := mul_le_bd (a := t) (M := 9223372036854775807) g0 (by omega) (by rw [← ec]; omega)
          have tx := tdiv_exact g0 ea
          have ty := tdiv_exact g0 eb
          have tz := tdiv_exact g0 ec
          have gz : ((g : Int) == 0) = false := by simp; omega
          have wx : IntKind.i64.wrap r = r := by rw [IntKind.wrap_i64]; omega
          have wy : IntKind.i64.wrap s = s := by rw [IntKind.wrap_i64]; omega
          have wz : IntKind.i64.wrap t = t := by rw [IntKind.wrap_i64]; omega
          have hab' : (a == 0) = false ∨ ((a == 0) = true ∧ (b == 0) = false) := by
            by_cases h : a = 0
            · right; exact ⟨by simp [h], by simp; exact fun h' => hab ⟨h, h'⟩⟩
            · left; simp [h]
          clear qx qy qz ea eb ec eg hab one
          cases hk : halfOk ⟨r, s, t⟩ with
          | true =>
            rw [HE.out, hk, if_pos rfl]
            have HK : ∀ w, _ := fun w => spec_HalfOk_eq (w := w) hk
            clear HE
            rcases hab' with za | ⟨za, zb⟩
            all_goals
              go_enter Tryz.func84, Tryz.ntmps84
              go_wp2_with ((go_at_call 114; refine (spec_GcdOf_eq (by assumption) (by omega) (by omega) (by omega) (by omega)).mono ?_; rintro e w' ⟨rfl, n, rfl⟩))
              go_region
              all_goals go_wp2_with (first | (go_at_call 115; (first | (with_reducible refine (calls_ov2 (HK _)).mono ?_) | refine (calls_ov (HK _)).mono ?_); rintro e w' ⟨rfl, x, rfl⟩))
              refine bodyPost_ret (v := halfV (⟨r, s, t⟩, true)) (by simp [results, Tryz.results84, go_sem, halfV]) rfl ⟨rfl, ?_⟩
              (repeat (first | exact bR | refine bO ?_ | refine bA ?_ | refine bS ?_ | refine bD ?_ | refine bN ?_))
          | false =>
            rw [HE.out, hk, if_neg (by simp)]
            have HK : ∀ w, _ := fun w => spec_HalfOk_eq (w := w) hk
            clear HE
            rcases hab' with za | ⟨za, zb⟩
            all_goals
              go_enter Tryz.func84, Tryz.ntmps84
              go_wp2_with ((go_at_call 114; refine (spec_GcdOf_eq (by assumption) (by omega) (by omega) (by omega) (by omega)).mono ?_; rintro e w' ⟨rfl, n, rfl⟩))
              go_region
              all_goals go_wp2_with (first | (go_at_call 115; (first | (with_reducible refine (calls_ov2 (HK _)).mono ?_) | refine (calls_ov (HK _)).mono ?_); rintro e w' ⟨rfl, x, rfl⟩))
              refine bodyPost_ret (v := halfV (⟨0, 0, 0⟩, false)) (by simp [results, Tryz.results84, go_sem, halfV]) rfl ⟨rfl, ?_⟩
              (repeat (first | exact bR | refine bO ?_ | refine bA ?_ | refine bS ?_ | refine bD ?_ | refine bN ?_))
theorem impl_HalfOf_eq {a b c : Int} {h : H3} {ok : Bool} {w : World} (e : Hid (halfOf a b c = (h, ok))) (ha : -9223372036854775808 ≤ a ∧ a ≤ 9223372036854775807) (hb : -9223372036854775808 ≤ b ∧ b ≤ 9223372036854775807) (hc : -9223372036854775808 ≤ c ∧ c ≤ 9223372036854775807) :
    Calls Tryz.prog 101 #[.int .i64 a, .int .i64 b, .int .i64 c] w fun en w' => en = .returned (.tuple #[.agg #[.int .i64 h.a, .int .i64 h.b, .int .i64 h.c], .bool ok]) ∧ Below w.heap.size w w' := by
  have := impl_HalfOf_any a b c w ha hb hc
  rw [e.out] at this; exact this
theorem spec_HalfOf_eq {a b c : Int} {h : H3} {ok : Bool} {w : World} (e : Hid (halfOf a b c = (h, ok))) (ha : -9223372036854775808 ≤ a ∧ a ≤ 9223372036854775807) (hb : -9223372036854775808 ≤ b ∧ b ≤ 9223372036854775807) (hc : -9223372036854775808 ≤ c ∧ c ≤ 9223372036854775807) :
    Calls Tryz.prog 84 #[.int .i64 a, .int .i64 b, .int .i64 c] w fun en w' => en = .returned (.tuple #[.agg #[.int .i64 h.a, .int .i64 h.b, .int .i64 h.c], .bool ok]) ∧ Below w.heap.size w w' := by
  have := spec_HalfOf_any a b c w ha hb hc
  rw [e.out] at this; exact this
end Go.Proofs.YtabmfaamadbefaaGreat
/- Contracts of MirrorRegion, of the program and of the reference. No condition but that lengths are ints. -/
set_option linter.unusedSimpArgs false
set_option linter.unusedVariables false
set_option linter.unusedSectionVars false
namespace Go.Proofs.YtabmfaamadbefaaGreat
open Go.RowKit
def mirH (g : H3) : H3 := ⟨-g.a, -g.b, g.c⟩
theorem mirH_ok {g : H3} (k : HOk g) : HOk (mirH g) := by
  have h1 := k.ba
  have h2 := k.bb
  refine ⟨?_, ?_, k.bc, ?_, ?_⟩
  · show -50000 ≤ -g.a ∧ -g.a ≤ 50000; omega
  · show -50000 ≤ -g.b ∧ -g.b ≤ 50000; omega
  · have := k.nz
    unfold NZ at *
    show -g.a ≠ 0 ∨ -g.b ≠ 0
    omega
  · have := k.prim
    unfold Prim at *
    rw [gcdL3] at *
    show Nat.gcd (Nat.gcd (-g.a).natAbs (-g.b).natAbs) g.c.natAbs = 1
    rw [Int.natAbs_neg, Int.natAbs_neg]; exact this
theorem halfOf_mir {g : H3} (k : HOk g) : halfOf (-g.a) (-g.b) g.c = (mirH g, true) := by
  have h1 := k.ba
  have h2 := k.bb
  have h3 := k.bc
  have hn := k.nz
  have hp := (mirH_ok k).prim
  unfold Prim at hp
  have e : gcdL [-g.a, -g.b, g.c] = 1 := hp
  rw [halfOf_red (g := 1) (x := -g.a) (y := -g.b) (z := g.c) (by unfold halfBad NZ at *; omega) e (by simp) (by simp) (by simp)]
  exact if_pos ((halfOk_iff _).2 (mirH_ok k))
theorem own_slice2 {B k : Nat} {E : TypeId} {w : World} {v : Value} {o l : List H3} {x : H3} (hl : l = o ++ [x]) (ho : o.length = k) (h : w.ownsRow B E 3 v (k + 1) (cells3 o ++ cells3 [x])) : ∃ A c, v = .slice A (k + 1) c ∧ RB B E w A c l := by
  subst ho
  obtain ⟨A, c, e, R⟩ := own_slice1 h
  exact ⟨A, c, e, by rw [hl]; exact R⟩
theorem _root_.Go.World.ownsRow.below' {B n : Nat} {E : TypeId} {w w' : World} {v : Value} {xs : List Value} (h : w.ownsRow B E 3 v n xs) (hb : Below w.heap.size w w') : w'.ownsRow B E 3 v n xs :=
  h.kept (grownBy_of_below (o := none) hb) (by cases hv : v.ownBlock <;> simp)
theorem meetAll_eqn {hs out : List H3} {ok : Bool} {A : Option Addr} {c n : Nat} {w : World} (hn : hs.length = n) (G : ∀ g ∈ hs, HOk g) (R : R3 44 w A c hs) (hl : 0 < n ∧ n ≤ 300) (hr : Hid (meetR hs = (out, ok))) :
    Calls Tryz.prog 56 #[.slice A n c] w (RegPost w out ok) := by
  subst hn; exact meetAll_any G R hl hr
def movedM (hs : List H3) : List H3 × Bool := if hs = [] then ([], true) else meetR (hs.map mirH)
def mirrorR (hs : List H3) : List H3 × Bool := if regionOk hs = true then movedM hs else ([], false)
theorem map_ok {hs : List H3} (G : ∀ g ∈ hs, HOk g) : ∀ g ∈ hs.map mirH, HOk g := fun g hg => by
  obtain ⟨x, hx, rfl⟩ := List.mem_map.1 hg
  exact mirH_ok (G x hx)

theorem moved_void {n c : Nat} {A : Option Addr} {fv : Value} {w : World} (h : Hid (decide (n = 0) = true)) :
    Calls Tryz.prog 99 #[.agg #[.slice A n c], fv] w (RegPost w [] true) := by
  go_enter Tryz.func99, Tryz.ntmps99
  go_wp2_with ((go_at_call 20; (first | (with_reducible refine (calls_ov2 (IsVoid_eq h)).mono ?_) | refine (calls_ov (IsVoid_eq h)).mono ?_); rintro e w' ⟨rfl, x, rfl⟩))
  refine bodyPost_ret (v := .tuple #[.agg #[.slice none 0 0], .bool true]) (by simp [results, Tryz.results99, go_sem]) rfl ⟨none, 0, rfl, RB.nil _ _ _, (by repeat (first | exact bR | refine bO ?_ | refine bA ?_ | refine bS ?_ | refine bD ?_ | refine bN ?_))⟩

theorem l05Fit_eqn {hs out : List H3} {ok : Bool} {A : Option Addr} {c n : Nat} {w : World} (hn : hs.length = n) (G : ∀ g ∈ hs, HOk g) (R : R3 44 w A c hs) (hl : n ≤ 300) (hr : Hid (meetR hs = (out, ok))) :
    Calls Tryz.prog 150 #[.slice A n c] w (RegPost w out ok) := by
  subst hn; exact l05Fit_eq G R hl hr
theorem meetR_short {hs out : List H3} {ok : Bool} (h : meetR hs = (out, ok)) : out.length ≤ 40 := by
  unfold meetR at h
  split at h
  · simp at h; rw [h.1]; simp
  · simp at h; rw [← h.1]; omega
theorem mirrorR_short {hs out : List H3} {ok : Bool} (h : mirrorR hs = (out, ok)) : out.length ≤ 1000 := by
  unfold mirrorR movedM at h
  split at h
  · split at h
    · simp at h; rw [h.1]; simp
    · have := meetR_short h; omega
  · simp at h; rw [h.1]; simp
end Go.Proofs.YtabmfaamadbefaaGreat
/- Contracts of ShiftRegion, of the program and of the reference. Condition: the steps are ints. -/
set_option linter.unusedSimpArgs false
set_option linter.unusedVariables false
set_option linter.unusedSectionVars false
namespace Go.Proofs.YtabmfaamadbefaaGreat
open Go.RowKit
def movedF (F : H3 → H3 × Bool) (hs : List H3) : List H3 × Bool := if hs = [] then ([], true) else if hs.all (fun g => (F g).2) = true then meetR (hs.map fun g => (F g).1) else ([], false)
theorem movedF_short {F : H3 → H3 × Bool} {hs out : List H3} {ok : Bool} (h : movedF F hs = (out, ok)) : out.length ≤ 40 := by
  unfold movedF at h
  split at h
  · simp at h; rw [h.1]; simp
  · split at h
    · exact meetR_short h
    · simp at h; rw [h.1]; simp
theorem halfOf_ok {a b c : Int} {h : H3} {v : Bool} (e : halfOf a b c = (h, v)) (hv : v = true) : HOk h := by
  subst hv
  unfold halfOf at e
  split at e
  · simp at e
  · split at e
    · rename_i hk
      injection e with e _
      rw [← e]
      exact (halfOk_iff _).1 hk
    · simp at e
def shiftF (dx dy : Int) (g : H3) : H3 × Bool := halfOf g.a g.b (g.c + g.a * dx + g.b * dy)
structure StepBd (dx dy : Int) : Prop where
  bx : -2000 ≤ dx ∧ dx ≤ 2000
  bY : -2000 ≤ dy ∧ dy ≤ 2000
def shiftR (dx dy : Int) (hs : List H3) : List H3 × Bool := if regionOk hs = true ∧ inR dx (-2000) 2000 = true ∧ inR dy (-2000) 2000 = true then movedF (shiftF dx dy) hs else ([], false)
theorem shiftR_short {dx dy : Int} {hs out : List H3} {ok : Bool} (h : shiftR dx dy hs = (out, ok)) : out.length ≤ 1000 := by
  unfold shiftR at h
  split at h
  · have := movedF_short h; omega
  · simp at h; rw [h.1]; simp
end Go.Proofs.YtabmfaamadbefaaGreat