/- Contracts of PickInput in the program and in the reference: both return the same fraction. Condition: the numbers are ints. -/
import Derived.Test.YtabmfaamadbefaaGreatWh
import Derived.Test.YtabmfaamadbefaaGreatRmo
import Derived.Test.YtabmfaamadbefaaGreatTi
import Derived.Test.YtabmfaamadbefaaGreatReg
set_option linter.unusedSimpArgs false
set_option linter.unusedVariables false
set_option linter.unusedSectionVars false
namespace Go.Proofs.YtabmfaamadbefaaGreat
open Go.RowKit Go.Lib
def clampS (k lo hi : Int) : Int := max lo (min k hi)
def pickS (n d m e k : Int) : Int × Int :=
  if spanOk n d m e = true then
    (if ratioCmp (clampS k (-1000) 1000) 1 n d < 0 then (if ratioCmp (ceilF n d) 1 m e ≤ 0 then (ceilF n d, 1) else (n, d))
     else if 0 < ratioCmp (clampS k (-1000) 1000) 1 m e then (if 0 ≤ ratioCmp (m / e) 1 n d then (m / e, 1) else (m, e)) else (clampS k (-1000) 1000, 1))
  else (0, 0)

theorem clamp_bd (k : Int) : -1000 ≤ clampS k (-1000) 1000 ∧ clampS k (-1000) 1000 ≤ 1000 := by unfold clampS; omega
theorem cmp_val {n d m e : Int} (h1 : ratioOk n d = true) (h2 : ratioOk m e = true) : ratioCmp n d m e = cmpF n d m e := by unfold ratioCmp; rw [if_pos ⟨h1, h2⟩]
theorem cmp_lt {n d m e : Int} (h1 : ratioOk n d = true) (h2 : ratioOk m e = true) : ratioCmp n d m e < 0 ↔ n * e < m * d := by
  rw [cmp_val h1 h2]; unfold cmpF
  split
  · simp_all
  · split <;> simp_all
theorem cmp_gt {n d m e : Int} (h1 : ratioOk n d = true) (h2 : ratioOk m e = true) : 0 < ratioCmp n d m e ↔ m * d < n * e := by
  rw [cmp_val h1 h2]; unfold cmpF
  split
  · simp; omega
  · split <;> simp_all
theorem cmp_swap {n d m e : Int} (h1 : ratioOk n d = true) (h2 : ratioOk m e = true) : ratioCmp m e n d = - ratioCmp n d m e := by rw [cmp_val h1 h2, cmp_val h2 h1, cmpF_swap]
theorem ratio_pos {n d : Int} (h : ratioOk n d = true) : 0 < d := by have := ratioOk_bd h; omega
theorem ratio_eq {n d m e : Int} (h1 : ratioOk n d = true) (h2 : ratioOk m e = true) (h : n * e = m * d) : n = m ∧ d = e := by
  have b1 := ratioOk_bd h1
  have b2 := ratioOk_bd h2
  have g1 : gcdS n d = 1 := by simp only [ratioOk, Bool.and_eq_true, decide_eq_true_eq] at h1; exact h1.2
  have g2 : gcdS m e = 1 := by simp only [ratioOk, Bool.and_eq_true, decide_eq_true_eq] at h2; exact h2.2
  rw [gcdS_eq n d (by omega) (by omega)] at g1
  rw [gcdS_eq m e (by omega) (by omega)] at g2
  have g1' : Nat.gcd n.natAbs d.natAbs = 1 := by omega
  have g2' : Nat.gcd m.natAbs e.natAbs = 1 := by omega
  have hn : n.natAbs * e.natAbs = m.natAbs * d.natAbs := by rw [← Int.natAbs_mul, ← Int.natAbs_mul, h]
  have d1 : d.natAbs ∣ e.natAbs := (Nat.Coprime.symm g1').dvd_of_dvd_mul_left ⟨m.natAbs, by rw [hn, Nat.mul_comm]⟩
  have d2 : e.natAbs ∣ d.natAbs := (Nat.Coprime.symm g2').dvd_of_dvd_mul_left ⟨n.natAbs, by rw [← hn, Nat.mul_comm]⟩
  have de : d.natAbs = e.natAbs := Nat.dvd_antisymm d1 d2
  have hde : d = e := by omega
  subst hde
  exact ⟨Int.eq_of_mul_eq_mul_right (by omega) h, rfl⟩
theorem ceil_le {n d z : Int} (hd : 0 < d) : ceilF n d ≤ z ↔ n ≤ z * d := by
  unfold ceilF
  have := Int.le_ediv_iff_mul_le (a := -z) (b := -n) hd
  have e : -z * d = -(z * d) := Int.neg_mul z d
  omega
theorem le_floor {m e z : Int} (he : 0 < e) : z ≤ m / e ↔ z * e ≤ m := Int.le_ediv_iff_mul_le he
theorem floor_bd {m e : Int} (h : ratioOk m e = true) : -1000000000000000000 ≤ m / e ∧ m / e ≤ 1000000000000000000 := by
  have b := ratioOk_bd h
  have := cf_bd (a := m) (b := e) (by omega) (by omega) (by omega)
  omega

/-- What the reference does, in words of the program's. -/
theorem pick_spec {n d m e k : Int} (hs : spanOk n d m e = true) :
    (inSpan n d m e (clampS k (-1000) 1000) 1 = true ∧ pickS n d m e k = (clampS k (-1000) 1000, 1)) ∨
    (inSpan n d m e (clampS k (-1000) 1000) 1 = false ∧ ceilF n d ≤ m / e ∧ pickS n d m e k = (clampS (clampS k (-1000) 1000) (ceilF n d) (m / e), 1)) ∨
    (inSpan n d m e (clampS k (-1000) 1000) 1 = false ∧ ¬ ceilF n d ≤ m / e ∧ pickS n d m e k = ratMin m e (ratMax n d (clampS k (-1000) 1000) 1).1 (ratMax n d (clampS k (-1000) 1000) 1).2) := by
  have bu := clamp_bd k
  generalize hu : clampS k (-1000) 1000 = u at *
  obtain ⟨o1, o2⟩ := spanOk_both' hs
  have ou : ratioOk u 1 = true := whole_ok (by omega)
  have p1 := ratio_pos o1
  have p2 := ratio_pos o2
  have b1 := ratioOk_bd o1
  have hle : n * e ≤ m * d := by
    simp only [spanOk, Bool.and_eq_true, decide_eq_true_eq] at hs
    exact (cmp_le o1 o2).1 hs.2
  have cb := ceilF_bd (a := n) (b := d) p1 (by omega) (by omega)
  have fb := floor_bd o2
  have oc : ratioOk (ceilF n d) 1 = true := whole_ok cb
  have of : ratioOk (m / e) 1 = true := whole_ok fb
  have c1 := cmp_lt ou o1
  have c2 := cmp_gt ou o2
  have c3 := cmp_le oc o2
  have c4 := cmp_lt of o1
  have s1 := cmp_swap ou o1
  have hin : inSpan n d m e u 1 = (decide (ratioCmp n d u 1 ≤ 0) && decide (ratioCmp u 1 m e ≤ 0)) := by unfold inSpan; rw [hs, ou]; rfl
  have q1 : ceilF n d * e ≤ m ↔ ceilF n d ≤ m / e := (le_floor p2).symm
  have q2 : n ≤ m / e * d ↔ ceilF n d ≤ m / e := (ceil_le p1).symm
  unfold pickS
  rw [if_pos hs, hu]
  by_cases k1 : ratioCmp u 1 n d < 0
  · rw [if_pos k1]
    have hi : inSpan n d m e u 1 = false := by rw [hin, s1]; simp; omega
    have lt1 : u * d < n * 1 := c1.1 k1
    by_cases k2 : ceilF n d ≤ m / e
    · right; left
      have : ratioCmp (ceilF n d) 1 m e ≤ 0 := c3.2 (by rw [Int.mul_one]; exact q1.2 k2)
      rw [if_pos this]
      refine ⟨hi, k2, ?_⟩
      have hlt : u < ceilF n d := by
        have := ceil_le (n := n) (d := d) (z := u) p1
        omega
      unfold clampS
      rw [show max (ceilF n d) (min u (m / e)) = ceilF n d by omega]
    · right; right
      have : ¬ ratioCmp (ceilF n d) 1 m e ≤ 0 := fun h => k2 (q1.1 (by have := c3.1 h; rw [Int.mul_one] at this; exact this))
      rw [if_neg this]
      refine ⟨hi, k2, ?_⟩
      have hm : ratMax n d u 1 = (n, d) := by unfold ratMax; rw [if_pos (by rw [s1]; omega)]
      rw [hm]
      unfold ratMin
      by_cases k3 : ratioCmp m e n d ≤ 0
      · rw [if_pos k3]
        have := (cmp_le o2 o1).1 k3
        obtain ⟨rfl, rfl⟩ := ratio_eq o1 o2 (by omega)
        rfl
      · rw [if_neg k3]
  · rw [if_neg k1]
    by_cases k2 : 0 < ratioCmp u 1 m e
    · rw [if_pos k2]
      have hi : inSpan n d m e u 1 = false := by rw [hin]; simp; omega
      have lt2 : m * 1 < u * e := c2.1 k2
      by_cases k3 : ceilF n d ≤ m / e
      · right; left
        have : 0 ≤ ratioCmp (m / e) 1 n d := by
          rcases Int.lt_or_le (ratioCmp (m / e) 1 n d) 0 with h | h
          · have := c4.1 h; have := q2.2 k3; omega
          · exact h
        rw [if_pos this]
        refine ⟨hi, k3, ?_⟩
        have hlt : m / e < u := by
          have := le_floor (m := m) (e := e) (z := u) p2
          omega
        unfold clampS
        rw [show max (ceilF n d) (min u (m / e)) = m / e by omega]
      · right; right
        have : ¬ 0 ≤ ratioCmp (m / e) 1 n d := fun h => k3 (q2.1 (by
          rcases Int.lt_or_le (m / e * d) (n * 1) with h2 | h2
          · have := c4.2 h2; omega
          · omega))
        rw [if_neg this]
        refine ⟨hi, k3, ?_⟩
        have lt3 : n * 1 < u * d := by
          have h1 : n * e < u * e * d := by
            have := Int.mul_lt_mul_of_pos_right lt2 p1
            rw [Int.mul_one] at this
            omega
          have h2 : n * e < (u * d) * e := by rw [Int.mul_right_comm]; exact h1
          rw [Int.mul_one]
          exact Int.lt_of_mul_lt_mul_right h2 (by omega)
        have hm : ratMax n d u 1 = (u, 1) := by
          unfold ratMax
          rw [if_neg (by have := (cmp_lt o1 ou).2 (by omega); omega)]
        rw [hm]
        unfold ratMin
        rw [if_pos (by have := (cmp_le o2 ou).2 (by omega); exact this)]
    · rw [if_neg k2]
      left
      refine ⟨?_, rfl⟩
      rw [hin, s1]
      simp; omega

theorem whole_any (z : Int) (w : World) : Calls Tryz.prog 76 #[.int .i64 z] w fun e w' => e = .returned (.agg #[.int .i64 z, .int .i64 1]) ∧ Below w.heap.size w w' := by
  go_enter Tryz.func76, Tryz.ntmps76
  go_wp2
  refine bodyPost_ret (v := .agg #[.int .i64 z, .int .i64 1]) (by simp [results, Tryz.results76, go_sem]) rfl ⟨rfl, (by repeat (first | exact bR | refine bO ?_ | refine bA ?_ | refine bS ?_ | refine bD ?_ | refine bN ?_))⟩
section
variable {n d m e k p q : Int}
theorem impl_RatioCeil_eq {z : Int} {w : World} (hz : Hid (ceilF n d = z)) (h : ratioOk n d = true) : Calls Tryz.prog 77 #[.agg #[.int .i64 n, .int .i64 d]] w fun e w' => e = .returned (.int .i64 z) ∧ Below w.heap.size w w' := by
  obtain rfl := hz.out; exact impl_RatioCeil_any w h
theorem impl_RatioFloor_eq {z : Int} {w : World} (hz : Hid (n / d = z)) (h : ratioOk n d = true) : Calls Tryz.prog 78 #[.agg #[.int .i64 n, .int .i64 d]] w fun e w' => e = .returned (.int .i64 z) ∧ Below w.heap.size w w' := by
  obtain rfl := hz.out; exact impl_RatioFloor_any w h
theorem clamp_cases (k : Int) : (k ≤ -1000 ∧ clampS k (-1000) 1000 = -1000) ∨ (-1000 < k ∧ k < 1000 ∧ clampS k (-1000) 1000 = k) ∨ (1000 ≤ k ∧ clampS k (-1000) 1000 = 1000) := by unfold clampS; omega

set_option maxHeartbeats 8000000 in
theorem impl_PickInput_eq {w : World} (hn : -9223372036854775808 ≤ n ∧ n ≤ 9223372036854775807) (hd : -9223372036854775808 ≤ d ∧ d ≤ 9223372036854775807) (hm : -9223372036854775808 ≤ m ∧ m ≤ 9223372036854775807) (he : -9223372036854775808 ≤ e ∧ e ≤ 9223372036854775807) (hk : -9223372036854775808 ≤ k ∧ k ≤ 9223372036854775807)
    (hr : Hid (pickS n d m e k = (p, q))) : Calls Tryz.prog 38 #[.agg #[.int .i64 n, .int .i64 d, .int .i64 m, .int .i64 e], .int .i64 k] w fun en w' => en = .returned (.agg #[.int .i64 p, .int .i64 q]) ∧ Below w.heap.size w w' := by
  cases hs : spanOk n d m e with
  | false =>
    have HR := Lib.hid (show (0, 0) = (p, q) by rw [← hr.out]; unfold pickS; rw [if_neg (by rw [hs]; simp)])
    go_enter Tryz.func38, Tryz.ntmps38
    go_wp2_with ((go_at_call 34; (first | (with_reducible refine (calls_ov2 (impl_SpanOk_eq (by assumption) (by omega) (by omega) (by omega) (by omega))).mono ?_) | refine (calls_ov (impl_SpanOk_eq (by assumption) (by omega) (by omega) (by omega) (by omega))).mono ?_); rintro e w' ⟨rfl, x, rfl⟩))
    refine bodyPost_ret (v := .agg #[.int .i64 0, .int .i64 0]) (by simp [results, Tryz.results38, go_sem]) rfl ⟨ret_agg2 HR.out, (by repeat (first | exact bR | refine bO ?_ | refine bA ?_ | refine bS ?_ | refine bD ?_ | refine bN ?_))⟩
  | true =>
    obtain ⟨o1, o2⟩ := spanOk_both' hs
    have b1 := ratioOk_bd o1
    have b2 := ratioOk_bd o2
    have p1 := ratio_pos o1
    have p2 := ratio_pos o2
    have cb := ceilF_bd (a := n) (b := d) p1 (by omega) (by omega)
    have fb := floor_bd o2
    have hp := hr.out
    unfold pickS at hp
    rw [if_pos hs] at hp
    clear hr
    obtain ⟨l, hl⟩ : ∃ l, ceilF n d = l := ⟨_, rfl⟩
    obtain ⟨f, hf⟩ : ∃ f, m / e = f := ⟨_, rfl⟩
    have HL := Lib.hid hl
    have HF := Lib.hid hf
    rw [hl] at cb hp
    rw [hf] at fb hp
    clear hl hf
    obtain ⟨c3, h3⟩ : ∃ c, ratioCmp l 1 m e = c := ⟨_, rfl⟩
    obtain ⟨c4, h4⟩ : ∃ c, ratioCmp f 1 n d = c := ⟨_, rfl⟩
    have H3 := Lib.hid h3
    have H4 := Lib.hid h4
    rw [h3, h4] at hp
    clear h3 h4
    rcases clamp_cases k with ⟨k1, ku⟩ | ⟨k1, k2, ku⟩ | ⟨k1, ku⟩
    all_goals
      rw [ku] at hp
      clear ku
    · obtain ⟨c1, h1⟩ : ∃ c, ratioCmp (-1000) 1 n d = c := ⟨_, rfl⟩
      obtain ⟨c2, h2⟩ : ∃ c, ratioCmp (-1000) 1 m e = c := ⟨_, rfl⟩
      have H1 := Lib.hid h1
      have H2 := Lib.hid h2
      rw [h1, h2] at hp
      clear h1 h2
      by_cases q1 : c1 < 0
      · by_cases q3 : c3 ≤ 0
        · simp only [q1, q3, if_true, if_false] at hp
          have HP := Lib.hid hp
          clear hp
          go_enter Tryz.func38, Tryz.ntmps38
          go_wp2_with (first | (go_at_call 34; (first | (with_reducible refine (calls_ov2 (impl_SpanOk_eq (by assumption) (by omega) (by omega) (by omega) (by omega))).mono ?_) | refine (calls_ov (impl_SpanOk_eq (by assumption) (by omega) (by omega) (by omega) (by omega))).mono ?_); rintro e w' ⟨rfl, x, rfl⟩) | (go_at_call 35; (first | (with_reducible refine (calls_ov2 (impl_RatioCmp_eq (by assumption) (by omega) (by omega) (by omega) (by omega))).mono ?_) | refine (calls_ov (impl_RatioCmp_eq (by assumption) (by omega) (by omega) (by omega) (by omega))).mono ?_); rintro e w' ⟨rfl, x, rfl⟩) | (go_at_call 76; (first | (with_reducible refine (calls_ov2 (whole_any _ _)).mono ?_) | refine (calls_ov (whole_any _ _)).mono ?_); rintro e w' ⟨rfl, x, rfl⟩) | (go_at_call 77; (first | (with_reducible refine (calls_ov2 (impl_RatioCeil_eq (by assumption) (by assumption))).mono ?_) | refine (calls_ov (impl_RatioCeil_eq (by assumption) (by assumption))).mono ?_); rintro e w' ⟨rfl, x, rfl⟩) | (go_at_call 78; (first | (with_reducible refine (calls_ov2 (impl_RatioFloor_eq (by assumption) (by assumption))).mono ?_) | refine (calls_ov (impl_RatioFloor_eq (by assumption) (by assumption))).mono ?_); rintro e w' ⟨rfl, x, rfl⟩))
          refine bodyPost_ret (v := .agg #[.int .i64 l, .int .i64 1]) (by simp [results, Tryz.results38, go_sem]) rfl ⟨ret_agg2 HP.out, ?_⟩
          (repeat (first | exact bR | refine bO ?_ | refine bA ?_ | refine bS ?_ | refine bD ?_ | refine bN ?_))
        · simp only [q1, q3, if_true, if_false] at hp
          have HP := Lib.hid hp
          clear hp
          go_enter Tryz.func38, Tryz.ntmps38
          go_wp2_with (first | (go_at_call 34; (first | (with_reducible refine (calls_ov2 (impl_SpanOk_eq (by assumption) (by omega) (by omega) (by omega) (by omega))).mono ?_) | refine (calls_ov (impl_SpanOk_eq (by assumption) (by omega) (by omega) (by omega) (by omega))).mono ?_); rintro e w' ⟨rfl, x, rfl⟩) | (go_at_call 35; (first | (with_reducible refine (calls_ov2 (impl_RatioCmp_eq (by assumption) (by omega) (by omega) (by omega) (by omega))).mono ?_) | refine (calls_ov (impl_RatioCmp_eq (by assumption) (by omega) (by omega) (by omega) (by omega))).mono ?_); rintro e w' ⟨rfl, x, rfl⟩) | (go_at_call 76; (first | (with_reducible refine (calls_ov2 (whole_any _ _)).mono ?_) | refine (calls_ov (whole_any _ _)).mono ?_); rintro e w' ⟨rfl, x, rfl⟩) | (go_at_call 77; (first | (with_reducible refine (calls_ov2 (impl_RatioCeil_eq (by assumption) (by assumption))).mono ?_) | refine (calls_ov (impl_RatioCeil_eq (by assumption) (by assumption))).mono ?_); rintro e w' ⟨rfl, x, rfl⟩) | (go_at_call 78; (first | (with_reducible refine (calls_ov2 (impl_RatioFloor_eq (by assumption) (by assumption))).mono ?_) | refine (calls_ov (impl_RatioFloor_eq (by assumption) (by assumption))).mono ?_); rintro e w' ⟨rfl, x, rfl⟩))
          refine bodyPost_ret (v := .agg #[.int .i64 n, .int .i64 d]) (by simp [results, Tryz.results38, go_sem]) rfl ⟨ret_agg2 HP.out, ?_⟩
          (repeat (first | exact bR | refine bO ?_ | refine bA ?_ | refine bS ?_ | refine bD ?_ | refine bN ?_))
      · by_cases q2 : 0 < c2
        · by_cases q4 : 0 ≤ c4
          · simp only [q1, q2, q4, if_true, if_false] at hp
            have HP := Lib.hid hp
            clear hp
            go_enter Tryz.func38, Tryz.ntmps38
            go_wp2_with (first | (go_at_call 34; (first | (with_reducible refine (calls_ov2 (impl_SpanOk_eq (by assumption) (by omega) (by omega) (by omega) (by omega))).mono ?_) | refine (calls_ov (impl_SpanOk_eq (by assumption) (by omega) (by omega) (by omega) (by omega))).mono ?_); rintro e w' ⟨rfl, x, rfl⟩) | (go_at_call 35; (first | (with_reducible refine (calls_ov2 (impl_RatioCmp_eq (by assumption) (by omega) (by omega) (by omega) (by omega))).mono ?_) | refine (calls_ov (impl_RatioCmp_eq (by assumption) (by omega) (by omega) (by omega) (by omega))).mono ?_); rintro e w' ⟨rfl, x, rfl⟩) | (go_at_call 76; (first | (with_reducible refine (calls_ov2 (whole_any _ _)).mono ?_) | refine (calls_ov (whole_any _ _)).mono ?_); rintro e w' ⟨rfl, x, rfl⟩) | (go_at_call 77; (first | (with_reducible refine (calls_ov2 (impl_RatioCeil_eq (by assumption) (by assumption))).mono ?_) | refine (calls_ov (impl_RatioCeil_eq (by assumption) (by assumption))).mono ?_); rintro e w' ⟨rfl, x, rfl⟩) | (go_at_call 78; (first | (with_reducible refine (calls_ov2 (impl_RatioFloor_eq (by assumption) (by assumption))).mono ?_) | refine (calls_ov (impl_RatioFloor_eq (by assumption) (by assumption))).mono ?_); rintro e w' ⟨rfl, x, rfl⟩))
            refine bodyPost_ret (v := .agg #[.int .i64 f, .int .i64 1]) (by simp [results, Tryz.results38, go_sem]) rfl ⟨ret_agg2 HP.out, ?_⟩
            (repeat (first | exact bR | refine bO ?_ | refine bA ?_ | refine bS ?_ | refine bD ?_ | refine bN ?_))
          · simp only [q1, q2, q4, if_true, if_false] at hp
            have HP := Lib.hid hp
            clear hp
            go_enter Tryz.func38, Tryz.ntmps38
            go_wp2_with (first | (go_at_call 34; (first | (with_reducible refine (calls_ov2 (impl_SpanOk_eq (by assumption) (by omega) (by omega) (by omega) (by omega))).mono ?_) | refine (calls_ov (impl_SpanOk_eq (by assumption) (by omega) (by omega) (by omega) (by omega))).mono ?_); rintro e w' ⟨rfl, x, rfl⟩) | (go_at_call 35; (first | (with_reducible refine (calls_ov2 (impl_RatioCmp_eq (by assumption) (by omega) (by omega) (by omega) (by omega))).mono ?_) | refine (calls_ov (impl_RatioCmp_eq (by assumption) (by omega) (by omega) (by omega) (by omega))).mono ?_); rintro e w' ⟨rfl, x, rfl⟩) | (go_at_call 76; (first | (with_reducible refine (calls_ov2 (whole_any _ _)).mono ?_) | refine (calls_ov (whole_any _ _)).mono ?_); rintro e w' ⟨rfl, x, rfl⟩) | (go_at_call 77; (first | (with_reducible refine (calls_ov2 (impl_RatioCeil_eq (by assumption) (by assumption))).mono ?_) | refine (calls_ov (impl_RatioCeil_eq (by assumption) (by assumption))).mono ?_); rintro e w' ⟨rfl, x, rfl⟩) | (go_at_call 78; (first | (with_reducible refine (calls_ov2 (impl_RatioFloor_eq (by assumption) (by assumption))).mono ?_) | refine (calls_ov (impl_RatioFloor_eq (by assumption) (by assumption))).mono ?_); rintro e w' ⟨rfl, x, rfl⟩))
            refine bodyPost_ret (v := .agg #[.int .i64 m, .int .i64 e]) (by simp [results, Tryz.results38, go_sem]) rfl ⟨ret_agg2 HP.out, ?_⟩
            (repeat (first | exact bR | refine bO ?_ | refine bA ?_ | refine bS ?_ | refine bD ?_ | refine bN ?_))
        · simp only [q1, q2, if_true, if_false] at hp
          have HP := Lib.hid hp
          clear hp
          go_enter Tryz.func38, Tryz.ntmps38
          go_wp2_with (first | (go_at_call 34; (first | (with_reducible refine (calls_ov2 (impl_SpanOk_eq (by assumption) (by omega) (by omega) (by omega) (by omega))).mono ?_) | refine (calls_ov (impl_SpanOk_eq (by assumption) (by omega) (by omega) (by omega) (by omega))).mono ?_); rintro e w' ⟨rfl, x, rfl⟩) | (go_at_call 35; (first | (with_reducible refine (calls_ov2 (impl_RatioCmp_eq (by assumption) (by omega) (by omega) (by omega) (by omega))).mono ?_) | refine (calls_ov (impl_RatioCmp_eq (by assumption) (by omega) (by omega) (by omega) (by omega))).mono ?_); rintro e w' ⟨rfl, x, rfl⟩) | (go_at_call 76; (first | (with_reducible refine (calls_ov2 (whole_any _ _)).mono ?_) | refine (calls_ov (whole_any _ _)).mono ?_); rintro e w' ⟨rfl, x, rfl⟩) | (go_at_call 77; (first | (with_reducible refine (calls_ov2 (impl_RatioCeil_eq (by assumption) (by assumption))).mono ?_) | refine (calls_ov (impl_RatioCeil_eq (by assumption) (by assumption))).mono ?_); rintro e w' ⟨rfl, x, rfl⟩) | (go_at_call 78; (first | (with_reducible refine (calls_ov2 (impl_RatioFloor_eq (by assumption) (by assumption))).mono ?_) | refine (calls_ov (impl_RatioFloor_eq (by assumption) (by assumption))).mono ?_); rintro e w' ⟨rfl, x, rfl⟩))
          refine bodyPost_ret (v := .agg #[.int .i64 (-1000), .int .i64 1]) (by simp [results, Tryz.results38, go_sem]) rfl ⟨ret_agg2 HP.out, ?_⟩
          (repeat (first | exact bR | refine bO ?_ | refine bA ?_ | refine bS ?_ | refine bD ?_ | refine bN ?_))
    · obtain ⟨c1, h1⟩ : ∃ c, ratioCmp k 1 n d = c := ⟨_, rfl⟩
      obtain ⟨c2, h2⟩ : ∃ c, ratioCmp k 1 m e = c := ⟨_, rfl⟩
      have H1 := Lib.hid h1
      have H2 := Lib.hid h2
      rw [h1, h2] at hp
      clear h1 h2
      by_cases q1 : c1 < 0
      · by_cases q3 : c3 ≤ 0
        · simp only [q1, q3, if_true, if_false] at hp
          have HP := Lib.hid hp
          clear hp
          go_enter Tryz.func38, Tryz.ntmps38
          go_wp2_with (first | (go_at_call 34; (first | (with_reducible refine (calls_ov2 (impl_SpanOk_eq (by assumption) (by omega) (by omega) (by omega) (by omega))).mono ?_) | refine (calls_ov (impl_SpanOk_eq (by assumption) (by omega) (by omega) (by omega) (by omega))).mono ?_); rintro e w' ⟨rfl, x, rfl⟩) | (go_at_call 35; (first | (with_reducible refine (calls_ov2 (impl_RatioCmp_eq (by assumption) (by omega) (by omega) (by omega) (by omega))).mono ?_) | refine (calls_ov (impl_RatioCmp_eq (by assumption) (by omega) (by omega) (by omega) (by omega))).mono ?_); rintro e w' ⟨rfl, x, rfl⟩) | (go_at_call 76; (first | (with_reducible refine (calls_ov2 (whole_any _ _)).mono ?_) | refine (calls_ov (whole_any _ _)).mono ?_); rintro e w' ⟨rfl, x, rfl⟩) | (go_at_call 77; (first | (with_reducible refine (calls_ov2 (impl_RatioCeil_eq (by assumption) (by assumption))).mono ?_) | refine (calls_ov (impl_RatioCeil_eq (by assumption) (by assumption))).mono ?_); rintro e w' ⟨rfl, x, rfl⟩) | (go_at_call 78; (first | (with_reducible refine (calls_ov2 (impl_RatioFloor_eq (by assumption) (by assumption))).mono ?_) | refine (calls_ov (impl_RatioFloor_eq (by assumption) (by assumption))).mono ?_); rintro e w' ⟨rfl, x, rfl⟩))
          refine bodyPost_ret (v := .agg #[.int .i64 l, .int .i64 1]) (by simp [results, Tryz.results38, go_sem]) rfl ⟨ret_agg2 HP.out, ?_⟩
          (repeat (first | exact bR | refine bO ?_ | refine bA ?_ | refine bS ?_ | refine bD ?_ | refine bN ?_))
        · simp only [q1, q3, if_true, if_false] at hp
          have HP := Lib.hid hp
          clear hp
          go_enter Tryz.func38, Tryz.ntmps38
          go_wp2_with (first | (go_at_call 34; (first | (with_reducible refine (calls_ov2 (impl_SpanOk_eq (by assumption) (by omega) (by omega) (by omega) (by omega))).mono ?_) | refine (calls_ov (impl_SpanOk_eq (by assumption) (by omega) (by omega) (by omega) (by omega))).mono ?_); rintro e w' ⟨rfl, x, rfl⟩) | (go_at_call 35; (first | (with_reducible refine (calls_ov2 (impl_RatioCmp_eq (by assumption) (by omega) (by omega) (by omega) (by omega))).mono ?_) | refine (calls_ov (impl_RatioCmp_eq (by assumption) (by omega) (by omega) (by omega) (by omega))).mono ?_); rintro e w' ⟨rfl, x, rfl⟩) | (go_at_call 76; (first | (with_reducible refine (calls_ov2 (whole_any _ _)).mono ?_) | refine (calls_ov (whole_any _ _)).mono ?_); rintro e w' ⟨rfl, x, rfl⟩) | (go_at_call 77; (first | (with_reducible refine (calls_ov2 (impl_RatioCeil_eq (by assumption) (by assumption))).mono ?_) | refine (calls_ov (impl_RatioCeil_eq (by assumption) (by assumption))).mono ?_); rintro e w' ⟨rfl, x, rfl⟩) | (go_at_call 78; (first | (with_reducible refine (calls_ov2 (impl_RatioFloor_eq (by assumption) (by assumption))).mono ?_) | refine (calls_ov (impl_RatioFloor_eq (by assumption) (by assumption))).mono ?_); rintro e w' ⟨rfl, x, rfl⟩))
          refine bodyPost_ret (v := .agg #[.int .i64 n, .int .i64 d]) (by simp [results, Tryz.results38, go_sem]) rfl ⟨ret_agg2 HP.out, ?_⟩
          (repeat (first | exact bR | refine bO ?_ | refine bA ?_ | refine bS ?_ | refine bD ?_ | refine bN ?_))
      · by_cases q2 : 0 < c2
        · by_cases q4 : 0 ≤ c4
          · simp only [q1, q2, q4, if_true, if_false] at hp
            have HP := Lib.hid hp
            clear hp
            go_enter Tryz.func38, Tryz.ntmps38
            go_wp2_with (first | (go_at_call 34; (first | (with_reducible refine (calls_ov2 (impl_SpanOk_eq (by assumption) (by omega) (by omega) (by omega) (by omega))).mono ?_) | refine (calls_ov (impl_SpanOk_eq (by assumption) (by omega) (by omega) (by omega) (by omega))).mono ?_); rintro e w' ⟨rfl, x, rfl⟩) | (go_at_call 35; (first | (with_reducible refine (calls_ov2 (impl_RatioCmp_eq (by assumption) (by omega) (by omega) (by omega) (by omega))).mono ?_) | refine (calls_ov (impl_RatioCmp_eq (by assumption) (by omega) (by omega) (by omega) (by omega))).mono ?_); rintro e w' ⟨rfl, x, rfl⟩) | (go_at_call 76; (first | (with_reducible refine (calls_ov2 (whole_any _ _)).mono ?_) | refine (calls_ov (whole_any _ _)).mono ?_); rintro e w' ⟨rfl, x, rfl⟩) | (go_at_call 77; (first | (with_reducible refine (calls_ov2 (impl_RatioCeil_eq (by assumption) (by assumption))).mono ?_) | refine (calls_ov (impl_RatioCeil_eq (by assumption) (by assumption))).mono ?_); rintro e w' ⟨rfl, x, rfl⟩) | (go_at_call 78; (first | (with_reducible refine (calls_ov2 (impl_RatioFloor_eq (by assumption) (by assumption))).mono ?_) | refine (calls_ov (impl_RatioFloor_eq (by assumption) (by assumption))).mono ?_); rintro e w' ⟨rfl, x, rfl⟩))
            refine bodyPost_ret (v := .agg #[.int .i64 f, .int .i64 1]) (by simp [results, Tryz.results38, go_sem]) rfl ⟨ret_agg2 HP.out, ?_⟩
            (repeat (first | exact bR | refine bO ?_ | refine bA ?_ | refine bS ?_ | refine bD ?_ | refine bN ?_))
          · simp only [q1, q2, q4, if_true, if_false] at hp
            have HP := Lib.hid hp
            clear hp
            go_enter Tryz.func38, Tryz.ntmps38
            go_wp2_with (first | (go_at_call 34; (first | (with_reducible refine (calls_ov2 (impl_SpanOk_eq (by assumption) (by omega) (by omega) (by omega) (by omega))).mono ?_) | refine (calls_ov (impl_SpanOk_eq (by assumption) (by omega) (by omega) (by omega) (by omega))).mono ?_); rintro e w' ⟨rfl, x, rfl⟩) | (go_at_call 35; (first | (with_reducible refine (calls_ov2 (impl_RatioCmp_eq (by assumption) (by omega) (by omega) (by omega) (by omega))).mono ?_) | refine (calls_ov (impl_RatioCmp_eq (by assumption) (by omega) (by omega) (by omega) (by omega))).mono ?_); rintro e w' ⟨rfl, x, rfl⟩) | (go_at_call 76; (first | (with_reducible refine (calls_ov2 (whole_any _ _)).mono ?_) | refine (calls_ov (whole_any _ _)).mono ?_); rintro e w' ⟨rfl, x, rfl⟩) | (go_at_call 77; (first | (with_reducible refine (calls_ov2 (impl_RatioCeil_eq (by assumption) (by assumption))).mono ?_) | refine (calls_ov (impl_RatioCeil_eq (by assumption) (by assumption))).mono ?_); rintro e w' ⟨rfl, x, rfl⟩) | (go_at_call 78; (first | (with_reducible refine (calls_ov2 (impl_RatioFloor_eq (by assumption) (by assumption))).mono ?_) | refine (calls_ov (impl_RatioFloor_eq (by assumption) (by assumption))).mono ?_); rintro e w' ⟨rfl, x, rfl⟩))
            refine bodyPost_ret (v := .agg #[.int .i64 m, .int .i64 e]) (by simp [results, Tryz.results38, go_sem]) rfl ⟨ret_agg2 HP.out, ?_⟩
            (repeat (first | exact bR | refine bO ?_ | refine bA ?_ | refine bS ?_ | refine bD ?_ | refine bN ?_))
        · simp only [q1, q2, if_true, if_false] at hp
          have HP := Lib.hid hp
          clear hp
          go_enter Tryz.func38, Tryz.ntmps38
          go_wp2_with (first | (go_at_call 34; (first | (with_reducible refine (calls_ov2 (impl_SpanOk_eq (by assumption) (by omega) (by omega) (by omega) (by omega))).mono ?_) | refine (calls_ov (impl_SpanOk_eq (by assumption) (by omega) (by omega) (by omega) (by omega))).mono ?_); rintro e w' ⟨rfl, x, rfl⟩) | (go_at_call 35; (first | (with_reducible refine (calls_ov2 (impl_RatioCmp_eq (by assumption) (by omega) (by omega) (by omega) (by omega))).mono ?_) | refine (calls_ov (impl_RatioCmp_eq (by assumption) (by omega) (by omega) (by omega) (by omega))).mono ?_); rintro e w' ⟨rfl, x, rfl⟩) | (go_at_call 76; (first | (with_reducible refine (calls_ov2 (whole_any _ _)).mono ?_) | refine (calls_ov (whole_any _ _)).mono ?_); rintro e w' ⟨rfl, x, rfl⟩) | (go_at_call 77; (first | (with_reducible refine (calls_ov2 (impl_RatioCeil_eq (by assumption) (by assumption))).mono ?_) | refine (calls_ov (impl_RatioCeil_eq (by assumption) (by assumption))).mono ?_); rintro e w' ⟨rfl, x, rfl⟩) | (go_at_call 78; (first | (with_reducible refine (calls_ov2 (impl_RatioFloor_eq (by assumption) (by assumption))).mono ?_) | refine (calls_ov (impl_RatioFloor_eq (by assumption) (by assumption))).mono ?_); rintro e w' ⟨rfl, x, rfl⟩))
          refine bodyPost_ret (v := .agg #[.int .i64 k, .int .i64 1]) (by simp [results, Tryz.results38, go_sem]) rfl ⟨ret_agg2 HP.out, ?_⟩
          (repeat (first | exact bR | refine bO ?_ | refine bA ?_ | refine bS ?_ | refine bD ?_ | refine bN ?_))
    · obtain ⟨c1, h1⟩ : ∃ c, ratioCmp 1000 1 n d = c := ⟨_, rfl⟩
      obtain ⟨c2, h2⟩ : ∃ c, ratioCmp 1000 1 m e = c := ⟨_, rfl⟩
      have H1 := Lib.hid h1
      have H2 := Lib.hid h2
      rw [h1, h2] at hp
      clear h1 h2
      by_cases q1 : c1 < 0
      · by_cases q3 : c3 ≤ 0
        · simp only [q1, q3, if_true, if_false] at hp
          have HP := Lib.hid hp
          clear hp
          go_enter Tryz.func38, Tryz.ntmps38
          go_wp2_with (first | (go_at_call 34; (first | (with_reducible refine (calls_ov2 (impl_SpanOk_eq (by assumption) (by omega) (by omega) (by omega) (by omega))).mono ?_) | refine (calls_ov (impl_SpanOk_eq (by assumption) (by omega) (by omega) (by omega) (by omega))).mono ?_); rintro e w' ⟨rfl, x, rfl⟩) | (go_at_call 35; (first | (with_reducible refine (calls_ov2 (impl_RatioCmp_eq (by assumption) (by omega) (by omega) (by omega) (by omega))).mono ?_) | refine (calls_ov (impl_RatioCmp_eq (by assumption) (by omega) (by omega) (by omega) (by omega))).mono ?_); rintro e w' ⟨rfl, x, rfl⟩) | (go_at_call 76; (first | (with_reducible refine (calls_ov2 (whole_any _ _)).mono ?_) | refine (calls_ov (whole_any _ _)).mono ?_); rintro e w' ⟨rfl, x, rfl⟩) | (go_at_call 77; (first | (with_reducible refine (calls_ov2 (impl_RatioCeil_eq (by assumption) (by assumption))).mono ?_) | refine (calls_ov (impl_RatioCeil_eq (by assumption) (by assumption))).mono ?_); rintro e w' ⟨rfl, x, rfl⟩) | (go_at_call 78; (first | (with_reducible refine (calls_ov2 (impl_RatioFloor_eq (by assumption) (by assumption))).mono ?_) | refine (calls_ov (impl_RatioFloor_eq (by assumption) (by assumption))).mono ?_); rintro e w' ⟨rfl, x, rfl⟩))
          refine bodyPost_ret (v := .agg #[.int .i64 l, .int .i64 1]) (by simp [results, Tryz.results38, go_sem]) rfl ⟨ret_agg2 HP.out, ?_⟩
          (repeat (first | exact bR | refine bO ?_ | refine bA ?_ | refine bS ?_ | refine bD ?_ | refine bN ?_))
        · simp only [q1, q3, if_true, if_false] at hp
          have HP := Lib.hid hp
          clear hp
          go_enter Tryz.func38, Tryz.ntmps38
          go_wp2_with (first | (go_at_call 34; (first | (with_reducible refine (calls_ov2 (impl_SpanOk_eq (by assumption) (by omega) (by omega) (by omega) (by omega))).mono ?_) | refine (calls_ov (impl_SpanOk_eq (by assumption) (by omega) (by omega) (by omega) (by omega))).mono ?_); rintro e w' ⟨rfl, x, rfl⟩) | (go_at_call 35; (first | (with_reducible refine (calls_ov2 (impl_RatioCmp_eq (by assumption) (by omega) (by omega) (by omega) (by omega))).mono ?_) | refine (calls_ov (impl_RatioCmp_eq (by assumption) (by omega) (by omega) (by omega) (by omega))).mono ?_); rintro e w' ⟨rfl, x, rfl⟩) | (go_at_call 76; (first | (with_reducible refine (calls_ov2 (whole_any _ _)).mono ?_) | refine (calls_ov (whole_any _ _)).mono ?_); rintro e w' ⟨rfl, x, rfl⟩) | (go_at_call 77; (first | (with_reducible refine (calls_ov2 (impl_RatioCeil_eq (by assumption) (by assumption))).mono ?_) | refine (calls_ov (impl_RatioCeil_eq (by assumption) (by assumption))).mono ?_); rintro e w' ⟨rfl, x, rfl⟩) | (go_at_call 78; (first | (with_reducible refine (calls_ov2 (impl_RatioFloor_eq (by assumption) (by assumption))).mono ?_) | refine (calls_ov (impl_RatioFloor_eq (by assumption) (by assumption))).mono ?_); rintro e w' ⟨rfl, x, rfl⟩))
          refine bodyPost_ret (v := .agg #[.int .i64 n, .int .i64 d]) (by simp [results, Tryz.results38, go_sem]) rfl ⟨ret_agg2 HP.out, ?_⟩
          (repeat (first | exact bR | refine bO ?_ | refine bA ?_ | refine bS ?_ | refine bD ?_ | refine bN ?_))
      · by_cases q2 : 0 < c2
        · by_cases q4 : 0 ≤ c4
          · simp only [q1, q2, q4, if_true, if_false] at hp
            have HP := Lib.hid hp
            clear hp
            go_enter Tryz.func38, Tryz.ntmps38
            go_wp2_with (first | (go_at_call 34; (first | (with_reducible refine (calls_ov2 (impl_SpanOk_eq (by assumption) (by omega) (by omega) (by omega) (by omega))).mono ?_) | refine (calls_ov (impl_SpanOk_eq (by assumption) (by omega) (by omega) (by omega) (by omega))).mono ?_); rintro e w' ⟨rfl, x, rfl⟩) | (go_at_call 35; (first | (with_reducible refine (calls_ov2 (impl_RatioCmp_eq (by assumption) (by omega) (by omega) (by omega) (by omega))).mono ?_) | refine (calls_ov (impl_RatioCmp_eq (by assumption) (by omega) (by omega) (by omega) (by omega))).mono ?_); rintro e w' ⟨rfl, x, rfl⟩) | (go_at_call 76; (first | (with_reducible refine (calls_ov2 (whole_any _ _)).mono ?_) | refine (calls_ov (whole_any _ _)).mono ?_); rintro e w' ⟨rfl, x, rfl⟩) | (go_at_call 77; (first | (with_reducible refine (calls_ov2 (impl_RatioCeil_eq (by assumption) (by assumption))).mono ?_) | refine (calls_ov (impl_RatioCeil_eq (by assumption) (by assumption))).mono ?_); rintro e w' ⟨rfl, x, rfl⟩) | (go_at_call 78; (first | (with_reducible refine (calls_ov2 (impl_RatioFloor_eq (by assumption) (by assumption))).mono ?_) | refine (calls_ov (impl_RatioFloor_eq (by assumption) (by assumption))).mono ?_); rintro e w' ⟨rfl, x, rfl⟩))
            refine bodyPost_ret (v := .agg #[.int .i64 f, .int .i64 1]) (by simp [results, Tryz.results38, go_sem]) rfl ⟨ret_agg2 HP.out, ?_⟩
            (repeat (first | exact bR | refine bO ?_ | refine bA ?_ | refine bS ?_ | refine bD ?_ | refine bN ?_))
          · simp only [q1, q2, q4, if_true, if_false] at hp
            have HP := Lib.hid hp
            clear hp
            go_enter Tryz.func38, Tryz.ntmps38
            go_wp2_with (first | (go_at_call 34; (first | (with_reducible refine (calls_ov2 (impl_SpanOk_eq (by assumption) (by omega) (by omega) (by omega) (by omega))).mono ?_) | refine (calls_ov (impl_SpanOk_eq (by assumption) (by omega) (by omega) (by omega) (by omega))).mono ?_); rintro e w' ⟨rfl, x, rfl⟩) | (go_at_call 35; (first | (with_reducible refine (calls_ov2 (impl_RatioCmp_eq (by assumption) (by omega) (by omega) (by omega) (by omega))).mono ?_) | refine (calls_ov (impl_RatioCmp_eq (by assumption) (by omega) (by omega) (by omega) (by omega))).mono ?_); rintro e w' ⟨rfl, x, rfl⟩) | (go_at_call 76; (first | (with_reducible refine (calls_ov2 (whole_any _ _)).mono ?_) | refine (calls_ov (whole_any _ _)).mono ?_); rintro e w' ⟨rfl, x, rfl⟩) | (go_at_call 77; (first | (with_reducible refine (calls_ov2 (impl_RatioCeil_eq (by assumption) (by assumption))).mono ?_) | refine (calls_ov (impl_RatioCeil_eq (by assumption) (by assumption))).mono ?_); rintro e w' ⟨rfl, x, rfl⟩) | (go_at_call 78; (first | (with_reducible refine (calls_ov2 (impl_RatioFloor_eq (by assumption) (by assumption))).mono ?_) | refine (calls_ov (impl_RatioFloor_eq (by assumption) (by assumption))).mono ?_); rintro e w' ⟨rfl, x, rfl⟩))
            refine bodyPost_ret (v := .agg #[.int .i64 m, .int .i64 e]) (by simp [results, Tryz.results38, go_sem]) rfl ⟨ret_agg2 HP.out, ?_⟩
            (repeat (first | exact bR | refine bO ?_ | refine bA ?_ | refine bS ?_ | refine bD ?_ | refine bN ?_))
        · simp only [q1, q2, if_true, if_false] at hp
          have HP := Lib.hid hp
          clear hp
          go_enter Tryz.func38, Tryz.ntmps38
          go_wp2_with (first | (go_at_call 34; (first | (with_reducible refine (calls_ov2 (impl_SpanOk_eq (by assumption) (by omega) (by omega) (by omega) (by omega))).mono ?_) | refine (calls_ov (impl_SpanOk_eq (by assumption) (by omega) (by omega) (by omega) (by omega))).mono ?_); rintro e w' ⟨rfl, x, rfl⟩) | (go_at_call 35; (first | (with_reducible refine (calls_ov2 (impl_RatioCmp_eq (by assumption) (by omega) (by omega) (by omega) (by omega))).mono ?_) | refine (calls_ov (impl_RatioCmp_eq (by assumption) (by omega) (by omega) (by omega) (by omega))).mono ?_); rintro e w' ⟨rfl, x, rfl⟩) | (go_at_call 76; (first | (with_reducible refine (calls_ov2 (whole_any _ _)).mono ?_) | refine (calls_ov (whole_any _ _)).mono ?_); rintro e w' ⟨rfl, x, rfl⟩) | (go_at_call 77; (first | (with_reducible refine (calls_ov2 (impl_RatioCeil_eq (by assumption) (by assumption))).mono ?_) | refine (calls_ov (impl_RatioCeil_eq (by assumption) (by assumption))).mono ?_); rintro e w' ⟨rfl, x, rfl⟩) | (go_at_call 78; (first | (with_reducible refine (calls_ov2 (impl_RatioFloor_eq (by assumption) (by assumption))).mono ?_) | refine (calls_ov (impl_RatioFloor_eq (by assumption) (by assumption))).mono ?_); rintro e w' ⟨rfl, x, rfl⟩))
          refine bodyPost_ret (v := .agg #[.int .i64 1000, .int .i64 1]) (by simp [results, Tryz.results38, go_sem]) rfl ⟨ret_agg2 HP.out, ?_⟩
          (repeat (first | exact bR | refine bO ?_ | refine bA ?_ | refine bS ?_ | refine bD ?_ | refine bN ?_))

end
end Go.Proofs.YtabmfaamadbefaaGreat