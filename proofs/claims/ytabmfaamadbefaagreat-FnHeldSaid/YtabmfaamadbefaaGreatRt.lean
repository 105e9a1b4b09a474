/- Several texts in one: Hs, Ra, Rt. Each says its own conditions. -/
import Derived.Test.YtabmfaamadbefaaGreatCo
import Derived.Test.YtabmfaamadbefaaGreatGeo
import Derived.Test.YtabmfaamadbefaaGreatFr
import Derived.Test.YtabmfaamadbefaaGreatSp
/- Contracts of sides, holds, within, IsWithin and CornersOf, of the program and of the reference; a region's corners are spots. No condition but that lengths are ints. -/
set_option linter.unusedSimpArgs false
set_option linter.unusedVariables false
set_option linter.unusedSectionVars false
namespace Go.Proofs.YtabmfaamadbefaaGreat
open Go.RowKit
def okS (s : H3) : Bool := spotOk s.a s.b s.c
theorem okS_bd {s : H3} (h : okS s = true) : (1 ≤ s.c ∧ s.c ≤ 5000000000) ∧ (-1000 * s.c ≤ s.a ∧ s.a ≤ 1000 * s.c) ∧ (-1000 * s.c ≤ s.b ∧ s.b ≤ 1000 * s.c) := by
  simp only [okS, spotOk, Bool.and_eq_true] at h
  exact ⟨inR_iff.1 h.1.1.1, inR_iff.1 h.1.1.2, inR_iff.1 h.1.2⟩
def sideI (h s : H3) : Int := h.a * s.a + h.b * s.b - h.c * s.c
def sgn (n : Int) : Int := if n < 0 then -1 else if 0 < n then 1 else 0
theorem side_bd {h s : H3} (k : HOk h) (ks : okS s = true) : (-250000000000000000 ≤ h.a * s.a ∧ h.a * s.a ≤ 250000000000000000) ∧ (-250000000000000000 ≤ h.b * s.b ∧ h.b * s.b ≤ 250000000000000000) ∧ (-500000000000000000 ≤ h.c * s.c ∧ h.c * s.c ≤ 500000000000000000) := by
  obtain ⟨b1, b2, b3⟩ := okS_bd ks
  have m1 := mul_bd (A := 50000) (B := 5000000000000) k.ba (y := s.a) (by omega)
  have m2 := mul_bd (A := 50000) (B := 5000000000000) k.bb (y := s.b) (by omega)
  have m3 := mul_bd (A := 100000000) (B := 5000000000) k.bc (y := s.c) (by omega)
  omega
/-- A spot lies in the region of these half planes. -/
def hasL (hs : List H3) (s : H3) : Bool := decide (hs ≠ []) && hs.all fun h => decide (sideI h s ≤ 0)
def withinL (ps qs : List H3) : Bool := (cornersL ps).all (hasL qs)
def isWithinR (ps qs : List H3) : Bool := regionOk ps && regionOk qs && withinL ps qs
def cornersR (hs : List H3) : List H3 := if regionOk hs = true then cornersL hs else []
theorem cornersR_short {hs out : List H3} (h : cornersR hs = out) : out.length ≤ 1000 := by
  unfold cornersR at h
  split at h
  · rename_i k
    rw [← h, cornersL_length]
    by_cases h0 : hs = []
    · rw [h0]; simp
    · have := (regionOk_parts k h0).2.2; omega
  · rw [← h]; simp
theorem Reg.corner_ok {hs L : List H3} (R : Reg hs L) (G : ∀ g ∈ hs, HOk g) {k : Nat} (hk : k < hs.length) :
    ∃ (hj : (k + 1) % hs.length < hs.length) (g : Nat) (a b c : Int), 0 < g ∧ crossI hs[k] hs[(k + 1) % hs.length] = (a * g, b * g, c * g) ∧ cornerH hs k = ⟨a, b, c⟩ ∧ 0 < c ∧ spotOk a b c = true := by
  have hj : (k + 1) % hs.length < hs.length := Nat.mod_lt _ (by omega)
  obtain ⟨hc, hi⟩ := R.crossing hk hj
  have hd := crossI_pos (h := hs[k]) (g := hs[(k + 1) % hs.length]) (by omega)
  have hb := crossI_bd (G _ (List.getElem_mem hk)) (G _ (List.getElem_mem hj))
  obtain ⟨_, hf, _⟩ := (insideI_iff _ _).1 hi
  obtain ⟨g, a, b, c, g0, e, es, _, c0, ok⟩ := spotOf_frame hd hb hf
  exact ⟨hj, g, a, b, c, g0, e, cornerH_at hk hj rfl (a := a) (b := b) (c := c) (ok := true) es, c0, ok⟩
theorem corners_spots {hs : List H3} (h : regionOk hs = true) : ∀ s ∈ cornersL hs, okS s = true := by
  intro s hs'
  unfold cornersL at hs'
  obtain ⟨k, hk, rfl⟩ := List.mem_map.1 hs'
  have hk := List.mem_range.1 hk
  have hne : hs ≠ [] := by rintro rfl; simp at hk
  obtain ⟨G, hm, _⟩ := regionOk_parts h hne
  obtain ⟨_, g, a, b, c, _, _, e, _, ok⟩ := (reg_of G hm hne).corner_ok G hk
  rw [e]; exact ok
theorem region_good {hs : List H3} (h : regionOk hs = true) : (∀ g ∈ hs, HOk g) ∧ hs.length ≤ 40 := by
  by_cases h0 : hs = []
  · subst h0; exact ⟨(fun g hg => nomatch hg), by simp⟩
  · obtain ⟨G, _, h40⟩ := regionOk_parts h h0; exact ⟨G, h40⟩

theorem signOf_any {n v : Int} {w : World} (h : Hid (sgn n = v)) : Calls Tryz.prog 132 #[.int .i64 n] w fun e w' => e = .returned (.int .i64 v) ∧ w = w' := by
  have h' := h.out
  unfold sgn at h'
  by_cases h1 : n < 0
  · rw [if_pos h1] at h'
    subst h'
    go_enter Tryz.func132, Tryz.ntmps132
    go_wp2
    go_ret
    exact ⟨rfl, rfl⟩
  · rw [if_neg h1] at h'
    by_cases h2 : 0 < n
    · rw [if_pos h2] at h'
      subst h'
      go_enter Tryz.func132, Tryz.ntmps132
      go_wp2
      go_ret
      exact ⟨rfl, rfl⟩
    · rw [if_neg h2] at h'
      subst h'
      go_enter Tryz.func132, Tryz.ntmps132
      go_wp2
      go_ret
      exact ⟨rfl, rfl⟩
theorem SideOf_eq {h s : H3} {v : Int} {w : World} (kh : HOk h) (ks : okS s = true) (hv : Hid (sgn (sideI h s) = v)) :
    Calls Tryz.prog 106 #[.agg #[.int .i64 h.a, .int .i64 h.b, .int .i64 h.c], .agg #[.int .i64 s.a, .int .i64 s.b, .int .i64 s.c]] w fun e w' => e = .returned (.int .i64 v) ∧ Below w.heap.size w w' := by
  obtain ⟨m1, m2, m3⟩ := side_bd kh ks
  obtain ⟨b1, b2, b3⟩ := okS_bd ks
  have HV : Hid (sgn (h.a * s.a + h.b * s.b - h.c * s.c) = v) := hv
  have OH := Lib.hid ((halfOk_iff _).2 kh)
  have OS := Lib.hid (show spotOk s.a s.b s.c = true from ks)
  clear hv ks kh
  go_enter Tryz.func106, Tryz.ntmps106
  go_wp2_with (first | (go_at_call 55; (first | (with_reducible refine (calls_ov2 (impl_HalfOk_eq (by exact OH.out))).mono ?_) | refine (calls_ov (impl_HalfOk_eq (by exact OH.out))).mono ?_); rintro e w' ⟨rfl, x, rfl⟩) | (go_at_call 31; (first | (with_reducible refine (calls_ov2 (impl_SpotOk_eq (by exact OS.out) (by omega) (by omega) (by omega))).mono ?_) | refine (calls_ov (impl_SpotOk_eq (by exact OS.out) (by omega) (by omega) (by omega))).mono ?_); rintro e w' ⟨rfl, x, rfl⟩) | (go_at_call 132; refine (signOf_any HV).mono ?_; rintro e w' ⟨rfl, rfl⟩))
  go_ret
  exact ⟨rfl, (by repeat (first | exact bR | refine bO ?_ | refine bA ?_ | refine bS ?_ | refine bD ?_ | refine bN ?_))⟩
theorem sgn_pos {n : Int} : 0 < sgn n ↔ 0 < n := by unfold sgn; split <;> (try split) <;> omega
theorem has_take {hs : List H3} {s : H3} {k : Nat} (hk : k < hs.length) (h : (hs.take k).all (fun h => decide (sideI h s ≤ 0)) = true) (hn : ¬ 0 < sgn (sideI hs[k] s)) : (hs.take (k + 1)).all (fun h => decide (sideI h s ≤ 0)) = true := by
  rw [all_take_succ _ _ _ hk, h, decide_eq_true (by rw [sgn_pos] at hn; omega)]; rfl
theorem has_false {hs : List H3} {s : H3} {k : Nat} (hk : k < hs.length) (hn : 0 < sgn (sideI hs[k] s)) : hasL hs s = false := by
  unfold hasL
  rw [Bool.and_eq_false_iff]; right
  rw [List.all_eq_false]
  exact ⟨hs[k], List.getElem_mem hk, by rw [sgn_pos] at hn; simp; omega⟩
theorem has_end {hs : List H3} {s : H3} (h : (hs.take hs.length).all (fun h => decide (sideI h s ≤ 0)) = true) : hasL hs s = decide (hs ≠ []) := by
  rw [List.take_length] at h
  unfold hasL; rw [h, Bool.and_true]

set_option maxHeartbeats 4000000 in
theorem holds_eq {hs : List H3} {s : H3} {v : Bool} {A : Option Addr} {c : Nat} {w : World} (G : ∀ g ∈ hs, HOk g) (ks : okS s = true) (R : R3 44 w A c hs) (hl : hs.length ≤ 1000) (hv : Hid (hasL hs s = v)) :
    Calls Tryz.prog 69 #[.agg #[.slice A hs.length c], .agg #[.int .i64 s.a, .int .i64 s.b, .int .i64 s.c]] w fun e w' => e = .returned (.bool v) ∧ Below w.heap.size w w' := by
  go_enter Tryz.func69, Tryz.ntmps69
  go_wp2
  obtain ⟨W0, hW⟩ : ∃ W0, W0 = (w.alloc (.cells #[.slice A hs.length c] 26)).alloc (.cells #[.int .i64 s.a, .int .i64 s.b, .int .i64 s.c] 52) := ⟨_, rfl⟩
  rw [← hW]
  have T0 : Below w.heap.size w W0 := by rw [hW]; exact (by repeat (first | exact bR | refine bO ?_ | refine bA ?_ | refine bS ?_ | refine bD ?_ | refine bN ?_))
  have X1 := Lib.hid (show W0.heap[w.heap.size]? = some (.cells #[.slice A hs.length c] 26 (0, 0)) by rw [hW]; exact alloc_blk (heap_alloc_new _ _))
  have X2 := Lib.hid (show W0.heap[w.heap.size + 1]? = some (.cells #[.int .i64 s.a, .int .i64 s.b, .int .i64 s.c] 52 (0, 0)) by rw [hW]; exact heap_new_at (by simp) rfl)
  have s0 : W0.heap.size = w.heap.size + 1 + 1 := by rw [hW]; simp
  (try rw [← s0])
  clear hW s0
  have t0 := T0.size
  generalize w.heap.size + 1 = b2 at X2 ⊢
  obtain ⟨b1, hb1⟩ : ∃ b, w.heap.size = b := ⟨_, rfl⟩
  have RW := R.below T0
  rw [hb1] at X1 t0 ⊢
  go_loopw [10] (fun i wr => ∃ k : Nat, k ≤ hs.length ∧ i = .int .i64 k ∧ Hid ((hs.take k).all (fun h => decide (sideI h s ≤ 0)) = true) ∧ Below W0.heap.size W0 wr) (fun i _ => hs.length - (intOf i).toNat)
  case atStart => exact ⟨0, Nat.zero_le _, rfl, Lib.hid rfl, Below.refl _ _⟩
  case round =>
    obtain ⟨k, hk, rfl, HA, hb⟩ := hrel
    have hbs := hb.size
    have hbx : Below w.heap.size w wr := T0.trans (hb.mono (by omega))
    have hbw : Below b1 w wr := by rw [← hb1]; exact hbx
    have X3 := box_below X1 hb
    have X4 := box_below X2 hb
    have x1 := cell_blk (j := 0) (v := .slice A hs.length c) X3.out rfl
    have l1 := (Array.getElem?_eq_some_iff.1 X3.out).1
    have x2 := cell_blk (j := 0) (v := .int .i64 s.a) X4.out rfl
    have x3 := cell_blk (j := 1) (v := .int .i64 s.b) X4.out rfl
    have x4 := cell_blk (j := 2) (v := .int .i64 s.c) X4.out rfl
    have l2 := (Array.getElem?_eq_some_iff.1 X4.out).1
    by_cases hlt : k < hs.length
    · obtain ⟨g0, rfl, hg0, z0, z1, z2⟩ := (RW.below hb).at_ hlt
      have kg := G _ (List.getElem_mem hlt)
      obtain ⟨u, hu⟩ : ∃ u, sgn (sideI hs[k] s) = u := ⟨_, rfl⟩
      have HU := Lib.hid hu
      have HT := Lib.hid (has_take hlt HA.out)
      have HF := Lib.hid (has_false (s := s) hlt)
      rw [hu] at HT HF
      clear hu
      by_cases hpos : 0 < u
      · obtain rfl : v = false := by rw [← hv.out]; exact HF.out hpos
        go_wp2_with ((go_at_call 106; (first | (with_reducible refine (calls_ov2 (SideOf_eq kg ks HU)).mono ?_) | refine (calls_ov (SideOf_eq kg ks HU)).mono ?_); rintro e w' ⟨rfl, x, rfl⟩))
        go_ret
        exact ⟨rfl, by (try rw [hb1]); exact (by repeat (first | exact hbw | refine bO ?_ | refine bA ?_ | refine bS ?_ | refine bD ?_ | refine bN ?_))⟩
      · have HN := Lib.hid (HT.out hpos)
        go_wp2_with ((go_at_call 106; (first | (with_reducible refine (calls_ov2 (SideOf_eq kg ks HU)).mono ?_) | refine (calls_ov (SideOf_eq kg ks HU)).mono ?_); rintro e w' ⟨rfl, x, rfl⟩))
        go_roundw
        case rel => exact ⟨k + 1, by omega, by go_num, HN.out, (by repeat (first | exact hb | refine bO ?_ | refine bA ?_ | refine bS ?_ | refine bD ?_ | refine bN ?_))⟩
        case measure => simp [intOf] <;> omega
    · obtain rfl : k = hs.length := by omega
      have hend := has_end HA.out
      rw [hv.out] at hend
      have HV : Hid (decide (hs.length = 0) = !v) := Lib.hid (by rw [hend]; by_cases h0 : hs = [] <;> simp [h0])
      clear hend
      cases v with
      | true =>
        have HV : Hid (decide (hs.length = 0) = false) := HV
        go_wp2_with ((go_at_call 20; (first | (with_reducible refine (calls_ov2 (IsVoid_eq HV)).mono ?_) | refine (calls_ov (IsVoid_eq HV)).mono ?_); rintro e w' ⟨rfl, x, rfl⟩))
        go_ret
        exact ⟨rfl, by (try rw [hb1]); exact (by repeat (first | exact hbw | refine bO ?_ | refine bA ?_ | refine bS ?_ | refine bD ?_ | refine bN ?_))⟩
      | false =>
        have HV : Hid (decide (hs.length = 0) = true) := HV
        go_wp2_with ((go_at_call 20; (first | (with_reducible refine (calls_ov2 (IsVoid_eq HV)).mono ?_) | refine (calls_ov (IsVoid_eq HV)).mono ?_); rintro e w' ⟨rfl, x, rfl⟩))
        go_ret
        exact ⟨rfl, by (try rw [hb1]); exact (by repeat (first | exact hbw | refine bO ?_ | refine bA ?_ | refine bS ?_ | refine bD ?_ | refine bN ?_))⟩

end Go.Proofs.YtabmfaamadbefaaGreat
/- Contracts of RatioOk and RatioCmp in the program and in the reference: the latter's continued fractions compare as cross products do. Condition: the numbers are ints. -/
set_option linter.unusedSimpArgs false
set_option linter.unusedVariables false
set_option linter.unusedSectionVars false
namespace Go.Proofs.YtabmfaamadbefaaGreat
open Go.RowKit Go.Lib
def ratioOk (n d : Int) : Bool := inR d 1 1000000000000000 && inR n (-1000000000000000000) 1000000000000000000 && decide (gcdS n d = 1)
theorem ratioOk_bd {n d : Int} (h : ratioOk n d = true) : (1 ≤ d ∧ d ≤ 1000000000000000) ∧ (-1000000000000000000 ≤ n ∧ n ≤ 1000000000000000000) := by
  simp only [ratioOk, Bool.and_eq_true] at h
  exact ⟨inR_iff.1 h.1.1, inR_iff.1 h.1.2⟩
def ratioCmp (n d m e : Int) : Int := if ratioOk n d = true ∧ ratioOk m e = true then cmpF n d m e else 0

theorem cf_split {a b c d : Int} : a * d - c * b = (a - a / b * b) * d - (c - c / d * d) * b + (a / b - c / d) * (b * d) := by grind
theorem cf_lt {a b c d : Int} (hb : 0 < b) (hd : 0 < d) (h : a / b < c / d) : cmpF a b c d = -1 := by
  have h1 := Int.emod_lt_of_pos a hb
  have h2 := Int.emod_nonneg c (show d ≠ 0 by omega)
  have e1 := Int.mul_ediv_add_emod a b
  have e2 := Int.mul_ediv_add_emod c d
  have : a * d < c * b := by
    have k1 : a < (a / b + 1) * b := by grind
    have k2 : (a / b + 1) * b ≤ c / d * b := Int.mul_le_mul_of_nonneg_right (by omega) (by omega)
    have k3 : c / d * d ≤ c := by grind
    have k4 : a * d < (c / d * b) * d := Int.mul_lt_mul_of_pos_right (by omega) hd
    have k5 : (c / d * d) * b ≤ c * b := Int.mul_le_mul_of_nonneg_right k3 (by omega)
    have : (c / d * b) * d = (c / d * d) * b := by grind
    omega
  unfold cmpF; rw [if_pos this]
theorem cf_gt {a b c d : Int} (hb : 0 < b) (hd : 0 < d) (h : c / d < a / b) : cmpF a b c d = 1 := by
  rw [cmpF_swap, cf_lt hd hb h]; rfl
theorem cf_rest {a b c d : Int} (h : a / b = c / d) : cmpF a b c d = cmpF (a - a / b * b) b (c - c / d * d) d := by
  have := @cf_split a b c d
  rw [h] at this
  unfold cmpF
  rw [h]
  have e : (c / d - c / d) * (b * d) = 0 := by rw [Int.sub_self, Int.zero_mul]
  split <;> split <;> (try split) <;> (try split) <;> omega
theorem cf_turn (r b s d : Int) : cmpF r b s d = - cmpF b r d s := by
  have e1 : r * d = d * r := Int.mul_comm _ _
  have e2 : s * b = b * s := Int.mul_comm _ _
  unfold cmpF
  split <;> split <;> (try split) <;> (try split) <;> omega
theorem cf_zero {r b s d : Int} (hb : 0 < b) (hd : 0 < d) : (r = 0 → s = 0 → cmpF r b s d = 0) ∧ (r = 0 → 0 < s → cmpF r b s d = -1) ∧ (0 < r → s = 0 → cmpF r b s d = 1) := by
  refine ⟨?_, ?_, ?_⟩
  · rintro rfl rfl; unfold cmpF; simp
  · rintro rfl h; have := Int.mul_pos h hb; unfold cmpF; rw [Int.zero_mul, if_pos (by omega)]
  · rintro h rfl; have := Int.mul_pos h hd; unfold cmpF; rw [Int.zero_mul, if_neg (by omega), if_pos (by omega)]
theorem cf_bd {a b : Int} (hb : 0 < b) (ha : -1000000000000000000 ≤ a ∧ a ≤ 1000000000000000000) (hb' : b ≤ 1000000000000000000) :
    0 ≤ a - a / b * b ∧ a - a / b * b < b ∧ -1000000000000000000 ≤ a / b ∧ a / b ≤ 1000000000000000000 ∧ -2000000000000000000 ≤ a / b * b ∧ a / b * b ≤ 1000000000000000000 := by
  have h1 := Int.emod_lt_of_pos a hb
  have h2 := Int.emod_nonneg a (show b ≠ 0 by omega)
  have e1 := Int.mul_ediv_add_emod a b
  have e3 : a / b * b = b * (a / b) := Int.mul_comm _ _
  have q1 : a / b ≤ 1000000000000000000 := by
    rcases Int.lt_or_le 0 (a / b) with h | h
    · have : 1 * (a / b) ≤ b * (a / b) := Int.mul_le_mul_of_nonneg_right (by omega) (by omega)
      omega
    · omega
  have q2 : -1000000000000000000 ≤ a / b := by
    have : -1000000000000000000 ≤ a / b ↔ -1000000000000000000 * b ≤ a := Int.le_ediv_iff_mul_le hb
    rw [this]; omega
  omega

theorem tdiv_floor {a b : Int} (hb : 0 < b) : a / b = if a.tmod b < 0 then a.tdiv b - 1 else a.tdiv b := by
  have e := Int.mul_tdiv_add_tmod a b
  have h1 := Int.tmod_lt_of_pos a hb
  have h2 := Int.lt_tmod_of_pos a hb
  have ee := Int.mul_ediv_add_emod a b
  have g1 := Int.emod_lt_of_pos a hb
  have g2 := Int.emod_nonneg a (show b ≠ 0 by omega)
  have key : ∀ q r : Int, b * q + r = a → 0 ≤ r → r < b → a / b = q := by
    intro q r h h0 hl
    have : b * (a / b - q) = r - a % b := by grind
    rcases Int.lt_trichotomy (a / b - q) 0 with k | k | k
    · have : b * (a / b - q) ≤ b * (-1) := Int.mul_le_mul_of_nonneg_left (by omega) (by omega)
      omega
    · omega
    · have : b * 1 ≤ b * (a / b - q) := Int.mul_le_mul_of_nonneg_left (by omega) (by omega)
      omega
  split
  · exact key _ (a.tmod b + b) (by grind) (by omega) (by omega)
  · exact key _ (a.tmod b) (by omega) (by omega) (by omega)

theorem isLeast_any (n : Int) (w : World) (hn : -9223372036854775807 ≤ n ∧ n ≤ 9223372036854775807) :
    Calls Tryz.prog 74 #[.int .i64 n] w fun e w' => e = .returned (.bool false) ∧ w = w' := by
  have h1 : ((n.natAbs : Int) == 9223372036854775808) = false := by simp; omega
  go_enter Tryz.func74, Tryz.ntmps74
  go_wp2_with ((go_at_call 75; refine (magnitude_any _ _ (by omega) (by omega)).mono ?_; rintro e w' ⟨rfl, rfl⟩))
  go_ret
  exact ⟨rfl, rfl⟩

theorem gcd2_any (a b : Int) (B : Nat) (w : World) (hB : B = w.heap.size) (ha : -9223372036854775808 ≤ a ∧ a ≤ 9223372036854775807) (hb : -9223372036854775808 ≤ b ∧ b ≤ 9223372036854775807) :
    Calls Tryz.prog 70 #[.slice (some ⟨B, 0, none⟩) 2 2] (w.alloc (.cells #[.int .i64 a, .int .i64 b] 3)) fun e w' =>
      e = .returned (.int .u64 (gcdL [a, b])) ∧ ∃ n, w' = (w.alloc (.cells #[.int .i64 a, .int .i64 b] 3)).drewN n := by
  subst hB
  refine gcdOfAll_any [a, b] w.heap.size 2 _ (by simp) ?_ ?_
  · intro x hx
    simp at hx
    rcases hx with rfl | rfl <;> assumption
  · intro k hk
    match k, hk with
    | 0, _ => simp [go_sem]
    | 1, _ => simp [go_sem]

theorem gcdL2 (a b : Int) (ha : -9223372036854775807 ≤ a) (hb : -9223372036854775807 ≤ b) : (gcdL [a, b] : Int) = gcdS a b := by
  rw [gcdS_eq a b ha hb]; simp [gcdL]

theorem impl_GcdOf_any (a b : Int) (w : World) (ha : -9223372036854775807 ≤ a ∧ a ≤ 9223372036854775807) (hb : -9223372036854775807 ≤ b ∧ b ≤ 9223372036854775807) :
    Calls Tryz.prog 98 #[.int .i64 a, .int .i64 b] w fun e w' => e = .returned (.int .i64 (gcdS a b)) ∧ Below w.heap.size w w' := by
  have HE := gcdL2 a b (by omega) (by omega)
  have hg := gcdS_bd a b (by omega) (by omega)
  have hw : IntKind.i64.wrap (gcdL [a, b] : Int) = (gcdL [a, b] : Int) := by rw [IntKind.wrap_i64]; omega
  go_enter Tryz.func98, Tryz.ntmps98
  go_wp2_with (first | (go_at_call 70; refine (gcd2_any _ _ _ _ (by simp) (by omega) (by omega)).mono ?_; rintro e w' ⟨rfl, n, rfl⟩) | (go_at_call 74; refine (isLeast_any _ _ (by omega)).mono ?_; rintro e w' ⟨rfl, rfl⟩))
  go_ret
  exact ⟨rfl, (by repeat (first | exact bR | refine bO ?_ | refine bA ?_ | refine bS ?_ | refine bD ?_ | refine bN ?_))⟩

theorem impl_RatioOk_any (n d : Int) (w : World) (hn : -9223372036854775808 ≤ n ∧ n ≤ 9223372036854775807) (hd : -9223372036854775808 ≤ d ∧ d ≤ 9223372036854775807) :
    Calls Tryz.prog 64 #[.agg #[.int .i64 n, .int .i64 d]] w fun e w' => e = .returned (.bool (ratioOk n d)) ∧ Below w.heap.size w w' := by
  have HS := Lib.hid (show (inR d 1 1000000000000000 && inR n (-1000000000000000000) 1000000000000000000 && decide (gcdS n d = 1)) = ratioOk n d from rfl)
  rcases chain2 (inR d 1 1000000000000000) (inR n (-1000000000000000000) 1000000000000000000) with h1 | ⟨h1, h2⟩ | ⟨h1, h2⟩
  · go_enter Tryz.func64, Tryz.ntmps64
    go_wp2_with (first | (go_at_call 60; refine (inRange_eq (by assumption)).mono ?_; rintro e w' ⟨rfl, rfl⟩))
    go_ret
    exact ⟨ret_bool (by rw [← HS.out, h1]; rfl), (by repeat (first | exact bR | refine bO ?_ | refine bA ?_ | refine bS ?_ | refine bD ?_ | refine bN ?_))⟩
  · go_enter Tryz.func64, Tryz.ntmps64
    go_wp2_with (first | (go_at_call 60; refine (inRange_eq (by assumption)).mono ?_; rintro e w' ⟨rfl, rfl⟩))
    go_ret
    exact ⟨ret_bool (by rw [← HS.out, h1, h2]; rfl), (by repeat (first | exact bR | refine bO ?_ | refine bA ?_ | refine bS ?_ | refine bD ?_ | refine bN ?_))⟩
  · have q1 := inR_iff.1 h1
    have q2 := inR_iff.1 h2
    go_enter Tryz.func64, Tryz.ntmps64
    go_wp2_with (first | (go_at_call 60; refine (inRange_eq (by assumption)).mono ?_; rintro e w' ⟨rfl, rfl⟩) | (go_at_call 98; (first | (with_reducible refine (calls_ov2 (impl_GcdOf_any _ _ _ (by omega) (by omega))).mono ?_) | refine (calls_ov (impl_GcdOf_any _ _ _ (by omega) (by omega))).mono ?_); rintro e w' ⟨rfl, x, rfl⟩))
    go_ret
    exact ⟨ret_bool (by rw [← HS.out, h1, h2]; rfl), (by repeat (first | exact bR | refine bO ?_ | refine bA ?_ | refine bS ?_ | refine bD ?_ | refine bN ?_))⟩

theorem impl_RatioOk_eq {n d : Int} {w : World} {v : Bool} (h : ratioOk n d = v) (hn : -9223372036854775808 ≤ n ∧ n ≤ 9223372036854775807) (hd : -9223372036854775808 ≤ d ∧ d ≤ 9223372036854775807) :
    Calls Tryz.prog 64 #[.agg #[.int .i64 n, .int .i64 d]] w fun e w' => e = .returned (.bool v) ∧ Below w.heap.size w w' := by subst h; exact impl_RatioOk_any n d w hn hd
end Go.Proofs.YtabmfaamadbefaaGreat
/- Contracts of RatioOf for a positive divisor, of the program and of the reference. Condition: the divisor is positive. -/
set_option linter.unusedSimpArgs false
set_option linter.unusedVariables false
set_option linter.unusedSectionVars false
namespace Go.Proofs.YtabmfaamadbefaaGreat
open Go.RowKit Go.Lib
def ratOf (n d : Int) : Int × Int := if ratioOk (n / (gcdL [n, d] : Nat)) (d / (gcdL [n, d] : Nat)) = true then (n / (gcdL [n, d] : Nat), d / (gcdL [n, d] : Nat)) else (0, 0)
theorem gcd2_parts {n d : Int} (hd : 0 < d) : ∃ (g : Nat) (a b : Int), gcdL [n, d] = g ∧ 0 < g ∧ n = a * g ∧ d = b * g ∧ n / (g : Int) = a ∧ d / (g : Int) = b ∧ 0 < b ∧ Nat.gcd a.natAbs b.natAbs = 1 := by
  have e : gcdL [n, d] = Nat.gcd n.natAbs d.natAbs := by simp [gcdL]
  have g0 : 0 < Nat.gcd n.natAbs d.natAbs := Nat.gcd_pos_of_pos_right _ (by omega)
  obtain ⟨a, ha⟩ : ((Nat.gcd n.natAbs d.natAbs : Nat) : Int) ∣ n := Int.ofNat_dvd_left.2 (Nat.gcd_dvd_left _ _)
  obtain ⟨b, hb⟩ : ((Nat.gcd n.natAbs d.natAbs : Nat) : Int) ∣ d := Int.ofNat_dvd_left.2 (Nat.gcd_dvd_right _ _)
  generalize hg : Nat.gcd n.natAbs d.natAbs = g at *
  have gq : (0 : Int) < g := by omega
  have hb0 : 0 < b := by
    rcases Int.lt_or_le 0 b with h | h
    · exact h
    · have := Int.mul_nonpos_of_nonneg_of_nonpos (a := (g : Int)) (b := b) (by omega) h; omega
  refine ⟨g, a, b, e, g0, by rw [Int.mul_comm]; exact ha, by rw [Int.mul_comm]; exact hb, by rw [ha]; exact Int.mul_ediv_cancel_left _ (by omega), by rw [hb]; exact Int.mul_ediv_cancel_left _ (by omega), hb0, ?_⟩
  rw [ha, hb, Int.natAbs_mul, Int.natAbs_mul, Int.natAbs_natCast, Nat.gcd_mul_left] at hg
  have : g * Nat.gcd a.natAbs b.natAbs = g * 1 := by omega
  exact Nat.eq_of_mul_eq_mul_left g0 this
theorem ratOf_red {n d a b : Int} {g : Nat} (e : gcdL [n, d] = g) (qa : n / (g : Int) = a) (qb : d / (g : Int) = b) : ratOf n d = if ratioOk a b = true then (a, b) else (0, 0) := by unfold ratOf; rw [e, qa, qb]
theorem ratOf_ok {n d p q : Int} (h : ratOf n d = (p, q)) : ratioOk p q = true ∨ (p = 0 ∧ q = 0) := by
  unfold ratOf at h
  split at h
  · rename_i k; simp at h; rw [← h.1, ← h.2]; exact .inl k
  · simp at h; exact .inr ⟨h.1.symm, h.2.symm⟩
theorem ratioOk_parts {a b : Int} (hb : 0 < b) (hg : Nat.gcd a.natAbs b.natAbs = 1) (ba : -9223372036854775807 ≤ a) : ratioOk a b = true ↔ b ≤ 1000000000000000 ∧ -1000000000000000000 ≤ a ∧ a ≤ 1000000000000000000 := by
  simp only [ratioOk, inR, Bool.and_eq_true, decide_eq_true_eq]
  constructor
  · rintro ⟨⟨⟨_, h1⟩, h2, h3⟩, _⟩; exact ⟨h1, h2, h3⟩
  · rintro ⟨h1, h2, h3⟩; exact ⟨⟨⟨by omega, h1⟩, h2, h3⟩, by rw [gcdS_eq _ _ ba (by omega), hg]; rfl⟩
theorem gcd2_eq {a b : Int} {B g : Nat} {w : World} (h : gcdL [a, b] = g) (hB : B = w.heap.size) (ha : -9223372036854775808 ≤ a ∧ a ≤ 9223372036854775807) (hb : -9223372036854775808 ≤ b ∧ b ≤ 9223372036854775807) :
    Calls Tryz.prog 70 #[.slice (some ⟨B, 0, none⟩) 2 2] (w.alloc (.cells #[.int .i64 a, .int .i64 b] 3)) fun e w' =>
      e = .returned (.int .u64 g) ∧ ∃ n, w' = (w.alloc (.cells #[.int .i64 a, .int .i64 b] 3)).drewN n := by
  have := gcd2_any a b B w hB ha hb
  rw [h] at this; exact this
theorem sign_of {n q : Int} {g : Nat} (hg : 0 < g) (h : n = q * (g : Int)) : n < 0 ↔ q < 0 := by
  subst h
  constructor
  · intro h
    rcases Int.lt_or_le q 0 with h1 | h1
    · exact h1
    · have := Int.mul_nonneg h1 (show (0 : Int) ≤ g by omega); omega
  · intro h; exact Int.mul_neg_of_neg_of_pos h (by omega)

set_option maxHeartbeats 4000000 in
theorem impl_RatioOf_eq {n d p q : Int} {w : World} (h : Hid (ratOf n d = (p, q))) (hn : -9223372036854775807 ≤ n ∧ n ≤ 9223372036854775807) (hd : 0 < d ∧ d ≤ 9223372036854775807) :
    Calls Tryz.prog 36 #[.int .i64 n, .int .i64 d] w fun e w' => e = .returned (.agg #[.int .i64 p, .int .i64 q]) ∧ Below w.heap.size w w' := by
  obtain ⟨g, a, b, eg, g0, ea, eb, qa, qb, b0, hg⟩ := gcd2_parts (n := n) hd.1
  have h' := h.out
  rw [ratOf_red eg qa qb] at h'
  have ba := mul_le_bd (a := a) (M := 9223372036854775807) g0 (by omega) (by rw [← ea]; exact hn)
  have bb := mul_le_bd (a := b) (M := 9223372036854775807) g0 (by omega) (by rw [← eb]; omega)
  have hok := ratioOk_parts b0 hg ba.1
  have gz : ((g : Int) == 0) = false := by simp; omega
  have d1 := natAbs_div g0 ea
  have d2 := natAbs_div g0 eb
  have bN : (b.natAbs : Int) = b := by omega
  rw [bN] at d2
  have hs := sign_of g0 ea
  have hw1 : IntKind.u64.wrap (a.natAbs : Int) = (a.natAbs : Int) := by rw [IntKind.wrap_u64]; omega
  have hw2 : IntKind.i64.wrap (a.natAbs : Int) = (a.natAbs : Int) := by rw [IntKind.wrap_i64]; omega
  have hw3 : IntKind.i64.wrap (-(a.natAbs : Int)) = -(a.natAbs : Int) := by rw [IntKind.wrap_i64]; omega
  have hw4 : IntKind.u64.wrap b = b := by rw [IntKind.wrap_u64]; omega
  have hdz : (d == 0) = false := by simp; omega
  clear h ea eb qa qb hg bN
  by_cases hk : ratioOk a b = true
  · rw [if_pos hk] at h'
    simp at h'
    obtain ⟨rfl, rfl⟩ := h'
    obtain ⟨k1, k2, k3⟩ := hok.1 hk
    clear hok hk
    by_cases hneg : n < 0
    · have ha := hs.1 hneg
      have haN : -(a.natAbs : Int) = a := by omega
      have k4 : (a.natAbs : Int) ≤ 1000000000000000000 := by omega
      have hx2 : decide (d < 0) = false := decide_eq_false (by omega)
      have hx1 : decide (n < 0) = true := decide_eq_true hneg
      clear hs
      go_enter Tryz.func36, Tryz.ntmps36
      go_wp2_with (first | (go_at_call 70; refine (gcd2_eq eg (by simp) (by omega) (by omega)).mono ?_; rintro e w' ⟨rfl, n, rfl⟩) | (go_at_call 74; refine (isLeast_any _ _ (by omega)).mono ?_; rintro e w' ⟨rfl, rfl⟩))
      ((first | (with_reducible refine wp_region_calm2 (by kernel_rfl) (by kernel_rfl) ?_) | refine wp_region_calm (by kernel_rfl) (by kernel_rfl) ?_); (repeat (go_big_quiet_step (first | (go_at_call 75; exact calm_same (magnitude_any _ _ (by omega) (by omega)))))); refine wpQuiet_nil ?_; rintro _ ⟨y, rfl⟩)
      go_wp2
      refine bodyPost_ret (v := .agg #[.int .i64 a, .int .i64 b]) (by simp [results, Tryz.results36, go_sem]; try omega) rfl ⟨rfl, ?_⟩
      (repeat (first | exact bR | refine bO ?_ | refine bA ?_ | refine bS ?_ | refine bD ?_ | refine bN ?_))
    · have ha : ¬ a < 0 := fun h => hneg (hs.2 h)
      have haN : (a.natAbs : Int) = a := by omega
      have k4 : (a.natAbs : Int) ≤ 1000000000000000000 := by omega
      have hx2 : decide (d < 0) = false := decide_eq_false (by omega)
      have hx1 : decide (n < 0) = false := decide_eq_false hneg
      clear hs
      go_enter Tryz.func36, Tryz.ntmps36
      go_wp2_with (first | (go_at_call 70; refine (gcd2_eq eg (by simp) (by omega) (by omega)).mono ?_; rintro e w' ⟨rfl, n, rfl⟩) | (go_at_call 74; refine (isLeast_any _ _ (by omega)).mono ?_; rintro e w' ⟨rfl, rfl⟩))
      ((first | (with_reducible refine wp_region_calm2 (by kernel_rfl) (by kernel_rfl) ?_) | refine wp_region_calm (by kernel_rfl) (by kernel_rfl) ?_); (repeat (go_big_quiet_step (first | (go_at_call 75; exact calm_same (magnitude_any _ _ (by omega) (by omega)))))); refine wpQuiet_nil ?_; rintro _ ⟨y, rfl⟩)
      go_wp2
      refine bodyPost_ret (v := .agg #[.int .i64 a, .int .i64 b]) (by simp [results, Tryz.results36, go_sem]; try omega) rfl ⟨rfl, ?_⟩
      (repeat (first | exact bR | refine bO ?_ | refine bA ?_ | refine bS ?_ | refine bD ?_ | refine bN ?_))
  · rw [if_neg hk] at h'
    simp at h'
    obtain ⟨rfl, rfl⟩ := h'
    have hbig : 1000000000000000000 < (a.natAbs : Int) ∨ ((a.natAbs : Int) ≤ 1000000000000000000 ∧ 1000000000000000 < b) := by
      rw [hok] at hk
      omega
    clear hok hk hs
    rcases hbig with k4 | ⟨k4, k5⟩
    all_goals
      go_enter Tryz.func36, Tryz.ntmps36
      go_wp2_with (first | (go_at_call 70; refine (gcd2_eq eg (by simp) (by omega) (by omega)).mono ?_; rintro e w' ⟨rfl, n, rfl⟩) | (go_at_call 74; refine (isLeast_any _ _ (by omega)).mono ?_; rintro e w' ⟨rfl, rfl⟩))
      ((first | (with_reducible refine wp_region_calm2 (by kernel_rfl) (by kernel_rfl) ?_) | refine wp_region_calm (by kernel_rfl) (by kernel_rfl) ?_); (repeat (go_big_quiet_step (first | (go_at_call 75; exact calm_same (magnitude_any _ _ (by omega) (by omega)))))); refine wpQuiet_nil ?_; rintro _ ⟨y, rfl⟩)
      go_wp2
      refine bodyPost_ret (v := .agg #[.int .i64 0, .int .i64 0]) (by simp [results, Tryz.results36, go_sem]) rfl ⟨rfl, ?_⟩
      (repeat (first | exact bR | refine bO ?_ | refine bA ?_ | refine bS ?_ | refine bD ?_ | refine bN ?_))

end Go.Proofs.YtabmfaamadbefaaGreat