/- Contracts of sides, holds, within, IsWithin and CornersOf, of the program and of the reference; a region's corners are spots. No condition but that lengths are ints. -/
import Derived.Test.YtabmfaamadbefaaCo
import Derived.Test.YtabmfaamadbefaaGeo
set_option linter.unusedSimpArgs false
set_option linter.unusedVariables false
set_option linter.unusedSectionVars false
namespace Go.Proofs.Ytabmfaamadbefaa
open Go.RowKit

def okS (s : H3) : Bool := spotOk s.a s.b s.c
theorem okS_bd {s : H3} (h : okS s = true) : (1 ≤ s.c ∧ s.c ≤ 5000000000) ∧ (-1000 * s.c ≤ s.a ∧ s.a ≤ 1000 * s.c) ∧ (-1000 * s.c ≤ s.b ∧ s.b ≤ 1000 * s.c) := by
  simp only [okS, spotOk, Bool.and_eq_true] at h
  exact ⟨inR_iff.1 h.1.1.1, inR_iff.1 h.1.1.2, inR_iff.1 h.1.2⟩
def sideI (h s : H3) : Int := h.a * s.a + h.b * s.b - h.c * s.c
def sgn (n : Int) : Int := if n < 0 then -1 else if 0 < n then 1 else 0
theorem side_bd {h s : H3} (k : HOk h) (ks : okS s = true) : (-250000000000000000 ≤ h.a * s.a ∧ h.a * s.a ≤ 250000000000000000) ∧ (-250000000000000000 ≤ h.b * s.b ∧ h.b * s.b ≤ 250000000000000000) ∧ (-500000000000000000 ≤ h.c * s.c ∧ h.c * s.c ≤ 500000000000000000) := by
  obtain ⟨b1, b2, b3⟩ := okS_bd ks
  have m1 := mul_bd (A := 50000) (B := 5000000000000) k.ba (y := s.a) (by omega)
  have m2 := mul_bd (A := 50000) (B := 5000000000000) k.bb (y := s.b) (by omega)
  have m3 := mul_bd (A := 100000000) (B := 5000000000) k.bc (y := s.c) (by omega)
  omega
/-- A spot lies in the region of these half planes. -/
def hasL (hs : List H3) (s : H3) : Bool := decide (hs ≠ []) && hs.all fun h => decide (sideI h s ≤ 0)
def withinL (ps qs : List H3) : Bool := (cornersL ps).all (hasL qs)
def isWithinR (ps qs : List H3) : Bool := regionOk ps && regionOk qs && withinL ps qs
def cornersR (hs : List H3) : List H3 := if regionOk hs = true then cornersL hs else []
theorem cornersR_short {hs out : List H3} (h : cornersR hs = out) : out.length ≤ 1000 := by
  unfold cornersR at h
  split at h
  · rename_i k
    rw [← h, cornersL_length]
    by_cases h0 : hs = []
    · rw [h0]; simp
    · have := (regionOk_parts k h0).2.2; omega
  · rw [← h]; simp
theorem Reg.corner_ok {hs L : List H3} (R : Reg hs L) (G : ∀ g ∈ hs, HOk g) {k : Nat} (hk : k < hs.length) :
    ∃ (hj : (k + 1) % hs.length < hs.length) (g : Nat) (a b c : Int), 0 < g ∧ crossI hs[k] hs[(k + 1) % hs.length] = (a * g, b * g, c * g) ∧ cornerH hs k = ⟨a, b, c⟩ ∧ 0 < c ∧ spotOk a b c = true := by
  have hj : (k + 1) % hs.length < hs.length := Nat.mod_lt _ (by omega)
  obtain ⟨hc, hi⟩ := R.crossing hk hj
  have hd := crossI_pos (h := hs[k]) (g := hs[(k + 1) % hs.length]) (by omega)
  have hb := crossI_bd (G _ (List.getElem_mem hk)) (G _ (List.getElem_mem hj))
  obtain ⟨_, hf, _⟩ := (insideI_iff _ _).1 hi
  obtain ⟨g, a, b, c, g0, e, es, _, c0, ok⟩ := spotOf_frame hd hb hf
  exact ⟨hj, g, a, b, c, g0, e, cornerH_at hk hj rfl (a := a) (b := b) (c := c) (ok := true) es, c0, ok⟩
theorem corners_spots {hs : List H3} (h : regionOk hs = true) : ∀ s ∈ cornersL hs, okS s = true := by
  intro s hs'
  unfold cornersL at hs'
  obtain ⟨k, hk, rfl⟩ := List.mem_map.1 hs'
  have hk := List.mem_range.1 hk
  have hne : hs ≠ [] := by rintro rfl; simp at hk
  obtain ⟨G, hm, _⟩ := regionOk_parts h hne
  obtain ⟨_, g, a, b, c, _, _, e, _, ok⟩ := (reg_of G hm hne).corner_ok G hk
  rw [e]; exact ok
theorem region_good {hs : List H3} (h : regionOk hs = true) : (∀ g ∈ hs, HOk g) ∧ hs.length ≤ 40 := by
  by_cases h0 : hs = []
  · subst h0; exact ⟨(fun g hg => nomatch hg), by simp⟩
  · obtain ⟨G, _, h40⟩ := regionOk_parts h h0; exact ⟨G, h40⟩

theorem signOf_any {n v : Int} {w : World} (h : Hid (sgn n = v)) : Calls Try.prog 55 #[.int .i64 n] w fun e w' => e = .returned (.int .i64 v) ∧ w = w' := by
  have h' := h.out
  unfold sgn at h'
  by_cases h1 : n < 0
  · rw [if_pos h1] at h'
    subst h'
    go_enter Try.func55, Try.ntmps55
    go_wp2
    go_ret
    exact ⟨rfl, rfl⟩
  · rw [if_neg h1] at h'
    by_cases h2 : 0 < n
    · rw [if_pos h2] at h'
      subst h'
      go_enter Try.func55, Try.ntmps55
      go_wp2
      go_ret
      exact ⟨rfl, rfl⟩
    · rw [if_neg h2] at h'
      subst h'
      go_enter Try.func55, Try.ntmps55
      go_wp2
      go_ret
      exact ⟨rfl, rfl⟩
theorem SideOf_eq {h s : H3} {v : Int} {w : World} (kh : HOk h) (ks : okS s = true) (hv : Hid (sgn (sideI h s) = v)) :
    Calls Try.prog 24 #[.agg #[.int .i64 h.a, .int .i64 h.b, .int .i64 h.c], .agg #[.int .i64 s.a, .int .i64 s.b, .int .i64 s.c]] w fun e w' => e = .returned (.int .i64 v) ∧ Below w.heap.size w w' := by
  obtain ⟨m1, m2, m3⟩ := side_bd kh ks
  obtain ⟨b1, b2, b3⟩ := okS_bd ks
  have HV : Hid (sgn (h.a * s.a + h.b * s.b - h.c * s.c) = v) := hv
  have OH := Lib.hid ((halfOk_iff _).2 kh)
  have OS := Lib.hid (show spotOk s.a s.b s.c = true from ks)
  clear hv ks kh
  go_enter Try.func24, Try.ntmps24
  go_wp2_with (first | (go_at_call 42; (first | (with_reducible refine (calls_ov2 (impl_HalfOk_eq (by exact OH.out))).mono ?_) | refine (calls_ov (impl_HalfOk_eq (by exact OH.out))).mono ?_); rintro e w' ⟨rfl, x, rfl⟩) | (go_at_call 40; (first | (with_reducible refine (calls_ov2 (impl_SpotOk_eq (by exact OS.out) (by omega) (by omega) (by omega))).mono ?_) | refine (calls_ov (impl_SpotOk_eq (by exact OS.out) (by omega) (by omega) (by omega))).mono ?_); rintro e w' ⟨rfl, x, rfl⟩) | (go_at_call 55; refine (signOf_any HV).mono ?_; rintro e w' ⟨rfl, rfl⟩))
  go_ret
  exact ⟨rfl, (by repeat (first | exact bR | refine bO ?_ | refine bA ?_ | refine bS ?_ | refine bD ?_ | refine bN ?_))⟩
theorem sgn_pos {n : Int} : 0 < sgn n ↔ 0 < n := by unfold sgn; split <;> (try split) <;> omega
theorem has_take {hs : List H3} {s : H3} {k : Nat} (hk : k < hs.length) (h : (hs.take k).all (fun h => decide (sideI h s ≤ 0)) = true) (hn : ¬ 0 < sgn (sideI hs[k] s)) : (hs.take (k + 1)).all (fun h => decide (sideI h s ≤ 0)) = true := by
  rw [all_take_succ _ _ _ hk, h, decide_eq_true (by rw [sgn_pos] at hn; omega)]; rfl
theorem has_false {hs : List H3} {s : H3} {k : Nat} (hk : k < hs.length) (hn : 0 < sgn (sideI hs[k] s)) : hasL hs s = false := by
  unfold hasL
  rw [Bool.and_eq_false_iff]; right
  rw [List.all_eq_false]
  exact ⟨hs[k], List.getElem_mem hk, by rw [sgn_pos] at hn; simp; omega⟩
theorem has_end {hs : List H3} {s : H3} (h : (hs.take hs.length).all (fun h => decide (sideI h s ≤ 0)) = true) : hasL hs s = decide (hs ≠ []) := by
  rw [List.take_length] at h
  unfold hasL; rw [h, Bool.and_true]

set_option maxHeartbeats 4000000 in
theorem holds_eq {hs : List H3} {s : H3} {v : Bool} {A : Option Addr} {c : Nat} {w : World} (G : ∀ g ∈ hs, HOk g) (ks : okS s = true) (R : R3 36 w A c hs) (hl : hs.length ≤ 1000) (hv : Hid (hasL hs s = v)) :
    Calls Try.prog 41 #[.agg #[.slice A hs.length c], .agg #[.int .i64 s.a, .int .i64 s.b, .int .i64 s.c]] w fun e w' => e = .returned (.bool v) ∧ Below w.heap.size w w' := by
  go_enter Try.func41, Try.ntmps41
  go_wp2
  obtain ⟨W0, hW⟩ : ∃ W0, W0 = (w.alloc (.cells #[.slice A hs.length c] 25)).alloc (.cells #[.int .i64 s.a, .int .i64 s.b, .int .i64 s.c] 31) := ⟨_, rfl⟩
  rw [← hW]
  have T0 : Below w.heap.size w W0 := by rw [hW]; exact (by repeat (first | exact bR | refine bO ?_ | refine bA ?_ | refine bS ?_ | refine bD ?_ | refine bN ?_))
  have X1 := Lib.hid (show W0.heap[w.heap.size]? = some (.cells #[.slice A hs.length c] 25 (0, 0)) by rw [hW]; exact alloc_blk (heap_alloc_new _ _))
  have X2 := Lib.hid (show W0.heap[w.heap.size + 1]? = some (.cells #[.int .i64 s.a, .int .i64 s.b, .int .i64 s.c] 31 (0, 0)) by rw [hW]; exact heap_new_at (by simp) rfl)
  have s0 : W0.heap.size = w.heap.size + 1 + 1 := by rw [hW]; simp
  (try rw [← s0])
  clear hW s0
  have t0 := T0.size
  generalize w.heap.size + 1 = b2 at X2 ⊢
  obtain ⟨b1, hb1⟩ : ∃ b, w.heap.size = b := ⟨_, rfl⟩
  have RW := R.below T0
  rw [hb1] at X1 t0 ⊢
  go_loopw [10] (fun i wr => ∃ k : Nat, k ≤ hs.length ∧ i = .int .i64 k ∧ Hid ((hs.take k).all (fun h => decide (sideI h s ≤ 0)) = true) ∧ Below W0.heap.size W0 wr) (fun i _ => hs.length - (intOf i).toNat)
  case atStart => exact ⟨0, Nat.zero_le _, rfl, Lib.hid rfl, Below.refl _ _⟩
  case round =>
    obtain ⟨k, hk, rfl, HA, hb⟩ := hrel
    have hbs := hb.size
    have hbx : Below w.heap.size w wr := T0.trans (hb.mono (by omega))
    have hbw : Below b1 w wr := by rw [← hb1]; exact hbx
    have X3 := box_below X1 hb
    have X4 := box_below X2 hb
    have x1 := cell_blk (j := 0) (v := .slice A hs.length c) X3.out rfl
    have l1 := (Array.getElem?_eq_some_iff.1 X3.out).1
    have x2 := cell_blk (j := 0) (v := .int .i64 s.a) X4.out rfl
    have x3 := cell_blk (j := 1) (v := .int .i64 s.b) X4.out rfl
    have x4 := cell_blk (j := 2) (v := .int .i64 s.c) X4.out rfl
    have l2 := (Array.getElem?_eq_some_iff.1 X4.out).1
    by_cases hlt : k < hs.length
    · obtain ⟨g0, rfl, hg0, z0, z1, z2⟩ := (RW.below hb).at_ hlt
      have kg := G _ (List.getElem_mem hlt)
      obtain ⟨u, hu⟩ : ∃ u, sgn (sideI hs[k] s) = u := ⟨_, rfl⟩
      have HU := Lib.hid hu
      have HT := Lib.hid (has_take hlt HA.out)
      have HF := Lib.hid (has_false (s := s) hlt)
      rw [hu] at HT HF
      clear hu
      by_cases hpos : 0 < u
      · obtain rfl : v = false := by rw [← hv.out]; exact HF.out hpos
        go_wp2_with ((go_at_call 24; (first | (with_reducible refine (calls_ov2 (SideOf_eq kg ks HU)).mono ?_) | refine (calls_ov (SideOf_eq kg ks HU)).mono ?_); rintro e w' ⟨rfl, x, rfl⟩))
        go_ret
        exact ⟨rfl, by (try rw [hb1]); exact (by repeat (first | exact hbw | refine bO ?_ | refine bA ?_ | refine bS ?_ | refine bD ?_ | refine bN ?_))⟩
      · have HN := Lib.hid (HT.out hpos)
        go_wp2_with ((go_at_call 24; (first | (with_reducible refine (calls_ov2 (SideOf_eq kg ks HU)).mono ?_) | refine (calls_ov (SideOf_eq kg ks HU)).mono ?_); rintro e w' ⟨rfl, x, rfl⟩))
        go_roundw
        case rel => exact ⟨k + 1, by omega, by go_num, HN.out, (by repeat (first | exact hb | refine bO ?_ | refine bA ?_ | refine bS ?_ | refine bD ?_ | refine bN ?_))⟩
        case measure => simp [intOf] <;> omega
    · obtain rfl : k = hs.length := by omega
      have hend := has_end HA.out
      rw [hv.out] at hend
      have HV : Hid (decide (hs.length = 0) = !v) := Lib.hid (by rw [hend]; by_cases h0 : hs = [] <;> simp [h0])
      clear hend
      cases v with
      | true =>
        have HV : Hid (decide (hs.length = 0) = false) := HV
        go_wp2_with ((go_at_call 13; (first | (with_reducible refine (calls_ov2 (IsVoid_eq HV)).mono ?_) | refine (calls_ov (IsVoid_eq HV)).mono ?_); rintro e w' ⟨rfl, x, rfl⟩))
        go_ret
        exact ⟨rfl, by (try rw [hb1]); exact (by repeat (first | exact hbw | refine bO ?_ | refine bA ?_ | refine bS ?_ | refine bD ?_ | refine bN ?_))⟩
      | false =>
        have HV : Hid (decide (hs.length = 0) = true) := HV
        go_wp2_with ((go_at_call 13; (first | (with_reducible refine (calls_ov2 (IsVoid_eq HV)).mono ?_) | refine (calls_ov (IsVoid_eq HV)).mono ?_); rintro e w' ⟨rfl, x, rfl⟩))
        go_ret
        exact ⟨rfl, by (try rw [hb1]); exact (by repeat (first | exact hbw | refine bO ?_ | refine bA ?_ | refine bS ?_ | refine bD ?_ | refine bN ?_))⟩

end Go.Proofs.Ytabmfaamadbefaa
