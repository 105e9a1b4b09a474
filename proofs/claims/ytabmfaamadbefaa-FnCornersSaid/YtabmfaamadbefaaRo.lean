/- Contracts of areHalves, RegionFrom, slices.Equal, SameRegion, IsVoid and RegionOk of the program. No condition but that lengths are ints. -/
import Derived.Test.YtabmfaamadbefaaMa
import Derived.Test.YtabmfaamadbefaaH
import Derived.Laws.StructEq
set_option linter.unusedSimpArgs false
set_option linter.unusedVariables false
set_option linter.unusedSectionVars false
namespace Go.Proofs.Ytabmfaamadbefaa
open Go.RowKit

theorem all_take_succ {α : Type} (p : α → Bool) (l : List α) (k : Nat) (hk : k < l.length) : (l.take (k + 1)).all p = ((l.take k).all p && p l[k]) := by
  rw [List.take_succ_eq_append_getElem hk, List.all_append]; simp

set_option maxHeartbeats 1000000 in
theorem areHalves_eq {hs : List H3} {A : Option Addr} {c : Nat} {w : World} {v : Bool} (R : R3 36 w A c hs) (hl : hs.length ≤ 1000) (h : Hid (hs.all halfOk = v)) :
    Calls Try.prog 76 #[.slice A hs.length c] w fun e w' => e = .returned (.bool v) ∧ Below w.heap.size w w' := by
  go_enter Try.func76, Try.ntmps76
  go_wp2
  go_loopw [7] (fun i wr => ∃ k : Nat, k ≤ hs.length ∧ i = .int .i64 k ∧ Hid ((hs.take k).all halfOk = true) ∧ Below w.heap.size w wr) (fun i _ => hs.length - (intOf i).toNat)
  case atStart => exact ⟨0, Nat.zero_le _, rfl, Lib.hid rfl, Below.refl _ _⟩
  case round =>
    obtain ⟨k, hk, rfl, HA, hb⟩ := hrel
    have hbs := hb.size
    by_cases hlt : k < hs.length
    · obtain ⟨g0, rfl, hg0, z0, z1, z2⟩ := (R.below hb).at_ hlt
      have HT := Lib.hid (all_take_succ halfOk hs k hlt)
      obtain ⟨b, hb0⟩ : ∃ b, halfOk hs[k] = b := ⟨_, rfl⟩
      have HB := Lib.hid hb0
      clear hb0
      cases b with
      | true =>
        go_wp2_with ((go_at_call 42; (first | (with_reducible refine (calls_ov2 (impl_HalfOk_eq HB.out)).mono ?_) | refine (calls_ov (impl_HalfOk_eq HB.out)).mono ?_); rintro e w' ⟨rfl, x, rfl⟩))
        go_roundw
        case rel => exact ⟨k + 1, by omega, by go_num, Lib.hid (by rw [HT.out, HA.out, HB.out]; rfl), (by repeat (first | exact hb | refine bO ?_ | refine bA ?_ | refine bS ?_ | refine bD ?_ | refine bN ?_))⟩
        case measure => simp [intOf]; omega
      | false =>
        obtain rfl : v = false := by
          rw [← h.out, List.all_eq_false]
          exact ⟨hs[k], List.getElem_mem hlt, by rw [HB.out]; simp⟩
        go_wp2_with ((go_at_call 42; (first | (with_reducible refine (calls_ov2 (impl_HalfOk_eq HB.out)).mono ?_) | refine (calls_ov (impl_HalfOk_eq HB.out)).mono ?_); rintro e w' ⟨rfl, x, rfl⟩))
        go_ret
        exact ⟨rfl, (by repeat (first | exact hb | refine bO ?_ | refine bA ?_ | refine bS ?_ | refine bD ?_ | refine bN ?_))⟩
    · obtain rfl : k = hs.length := by omega
      obtain rfl : v = true := by rw [← h.out, ← HA.out, List.take_length]
      go_wp2
      go_ret
      exact ⟨rfl, hb⟩

section
theorem half_fields : Try.prog.underlying 36 = some (.struct (Try.prog.fieldsOf 36)) := by kernel_rfl
theorem half_stood : Try.prog.stoodInHeld 36 = false := by kernel_rfl
theorem half_guard : Try.prog.eqGuardType Try.prog.depth 36 = false := by kernel_rfl
@[go_sem] theorem run_guard_half (op : BinOp) (x y : Operand) (xs ys : Array Value) (w : World) : (eqGuard op 36 x y (.agg xs) (.agg ys)).run Try.prog w = .ok () w := run_eqGuard_agg w op _ x y xs ys half_guard
@[go_sem] theorem run_equal_half (a b c a' b' c' : Int) (w : World) : (Op.equalIn 10000 36 (.agg #[.int .i64 a, .int .i64 b, .int .i64 c]) (.agg #[.int .i64 a', .int .i64 b', .int .i64 c'])).run Try.prog w = .ok (decide (a = a' ∧ b = b' ∧ c = c')) w := by
  rw [show (10000 : Nat) = 9999 + 1 from rfl, run_equalIn_agg w 9999 36 _ _ half_fields half_stood]
  simp only [Program.fieldsOf, Try.underlying36]
  go_simp
  by_cases h1 : a = a' <;> by_cases h2 : b = b' <;> by_cases h3 : c = c' <;> simp [h1, h2, h3]
@[go_sem] theorem run_neq_half (a b c a' b' c' : Int) (w : World) : (binOp .neq 36 (.agg #[.int .i64 a, .int .i64 b, .int .i64 c]) (.agg #[.int .i64 a', .int .i64 b', .int .i64 c'])).run Try.prog w = .ok (.bool (!decide (a = a' ∧ b = b' ∧ c = c'))) w := by
  rw [run_neq_struct, run_equal_half]; rfl
end

theorem h3_eq {g h : H3} : g = h ↔ g.a = h.a ∧ g.b = h.b ∧ g.c = h.c := by cases g; cases h; simp

set_option maxHeartbeats 1000000 in
theorem Equal_eq {xs ys : List H3} {A1 A2 : Option Addr} {c1 c2 : Nat} {w : World} {v : Bool} (R1 : R3 36 w A1 c1 xs) (R2 : R3 36 w A2 c2 ys) (hx : xs.length ≤ 1000000000) (hy : ys.length ≤ 1000000000) (h : Hid (decide (xs = ys) = v)) :
    Calls Try.prog 37 #[.slice A1 xs.length c1, .slice A2 ys.length c2] w fun e w' => e = .returned (.bool v) ∧ Below w.heap.size w w' := by
  by_cases hne : xs.length = ys.length
  · have hz : ((xs.length : Int) != (ys.length : Int)) = false := by simp; omega
    have HNE := Lib.hid hne
    clear hne
    go_enter Try.func37, Try.ntmps37
    go_wp2
    go_loopw [13] (fun i wr => ∃ k : Nat, k ≤ xs.length ∧ i = .int .i64 k ∧ Hid (xs.take k = ys.take k) ∧ Below w.heap.size w wr) (fun i _ => xs.length - (intOf i).toNat)
    case atStart => exact ⟨0, Nat.zero_le _, rfl, Lib.hid rfl, Below.refl _ _⟩
    case round =>
      obtain ⟨k, hk, rfl, HA, hb⟩ := hrel
      have hbs := hb.size
      by_cases hlt : k < xs.length
      · have hlt2 : k < ys.length := by have := HNE.out; omega
        obtain ⟨g1, rfl, hg1, z0, z1, z2⟩ := (R1.below hb).at_ hlt
        obtain ⟨g2, rfl, hg2, y0, y1, y2⟩ := (R2.below hb).at_ hlt2
        have hcase : (xs[k] = ys[k] ∧ xs[k].a = ys[k].a ∧ xs[k].b = ys[k].b ∧ xs[k].c = ys[k].c) ∨ (xs[k] ≠ ys[k] ∧ (¬ xs[k].a = ys[k].a ∨ (xs[k].a = ys[k].a ∧ ¬ xs[k].b = ys[k].b) ∨ (xs[k].a = ys[k].a ∧ xs[k].b = ys[k].b ∧ ¬ xs[k].c = ys[k].c))) := by
          have := @h3_eq xs[k] ys[k]
          by_cases e1 : xs[k].a = ys[k].a <;> by_cases e2 : xs[k].b = ys[k].b <;> by_cases e3 : xs[k].c = ys[k].c <;> simp_all
        rcases hcase with ⟨he, e1, e2, e3⟩ | ⟨hne, e⟩
        · have HE := Lib.hid he
          rw [e1] at z0
          rw [e2] at z1
          rw [e3] at z2
          clear he e1 e2 e3
          go_wp2
          ((first | (with_reducible refine wp_region_calm2 (by kernel_rfl) (by kernel_rfl) ?_) | refine wp_region_calm (by kernel_rfl) (by kernel_rfl) ?_); (repeat (go_big_quiet_step (first | fail))); refine wpQuiet_nil ?_; rintro _ ⟨y, rfl⟩)
          go_wp2
          go_roundw
          case rel => exact ⟨k + 1, by omega, by go_num, Lib.hid (by rw [List.take_succ_eq_append_getElem hlt, List.take_succ_eq_append_getElem hlt2, HA.out, HE.out]), (by repeat (first | exact hb | refine bO ?_ | refine bA ?_ | refine bS ?_ | refine bD ?_ | refine bN ?_))⟩
          case measure => simp [intOf]; omega
        · obtain rfl : v = false := by
            rw [← h.out, decide_eq_false_iff_not]
            intro e
            subst e
            exact hne rfl
          clear hne
          rcases e with e1 | ⟨e1, e2⟩ | ⟨e1, e2, e3⟩
          · go_wp2
            ((first | (with_reducible refine wp_region_calm2 (by kernel_rfl) (by kernel_rfl) ?_) | refine wp_region_calm (by kernel_rfl) (by kernel_rfl) ?_); (repeat (go_big_quiet_step (first | fail))); refine wpQuiet_nil ?_; rintro _ ⟨y, rfl⟩)
            go_wp2
            go_ret
            exact ⟨rfl, (by repeat (first | exact hb | refine bO ?_ | refine bA ?_ | refine bS ?_ | refine bD ?_ | refine bN ?_))⟩
          · rw [e1] at z0
            clear e1
            go_wp2
            ((first | (with_reducible refine wp_region_calm2 (by kernel_rfl) (by kernel_rfl) ?_) | refine wp_region_calm (by kernel_rfl) (by kernel_rfl) ?_); (repeat (go_big_quiet_step (first | fail))); refine wpQuiet_nil ?_; rintro _ ⟨y, rfl⟩)
            go_wp2
            go_ret
            exact ⟨rfl, (by repeat (first | exact hb | refine bO ?_ | refine bA ?_ | refine bS ?_ | refine bD ?_ | refine bN ?_))⟩
          · rw [e1] at z0
            rw [e2] at z1
            clear e1 e2
            go_wp2
            ((first | (with_reducible refine wp_region_calm2 (by kernel_rfl) (by kernel_rfl) ?_) | refine wp_region_calm (by kernel_rfl) (by kernel_rfl) ?_); (repeat (go_big_quiet_step (first | fail))); refine wpQuiet_nil ?_; rintro _ ⟨y, rfl⟩)
            go_wp2
            go_ret
            exact ⟨rfl, (by repeat (first | exact hb | refine bO ?_ | refine bA ?_ | refine bS ?_ | refine bD ?_ | refine bN ?_))⟩
      · obtain rfl : k = xs.length := by omega
        obtain rfl : v = true := by
          rw [← h.out, decide_eq_true_eq]
          have := HA.out
          rwa [List.take_length, HNE.out, List.take_length] at this
        go_wp2
        go_ret
        exact ⟨rfl, hb⟩
  · obtain rfl : v = false := by
      rw [← h.out, decide_eq_false_iff_not]
      intro e
      subst e
      exact hne rfl
    have hz : ((xs.length : Int) != (ys.length : Int)) = true := by simp; omega
    have hz' : ¬ ((xs.length : Int) = (ys.length : Int)) := by omega
    clear hne
    go_enter Try.func37, Try.ntmps37
    go_wp2
    go_ret
    exact ⟨rfl, Below.refl _ _⟩

theorem SameRegion_eq {xs ys : List H3} {A1 A2 : Option Addr} {c1 c2 : Nat} {w : World} {v : Bool} (R1 : R3 36 w A1 c1 xs) (R2 : R3 36 w A2 c2 ys) (hx : xs.length ≤ 1000000000) (hy : ys.length ≤ 1000000000) (h : Hid (decide (xs = ys) = v)) :
    Calls Try.prog 10 #[.agg #[.slice A1 xs.length c1], .agg #[.slice A2 ys.length c2]] w fun e w' => e = .returned (.bool v) ∧ Below w.heap.size w w' := by
  go_enter Try.func10, Try.ntmps10
  go_wp2_with (go_at_call 37; refine (calls_ov (Equal_eq (R3.alloc (R3.alloc R1 _) _) (R3.alloc (R3.alloc R2 _) _) hx hy h)).mono ?_; rintro e w' ⟨rfl, x, rfl⟩)
  go_ret
  exact ⟨rfl, (by repeat (first | exact bR | refine bO ?_ | refine bA ?_ | refine bS ?_ | refine bD ?_ | refine bN ?_))⟩
theorem IsVoid_eq {n c : Nat} {A : Option Addr} {w : World} {v : Bool} (h : Hid (decide (n = 0) = v)) :
    Calls Try.prog 13 #[.agg #[.slice A n c]] w fun e w' => e = .returned (.bool v) ∧ Below w.heap.size w w' := by
  cases v with
  | true =>
    obtain rfl : n = 0 := by have := h.out; simpa using this
    go_enter Try.func13, Try.ntmps13
    go_wp2
    go_ret
    exact ⟨rfl, (by repeat (first | exact bR | refine bO ?_ | refine bA ?_ | refine bS ?_ | refine bD ?_ | refine bN ?_))⟩
  | false =>
    have hn : ¬ n = 0 := by have := h.out; simpa using this
    have hz : ((n : Int) == 0) = false := by simp; omega
    go_enter Try.func13, Try.ntmps13
    go_wp2
    go_ret
    exact ⟨rfl, (by repeat (first | exact bR | refine bO ?_ | refine bA ?_ | refine bS ?_ | refine bD ?_ | refine bN ?_))⟩

/-- RegionFrom of half planes, and RegionOk. -/
def fromR (hs : List H3) : List H3 × Bool := if hs.length ≤ 40 ∧ hs.all halfOk = true then meetR hs else ([], false)
def regionOk (hs : List H3) : Bool := decide (hs = []) || ((fromR hs).2 && decide (hs = (fromR hs).1))

theorem allOk {hs : List H3} (h : hs.all halfOk = true) : ∀ g ∈ hs, HOk g := fun g hg => (halfOk_iff g).1 (List.all_eq_true.1 h g hg)

set_option maxHeartbeats 1000000 in
theorem RegionFrom_eq {hs out : List H3} {ok : Bool} {A : Option Addr} {c : Nat} {w : World} (R : R3 36 w A c hs) (hl : 0 < hs.length ∧ hs.length ≤ 1000000000) (h : Hid (fromR hs = (out, ok))) :
    Calls Try.prog 52 #[.slice A hs.length c] w (RegPost w out ok) := by
  have hl1 := hl.1
  have hl2 := hl.2
  by_cases h40 : 40 < hs.length
  · have h' := h.out
    unfold fromR at h'
    rw [if_neg (by omega)] at h'
    simp at h'
    obtain ⟨rfl, rfl⟩ := h'
    go_enter Try.func52, Try.ntmps52
    go_wp2
    refine bodyPost_ret (v := .tuple #[.agg #[.slice none 0 0], .bool false]) (by simp [results, Try.results52, go_sem]) rfl ⟨none, 0, rfl, RB.nil _ _ _, (by repeat (first | exact bR | refine bO ?_ | refine bA ?_ | refine bS ?_ | refine bD ?_ | refine bN ?_))⟩
  · obtain ⟨b, hb⟩ : ∃ b, hs.all halfOk = b := ⟨_, rfl⟩
    have HB := Lib.hid hb
    cases b with
    | false =>
      have h' := h.out
      unfold fromR at h'
      rw [if_neg (by simp [hb])] at h'
      simp at h'
      obtain ⟨rfl, rfl⟩ := h'
      clear hb
      go_enter Try.func52, Try.ntmps52
      go_wp2_with (go_at_call 76; refine (calls_ov (areHalves_eq (R3.alloc R _) (by omega) HB)).mono ?_; rintro e w' ⟨rfl, x, rfl⟩)
      refine bodyPost_ret (v := .tuple #[.agg #[.slice none 0 0], .bool false]) (by simp [results, Try.results52, go_sem]) rfl ⟨none, 0, rfl, RB.nil _ _ _, (by repeat (first | exact bR | refine bO ?_ | refine bA ?_ | refine bS ?_ | refine bD ?_ | refine bN ?_))⟩
    | true =>
      have h' := h.out
      unfold fromR at h'
      rw [if_pos ⟨by omega, hb⟩] at h'
      have HM := Lib.hid h'
      have G := allOk hb
      clear hb h'
      go_enter Try.func52, Try.ntmps52
      go_wp2_with (go_at_call 76; refine (calls_ov (areHalves_eq (R3.alloc R _) (by omega) HB)).mono ?_; rintro e w' ⟨rfl, x, rfl⟩)
      refine (meetAll_any G (R3.ov (R3.alloc R _) x) ⟨hl1, by omega⟩ HM).mono ?_
      rintro e w1 ⟨A1, c1, rfl, R1, hb1⟩
      have hbw : Below w.heap.size w w1 := ((below_ov _ x ((Below.refl _ _).alloc (Nat.le_refl _) _) (by simp)).trans (hb1.mono (by simp [ov_size]; omega)))
      have HX := Lib.hid ((hb1.block _ (by simp [ov_size]; omega)).trans (ov_blk (heap_alloc_new _ _)))
      have x2 := cell_blk (j := 0) (v := .slice none 0 0) HX.out rfl
      have f2 := frozen_blk (j := 0) HX.out
      have l2 := (Array.getElem?_eq_some_iff.1 HX.out).1
      have HR1 := R1.weak (B' := w.heap.size) (by simp [ov_size]; omega)
      clear R1 hb1
      go_wp2
      refine bodyPost_ret (v := .tuple #[.agg #[.slice A1 out.length c1], .bool ok]) (by simp [results, Try.results52, go_sem, x2, l2]) rfl ⟨A1, c1, rfl, HR1.set_box HX.out (by decide), hbw.setCell (show w.heap.size ≤ (⟨w.heap.size, 0, none⟩ : Addr).block from Nat.le_refl _) _⟩

set_option maxHeartbeats 1000000 in
theorem impl_RegionOk_eq {hs : List H3} {v : Bool} {A : Option Addr} {c : Nat} {w : World} (R : R3 36 w A c hs) (hl : hs.length ≤ 1000000000) (h : Hid (regionOk hs = v)) :
    Calls Try.prog 30 #[.agg #[.slice A hs.length c]] w fun e w' => e = .returned (.bool v) ∧ Below w.heap.size w w' := by
  by_cases h0 : hs = []
  · obtain rfl : v = true := by rw [← h.out]; unfold regionOk; simp [h0]
    obtain ⟨n, hn⟩ : ∃ n, hs.length = n := ⟨_, rfl⟩
    have hn0 : n = 0 := by rw [← hn, h0]; rfl
    rw [hn]
    subst hn0
    clear h0 hn
    go_enter Try.func30, Try.ntmps30
    go_wp2
    go_ret
    exact ⟨rfl, (by repeat (first | exact bR | refine bO ?_ | refine bA ?_ | refine bS ?_ | refine bD ?_ | refine bN ?_))⟩
  · have hl0 : 0 < hs.length := List.length_pos_iff.2 h0
    have hz : ((hs.length : Int) == 0) = false := by simp; omega
    have hz' : ¬ ((hs.length : Int) = 0) := by omega
    obtain ⟨⟨out, ok⟩, hf⟩ : ∃ z, fromR hs = z := ⟨_, rfl⟩
    have hv := h.out
    unfold regionOk at hv
    rw [hf] at hv
    have HF := Lib.hid hf
    have hol : out.length ≤ 1000000000 := by
      have : out = [] ∨ out.length ≤ 40 := by
        unfold fromR meetR at hf
        split at hf
        · split at hf
          · simp at hf; exact .inl hf.1
          · simp at hf; right; rw [← hf.1]; omega
        · simp at hf; exact .inl hf.1
      rcases this with e | e
      · rw [e]; simp
      · omega
    simp only [h0, decide_false, Bool.false_or] at hv
    have HV := Lib.hid hv
    clear hv hf h h0
    go_enter Try.func30, Try.ntmps30
    go_wp2_with fail
    refine (RegionFrom_eq (R3.alloc R _) ⟨hl0, hl⟩ HF).mono ?_
    rintro e w1 ⟨A1, c1, rfl, R1, hb1⟩
    have hbw : Below w.heap.size w w1 := ((Below.refl _ _).alloc (Nat.le_refl _) _).trans (hb1.mono (by simp))
    have HX := Lib.hid ((hb1.block _ (by simp)).trans (heap_alloc_new _ _))
    have x2 := cell_blk (j := 0) (v := .slice A hs.length c) HX.out rfl
    have l2 := (Array.getElem?_eq_some_iff.1 HX.out).1
    have RH := R3.below R hbw
    have R1' := R1.r3
    cases ok with
    | false =>
      obtain rfl : v = false := by rw [← HV.out]; rfl
      go_wp2
      go_ret
      exact ⟨rfl, (by repeat (first | exact hbw | refine bO ?_ | refine bA ?_ | refine bS ?_ | refine bD ?_ | refine bN ?_))⟩
    | true =>
      have HS := Lib.hid (show decide (hs = out) = v by rw [← HV.out]; rfl)
      go_wp2_with (go_at_call 10; refine (calls_ov (SameRegion_eq (R3.alloc RH _) (R3.alloc R1' _) hl hol HS)).mono ?_; rintro e w' ⟨rfl, x, rfl⟩)
      go_ret
      exact ⟨rfl, (by repeat (first | exact hbw | refine bO ?_ | refine bA ?_ | refine bS ?_ | refine bD ?_ | refine bN ?_))⟩
end Go.Proofs.Ytabmfaamadbefaa
