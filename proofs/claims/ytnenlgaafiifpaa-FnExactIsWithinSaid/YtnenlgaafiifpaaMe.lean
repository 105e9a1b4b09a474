/- Contracts of the reference's l05Cross, l05Inside and l05Differ. Condition: the half planes are valid, the points lie within bounds. -/
import Derived.Test.YtnenlgaafiifpaaSp
import Derived.Test.YtnenlgaafiifpaaRo
import Derived.Test.YtnenlgaafiifpaaEd
set_option linter.unusedSimpArgs false
set_option linter.unusedVariables false
set_option linter.unusedSectionVars false
namespace Go.Proofs.Ytnenlgaafiifpaa
open Go.RowKit

theorem l05Cross_eq {g h : H3} {p : P3} {w : World} (kg : HOk g) (kh : HOk h) (e : Hid (crossI g h = p)) :
    Calls Try.prog 149 #[.agg #[.int .i64 g.a, .int .i64 g.b, .int .i64 g.c], .agg #[.int .i64 h.a, .int .i64 h.b, .int .i64 h.c]] w fun en w' => en = .returned (.agg #[.int .i64 p.1, .int .i64 p.2.1, .int .i64 p.2.2]) ∧ Below w.heap.size w w' := by
  obtain ⟨m1, m2, m3, m4⟩ := crossing_bd kg kh
  have m5 := mul_bd (x := g.a) (y := h.b) kg.ba kh.bb
  have m6 := mul_bd (x := h.a) (y := g.b) kh.ba kg.bb
  have cm := Int.mul_comm h.a g.b
  have ee := e.out
  clear e
  unfold crossI cross at ee
  rw [← cm] at ee
  clear cm
  by_cases hlt : g.a * h.b - h.a * g.b < 0
  · rw [if_pos hlt] at ee
    have e1 : -(g.c * h.b - h.c * g.b) = p.1 := by rw [← ee]
    have e2 : -(g.a * h.c - h.a * g.c) = p.2.1 := by rw [← ee]
    have e3 : -(g.a * h.b - h.a * g.b) = p.2.2 := by rw [← ee]
    have HE := Lib.hid (And.intro e1 (And.intro e2 e3))
    clear ee e1 e2 e3
    go_enter Try.func149, Try.ntmps149
    go_wp2
    refine bodyPost_ret (v := .agg #[.int .i64 (-(g.c * h.b - h.c * g.b)), .int .i64 (-(g.a * h.c - h.a * g.c)), .int .i64 (-(g.a * h.b - h.a * g.b))]) (by simp [results, Try.results149, go_sem]) rfl ⟨by rw [HE.out.1, HE.out.2.1, HE.out.2.2], ?_⟩
    (repeat (first | exact Below.refl _ _ | refine below_ov _ _ ?_ (by first | omega | (simp [ov_size] <;> omega)) | refine Below.alloc ?_ (by first | omega | (simp [ov_size] <;> omega)) _ | refine Below.setCell ?_ (by first | omega | (simp [ov_size] <;> omega)) _ | refine Below.drew ?_ | refine below_drewN ?_ _))
  · rw [if_neg hlt] at ee
    have e1 : g.c * h.b - h.c * g.b = p.1 := by rw [← ee]
    have e2 : g.a * h.c - h.a * g.c = p.2.1 := by rw [← ee]
    have e3 : g.a * h.b - h.a * g.b = p.2.2 := by rw [← ee]
    have HE := Lib.hid (And.intro e1 (And.intro e2 e3))
    clear ee e1 e2 e3
    go_enter Try.func149, Try.ntmps149
    go_wp2
    refine bodyPost_ret (v := .agg #[.int .i64 (g.c * h.b - h.c * g.b), .int .i64 (g.a * h.c - h.a * g.c), .int .i64 (g.a * h.b - h.a * g.b)]) (by simp [results, Try.results149, go_sem]) rfl ⟨by rw [HE.out.1, HE.out.2.1, HE.out.2.2], ?_⟩
    (repeat (first | exact Below.refl _ _ | refine below_ov _ _ ?_ (by first | omega | (simp [ov_size] <;> omega)) | refine Below.alloc ?_ (by first | omega | (simp [ov_size] <;> omega)) _ | refine Below.setCell ?_ (by first | omega | (simp [ov_size] <;> omega)) _ | refine Below.drew ?_ | refine below_drewN ?_ _))

def lieI (p : P3) (g : H3) : Bool := decide (g.a * p.1 + g.b * p.2.1 ≤ g.c * p.2.2)
theorem insideI_frame {L : List H3} {p : P3} (h : p.2.2 = 0 ∨ 1000 * p.2.2 < p.1 ∨ p.1 < -1000 * p.2.2 ∨ 1000 * p.2.2 < p.2.1 ∨ p.2.1 < -1000 * p.2.2) : insideI L p = false := by
  unfold insideI
  rcases h with h | h | h | h | h <;> simp [h]
theorem insideI_rest {L : List H3} {p : P3} (h : ¬ (p.2.2 = 0 ∨ 1000 * p.2.2 < p.1 ∨ p.1 < -1000 * p.2.2 ∨ 1000 * p.2.2 < p.2.1 ∨ p.2.1 < -1000 * p.2.2)) : insideI L p = L.all (lieI p) := by
  unfold insideI
  have h1 : ¬ p.2.2 = 0 := by omega
  have h2 : ¬ 1000 * p.2.2 < p.1 := by omega
  have h3 : ¬ p.1 < -1000 * p.2.2 := by omega
  have h4 : ¬ 1000 * p.2.2 < p.2.1 := by omega
  have h5 : ¬ p.2.1 < -1000 * p.2.2 := by omega
  rw [decide_eq_false h1, decide_eq_false h2, decide_eq_false h3, decide_eq_false h4, decide_eq_false h5]
  rfl

set_option maxHeartbeats 4000000 in
theorem l05Inside_eq {L : List H3} {p : P3} {A : Option Addr} {c : Nat} {w : World} {v : Bool} (G : ∀ g ∈ L, HOk g) (R : R3 38 w A c L) (hl : L.length ≤ 1000)
    (b1 : -10000000000000 ≤ p.1 ∧ p.1 ≤ 10000000000000) (b2 : -10000000000000 ≤ p.2.1 ∧ p.2.1 ≤ 10000000000000) (b3 : 0 ≤ p.2.2 ∧ p.2.2 ≤ 5000000000) (h : Hid (insideI L p = v)) :
    Calls Try.prog 150 #[.slice A L.length c, .agg #[.int .i64 p.1, .int .i64 p.2.1, .int .i64 p.2.2]] w fun e w' => e = .returned (.bool v) ∧ Below w.heap.size w w' := by
  obtain ⟨x, y, d⟩ := p
  simp only at b1 b2 b3 ⊢
  by_cases hf : d = 0 ∨ 1000 * d < x ∨ x < -1000 * d ∨ 1000 * d < y ∨ y < -1000 * d
  · obtain rfl : v = false := by rw [← h.out]; exact insideI_frame hf
    clear h
    by_cases c0 : d = 0
    · have k0 : (d == 0) = true := by simp [c0]
      clear c0 hf
      go_enter Try.func150, Try.ntmps150
      go_wp2
      go_ret
      exact ⟨rfl, (by repeat (first | exact Below.refl _ _ | refine below_ov _ _ ?_ (by first | omega | (simp [ov_size] <;> omega)) | refine Below.alloc ?_ (by first | omega | (simp [ov_size] <;> omega)) _ | refine Below.setCell ?_ (by first | omega | (simp [ov_size] <;> omega)) _ | refine Below.drew ?_ | refine below_drewN ?_ _))⟩
    · have k0 : (d == 0) = false := by simp [c0]
      by_cases c1 : 1000 * d < x
      · clear hf
        go_enter Try.func150, Try.ntmps150
        go_wp2
        go_ret
        exact ⟨rfl, (by repeat (first | exact Below.refl _ _ | refine below_ov _ _ ?_ (by first | omega | (simp [ov_size] <;> omega)) | refine Below.alloc ?_ (by first | omega | (simp [ov_size] <;> omega)) _ | refine Below.setCell ?_ (by first | omega | (simp [ov_size] <;> omega)) _ | refine Below.drew ?_ | refine below_drewN ?_ _))⟩
      · by_cases c2 : x < -1000 * d
        · clear hf
          go_enter Try.func150, Try.ntmps150
          go_wp2
          go_ret
          exact ⟨rfl, (by repeat (first | exact Below.refl _ _ | refine below_ov _ _ ?_ (by first | omega | (simp [ov_size] <;> omega)) | refine Below.alloc ?_ (by first | omega | (simp [ov_size] <;> omega)) _ | refine Below.setCell ?_ (by first | omega | (simp [ov_size] <;> omega)) _ | refine Below.drew ?_ | refine below_drewN ?_ _))⟩
        · by_cases c3 : 1000 * d < y
          · clear hf
            go_enter Try.func150, Try.ntmps150
            go_wp2
            go_ret
            exact ⟨rfl, (by repeat (first | exact Below.refl _ _ | refine below_ov _ _ ?_ (by first | omega | (simp [ov_size] <;> omega)) | refine Below.alloc ?_ (by first | omega | (simp [ov_size] <;> omega)) _ | refine Below.setCell ?_ (by first | omega | (simp [ov_size] <;> omega)) _ | refine Below.drew ?_ | refine below_drewN ?_ _))⟩
          · have c4 : y < -1000 * d := by omega
            clear hf
            go_enter Try.func150, Try.ntmps150
            go_wp2
            go_ret
            exact ⟨rfl, (by repeat (first | exact Below.refl _ _ | refine below_ov _ _ ?_ (by first | omega | (simp [ov_size] <;> omega)) | refine Below.alloc ?_ (by first | omega | (simp [ov_size] <;> omega)) _ | refine Below.setCell ?_ (by first | omega | (simp [ov_size] <;> omega)) _ | refine Below.drew ?_ | refine below_drewN ?_ _))⟩
  · have hr := h.out
    rw [insideI_rest hf] at hr
    have HR := Lib.hid hr
    clear h hr
    have k0 : (d == 0) = false := by simp; omega
    have c1 : ¬ 1000 * d < x := by omega
    have c2 : ¬ x < -1000 * d := by omega
    have c3 : ¬ 1000 * d < y := by omega
    have c4 : ¬ y < -1000 * d := by omega
    clear hf
    go_enter Try.func150, Try.ntmps150
    go_wp2
    go_loopw [51] (fun i wr => ∃ k : Nat, k ≤ L.length ∧ i = .int .i64 k ∧ Hid ((L.take k).all (lieI (x, y, d)) = true) ∧ Below (w.heap.size + 1) (w.alloc (.cells #[.int .i64 x, .int .i64 y, .int .i64 d] 138)) wr) (fun i _ => L.length - (intOf i).toNat)
    case atStart => exact ⟨0, Nat.zero_le _, rfl, Lib.hid rfl, Below.refl _ _⟩
    case round =>
      obtain ⟨k, hk, rfl, HA, hb⟩ := hrel
      have hbw : Below w.heap.size w wr := ((Below.refl _ _).alloc (Nat.le_refl _) _).trans (hb.mono (by omega))
      have hbs := hb.size
      have hbs' := hbw.size
      have hbox : wr.heap[w.heap.size]? = some (.cells #[.int .i64 x, .int .i64 y, .int .i64 d] 138 (0, 0)) := (hb.block _ (by omega)).trans (heap_alloc_new _ _)
      have q0 := cell_blk (j := 0) hbox rfl
      have q1 := cell_blk (j := 1) hbox rfl
      have q2 := cell_blk (j := 2) hbox rfl
      have ql := (Array.getElem?_eq_some_iff.1 hbox).1
      clear hbox
      by_cases hlt : k < L.length
      · obtain ⟨g0, rfl, hg0, z0, z1, z2⟩ := (R.below hbw).at_ hlt
        have kg := G _ (List.getElem_mem hlt)
        have HT := Lib.hid (all_take_succ (lieI (x, y, d)) L k hlt)
        have m1 := mul_bd (x := L[k].a) (y := x) (A := 50000) (B := 5000000000000) kg.ba (by omega)
        have m2 := mul_bd (x := L[k].b) (y := y) (A := 50000) (B := 5000000000000) kg.bb (by omega)
        have m3 := mul_bd (x := L[k].c) (y := d) (A := 100000000) (B := 5000000000) kg.bc (by omega)
        by_cases hin : L[k].c * d < L[k].a * x + L[k].b * y
        · obtain rfl : v = false := by
            rw [← HR.out, List.all_eq_false]
            exact ⟨L[k], List.getElem_mem hlt, by unfold lieI; simp; omega⟩
          go_wp2
          go_ret
          exact ⟨rfl, (by repeat (first | exact hbw | refine below_ov _ _ ?_ (by first | omega | (simp [ov_size] <;> omega)) | refine Below.alloc ?_ (by first | omega | (simp [ov_size] <;> omega)) _ | refine Below.setCell ?_ (by first | omega | (simp [ov_size] <;> omega)) _ | refine Below.drew ?_ | refine below_drewN ?_ _))⟩
        · have HB := Lib.hid (show lieI (x, y, d) L[k] = true by unfold lieI; simp; omega)
          go_wp2
          go_roundw
          case rel => exact ⟨k + 1, by omega, by go_num, Lib.hid (by rw [HT.out, HA.out, HB.out]; rfl), (by repeat (first | exact hb | refine below_ov _ _ ?_ (by first | omega | (simp [ov_size] <;> omega)) | refine Below.alloc ?_ (by first | omega | (simp [ov_size] <;> omega)) _ | refine Below.setCell ?_ (by first | omega | (simp [ov_size] <;> omega)) _ | refine Below.drew ?_ | refine below_drewN ?_ _))⟩
          case measure => simp [intOf]; omega
      · obtain rfl : k = L.length := by omega
        obtain rfl : v = true := by rw [← HR.out, ← HA.out, List.take_length]
        go_wp2
        go_ret
        exact ⟨rfl, hbw⟩

section
theorem spot_fields : Try.prog.underlying 42 = some (.struct (Try.prog.fieldsOf 42)) := by kernel_rfl
theorem spot_stood : Try.prog.stoodInHeld 42 = false := by kernel_rfl
theorem spot_guard : Try.prog.eqGuardType Try.prog.depth 42 = false := by kernel_rfl
@[go_sem] theorem run_guard_spot (op : BinOp) (x y : Operand) (xs ys : Array Value) (w : World) : (eqGuard op 42 x y (.agg xs) (.agg ys)).run Try.prog w = .ok () w := run_eqGuard_agg w op _ x y xs ys spot_guard
@[go_sem] theorem run_equal_spot (a b c a' b' c' : Int) (w : World) : (Op.equalIn 10000 42 (.agg #[.int .i64 a, .int .i64 b, .int .i64 c]) (.agg #[.int .i64 a', .int .i64 b', .int .i64 c'])).run Try.prog w = .ok (decide (a = a' ∧ b = b' ∧ c = c')) w := by
  rw [show (10000 : Nat) = 9999 + 1 from rfl, run_equalIn_agg w 9999 42 _ _ spot_fields spot_stood]
  simp only [Program.fieldsOf, Try.underlying42]
  go_simp
  by_cases h1 : a = a' <;> by_cases h2 : b = b' <;> by_cases h3 : c = c' <;> simp [h1, h2, h3]
@[go_sem] theorem run_neq_spot (a b c a' b' c' : Int) (w : World) : (binOp .neq 42 (.agg #[.int .i64 a, .int .i64 b, .int .i64 c]) (.agg #[.int .i64 a', .int .i64 b', .int .i64 c'])).run Try.prog w = .ok (.bool (!decide (a = a' ∧ b = b' ∧ c = c'))) w := by
  rw [run_neq_struct, run_equal_spot]; rfl
end

theorem l05Differ_eq {p q : P3} {v : Bool} {w : World} (h : Hid (decide (sp p ≠ sp q) = v)) (b1 : -10000000000000 ≤ p.1 ∧ p.1 ≤ 10000000000000) (b2 : -10000000000000 ≤ p.2.1 ∧ p.2.1 ≤ 10000000000000) (b3 : 0 ≤ p.2.2 ∧ p.2.2 ≤ 5000000000)
    (c1 : -10000000000000 ≤ q.1 ∧ q.1 ≤ 10000000000000) (c2 : -10000000000000 ≤ q.2.1 ∧ q.2.1 ≤ 10000000000000) (c3 : 0 ≤ q.2.2 ∧ q.2.2 ≤ 5000000000) :
    Calls Try.prog 151 #[.agg #[.int .i64 p.1, .int .i64 p.2.1, .int .i64 p.2.2], .agg #[.int .i64 q.1, .int .i64 q.2.1, .int .i64 q.2.2]] w fun e w' => e = .returned (.bool v) ∧ Below w.heap.size w w' := by
  obtain ⟨⟨⟨r, s, t⟩, o⟩, e1⟩ : ∃ z, spotOf p.1 p.2.1 p.2.2 = z := ⟨_, rfl⟩
  obtain ⟨⟨⟨r', s', t'⟩, o'⟩, e2⟩ : ∃ z, spotOf q.1 q.2.1 q.2.2 = z := ⟨_, rfl⟩
  have hv : (!decide (r = r' ∧ s = s' ∧ t = t')) = v := by
    rw [← h.out]
    unfold sp
    rw [e1, e2]
    by_cases t1 : r = r' <;> by_cases t2 : s = s' <;> by_cases t3 : t = t' <;> simp [t1, t2, t3]
  have E1 := Lib.hid e1
  have E2 := Lib.hid e2
  clear h e1 e2
  have hcase : (r = r' ∧ s = s' ∧ t = t' ∧ v = false) ∨ (v = true ∧ (¬ r = r' ∨ (r = r' ∧ ¬ s = s') ∨ (r = r' ∧ s = s' ∧ ¬ t = t'))) := by
    by_cases t1 : r = r' <;> by_cases t2 : s = s' <;> by_cases t3 : t = t' <;> simp_all
  clear hv
  rcases hcase with ⟨rfl, rfl, rfl, rfl⟩ | ⟨rfl, e | ⟨rfl, e⟩ | ⟨rfl, rfl, e⟩⟩
  all_goals
    go_enter Try.func151, Try.ntmps151
    go_wp2_with (first | (go_at_call 154; (first | (with_reducible refine (calls_ov2 (spec_SpotOf_eq (by first | exact E1 | exact E2) (by omega) (by omega) (by omega))).mono ?_) | refine (calls_ov (spec_SpotOf_eq (by first | exact E1 | exact E2) (by omega) (by omega) (by omega))).mono ?_); rintro e w' ⟨rfl, x, rfl⟩))
    go_ret
    exact ⟨rfl, (by repeat (first | exact Below.refl _ _ | refine below_ov _ _ ?_ (by first | omega | (simp [ov_size] <;> omega)) | refine Below.alloc ?_ (by first | omega | (simp [ov_size] <;> omega)) _ | refine Below.setCell ?_ (by first | omega | (simp [ov_size] <;> omega)) _ | refine Below.drew ?_ | refine below_drewN ?_ _))⟩
end Go.Proofs.Ytnenlgaafiifpaa
