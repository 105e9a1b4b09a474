/- Contracts of the reference's l05Cross, l05Inside and l05Differ. Condition: the half planes are valid, the points lie within bounds. Contract of the reference's l05IsEdge: the scan of the crossings. Condition: the half planes are valid, and few. Contracts of the reference's l05Make and l05Fit: the canonical region of half planes. Condition: the half planes are valid, and few. -/
import Derived.Test.YtabmfaamadbefaaGreatSp
import Derived.Test.YtabmfaamadbefaaGreatRo
import Derived.Test.YtabmfaamadbefaaGreatEd
import Derived.Test.YtabmfaamadbefaaGreatReg
import Derived.Test.YtabmfaamadbefaaGreatSo
import Derived.Laws.AppendOwnNone
set_option linter.unusedSimpArgs false
set_option linter.unusedVariables false
set_option linter.unusedSectionVars false
namespace Go.Proofs.YtabmfaamadbefaaGreat
open Go.RowKit
theorem l05Cross_eq {g h : H3} {p : P3} {w : World} (kg : HOk g) (kh : HOk h) (e : Hid (crossI g h = p)) :
    Calls Tryz.prog 147 #[.agg #[.int .i64 g.a, .int .i64 g.b, .int .i64 g.c], .agg #[.int .i64 h.a, .int .i64 h.b, .int .i64 h.c]] w fun en w' => en = .returned (.agg #[.int .i64 p.1, .int .i64 p.2.1, .int .i64 p.2.2]) ∧ Below w.heap.size w w' := by
  obtain ⟨m1, m2, m3, m4⟩ := crossing_bd kg kh
  have m5 := mul_bd (x := g.a) (y := h.b) kg.ba kh.bb
  have m6 := mul_bd (x := h.a) (y := g.b) kh.ba kg.bb
  have cm := Int.mul_comm h.a g.b
  have ee := e.out
  clear e
  unfold crossI cross at ee
  rw [← cm] at ee
  clear cm
  by_cases hlt : g.a * h.b - h.a * g.b < 0
  · rw [if_pos hlt] at ee
    have e1 : -(g.c * h.b - h.c * g.b) = p.1 := by rw [← ee]
    have e2 : -(g.a * h.c - h.a * g.c) = p.2.1 := by rw [← ee]
    have e3 : -(g.a * h.b - h.a * g.b) = p.2.2 := by rw [← ee]
    have HE := Lib.hid (And.intro e1 (And.intro e2 e3))
    clear ee e1 e2 e3
    go_enter Tryz.func147, Tryz.ntmps147
    go_wp2
    refine bodyPost_ret (v := .agg #[.int .i64 (-(g.c * h.b - h.c * g.b)), .int .i64 (-(g.a * h.c - h.a * g.c)), .int .i64 (-(g.a * h.b - h.a * g.b))]) (by simp [results, Tryz.results147, go_sem]) rfl ⟨by rw [HE.out.1, HE.out.2.1, HE.out.2.2], ?_⟩
    (repeat (first | exact bR | refine bO ?_ | refine bA ?_ | refine bS ?_ | refine bD ?_ | refine bN ?_))
  · rw [if_neg hlt] at ee
    have e1 : g.c * h.b - h.c * g.b = p.1 := by rw [← ee]
    have e2 : g.a * h.c - h.a * g.c = p.2.1 := by rw [← ee]
    have e3 : g.a * h.b - h.a * g.b = p.2.2 := by rw [← ee]
    have HE := Lib.hid (And.intro e1 (And.intro e2 e3))
    clear ee e1 e2 e3
    go_enter Tryz.func147, Tryz.ntmps147
    go_wp2
    refine bodyPost_ret (v := .agg #[.int .i64 (g.c * h.b - h.c * g.b), .int .i64 (g.a * h.c - h.a * g.c), .int .i64 (g.a * h.b - h.a * g.b)]) (by simp [results, Tryz.results147, go_sem]) rfl ⟨by rw [HE.out.1, HE.out.2.1, HE.out.2.2], ?_⟩
    (repeat (first | exact bR | refine bO ?_ | refine bA ?_ | refine bS ?_ | refine bD ?_ | refine bN ?_))

def lieI (p : P3) (g : H3) : Bool := decide (g.a * p.1 + g.b * p.2.1 ≤ g.c * p.2.2)
theorem insideI_frame {L : List H3} {p : P3} (h : p.2.2 = 0 ∨ 1000 * p.2.2 < p.1 ∨ p.1 < -1000 * p.2.2 ∨ 1000 * p.2.2 < p.2.1 ∨ p.2.1 < -1000 * p.2.2) : insideI L p = false := by
  unfold insideI
  rcases h with h | h | h | h | h <;> simp [h]
theorem insideI_rest {L : List H3} {p : P3} (h : ¬ (p.2.2 = 0 ∨ 1000 * p.2.2 < p.1 ∨ p.1 < -1000 * p.2.2 ∨ 1000 * p.2.2 < p.2.1 ∨ p.2.1 < -1000 * p.2.2)) : insideI L p = L.all (lieI p) := by
  unfold insideI
  have h1 : ¬ p.2.2 = 0 := by omega
  have h2 : ¬ 1000 * p.2.2 < p.1 := by omega
  have h3 : ¬ p.1 < -1000 * p.2.2 := by omega
  have h4 : ¬ 1000 * p.2.2 < p.2.1 := by omega
  have h5 : ¬ p.2.1 < -1000 * p.2.2 := by omega
  rw [decide_eq_false h1, decide_eq_false h2, decide_eq_false h3, decide_eq_false h4, decide_eq_false h5]
  rfl

set_option maxHeartbeats 4000000 in
theorem l05Inside_eq {L : List H3} {p : P3} {A : Option Addr} {c : Nat} {w : World} {v : Bool} (G : ∀ g ∈ L, HOk g) (R : R3 44 w A c L) (hl : L.length ≤ 1000)
    (b1 : -10000000000000 ≤ p.1 ∧ p.1 ≤ 10000000000000) (b2 : -10000000000000 ≤ p.2.1 ∧ p.2.1 ≤ 10000000000000) (b3 : 0 ≤ p.2.2 ∧ p.2.2 ≤ 5000000000) (h : Hid (insideI L p = v)) :
    Calls Tryz.prog 148 #[.slice A L.length c, .agg #[.int .i64 p.1, .int .i64 p.2.1, .int .i64 p.2.2]] w fun e w' => e = .returned (.bool v) ∧ Below w.heap.size w w' := by
  obtain ⟨x, y, d⟩ := p
  simp only at b1 b2 b3 ⊢
  by_cases hf : d = 0 ∨ 1000 * d < x ∨ x < -1000 * d ∨ 1000 * d < y ∨ y < -1000 * d
  · obtain rfl : v = false := by rw [← h.out]; exact insideI_frame hf
    clear h
    by_cases c0 : d = 0
    · have k0 : (d == 0) = true := by simp [c0]
      clear c0 hf
      go_enter Tryz.func148, Tryz.ntmps148
      go_wp2
      go_ret
      exact ⟨rfl, (by repeat (first | exact bR | refine bO ?_ | refine bA ?_ | refine bS ?_ | refine bD ?_ | refine bN ?_))⟩
    · have k0 : (d == 0) = false := by simp [c0]
      by_cases c1 : 1000 * d < x
      · clear hf
        go_enter Tryz.func148, Tryz.ntmps148
        go_wp2
        go_ret
        exact ⟨rfl, (by repeat (first | exact bR | refine bO ?_ | refine bA ?_ | refine bS ?_ | refine bD ?_ | refine bN ?_))⟩
      · by_cases c2 : x < -1000 * d
        · clear hf
          go_enter Tryz.func148, Tryz.ntmps148
          go_wp2
          go_ret
          exact ⟨rfl, (by repeat (first | exact bR | refine bO ?_ | refine bA ?_ | refine bS ?_ | refine bD ?_ | refine bN ?_))⟩
        · by_cases c3 : 1000 * d < y
          · clear hf
            go_enter Tryz.func148, Tryz.ntmps148
            go_wp2
            go_ret
            exact ⟨rfl, (by repeat (first | exact bR | refine bO ?_ | refine bA ?_ | refine bS ?_ | refine bD ?_ | refine bN ?_))⟩
          · have c4 : y < -1000 * d := by omega
            clear hf
            go_enter Tryz.func148, Tryz.ntmps148
            go_wp2
            go_ret
            exact ⟨rfl, (by repeat (first | exact bR | refine bO ?_ | refine bA ?_ | refine bS ?_ | refine bD ?_ | refine bN ?_))⟩
  · have hr := h.out
    rw [insideI_rest hf] at hr
    have HR := Lib.hid hr
    clear h hr
    have k0 : (d == 0) = false := by simp; omega
    have c1 : ¬ 1000 * d < x := by omega
    have c2 : ¬ x < -1000 * d := by omega
    have c3 : ¬ 1000 * d < y := by omega
    have c4 : ¬ y < -1000 * d := by omega
    clear hf
    go_enter Tryz.func148, Tryz.ntmps148
    go_wp2
    go_loopw [51] (fun i wr => ∃ k : Nat, k ≤ L.length ∧ i = .int .i64 k ∧ Hid ((L.take k).all (lieI (x, y, d)) = true) ∧ Below (w.heap.size + 1) (w.alloc (.cells #[.int .i64 x, .int .i64 y, .int .i64 d] 160)) wr) (fun i _ => L.length - (intOf i).toNat)
    case atStart => exact ⟨0, Nat.zero_le _, rfl, Lib.hid rfl, Below.refl _ _⟩
    case round =>
      obtain ⟨k, hk, rfl, HA, hb⟩ := hrel
      have hbw : Below w.heap.size w wr := ((Below.refl _ _).alloc (Nat.le_refl _) _).trans (hb.mono (by omega))
      have hbs := hb.size
      have hbs' := hbw.size
      have hbox : wr.heap[w.heap.size]? = some (.cells #[.int .i64 x, .int .i64 y, .int .i64 d] 160 (0, 0)) := (hb.block _ (by omega)).trans (heap_alloc_new _ _)
      have q0 := cell_blk (j := 0) hbox rfl
      have q1 := cell_blk (j := 1) hbox rfl
      have q2 := cell_blk (j := 2) hbox rfl
      have ql := (Array.getElem?_eq_some_iff.1 hbox).1
      clear hbox
      by_cases hlt : k < L.length
      · obtain ⟨g0, rfl, hg0, z0, z1, z2⟩ := (R.below hbw).at_ hlt
        have kg := G _ (List.getElem_mem hlt)
        have HT := Lib.hid (all_take_succ (lieI (x, y, d)) L k hlt)
        have m1 := mul_bd (x := L[k].a) (y := x) (A := 50000) (B := 5000000000000) kg.ba (by omega)
        have m2 := mul_bd (x := L[k].b) (y := y) (A := 50000) (B := 5000000000000) kg.bb (by omega)
        have m3 := mul_bd (x := L[k].c) (y := d) (A := 100000000) (B := 5000000000) kg.bc (by omega)
        by_cases hin : L[k].c * d < L[k].a * x + L[k].b * y
        · obtain rfl : v = false := by
            rw [← HR.out, List.all_eq_false]
            exact ⟨L[k], List.getElem_mem hlt, by unfold lieI; simp; omega⟩
          go_wp2
          go_ret
          exact ⟨rfl, (by repeat (first | exact hbw | refine bO ?_ | refine bA ?_ | refine bS ?_ | refine bD ?_ | refine bN ?_))⟩
        · have HB := Lib.hid (show lieI (x, y, d) L[k] = true by unfold lieI; simp; omega)
          go_wp2
          go_roundw
          case rel => exact ⟨k + 1, by omega, by go_num, Lib.hid (by rw [HT.out, HA.out, HB.out]; rfl), (by repeat (first | exact hb | refine bO ?_ | refine bA ?_ | refine bS ?_ | refine bD ?_ | refine bN ?_))⟩
          case measure => simp [intOf]; omega
      · obtain rfl : k = L.length := by omega
        obtain rfl : v = true := by rw [← HR.out, ← HA.out, List.take_length]
        go_wp2
        go_ret
        exact ⟨rfl, hbw⟩

section
theorem spot_fields : Tryz.prog.underlying 52 = some (.struct (Tryz.prog.fieldsOf 52)) := by kernel_rfl
theorem spot_stood : Tryz.prog.stoodInHeld 52 = false := by kernel_rfl
theorem spot_guard : Tryz.prog.eqGuardType Tryz.prog.depth 52 = false := by kernel_rfl
@[go_sem] theorem run_guard_spot (op : BinOp) (x y : Operand) (xs ys : Array Value) (w : World) : (eqGuard op 52 x y (.agg xs) (.agg ys)).run Tryz.prog w = .ok () w := run_eqGuard_agg w op _ x y xs ys spot_guard
@[go_sem] theorem run_equal_spot (a b c a' b' c' : Int) (w : World) : (Op.equalIn 10000 52 (.agg #[.int .i64 a, .int .i64 b, .int .i64 c]) (.agg #[.int .i64 a', .int .i64 b', .int .i64 c'])).run Tryz.prog w = .ok (decide (a = a' ∧ b = b' ∧ c = c')) w := by
  rw [show (10000 : Nat) = 9999 + 1 from rfl, run_equalIn_agg w 9999 52 _ _ spot_fields spot_stood]
  simp only [Program.fieldsOf, Tryz.underlying52]
  go_simp
  by_cases h1 : a = a' <;> by_cases h2 : b = b' <;> by_cases h3 : c = c' <;> simp [h1, h2, h3]
@[go_sem] theorem run_neq_spot (a b c a' b' c' : Int) (w : World) : (binOp .neq 52 (.agg #[.int .i64 a, .int .i64 b, .int .i64 c]) (.agg #[.int .i64 a', .int .i64 b', .int .i64 c'])).run Tryz.prog w = .ok (.bool (!decide (a = a' ∧ b = b' ∧ c = c'))) w := by
  rw [run_neq_struct, run_equal_spot]; rfl
end
theorem l05Differ_eq {p q : P3} {v : Bool} {w : World} (h : Hid (decide (sp p ≠ sp q) = v)) (b1 : -10000000000000 ≤ p.1 ∧ p.1 ≤ 10000000000000) (b2 : -10000000000000 ≤ p.2.1 ∧ p.2.1 ≤ 10000000000000) (b3 : 0 ≤ p.2.2 ∧ p.2.2 ≤ 5000000000)
    (c1 : -10000000000000 ≤ q.1 ∧ q.1 ≤ 10000000000000) (c2 : -10000000000000 ≤ q.2.1 ∧ q.2.1 ≤ 10000000000000) (c3 : 0 ≤ q.2.2 ∧ q.2.2 ≤ 5000000000) :
    Calls Tryz.prog 149 #[.agg #[.int .i64 p.1, .int .i64 p.2.1, .int .i64 p.2.2], .agg #[.int .i64 q.1, .int .i64 q.2.1, .int .i64 q.2.2]] w fun e w' => e = .returned (.bool v) ∧ Below w.heap.size w w' := by
  obtain ⟨⟨⟨r, s, t⟩, o⟩, e1⟩ : ∃ z, spotOf p.1 p.2.1 p.2.2 = z := ⟨_, rfl⟩
  obtain ⟨⟨⟨r', s', t'⟩, o'⟩, e2⟩ : ∃ z, spotOf q.1 q.2.1 q.2.2 = z := ⟨_, rfl⟩
  have hv : (!decide (r = r' ∧ s = s' ∧ t = t')) = v := by
    rw [← h.out]
    unfold sp
    rw [e1, e2]
    by_cases t1 : r = r' <;> by_cases t2 : s = s' <;> by_cases t3 : t = t' <;> simp [t1, t2, t3]
  have E1 := Lib.hid e1
  have E2 := Lib.hid e2
  clear h e1 e2
  have hcase : (r = r' ∧ s = s' ∧ t = t' ∧ v = false) ∨ (v = true ∧ (¬ r = r' ∨ (r = r' ∧ ¬ s = s') ∨ (r = r' ∧ s = s' ∧ ¬ t = t'))) := by
    by_cases t1 : r = r' <;> by_cases t2 : s = s' <;> by_cases t3 : t = t' <;> simp_all
  clear hv
  rcases hcase with ⟨rfl, rfl, rfl, rfl⟩ | ⟨rfl, e | ⟨rfl, e⟩ | ⟨rfl, rfl, e⟩⟩
  all_goals
    go_enter Tryz.func149, Tryz.ntmps149
    go_wp2_with (first | (go_at_call 153; (first | (with_reducible refine (calls_ov2 (spec_SpotOf_eq (by first | exact E1 | exact E2) (by omega) (by omega) (by omega))).mono ?_) | refine (calls_ov (spec_SpotOf_eq (by first | exact E1 | exact E2) (by omega) (by omega) (by omega))).mono ?_); rintro e w' ⟨rfl, x, rfl⟩))
    go_ret
    exact ⟨rfl, (by repeat (first | exact bR | refine bO ?_ | refine bA ?_ | refine bS ?_ | refine bD ?_ | refine bN ?_))⟩
end Go.Proofs.YtabmfaamadbefaaGreat
set_option linter.unusedSimpArgs false
set_option linter.unusedVariables false
set_option linter.unusedSectionVars false
namespace Go.Proofs.YtabmfaamadbefaaGreat
open Go.RowKit
theorem scanE_snoc (L : List H3) (h : H3) (l : List H3) (g : H3) : scanE L h (l ++ [g]) = stepE L h (scanE L h l) g := by
  unfold scanE; rw [List.foldl_append]; rfl
theorem scanE_succ (L : List H3) (h : H3) (k j : Nat) (hj : j < L.length) (hne : j ≠ k) : scanE L h ((L.take (j + 1)).eraseIdx k) = stepE L h (scanE L h ((L.take j).eraseIdx k)) L[j] := by
  rw [take_erase_succ L k j hj hne, scanE_snoc]
theorem stepE_true (L : List H3) (h g : H3) {st : Option P3 × Bool} (e : st.2 = true) : stepE L h st g = st := by
  unfold stepE; rw [if_pos e]
theorem foldE_true (L : List H3) (h : H3) : ∀ (m : List H3) (st : Option P3 × Bool), st.2 = true → (m.foldl (stepE L h) st).2 = true
  | [], st, e => e
  | g :: r, st, e => by
    show (r.foldl (stepE L h) (stepE L h st g)).2 = true
    rw [stepE_true L h g e]; exact foldE_true L h r st e
theorem scanE_app (L : List H3) (h : H3) (l m : List H3) (e : (scanE L h l).2 = true) : (scanE L h (l ++ m)).2 = true := by
  unfold scanE at *; rw [List.foldl_append]; exact foldE_true L h m _ e
theorem scanE_all (L : List H3) (h : H3) (k j : Nat) (hj : j < L.length) (hne : j ≠ k) (e : (scanE L h ((L.take (j + 1)).eraseIdx k)).2 = true) : (scanE L h (L.eraseIdx k)).2 = true := by
  by_cases hk : k < j + 1
  · have : L.eraseIdx k = (L.take (j + 1)).eraseIdx k ++ L.drop (j + 1) := by
      conv => lhs; rw [← List.take_append_drop (j + 1) L]
      rw [List.eraseIdx_append_of_lt_length (by simp; omega)]
    rw [this]; exact scanE_app _ _ _ _ e
  · have h1 : (L.take (j + 1)).eraseIdx k = L.take (j + 1) := List.eraseIdx_of_length_le (by simp; omega)
    have : L.eraseIdx k = L.take (j + 1) ++ (L.drop (j + 1)).eraseIdx (k - (j + 1)) := by
      conv => lhs; rw [← List.take_append_drop (j + 1) L]
      rw [List.eraseIdx_append_of_length_le (by simp; omega)]
      congr 2; simp; omega
    rw [this]; rw [h1] at e; exact scanE_app _ _ _ _ e
structure PBd (p : P3) : Prop where
  b1 : -10000000000000 ≤ p.1 ∧ p.1 ≤ 10000000000000
  b2 : -10000000000000 ≤ p.2.1 ∧ p.2.1 ≤ 10000000000000
  b3 : 0 ≤ p.2.2 ∧ p.2.2 ≤ 5000000000
theorem crossI_pbd {h g : H3} (kh : HOk h) (kg : HOk g) : PBd (crossI h g) := by
  have m := mark_parts kh kg
  refine ⟨m.1, m.2.1, ?_, crossI_bd kh kg⟩
  unfold crossI
  by_cases hc : cross h g < 0
  · rw [if_pos hc]; simp only; omega
  · rw [if_neg hc]; simp only; omega
theorem stepE_out {L : List H3} {h g : H3} {fo : Option P3} (e : insideI L (crossI h g) = false) : stepE L h (fo, false) g = (fo, false) := by unfold stepE; simp [e]
theorem stepE_first {L : List H3} {h g : H3} {p : P3} (hp : crossI h g = p) (e : insideI L p = true) : stepE L h (none, false) g = (some p, false) := by unfold stepE; simp [e, hp]
theorem stepE_next {L : List H3} {h g : H3} {p q : P3} {v : Bool} (hp : crossI h g = p) (e : insideI L p = true) (hd : decide (sp q ≠ sp p) = v) : stepE L h (some q, false) g = (some q, v) := by
  unfold stepE
  simp only [hp, e]
  rw [← hd]; rfl
theorem insideI_d {L : List H3} {p : P3} (e : insideI L p = true) : p.2.2 ≠ 0 := ((insideI_iff L p).1 e).1
theorem set3_blk {w : World} {b : Nat} {a c d x y z : Value} {T : TypeId} (h : w.heap[b]? = some (.cells #[a, c, d] T (0, 0))) : (((w.setCell ⟨b, 0, none⟩ x).setCell ⟨b, 1, none⟩ y).setCell ⟨b, 2, none⟩ z).heap[b]? = some (.cells #[x, y, z] T (0, 0)) :=
  heap_setCell_same _ _ _ _ _ _ (heap_setCell_same _ _ _ _ _ _ (heap_setCell_same _ _ _ _ _ _ h))
theorem wpRel_nilB {P : Program} {ops : Array Oper} {Q : Exit → Act → World → Prop} {w0 : World} {Rs : List RD} {vs : Nat → Value} {i : Nat} {a : Act} (h : ∀ w', Below w0.heap.size w0 w' → (∀ j, holds w0 Rs vs j w') → Q .normal a w') : wpRel P ops Q w0 Rs vs i [] a :=
  fun w' ⟨x, hx⟩ hh => h w' (by subst hx; exact below_ov _ _ (Below.refl _ _) (Nat.le_refl _)) hh
def firstV (fo : Option P3) : Array Value := #[.int .i64 (fo.getD (0, 0, 0)).1, .int .i64 (fo.getD (0, 0, 0)).2.1, .int .i64 (fo.getD (0, 0, 0)).2.2]

set_option maxRecDepth 100000 in
set_option maxHeartbeats 4000000 in
theorem l05IsEdge_any {L : List H3} {k : Nat} {A : Option Addr} {c : Nat} {w : World} (G : ∀ g ∈ L, HOk g) (hk : k < L.length) (R : R3 44 w A c L) (hl : L.length ≤ 1000) :
    Calls Tryz.prog 135 #[.slice A L.length c, .int .i64 k] w fun e w' => e = .returned (.bool (edgeE L k L[k])) ∧ Below w.heap.size w w' := by
  have kh := G _ (List.getElem_mem hk)
  go_enter Tryz.func135, Tryz.ntmps135
  go_wp2
  go_loopw [12] (fun i wr => ∃ (j : Nat) (fo : Option P3), j ≤ L.length ∧ i = .int .i64 j ∧ Hid (scanE L L[k] ((L.take j).eraseIdx k) = (fo, false)) ∧ Hid (∀ q, fo = some q → q.2.2 ≠ 0 ∧ PBd q) ∧ Hid (wr.heap[w.heap.size]? = some (.cells (firstV fo) 160 (0, 0))) ∧ Below w.heap.size w wr) (fun i _ => L.length - (intOf i).toNat)
  case atStart => exact ⟨0, none, Nat.zero_le _, rfl, Lib.hid (by simp [scanE]), Lib.hid (fun q h => by cases h), Lib.hid (heap_alloc_new _ _), (Below.refl _ _).alloc (Nat.le_refl _) _⟩
  case round =>
    obtain ⟨j, fo, hj, rfl, HS, HF, HX, hb⟩ := hrel
    have hbs := hb.size
    have hF := (Array.getElem?_eq_some_iff.1 HX.out).1
    by_cases hlt : j < L.length
    · have RLw := R.below hb
      obtain ⟨gA, eA, hgA, z0, z1, z2⟩ := RLw.at_ hlt
      obtain ⟨gB, eB, hgB, y0, y1, y2⟩ := RLw.at_ hk
      obtain rfl : gB = gA := by rw [eA] at eB; injection eB with e; injection e with e; exact e.symm
      clear eB
      subst eA
      by_cases hjk : j = k
      · subst hjk
        have HN := Lib.hid ((congrArg (scanE L L[j]) (take_erase_same L j)).trans HS.out)
        go_wp2
        go_roundw
        case rel => exact ⟨j + 1, fo, by omega, by go_num, HN, HF, Lib.hid (alloc_blk HX.out), (by repeat (first | exact hb | refine bO ?_ | refine bA ?_ | refine bS ?_ | refine bD ?_ | refine bN ?_))⟩
        case measure => simp [intOf]; omega
      · have kg := G _ (List.getElem_mem hlt)
        have hjk' : ((j : Int) == (k : Int)) = false := by simp; omega
        obtain ⟨p, hp⟩ : ∃ p, crossI L[k] L[j] = p := ⟨_, rfl⟩
        have pb := crossI_pbd kh kg
        rw [hp] at pb
        have HP := Lib.hid hp
        have HN := Lib.hid (scanE_succ L L[k] k j hlt hjk)
        obtain ⟨ins, hins⟩ : ∃ v, insideI L p = v := ⟨_, rfl⟩
        have HI := Lib.hid hins
        have b1 := pb.b1
        have b2 := pb.b2
        have b3 := pb.b3
        clear hp hins hjk
        go_wp2
        refine wp_region_rel [.pur [] ?c0, .pur [] ?c1, .pur [] ?c2, .pur [] ?c3, .pur [] ?c4, .pur [] ?c5, .rel [] [6] false (IsAl 160 3), .rel [6, 5] [6, 5] true (IsSt 160)] _ rfl rfl (by kernel_rfl) (by kernel_rfl) ?hst (fun vs => ?walk)
        case' walk =>
          (refine wpRel_pur rfl rfl (fun x => by ((go_wp2); refine relEnd_pur rfl ?_ (by repeat (first | exact bR | refine bO ?_ | refine bA ?_ | refine bS ?_ | refine bD ?_ | refine bN ?_)); simp only [Act.put, List.setIfInBounds_toArray, List.set_cons_succ, List.set_cons_zero]; rfl)) ?_; simp only [Act.put, List.setIfInBounds_toArray, List.set_cons_succ, List.set_cons_zero])
          (refine wpRel_pur rfl rfl (fun x => by ((go_wp2); refine relEnd_pur rfl ?_ (by repeat (first | exact bR | refine bO ?_ | refine bA ?_ | refine bS ?_ | refine bD ?_ | refine bN ?_)); simp only [Act.put, List.setIfInBounds_toArray, List.set_cons_succ, List.set_cons_zero]; rfl)) ?_; simp only [Act.put, List.setIfInBounds_toArray, List.set_cons_succ, List.set_cons_zero])
          (refine wpRel_pur rfl rfl (fun x => by ((go_wp2); refine relEnd_pur rfl ?_ (by repeat (first | exact bR | refine bO ?_ | refine bA ?_ | refine bS ?_ | refine bD ?_ | refine bN ?_)); simp only [Act.put, List.setIfInBounds_toArray, List.set_cons_succ, List.set_cons_zero]; rfl)) ?_; simp only [Act.put, List.setIfInBounds_toArray, List.set_cons_succ, List.set_cons_zero])
          (refine wpRel_pur rfl rfl (fun x => by ((go_wp2); refine relEnd_pur rfl ?_ (by repeat (first | exact bR | refine bO ?_ | refine bA ?_ | refine bS ?_ | refine bD ?_ | refine bN ?_)); simp only [Act.put, List.setIfInBounds_toArray, List.set_cons_succ, List.set_cons_zero]; rfl)) ?_; simp only [Act.put, List.setIfInBounds_toArray, List.set_cons_succ, List.set_cons_zero])
          (refine wpRel_pur rfl rfl (fun x => by ((go_wp2); refine relEnd_pur rfl ?_ (by repeat (first | exact bR | refine bO ?_ | refine bA ?_ | refine bS ?_ | refine bD ?_ | refine bN ?_)); simp only [Act.put, List.setIfInBounds_toArray, List.set_cons_succ, List.set_cons_zero]; rfl)) ?_; simp only [Act.put, List.setIfInBounds_toArray, List.set_cons_succ, List.set_cons_zero])
          (refine wpRel_pur rfl rfl (fun x => by ((go_wp2_with (first | (go_at_call 147; refine (calls_ov (l05Cross_eq kh kg HP)).mono ?_; rintro e w' ⟨rfl, x, rfl⟩))); refine relEnd_pur rfl ?_ (by repeat (first | exact bR | refine bO ?_ | refine bA ?_ | refine bS ?_ | refine bD ?_ | refine bN ?_)); simp only [Act.put, List.setIfInBounds_toArray, List.set_cons_succ, List.set_cons_zero]; rfl)) ?_; simp only [Act.put, List.setIfInBounds_toArray, List.set_cons_succ, List.set_cons_zero])
          refine wpRel_al #[.int .i64 0, .int .i64 0, .int .i64 0] rfl rfl rfl rfl rfl rfl (fun w => by simp [go_sem]) ?_
          simp only [Act.put, List.setIfInBounds_toArray, List.set_cons_succ, List.set_cons_zero]
          refine wpRel_st rfl rfl rfl rfl rfl rfl (by decide) (by decide) rfl rfl (by kernel_rfl) ⟨rfl, by simp [Value.cells, Value.oneCell']⟩ (by repeat (first | exact all_nil | refine all_cons trivial ?_ | refine all_cons isAl_steady ?_ | refine all_cons (isOw_steady (by assumption)) ?_)) ?_
          refine wpRel_nilB (fun wp hbp0 hh => ?_)
          obtain ⟨nb, e, hnb, hx⟩ := isSt_pur (hh 7) rfl rfl rfl
          simp only [e]
          clear hh e
          have hbp : Below w.heap.size w wp := ((by repeat (first | exact hb | refine bO ?_ | refine bA ?_ | refine bS ?_ | refine bD ?_ | refine bN ?_)) : Below w.heap.size w (wr.alloc (.cells #[.int .i64 L[j].a, .int .i64 L[j].b, .int .i64 L[j].c] 44))).trans (hbp0.mono (by simp; omega))
          have HXp := Lib.hid ((hbp0.block w.heap.size (by simp; omega)).trans (alloc_blk HX.out))
          have RLp := R.below hbp
          have p0 := cell_blk (j := 0) hx rfl
          have p1 := cell_blk (j := 1) hx rfl
          have p2 := cell_blk (j := 2) hx rfl
          have pl := (Array.getElem?_eq_some_iff.1 hx).1
          have hbF : nb ≠ w.heap.size := by simp at hnb; omega
          have hFp := (Array.getElem?_eq_some_iff.1 HXp.out).1
          clear hx vs hbp0 hnb HX hb z0 z1 z2 y0 y1 y2 RLw
          cases ins with
          | false =>
            go_wp2_with ((go_at_call 148; (first | (with_reducible refine (calls_ov2 (l05Inside_eq G RLp hl b1 b2 b3 HI)).mono ?_) | refine (calls_ov (l05Inside_eq G RLp hl b1 b2 b3 HI)).mono ?_); rintro e w' ⟨rfl, x, rfl⟩))
            go_roundw
            case rel => exact ⟨j + 1, fo, by omega, by go_num, Lib.hid (by rw [HN.out, HS.out]; exact stepE_out (by rw [HP.out]; exact HI.out)), HF, Lib.hid (ov_blk HXp.out), (by repeat (first | exact hbp | refine bO ?_ | refine bA ?_ | refine bS ?_ | refine bD ?_ | refine bN ?_))⟩
            case measure => simp [intOf]; omega
          | true =>
            have hpd := insideI_d HI.out
            cases fo with
            | none =>
              have q2 := cell_blk (j := 2) (v := .int .i64 0) HXp.out rfl
              have f0 := frozen_blk (j := 0) HXp.out
              have f1 := frozen_blk (j := 1) HXp.out
              have f2 := frozen_blk (j := 2) HXp.out
              have r0 := cell_blk (j := 0) (v := .int .i64 0) HXp.out rfl
              have r1 := cell_blk (j := 1) (v := .int .i64 0) HXp.out rfl
              go_wp2_with ((go_at_call 148; (first | (with_reducible refine (calls_ov2 (l05Inside_eq G RLp hl b1 b2 b3 HI)).mono ?_) | refine (calls_ov (l05Inside_eq G RLp hl b1 b2 b3 HI)).mono ?_); rintro e w' ⟨rfl, x, rfl⟩))
              go_roundw
              case rel => exact ⟨j + 1, some p, by omega, by go_num, Lib.hid (by rw [HN.out, HS.out]; exact stepE_first HP.out HI.out), Lib.hid (fun q h => by injection h with h; subst h; exact ⟨hpd, pb⟩), Lib.hid (ov_blk (set3_blk HXp.out)), (by repeat (first | exact hbp | refine bO ?_ | refine bA ?_ | refine bS ?_ | refine bD ?_ | refine bN ?_))⟩
              case measure => simp [intOf]; omega
            | some q =>
              obtain ⟨hq, qb⟩ := HF.out q rfl
              have hq0 : (q.2.2 == 0) = false := by simpa using hq
              have d1 := qb.b1
              have d2 := qb.b2
              have d3 := qb.b3
              have q0 := cell_blk (j := 0) (v := .int .i64 q.1) HXp.out rfl
              have q1 := cell_blk (j := 1) (v := .int .i64 q.2.1) HXp.out rfl
              have q2 := cell_blk (j := 2) (v := .int .i64 q.2.2) HXp.out rfl
              obtain ⟨v, hv⟩ : ∃ v, decide (sp q ≠ sp p) = v := ⟨_, rfl⟩
              have HV := Lib.hid hv
              clear hv
              cases v with
              | true =>
                go_wp2_with (first | (go_at_call 148; (first | (with_reducible refine (calls_ov2 (l05Inside_eq G RLp hl b1 b2 b3 HI)).mono ?_) | refine (calls_ov (l05Inside_eq G RLp hl b1 b2 b3 HI)).mono ?_); rintro e w' ⟨rfl, x, rfl⟩) | (go_at_call 149; (first | (with_reducible refine (calls_ov2 (l05Differ_eq HV d1 d2 d3 b1 b2 b3)).mono ?_) | refine (calls_ov (l05Differ_eq HV d1 d2 d3 b1 b2 b3)).mono ?_); rintro e w' ⟨rfl, x, rfl⟩))
                go_ret
                refine ⟨ret_bool ?_, (by repeat (first | exact hbp | refine bO ?_ | refine bA ?_ | refine bS ?_ | refine bD ?_ | refine bN ?_))⟩
                unfold edgeE
                refine (scanE_all L L[k] k j hlt ?_ ?_).symm
                · intro e; subst e; simp at hjk'
                · rw [HN.out, HS.out, stepE_next HP.out HI.out HV.out]
              | false =>
                go_wp2_with (first | (go_at_call 148; (first | (with_reducible refine (calls_ov2 (l05Inside_eq G RLp hl b1 b2 b3 HI)).mono ?_) | refine (calls_ov (l05Inside_eq G RLp hl b1 b2 b3 HI)).mono ?_); rintro e w' ⟨rfl, x, rfl⟩) | (go_at_call 149; (first | (with_reducible refine (calls_ov2 (l05Differ_eq HV d1 d2 d3 b1 b2 b3)).mono ?_) | refine (calls_ov (l05Differ_eq HV d1 d2 d3 b1 b2 b3)).mono ?_); rintro e w' ⟨rfl, x, rfl⟩))
                go_roundw
                case rel => exact ⟨j + 1, some q, by omega, by go_num, Lib.hid (by rw [HN.out, HS.out]; exact stepE_next HP.out HI.out HV.out), HF, Lib.hid (ov_blk HXp.out), (by repeat (first | exact hbp | refine bO ?_ | refine bA ?_ | refine bS ?_ | refine bD ?_ | refine bN ?_))⟩
                case measure => simp [intOf]; omega
        case' hst => exact (by repeat (first | exact all_nil | refine all_cons trivial ?_ | refine all_cons isAl_stable ?_ | refine all_cons isSt_stable ?_ | refine all_cons isStB_stable ?_ | refine all_cons (isOw_stable (by assumption)) ?_))
    · obtain rfl : j = L.length := by omega
      have HE := Lib.hid (show edgeE L k L[k] = false by unfold edgeE; have := HS.out; rw [List.take_length] at this; rw [this])
      go_wp2
      go_ret
      exact ⟨ret_bool HE.out.symm, hb⟩
end Go.Proofs.YtabmfaamadbefaaGreat
set_option linter.unusedSimpArgs false
set_option linter.unusedVariables false
set_option linter.unusedSectionVars false
namespace Go.Proofs.YtabmfaamadbefaaGreat
open Go.RowKit
theorem RB.new0 {B n : Nat} {E : TypeId} {w : World} {cs : Array Value} (hn : n = w.heap.size) (hB : B ≤ w.heap.size) (h : cs = #[]) : RB B E (w.alloc (.cells cs E)) (some ⟨n, 0, none⟩) 0 [] := by
  subst h hn
  exact ⟨rfl, .inr ⟨w.heap.size, 0, _, rfl, hB, heap_alloc_new _ _, Nat.le_refl _, by unfold maxLen; omega, rfl, rfl⟩⟩

/-- append(s, x...) on rows of half planes: s of the call's own, x any row, empty or nil too. -/
theorem wpList_append_rows {ops : Array Oper} {rest : List Oper} {o : Oper} {a : Act} {Q : Exit → Act → World → Prop} {w : World} (hgd : o.guard = none) (s x : Operand)
    (ho : o.op = .call { callee := .builtin .append, args := #[s, x], argTypes := #[24, 24] }) (B : Nat) {A A2 : Option Addr} {c c2 : Nat} {os xs : List H3}
    (hs : a.eval s = .slice A os.length c) (hown : RB B 44 w A c os) (hx : a.eval x = .slice A2 xs.length c2) (src : R3 44 w A2 c2 xs) (hl : os.length + xs.length ≤ 5000) (hB : B ≤ w.heap.size)
    (h : ∀ A' c' w', RB B 44 w' A' c' (os ++ xs) → Hid (∀ {w0 : World}, Below B w0 w → B ≤ w0.heap.size → Below B w0 w') → wpList Tryz.prog ops Q rest (a.put o.dst (.slice A' (os.length + xs.length) c')) w') : wpList Tryz.prog ops Q (o :: rest) a w := by
  obtain ⟨i0, hi, hz0, hz1, hz2⟩ := info_parts info_half
  rcases src.2 with ⟨e, e0⟩ | ⟨g, cap, cur, e, _⟩
  · injection e with e1 e2 e3
    subst e1 e3
    have hx0 : xs = [] := List.length_eq_zero_iff.1 e2
    subst hx0
    refine wpList_append_own_none (P := Tryz.prog) hgd s x 24 ho B 44 i0 3 Tryz.underlying24 hi _ _ _ hs hown hx ?_
    exact h A c w (by rw [List.append_nil]; exact hown) (Lib.hid fun h _ => h)
  · injection e with e1 e2 e3
    subst e1 e3
    refine wpList_append_own (P := Tryz.prog) w hgd s x 24 ho B 44 i0 (.agg #[.int .i64 0, .int .i64 0, .int .i64 0]) 3 24 Tryz.underlying24 hi hz0 hz1 hz2 rfl (by decide) _ _ _ hs hown ⟨g, 0, none⟩ xs.length c2 (cells3 xs) hx (cells3_length _) (news_row src) (cells3_one _) (by unfold maxLen; omega) (by omega) hB ?_
    intro v' w' O hg _
    have O' : w'.ownsRow B 44 3 v' (os ++ xs).length (cells3 (os ++ xs)) := by rw [cells3_append, List.length_append]; exact O
    obtain ⟨A', c', rfl, R⟩ := own_slice O'
    rw [List.length_append]
    exact h A' c' w' R (Lib.hid fun hb hB0 => grown_below hb hg (fun k hk => (hown.lt k hk).1) hB0)

theorem spec_FrameHalves_any {w : World} : Calls Tryz.prog 134 #[] w (InsPost w.heap.size w frameH) := by
  go_enter Tryz.func134, Tryz.ntmps134
  go_wp2
  go_ret
  refine ⟨some ⟨w.heap.size, 0, none⟩, 4, rfl, ⟨rfl, .inr ⟨w.heap.size, 4, _, rfl, Nat.le_refl _, heap_alloc_new _ _, Nat.le_refl _, by unfold maxLen; omega, rfl, rfl⟩⟩, (Below.refl _ _).alloc (Nat.le_refl _) _⟩

theorem l05Sorted_eq {xs ys : List H3} {A : Option Addr} {c : Nat} {w : World} (h : Hid (sortH xs = ys)) (G : ∀ g ∈ xs, HOk g) (R : R3 44 w A c xs) (hl : xs.length ≤ 500) {n : Nat} (hn : n = xs.length) :
    Calls Tryz.prog 133 #[.slice A n c] w (InsPost w.heap.size w ys) := by
  subst hn
  rw [← h.out]; exact l05Sorted_any G R hl
theorem l05IsEdge_eq {L : List H3} {k : Nat} {A : Option Addr} {c : Nat} {w : World} {v : Bool} (G : ∀ g ∈ L, HOk g) (hk : k < L.length) (R : R3 44 w A c L) (hl : L.length ≤ 1000) (h : Hid (edgeE L k L[k] = v)) :
    Calls Tryz.prog 135 #[.slice A L.length c, .int .i64 k] w fun e w' => e = .returned (.bool v) ∧ Below w.heap.size w w' := by
  rw [← h.out]; exact l05IsEdge_any G hk R hl
theorem pickE_take {L : List H3} {k : Nat} (hk : k < L.length) (e : edgeE L k L[k] = true) : pickE L (k + 1) = pickE L k ++ [L[k]] := by simp [pickE, hk, e]
theorem pickE_skip {L : List H3} {k : Nat} (hk : k < L.length) (e : edgeE L k L[k] = false) : pickE L (k + 1) = pickE L k := by simp [pickE, hk, e]
theorem pickE_len (L : List H3) : ∀ k, (pickE L k).length ≤ k
  | 0 => by simp [pickE]
  | k + 1 => by
    have := pickE_len L k
    simp only [pickE]
    split
    · split
      · simp; omega
      · omega
    · omega
/-- What a call that makes a region leaves. -/
def RegOut (w : World) (out : List H3) (e : Ending) (w' : World) : Prop := ∃ A c, e = .returned (.agg #[.slice A out.length c]) ∧ RB w.heap.size 44 w' A c out ∧ Below w.heap.size w w'

set_option maxRecDepth 100000 in
set_option maxHeartbeats 4000000 in
theorem l05Make_eq {hs out : List H3} {A : Option Addr} {c : Nat} {w : World} (G : ∀ g ∈ hs, HOk g) (R : R3 44 w A c hs) (hl : hs.length ≤ 300) (hr : Hid (makeR hs = out)) :
    Calls Tryz.prog 113 #[.slice A hs.length c] w (RegOut w out) := by
  obtain ⟨i0, hi, hz0, hz1, hz2⟩ := info_parts info_half
  obtain ⟨L, hL⟩ : ∃ L, sorted4 hs = L := ⟨_, rfl⟩
  have GL := good_sorted G
  have hLl := sortH_length (hs ++ frameH)
  rw [show sortH (hs ++ frameH) = sorted4 hs from rfl, hL] at hLl
  have hLl : L.length ≤ 304 := by simp [frameH] at hLl; omega
  have Gf : ∀ g ∈ hs ++ frameH, HOk g := fun g hg => by
    rcases List.mem_append.1 hg with h | h
    · exact G g h
    · exact frameH_ok g h
  have hro := hr.out
  unfold makeR at hro
  rw [hL] at GL hro
  have HO := Lib.hid hro
  have HL := Lib.hid (show sortH (hs ++ frameH) = L from hL)
  clear hL hro hr
  have okL := GL.ok
  go_enter Tryz.func113, Tryz.ntmps113
  go_wp2_with (first
    | (at_builtin; refine wpList_append_rows (os := []) (xs := hs) rfl _ _ rfl (w.heap.size + 1) rfl (RB.new0 (by simp) (by simp) rfl) rfl ((R3.alloc R _).alloc _) (by simp; omega) (by simp) ?_; intro A1 c1 w1 R1 B1; rw [List.nil_append] at R1; have hb1 : Below (w.heap.size + 1) (w.alloc (.cells #[.slice none 0 0] 26)) w1 := B1.out (by repeat (first | exact bR | refine bO ?_ | refine bA ?_ | refine bS ?_ | refine bD ?_ | refine bN ?_)) (by simp))
    | (go_at_call 134; refine spec_FrameHalves_any.mono ?_; rintro e w2 ⟨AF, cF, rfl, RF, hbF⟩; have hb2 : Below (w.heap.size + 1) (w.alloc (.cells #[.slice none 0 0] 26)) w2 := hb1.trans (hbF.mono (by have := hb1.size; simpa using this)); have R2 := R1.below hbF)
    | (at_builtin; refine wpList_append_rows (os := hs) (xs := frameH) rfl _ _ rfl (w.heap.size + 1) (by first | rfl | simp [Act.eval, Act.put]) R2 rfl RF.r3 (by simp [frameH]; omega) (by have := hb2.size; simpa using this) ?_; intro A3 c3 w3 R3' B3; have hb3 : Below (w.heap.size + 1) (w.alloc (.cells #[.slice none 0 0] 26)) w3 := B3.out hb2 (by simp)))
  go_wp2_with fail
  refine (l05Sorted_eq HL Gf R3'.r3 (by simp [frameH]; omega) (by simp)).mono ?_
  rintro e w4 ⟨A4, c4, rfl, R4, hb4⟩
  have hb4w : Below (w.heap.size + 1) (w.alloc (.cells #[.slice none 0 0] 26)) w4 := hb3.trans (hb4.mono (by have := hb3.size; simpa using this))
  have RL := R4.r3
  have s4 := hb4w.size
  replace s4 : w.heap.size + 1 ≤ w4.heap.size := by simpa using s4
  clear R1 B1 R2 R3' B3 RF hbF hb1 hb2 hb3 hb4 R4 G Gf HL
  go_wp2
  go_loopw [4, 16] (fun o i wr => ∃ (k : Nat) (A' : Option Addr) (c' : Nat), k ≤ L.length ∧ i = .int .i64 k ∧ o = .slice A' (pickE L k).length c' ∧ RB (w4.heap.size) 44 wr A' c' (pickE L k) ∧ Below w4.heap.size w4 wr) (fun _ i _ => L.length - (intOf i).toNat)
  case atStart => exact ⟨0, some ⟨w4.heap.size, 0, none⟩, 0, Nat.zero_le _, rfl, rfl, RB.new0 rfl (Nat.le_refl _) rfl, (Below.refl _ _).alloc (Nat.le_refl _) _⟩
  case round =>
    obtain ⟨k, A', c', hk, rfl, rfl, RO, hb⟩ := hrel
    have hbs := hb.size
    have ol := pickE_len L k
    by_cases hlt : k < L.length
    · have RLw := RL.below hb
      obtain ⟨gL, rfl, hgL, z0, z1, z2⟩ := RLw.at_ hlt
      obtain ⟨ed, hE⟩ : ∃ e, edgeE L k L[k] = e := ⟨_, rfl⟩
      have HE := Lib.hid hE
      clear hE
      cases ed with
      | false =>
        have HN := Lib.hid (pickE_skip hlt HE.out)
        go_wp2_with ((go_at_call 135; (first | (with_reducible refine (calls_ov2 (l05IsEdge_eq okL hlt (R3.alloc RLw _) (by omega) HE)).mono ?_) | refine (calls_ov (l05IsEdge_eq okL hlt (R3.alloc RLw _) (by omega) HE)).mono ?_); rintro e w' ⟨rfl, x, rfl⟩))
        go_roundw
        case rel => exact ⟨k + 1, A', c', by omega, by go_num, by rw [HN.out], by rw [HN.out]; exact RO.below (by repeat (first | exact bR | refine bO ?_ | refine bA ?_ | refine bS ?_ | refine bD ?_ | refine bN ?_)), (by repeat (first | exact hb | refine bO ?_ | refine bA ?_ | refine bS ?_ | refine bD ?_ | refine bN ?_))⟩
        case measure => simp [intOf]; omega
      | true =>
        have HN := Lib.hid (pickE_take hlt HE.out)
        go_wp2_with (first | (go_at_call 135; (first | (with_reducible refine (calls_ov2 (l05IsEdge_eq okL hlt (R3.alloc RLw _) (by omega) HE)).mono ?_) | refine (calls_ov (l05IsEdge_eq okL hlt (R3.alloc RLw _) (by omega) HE)).mono ?_); rintro e w' ⟨rfl, x, rfl⟩) | (at_builtin; refine wpList_append_own _ rfl _ _ 24 rfl w4.heap.size 44 i0 (.agg #[.int .i64 0, .int .i64 0, .int .i64 0]) 3 24 Tryz.underlying24 hi hz0 hz1 hz2 rfl (by decide) _ _ _ rfl (RO.below (by repeat (first | exact bR | refine bO ?_ | refine bA ?_ | refine bS ?_ | refine bD ?_ | refine bN ?_))) ⟨_, 0, none⟩ 1 1 (cells3 [L[k]]) rfl rfl (news_at (heap_alloc_new _ _)) (cells3_one _) (by unfold maxLen; omega) (by omega) (by simp [ov_size]; omega) ?_; intro v2 w2 O2 hg2 _; obtain ⟨A5, c5, rfl, RO5⟩ := own_slice1 O2; have HG := Lib.hid hg2; clear hg2 O2))
        go_roundw
        case rel => exact ⟨k + 1, A5, c5, by omega, by go_num, by rw [HN.out, List.length_append]; rfl, by rw [HN.out]; exact RO5, grown_below (B := w4.heap.size) (by repeat (first | exact hb | refine bO ?_ | refine bA ?_ | refine bS ?_ | refine bD ?_ | refine bN ?_)) HG.out (fun k hk => ((RO.lt k hk).1)) (Nat.le_refl _)⟩
        case measure => simp [intOf]; omega
    · obtain rfl : k = L.length := by omega
      have hbw := hb4w.trans (hb.mono s4)
      have HX := Lib.hid ((hbw.block w.heap.size (by omega)).trans (heap_alloc_new _ _))
      have x0 := cell_blk (j := 0) (v := .slice none 0 0) HX.out rfl
      have f0 := frozen_blk (j := 0) HX.out
      have l0 := (Array.getElem?_eq_some_iff.1 HX.out).1
      have hbW : Below w.heap.size w wr := ((Below.refl _ _).alloc (Nat.le_refl _) _).trans (hbw.mono (by omega))
      have hme := HO.out
      unfold makeE at hme
      obtain ⟨os, hos⟩ : ∃ os, pickE L L.length = os := ⟨_, rfl⟩
      rw [hos] at hme RO ol ⊢
      by_cases h3 : os.length < 3
      · rw [if_pos h3] at hme
        subst hme
        go_wp2
        refine bodyPost_ret (v := .agg #[.slice none 0 0]) (by simp [results, Tryz.results113, go_sem, x0, l0]) rfl ⟨none, 0, rfl, RB.nil _ _ _, ?_⟩
        exact (by repeat (first | exact hbW | refine bO ?_ | refine bA ?_ | refine bS ?_ | refine bD ?_ | refine bN ?_))
      · rw [if_neg h3] at hme
        subst hme
        go_wp2
        refine bodyPost_ret (v := .agg #[.slice A' os.length c']) (by simp [results, Tryz.results113, go_sem, x0, l0]) rfl ⟨A', c', rfl, ?_, ?_⟩
        · exact (RO.weak (by omega)).set_box HX.out (by decide)
        · exact (by repeat (first | exact hbW | refine bO ?_ | refine bA ?_ | refine bS ?_ | refine bD ?_ | refine bN ?_))
end Go.Proofs.YtabmfaamadbefaaGreat