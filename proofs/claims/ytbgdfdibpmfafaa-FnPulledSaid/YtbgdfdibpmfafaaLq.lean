/- What the laws on regions use: the argument opened, the copies, the comparisons, the marks. Condition: rows of at most 2^20 half planes where said. Contracts of the laws' helpers on regions: szRegion, toRegion, eqRegion, markRegion, heldRegion. Condition: rows of at most 2^20 half planes where said. Contracts of markRegion and heldRegion. Condition: rows of at most 2^20 half planes. Region operations whose values are rows that the region's calls make; rows apart from one another. No condition. -/
import Derived.Test.YtbgdfdibpmfafaaLb
import Derived.Test.YtbgdfdibpmfafaaRs
import Derived.OwnWalk
import Derived.Deep.Slices
import Derived.Deep.Fields
import Derived.ChangeSame
set_option linter.unusedSimpArgs false
set_option linter.unusedVariables false
set_option linter.unusedSectionVars false
namespace Go.Proofs.Ytbgdfdibpmfafaa
open Go.ChangeShapes Go.WideShapes Go.ChangeAt Go.RowKit Go.Joins Go.Deep

/-- A row of half planes that came in: any address. -/
def RL (w : World) (A : Option Addr) (xs : List H3) : Prop := ∀ k (hk : k < xs.length), ∃ g o, A = some ⟨g, o, none⟩ ∧ g < w.heap.size ∧
  w.cell? ⟨g, o + k * 3, none⟩ = some (.int .i64 xs[k].a) ∧ w.cell? ⟨g, o + k * 3 + 1, none⟩ = some (.int .i64 xs[k].b) ∧ w.cell? ⟨g, o + k * 3 + 2, none⟩ = some (.int .i64 xs[k].c)
theorem RL.below {w w' : World} {A : Option Addr} {xs : List H3} (h : RL w A xs) (hb : Below w.heap.size w w') : RL w' A xs := fun k hk => by
  obtain ⟨g, o, h1, h2, h3, h4, h5⟩ := h k hk
  have := hb.size
  exact ⟨g, o, h1, by omega, (hb.cell (p := ⟨g, o + k * 3, none⟩) h2).trans h3, (hb.cell (p := ⟨g, o + k * 3 + 1, none⟩) h2).trans h4, (hb.cell (p := ⟨g, o + k * 3 + 2, none⟩) h2).trans h5⟩
theorem cell?_addr {w : World} {a : Addr} {v : Value} (h : w.cell? a = some v) : a.spot = none ∧ a.block < w.heap.size := by
  unfold World.cell? at h
  split at h
  · rename_i c t f hb
    refine ⟨?_, (Array.getElem?_eq_some_iff.1 hb).1⟩
    cases hs : a.spot with
    | none => rfl
    | some x => rw [hs] at h; simp at h
  · cases h
theorem list_of {α : Type} {P : Nat → α → Prop} : ∀ (n : Nat), (∀ i, i < n → ∃ x, P i x) → ∃ l : List α, l.length = n ∧ ∀ i (h : i < l.length), P i l[i]
  | 0, _ => ⟨[], rfl, fun i h => by simp at h⟩
  | n + 1, h => by
    obtain ⟨l, hl, hp⟩ := list_of n fun i hi => h i (by omega)
    obtain ⟨x, hx⟩ := h n (by omega)
    refine ⟨l ++ [x], by simp [hl], fun i hi => ?_⟩
    by_cases hin : i < l.length
    · rw [List.getElem_append_left hin]; exact hp i hin
    · have : i = l.length := by simp at hi; omega
      subst this
      rw [List.getElem_append_right (Nat.le_refl _)]
      simp only [Nat.sub_self, List.getElem_cons_zero]
      rw [hl]; exact hx

section
variable {H : Type} {enc : TypeId × Value → H} {w : World} {base : Nat} {spare : Nat → Bool} {held : Bool} {n : Nat}
end
end Go.Proofs.Ytbgdfdibpmfafaa

set_option linter.unusedSimpArgs false
set_option linter.unusedVariables false
set_option linter.unusedSectionVars false
namespace Go.Proofs.Ytbgdfdibpmfafaa
open Go.ChangeShapes Go.WideShapes Go.ChangeAt Go.RowKit Go.Joins

def szL (n : Nat) (left : Int) : Int := if left - n < 0 then -1 else left - n
theorem addr_block {g g' : Nat} (e : some (⟨g, 0, none⟩ : Addr) = some ⟨g', 0, none⟩) : g' = g := by injection e with e; injection e with e; exact e.symm
theorem made3 (n : Nat) : (madeCells (Value.agg #[.int .i64 0, .int .i64 0, .int .i64 0]).cells (n * 3)).toList = cells3 (List.replicate n ⟨0, 0, 0⟩) := by
  apply List.ext_getElem?
  intro j
  by_cases hj : j < n * 3
  · have h1 : (madeCells (Value.agg #[.int .i64 0, .int .i64 0, .int .i64 0]).cells (n * 3)).toList[j]? = some (.int .i64 0) := by
      have h3 : j % 3 < 3 := Nat.mod_lt _ (by decide)
      simp [madeCells, Value.cells, hj]
      match j % 3, h3 with
      | 0, _ => rfl
      | 1, _ => rfl
      | 2, _ => rfl
    rw [h1]
    have hk : j / 3 < (List.replicate n (⟨0, 0, 0⟩ : H3)).length := by simp; omega
    obtain ⟨c0, c1, c2⟩ := cells3_get (List.replicate n ⟨0, 0, 0⟩) (j / 3) hk
    simp only [List.getElem_replicate] at c0 c1 c2
    have : j = j / 3 * 3 ∨ j = j / 3 * 3 + 1 ∨ j = j / 3 * 3 + 2 := by omega
    rcases this with e | e | e
    · rw [e, c0]
    · rw [e, c1]
    · rw [e, c2]
  · rw [List.getElem?_eq_none (by simp [size_madeCells]; omega), List.getElem?_eq_none (by rw [cells3_length]; simp; omega)]

theorem fill_set {hs : List H3} {k : Nat} (hk : k < hs.length) : (hs.take k ++ List.replicate (hs.length - k) (⟨0, 0, 0⟩ : H3)).set k hs[k] = hs.take (k + 1) ++ List.replicate (hs.length - (k + 1)) (⟨0, 0, 0⟩ : H3) := by
  have hl : (hs.take k).length = k := by simp; omega
  rw [List.set_append_right (h := by omega), hl, Nat.sub_self, List.take_succ_eq_append_getElem hk, List.append_assoc]
  obtain ⟨m, hm⟩ : ∃ m, hs.length - k = m + 1 := ⟨hs.length - k - 1, by omega⟩
  rw [hm, List.replicate_succ, List.set_cons_zero, show hs.length - (k + 1) = m by omega]
  rfl

/-- The marks: numbers from k on. -/
def marks (k : Int) : Nat → List H3
  | 0 => []
  | n + 1 => marks k n ++ [⟨k + n * 3, k + n * 3 + 1, k + n * 3 + 2⟩]
theorem marks_length (k : Int) : ∀ n, (marks k n).length = n
  | 0 => rfl
  | n + 1 => by simp [marks, marks_length k n]
theorem marks_get (k : Int) : ∀ n i (h : i < (marks k n).length), (marks k n)[i] = ⟨k + i * 3, k + i * 3 + 1, k + i * 3 + 2⟩
  | 0, i, h => by simp [marks] at h
  | n + 1, i, h => by
    by_cases hi : i < (marks k n).length
    · simp only [marks]
      rw [List.getElem_append_left hi]; exact marks_get k n i hi
    · have hl := marks_length k n
      have : i = n := by simp [marks] at h; omega
      subst this
      simp only [marks]
      rw [List.getElem_append_right (by omega)]
      simp [hl]
theorem mark_set {xs : List H3} {k : Nat} {b : Int} (hk : k < xs.length) : (marks b k ++ xs.drop k).set k ⟨b + k * 3, b + k * 3 + 1, b + k * 3 + 2⟩ = marks b (k + 1) ++ xs.drop (k + 1) := by
  have hl := marks_length b k
  rw [List.set_append_right (h := by omega), hl, Nat.sub_self, List.drop_eq_getElem_cons hk, List.set_cons_zero]
  simp [marks]
end Go.Proofs.Ytbgdfdibpmfafaa

set_option linter.unusedSimpArgs false
set_option linter.unusedVariables false
set_option linter.unusedSectionVars false
namespace Go.Proofs.Ytbgdfdibpmfafaa
open Go.ChangeShapes Go.WideShapes Go.ChangeAt Go.RowKit Go.Joins

theorem grownBy_set {w wr : World} {g i : Nat} {v : Value} (h : w.grownBy wr (some g)) : w.grownBy (wr.setCell ⟨g, i, none⟩ v) (some g) :=
  ⟨h.os, h.tape, h.output, by simpa using h.size, fun k hk hne => (heap_setCell_other _ _ _ _ (fun e => hne (by rw [e]))).trans (h.block k hk hne)⟩
theorem grownBy_ov {w wr : World} {o : Option Nat} (x : More) (h : w.grownBy wr o) : w.grownBy (ov wr x) o :=
  ⟨h.os, h.tape, h.output, Nat.le_trans h.size (by rw [ov_size]; omega), fun k hk hne => (ov_block _ x (Nat.lt_of_lt_of_le hk h.size)).trans (h.block k hk hne)⟩
theorem grownBy_of_below {w wr : World} {o : Option Nat} (h : Below w.heap.size w wr) : w.grownBy wr o := ⟨h.os, h.tape, h.output, h.size, fun k hk _ => h.block k hk⟩

end Go.Proofs.Ytbgdfdibpmfafaa

set_option linter.unusedSimpArgs false
set_option linter.unusedVariables false
set_option linter.unusedSectionVars false
namespace Go.Proofs.Ytbgdfdibpmfafaa
open Go.ChangeShapes Go.WideShapes Go.ChangeAt Go.RowKit Go.Joins

section
variable {P : Program} {ops : Array Oper} {Q : Exit → Act → World → Prop} {w0 w w' : World} {Rs : List RD} {vs : Nat → Value} {i : Nat} {a a' : Act} {o : Oper} {r : List Oper} {dst : Option Tmp}
theorem needOf_at {n : List Nat} {d : RD} (hr : Rs[i]? = some d) (hn : d.need = n) : needOf Rs i = n := by unfold needOf; rw [hr]; exact hn
/-- An operation with one value, where earlier ones met their relations. -/
theorem wpRel_purn {n : List Nat} {c : Value} {dst : Option Tmp} (hr : Rs[i]? = some (.pur n c)) (hd : o.dst = dst) (h1 : ∀ x, (∀ j ∈ n, holds w0 Rs vs j (ov w0 x)) → wpList P ops (relEnd Rs vs w0 i dst a (ov w0 x)) [o] a (ov w0 x)) (h2 : wpRel P ops Q w0 Rs vs (i + 1) r (a.put dst c)) : wpRel P ops Q w0 Rs vs i (o :: r) a := by
  subst hd
  have hv : vv Rs vs i = c := by unfold vv; rw [hr]
  subst hv
  refine ⟨fun w' ⟨x, hx⟩ hh => ?_, h2⟩
  subst hx
  rw [needOf_at hr rfl] at hh
  exact h1 x hh
theorem wpRelE_nilB0 (h : ∀ w', Below w0.heap.size w0 w' → (∀ j, holds w0 Rs vs j w') → Q .normal a w') : wpRel P ops Q w0 Rs vs i [] a :=
  fun w' ⟨x, hx⟩ hh => h w' (by subst hx; exact below_ov _ _ (Below.refl _ _) (Nat.le_refl _)) hh
/-- An operation that leaves a value of its own making, from such values. -/
theorem wpRel_own {n : List Nat} {k : Nat} {dst : Option Tmp} {G : World → Value → World → Prop} (hr : Rs[i]? = some (.rel n [k] false (IsOw G))) (hki : k = i) (hd : o.dst = dst) (h1 : ∀ x, (∀ j ∈ n, holds w0 Rs vs j (ov w0 x)) → wpList P ops (relEnd Rs vs w0 i dst a (ov w0 x)) [o] a (ov w0 x)) (h2 : wpRel P ops Q w0 Rs vs (i + 1) r (a.put dst (vs k))) : wpRel P ops Q w0 Rs vs i (o :: r) a := by
  subst hki hd
  refine wpRel_cons (fun w' hw hh => ?_) ?_
  · obtain ⟨x, rfl⟩ := hw
    rw [needOf_at hr rfl] at hh
    exact h1 x hh
  · rw [vv_rel hr]; exact h2
end
def GReg (xs : List H3) (w0 : World) (v : Value) (w : World) : Prop := ∃ A c, v = .agg #[.slice A xs.length c] ∧ RB w0.heap.size 63 w A c xs
def GTup (xs : List H3) (ok : Bool) (w0 : World) (v : Value) (w : World) : Prop := ∃ A c, v = .tuple #[.agg #[.slice A xs.length c], .bool ok] ∧ RB w0.heap.size 63 w A c xs
theorem RB.set_row {B b : Nat} {E T : TypeId} {w : World} {A : Option Addr} {c : Nat} {xs : List H3} {cur arr : Array Value} {fr : Nat × Nat} (h : RB B E w A c xs) (hb : w.heap[b]? = some (.cells cur T fr)) (hT : T ≠ E) : RB B E (w.setRow b arr) A c xs := by
  refine ⟨h.1, ?_⟩
  rcases h.2 with e | ⟨g, cap, cu, e1, hg, hh, hr⟩
  · exact .inl e
  · refine .inr ⟨g, cap, cu, e1, hg, ?_, hr⟩
    rw [setRow_other]
    · exact hh
    · rintro rfl
      rw [hh] at hb
      injection hb with hb; injection hb with _ hb; exact hT hb.symm
theorem owned_reg (xs : List H3) : Owned 25 (GReg xs) :=
  ⟨fun w0 v w x ⟨A, c, e, R⟩ => ⟨A, c, e, R.below (below_ov _ _ (Below.refl _ _) (Nat.le_refl _))⟩, fun w0 v w b cur arr hb hs ⟨A, c, e, R⟩ => ⟨A, c, e, R.set_row hb (by decide)⟩⟩
theorem owned_tup (xs : List H3) (ok : Bool) : Owned 25 (GTup xs ok) :=
  ⟨fun w0 v w x ⟨A, c, e, R⟩ => ⟨A, c, e, R.below (below_ov _ _ (Below.refl _ _) (Nat.le_refl _))⟩, fun w0 v w b cur arr hb hs ⟨A, c, e, R⟩ => ⟨A, c, e, R.set_row hb (by decide)⟩⟩
theorem reg_cells (A : Option Addr) (n c : Nat) : (Value.agg #[.slice A n c]).cells.size = 1 ∧ ∀ x ∈ (Value.agg #[.slice A n c]).cells.toList, x.oneCell' = true := ⟨rfl, by simp [Value.cells, Value.oneCell']⟩

/-- Two rows in different blocks. -/
def Apart (A A' : Option Addr) : Prop := ∀ k, A = some ⟨k, 0, none⟩ → A' ≠ some ⟨k, 0, none⟩
theorem RB.ad {B : Nat} {E : TypeId} {w : World} {A : Option Addr} {c : Nat} {xs : List H3} (h : RB B E w A c xs) : ∀ k, A = some ⟨k, 0, none⟩ → B ≤ k ∧ k < w.heap.size := fun k hk => h.lt k (by subst hk; rfl)
theorem apart_new {B B' : Nat} {E E' : TypeId} {W W' : World} {A A' : Option Addr} {c c' : Nat} {xs ys : List H3} (h : RB B E W A c xs) (h2 : RB B' E' W' A' c' ys) (hB : W.heap.size ≤ B') : Apart A A' := fun k h1 h3 => by
  have := (h.ad k h1).2
  have := (h2.ad k h3).1
  omega
theorem Apart.symm {A A' : Option Addr} (h : Apart A A') : Apart A' A := fun k h1 h2 => h k h2 h1
theorem RB.form {B : Nat} {E : TypeId} {w : World} {A : Option Addr} {c : Nat} {xs : List H3} (h : RB B E w A c xs) : A = none ∨ ∃ g, A = some ⟨g, 0, none⟩ := by
  rcases h.2 with ⟨e, _⟩ | ⟨g, cap, cur, e, _⟩
  · injection e with e; exact .inl e
  · injection e with e; exact .inr ⟨g, e⟩
theorem own_of {A : Option Addr} {n c k : Nat} (h : (Value.slice A n c).ownBlock = some k) : ∃ o s, A = some ⟨k, o, s⟩ := by
  cases A with
  | none => cases h
  | some a => obtain ⟨g, o, s⟩ := a; injection h with h; subst h; exact ⟨o, s, rfl⟩
theorem RB.grown {B B1 n c1 c2 : Nat} {E E1 : TypeId} {w w' w1 : World} {A A1 : Option Addr} {c : Nat} {xs ys : List H3} (h : RB B E w A c xs) (h1 : RB B1 E1 w1 A1 c2 ys) (hg : w.grownBy w' (Value.slice A1 n c1).ownBlock) (hne : Apart A1 A) : RB B E w' A c xs := by
  refine ⟨h.1, ?_⟩
  rcases h.2 with e | ⟨g, cap, cu, e1, hgB, hh, hr⟩
  · exact .inl e
  · refine .inr ⟨g, cap, cu, e1, hgB, ?_, hr⟩
    refine (hg.block g (Array.getElem?_eq_some_iff.1 hh).1 fun e => ?_).trans hh
    injection e1 with e1
    subst e1
    obtain ⟨o, s, e2⟩ := own_of e.symm
    rcases h1.form with e3 | ⟨g', e3⟩
    · rw [e3] at e2; cases e2
    · have e4 := e3
      rw [e2] at e3
      injection e3 with e3
      injection e3 with e5 _
      subst e5
      exact hne g e4 rfl
theorem box_below {W W' : World} {b : Nat} {o : Obj} (h : Hid (W.heap[b]? = some o)) (K : Below W.heap.size W W') : Hid (W'.heap[b]? = some o) := Lib.hid ((K.block b (Array.getElem?_eq_some_iff.1 h.out).1).trans h.out)
theorem box_grown {W W' : World} {b n c : Nat} {A : Option Addr} {o : Obj} (h : Hid (W.heap[b]? = some o)) (K : W.grownBy W' (Value.slice A n c).ownBlock) (hne : some b ≠ (Value.slice A n c).ownBlock) : Hid (W'.heap[b]? = some o) := Lib.hid ((K.block b (Array.getElem?_eq_some_iff.1 h.out).1 hne).trans h.out)
theorem grown_pre {W E W' : World} {o : Option Nat} (h : Below W.heap.size W E) (hg : E.grownBy W' o) : W.grownBy W' o :=
  ⟨hg.os.trans h.os, hg.tape.trans h.tape, hg.output.trans h.output, Nat.le_trans h.size hg.size, fun k hk hne => (hg.block k (Nat.lt_of_lt_of_le hk h.size) hne).trans (h.block k hk)⟩
end Go.Proofs.Ytbgdfdibpmfafaa
