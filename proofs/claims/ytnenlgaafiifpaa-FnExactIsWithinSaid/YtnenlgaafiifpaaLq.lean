/- Region operations whose values are rows that the region's calls make; rows apart from one another. No condition. -/
import Derived.Test.YtnenlgaafiifpaaLm
set_option linter.unusedSimpArgs false
set_option linter.unusedVariables false
set_option linter.unusedSectionVars false
namespace Go.Proofs.Ytnenlgaafiifpaa
open Go.ChangeShapes Go.WideShapes Go.ChangeAt Go.RowKit Go.Joins

section
variable {P : Program} {ops : Array Oper} {Q : Exit → Act → World → Prop} {w0 w w' : World} {Rs : List RD} {vs : Nat → Value} {i : Nat} {a a' : Act} {o : Oper} {r : List Oper} {dst : Option Tmp}
theorem needOf_at {n : List Nat} {d : RD} (hr : Rs[i]? = some d) (hn : d.need = n) : needOf Rs i = n := by unfold needOf; rw [hr]; exact hn
/-- An operation with one value, where earlier ones met their relations. -/
theorem wpRel_purn {n : List Nat} {c : Value} {dst : Option Tmp} (hr : Rs[i]? = some (.pur n c)) (hd : o.dst = dst) (h1 : ∀ x, (∀ j ∈ n, holds w0 Rs vs j (ov w0 x)) → wpList P ops (relEnd Rs vs w0 i dst a (ov w0 x)) [o] a (ov w0 x)) (h2 : wpRel P ops Q w0 Rs vs (i + 1) r (a.put dst c)) : wpRel P ops Q w0 Rs vs i (o :: r) a := by
  subst hd
  have hv : vv Rs vs i = c := by unfold vv; rw [hr]
  subst hv
  refine ⟨fun w' ⟨x, hx⟩ hh => ?_, h2⟩
  subst hx
  rw [needOf_at hr rfl] at hh
  exact h1 x hh
theorem wpRelE_nilB0 (h : ∀ w', Below w0.heap.size w0 w' → (∀ j, holds w0 Rs vs j w') → Q .normal a w') : wpRel P ops Q w0 Rs vs i [] a :=
  fun w' ⟨x, hx⟩ hh => h w' (by subst hx; exact below_ov _ _ (Below.refl _ _) (Nat.le_refl _)) hh
/-- An operation that leaves a value of its own making, from such values. -/
theorem wpRel_own {n : List Nat} {k : Nat} {dst : Option Tmp} {G : World → Value → World → Prop} (hr : Rs[i]? = some (.rel n [k] false (IsOw G))) (hki : k = i) (hd : o.dst = dst) (h1 : ∀ x, (∀ j ∈ n, holds w0 Rs vs j (ov w0 x)) → wpList P ops (relEnd Rs vs w0 i dst a (ov w0 x)) [o] a (ov w0 x)) (h2 : wpRel P ops Q w0 Rs vs (i + 1) r (a.put dst (vs k))) : wpRel P ops Q w0 Rs vs i (o :: r) a := by
  subst hki hd
  refine wpRel_cons (fun w' hw hh => ?_) ?_
  · obtain ⟨x, rfl⟩ := hw
    rw [needOf_at hr rfl] at hh
    exact h1 x hh
  · rw [vv_rel hr]; exact h2
end
def GReg (xs : List H3) (w0 : World) (v : Value) (w : World) : Prop := ∃ A c, v = .agg #[.slice A xs.length c] ∧ RB w0.heap.size 38 w A c xs
def GTup (xs : List H3) (ok : Bool) (w0 : World) (v : Value) (w : World) : Prop := ∃ A c, v = .tuple #[.agg #[.slice A xs.length c], .bool ok] ∧ RB w0.heap.size 38 w A c xs
theorem RB.set_row {B b : Nat} {E T : TypeId} {w : World} {A : Option Addr} {c : Nat} {xs : List H3} {cur arr : Array Value} {fr : Nat × Nat} (h : RB B E w A c xs) (hb : w.heap[b]? = some (.cells cur T fr)) (hT : T ≠ E) : RB B E (w.setRow b arr) A c xs := by
  refine ⟨h.1, ?_⟩
  rcases h.2 with e | ⟨g, cap, cu, e1, hg, hh, hr⟩
  · exact .inl e
  · refine .inr ⟨g, cap, cu, e1, hg, ?_, hr⟩
    rw [setRow_other]
    · exact hh
    · rintro rfl
      rw [hh] at hb
      injection hb with hb; injection hb with _ hb; exact hT hb.symm
theorem owned_reg (xs : List H3) : Owned 28 (GReg xs) :=
  ⟨fun w0 v w x ⟨A, c, e, R⟩ => ⟨A, c, e, R.below (below_ov _ _ (Below.refl _ _) (Nat.le_refl _))⟩, fun w0 v w b cur arr hb hs ⟨A, c, e, R⟩ => ⟨A, c, e, R.set_row hb (by decide)⟩⟩
theorem owned_tup (xs : List H3) (ok : Bool) : Owned 28 (GTup xs ok) :=
  ⟨fun w0 v w x ⟨A, c, e, R⟩ => ⟨A, c, e, R.below (below_ov _ _ (Below.refl _ _) (Nat.le_refl _))⟩, fun w0 v w b cur arr hb hs ⟨A, c, e, R⟩ => ⟨A, c, e, R.set_row hb (by decide)⟩⟩
theorem reg_cells (A : Option Addr) (n c : Nat) : (Value.agg #[.slice A n c]).cells.size = 1 ∧ ∀ x ∈ (Value.agg #[.slice A n c]).cells.toList, x.oneCell' = true := ⟨rfl, by simp [Value.cells, Value.oneCell']⟩

/-- Two rows in different blocks. -/
def Apart (A A' : Option Addr) : Prop := ∀ k, A = some ⟨k, 0, none⟩ → A' ≠ some ⟨k, 0, none⟩
theorem RB.ad {B : Nat} {E : TypeId} {w : World} {A : Option Addr} {c : Nat} {xs : List H3} (h : RB B E w A c xs) : ∀ k, A = some ⟨k, 0, none⟩ → B ≤ k ∧ k < w.heap.size := fun k hk => h.lt k (by subst hk; rfl)
theorem apart_new {B B' : Nat} {E E' : TypeId} {W W' : World} {A A' : Option Addr} {c c' : Nat} {xs ys : List H3} (h : RB B E W A c xs) (h2 : RB B' E' W' A' c' ys) (hB : W.heap.size ≤ B') : Apart A A' := fun k h1 h3 => by
  have := (h.ad k h1).2
  have := (h2.ad k h3).1
  omega
theorem Apart.symm {A A' : Option Addr} (h : Apart A A') : Apart A' A := fun k h1 h2 => h k h2 h1
theorem RB.form {B : Nat} {E : TypeId} {w : World} {A : Option Addr} {c : Nat} {xs : List H3} (h : RB B E w A c xs) : A = none ∨ ∃ g, A = some ⟨g, 0, none⟩ := by
  rcases h.2 with ⟨e, _⟩ | ⟨g, cap, cur, e, _⟩
  · injection e with e; exact .inl e
  · injection e with e; exact .inr ⟨g, e⟩
theorem own_of {A : Option Addr} {n c k : Nat} (h : (Value.slice A n c).ownBlock = some k) : ∃ o s, A = some ⟨k, o, s⟩ := by
  cases A with
  | none => cases h
  | some a => obtain ⟨g, o, s⟩ := a; injection h with h; subst h; exact ⟨o, s, rfl⟩
theorem RB.grown {B B1 n c1 c2 : Nat} {E E1 : TypeId} {w w' w1 : World} {A A1 : Option Addr} {c : Nat} {xs ys : List H3} (h : RB B E w A c xs) (h1 : RB B1 E1 w1 A1 c2 ys) (hg : w.grownBy w' (Value.slice A1 n c1).ownBlock) (hne : Apart A1 A) : RB B E w' A c xs := by
  refine ⟨h.1, ?_⟩
  rcases h.2 with e | ⟨g, cap, cu, e1, hgB, hh, hr⟩
  · exact .inl e
  · refine .inr ⟨g, cap, cu, e1, hgB, ?_, hr⟩
    refine (hg.block g (Array.getElem?_eq_some_iff.1 hh).1 fun e => ?_).trans hh
    injection e1 with e1
    subst e1
    obtain ⟨o, s, e2⟩ := own_of e.symm
    rcases h1.form with e3 | ⟨g', e3⟩
    · rw [e3] at e2; cases e2
    · have e4 := e3
      rw [e2] at e3
      injection e3 with e3
      injection e3 with e5 _
      subst e5
      exact hne g e4 rfl
theorem box_below {W W' : World} {b : Nat} {o : Obj} (h : Hid (W.heap[b]? = some o)) (K : Below W.heap.size W W') : Hid (W'.heap[b]? = some o) := Lib.hid ((K.block b (Array.getElem?_eq_some_iff.1 h.out).1).trans h.out)
theorem box_grown {W W' : World} {b n c : Nat} {A : Option Addr} {o : Obj} (h : Hid (W.heap[b]? = some o)) (K : W.grownBy W' (Value.slice A n c).ownBlock) (hne : some b ≠ (Value.slice A n c).ownBlock) : Hid (W'.heap[b]? = some o) := Lib.hid ((K.block b (Array.getElem?_eq_some_iff.1 h.out).1 hne).trans h.out)
theorem grown_pre {W E W' : World} {o : Option Nat} (h : Below W.heap.size W E) (hg : E.grownBy W' o) : W.grownBy W' o :=
  ⟨hg.os.trans h.os, hg.tape.trans h.tape, hg.output.trans h.output, Nat.le_trans h.size hg.size, fun k hk hne => (hg.block k (Nat.lt_of_lt_of_le hk h.size) hne).trans (h.block k hk)⟩
end Go.Proofs.Ytnenlgaafiifpaa
