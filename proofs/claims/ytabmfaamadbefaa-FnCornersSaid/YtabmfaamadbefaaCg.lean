/- Several texts in one: Lb, Lq, Lt, Re, Rf, Cu, Cg. Each says its own conditions. -/
import Derived.Test.YtabmfaamadbefaaTail
import Derived.Test.YtabmfaamadbefaaRows
import Derived.ProofKit
import Derived.Lib.SmallJoins
import Derived.ChangeOld
import Derived.Test.YtabmfaamadbefaaRs
import Derived.OwnWalk
import Derived.Deep.Slices
import Derived.Deep.Fields
import Derived.ChangeSame
import Derived.ArgAppend
import Derived.Test.YtabmfaamadbefaaGeo
import Derived.Lib.SliceRun
/- What every law's proof uses: the frame, and ints opened. No condition. -/
set_option linter.unusedVariables false
namespace Go.Proofs.Ytabmfaamadbefaa
open Go.ChangeShapes Go.WideShapes Go.ChangeAt Go.RowKit Go.Joins

theorem own : ownKnob Try.prog.godebug = none := by kernel_rfl
theorem laidOut : laidOutB Try.prog = true := by kernel_rfl
theorem wf_bd {x : Int} (h : (Lit.int .i64 x).wf = true) : -9223372036854775808 ≤ x ∧ x ≤ 9223372036854775807 := by
  simp [Lit.wf, IntKind.min, IntKind.max, IntKind.signed, IntKind.bits] at h
  omega

section
variable {H : Type} {enc : TypeId × Value → H} {w : World} {base : Nat} {spare : Nat → Bool} {held : Bool} {n : Nat}
theorem int_of_trod {v : Value} {y : DataW H × List MemPlace}
    (h : DataW.trod enc Try.prog w base spare held n 3 [v] = some y) : ∃ x : Int, v = .int .i64 x ∧ -9223372036854775808 ≤ x ∧ x ≤ 9223372036854775807 := by
  obtain ⟨x, e, _, hx⟩ := DataW.trod_int Try.underlying3 h
  simp at e
  exact ⟨x, e, wf_bd hx⟩
theorem cells_int : Try.prog.cellsOf 3 = 1 := by kernel_rfl
end
end Go.Proofs.Ytabmfaamadbefaa

/- What the laws on regions use: the argument opened, the copies, the comparisons, the marks. Condition: rows of at most 2^20 half planes where said. Contracts of the laws' helpers on regions: szRegion, toRegion, eqRegion, markRegion, heldRegion. Condition: rows of at most 2^20 half planes where said. Contracts of markRegion and heldRegion. Condition: rows of at most 2^20 half planes. Region operations whose values are rows that the region's calls make; rows apart from one another. No condition. -/
set_option linter.unusedSimpArgs false
set_option linter.unusedVariables false
set_option linter.unusedSectionVars false
namespace Go.Proofs.Ytabmfaamadbefaa
open Go.ChangeShapes Go.WideShapes Go.ChangeAt Go.RowKit Go.Joins Go.Deep

/-- A row of half planes that came in: any address. -/
def RL (w : World) (A : Option Addr) (xs : List H3) : Prop := ∀ k (hk : k < xs.length), ∃ g o, A = some ⟨g, o, none⟩ ∧ g < w.heap.size ∧
  w.cell? ⟨g, o + k * 3, none⟩ = some (.int .i64 xs[k].a) ∧ w.cell? ⟨g, o + k * 3 + 1, none⟩ = some (.int .i64 xs[k].b) ∧ w.cell? ⟨g, o + k * 3 + 2, none⟩ = some (.int .i64 xs[k].c)
theorem RL.below {w w' : World} {A : Option Addr} {xs : List H3} (h : RL w A xs) (hb : Below w.heap.size w w') : RL w' A xs := fun k hk => by
  obtain ⟨g, o, h1, h2, h3, h4, h5⟩ := h k hk
  have := hb.size
  exact ⟨g, o, h1, by omega, (hb.cell (p := ⟨g, o + k * 3, none⟩) h2).trans h3, (hb.cell (p := ⟨g, o + k * 3 + 1, none⟩) h2).trans h4, (hb.cell (p := ⟨g, o + k * 3 + 2, none⟩) h2).trans h5⟩
theorem cell?_addr {w : World} {a : Addr} {v : Value} (h : w.cell? a = some v) : a.spot = none ∧ a.block < w.heap.size := by
  unfold World.cell? at h
  split at h
  · rename_i c t f hb
    refine ⟨?_, (Array.getElem?_eq_some_iff.1 hb).1⟩
    cases hs : a.spot with
    | none => rfl
    | some x => rw [hs] at h; simp at h
  · cases h
theorem list_of {α : Type} {P : Nat → α → Prop} : ∀ (n : Nat), (∀ i, i < n → ∃ x, P i x) → ∃ l : List α, l.length = n ∧ ∀ i (h : i < l.length), P i l[i]
  | 0, _ => ⟨[], rfl, fun i h => by simp at h⟩
  | n + 1, h => by
    obtain ⟨l, hl, hp⟩ := list_of n fun i hi => h i (by omega)
    obtain ⟨x, hx⟩ := h n (by omega)
    refine ⟨l ++ [x], by simp [hl], fun i hi => ?_⟩
    by_cases hin : i < l.length
    · rw [List.getElem_append_left hin]; exact hp i hin
    · have : i = l.length := by simp at hi; omega
      subst this
      rw [List.getElem_append_right (Nat.le_refl _)]
      simp only [Nat.sub_self, List.getElem_cons_zero]
      rw [hl]; exact hx

section
variable {H : Type} {enc : TypeId × Value → H} {w : World} {base : Nat} {spare : Nat → Bool} {held : Bool} {n : Nat}
end
end Go.Proofs.Ytabmfaamadbefaa

set_option linter.unusedSimpArgs false
set_option linter.unusedVariables false
set_option linter.unusedSectionVars false
namespace Go.Proofs.Ytabmfaamadbefaa
open Go.ChangeShapes Go.WideShapes Go.ChangeAt Go.RowKit Go.Joins

def szL (n : Nat) (left : Int) : Int := if left - n < 0 then -1 else left - n
theorem addr_block {g g' : Nat} (e : some (⟨g, 0, none⟩ : Addr) = some ⟨g', 0, none⟩) : g' = g := by injection e with e; injection e with e; exact e.symm
theorem made3 (n : Nat) : (madeCells (Value.agg #[.int .i64 0, .int .i64 0, .int .i64 0]).cells (n * 3)).toList = cells3 (List.replicate n ⟨0, 0, 0⟩) := by
  apply List.ext_getElem?
  intro j
  by_cases hj : j < n * 3
  · have h1 : (madeCells (Value.agg #[.int .i64 0, .int .i64 0, .int .i64 0]).cells (n * 3)).toList[j]? = some (.int .i64 0) := by
      have h3 : j % 3 < 3 := Nat.mod_lt _ (by decide)
      simp [madeCells, Value.cells, hj]
      match j % 3, h3 with
      | 0, _ => rfl
      | 1, _ => rfl
      | 2, _ => rfl
    rw [h1]
    have hk : j / 3 < (List.replicate n (⟨0, 0, 0⟩ : H3)).length := by simp; omega
    obtain ⟨c0, c1, c2⟩ := cells3_get (List.replicate n ⟨0, 0, 0⟩) (j / 3) hk
    simp only [List.getElem_replicate] at c0 c1 c2
    have : j = j / 3 * 3 ∨ j = j / 3 * 3 + 1 ∨ j = j / 3 * 3 + 2 := by omega
    rcases this with e | e | e
    · rw [e, c0]
    · rw [e, c1]
    · rw [e, c2]
  · rw [List.getElem?_eq_none (by simp [size_madeCells]; omega), List.getElem?_eq_none (by rw [cells3_length]; simp; omega)]

theorem fill_set {hs : List H3} {k : Nat} (hk : k < hs.length) : (hs.take k ++ List.replicate (hs.length - k) (⟨0, 0, 0⟩ : H3)).set k hs[k] = hs.take (k + 1) ++ List.replicate (hs.length - (k + 1)) (⟨0, 0, 0⟩ : H3) := by
  have hl : (hs.take k).length = k := by simp; omega
  rw [List.set_append_right (h := by omega), hl, Nat.sub_self, List.take_succ_eq_append_getElem hk, List.append_assoc]
  obtain ⟨m, hm⟩ : ∃ m, hs.length - k = m + 1 := ⟨hs.length - k - 1, by omega⟩
  rw [hm, List.replicate_succ, List.set_cons_zero, show hs.length - (k + 1) = m by omega]
  rfl

/-- The marks: numbers from k on. -/
def marks (k : Int) : Nat → List H3
  | 0 => []
  | n + 1 => marks k n ++ [⟨k + n * 3, k + n * 3 + 1, k + n * 3 + 2⟩]
theorem marks_length (k : Int) : ∀ n, (marks k n).length = n
  | 0 => rfl
  | n + 1 => by simp [marks, marks_length k n]
theorem marks_get (k : Int) : ∀ n i (h : i < (marks k n).length), (marks k n)[i] = ⟨k + i * 3, k + i * 3 + 1, k + i * 3 + 2⟩
  | 0, i, h => by simp [marks] at h
  | n + 1, i, h => by
    by_cases hi : i < (marks k n).length
    · simp only [marks]
      rw [List.getElem_append_left hi]; exact marks_get k n i hi
    · have hl := marks_length k n
      have : i = n := by simp [marks] at h; omega
      subst this
      simp only [marks]
      rw [List.getElem_append_right (by omega)]
      simp [hl]
theorem mark_set {xs : List H3} {k : Nat} {b : Int} (hk : k < xs.length) : (marks b k ++ xs.drop k).set k ⟨b + k * 3, b + k * 3 + 1, b + k * 3 + 2⟩ = marks b (k + 1) ++ xs.drop (k + 1) := by
  have hl := marks_length b k
  rw [List.set_append_right (h := by omega), hl, Nat.sub_self, List.drop_eq_getElem_cons hk, List.set_cons_zero]
  simp [marks]
end Go.Proofs.Ytabmfaamadbefaa

set_option linter.unusedSimpArgs false
set_option linter.unusedVariables false
set_option linter.unusedSectionVars false
namespace Go.Proofs.Ytabmfaamadbefaa
open Go.ChangeShapes Go.WideShapes Go.ChangeAt Go.RowKit Go.Joins

theorem grownBy_set {w wr : World} {g i : Nat} {v : Value} (h : w.grownBy wr (some g)) : w.grownBy (wr.setCell ⟨g, i, none⟩ v) (some g) :=
  ⟨h.os, h.tape, h.output, by simpa using h.size, fun k hk hne => (heap_setCell_other _ _ _ _ (fun e => hne (by rw [e]))).trans (h.block k hk hne)⟩
theorem grownBy_ov {w wr : World} {o : Option Nat} (x : More) (h : w.grownBy wr o) : w.grownBy (ov wr x) o :=
  ⟨h.os, h.tape, h.output, Nat.le_trans h.size (by rw [ov_size]; omega), fun k hk hne => (ov_block _ x (Nat.lt_of_lt_of_le hk h.size)).trans (h.block k hk hne)⟩
theorem grownBy_of_below {w wr : World} {o : Option Nat} (h : Below w.heap.size w wr) : w.grownBy wr o := ⟨h.os, h.tape, h.output, h.size, fun k hk _ => h.block k hk⟩

end Go.Proofs.Ytabmfaamadbefaa

set_option linter.unusedSimpArgs false
set_option linter.unusedVariables false
set_option linter.unusedSectionVars false
namespace Go.Proofs.Ytabmfaamadbefaa
open Go.ChangeShapes Go.WideShapes Go.ChangeAt Go.RowKit Go.Joins

section
variable {P : Program} {ops : Array Oper} {Q : Exit → Act → World → Prop} {w0 w w' : World} {Rs : List RD} {vs : Nat → Value} {i : Nat} {a a' : Act} {o : Oper} {r : List Oper} {dst : Option Tmp}
theorem needOf_at {n : List Nat} {d : RD} (hr : Rs[i]? = some d) (hn : d.need = n) : needOf Rs i = n := by unfold needOf; rw [hr]; exact hn
/-- An operation with one value, where earlier ones met their relations. -/
theorem wpRel_purn {n : List Nat} {c : Value} {dst : Option Tmp} (hr : Rs[i]? = some (.pur n c)) (hd : o.dst = dst) (h1 : ∀ x, (∀ j ∈ n, holds w0 Rs vs j (ov w0 x)) → wpList P ops (relEnd Rs vs w0 i dst a (ov w0 x)) [o] a (ov w0 x)) (h2 : wpRel P ops Q w0 Rs vs (i + 1) r (a.put dst c)) : wpRel P ops Q w0 Rs vs i (o :: r) a := by
  subst hd
  have hv : vv Rs vs i = c := by unfold vv; rw [hr]
  subst hv
  refine ⟨fun w' ⟨x, hx⟩ hh => ?_, h2⟩
  subst hx
  rw [needOf_at hr rfl] at hh
  exact h1 x hh
theorem wpRelE_nilB0 (h : ∀ w', Below w0.heap.size w0 w' → (∀ j, holds w0 Rs vs j w') → Q .normal a w') : wpRel P ops Q w0 Rs vs i [] a :=
  fun w' ⟨x, hx⟩ hh => h w' (by subst hx; exact below_ov _ _ (Below.refl _ _) (Nat.le_refl _)) hh
/-- An operation that leaves a value of its own making, from such values. -/
theorem wpRel_own {n : List Nat} {k : Nat} {dst : Option Tmp} {G : World → Value → World → Prop} (hr : Rs[i]? = some (.rel n [k] false (IsOw G))) (hki : k = i) (hd : o.dst = dst) (h1 : ∀ x, (∀ j ∈ n, holds w0 Rs vs j (ov w0 x)) → wpList P ops (relEnd Rs vs w0 i dst a (ov w0 x)) [o] a (ov w0 x)) (h2 : wpRel P ops Q w0 Rs vs (i + 1) r (a.put dst (vs k))) : wpRel P ops Q w0 Rs vs i (o :: r) a := by
  subst hki hd
  refine wpRel_cons (fun w' hw hh => ?_) ?_
  · obtain ⟨x, rfl⟩ := hw
    rw [needOf_at hr rfl] at hh
    exact h1 x hh
  · rw [vv_rel hr]; exact h2
end
def GReg (xs : List H3) (w0 : World) (v : Value) (w : World) : Prop := ∃ A c, v = .agg #[.slice A xs.length c] ∧ RB w0.heap.size 36 w A c xs
def GTup (xs : List H3) (ok : Bool) (w0 : World) (v : Value) (w : World) : Prop := ∃ A c, v = .tuple #[.agg #[.slice A xs.length c], .bool ok] ∧ RB w0.heap.size 36 w A c xs
theorem RB.set_row {B b : Nat} {E T : TypeId} {w : World} {A : Option Addr} {c : Nat} {xs : List H3} {cur arr : Array Value} {fr : Nat × Nat} (h : RB B E w A c xs) (hb : w.heap[b]? = some (.cells cur T fr)) (hT : T ≠ E) : RB B E (w.setRow b arr) A c xs := by
  refine ⟨h.1, ?_⟩
  rcases h.2 with e | ⟨g, cap, cu, e1, hg, hh, hr⟩
  · exact .inl e
  · refine .inr ⟨g, cap, cu, e1, hg, ?_, hr⟩
    rw [setRow_other]
    · exact hh
    · rintro rfl
      rw [hh] at hb
      injection hb with hb; injection hb with _ hb; exact hT hb.symm
theorem owned_reg (xs : List H3) : Owned 25 (GReg xs) :=
  ⟨fun w0 v w x ⟨A, c, e, R⟩ => ⟨A, c, e, R.below (below_ov _ _ (Below.refl _ _) (Nat.le_refl _))⟩, fun w0 v w b cur arr hb hs ⟨A, c, e, R⟩ => ⟨A, c, e, R.set_row hb (by decide)⟩⟩
theorem owned_tup (xs : List H3) (ok : Bool) : Owned 25 (GTup xs ok) :=
  ⟨fun w0 v w x ⟨A, c, e, R⟩ => ⟨A, c, e, R.below (below_ov _ _ (Below.refl _ _) (Nat.le_refl _))⟩, fun w0 v w b cur arr hb hs ⟨A, c, e, R⟩ => ⟨A, c, e, R.set_row hb (by decide)⟩⟩
theorem reg_cells (A : Option Addr) (n c : Nat) : (Value.agg #[.slice A n c]).cells.size = 1 ∧ ∀ x ∈ (Value.agg #[.slice A n c]).cells.toList, x.oneCell' = true := ⟨rfl, by simp [Value.cells, Value.oneCell']⟩

/-- Two rows in different blocks. -/
def Apart (A A' : Option Addr) : Prop := ∀ k, A = some ⟨k, 0, none⟩ → A' ≠ some ⟨k, 0, none⟩
theorem RB.ad {B : Nat} {E : TypeId} {w : World} {A : Option Addr} {c : Nat} {xs : List H3} (h : RB B E w A c xs) : ∀ k, A = some ⟨k, 0, none⟩ → B ≤ k ∧ k < w.heap.size := fun k hk => h.lt k (by subst hk; rfl)
theorem apart_new {B B' : Nat} {E E' : TypeId} {W W' : World} {A A' : Option Addr} {c c' : Nat} {xs ys : List H3} (h : RB B E W A c xs) (h2 : RB B' E' W' A' c' ys) (hB : W.heap.size ≤ B') : Apart A A' := fun k h1 h3 => by
  have := (h.ad k h1).2
  have := (h2.ad k h3).1
  omega
theorem Apart.symm {A A' : Option Addr} (h : Apart A A') : Apart A' A := fun k h1 h2 => h k h2 h1
theorem RB.form {B : Nat} {E : TypeId} {w : World} {A : Option Addr} {c : Nat} {xs : List H3} (h : RB B E w A c xs) : A = none ∨ ∃ g, A = some ⟨g, 0, none⟩ := by
  rcases h.2 with ⟨e, _⟩ | ⟨g, cap, cur, e, _⟩
  · injection e with e; exact .inl e
  · injection e with e; exact .inr ⟨g, e⟩
theorem own_of {A : Option Addr} {n c k : Nat} (h : (Value.slice A n c).ownBlock = some k) : ∃ o s, A = some ⟨k, o, s⟩ := by
  cases A with
  | none => cases h
  | some a => obtain ⟨g, o, s⟩ := a; injection h with h; subst h; exact ⟨o, s, rfl⟩
theorem RB.grown {B B1 n c1 c2 : Nat} {E E1 : TypeId} {w w' w1 : World} {A A1 : Option Addr} {c : Nat} {xs ys : List H3} (h : RB B E w A c xs) (h1 : RB B1 E1 w1 A1 c2 ys) (hg : w.grownBy w' (Value.slice A1 n c1).ownBlock) (hne : Apart A1 A) : RB B E w' A c xs := by
  refine ⟨h.1, ?_⟩
  rcases h.2 with e | ⟨g, cap, cu, e1, hgB, hh, hr⟩
  · exact .inl e
  · refine .inr ⟨g, cap, cu, e1, hgB, ?_, hr⟩
    refine (hg.block g (Array.getElem?_eq_some_iff.1 hh).1 fun e => ?_).trans hh
    injection e1 with e1
    subst e1
    obtain ⟨o, s, e2⟩ := own_of e.symm
    rcases h1.form with e3 | ⟨g', e3⟩
    · rw [e3] at e2; cases e2
    · have e4 := e3
      rw [e2] at e3
      injection e3 with e3
      injection e3 with e5 _
      subst e5
      exact hne g e4 rfl
theorem box_below {W W' : World} {b : Nat} {o : Obj} (h : Hid (W.heap[b]? = some o)) (K : Below W.heap.size W W') : Hid (W'.heap[b]? = some o) := Lib.hid ((K.block b (Array.getElem?_eq_some_iff.1 h.out).1).trans h.out)
theorem box_grown {W W' : World} {b n c : Nat} {A : Option Addr} {o : Obj} (h : Hid (W.heap[b]? = some o)) (K : W.grownBy W' (Value.slice A n c).ownBlock) (hne : some b ≠ (Value.slice A n c).ownBlock) : Hid (W'.heap[b]? = some o) := Lib.hid ((K.block b (Array.getElem?_eq_some_iff.1 h.out).1 hne).trans h.out)
theorem grown_pre {W E W' : World} {o : Option Nat} (h : Below W.heap.size W E) (hg : E.grownBy W' o) : W.grownBy W' o :=
  ⟨hg.os.trans h.os, hg.tape.trans h.tape, hg.output.trans h.output, Nat.le_trans h.size hg.size, fun k hk hne => (hg.block k (Nat.lt_of_lt_of_le hk h.size) hne).trans (h.block k hk)⟩
end Go.Proofs.Ytabmfaamadbefaa

/- Spots in the laws: the argument opened, the copy, the comparison. No condition. -/
set_option linter.unusedVariables false
set_option linter.unusedSimpArgs false
set_option linter.unusedSectionVars false
namespace Go.Proofs.Ytabmfaamadbefaa
open Go.ChangeShapes Go.WideShapes Go.ChangeAt Go.RowKit Go.Joins

section
variable {H : Type} {enc : TypeId × Value → H} {w : World} {base : Nat} {spare : Nat → Bool} {held : Bool} {n : Nat}
end

end Go.Proofs.Ytabmfaamadbefaa

/- A region that draws its order and stores into a block made before it: wp_region_rel with a fact that holds all along. No condition. -/
set_option linter.unusedVariables false
set_option linter.unusedSimpArgs false
namespace Go.Proofs.Ytabmfaamadbefaa
open Go.RowKit

def relPostE (E : World → Prop) (K : List (Nat × Nat) × List (Nat × Nat)) (Rs : List RD) (vs : Nat → Value) (w0 : World) (i : Nat) (w : World) (v : Value) (w' : World) : Prop := match Rs[i]? with
  | some (.pur _ c) => v = c ∧ ∃ x, w' = ov w x
  | some (.rel _ js false F) => (∃ x, w' = ov w x) ∧ F w0 (js.map (vv Rs (updV vs i v))) w'
  | some (.rel _ js true F) => ((∃ x, w' = ov w0 x) ∧ E w') ∧ (∀ j, j ≠ i → (j, i) ∉ K.1 → (j, i) ∉ K.2 → holds w0 Rs vs j w → holds w0 Rs vs j w') ∧ F w0 (js.map (vv Rs (updV vs i v))) w'
  | none => False

def relEndE (E : World → Prop) (K : List (Nat × Nat) × List (Nat × Nat)) (Rs : List RD) (vs : Nat → Value) (w0 : World) (i : Nat) (dst : Option Tmp) (a : Act) (w : World) : Exit → Act → World → Prop
  | .normal, a', w' => ∃ v, a' = a.put dst v ∧ relPostE E K Rs vs w0 i w v w'
  | _, _, _ => False

/-- The walk: the operations in the order of the text; the last line is what stands behind the region. -/
def wpRelE (E : World → Prop) (K : List (Nat × Nat) × List (Nat × Nat)) (P : Program) (ops : Array Oper) (Q : Exit → Act → World → Prop) (w0 : World) (Rs : List RD) (vs : Nat → Value) : Nat → List Oper → Act → Prop
  | _, [], a => ∀ w', ((∃ x, w' = ov w0 x) ∧ E w') → (∀ j, (∀ k, (j, k) ∉ K.1) → holds w0 Rs vs j w') → Q .normal a w'
  | i, o :: r, a => (∀ w', ((∃ x, w' = ov w0 x) ∧ E w') → (∀ j ∈ needOf Rs i, holds w0 Rs vs j w') → wpList P ops (relEndE E K Rs vs w0 i o.dst a w') [o] a w') ∧ wpRelE E K P ops Q w0 Rs vs (i + 1) r (a.put o.dst (vv Rs vs i))

section
variable {E : World → Prop} {K : List (Nat × Nat) × List (Nat × Nat)} {P : Program} {ops : Array Oper} {D : List (List Nat)} {Rs : List RD} {JS : List (List Nat × List Nat)} {w0 : World} {a0 : Act}
theorem wp_transferE {o : Oper} {i : Nat} {a ai : Act} {w : World} {vs : Nat → Value} {K1 : Act → World → Prop} {Q : Exit → Act → World → Prop} (hs : a.tmps.size = ai.tmps.size) (hx : execOp a.eval o = execOp ai.eval o)
    (hw : Region.wanted o (yielded ops a.tmps) = Region.wanted o (yielded ops ai.tmps)) (hK : ∀ v w', relPostE E K Rs vs w0 i w v w' → K1 (a.put o.dst v) w') (hi : ops[i]? = some o)
    (h : wpList P ops (relEndE E K Rs vs w0 i o.dst ai w) [o] ai w) : wpOp P ops Q i K1 a w := by
  unfold wpOp
  simp only [hi]
  unfold wpList at h
  rw [hw]
  have key : ∀ (v : Value) (w' : World), wpList P ops (relEndE E K Rs vs w0 i o.dst ai w) [] (ai.put o.dst v) w' → K1 (a.put o.dst v) w' := fun v w' h => by
    obtain ⟨v', h1, h2⟩ := h
    rw [put_same hs h1]
    exact hK v' w' h2
  split
  · rename_i hwt
    rw [if_pos hwt] at h
    replace h := h.resolve_right fun h => by
      obtain ⟨_, _, _, h⟩ := h
      cases h
    refine .inl ?_
    unfold Oper.wp at *
    rw [hx]
    generalize (execOp ai.eval o).run P w = r at *
    cases r with
    | ok n w' =>
      cases n <;> simp only [Oper.upon] at h ⊢
      case value v => exact key v w' h
      case skip => exact key undef w' h
      case defer d =>
        obtain ⟨v', h1, h2⟩ := h
        have := congrArg Act.defers h1
        cases hd : o.dst <;> simp [Act.put, hd] at this
      case enter f args =>
        refine Calls.mono h fun e w'' he => ?_
        cases e with
        | returned v => exact key v w'' he
        | panicked c => cases he
        | outgrown => obtain ⟨_, _, h⟩ := he; cases h
      case row row args => exact Rows.mono h fun v w'' he => key v w'' he
    | halt x w' => cases x <;> simp only [Oper.upon] at h ⊢ <;> first | exact h | cases h
  · rename_i hwt
    rw [if_neg hwt] at h
    exact key undef w h

/-- The state in the midst of a region. -/
structure RelInvE (E : World → Prop) (K : List (Nat × Nat) × List (Nat × Nat)) (ops : Array Oper) (Rs : List RD) (w0 : World) (a0 : Act) (listed : Array Bool) (a : Act) (w : World) : Prop where
  size : listed.size = ops.size
  closed : Closed ops fun j => listed.getD j false
  over : (∃ x, w = ov w0 x) ∧ E w
  vals : ∃ vs, ActAt ops a0 (vv Rs vs) (fun j => listed.getD j false) a ∧ ∀ j, listed.getD j false = true → (∀ k, (j, k) ∈ K.1 → listed.getD k false = false) → holds w0 Rs vs j w

theorem rel_stepE (R : RelOk ops D JS) (hK : ∀ i j k, i < ops.size → j ∈ (JS.getD i ([], [])).1 → (j, k) ∈ K.1 → k = i ∨ (k < ops.size ∧ i ∈ D.getD k [])) (hL : ∀ j i, (j, i) ∈ K.2 → j < ops.size ∧ i ∈ D.getD j []) (hJ : Rs.map RD.deps = JS) (hlen : Rs.length = ops.size) (hst : ∀ r ∈ Rs, r.stable) (hE : ∀ w x, E w → E (ov w x)) {listed : Array Bool} {a : Act} {w : World} {i : Nat} {o : Oper} {Q : Exit → Act → World → Prop} (ho : ops[i]? = some o)
    (inv : RelInvE E K ops Rs w0 a0 listed a w) (hi : i ∈ Region.ready .any ops listed)
    (hop : ∀ vs, ∃ ai, ActAt ops a0 (vv Rs vs) (fun j => decide (j < i)) ai ∧ ∀ w', ((∃ x, w' = ov w0 x) ∧ E w') → (∀ j ∈ needOf Rs i, holds w0 Rs vs j w') → wpList P ops (relEndE E K Rs vs w0 i o.dst ai w') [o] ai w') :
    wpOp P ops Q i (RelInvE E K ops Rs w0 a0 (listed.setIfInBounds i true)) a w := by
  obtain ⟨vs, hact, hh⟩ := inv.vals
  obtain ⟨ai, hai, hobl⟩ := hop vs
  obtain ⟨hun, o', ho', haft⟩ := mem_ready.1 hi
  obtain rfl : o = o' := by rw [ho] at ho'; simpa using ho'
  have hil : i < ops.size := (Array.getElem?_eq_some_iff.1 ho).1
  have hunf : listed.getD i false = false := by
    have : i < listed.size := by rw [inv.size]; exact hil
    simp [Array.getD, this] at hun ⊢; exact hun
  have hin : ∀ j ∈ D.getD i [], listed.getD j false = true := clo_in R inv.closed i o ho haft
  have hout : ∀ j, j < ops.size → i ∈ D.getD j [] → listed.getD j false = false := fun j hj hm => by
    cases hb : listed.getD j false with
    | false => rfl
    | true =>
      have ho2 : ops[j]? = some ops[j] := Array.getElem?_eq_getElem hj
      have := clo_in R inv.closed j _ ho2 (inv.closed j _ ho2 hb) i hm
      rw [hunf] at this; cases this
  obtain ⟨hx, hw⟩ := exec_same R ho (looks_same R ho hact hai hunf hin hout)
  have hnj : ∀ j ∈ needOf Rs i, j ∈ (JS.getD i ([], [])).1 := fun j hj => by
    rw [← hJ, List.getD_eq_getElem?_getD, List.getElem?_map]
    unfold needOf at hj
    cases hr : Rs[i]? with
    | none => rw [hr] at hj; cases hj
    | some r => rw [hr] at hj; exact hj
  have hneed : ∀ j ∈ needOf Rs i, holds w0 Rs vs j w := fun j hj => hh j (hin j (R.need i hil j (hnj j hj))) fun k hk => by
    rcases hK i j k hil (hnj j hj) hk with h | ⟨h1, h2⟩
    · subst h; exact hunf
    · exact hout k h1 h2
  refine wp_transferE (by rw [hact.size, hai.size]) hx hw (fun v w' hpost => ?_) ho (hobl w inv.over hneed)
  have hd : o.dst = dstAt ops i := by unfold dstAt; rw [ho]; rfl
  have hset : ∀ j, (listed.setIfInBounds i true).getD j false = (listed.getD j false || j == i) := fun j => by
    by_cases hj : j = i
    · subst hj
      have hl : j < listed.size := by rw [inv.size]; exact hil
      simp [Array.getD_eq_getD_getElem?, Array.getElem?_setIfInBounds_self, hl]
    · simp [Array.getD_eq_getD_getElem?, Array.getElem?_setIfInBounds_ne (Ne.symm hj), hj]
  have hri : ∃ r, Rs[i]? = some r := ⟨Rs[i]'(by omega), List.getElem?_eq_getElem _⟩
  obtain ⟨r, hr⟩ := hri
  have hcl : Closed ops fun j => (listed.setIfInBounds i true).getD j false := fun k ok hk hS e he hb => by
    show (listed.setIfInBounds i true).getD e.on false = true
    replace hS : (listed.setIfInBounds i true).getD k false = true := hS
    rw [hset] at hS ⊢
    simp only [Bool.or_eq_true, beq_iff_eq] at hS ⊢
    rcases hS with hS | rfl
    · exact .inl (inv.closed k ok hk hS e he hb)
    · obtain rfl : o = ok := by rw [ho] at hk; simpa using hk
      exact .inl (haft e he hb)
  -- the value, the new relation, what stays
  have fin : ∀ vs', (∀ j, j ≠ i → vv Rs vs' j = vv Rs vs j) → vv Rs vs' i = v → holds w0 Rs vs' i w' → (∀ j, j ≠ i → listed.getD j false = true → (j, i) ∉ K.1 → (∀ k, (j, k) ∈ K.1 → listed.getD k false = false) → holds w0 Rs vs j w') → ((∃ x, w' = ov w0 x) ∧ E w') → RelInvE E K ops Rs w0 a0 (listed.setIfInBounds i true) (a.put o.dst v) w' := by
    intro vs' hne hvi hhi hrest hov
    refine ⟨by simp [inv.size], hcl, hov, vs', ?_, fun j hj hkj => ?_⟩
    · rw [hd]
      refine (ActAt.put R hact (V' := vv Rs vs') (fun j hj => hne j fun e => by subst e; rw [hunf] at hj; cases hj) hunf hvi).congrS (fun j _ => (hset j).symm) fun _ _ => rfl
    · rw [hset] at hj
      by_cases hji : j = i
      · subst hji; exact hhi
      · have hjl : listed.getD j false = true := by simpa [hji] using hj
        have hki : (j, i) ∉ K.1 := fun h => by have := hkj i h; rw [hset] at this; simp at this
        have hkl : ∀ k, (j, k) ∈ K.1 → listed.getD k false = false := fun k hk => by have := hkj k hk; rw [hset] at this; rw [Bool.or_eq_false_iff] at this; exact this.1
        refine holds_congr (fun k hk => ?_) (hrest j hji hjl hki hkl)
        rw [hJ] at hk
        have hjs : j < ops.size := by
          rw [← inv.size]
          rcases Nat.lt_or_ge j listed.size with h | h
          · exact h
          · rw [show listed.getD j false = false by simp [Array.getD_eq_getD_getElem?, Array.getElem?_eq_none h]] at hjl; cases hjl
        refine (hne k fun e => ?_).symm
        subst e
        rcases R.js j hjs k hk with h | h
        · exact hji h.symm
        · have := hout j hjs h
          rw [hjl] at this; cases this
  unfold relPostE at hpost
  rw [hr] at hpost
  obtain ⟨⟨x0, rfl⟩, hE0⟩ := inv.over
  cases r with
  | pur n c =>
    obtain ⟨rfl, x, rfl⟩ := hpost
    exact fin vs (fun _ _ => rfl) (by unfold vv; rw [hr]) (by unfold holds; rw [hr]; trivial) (fun j _ hj _ hkl => holds_ov hst (hh j hj hkl)) ⟨⟨_, ov_ov _ _ _⟩, hE _ _ hE0⟩
  | rel n js b F =>
    have hvi : vv Rs (updV vs i v) i = v := by unfold vv updV; rw [hr, if_pos rfl]
    cases b with
    | false =>
      obtain ⟨⟨x, rfl⟩, hF⟩ := hpost
      exact fin (updV vs i v) (fun j hj => vv_upd hj) hvi (by unfold holds; rw [hr]; exact hF) (fun j _ hj _ hkl => holds_ov hst (hh j hj hkl)) ⟨⟨_, ov_ov _ _ _⟩, hE _ _ hE0⟩
    | true =>
      obtain ⟨hov, hk, hF⟩ := hpost
      exact fin (updV vs i v) (fun j hj => vv_upd hj) hvi (by unfold holds; rw [hr]; exact hF) (fun j hj hl hki hkl => hk j hj hki (fun hlt => by
        obtain ⟨h1, h2⟩ := hL j i hlt
        have ho2 : ops[j]? = some ops[j] := Array.getElem?_eq_getElem h1
        have := clo_in R inv.closed j _ ho2 (inv.closed j _ ho2 hl) i h2
        rw [hunf] at this; cases this) (hh j hl hkl)) hov

theorem wpRelE_at (R : RelOk ops D JS) {Q : Exit → Act → World → Prop} {vs : Nat → Value} : ∀ (l : List Oper) (k : Nat) (a : Act), (∀ j, l[j]? = ops[k + j]?) → ActAt ops a0 (vv Rs vs) (fun j => decide (j < k)) a → wpRelE E K P ops Q w0 Rs vs k l a →
    (∀ i o, k ≤ i → ops[i]? = some o → ∃ ai, ActAt ops a0 (vv Rs vs) (fun j => decide (j < i)) ai ∧ ∀ w', ((∃ x, w' = ov w0 x) ∧ E w') → (∀ j ∈ needOf Rs i, holds w0 Rs vs j w') → wpList P ops (relEndE E K Rs vs w0 i o.dst ai w') [o] ai w') ∧
    ∃ an, ActAt ops a0 (vv Rs vs) (fun j => decide (j < ops.size)) an ∧ ∀ w', ((∃ x, w' = ov w0 x) ∧ E w') → (∀ j, (∀ k, (j, k) ∉ K.1) → holds w0 Rs vs j w') → Q .normal an w'
  | [], k, a, hl, ha, h => by
    have hk : ops.size ≤ k := by
      have := hl 0
      simp at this
      exact this
    refine ⟨fun i o hi ho => ?_, a, ha.congrS (fun j hj => by simp; omega) (fun _ _ => rfl), h⟩
    have := (Array.getElem?_eq_some_iff.1 ho).1; omega
  | o :: l, k, a, hl, ha, h => by
    have h0 : ops[k]? = some o := by simpa using (hl 0).symm
    obtain ⟨h1, h2⟩ := h
    have hd : o.dst = dstAt ops k := by unfold dstAt; rw [h0]; rfl
    have ha' : ActAt ops a0 (vv Rs vs) (fun j => decide (j < k + 1)) (a.put o.dst (vv Rs vs k)) := by
      rw [hd]
      refine (ActAt.put R ha (V' := vv Rs vs) (fun _ _ => rfl) (by simp) rfl).congrS (fun j _ => ?_) (fun _ _ => rfl)
      rw [Bool.eq_iff_iff]; simp; omega
    obtain ⟨r1, r2⟩ := wpRelE_at R l (k + 1) _ (fun j => by have := hl (j + 1); simpa [Nat.add_assoc, Nat.add_comm 1 j] using this) ha' h2
    refine ⟨fun i o' hi ho => ?_, r2⟩
    by_cases e : i = k
    · subst e
      obtain rfl : o = o' := by rw [h0] at ho; simpa using ho
      exact ⟨a, ha, h1⟩
    · exact r1 i o' (by omega) ho

theorem rel_anyE (R : RelOk ops D JS) (hK : ∀ i j k, i < ops.size → j ∈ (JS.getD i ([], [])).1 → (j, k) ∈ K.1 → k = i ∨ (k < ops.size ∧ i ∈ D.getD k [])) (hL : ∀ j i, (j, i) ∈ K.2 → j < ops.size ∧ i ∈ D.getD j []) (hJ : Rs.map RD.deps = JS) (hlen : Rs.length = ops.size) (hst : ∀ r ∈ Rs, r.stable) (hE : ∀ w x, E w → E (ov w x)) {Q : Exit → Act → World → Prop}
    (hop : ∀ i o, ops[i]? = some o → ∀ vs, ∃ ai, ActAt ops a0 (vv Rs vs) (fun j => decide (j < i)) ai ∧ ∀ w', ((∃ x, w' = ov w0 x) ∧ E w') → (∀ j ∈ needOf Rs i, holds w0 Rs vs j w') → wpList P ops (relEndE E K Rs vs w0 i o.dst ai w') [o] ai w')
    (hend : ∀ vs, ∃ an, ActAt ops a0 (vv Rs vs) (fun j => decide (j < ops.size)) an ∧ ∀ w', ((∃ x, w' = ov w0 x) ∧ E w') → (∀ j, (∀ k, (j, k) ∉ K.1) → holds w0 Rs vs j w') → Q .normal an w') :
    ∀ (fuel : Nat) (listed : Array Bool) (a : Act) (w : World), listed.toList.count false = fuel → RelInvE E K ops Rs w0 a0 listed a w → wpAny P .any ops Q fuel listed a w := by
  have done : ∀ (listed : Array Bool) (a : Act) (w : World), RelInvE E K ops Rs w0 a0 listed a w → Region.ready .any ops listed = [] → Q .normal a w := by
    intro listed a w inv hr
    have hall : ∀ k, k < ops.size → listed.getD k false = true := fun k hk => by
      cases hb : listed.getD k true with
      | false => obtain ⟨i, hi⟩ := some_ready R inv.size hb; rw [hr] at hi; cases hi
      | true =>
        have hl : k < listed.size := by rw [inv.size]; exact hk
        simp [Array.getD, hl] at hb ⊢; exact hb
    obtain ⟨vs, hact, hh⟩ := inv.vals
    obtain ⟨an, han, hQ⟩ := hend vs
    have e : a = an := ActAt.unique (hact.congrS (S' := fun j => decide (j < ops.size)) (fun j hj => by rw [hall j hj]; simp [hj]) fun _ _ => rfl) han
    subst e
    refine hQ w inv.over fun j hkb => ?_
    by_cases hj : j < ops.size
    · exact hh j (hall j hj) fun k hk => absurd hk (hkb k)
    · unfold holds; rw [List.getElem?_eq_none (by omega)]; trivial
  intro fuel
  induction fuel with
  | zero =>
    intro listed a w hc inv
    have hr : Region.ready .any ops listed = [] := by
      cases hrr : Region.ready .any ops listed with
      | nil => rfl
      | cons i r =>
        have hi : i ∈ Region.ready .any ops listed := by rw [hrr]; simp
        obtain ⟨hun, _⟩ := mem_ready.1 hi
        have hl : i < listed.size := by
          rcases Nat.lt_or_ge i listed.size with h | h
          · exact h
          · rw [show listed.getD i true = true by simp [Array.getD_eq_getD_getElem?, Array.getElem?_eq_none h]] at hun; cases hun
        have hm : false ∈ listed.toList := by
          simp [Array.getD, hl] at hun
          rw [← hun]; simp
        have := List.count_pos_iff.2 hm
        omega
    exact ⟨hr, done listed a w inv hr⟩
  | succ fuel ih =>
    intro listed a w hc inv
    refine ⟨fun hr => done listed a w inv hr, fun i hi => ?_⟩
    obtain ⟨hun, o, ho, _⟩ := mem_ready.1 hi
    have hl : i < listed.size := by rw [inv.size]; exact (Array.getElem?_eq_some_iff.1 ho).1
    refine wpOp_mono (fun a' w' inv' => ih _ a' w' ?_ inv') (rel_stepE R hK hL hJ hlen hst hE ho inv hi (hop i o ho))
    have hl' : i < listed.toList.length := by simpa using hl
    have hv : listed.toList[i] = false := by simp [Array.getD, hl] at hun; simpa using hun
    have hcs := List.count_set (a := true) (b := false) hl'
    rw [hv] at hcs
    rw [Array.toList_setIfInBounds, hcs, hc]
    simp
end
/-- A region that draws its order: a relation an operation. -/
def killB (n : Nat) (D : List (List Nat)) (JS : List (List Nat × List Nat)) (K : List (Nat × Nat)) : Bool := K.all fun p => decide (p.2 < n) && (List.range n).all fun i => !((JS.getD i ([], [])).1.contains p.1) || p.2 == i || (D.getD p.2 []).contains i
theorem killB_ok {n : Nat} {D : List (List Nat)} {JS : List (List Nat × List Nat)} {K : List (Nat × Nat)} (h : killB n D JS K = true) : ∀ i j k, i < n → j ∈ (JS.getD i ([], [])).1 → (j, k) ∈ K → k = i ∨ (k < n ∧ i ∈ D.getD k []) := by
  intro i j k hi hj hk
  have h1 := List.all_eq_true.1 h _ hk
  rw [Bool.and_eq_true, decide_eq_true_eq] at h1
  have h2 := List.all_eq_true.1 h1.2 i (List.mem_range.2 hi)
  simp only [Bool.or_eq_true, Bool.not_eq_true', beq_iff_eq, List.contains_iff_mem] at h2
  rcases h2 with (h2 | h2) | h2
  · have := List.contains_iff_mem.2 hj; rw [h2] at this; cases this
  · exact .inl h2
  · exact .inr ⟨h1.1, h2⟩
def laterB (n : Nat) (D : List (List Nat)) (K : List (Nat × Nat)) : Bool := K.all fun p => decide (p.1 < n) && (D.getD p.1 []).contains p.2
theorem laterB_ok {n : Nat} {D : List (List Nat)} {K : List (Nat × Nat)} (h : laterB n D K = true) : ∀ j i, (j, i) ∈ K → j < n ∧ i ∈ D.getD j [] := by
  intro j i hk
  have h1 := List.all_eq_true.1 h _ hk
  rw [Bool.and_eq_true, decide_eq_true_eq] at h1
  exact ⟨h1.1, List.contains_iff_mem.1 h1.2⟩
theorem wp_region_relE (E : World → Prop) (K : List (Nat × Nat) × List (Nat × Nat)) {P : Program} {id : Nat} {Q : Exit → Act → World → Prop} {a : Act} {w w1 : World} {l : List Oper} (Rs : List RD) (JS : List (List Nat × List Nat)) (hJ : Rs.map RD.deps = JS) (hlen : Rs.length = l.length) (hm : P.follows .mixedOrders = true)
    (hB : relB l.toArray (clo l.toArray l.toArray.size) JS = true) (hKB : killB l.toArray.size (clo l.toArray l.toArray.size) JS K.1 = true) (hLB : laterB l.toArray.size (clo l.toArray l.toArray.size) K.2 = true) (hst : ∀ r ∈ Rs, r.stable) (hE : ∀ w x, E w → E (ov w x)) (hw : ∃ x, w1 = ov w x) (hE1 : E w1) (h : ∀ vs, wpRelE E K P l.toArray Q w Rs vs 0 l a) : (Code.region id l.toArray true).wp P Q a w1 := by
  have R := relB_ok hB
  have over1 : (∃ x, ({ w1 with drawn := w1.drawn + 1 } : World) = ov w x) ∧ E { w1 with drawn := w1.drawn + 1 } := by
    obtain ⟨x, rfl⟩ := hw
    refine ⟨⟨⟨x.objs, x.count + 1⟩, rfl⟩, ?_⟩
    have := hE _ (⟨#[], x.count + 1⟩ : More) hE1
    rwa [show ov (ov w x) (⟨#[], x.count + 1⟩ : More) = { ov w x with drawn := (ov w x).drawn + 1 } by simp [ov]] at this
  refine wp_region_any hm ?_
  have st : ∀ (V : Nat → Value) (S : Nat → Bool), (∀ j, S j = false) → ActAt l.toArray a V S a := fun V S hS => (ActAt.start (V := V)).congrS (V' := V) (fun j _ => (hS j).symm) fun _ _ => rfl
  have hat := fun vs => wpRelE_at (E := E) (K := K) (w0 := w) (Rs := Rs) (a0 := a) R l 0 a (fun j => by simp) (st _ _ (fun j => by simp)) (h vs)
  refine rel_anyE (E := E) (K := K) R (killB_ok hKB) (laterB_ok hLB) hJ (by simpa using hlen) hst hE (fun i o ho vs => (hat vs).1 i o (Nat.zero_le _) ho) (fun vs => (hat vs).2) _ _ _ _ (by simp) ⟨by simp, fun i o _ hS => ?_, over1, fun _ => undef, ?_, fun j hj _ => ?_⟩
  · exact absurd hS (by show ¬ (Array.replicate l.toArray.size false).getD i false = true; rw [getD_rep_false]; simp)
  · exact st _ _ fun j => getD_rep_false _ _
  · rw [getD_rep_false] at hj; cases hj


section
variable {E : World → Prop} {K : List (Nat × Nat) × List (Nat × Nat)} {P : Program} {ops : Array Oper} {Q : Exit → Act → World → Prop} {w0 w w' : World} {Rs : List RD} {vs : Nat → Value} {i : Nat} {a a' : Act} {o : Oper} {r : List Oper} {dst : Option Tmp}
theorem wpRelE_cons (h1 : ∀ w', ((∃ x, w' = ov w0 x) ∧ E w') → (∀ j ∈ needOf Rs i, holds w0 Rs vs j w') → wpList P ops (relEndE E K Rs vs w0 i o.dst a w') [o] a w') (h2 : wpRelE E K P ops Q w0 Rs vs (i + 1) r (a.put o.dst (vv Rs vs i))) : wpRelE E K P ops Q w0 Rs vs i (o :: r) a := ⟨h1, h2⟩
/-- An operation with one value. -/
theorem wpRelE_pur {n : List Nat} {c : Value} {dst : Option Tmp} (hr : Rs[i]? = some (.pur n c)) (hd : o.dst = dst) (h1 : ∀ x, (∀ j ∈ n, holds w0 Rs vs j (ov w0 x)) → wpList P ops (relEndE E K Rs vs w0 i dst a (ov w0 x)) [o] a (ov w0 x)) (h2 : wpRelE E K P ops Q w0 Rs vs (i + 1) r (a.put dst c)) : wpRelE E K P ops Q w0 Rs vs i (o :: r) a := by
  subst hd
  have hv : vv Rs vs i = c := by unfold vv; rw [hr]
  subst hv
  refine ⟨fun w' ⟨⟨x, hx⟩, _⟩ hh => ?_, h2⟩
  subst hx
  rw [needOf_at hr rfl] at hh
  exact h1 x hh
/-- An operation that leaves a value of its own making. -/
theorem wpRelE_own {n : List Nat} {k : Nat} {dst : Option Tmp} {G : World → Value → World → Prop} (hr : Rs[i]? = some (.rel n [k] false (IsOw G))) (hki : k = i) (hd : o.dst = dst) (h1 : ∀ x, (∀ j ∈ n, holds w0 Rs vs j (ov w0 x)) → wpList P ops (relEndE E K Rs vs w0 i dst a (ov w0 x)) [o] a (ov w0 x)) (h2 : wpRelE E K P ops Q w0 Rs vs (i + 1) r (a.put dst (vs k))) : wpRelE E K P ops Q w0 Rs vs i (o :: r) a := by
  subst hki hd
  refine wpRelE_cons (fun w' ⟨hw, _⟩ hh => ?_) ?_
  · obtain ⟨x, rfl⟩ := hw
    rw [needOf_at hr rfl] at hh
    exact h1 x hh
  · rw [vv_rel hr]; exact h2
theorem wpRelE_nil (h : ∀ w', Below w0.heap.size w0 w' → E w' → (∀ j, (∀ k, (j, k) ∉ K.1) → holds w0 Rs vs j w') → Q .normal a w') : wpRelE E K P ops Q w0 Rs vs i [] a :=
  fun w' ⟨⟨x, hx⟩, he⟩ hh => h w' (by subst hx; exact below_ov _ _ (Below.refl _ _) (Nat.le_refl _)) he hh
theorem relEndE_pur {n : List Nat} {c : Value} (hr : Rs[i]? = some (.pur n c)) (ha : a' = a.put dst c) (hb : Below w.heap.size w w') : relEndE E K Rs vs w0 i dst a w .normal a' w' :=
  ⟨c, ha, by unfold relPostE; rw [hr]; exact ⟨rfl, ov_of_below hb⟩⟩
theorem relEndE_own {k : Nat} {n : List Nat} {v : Value} {G : World → Value → World → Prop} (hr : Rs[i]? = some (.rel n [k] false (IsOw G))) (hki : k = i) (ha : a' = a.put dst v) (hb : Below w.heap.size w w') (hG : G w0 v w') : relEndE E K Rs vs w0 i dst a w .normal a' w' := by
  subst hki
  refine ⟨v, ha, ?_⟩
  unfold relPostE
  rw [hr]
  refine ⟨ov_of_below hb, v, ?_, hG⟩
  simp [vv, hr, updV]
/-- An old block of the region, that a store fills. -/
def IsOld (b : Nat) (T : TypeId) (n : Nat) (w : World) : Prop := ∃ cur : Array Value, cur.size = n ∧ w.heap[b]? = some (.cells cur T (0, 0))
theorem isOld_ov {b n : Nat} {T : TypeId} : ∀ (w : World) (x : More), IsOld b T n w → IsOld b T n (ov w x) := fun w x ⟨cur, h1, h2⟩ => ⟨cur, h1, ov_blk h2⟩
def IsStB (b : Nat) (T : TypeId) (w0 : World) (l : List Value) (w : World) : Prop := ∃ u, l = [u] ∧ w.heap[b]? = some (.cells u.cells T (0, 0))
theorem isStB_stable {nd js : List Nat} {wd : Bool} {T : TypeId} {b : Nat} : RD.stable (.rel nd js wd (IsStB b T)) := by
  rintro w0 l w x ⟨u, h1, h2⟩
  exact ⟨u, h1, ov_blk h2⟩
theorem wpRelE_old {T : TypeId} {j n b : Nat} {s : Tmp} {y : Operand} {u : Value} (hr : Rs[i]? = some (.rel [j] [j] true (IsStB b T)))
    (hop : o.op = .store T (.tmp s) y) (hg : o.guard = none) (hd : o.dst = none) (hji : j ≠ i) (es : a.eval (.tmp s) = .pointer (some ⟨b, 0, none⟩)) (hb : w0.heap.size ≤ b) (hu : vv Rs vs j = u) (et : a.eval y = u) (hn : (P.info? T).map (·.size) = some n)
    (hval : ∀ w, holds w0 Rs vs j w → u.cells.size = n ∧ ∀ x ∈ u.cells.toList, x.oneCell' = true) (hst : ∀ r ∈ Rs.eraseIdx i, r.steady T)
    (h2 : wpRelE (IsOld b T n) K P ops Q w0 Rs vs (i + 1) r a) : wpRelE (IsOld b T n) K P ops Q w0 Rs vs i (o :: r) a := by
  refine wpRelE_cons (fun w' ⟨hw, cur, hcs, hblk⟩ hh => ?_) (by rw [hd]; exact h2)
  obtain ⟨x, rfl⟩ := hw
  rw [needOf_at hr rfl] at hh
  have h3 := hval _ (hh j List.mem_cons_self)
  refine wpList_store_blk hg T T (.tmp s) y hop es hblk (by rw [hcs]; exact hn) (by rw [et, h3.1, hcs]) (by rw [et]; exact h3.2) ?_
  refine ⟨undef, rfl, ?_⟩
  unfold relPostE
  rw [hr]
  refine ⟨⟨setRow_ov hb _, ⟨_, by rw [et]; exact h3.1, setRow_heap _ _ _ _ _ _ hblk⟩⟩, fun m hm _ _ hmm => ?_, ?_⟩
  · unfold holds at hmm ⊢
    cases hq : Rs[m]? with
    | none => trivial
    | some rm =>
      rw [hq] at hmm
      have := hst rm (List.mem_eraseIdx_iff_getElem?.2 ⟨m, hm, hq⟩)
      cases rm with
      | pur _ _ => trivial
      | rel _ _ _ F => exact this _ _ _ b cur _ hblk (by rw [et, h3.1, hcs]) hmm
  · refine ⟨u, ?_, ?_⟩
    · simp only [List.map_cons, List.map_nil]
      rw [vv_upd hji, hu]
    · rw [et]; exact setRow_heap _ _ _ _ _ _ hblk
theorem isStB_own {T : TypeId} {m j b : Nat} {nj nm jj : List Nat} {wm wj : Bool} {F' : World → List Value → World → Prop} (h : holds w0 Rs vs m w) (hr : Rs[m]? = some (.rel nm [j] wm (IsStB b T))) (hj : Rs[j]? = some (.rel nj jj wj F')) :
    w.heap[b]? = some (.cells (vs j).cells T (0, 0)) := by
  unfold holds at h
  rw [hr] at h
  obtain ⟨u', e, h1⟩ := h
  simp only [List.map_cons, List.map_nil, vv_rel hj, List.cons.injEq, and_true] at e
  subst e
  exact h1
end
end Go.Proofs.Ytabmfaamadbefaa

/- Appends to rows of half planes within a region that draws its order. No condition. -/
set_option linter.unusedVariables false
set_option linter.unusedSimpArgs false
namespace Go.Proofs.Ytabmfaamadbefaa
open Go.RowKit

def GRow (xs : List H3) (w0 : World) (v : Value) (w : World) : Prop := ∃ A c, v = .slice A xs.length c ∧ RB w0.heap.size 36 w A c xs
def GRow0 (w0 : World) (v : Value) (w : World) : Prop := ∃ b, v = .slice (some ⟨b, 0, none⟩) 0 0 ∧ RB w0.heap.size 36 w (some ⟨b, 0, none⟩) 0 []
theorem owned_row (xs : List H3) : Owned 25 (GRow xs) :=
  ⟨fun w0 v w x ⟨A, c, e, R⟩ => ⟨A, c, e, R.below (below_ov _ _ (Below.refl _ _) (Nat.le_refl _))⟩, fun w0 v w b cur arr hb hs ⟨A, c, e, R⟩ => ⟨A, c, e, R.set_row hb (by decide)⟩⟩
theorem owned_row0 : Owned 25 GRow0 :=
  ⟨fun w0 v w x ⟨b, e, R⟩ => ⟨b, e, R.below (below_ov _ _ (Below.refl _ _) (Nat.le_refl _))⟩, fun w0 v w b cur arr hb hs ⟨b', e, R⟩ => ⟨b', e, R.set_row hb (by decide)⟩⟩

/-- append(s, x...) on rows of half planes, with what may have turned. -/
theorem wpList_append_rowsG {ops : Array Oper} {rest : List Oper} {o : Oper} {a : Act} {Q : Exit → Act → World → Prop} {w : World} (hgd : o.guard = none) (s x : Operand)
    (ho : o.op = .call { callee := .builtin .append, args := #[s, x], argTypes := #[23, 23] }) (B : Nat) {A A2 : Option Addr} {c c2 : Nat} {os xs ys : List H3} (hy : os ++ xs = ys)
    (hs : a.eval s = .slice A os.length c) (hown : RB B 36 w A c os) (hx : a.eval x = .slice A2 xs.length c2) (src : R3 36 w A2 c2 xs) (hl : os.length + xs.length ≤ 5000) (hB : B ≤ w.heap.size)
    (h : ∀ A' c' w', RB B 36 w' A' c' ys → w.grownBy w' (Value.slice A os.length c).ownBlock → wpList Try.prog ops Q rest (a.put o.dst (.slice A' ys.length c')) w') : wpList Try.prog ops Q (o :: rest) a w := by
  subst hy
  obtain ⟨i0, hi, hz0, hz1, hz2⟩ := info_parts info_half
  rcases src.2 with ⟨e, e0⟩ | ⟨g, cap, cur, e, _⟩
  · injection e with e1 e2 e3
    subst e1 e3
    have hx0 : xs = [] := List.length_eq_zero_iff.1 e2
    subst hx0
    refine wpList_append_own_none (P := Try.prog) hgd s x 23 ho B 36 i0 3 Try.underlying23 hi _ _ _ hs hown hx ?_
    have := h A c w (by rw [List.append_nil]; exact hown) ⟨rfl, rfl, rfl, Nat.le_refl _, fun _ _ _ => rfl⟩
    rwa [List.append_nil] at this
  · injection e with e1 e2 e3
    subst e1 e3
    refine wpList_append_own (P := Try.prog) w hgd s x 23 ho B 36 i0 (.agg #[.int .i64 0, .int .i64 0, .int .i64 0]) 3 24 Try.underlying23 hi hz0 hz1 hz2 rfl (by decide) _ _ _ hs hown ⟨g, 0, none⟩ xs.length c2 (cells3 xs) hx (cells3_length _) (news_row src) (cells3_one _) (by unfold maxLen; omega) (by omega) hB ?_
    intro v' w' O hg _
    have O' : w'.ownsRow B 36 3 v' (os ++ xs).length (cells3 (os ++ xs)) := by rw [cells3_append, List.length_append]; exact O
    obtain ⟨A', c', rfl, R⟩ := own_slice O'
    exact h A' c' w' R hg
/-- append onto an empty slice without capacity: always a new row. -/
theorem wpList_append_fresh {ops : Array Oper} {rest : List Oper} {o : Oper} {a : Act} {Q : Exit → Act → World → Prop} {w : World} (hgd : o.guard = none) (s x : Operand)
    (ho : o.op = .call { callee := .builtin .append, args := #[s, x], argTypes := #[23, 23] }) {b : Nat} {A2 : Option Addr} {c2 : Nat} {xs : List H3}
    (hs : a.eval s = .slice (some ⟨b, 0, none⟩) 0 0) (hx : a.eval x = .slice A2 xs.length c2) (src : R3 36 w A2 c2 xs) (hl : 0 < xs.length ∧ xs.length ≤ 5000)
    (h : ∀ A' c' w', RB w.heap.size 36 w' A' c' xs → Below w.heap.size w w' → wpList Try.prog ops Q rest (a.put o.dst (.slice A' xs.length c')) w') : wpList Try.prog ops Q (o :: rest) a w := by
  obtain ⟨i0, hi, hz0, hz1, hz2⟩ := info_parts info_half
  obtain ⟨g, rfl, _⟩ := src.at_ hl.1
  have hl1 := hl.1
  have hl2 := hl.2
  refine wpList_append_grows w hgd s x 23 ho 36 i0 (.agg #[.int .i64 0, .int .i64 0, .int .i64 0]) 3 24 Try.underlying23 hi hz0 hz1 hz2 rfl (by decide) (some ⟨b, 0, none⟩) 0 0 [] hs (fun e => by cases e) rfl (fun _ _ j u hj => by simp at hj) ⟨g, 0, none⟩ xs.length c2 (cells3 xs) hx (cells3_length _) (news_row src) (cells3_one _) (by omega) (by unfold maxLen; omega) (by omega) ?_
  intro v' w' O hg
  simp only [Nat.zero_add, List.nil_append] at O
  obtain ⟨A', c', rfl, R⟩ := own_slice O
  exact h A' c' w' R ⟨hg.os, hg.tape, hg.output, hg.size, fun k hk => hg.block k hk (by simp)⟩

section
variable {b n : Nat} {T : TypeId} {E : World → Prop} {K : List (Nat × Nat) × List (Nat × Nat)} {P : Program} {ops : Array Oper} {Q : Exit → Act → World → Prop} {w0 w w' : World} {Rs : List RD} {vs : Nat → Value} {i : Nat} {a a' : Act} {o : Oper} {r : List Oper} {dst : Option Tmp}
/-- An append that may write into the row that it lengthens. -/
theorem wpRelE_app {nd : List Nat} {k : Nat} {dst : Option Tmp} {G : World → Value → World → Prop} (hr : Rs[i]? = some (.rel nd [k] true (IsOw G))) (hki : k = i) (hd : o.dst = dst) (h1 : ∀ x, E (ov w0 x) → (∀ j ∈ nd, holds w0 Rs vs j (ov w0 x)) → wpList P ops (relEndE E K Rs vs w0 i dst a (ov w0 x)) [o] a (ov w0 x)) (h2 : wpRelE E K P ops Q w0 Rs vs (i + 1) r (a.put dst (vs k))) : wpRelE E K P ops Q w0 Rs vs i (o :: r) a := by
  subst hki hd
  refine wpRelE_cons (fun w' ⟨hw, he⟩ hh => ?_) ?_
  · obtain ⟨x, rfl⟩ := hw
    rw [needOf_at hr rfl] at hh
    exact h1 x he hh
  · rw [vv_rel hr]; exact h2
def restPure (Rs : List RD) (K : List (Nat × Nat) × List (Nat × Nat)) (i : Nat) : Bool := (List.range Rs.length).all fun j => j == i || K.1.contains (j, i) || K.2.contains (j, i) || (match Rs[j]? with
  | some (.rel _ _ _ _) => false
  | _ => true)
theorem restPure_ok (h : restPure Rs K i = true) {j : Nat} (hj : j ≠ i) (h1 : (j, i) ∉ K.1) (h2 : (j, i) ∉ K.2) (v : World) : holds w0 Rs vs j v := by
  unfold holds
  cases hq : Rs[j]? with
  | none => trivial
  | some rm =>
    have hl : j < Rs.length := (List.getElem?_eq_some_iff.1 hq).1
    have := List.all_eq_true.1 h j (List.mem_range.2 hl)
    rw [hq] at this
    cases rm with
    | pur _ _ => trivial
    | rel _ _ _ _ =>
      simp only [Bool.or_eq_true, beq_iff_eq, List.contains_iff_mem, Bool.false_eq_true, or_false] at this
      rcases this with (h | h) | h
      · exact absurd h hj
      · exact absurd h h1
      · exact absurd h h2
theorem relEndE_app {k : Nat} {nd : List Nat} {v : Value} {G : World → Value → World → Prop} {A : Option Addr} {c : Nat} {os : List H3} (hr : Rs[i]? = some (.rel nd [k] true (IsOw G))) (hki : k = i) (ha : a' = a.put dst v) (hw : Below w0.heap.size w0 w) (hE : IsOld b T n w) (hT : T ≠ 36)
    (hown : RB w0.heap.size 36 w A c os) (hg : w.grownBy w' (Value.slice A os.length c).ownBlock) (hG : G w0 v w') (hp : restPure Rs K i = true) : relEndE (IsOld b T n) K Rs vs w0 i dst a w .normal a' w' := by
  subst hki
  refine ⟨v, ha, ?_⟩
  unfold relPostE
  rw [hr]
  refine ⟨⟨ov_of_below (grown_below hw hg (fun k hk => (hown.lt k hk).1) (Nat.le_refl _)), ?_⟩, fun j hj h1 h2 _ => restPure_ok hp hj h1 h2 w', v, ?_, hG⟩
  · obtain ⟨cur, h1, h2⟩ := hE
    exact ⟨cur, h1, (hg.block b (Array.getElem?_eq_some_iff.1 h2).1 (hown.ne_box h2 hT)).trans h2⟩
  · simp [vv, hr, updV]
end
end Go.Proofs.Ytabmfaamadbefaa

/- Contracts of slices.Clone and of CutRegion, of the program and of the reference. No condition but that lengths are ints. -/
set_option linter.unusedSimpArgs false
set_option linter.unusedVariables false
set_option linter.unusedSectionVars false
namespace Go.Proofs.Ytabmfaamadbefaa
open Go.RowKit

set_option maxRecDepth 100000 in
theorem Clone_any {xs : List H3} {A : Option Addr} {c : Nat} {w : World} (R : R3 36 w A c xs) (hl : 0 < xs.length ∧ xs.length ≤ 5000) :
    Calls Try.prog 43 #[.slice A xs.length c] w (InsPost w.heap.size w xs) := by
  obtain ⟨g, rfl, _⟩ := R.at_ hl.1
  have hn : (binOp .eql 23 (.slice (some ⟨g, 0, none⟩) xs.length c) (.slice none 0 0)).run Try.prog w = .ok (.bool (some (⟨g, 0, none⟩ : Addr)).isNone) w := Lib.run_eql_slice_nil w _ _ _ _ _ _ _ Try.underlying23
  go_enter Try.func43, Try.ntmps43
  go_wp2_with (at_builtin; refine wpList_append_fresh rfl _ _ rfl rfl rfl (R3.alloc R _) hl ?_; intro A1 c1 w1 R1 hb1; have HB := Lib.hid hb1; clear hb1)
  go_ret
  exact ⟨_, _, rfl, R1.weak (by simp), ((Below.refl _ _).alloc (Nat.le_refl _) _).trans (HB.out.mono (by simp))⟩

/-- What CutRegion returns. -/
def cutR (hs : List H3) (h : H3) : List H3 × Bool := if halfOk h = true ∧ regionOk hs = true ∧ hs.length < 40 then (if hs = [] then ([], true) else (makeR (hs ++ [h]), true)) else ([], false)
theorem regionOk_parts {hs : List H3} (h : regionOk hs = true) (hne : hs ≠ []) : (∀ g ∈ hs, HOk g) ∧ makeR hs = hs ∧ hs.length ≤ 40 := by
  unfold regionOk at h
  simp only [hne, decide_false, Bool.false_or, Bool.and_eq_true, decide_eq_true_eq] at h
  obtain ⟨h1, h2⟩ := h
  unfold fromR at h1 h2
  split at h1
  · rename_i hc
    rw [if_pos hc] at h2
    have G := allOk hc.2
    rw [meetR_makeR G] at h1 h2
    split at h1
    · cases h1
    · rename_i h40
      rw [if_neg h40] at h2
      exact ⟨G, h2.symm, hc.1⟩
  · cases h1
theorem cut_few {hs : List H3} {h : H3} (ok : regionOk hs = true) (hne : hs ≠ []) (kh : HOk h) (hl : hs.length < 40) : meetR (hs ++ [h]) = (makeR (hs ++ [h]), true) := by
  obtain ⟨G, e, _⟩ := regionOk_parts ok hne
  have G2 : ∀ g ∈ hs ++ [h], HOk g := fun g hg => by
    rcases List.mem_append.1 hg with h1 | h1
    · exact G g h1
    · obtain rfl := List.mem_singleton.1 h1; exact kh
  rw [meetR_makeR G2, if_neg]
  have := meet_few G (rest := [h]) (fun g hg => by obtain rfl := List.mem_singleton.1 hg; exact kh) e hne
  simp at this
  omega

set_option maxRecDepth 100000 in
set_option maxHeartbeats 1000000 in
theorem impl_CutRegion_eq {hs out : List H3} {h : H3} {ok : Bool} {A : Option Addr} {c : Nat} {w : World} (R : R3 36 w A c hs) (hl : hs.length ≤ 1000000000) (hr : Hid (cutR hs h = (out, ok))) :
    Calls Try.prog 15 #[.agg #[.slice A hs.length c], .agg #[.int .i64 h.a, .int .i64 h.b, .int .i64 h.c]] w (RegPost w out ok) := by
  have hr' := hr.out
  clear hr
  obtain ⟨rk, hrk⟩ : ∃ v, regionOk hs = v := ⟨_, rfl⟩
  obtain ⟨hk, hhk⟩ : ∃ v, halfOk h = v := ⟨_, rfl⟩
  have HRK := Lib.hid hrk
  unfold cutR at hr'
  rw [hrk, hhk] at hr'
  cases rk with
  | false =>
    rw [if_neg (by simp)] at hr'
    simp at hr'
    obtain ⟨rfl, rfl⟩ := hr'
    clear hrk
    cases hk
    all_goals
      go_enter Try.func15, Try.ntmps15
      go_wp2_with (first | (go_at_call 30; (first | (with_reducible refine (calls_ov2 (impl_RegionOk_eq (by repeat (first | assumption | refine R3.ov ?_ _ | refine R3.alloc ?_ _)) hl HRK)).mono ?_) | refine (calls_ov (impl_RegionOk_eq (by repeat (first | assumption | refine R3.ov ?_ _ | refine R3.alloc ?_ _)) hl HRK)).mono ?_); rintro e w' ⟨rfl, x, rfl⟩) | (go_at_call 42; (first | (with_reducible refine (calls_ov2 (impl_HalfOk_eq hhk)).mono ?_) | refine (calls_ov (impl_HalfOk_eq hhk)).mono ?_); rintro e w' ⟨rfl, x, rfl⟩))
      refine bodyPost_ret (v := .tuple #[.agg #[.slice none 0 0], .bool false]) (by simp [results, Try.results15, go_sem]) rfl ⟨none, 0, rfl, RB.nil _ _ _, (by repeat (first | exact bR | refine bO ?_ | refine bA ?_ | refine bS ?_ | refine bD ?_ | refine bN ?_))⟩
  | true =>
    cases hk with
    | false =>
      rw [if_neg (by simp)] at hr'
      simp at hr'
      obtain ⟨rfl, rfl⟩ := hr'
      clear hrk
      go_enter Try.func15, Try.ntmps15
      go_wp2_with (first | (go_at_call 30; (first | (with_reducible refine (calls_ov2 (impl_RegionOk_eq (by repeat (first | assumption | refine R3.ov ?_ _ | refine R3.alloc ?_ _)) hl HRK)).mono ?_) | refine (calls_ov (impl_RegionOk_eq (by repeat (first | assumption | refine R3.ov ?_ _ | refine R3.alloc ?_ _)) hl HRK)).mono ?_); rintro e w' ⟨rfl, x, rfl⟩) | (go_at_call 42; (first | (with_reducible refine (calls_ov2 (impl_HalfOk_eq hhk)).mono ?_) | refine (calls_ov (impl_HalfOk_eq hhk)).mono ?_); rintro e w' ⟨rfl, x, rfl⟩))
      refine bodyPost_ret (v := .tuple #[.agg #[.slice none 0 0], .bool false]) (by simp [results, Try.results15, go_sem]) rfl ⟨none, 0, rfl, RB.nil _ _ _, (by repeat (first | exact bR | refine bO ?_ | refine bA ?_ | refine bS ?_ | refine bD ?_ | refine bN ?_))⟩
    | true =>
      by_cases h40 : hs.length < 40
      · rw [if_pos ⟨rfl, rfl, h40⟩] at hr'
        by_cases h0 : hs = []
        · rw [if_pos h0] at hr'
          simp at hr'
          obtain ⟨rfl, rfl⟩ := hr'
          have HV : Hid (decide (hs.length = 0) = true) := Lib.hid (by rw [h0]; rfl)
          clear hrk h0
          go_enter Try.func15, Try.ntmps15
          go_wp2_with (first | (go_at_call 30; (first | (with_reducible refine (calls_ov2 (impl_RegionOk_eq (by repeat (first | assumption | refine R3.ov ?_ _ | refine R3.alloc ?_ _)) hl HRK)).mono ?_) | refine (calls_ov (impl_RegionOk_eq (by repeat (first | assumption | refine R3.ov ?_ _ | refine R3.alloc ?_ _)) hl HRK)).mono ?_); rintro e w' ⟨rfl, x, rfl⟩) | (go_at_call 42; (first | (with_reducible refine (calls_ov2 (impl_HalfOk_eq hhk)).mono ?_) | refine (calls_ov (impl_HalfOk_eq hhk)).mono ?_); rintro e w' ⟨rfl, x, rfl⟩) | (go_at_call 13; (first | (with_reducible refine (calls_ov2 (IsVoid_eq HV)).mono ?_) | refine (calls_ov (IsVoid_eq HV)).mono ?_); rintro e w' ⟨rfl, x, rfl⟩))
          refine bodyPost_ret (v := .tuple #[.agg #[.slice none 0 0], .bool true]) (by simp [results, Try.results15, go_sem]) rfl ⟨none, 0, rfl, RB.nil _ _ _, (by repeat (first | exact bR | refine bO ?_ | refine bA ?_ | refine bS ?_ | refine bD ?_ | refine bN ?_))⟩
        · rw [if_neg h0] at hr'
          simp at hr'
          obtain ⟨e, rfl⟩ := hr'
          subst e
          have HM0 := cut_few (h := h) hrk h0 ((halfOk_iff h).1 hhk) h40
          have hl0 : 0 < hs.length := List.length_pos_iff.2 h0
          have HV : Hid (decide (hs.length = 0) = false) := Lib.hid (decide_eq_false (by omega))
          obtain ⟨G, _, _⟩ := regionOk_parts hrk h0
          have kh := (halfOk_iff h).1 hhk
          have G2 : ∀ g ∈ hs ++ [h], HOk g := fun g hg => by
            rcases List.mem_append.1 hg with h1 | h1
            · exact G g h1
            · obtain rfl := List.mem_singleton.1 h1; exact kh
          have hz' : ¬ ((hs.length : Int) ≥ 40) := by omega
          obtain ⟨ys, hys⟩ : ∃ ys, hs ++ [h] = ys := ⟨_, rfl⟩
          have HYL := Lib.hid (show ys.length = hs.length + 1 by rw [← hys]; simp)
          have HYS := Lib.hid hys
          rw [hys] at G2 HM0 ⊢
          obtain ⟨out, hout⟩ : ∃ out, makeR ys = out := ⟨_, rfl⟩
          rw [hout] at HM0 ⊢
          have HM := Lib.hid HM0
          clear hys hout HM0
          clear hrk h0
          go_enter Try.func15, Try.ntmps15
          go_wp2_with (first | (go_at_call 30; (first | (with_reducible refine (calls_ov2 (impl_RegionOk_eq (by repeat (first | assumption | refine R3.ov ?_ _ | refine R3.alloc ?_ _)) hl HRK)).mono ?_) | refine (calls_ov (impl_RegionOk_eq (by repeat (first | assumption | refine R3.ov ?_ _ | refine R3.alloc ?_ _)) hl HRK)).mono ?_); rintro e w' ⟨rfl, x, rfl⟩) | (go_at_call 42; (first | (with_reducible refine (calls_ov2 (impl_HalfOk_eq hhk)).mono ?_) | refine (calls_ov (impl_HalfOk_eq hhk)).mono ?_); rintro e w' ⟨rfl, x, rfl⟩) | (go_at_call 13; (first | (with_reducible refine (calls_ov2 (IsVoid_eq HV)).mono ?_) | refine (calls_ov (IsVoid_eq HV)).mono ?_); rintro e w' ⟨rfl, x, rfl⟩))
          obtain ⟨w0, hw0⟩ : ∃ w0, (w.alloc (.cells #[.slice A hs.length c] 25)).alloc (.cells #[.int .i64 h.a, .int .i64 h.b, .int .i64 h.c] 36) = w0 := ⟨_, rfl⟩
          have s0 : w0.heap.size = w.heap.size + 1 + 1 := by rw [← hw0]; simp
          have T0 : Below w.heap.size w w0 := by rw [← hw0]; exact (by repeat (first | exact bR | refine bO ?_ | refine bA ?_ | refine bS ?_ | refine bD ?_ | refine bN ?_))
          have X2 : w0.heap[w.heap.size]? = some (.cells #[.slice A hs.length c] 25 (0, 0)) := by rw [← hw0]; exact (heap_old_at (by simp)).trans (heap_alloc_new _ _)
          have X3 : w0.heap[w.heap.size + 1]? = some (.cells #[.int .i64 h.a, .int .i64 h.b, .int .i64 h.c] 36 (0, 0)) := by rw [← hw0]; exact heap_new_at (by simp) rfl
          rw [hw0, ← s0]
          have s1 : w.heap.size ≤ w0.heap.size := T0.size
          clear hw0 s0
          generalize w.heap.size + 1 = b3 at X3 ⊢
          have q2 := cell_blk (j := 0) (v := .slice A hs.length c) X2 rfl
          have y0 := cell_blk (j := 0) (v := .int .i64 h.a) X3 rfl
          have y1 := cell_blk (j := 1) (v := .int .i64 h.b) X3 rfl
          have y2 := cell_blk (j := 2) (v := .int .i64 h.c) X3 rfl
          have l2 := (Array.getElem?_eq_some_iff.1 X2).1
          have l3 := (Array.getElem?_eq_some_iff.1 X3).1
          have R0 := R.below T0
          have O3 := owned_row hs
          have O5 := owned_row [h]
          have O6 := owned_row ys
          have O7 := owned_reg out
          have O8 := owned_tup out true
          clear X2 X3 R
          refine wp_region_relE (IsOld w0.heap.size 25 1) ([(2, 5), (4, 5)], [(6, 5), (7, 5), (9, 5)]) (w := w0) [.pur [] ?c0, .pur [] ?c1, .rel [] [2] false (IsOw (GRow hs)), .pur [] ?c3, .rel [] [4] false (IsOw (GRow [h])), .rel [2, 4] [5] true (IsOw (GRow ys)), .rel [5] [6] false (IsOw (GTup out true)), .rel [6] [7] false (IsOw (GReg out)), .pur [6] ?c8, .rel [7] [7] true (IsStB w0.heap.size 25), .pur [] ?c10] _ rfl rfl (by kernel_rfl) (by kernel_rfl) (by kernel_rfl) (by kernel_rfl) ?hst isOld_ov (ov_of_below (by repeat (first | exact bR | refine bO ?_ | refine bA ?_ | refine bS ?_ | refine bD ?_ | refine bN ?_))) ⟨#[.slice none 0 0], rfl, ov_blk (heap_new_at rfl rfl)⟩ (fun vs => ?walk)
          case' walk =>
            (refine wpRelE_pur rfl rfl (fun x hh => by ((skip); (go_wp2); refine relEndE_pur rfl ?_ (by repeat (first | exact bR | refine bO ?_ | refine bA ?_ | refine bS ?_ | refine bD ?_ | refine bN ?_)); simp only [Act.put, List.setIfInBounds_toArray, List.set_cons_succ, List.set_cons_zero]; rfl)) ?_; simp only [Act.put, List.setIfInBounds_toArray, List.set_cons_succ, List.set_cons_zero])
            (refine wpRelE_pur rfl rfl (fun x hh => by ((skip); (go_wp2); refine relEndE_pur rfl ?_ (by repeat (first | exact bR | refine bO ?_ | refine bA ?_ | refine bS ?_ | refine bD ?_ | refine bN ?_)); simp only [Act.put, List.setIfInBounds_toArray, List.set_cons_succ, List.set_cons_zero]; rfl)) ?_; simp only [Act.put, List.setIfInBounds_toArray, List.set_cons_succ, List.set_cons_zero])
            refine wpRelE_own rfl rfl rfl (fun x hh => ?_) ?_
            · go_wp2_with fail
              refine (Clone_any (R0.ov _) ⟨hl0, by omega⟩).mono ?_
              rintro e w7 ⟨A7, c7, rfl, R7, hb7⟩
              go_wp2
              refine relEndE_own rfl rfl ?_ hb7 ⟨A7, c7, rfl, R7.weak (by rw [ov_size]; omega)⟩
              (simp only [Act.put, List.setIfInBounds_toArray, List.set_cons_succ, List.set_cons_zero] <;> rfl)
            simp only [Act.put, List.setIfInBounds_toArray, List.set_cons_succ, List.set_cons_zero]
            (refine wpRelE_pur rfl rfl (fun x hh => by ((skip); (go_wp2); refine relEndE_pur rfl ?_ (by repeat (first | exact bR | refine bO ?_ | refine bA ?_ | refine bS ?_ | refine bD ?_ | refine bN ?_)); simp only [Act.put, List.setIfInBounds_toArray, List.set_cons_succ, List.set_cons_zero]; rfl)) ?_; simp only [Act.put, List.setIfInBounds_toArray, List.set_cons_succ, List.set_cons_zero])
            refine wpRelE_own rfl rfl rfl (fun x hh => ?_) ?_
            · go_wp2
              refine relEndE_own rfl rfl ?_ (by repeat (first | exact bR | refine bO ?_ | refine bA ?_ | refine bS ?_ | refine bD ?_ | refine bN ?_)) ⟨_, _, rfl, rfl, .inr ⟨_, 1, _, rfl, by rw [ov_size]; omega, heap_alloc_new _ _, Nat.le_refl _, by unfold maxLen; omega, rfl, rfl⟩⟩
              (simp only [Act.put, List.setIfInBounds_toArray, List.set_cons_succ, List.set_cons_zero] <;> rfl)
            simp only [Act.put, List.setIfInBounds_toArray, List.set_cons_succ, List.set_cons_zero]
            refine wpRelE_app rfl rfl rfl (fun x he hh => ?_) ?_
            · obtain ⟨A3, c3, e3, R3'⟩ := isOw_at (hh 2 (by simp)) rfl
              obtain ⟨A5, c5, e5, R5⟩ := isOw_at (hh 4 (by simp)) rfl
              simp only [e3, e5]
              go_wp2_with (at_builtin; refine wpList_append_rowsG (os := hs) (xs := [h]) rfl _ _ rfl w0.heap.size HYS.out rfl R3' rfl R5.r3 (by simp; omega) (by rw [ov_size]; omega) ?_; intro A6 c6 w6 R6 hg6)
              refine relEndE_app rfl rfl ?_ (by repeat (first | exact bR | refine bO ?_ | refine bA ?_ | refine bS ?_ | refine bD ?_ | refine bN ?_)) he (by decide) R3' hg6 ⟨A6, c6, rfl, R6⟩ rfl
              (simp only [Act.put, List.setIfInBounds_toArray, List.set_cons_succ, List.set_cons_zero] <;> rfl)
            simp only [Act.put, List.setIfInBounds_toArray, List.set_cons_succ, List.set_cons_zero]
            refine wpRelE_own rfl rfl rfl (fun x hh => ?_) ?_
            · obtain ⟨A6, c6, e6, R6⟩ := isOw_at (hh 5 (by simp)) rfl
              simp only [e6]
              go_wp2_with fail
              refine (meetAll_any G2 R6.r3 ⟨by have := HYL.out; omega, by have := HYL.out; omega⟩ HM).mono ?_
              rintro e w7 ⟨A7, c7, rfl, R7, hb7⟩
              go_wp2
              refine relEndE_own rfl rfl ?_ hb7 ⟨A7, c7, rfl, R7.weak (by rw [ov_size]; omega)⟩
              (simp only [Act.put, List.setIfInBounds_toArray, List.set_cons_succ, List.set_cons_zero] <;> rfl)
            simp only [Act.put, List.setIfInBounds_toArray, List.set_cons_succ, List.set_cons_zero]
            refine wpRelE_own rfl rfl rfl (fun x hh => ?_) ?_
            · obtain ⟨A6, c6, e6, R6⟩ := isOw_at (hh 6 (by simp)) rfl
              simp only [e6]
              go_wp2
              refine relEndE_own rfl rfl ?_ (Below.refl _ _) ⟨A6, c6, rfl, R6⟩
              (simp only [Act.put, List.setIfInBounds_toArray, List.set_cons_succ, List.set_cons_zero] <;> rfl)
            simp only [Act.put, List.setIfInBounds_toArray, List.set_cons_succ, List.set_cons_zero]
            (refine wpRelE_pur rfl rfl (fun x hh => by ((obtain ⟨A6, c6, e6, R6⟩ := isOw_at (hh 6 (by simp)) rfl); (go_wp2_with (first | simp only [e6];)); refine relEndE_pur rfl ?_ (by repeat (first | exact bR | refine bO ?_ | refine bA ?_ | refine bS ?_ | refine bD ?_ | refine bN ?_)); simp only [Act.put, List.setIfInBounds_toArray, List.set_cons_succ, List.set_cons_zero]; rfl)) ?_; simp only [Act.put, List.setIfInBounds_toArray, List.set_cons_succ, List.set_cons_zero])
            refine wpRelE_old rfl rfl rfl rfl (by decide) rfl (Nat.le_refl _) (vv_rel rfl) rfl (by kernel_rfl) (fun w hw => by obtain ⟨A, c, e, _⟩ := isOw_at hw rfl; rw [e]; exact reg_cells _ _ _) (by repeat (first | exact all_nil | refine all_cons trivial ?_ | refine all_cons isAl_steady ?_ | refine all_cons (isOw_steady (by assumption)) ?_)) ?_
            (refine wpRelE_pur rfl rfl (fun x hh => by ((skip); (go_wp2); refine relEndE_pur rfl ?_ (by repeat (first | exact bR | refine bO ?_ | refine bA ?_ | refine bS ?_ | refine bD ?_ | refine bN ?_)); simp only [Act.put, List.setIfInBounds_toArray, List.set_cons_succ, List.set_cons_zero]; rfl)) ?_; simp only [Act.put, List.setIfInBounds_toArray, List.set_cons_succ, List.set_cons_zero])
            refine wpRelE_nil (fun wp hbp hEp hh => ?_)
            obtain ⟨A7, c7, e7, R7⟩ := isOw_at (hh 7 (by intro k hk; simp at hk)) rfl
            have hX := isStB_own (hh 9 (by intro k hk; simp at hk)) rfl rfl
            rw [e7] at hX
            have x4 := cell_blk (j := 0) (v := .slice A7 out.length c7) hX rfl
            have l4 := (Array.getElem?_eq_some_iff.1 hX).1
            have hbw : Below w.heap.size w wp := T0.trans (hbp.mono s1)
            have R8 := R7.weak s1
            clear hX hh R7 e7
            go_wp2
            refine bodyPost_ret (v := .tuple #[.agg #[.slice A7 out.length c7], .bool true]) (by simp [results, Try.results15, go_sem, x4, l4]) rfl ⟨A7, c7, rfl, R8, hbw⟩
          case' hst => exact (by repeat (first | exact all_nil | refine all_cons trivial ?_ | refine all_cons isAl_stable ?_ | refine all_cons isSt_stable ?_ | refine all_cons isStB_stable ?_ | refine all_cons (isOw_stable (by assumption)) ?_))
      · rw [if_neg (by omega)] at hr'
        simp at hr'
        obtain ⟨rfl, rfl⟩ := hr'
        clear hrk
        go_enter Try.func15, Try.ntmps15
        go_wp2_with (first | (go_at_call 30; (first | (with_reducible refine (calls_ov2 (impl_RegionOk_eq (by repeat (first | assumption | refine R3.ov ?_ _ | refine R3.alloc ?_ _)) hl HRK)).mono ?_) | refine (calls_ov (impl_RegionOk_eq (by repeat (first | assumption | refine R3.ov ?_ _ | refine R3.alloc ?_ _)) hl HRK)).mono ?_); rintro e w' ⟨rfl, x, rfl⟩) | (go_at_call 42; (first | (with_reducible refine (calls_ov2 (impl_HalfOk_eq hhk)).mono ?_) | refine (calls_ov (impl_HalfOk_eq hhk)).mono ?_); rintro e w' ⟨rfl, x, rfl⟩))
        refine bodyPost_ret (v := .tuple #[.agg #[.slice none 0 0], .bool false]) (by simp [results, Try.results15, go_sem]) rfl ⟨none, 0, rfl, RB.nil _ _ _, (by repeat (first | exact bR | refine bO ?_ | refine bA ?_ | refine bS ?_ | refine bD ?_ | refine bN ?_))⟩
end Go.Proofs.Ytabmfaamadbefaa

/- Contracts of slices.Clone on any row, of copyRegion and of the reference's l08Region. Condition: rows of at most 5000. -/
set_option linter.unusedSimpArgs false
set_option linter.unusedVariables false
set_option linter.unusedSectionVars false
namespace Go.Proofs.Ytabmfaamadbefaa
open Go.RowKit

set_option maxRecDepth 100000 in
theorem Clone_all {xs : List H3} {A : Option Addr} {c : Nat} {w : World} (R : R3 36 w A c xs) (hl : xs.length ≤ 5000) :
    Calls Try.prog 43 #[.slice A xs.length c] w (InsPost w.heap.size w xs) := by
  by_cases h0 : 0 < xs.length
  · exact Clone_any R ⟨h0, hl⟩
  · have hx : xs = [] := List.length_eq_zero_iff.1 (by omega)
    subst hx
    have R' := R
    rcases R'.2 with ⟨e, _⟩ | ⟨g, cap, cur, e, _⟩
    · injection e with e1 e2 e3
      subst e1 e3
      have hn : (binOp .eql 23 (.slice none 0 0) (.slice none 0 0)).run Try.prog w = .ok (.bool (none : Option Addr).isNone) w := Lib.run_eql_slice_nil w _ _ _ _ _ _ _ Try.underlying23
      clear R R'
      go_enter Try.func43, Try.ntmps43
      go_wp2
      go_ret
      exact ⟨none, 0, rfl, RB.nil _ _ _, Below.refl _ _⟩
    · injection e with e1 e2 e3
      subst e1 e3
      have hn : (binOp .eql 23 (.slice (some ⟨g, 0, none⟩) 0 c) (.slice none 0 0)).run Try.prog w = .ok (.bool (some (⟨g, 0, none⟩ : Addr)).isNone) w := Lib.run_eql_slice_nil w _ _ _ _ _ _ _ Try.underlying23
      clear R'
      go_enter Try.func43, Try.ntmps43
      go_wp2_with (at_builtin; refine wpList_append_rows (os := []) (xs := []) rfl _ _ rfl w.heap.size rfl (RB.new0 (by simp) (by simp) rfl) rfl (R3.alloc R _) (by simp) (by simp) ?_; intro A1 c1 w1 R1 B1; rw [List.nil_append] at R1; have hb1 : Below w.heap.size w w1 := B1.out (by repeat (first | exact bR | refine bO ?_ | refine bA ?_ | refine bS ?_ | refine bD ?_ | refine bN ?_)) (by simp))
      go_ret
      exact ⟨A1, c1, rfl, R1, hb1⟩

set_option maxHeartbeats 2000000 in
theorem copyRegion_eq {xs : List H3} {A : Option Addr} {c : Nat} {w : World} (R : R3 36 w A c xs) (hl : xs.length ≤ 5000) :
    Calls Try.prog 84 #[.agg #[.slice A xs.length c]] w (RegOut w xs) := by
  go_enter Try.func84, Try.ntmps84
  go_wp2_with fail
  refine (Clone_all (R.below (by repeat (first | exact bR | refine bO ?_ | refine bA ?_ | refine bS ?_ | refine bD ?_ | refine bN ?_))) hl).mono ?_
  rintro e w1 ⟨A1, c1, rfl, R1, hb1⟩
  have hbw : Below w.heap.size w w1 := Below.trans (by repeat (first | exact bR | refine bO ?_ | refine bA ?_ | refine bS ?_ | refine bD ?_ | refine bN ?_)) (hb1.mono (by simp; omega))
  have HX := Lib.hid ((hb1.block (w.heap.size + 1) (by simp)).trans (heap_new_at (r := some (.cells #[.slice none 0 0] 25 (0, 0))) (by simp) rfl))
  have HR1 := R1.weak (B' := w.heap.size) (by simp; omega)
  clear R1 hb1
  have hb2 : w.heap.size ≤ w.heap.size + 1 := by omega
  generalize w.heap.size + 1 = b4 at HX hb2 ⊢
  have x2 := cell_blk (j := 0) (v := .slice none 0 0) HX.out rfl
  have f2 := frozen_blk (j := 0) HX.out
  have l2 := (Array.getElem?_eq_some_iff.1 HX.out).1
  go_wp2
  refine bodyPost_ret (v := .agg #[.slice A1 xs.length c1]) (by simp [results, Try.results84, go_sem, x2, l2]) rfl ⟨A1, c1, rfl, HR1.set_box HX.out (by decide), hbw.setCell (show w.heap.size ≤ b4 from hb2) _⟩

end Go.Proofs.Ytabmfaamadbefaa
