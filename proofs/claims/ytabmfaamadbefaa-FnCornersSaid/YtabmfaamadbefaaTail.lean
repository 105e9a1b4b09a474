/- Several texts in one: Sup, Words, Plain, A, Tail. Each says its own conditions. -/
import Derived.WalkKit
import Derived.WalkSpells
import Derived.WalkLawsBesides
import Derived.RegionTactic
import Derived.Deep.QuietTactic
import Derived.BigQuiet
import Derived.Below
import Derived.Lib.Hide
import Derived.Outline
import Derived.Test.YtabmfaamadbefaaRows
import Derived.StillTail
/- Worlds that lie over another one: further blocks and draws alone; regions and calls in them. No condition. -/
namespace Go.Proofs.Ytabmfaamadbefaa
open Go.RowKit

/-- Further blocks, and a count of draws. -/
structure More where
  objs : Array Obj
  count : Nat

instance : Nonempty More := ⟨⟨#[], 0⟩⟩

/-- The world w with further blocks and draws. -/
def ov (w : World) (x : More) : World := { w with heap := w.heap ++ x.objs, drawn := x.count }

section
variable (w : World) (x : More)
theorem ov_size : (ov w x).heap.size = w.heap.size + x.objs.size := by simp [ov]
theorem ov_lt {n : Nat} (h : n < w.heap.size) : n < (ov w x).heap.size := by rw [ov_size]; omega
theorem ov_le {n : Nat} (h : n ≤ w.heap.size) : n ≤ (ov w x).heap.size := by rw [ov_size]; omega
theorem ov_lt_add {n k : Nat} (h : n < w.heap.size + k) : n < (ov w x).heap.size + k := by rw [ov_size]; omega
theorem ov_le_add {n k : Nat} (h : n ≤ w.heap.size + k) : n ≤ (ov w x).heap.size + k := by rw [ov_size]; omega
theorem ov_block {n : Nat} (hn : n < w.heap.size) : (ov w x).heap[n]? = w.heap[n]? := by
  show (w.heap ++ x.objs)[n]? = _
  rw [Array.getElem?_append_left hn]
@[go_sem] theorem ov_cell (n i : Nat) (hn : n < w.heap.size) : (ov w x).cell? ⟨n, i, none⟩ = w.cell? ⟨n, i, none⟩ := World.cell?_of_block (ov_block w x hn)
@[go_sem] theorem ov_frozen (n i : Nat) (hn : n < w.heap.size) : (ov w x).frozen? ⟨n, i, none⟩ = w.frozen? ⟨n, i, none⟩ := World.frozen?_of_block (ov_block w x hn)
@[go_sem] theorem ov_set (n i : Nat) (v : Value) (hn : n < w.heap.size) : (ov w x).setCell ⟨n, i, none⟩ v = ov (w.setCell ⟨n, i, none⟩ v) x := by
  unfold ov World.setCell
  congr 1
  apply Array.ext_getElem?
  intro k
  rw [Array.getElem?_modify]
  by_cases hk : n = k
  · subst hk
    rw [if_pos rfl, Array.getElem?_append_left hn, Array.getElem?_append_left (by simpa using hn), Array.getElem?_modify, if_pos rfl]
  · rw [if_neg hk]
    by_cases hk2 : k < w.heap.size
    · rw [Array.getElem?_append_left hk2, Array.getElem?_append_left (by simpa using hk2), Array.getElem?_modify, if_neg hk]
    · rw [Array.getElem?_append_right (by omega), Array.getElem?_append_right (by simp; omega)]
      simp
@[go_sem] theorem ov_drew : (ov w x).drew = ov w ⟨x.objs, x.count + 1⟩ := rfl
@[go_sem] theorem ov_drewN (n : Nat) : (ov w x).drewN n = ov w ⟨x.objs, x.count + n⟩ := rfl
@[go_sem] theorem ov_of_drew : ov w.drew x = ov w x := rfl
@[go_sem] theorem ov_of_drewN (n : Nat) : ov (w.drewN n) x = ov w x := rfl
@[go_sem] theorem ov_tape : (ov w x).tape = w.tape := rfl

theorem below_ov {B : Nat} {a : World} (h : Below B a w) (hB : B ≤ w.heap.size) : Below B a (ov w x) :=
  ⟨h.os, h.tape, h.output, Nat.le_trans h.size (by rw [ov_size]; omega), fun k hk => (ov_block w x (by omega)).trans (h.block k hk)⟩
theorem ov_of_below {w w' : World} (h : Below w.heap.size w w') : ∃ x, w' = ov w x := by
  refine ⟨⟨w'.heap.extract w.heap.size w'.heap.size, w'.drawn⟩, ?_⟩
  have e : w'.heap = w.heap ++ w'.heap.extract w.heap.size w'.heap.size := by
    apply Array.ext_getElem?
    intro k
    by_cases hk : k < w.heap.size
    · rw [Array.getElem?_append_left hk]; exact h.block k hk
    · rw [Array.getElem?_append_right (by omega), Array.getElem?_extract]
      have := h.size
      by_cases hk2 : k < w'.heap.size
      · rw [if_pos (by omega)]; congr 1; omega
      · rw [if_neg (by omega), Array.getElem?_eq_none (by omega)]
  obtain ⟨hp, t, d, o, out⟩ := w'
  obtain ⟨h1, h2, h3, _, _⟩ := h
  simp only at e h1 h2 h3
  subst h1 h2 h3
  unfold ov
  rw [← e]
theorem below_drewN {B : Nat} {a w : World} (h : Below B a w) (n : Nat) : Below B a (w.drewN n) := ⟨h.os, h.tape, h.output, h.size, h.block⟩
end

/-- A contract that ends in 'Below', in the form that a walk takes. -/
theorem calls_ov {P : Program} {f : FuncId} {args : Array Value} {w : World} {R : Ending → Prop} (h : Calls P f args w fun e w' => R e ∧ Below w.heap.size w w') :
    Calls P f args w fun e w' => R e ∧ ∃ x, w' = ov w x := h.mono fun _ _ ⟨a, b⟩ => ⟨a, ov_of_below b⟩

/-- The same in a world that lies over another one already: the two layers are one. -/
theorem calls_ov2 {P : Program} {f : FuncId} {args : Array Value} {w : World} {x : More} {R : Ending → Prop} (h : Calls P f args (ov w x) fun e w' => R e ∧ Below (ov w x).heap.size (ov w x) w') :
    Calls P f args (ov w x) fun e w' => R e ∧ ∃ y, w' = ov w y := h.mono fun _ _ ⟨a, b⟩ => ⟨a, ov_of_below ((below_ov w x (Below.refl _ _) (Nat.le_refl _)).trans (b.mono (by rw [ov_size]; omega)))⟩

/-- A region that draws its order, each of whose operations has one value in every world that lies over w. -/
theorem wp_region_calm {P : Program} {id : Nat} {Q : Exit → Act → World → Prop} {a : Act} {w : World} {l : List Oper} (hm : P.follows .mixedOrders = true) (hB : Region.lexB .any l.toArray = true)
    (h : wpQuiet P l.toArray (fun w' => ∃ x, w' = ov w x) (fun a' => ∀ w', (∃ x, w' = ov w x) → Q .normal a' w') l a) : (Code.region id l.toArray true).wp P Q a w :=
  wp_region_quiet (C := fun w' => ∃ x, w' = ov w x) hm hB (ov_of_below ⟨rfl, rfl, rfl, Nat.le_refl _, fun _ _ => rfl⟩) (by simpa using h)

/-- The same in a world that lies over w already. -/
theorem wp_region_calm2 {P : Program} {id : Nat} {Q : Exit → Act → World → Prop} {a : Act} {w : World} {x0 : More} {l : List Oper} (hm : P.follows .mixedOrders = true) (hB : Region.lexB .any l.toArray = true)
    (h : wpQuiet P l.toArray (fun w' => ∃ x, w' = ov w x) (fun a' => ∀ w', (∃ x, w' = ov w x) → Q .normal a' w') l a) : (Code.region id l.toArray true).wp P Q a (ov w x0) :=
  wp_region_quiet (C := fun w' => ∃ x, w' = ov w x) hm hB ⟨_, ov_drew w x0⟩ (by simpa using h)

/-- A callee that makes memory, met in a calm region. -/
theorem calm_below {P : Program} {f : FuncId} {args : Array Value} {w : World} {x : More} {v : Value}
    (h : Calls P f args (ov w x) fun e w' => e = .returned v ∧ Below (ov w x).heap.size (ov w x) w') : Calls P f args (ov w x) fun e w'' => e = .returned v ∧ ∃ y, w'' = ov w y :=
  h.mono fun _ _ ⟨he, hb⟩ => ⟨he, ov_of_below ((below_ov w x (Below.refl _ _) (Nat.le_refl _)).trans (hb.mono (by rw [ov_size]; omega)))⟩
theorem calm_same {P : Program} {f : FuncId} {args : Array Value} {w : World} {x : More} {v : Value}
    (h : Calls P f args (ov w x) fun e w' => e = .returned v ∧ ov w x = w') : Calls P f args (ov w x) fun e w'' => e = .returned v ∧ ∃ y, w'' = ov w y :=
  h.mono fun _ _ ⟨he, hb⟩ => ⟨he, x, hb.symm⟩
theorem calm_drewN {P : Program} {f : FuncId} {args : Array Value} {w : World} {x : More} {v : Value}
    (h : Calls P f args (ov w x) fun e w' => e = .returned v ∧ ∃ n, w' = (ov w x).drewN n) : Calls P f args (ov w x) fun e w'' => e = .returned v ∧ ∃ y, w'' = ov w y :=
  h.mono fun _ _ ⟨he, n, hb⟩ => ⟨he, ⟨x.objs, x.count + n⟩, hb⟩

theorem ret_int {k : IntKind} {a b : Int} (h : a = b) : Ending.returned (.int k a) = .returned (.int k b) := by rw [h]
theorem ret_bool {a b : Bool} (h : a = b) : Ending.returned (.bool a) = .returned (.bool b) := by rw [h]
theorem int_eq {k : IntKind} {a b : Int} (h : a = b) : Value.int k a = .int k b := by rw [h]
theorem nat_beq1 (n : Nat) : ((n : Int) == 1) = decide (n = 1) := by
  by_cases h : n = 1
  · subst h; rfl
  · simp [h]; omega
theorem bR {B : Nat} {w : World} : Below B w w := Below.refl _ _
theorem bO {B : Nat} {a w : World} {x : More} (h : Below B a w) (hB : B ≤ w.heap.size := by first | omega | (simp [ov_size] <;> omega)) : Below B a (ov w x) := below_ov w x h hB
theorem bA {B : Nat} {a w : World} {o : Obj} (h : Below B a w) (hB : B ≤ w.heap.size := by first | omega | (simp [ov_size] <;> omega)) : Below B a (w.alloc o) := Below.alloc h hB o
theorem bS {B : Nat} {a w : World} {p : Addr} {v : Value} (h : Below B a w) (hB : B ≤ p.block := by first | omega | (simp [ov_size] <;> omega)) : Below B a (w.setCell p v) := Below.setCell h hB v
theorem bD {B : Nat} {a w : World} (h : Below B a w) : Below B a w.drew := Below.drew h
theorem bN {B : Nat} {a w : World} {n : Nat} (h : Below B a w) : Below B a (w.drewN n) := below_drewN h n
end Go.Proofs.Ytabmfaamadbefaa

/- What a cell reads in a world that was built by new blocks and by calls in turn. Laws on worlds alone, written by a program (wip/tools/words.py). Condition: the cell is of the innermost world. -/
set_option linter.unusedSimpArgs false
namespace Go.Proofs.Ytabmfaamadbefaa
theorem lo {w : World} {x : More} {n : Nat} (h : n < w.heap.size) : n < (ov w x).heap.size := ov_lt w x h
theorem la {w : World} {o : Obj} {n : Nat} (h : n < w.heap.size) : n < (w.alloc o).heap.size := by simp; omega
theorem lz {w : World} {o : Obj} : w.heap.size < (w.alloc o).heap.size := by simp
@[go_sem] theorem wcell_oo (w : World) (x0 : More) (x1 : More) (n i : Nat) (hn : n < w.heap.size) : (ov (ov (w) x0) x1).cell? ⟨n, i, none⟩ = w.cell? ⟨n, i, none⟩ := by rw [ov_cell _ _ _ _ (lo hn), ov_cell _ _ _ _ hn]
@[go_sem] theorem wfrozen_oo (w : World) (x0 : More) (x1 : More) (n i : Nat) (hn : n < w.heap.size) : (ov (ov (w) x0) x1).frozen? ⟨n, i, none⟩ = w.frozen? ⟨n, i, none⟩ := by rw [ov_frozen _ _ _ _ (lo hn), ov_frozen _ _ _ _ hn]
@[go_sem] theorem wset_oo (w : World) (x0 : More) (x1 : More) (n i : Nat) (v : Value) (hn : n < w.heap.size) : (ov (ov (w) x0) x1).setCell ⟨n, i, none⟩ v = ov (ov (w.setCell ⟨n, i, none⟩ v) x0) x1 := by rw [ov_set _ _ _ _ _ (lo hn), ov_set _ _ _ _ _ hn]
@[go_sem] theorem wcell_ao (w : World) (x0 : More) (x1 : Obj) (n i : Nat) (hn : n < w.heap.size) : ((ov (w) x0).alloc x1).cell? ⟨n, i, none⟩ = w.cell? ⟨n, i, none⟩ := by rw [World.cell?_alloc_past _ _ _ (lo hn), ov_cell _ _ _ _ hn]
@[go_sem] theorem wfrozen_ao (w : World) (x0 : More) (x1 : Obj) (n i : Nat) (hn : n < w.heap.size) : ((ov (w) x0).alloc x1).frozen? ⟨n, i, none⟩ = w.frozen? ⟨n, i, none⟩ := by rw [World.frozen?_alloc_past _ _ _ (lo hn), ov_frozen _ _ _ _ hn]
@[go_sem] theorem wset_ao (w : World) (x0 : More) (x1 : Obj) (n i : Nat) (v : Value) (hn : n < w.heap.size) : ((ov (w) x0).alloc x1).setCell ⟨n, i, none⟩ v = (ov (w.setCell ⟨n, i, none⟩ v) x0).alloc x1 := by rw [World.setCell_alloc_past _ _ _ _ (lo hn), ov_set _ _ _ _ _ hn]
@[go_sem] theorem wcell_ooo (w : World) (x0 : More) (x1 : More) (x2 : More) (n i : Nat) (hn : n < w.heap.size) : (ov (ov (ov (w) x0) x1) x2).cell? ⟨n, i, none⟩ = w.cell? ⟨n, i, none⟩ := by rw [ov_cell _ _ _ _ (lo (lo hn)), ov_cell _ _ _ _ (lo hn), ov_cell _ _ _ _ hn]
@[go_sem] theorem wfrozen_ooo (w : World) (x0 : More) (x1 : More) (x2 : More) (n i : Nat) (hn : n < w.heap.size) : (ov (ov (ov (w) x0) x1) x2).frozen? ⟨n, i, none⟩ = w.frozen? ⟨n, i, none⟩ := by rw [ov_frozen _ _ _ _ (lo (lo hn)), ov_frozen _ _ _ _ (lo hn), ov_frozen _ _ _ _ hn]
@[go_sem] theorem wset_ooo (w : World) (x0 : More) (x1 : More) (x2 : More) (n i : Nat) (v : Value) (hn : n < w.heap.size) : (ov (ov (ov (w) x0) x1) x2).setCell ⟨n, i, none⟩ v = ov (ov (ov (w.setCell ⟨n, i, none⟩ v) x0) x1) x2 := by rw [ov_set _ _ _ _ _ (lo (lo hn)), ov_set _ _ _ _ _ (lo hn), ov_set _ _ _ _ _ hn]
@[go_sem] theorem wcell_oao (w : World) (x0 : More) (x1 : Obj) (x2 : More) (n i : Nat) (hn : n < w.heap.size) : (ov ((ov (w) x0).alloc x1) x2).cell? ⟨n, i, none⟩ = w.cell? ⟨n, i, none⟩ := by rw [ov_cell _ _ _ _ (la (lo hn)), World.cell?_alloc_past _ _ _ (lo hn), ov_cell _ _ _ _ hn]
@[go_sem] theorem wfrozen_oao (w : World) (x0 : More) (x1 : Obj) (x2 : More) (n i : Nat) (hn : n < w.heap.size) : (ov ((ov (w) x0).alloc x1) x2).frozen? ⟨n, i, none⟩ = w.frozen? ⟨n, i, none⟩ := by rw [ov_frozen _ _ _ _ (la (lo hn)), World.frozen?_alloc_past _ _ _ (lo hn), ov_frozen _ _ _ _ hn]
@[go_sem] theorem wset_oao (w : World) (x0 : More) (x1 : Obj) (x2 : More) (n i : Nat) (v : Value) (hn : n < w.heap.size) : (ov ((ov (w) x0).alloc x1) x2).setCell ⟨n, i, none⟩ v = ov ((ov (w.setCell ⟨n, i, none⟩ v) x0).alloc x1) x2 := by rw [ov_set _ _ _ _ _ (la (lo hn)), World.setCell_alloc_past _ _ _ _ (lo hn), ov_set _ _ _ _ _ hn]
@[go_sem] theorem wcell_aoo (w : World) (x0 : More) (x1 : More) (x2 : Obj) (n i : Nat) (hn : n < w.heap.size) : ((ov (ov (w) x0) x1).alloc x2).cell? ⟨n, i, none⟩ = w.cell? ⟨n, i, none⟩ := by rw [World.cell?_alloc_past _ _ _ (lo (lo hn)), ov_cell _ _ _ _ (lo hn), ov_cell _ _ _ _ hn]
@[go_sem] theorem wfrozen_aoo (w : World) (x0 : More) (x1 : More) (x2 : Obj) (n i : Nat) (hn : n < w.heap.size) : ((ov (ov (w) x0) x1).alloc x2).frozen? ⟨n, i, none⟩ = w.frozen? ⟨n, i, none⟩ := by rw [World.frozen?_alloc_past _ _ _ (lo (lo hn)), ov_frozen _ _ _ _ (lo hn), ov_frozen _ _ _ _ hn]
@[go_sem] theorem wset_aoo (w : World) (x0 : More) (x1 : More) (x2 : Obj) (n i : Nat) (v : Value) (hn : n < w.heap.size) : ((ov (ov (w) x0) x1).alloc x2).setCell ⟨n, i, none⟩ v = (ov (ov (w.setCell ⟨n, i, none⟩ v) x0) x1).alloc x2 := by rw [World.setCell_alloc_past _ _ _ _ (lo (lo hn)), ov_set _ _ _ _ _ (lo hn), ov_set _ _ _ _ _ hn]
@[go_sem] theorem wcell_aao (w : World) (x0 : More) (x1 : Obj) (x2 : Obj) (n i : Nat) (hn : n < w.heap.size) : (((ov (w) x0).alloc x1).alloc x2).cell? ⟨n, i, none⟩ = w.cell? ⟨n, i, none⟩ := by rw [World.cell?_alloc_past _ _ _ (la (lo hn)), World.cell?_alloc_past _ _ _ (lo hn), ov_cell _ _ _ _ hn]
@[go_sem] theorem wfrozen_aao (w : World) (x0 : More) (x1 : Obj) (x2 : Obj) (n i : Nat) (hn : n < w.heap.size) : (((ov (w) x0).alloc x1).alloc x2).frozen? ⟨n, i, none⟩ = w.frozen? ⟨n, i, none⟩ := by rw [World.frozen?_alloc_past _ _ _ (la (lo hn)), World.frozen?_alloc_past _ _ _ (lo hn), ov_frozen _ _ _ _ hn]
@[go_sem] theorem wset_aao (w : World) (x0 : More) (x1 : Obj) (x2 : Obj) (n i : Nat) (v : Value) (hn : n < w.heap.size) : (((ov (w) x0).alloc x1).alloc x2).setCell ⟨n, i, none⟩ v = ((ov (w.setCell ⟨n, i, none⟩ v) x0).alloc x1).alloc x2 := by rw [World.setCell_alloc_past _ _ _ _ (la (lo hn)), World.setCell_alloc_past _ _ _ _ (lo hn), ov_set _ _ _ _ _ hn]
@[go_sem] theorem wcell_oooo (w : World) (x0 : More) (x1 : More) (x2 : More) (x3 : More) (n i : Nat) (hn : n < w.heap.size) : (ov (ov (ov (ov (w) x0) x1) x2) x3).cell? ⟨n, i, none⟩ = w.cell? ⟨n, i, none⟩ := by rw [ov_cell _ _ _ _ (lo (lo (lo hn))), ov_cell _ _ _ _ (lo (lo hn)), ov_cell _ _ _ _ (lo hn), ov_cell _ _ _ _ hn]
@[go_sem] theorem wfrozen_oooo (w : World) (x0 : More) (x1 : More) (x2 : More) (x3 : More) (n i : Nat) (hn : n < w.heap.size) : (ov (ov (ov (ov (w) x0) x1) x2) x3).frozen? ⟨n, i, none⟩ = w.frozen? ⟨n, i, none⟩ := by rw [ov_frozen _ _ _ _ (lo (lo (lo hn))), ov_frozen _ _ _ _ (lo (lo hn)), ov_frozen _ _ _ _ (lo hn), ov_frozen _ _ _ _ hn]
@[go_sem] theorem wset_oooo (w : World) (x0 : More) (x1 : More) (x2 : More) (x3 : More) (n i : Nat) (v : Value) (hn : n < w.heap.size) : (ov (ov (ov (ov (w) x0) x1) x2) x3).setCell ⟨n, i, none⟩ v = ov (ov (ov (ov (w.setCell ⟨n, i, none⟩ v) x0) x1) x2) x3 := by rw [ov_set _ _ _ _ _ (lo (lo (lo hn))), ov_set _ _ _ _ _ (lo (lo hn)), ov_set _ _ _ _ _ (lo hn), ov_set _ _ _ _ _ hn]
@[go_sem] theorem wcell_ooao (w : World) (x0 : More) (x1 : Obj) (x2 : More) (x3 : More) (n i : Nat) (hn : n < w.heap.size) : (ov (ov ((ov (w) x0).alloc x1) x2) x3).cell? ⟨n, i, none⟩ = w.cell? ⟨n, i, none⟩ := by rw [ov_cell _ _ _ _ (lo (la (lo hn))), ov_cell _ _ _ _ (la (lo hn)), World.cell?_alloc_past _ _ _ (lo hn), ov_cell _ _ _ _ hn]
@[go_sem] theorem wfrozen_ooao (w : World) (x0 : More) (x1 : Obj) (x2 : More) (x3 : More) (n i : Nat) (hn : n < w.heap.size) : (ov (ov ((ov (w) x0).alloc x1) x2) x3).frozen? ⟨n, i, none⟩ = w.frozen? ⟨n, i, none⟩ := by rw [ov_frozen _ _ _ _ (lo (la (lo hn))), ov_frozen _ _ _ _ (la (lo hn)), World.frozen?_alloc_past _ _ _ (lo hn), ov_frozen _ _ _ _ hn]
@[go_sem] theorem wset_ooao (w : World) (x0 : More) (x1 : Obj) (x2 : More) (x3 : More) (n i : Nat) (v : Value) (hn : n < w.heap.size) : (ov (ov ((ov (w) x0).alloc x1) x2) x3).setCell ⟨n, i, none⟩ v = ov (ov ((ov (w.setCell ⟨n, i, none⟩ v) x0).alloc x1) x2) x3 := by rw [ov_set _ _ _ _ _ (lo (la (lo hn))), ov_set _ _ _ _ _ (la (lo hn)), World.setCell_alloc_past _ _ _ _ (lo hn), ov_set _ _ _ _ _ hn]
@[go_sem] theorem wcell_oaoo (w : World) (x0 : More) (x1 : More) (x2 : Obj) (x3 : More) (n i : Nat) (hn : n < w.heap.size) : (ov ((ov (ov (w) x0) x1).alloc x2) x3).cell? ⟨n, i, none⟩ = w.cell? ⟨n, i, none⟩ := by rw [ov_cell _ _ _ _ (la (lo (lo hn))), World.cell?_alloc_past _ _ _ (lo (lo hn)), ov_cell _ _ _ _ (lo hn), ov_cell _ _ _ _ hn]
@[go_sem] theorem wfrozen_oaoo (w : World) (x0 : More) (x1 : More) (x2 : Obj) (x3 : More) (n i : Nat) (hn : n < w.heap.size) : (ov ((ov (ov (w) x0) x1).alloc x2) x3).frozen? ⟨n, i, none⟩ = w.frozen? ⟨n, i, none⟩ := by rw [ov_frozen _ _ _ _ (la (lo (lo hn))), World.frozen?_alloc_past _ _ _ (lo (lo hn)), ov_frozen _ _ _ _ (lo hn), ov_frozen _ _ _ _ hn]
@[go_sem] theorem wset_oaoo (w : World) (x0 : More) (x1 : More) (x2 : Obj) (x3 : More) (n i : Nat) (v : Value) (hn : n < w.heap.size) : (ov ((ov (ov (w) x0) x1).alloc x2) x3).setCell ⟨n, i, none⟩ v = ov ((ov (ov (w.setCell ⟨n, i, none⟩ v) x0) x1).alloc x2) x3 := by rw [ov_set _ _ _ _ _ (la (lo (lo hn))), World.setCell_alloc_past _ _ _ _ (lo (lo hn)), ov_set _ _ _ _ _ (lo hn), ov_set _ _ _ _ _ hn]
@[go_sem] theorem wcell_oaao (w : World) (x0 : More) (x1 : Obj) (x2 : Obj) (x3 : More) (n i : Nat) (hn : n < w.heap.size) : (ov (((ov (w) x0).alloc x1).alloc x2) x3).cell? ⟨n, i, none⟩ = w.cell? ⟨n, i, none⟩ := by rw [ov_cell _ _ _ _ (la (la (lo hn))), World.cell?_alloc_past _ _ _ (la (lo hn)), World.cell?_alloc_past _ _ _ (lo hn), ov_cell _ _ _ _ hn]
@[go_sem] theorem wfrozen_oaao (w : World) (x0 : More) (x1 : Obj) (x2 : Obj) (x3 : More) (n i : Nat) (hn : n < w.heap.size) : (ov (((ov (w) x0).alloc x1).alloc x2) x3).frozen? ⟨n, i, none⟩ = w.frozen? ⟨n, i, none⟩ := by rw [ov_frozen _ _ _ _ (la (la (lo hn))), World.frozen?_alloc_past _ _ _ (la (lo hn)), World.frozen?_alloc_past _ _ _ (lo hn), ov_frozen _ _ _ _ hn]
@[go_sem] theorem wset_oaao (w : World) (x0 : More) (x1 : Obj) (x2 : Obj) (x3 : More) (n i : Nat) (v : Value) (hn : n < w.heap.size) : (ov (((ov (w) x0).alloc x1).alloc x2) x3).setCell ⟨n, i, none⟩ v = ov (((ov (w.setCell ⟨n, i, none⟩ v) x0).alloc x1).alloc x2) x3 := by rw [ov_set _ _ _ _ _ (la (la (lo hn))), World.setCell_alloc_past _ _ _ _ (la (lo hn)), World.setCell_alloc_past _ _ _ _ (lo hn), ov_set _ _ _ _ _ hn]
@[go_sem] theorem wcell_aooo (w : World) (x0 : More) (x1 : More) (x2 : More) (x3 : Obj) (n i : Nat) (hn : n < w.heap.size) : ((ov (ov (ov (w) x0) x1) x2).alloc x3).cell? ⟨n, i, none⟩ = w.cell? ⟨n, i, none⟩ := by rw [World.cell?_alloc_past _ _ _ (lo (lo (lo hn))), ov_cell _ _ _ _ (lo (lo hn)), ov_cell _ _ _ _ (lo hn), ov_cell _ _ _ _ hn]
@[go_sem] theorem wfrozen_aooo (w : World) (x0 : More) (x1 : More) (x2 : More) (x3 : Obj) (n i : Nat) (hn : n < w.heap.size) : ((ov (ov (ov (w) x0) x1) x2).alloc x3).frozen? ⟨n, i, none⟩ = w.frozen? ⟨n, i, none⟩ := by rw [World.frozen?_alloc_past _ _ _ (lo (lo (lo hn))), ov_frozen _ _ _ _ (lo (lo hn)), ov_frozen _ _ _ _ (lo hn), ov_frozen _ _ _ _ hn]
@[go_sem] theorem wset_aooo (w : World) (x0 : More) (x1 : More) (x2 : More) (x3 : Obj) (n i : Nat) (v : Value) (hn : n < w.heap.size) : ((ov (ov (ov (w) x0) x1) x2).alloc x3).setCell ⟨n, i, none⟩ v = (ov (ov (ov (w.setCell ⟨n, i, none⟩ v) x0) x1) x2).alloc x3 := by rw [World.setCell_alloc_past _ _ _ _ (lo (lo (lo hn))), ov_set _ _ _ _ _ (lo (lo hn)), ov_set _ _ _ _ _ (lo hn), ov_set _ _ _ _ _ hn]
@[go_sem] theorem wcell_aoao (w : World) (x0 : More) (x1 : Obj) (x2 : More) (x3 : Obj) (n i : Nat) (hn : n < w.heap.size) : ((ov ((ov (w) x0).alloc x1) x2).alloc x3).cell? ⟨n, i, none⟩ = w.cell? ⟨n, i, none⟩ := by rw [World.cell?_alloc_past _ _ _ (lo (la (lo hn))), ov_cell _ _ _ _ (la (lo hn)), World.cell?_alloc_past _ _ _ (lo hn), ov_cell _ _ _ _ hn]
@[go_sem] theorem wfrozen_aoao (w : World) (x0 : More) (x1 : Obj) (x2 : More) (x3 : Obj) (n i : Nat) (hn : n < w.heap.size) : ((ov ((ov (w) x0).alloc x1) x2).alloc x3).frozen? ⟨n, i, none⟩ = w.frozen? ⟨n, i, none⟩ := by rw [World.frozen?_alloc_past _ _ _ (lo (la (lo hn))), ov_frozen _ _ _ _ (la (lo hn)), World.frozen?_alloc_past _ _ _ (lo hn), ov_frozen _ _ _ _ hn]
@[go_sem] theorem wset_aoao (w : World) (x0 : More) (x1 : Obj) (x2 : More) (x3 : Obj) (n i : Nat) (v : Value) (hn : n < w.heap.size) : ((ov ((ov (w) x0).alloc x1) x2).alloc x3).setCell ⟨n, i, none⟩ v = (ov ((ov (w.setCell ⟨n, i, none⟩ v) x0).alloc x1) x2).alloc x3 := by rw [World.setCell_alloc_past _ _ _ _ (lo (la (lo hn))), ov_set _ _ _ _ _ (la (lo hn)), World.setCell_alloc_past _ _ _ _ (lo hn), ov_set _ _ _ _ _ hn]
@[go_sem] theorem wcell_aaoo (w : World) (x0 : More) (x1 : More) (x2 : Obj) (x3 : Obj) (n i : Nat) (hn : n < w.heap.size) : (((ov (ov (w) x0) x1).alloc x2).alloc x3).cell? ⟨n, i, none⟩ = w.cell? ⟨n, i, none⟩ := by rw [World.cell?_alloc_past _ _ _ (la (lo (lo hn))), World.cell?_alloc_past _ _ _ (lo (lo hn)), ov_cell _ _ _ _ (lo hn), ov_cell _ _ _ _ hn]
@[go_sem] theorem wfrozen_aaoo (w : World) (x0 : More) (x1 : More) (x2 : Obj) (x3 : Obj) (n i : Nat) (hn : n < w.heap.size) : (((ov (ov (w) x0) x1).alloc x2).alloc x3).frozen? ⟨n, i, none⟩ = w.frozen? ⟨n, i, none⟩ := by rw [World.frozen?_alloc_past _ _ _ (la (lo (lo hn))), World.frozen?_alloc_past _ _ _ (lo (lo hn)), ov_frozen _ _ _ _ (lo hn), ov_frozen _ _ _ _ hn]
@[go_sem] theorem wset_aaoo (w : World) (x0 : More) (x1 : More) (x2 : Obj) (x3 : Obj) (n i : Nat) (v : Value) (hn : n < w.heap.size) : (((ov (ov (w) x0) x1).alloc x2).alloc x3).setCell ⟨n, i, none⟩ v = ((ov (ov (w.setCell ⟨n, i, none⟩ v) x0) x1).alloc x2).alloc x3 := by rw [World.setCell_alloc_past _ _ _ _ (la (lo (lo hn))), World.setCell_alloc_past _ _ _ _ (lo (lo hn)), ov_set _ _ _ _ _ (lo hn), ov_set _ _ _ _ _ hn]
@[go_sem] theorem wcell_aaao (w : World) (x0 : More) (x1 : Obj) (x2 : Obj) (x3 : Obj) (n i : Nat) (hn : n < w.heap.size) : ((((ov (w) x0).alloc x1).alloc x2).alloc x3).cell? ⟨n, i, none⟩ = w.cell? ⟨n, i, none⟩ := by rw [World.cell?_alloc_past _ _ _ (la (la (lo hn))), World.cell?_alloc_past _ _ _ (la (lo hn)), World.cell?_alloc_past _ _ _ (lo hn), ov_cell _ _ _ _ hn]
@[go_sem] theorem wfrozen_aaao (w : World) (x0 : More) (x1 : Obj) (x2 : Obj) (x3 : Obj) (n i : Nat) (hn : n < w.heap.size) : ((((ov (w) x0).alloc x1).alloc x2).alloc x3).frozen? ⟨n, i, none⟩ = w.frozen? ⟨n, i, none⟩ := by rw [World.frozen?_alloc_past _ _ _ (la (la (lo hn))), World.frozen?_alloc_past _ _ _ (la (lo hn)), World.frozen?_alloc_past _ _ _ (lo hn), ov_frozen _ _ _ _ hn]
@[go_sem] theorem wset_aaao (w : World) (x0 : More) (x1 : Obj) (x2 : Obj) (x3 : Obj) (n i : Nat) (v : Value) (hn : n < w.heap.size) : ((((ov (w) x0).alloc x1).alloc x2).alloc x3).setCell ⟨n, i, none⟩ v = (((ov (w.setCell ⟨n, i, none⟩ v) x0).alloc x1).alloc x2).alloc x3 := by rw [World.setCell_alloc_past _ _ _ _ (la (la (lo hn))), World.setCell_alloc_past _ _ _ _ (la (lo hn)), World.setCell_alloc_past _ _ _ _ (lo hn), ov_set _ _ _ _ _ hn]
@[go_sem] theorem wcell_ooooo (w : World) (x0 : More) (x1 : More) (x2 : More) (x3 : More) (x4 : More) (n i : Nat) (hn : n < w.heap.size) : (ov (ov (ov (ov (ov (w) x0) x1) x2) x3) x4).cell? ⟨n, i, none⟩ = w.cell? ⟨n, i, none⟩ := by rw [ov_cell _ _ _ _ (lo (lo (lo (lo hn)))), ov_cell _ _ _ _ (lo (lo (lo hn))), ov_cell _ _ _ _ (lo (lo hn)), ov_cell _ _ _ _ (lo hn), ov_cell _ _ _ _ hn]
@[go_sem] theorem wfrozen_ooooo (w : World) (x0 : More) (x1 : More) (x2 : More) (x3 : More) (x4 : More) (n i : Nat) (hn : n < w.heap.size) : (ov (ov (ov (ov (ov (w) x0) x1) x2) x3) x4).frozen? ⟨n, i, none⟩ = w.frozen? ⟨n, i, none⟩ := by rw [ov_frozen _ _ _ _ (lo (lo (lo (lo hn)))), ov_frozen _ _ _ _ (lo (lo (lo hn))), ov_frozen _ _ _ _ (lo (lo hn)), ov_frozen _ _ _ _ (lo hn), ov_frozen _ _ _ _ hn]
@[go_sem] theorem wset_ooooo (w : World) (x0 : More) (x1 : More) (x2 : More) (x3 : More) (x4 : More) (n i : Nat) (v : Value) (hn : n < w.heap.size) : (ov (ov (ov (ov (ov (w) x0) x1) x2) x3) x4).setCell ⟨n, i, none⟩ v = ov (ov (ov (ov (ov (w.setCell ⟨n, i, none⟩ v) x0) x1) x2) x3) x4 := by rw [ov_set _ _ _ _ _ (lo (lo (lo (lo hn)))), ov_set _ _ _ _ _ (lo (lo (lo hn))), ov_set _ _ _ _ _ (lo (lo hn)), ov_set _ _ _ _ _ (lo hn), ov_set _ _ _ _ _ hn]
@[go_sem] theorem wcell_oooao (w : World) (x0 : More) (x1 : Obj) (x2 : More) (x3 : More) (x4 : More) (n i : Nat) (hn : n < w.heap.size) : (ov (ov (ov ((ov (w) x0).alloc x1) x2) x3) x4).cell? ⟨n, i, none⟩ = w.cell? ⟨n, i, none⟩ := by rw [ov_cell _ _ _ _ (lo (lo (la (lo hn)))), ov_cell _ _ _ _ (lo (la (lo hn))), ov_cell _ _ _ _ (la (lo hn)), World.cell?_alloc_past _ _ _ (lo hn), ov_cell _ _ _ _ hn]
@[go_sem] theorem wfrozen_oooao (w : World) (x0 : More) (x1 : Obj) (x2 : More) (x3 : More) (x4 : More) (n i : Nat) (hn : n < w.heap.size) : (ov (ov (ov ((ov (w) x0).alloc x1) x2) x3) x4).frozen? ⟨n, i, none⟩ = w.frozen? ⟨n, i, none⟩ := by rw [ov_frozen _ _ _ _ (lo (lo (la (lo hn)))), ov_frozen _ _ _ _ (lo (la (lo hn))), ov_frozen _ _ _ _ (la (lo hn)), World.frozen?_alloc_past _ _ _ (lo hn), ov_frozen _ _ _ _ hn]
@[go_sem] theorem wset_oooao (w : World) (x0 : More) (x1 : Obj) (x2 : More) (x3 : More) (x4 : More) (n i : Nat) (v : Value) (hn : n < w.heap.size) : (ov (ov (ov ((ov (w) x0).alloc x1) x2) x3) x4).setCell ⟨n, i, none⟩ v = ov (ov (ov ((ov (w.setCell ⟨n, i, none⟩ v) x0).alloc x1) x2) x3) x4 := by rw [ov_set _ _ _ _ _ (lo (lo (la (lo hn)))), ov_set _ _ _ _ _ (lo (la (lo hn))), ov_set _ _ _ _ _ (la (lo hn)), World.setCell_alloc_past _ _ _ _ (lo hn), ov_set _ _ _ _ _ hn]
@[go_sem] theorem wcell_ooaoo (w : World) (x0 : More) (x1 : More) (x2 : Obj) (x3 : More) (x4 : More) (n i : Nat) (hn : n < w.heap.size) : (ov (ov ((ov (ov (w) x0) x1).alloc x2) x3) x4).cell? ⟨n, i, none⟩ = w.cell? ⟨n, i, none⟩ := by rw [ov_cell _ _ _ _ (lo (la (lo (lo hn)))), ov_cell _ _ _ _ (la (lo (lo hn))), World.cell?_alloc_past _ _ _ (lo (lo hn)), ov_cell _ _ _ _ (lo hn), ov_cell _ _ _ _ hn]
@[go_sem] theorem wfrozen_ooaoo (w : World) (x0 : More) (x1 : More) (x2 : Obj) (x3 : More) (x4 : More) (n i : Nat) (hn : n < w.heap.size) : (ov (ov ((ov (ov (w) x0) x1).alloc x2) x3) x4).frozen? ⟨n, i, none⟩ = w.frozen? ⟨n, i, none⟩ := by rw [ov_frozen _ _ _ _ (lo (la (lo (lo hn)))), ov_frozen _ _ _ _ (la (lo (lo hn))), World.frozen?_alloc_past _ _ _ (lo (lo hn)), ov_frozen _ _ _ _ (lo hn), ov_frozen _ _ _ _ hn]
@[go_sem] theorem wset_ooaoo (w : World) (x0 : More) (x1 : More) (x2 : Obj) (x3 : More) (x4 : More) (n i : Nat) (v : Value) (hn : n < w.heap.size) : (ov (ov ((ov (ov (w) x0) x1).alloc x2) x3) x4).setCell ⟨n, i, none⟩ v = ov (ov ((ov (ov (w.setCell ⟨n, i, none⟩ v) x0) x1).alloc x2) x3) x4 := by rw [ov_set _ _ _ _ _ (lo (la (lo (lo hn)))), ov_set _ _ _ _ _ (la (lo (lo hn))), World.setCell_alloc_past _ _ _ _ (lo (lo hn)), ov_set _ _ _ _ _ (lo hn), ov_set _ _ _ _ _ hn]
@[go_sem] theorem wcell_ooaao (w : World) (x0 : More) (x1 : Obj) (x2 : Obj) (x3 : More) (x4 : More) (n i : Nat) (hn : n < w.heap.size) : (ov (ov (((ov (w) x0).alloc x1).alloc x2) x3) x4).cell? ⟨n, i, none⟩ = w.cell? ⟨n, i, none⟩ := by rw [ov_cell _ _ _ _ (lo (la (la (lo hn)))), ov_cell _ _ _ _ (la (la (lo hn))), World.cell?_alloc_past _ _ _ (la (lo hn)), World.cell?_alloc_past _ _ _ (lo hn), ov_cell _ _ _ _ hn]
@[go_sem] theorem wfrozen_ooaao (w : World) (x0 : More) (x1 : Obj) (x2 : Obj) (x3 : More) (x4 : More) (n i : Nat) (hn : n < w.heap.size) : (ov (ov (((ov (w) x0).alloc x1).alloc x2) x3) x4).frozen? ⟨n, i, none⟩ = w.frozen? ⟨n, i, none⟩ := by rw [ov_frozen _ _ _ _ (lo (la (la (lo hn)))), ov_frozen _ _ _ _ (la (la (lo hn))), World.frozen?_alloc_past _ _ _ (la (lo hn)), World.frozen?_alloc_past _ _ _ (lo hn), ov_frozen _ _ _ _ hn]
@[go_sem] theorem wset_ooaao (w : World) (x0 : More) (x1 : Obj) (x2 : Obj) (x3 : More) (x4 : More) (n i : Nat) (v : Value) (hn : n < w.heap.size) : (ov (ov (((ov (w) x0).alloc x1).alloc x2) x3) x4).setCell ⟨n, i, none⟩ v = ov (ov (((ov (w.setCell ⟨n, i, none⟩ v) x0).alloc x1).alloc x2) x3) x4 := by rw [ov_set _ _ _ _ _ (lo (la (la (lo hn)))), ov_set _ _ _ _ _ (la (la (lo hn))), World.setCell_alloc_past _ _ _ _ (la (lo hn)), World.setCell_alloc_past _ _ _ _ (lo hn), ov_set _ _ _ _ _ hn]
@[go_sem] theorem wcell_oaooo (w : World) (x0 : More) (x1 : More) (x2 : More) (x3 : Obj) (x4 : More) (n i : Nat) (hn : n < w.heap.size) : (ov ((ov (ov (ov (w) x0) x1) x2).alloc x3) x4).cell? ⟨n, i, none⟩ = w.cell? ⟨n, i, none⟩ := by rw [ov_cell _ _ _ _ (la (lo (lo (lo hn)))), World.cell?_alloc_past _ _ _ (lo (lo (lo hn))), ov_cell _ _ _ _ (lo (lo hn)), ov_cell _ _ _ _ (lo hn), ov_cell _ _ _ _ hn]
@[go_sem] theorem wfrozen_oaooo (w : World) (x0 : More) (x1 : More) (x2 : More) (x3 : Obj) (x4 : More) (n i : Nat) (hn : n < w.heap.size) : (ov ((ov (ov (ov (w) x0) x1) x2).alloc x3) x4).frozen? ⟨n, i, none⟩ = w.frozen? ⟨n, i, none⟩ := by rw [ov_frozen _ _ _ _ (la (lo (lo (lo hn)))), World.frozen?_alloc_past _ _ _ (lo (lo (lo hn))), ov_frozen _ _ _ _ (lo (lo hn)), ov_frozen _ _ _ _ (lo hn), ov_frozen _ _ _ _ hn]
@[go_sem] theorem wset_oaooo (w : World) (x0 : More) (x1 : More) (x2 : More) (x3 : Obj) (x4 : More) (n i : Nat) (v : Value) (hn : n < w.heap.size) : (ov ((ov (ov (ov (w) x0) x1) x2).alloc x3) x4).setCell ⟨n, i, none⟩ v = ov ((ov (ov (ov (w.setCell ⟨n, i, none⟩ v) x0) x1) x2).alloc x3) x4 := by rw [ov_set _ _ _ _ _ (la (lo (lo (lo hn)))), World.setCell_alloc_past _ _ _ _ (lo (lo (lo hn))), ov_set _ _ _ _ _ (lo (lo hn)), ov_set _ _ _ _ _ (lo hn), ov_set _ _ _ _ _ hn]
@[go_sem] theorem wcell_oaoao (w : World) (x0 : More) (x1 : Obj) (x2 : More) (x3 : Obj) (x4 : More) (n i : Nat) (hn : n < w.heap.size) : (ov ((ov ((ov (w) x0).alloc x1) x2).alloc x3) x4).cell? ⟨n, i, none⟩ = w.cell? ⟨n, i, none⟩ := by rw [ov_cell _ _ _ _ (la (lo (la (lo hn)))), World.cell?_alloc_past _ _ _ (lo (la (lo hn))), ov_cell _ _ _ _ (la (lo hn)), World.cell?_alloc_past _ _ _ (lo hn), ov_cell _ _ _ _ hn]
@[go_sem] theorem wfrozen_oaoao (w : World) (x0 : More) (x1 : Obj) (x2 : More) (x3 : Obj) (x4 : More) (n i : Nat) (hn : n < w.heap.size) : (ov ((ov ((ov (w) x0).alloc x1) x2).alloc x3) x4).frozen? ⟨n, i, none⟩ = w.frozen? ⟨n, i, none⟩ := by rw [ov_frozen _ _ _ _ (la (lo (la (lo hn)))), World.frozen?_alloc_past _ _ _ (lo (la (lo hn))), ov_frozen _ _ _ _ (la (lo hn)), World.frozen?_alloc_past _ _ _ (lo hn), ov_frozen _ _ _ _ hn]
@[go_sem] theorem wset_oaoao (w : World) (x0 : More) (x1 : Obj) (x2 : More) (x3 : Obj) (x4 : More) (n i : Nat) (v : Value) (hn : n < w.heap.size) : (ov ((ov ((ov (w) x0).alloc x1) x2).alloc x3) x4).setCell ⟨n, i, none⟩ v = ov ((ov ((ov (w.setCell ⟨n, i, none⟩ v) x0).alloc x1) x2).alloc x3) x4 := by rw [ov_set _ _ _ _ _ (la (lo (la (lo hn)))), World.setCell_alloc_past _ _ _ _ (lo (la (lo hn))), ov_set _ _ _ _ _ (la (lo hn)), World.setCell_alloc_past _ _ _ _ (lo hn), ov_set _ _ _ _ _ hn]
@[go_sem] theorem wcell_oaaoo (w : World) (x0 : More) (x1 : More) (x2 : Obj) (x3 : Obj) (x4 : More) (n i : Nat) (hn : n < w.heap.size) : (ov (((ov (ov (w) x0) x1).alloc x2).alloc x3) x4).cell? ⟨n, i, none⟩ = w.cell? ⟨n, i, none⟩ := by rw [ov_cell _ _ _ _ (la (la (lo (lo hn)))), World.cell?_alloc_past _ _ _ (la (lo (lo hn))), World.cell?_alloc_past _ _ _ (lo (lo hn)), ov_cell _ _ _ _ (lo hn), ov_cell _ _ _ _ hn]
@[go_sem] theorem wfrozen_oaaoo (w : World) (x0 : More) (x1 : More) (x2 : Obj) (x3 : Obj) (x4 : More) (n i : Nat) (hn : n < w.heap.size) : (ov (((ov (ov (w) x0) x1).alloc x2).alloc x3) x4).frozen? ⟨n, i, none⟩ = w.frozen? ⟨n, i, none⟩ := by rw [ov_frozen _ _ _ _ (la (la (lo (lo hn)))), World.frozen?_alloc_past _ _ _ (la (lo (lo hn))), World.frozen?_alloc_past _ _ _ (lo (lo hn)), ov_frozen _ _ _ _ (lo hn), ov_frozen _ _ _ _ hn]
@[go_sem] theorem wset_oaaoo (w : World) (x0 : More) (x1 : More) (x2 : Obj) (x3 : Obj) (x4 : More) (n i : Nat) (v : Value) (hn : n < w.heap.size) : (ov (((ov (ov (w) x0) x1).alloc x2).alloc x3) x4).setCell ⟨n, i, none⟩ v = ov (((ov (ov (w.setCell ⟨n, i, none⟩ v) x0) x1).alloc x2).alloc x3) x4 := by rw [ov_set _ _ _ _ _ (la (la (lo (lo hn)))), World.setCell_alloc_past _ _ _ _ (la (lo (lo hn))), World.setCell_alloc_past _ _ _ _ (lo (lo hn)), ov_set _ _ _ _ _ (lo hn), ov_set _ _ _ _ _ hn]
@[go_sem] theorem wcell_oaaao (w : World) (x0 : More) (x1 : Obj) (x2 : Obj) (x3 : Obj) (x4 : More) (n i : Nat) (hn : n < w.heap.size) : (ov ((((ov (w) x0).alloc x1).alloc x2).alloc x3) x4).cell? ⟨n, i, none⟩ = w.cell? ⟨n, i, none⟩ := by rw [ov_cell _ _ _ _ (la (la (la (lo hn)))), World.cell?_alloc_past _ _ _ (la (la (lo hn))), World.cell?_alloc_past _ _ _ (la (lo hn)), World.cell?_alloc_past _ _ _ (lo hn), ov_cell _ _ _ _ hn]
@[go_sem] theorem wfrozen_oaaao (w : World) (x0 : More) (x1 : Obj) (x2 : Obj) (x3 : Obj) (x4 : More) (n i : Nat) (hn : n < w.heap.size) : (ov ((((ov (w) x0).alloc x1).alloc x2).alloc x3) x4).frozen? ⟨n, i, none⟩ = w.frozen? ⟨n, i, none⟩ := by rw [ov_frozen _ _ _ _ (la (la (la (lo hn)))), World.frozen?_alloc_past _ _ _ (la (la (lo hn))), World.frozen?_alloc_past _ _ _ (la (lo hn)), World.frozen?_alloc_past _ _ _ (lo hn), ov_frozen _ _ _ _ hn]
@[go_sem] theorem wset_oaaao (w : World) (x0 : More) (x1 : Obj) (x2 : Obj) (x3 : Obj) (x4 : More) (n i : Nat) (v : Value) (hn : n < w.heap.size) : (ov ((((ov (w) x0).alloc x1).alloc x2).alloc x3) x4).setCell ⟨n, i, none⟩ v = ov ((((ov (w.setCell ⟨n, i, none⟩ v) x0).alloc x1).alloc x2).alloc x3) x4 := by rw [ov_set _ _ _ _ _ (la (la (la (lo hn)))), World.setCell_alloc_past _ _ _ _ (la (la (lo hn))), World.setCell_alloc_past _ _ _ _ (la (lo hn)), World.setCell_alloc_past _ _ _ _ (lo hn), ov_set _ _ _ _ _ hn]
@[go_sem] theorem wcell_aoooo (w : World) (x0 : More) (x1 : More) (x2 : More) (x3 : More) (x4 : Obj) (n i : Nat) (hn : n < w.heap.size) : ((ov (ov (ov (ov (w) x0) x1) x2) x3).alloc x4).cell? ⟨n, i, none⟩ = w.cell? ⟨n, i, none⟩ := by rw [World.cell?_alloc_past _ _ _ (lo (lo (lo (lo hn)))), ov_cell _ _ _ _ (lo (lo (lo hn))), ov_cell _ _ _ _ (lo (lo hn)), ov_cell _ _ _ _ (lo hn), ov_cell _ _ _ _ hn]
@[go_sem] theorem wfrozen_aoooo (w : World) (x0 : More) (x1 : More) (x2 : More) (x3 : More) (x4 : Obj) (n i : Nat) (hn : n < w.heap.size) : ((ov (ov (ov (ov (w) x0) x1) x2) x3).alloc x4).frozen? ⟨n, i, none⟩ = w.frozen? ⟨n, i, none⟩ := by rw [World.frozen?_alloc_past _ _ _ (lo (lo (lo (lo hn)))), ov_frozen _ _ _ _ (lo (lo (lo hn))), ov_frozen _ _ _ _ (lo (lo hn)), ov_frozen _ _ _ _ (lo hn), ov_frozen _ _ _ _ hn]
@[go_sem] theorem wset_aoooo (w : World) (x0 : More) (x1 : More) (x2 : More) (x3 : More) (x4 : Obj) (n i : Nat) (v : Value) (hn : n < w.heap.size) : ((ov (ov (ov (ov (w) x0) x1) x2) x3).alloc x4).setCell ⟨n, i, none⟩ v = (ov (ov (ov (ov (w.setCell ⟨n, i, none⟩ v) x0) x1) x2) x3).alloc x4 := by rw [World.setCell_alloc_past _ _ _ _ (lo (lo (lo (lo hn)))), ov_set _ _ _ _ _ (lo (lo (lo hn))), ov_set _ _ _ _ _ (lo (lo hn)), ov_set _ _ _ _ _ (lo hn), ov_set _ _ _ _ _ hn]
@[go_sem] theorem wcell_aooao (w : World) (x0 : More) (x1 : Obj) (x2 : More) (x3 : More) (x4 : Obj) (n i : Nat) (hn : n < w.heap.size) : ((ov (ov ((ov (w) x0).alloc x1) x2) x3).alloc x4).cell? ⟨n, i, none⟩ = w.cell? ⟨n, i, none⟩ := by rw [World.cell?_alloc_past _ _ _ (lo (lo (la (lo hn)))), ov_cell _ _ _ _ (lo (la (lo hn))), ov_cell _ _ _ _ (la (lo hn)), World.cell?_alloc_past _ _ _ (lo hn), ov_cell _ _ _ _ hn]
@[go_sem] theorem wfrozen_aooao (w : World) (x0 : More) (x1 : Obj) (x2 : More) (x3 : More) (x4 : Obj) (n i : Nat) (hn : n < w.heap.size) : ((ov (ov ((ov (w) x0).alloc x1) x2) x3).alloc x4).frozen? ⟨n, i, none⟩ = w.frozen? ⟨n, i, none⟩ := by rw [World.frozen?_alloc_past _ _ _ (lo (lo (la (lo hn)))), ov_frozen _ _ _ _ (lo (la (lo hn))), ov_frozen _ _ _ _ (la (lo hn)), World.frozen?_alloc_past _ _ _ (lo hn), ov_frozen _ _ _ _ hn]
@[go_sem] theorem wset_aooao (w : World) (x0 : More) (x1 : Obj) (x2 : More) (x3 : More) (x4 : Obj) (n i : Nat) (v : Value) (hn : n < w.heap.size) : ((ov (ov ((ov (w) x0).alloc x1) x2) x3).alloc x4).setCell ⟨n, i, none⟩ v = (ov (ov ((ov (w.setCell ⟨n, i, none⟩ v) x0).alloc x1) x2) x3).alloc x4 := by rw [World.setCell_alloc_past _ _ _ _ (lo (lo (la (lo hn)))), ov_set _ _ _ _ _ (lo (la (lo hn))), ov_set _ _ _ _ _ (la (lo hn)), World.setCell_alloc_past _ _ _ _ (lo hn), ov_set _ _ _ _ _ hn]
@[go_sem] theorem wcell_aoaoo (w : World) (x0 : More) (x1 : More) (x2 : Obj) (x3 : More) (x4 : Obj) (n i : Nat) (hn : n < w.heap.size) : ((ov ((ov (ov (w) x0) x1).alloc x2) x3).alloc x4).cell? ⟨n, i, none⟩ = w.cell? ⟨n, i, none⟩ := by rw [World.cell?_alloc_past _ _ _ (lo (la (lo (lo hn)))), ov_cell _ _ _ _ (la (lo (lo hn))), World.cell?_alloc_past _ _ _ (lo (lo hn)), ov_cell _ _ _ _ (lo hn), ov_cell _ _ _ _ hn]
@[go_sem] theorem wfrozen_aoaoo (w : World) (x0 : More) (x1 : More) (x2 : Obj) (x3 : More) (x4 : Obj) (n i : Nat) (hn : n < w.heap.size) : ((ov ((ov (ov (w) x0) x1).alloc x2) x3).alloc x4).frozen? ⟨n, i, none⟩ = w.frozen? ⟨n, i, none⟩ := by rw [World.frozen?_alloc_past _ _ _ (lo (la (lo (lo hn)))), ov_frozen _ _ _ _ (la (lo (lo hn))), World.frozen?_alloc_past _ _ _ (lo (lo hn)), ov_frozen _ _ _ _ (lo hn), ov_frozen _ _ _ _ hn]
@[go_sem] theorem wset_aoaoo (w : World) (x0 : More) (x1 : More) (x2 : Obj) (x3 : More) (x4 : Obj) (n i : Nat) (v : Value) (hn : n < w.heap.size) : ((ov ((ov (ov (w) x0) x1).alloc x2) x3).alloc x4).setCell ⟨n, i, none⟩ v = (ov ((ov (ov (w.setCell ⟨n, i, none⟩ v) x0) x1).alloc x2) x3).alloc x4 := by rw [World.setCell_alloc_past _ _ _ _ (lo (la (lo (lo hn)))), ov_set _ _ _ _ _ (la (lo (lo hn))), World.setCell_alloc_past _ _ _ _ (lo (lo hn)), ov_set _ _ _ _ _ (lo hn), ov_set _ _ _ _ _ hn]
@[go_sem] theorem wcell_aoaao (w : World) (x0 : More) (x1 : Obj) (x2 : Obj) (x3 : More) (x4 : Obj) (n i : Nat) (hn : n < w.heap.size) : ((ov (((ov (w) x0).alloc x1).alloc x2) x3).alloc x4).cell? ⟨n, i, none⟩ = w.cell? ⟨n, i, none⟩ := by rw [World.cell?_alloc_past _ _ _ (lo (la (la (lo hn)))), ov_cell _ _ _ _ (la (la (lo hn))), World.cell?_alloc_past _ _ _ (la (lo hn)), World.cell?_alloc_past _ _ _ (lo hn), ov_cell _ _ _ _ hn]
@[go_sem] theorem wfrozen_aoaao (w : World) (x0 : More) (x1 : Obj) (x2 : Obj) (x3 : More) (x4 : Obj) (n i : Nat) (hn : n < w.heap.size) : ((ov (((ov (w) x0).alloc x1).alloc x2) x3).alloc x4).frozen? ⟨n, i, none⟩ = w.frozen? ⟨n, i, none⟩ := by rw [World.frozen?_alloc_past _ _ _ (lo (la (la (lo hn)))), ov_frozen _ _ _ _ (la (la (lo hn))), World.frozen?_alloc_past _ _ _ (la (lo hn)), World.frozen?_alloc_past _ _ _ (lo hn), ov_frozen _ _ _ _ hn]
@[go_sem] theorem wset_aoaao (w : World) (x0 : More) (x1 : Obj) (x2 : Obj) (x3 : More) (x4 : Obj) (n i : Nat) (v : Value) (hn : n < w.heap.size) : ((ov (((ov (w) x0).alloc x1).alloc x2) x3).alloc x4).setCell ⟨n, i, none⟩ v = (ov (((ov (w.setCell ⟨n, i, none⟩ v) x0).alloc x1).alloc x2) x3).alloc x4 := by rw [World.setCell_alloc_past _ _ _ _ (lo (la (la (lo hn)))), ov_set _ _ _ _ _ (la (la (lo hn))), World.setCell_alloc_past _ _ _ _ (la (lo hn)), World.setCell_alloc_past _ _ _ _ (lo hn), ov_set _ _ _ _ _ hn]
@[go_sem] theorem wcell_aaooo (w : World) (x0 : More) (x1 : More) (x2 : More) (x3 : Obj) (x4 : Obj) (n i : Nat) (hn : n < w.heap.size) : (((ov (ov (ov (w) x0) x1) x2).alloc x3).alloc x4).cell? ⟨n, i, none⟩ = w.cell? ⟨n, i, none⟩ := by rw [World.cell?_alloc_past _ _ _ (la (lo (lo (lo hn)))), World.cell?_alloc_past _ _ _ (lo (lo (lo hn))), ov_cell _ _ _ _ (lo (lo hn)), ov_cell _ _ _ _ (lo hn), ov_cell _ _ _ _ hn]
@[go_sem] theorem wfrozen_aaooo (w : World) (x0 : More) (x1 : More) (x2 : More) (x3 : Obj) (x4 : Obj) (n i : Nat) (hn : n < w.heap.size) : (((ov (ov (ov (w) x0) x1) x2).alloc x3).alloc x4).frozen? ⟨n, i, none⟩ = w.frozen? ⟨n, i, none⟩ := by rw [World.frozen?_alloc_past _ _ _ (la (lo (lo (lo hn)))), World.frozen?_alloc_past _ _ _ (lo (lo (lo hn))), ov_frozen _ _ _ _ (lo (lo hn)), ov_frozen _ _ _ _ (lo hn), ov_frozen _ _ _ _ hn]
@[go_sem] theorem wset_aaooo (w : World) (x0 : More) (x1 : More) (x2 : More) (x3 : Obj) (x4 : Obj) (n i : Nat) (v : Value) (hn : n < w.heap.size) : (((ov (ov (ov (w) x0) x1) x2).alloc x3).alloc x4).setCell ⟨n, i, none⟩ v = ((ov (ov (ov (w.setCell ⟨n, i, none⟩ v) x0) x1) x2).alloc x3).alloc x4 := by rw [World.setCell_alloc_past _ _ _ _ (la (lo (lo (lo hn)))), World.setCell_alloc_past _ _ _ _ (lo (lo (lo hn))), ov_set _ _ _ _ _ (lo (lo hn)), ov_set _ _ _ _ _ (lo hn), ov_set _ _ _ _ _ hn]
@[go_sem] theorem wcell_aaoao (w : World) (x0 : More) (x1 : Obj) (x2 : More) (x3 : Obj) (x4 : Obj) (n i : Nat) (hn : n < w.heap.size) : (((ov ((ov (w) x0).alloc x1) x2).alloc x3).alloc x4).cell? ⟨n, i, none⟩ = w.cell? ⟨n, i, none⟩ := by rw [World.cell?_alloc_past _ _ _ (la (lo (la (lo hn)))), World.cell?_alloc_past _ _ _ (lo (la (lo hn))), ov_cell _ _ _ _ (la (lo hn)), World.cell?_alloc_past _ _ _ (lo hn), ov_cell _ _ _ _ hn]
@[go_sem] theorem wfrozen_aaoao (w : World) (x0 : More) (x1 : Obj) (x2 : More) (x3 : Obj) (x4 : Obj) (n i : Nat) (hn : n < w.heap.size) : (((ov ((ov (w) x0).alloc x1) x2).alloc x3).alloc x4).frozen? ⟨n, i, none⟩ = w.frozen? ⟨n, i, none⟩ := by rw [World.frozen?_alloc_past _ _ _ (la (lo (la (lo hn)))), World.frozen?_alloc_past _ _ _ (lo (la (lo hn))), ov_frozen _ _ _ _ (la (lo hn)), World.frozen?_alloc_past _ _ _ (lo hn), ov_frozen _ _ _ _ hn]
@[go_sem] theorem wset_aaoao (w : World) (x0 : More) (x1 : Obj) (x2 : More) (x3 : Obj) (x4 : Obj) (n i : Nat) (v : Value) (hn : n < w.heap.size) : (((ov ((ov (w) x0).alloc x1) x2).alloc x3).alloc x4).setCell ⟨n, i, none⟩ v = ((ov ((ov (w.setCell ⟨n, i, none⟩ v) x0).alloc x1) x2).alloc x3).alloc x4 := by rw [World.setCell_alloc_past _ _ _ _ (la (lo (la (lo hn)))), World.setCell_alloc_past _ _ _ _ (lo (la (lo hn))), ov_set _ _ _ _ _ (la (lo hn)), World.setCell_alloc_past _ _ _ _ (lo hn), ov_set _ _ _ _ _ hn]
@[go_sem] theorem wcell_aaaoo (w : World) (x0 : More) (x1 : More) (x2 : Obj) (x3 : Obj) (x4 : Obj) (n i : Nat) (hn : n < w.heap.size) : ((((ov (ov (w) x0) x1).alloc x2).alloc x3).alloc x4).cell? ⟨n, i, none⟩ = w.cell? ⟨n, i, none⟩ := by rw [World.cell?_alloc_past _ _ _ (la (la (lo (lo hn)))), World.cell?_alloc_past _ _ _ (la (lo (lo hn))), World.cell?_alloc_past _ _ _ (lo (lo hn)), ov_cell _ _ _ _ (lo hn), ov_cell _ _ _ _ hn]
@[go_sem] theorem wfrozen_aaaoo (w : World) (x0 : More) (x1 : More) (x2 : Obj) (x3 : Obj) (x4 : Obj) (n i : Nat) (hn : n < w.heap.size) : ((((ov (ov (w) x0) x1).alloc x2).alloc x3).alloc x4).frozen? ⟨n, i, none⟩ = w.frozen? ⟨n, i, none⟩ := by rw [World.frozen?_alloc_past _ _ _ (la (la (lo (lo hn)))), World.frozen?_alloc_past _ _ _ (la (lo (lo hn))), World.frozen?_alloc_past _ _ _ (lo (lo hn)), ov_frozen _ _ _ _ (lo hn), ov_frozen _ _ _ _ hn]
@[go_sem] theorem wset_aaaoo (w : World) (x0 : More) (x1 : More) (x2 : Obj) (x3 : Obj) (x4 : Obj) (n i : Nat) (v : Value) (hn : n < w.heap.size) : ((((ov (ov (w) x0) x1).alloc x2).alloc x3).alloc x4).setCell ⟨n, i, none⟩ v = (((ov (ov (w.setCell ⟨n, i, none⟩ v) x0) x1).alloc x2).alloc x3).alloc x4 := by rw [World.setCell_alloc_past _ _ _ _ (la (la (lo (lo hn)))), World.setCell_alloc_past _ _ _ _ (la (lo (lo hn))), World.setCell_alloc_past _ _ _ _ (lo (lo hn)), ov_set _ _ _ _ _ (lo hn), ov_set _ _ _ _ _ hn]
@[go_sem] theorem wcell_aaaao (w : World) (x0 : More) (x1 : Obj) (x2 : Obj) (x3 : Obj) (x4 : Obj) (n i : Nat) (hn : n < w.heap.size) : (((((ov (w) x0).alloc x1).alloc x2).alloc x3).alloc x4).cell? ⟨n, i, none⟩ = w.cell? ⟨n, i, none⟩ := by rw [World.cell?_alloc_past _ _ _ (la (la (la (lo hn)))), World.cell?_alloc_past _ _ _ (la (la (lo hn))), World.cell?_alloc_past _ _ _ (la (lo hn)), World.cell?_alloc_past _ _ _ (lo hn), ov_cell _ _ _ _ hn]
@[go_sem] theorem wfrozen_aaaao (w : World) (x0 : More) (x1 : Obj) (x2 : Obj) (x3 : Obj) (x4 : Obj) (n i : Nat) (hn : n < w.heap.size) : (((((ov (w) x0).alloc x1).alloc x2).alloc x3).alloc x4).frozen? ⟨n, i, none⟩ = w.frozen? ⟨n, i, none⟩ := by rw [World.frozen?_alloc_past _ _ _ (la (la (la (lo hn)))), World.frozen?_alloc_past _ _ _ (la (la (lo hn))), World.frozen?_alloc_past _ _ _ (la (lo hn)), World.frozen?_alloc_past _ _ _ (lo hn), ov_frozen _ _ _ _ hn]
@[go_sem] theorem wset_aaaao (w : World) (x0 : More) (x1 : Obj) (x2 : Obj) (x3 : Obj) (x4 : Obj) (n i : Nat) (v : Value) (hn : n < w.heap.size) : (((((ov (w) x0).alloc x1).alloc x2).alloc x3).alloc x4).setCell ⟨n, i, none⟩ v = ((((ov (w.setCell ⟨n, i, none⟩ v) x0).alloc x1).alloc x2).alloc x3).alloc x4 := by rw [World.setCell_alloc_past _ _ _ _ (la (la (la (lo hn)))), World.setCell_alloc_past _ _ _ _ (la (la (lo hn))), World.setCell_alloc_past _ _ _ _ (la (lo hn)), World.setCell_alloc_past _ _ _ _ (lo hn), ov_set _ _ _ _ _ hn]
@[go_sem] theorem ncell_o (w : World) (x0 : More) (c : Array Value) (t : TypeId) (n i : Nat) (hn : n = w.heap.size) : (ov (w.alloc (.cells c t)) x0).cell? ⟨n, i, none⟩ = c[i]? := by subst hn; rw [ov_cell _ _ _ _ lz, World.cell?_alloc_at _ _ _ _ rfl]
@[go_sem] theorem nfrozen_o (w : World) (x0 : More) (c : Array Value) (t : TypeId) (n i : Nat) (hn : n = w.heap.size) : (ov (w.alloc (.cells c t)) x0).frozen? ⟨n, i, none⟩ = false := by subst hn; rw [ov_frozen _ _ _ _ lz, World.frozen?_alloc_at _ _ _ _ rfl]
@[go_sem] theorem nset_o (w : World) (x0 : More) (c : Array Value) (t : TypeId) (n i : Nat) (v : Value) (hn : n = w.heap.size) : (ov (w.alloc (.cells c t)) x0).setCell ⟨n, i, none⟩ v = ov (w.alloc (.cells (c.setIfInBounds i v) t)) x0 := by subst hn; rw [ov_set _ _ _ _ _ lz, World.setCell_alloc_at _ _ _ _ _ rfl]
@[go_sem] theorem ncell_oo (w : World) (x0 : More) (x1 : More) (c : Array Value) (t : TypeId) (n i : Nat) (hn : n = w.heap.size) : (ov (ov (w.alloc (.cells c t)) x0) x1).cell? ⟨n, i, none⟩ = c[i]? := by subst hn; rw [ov_cell _ _ _ _ (lo lz), ov_cell _ _ _ _ lz, World.cell?_alloc_at _ _ _ _ rfl]
@[go_sem] theorem nfrozen_oo (w : World) (x0 : More) (x1 : More) (c : Array Value) (t : TypeId) (n i : Nat) (hn : n = w.heap.size) : (ov (ov (w.alloc (.cells c t)) x0) x1).frozen? ⟨n, i, none⟩ = false := by subst hn; rw [ov_frozen _ _ _ _ (lo lz), ov_frozen _ _ _ _ lz, World.frozen?_alloc_at _ _ _ _ rfl]
@[go_sem] theorem nset_oo (w : World) (x0 : More) (x1 : More) (c : Array Value) (t : TypeId) (n i : Nat) (v : Value) (hn : n = w.heap.size) : (ov (ov (w.alloc (.cells c t)) x0) x1).setCell ⟨n, i, none⟩ v = ov (ov (w.alloc (.cells (c.setIfInBounds i v) t)) x0) x1 := by subst hn; rw [ov_set _ _ _ _ _ (lo lz), ov_set _ _ _ _ _ lz, World.setCell_alloc_at _ _ _ _ _ rfl]
@[go_sem] theorem ncell_oa (w : World) (x0 : Obj) (x1 : More) (c : Array Value) (t : TypeId) (n i : Nat) (hn : n = w.heap.size) : (ov ((w.alloc (.cells c t)).alloc x0) x1).cell? ⟨n, i, none⟩ = c[i]? := by subst hn; rw [ov_cell _ _ _ _ (la lz), World.cell?_alloc_past _ _ _ lz, World.cell?_alloc_at _ _ _ _ rfl]
@[go_sem] theorem nfrozen_oa (w : World) (x0 : Obj) (x1 : More) (c : Array Value) (t : TypeId) (n i : Nat) (hn : n = w.heap.size) : (ov ((w.alloc (.cells c t)).alloc x0) x1).frozen? ⟨n, i, none⟩ = false := by subst hn; rw [ov_frozen _ _ _ _ (la lz), World.frozen?_alloc_past _ _ _ lz, World.frozen?_alloc_at _ _ _ _ rfl]
@[go_sem] theorem nset_oa (w : World) (x0 : Obj) (x1 : More) (c : Array Value) (t : TypeId) (n i : Nat) (v : Value) (hn : n = w.heap.size) : (ov ((w.alloc (.cells c t)).alloc x0) x1).setCell ⟨n, i, none⟩ v = ov ((w.alloc (.cells (c.setIfInBounds i v) t)).alloc x0) x1 := by subst hn; rw [ov_set _ _ _ _ _ (la lz), World.setCell_alloc_past _ _ _ _ lz, World.setCell_alloc_at _ _ _ _ _ rfl]
@[go_sem] theorem ncell_ao (w : World) (x0 : More) (x1 : Obj) (c : Array Value) (t : TypeId) (n i : Nat) (hn : n = w.heap.size) : ((ov (w.alloc (.cells c t)) x0).alloc x1).cell? ⟨n, i, none⟩ = c[i]? := by subst hn; rw [World.cell?_alloc_past _ _ _ (lo lz), ov_cell _ _ _ _ lz, World.cell?_alloc_at _ _ _ _ rfl]
@[go_sem] theorem nfrozen_ao (w : World) (x0 : More) (x1 : Obj) (c : Array Value) (t : TypeId) (n i : Nat) (hn : n = w.heap.size) : ((ov (w.alloc (.cells c t)) x0).alloc x1).frozen? ⟨n, i, none⟩ = false := by subst hn; rw [World.frozen?_alloc_past _ _ _ (lo lz), ov_frozen _ _ _ _ lz, World.frozen?_alloc_at _ _ _ _ rfl]
@[go_sem] theorem nset_ao (w : World) (x0 : More) (x1 : Obj) (c : Array Value) (t : TypeId) (n i : Nat) (v : Value) (hn : n = w.heap.size) : ((ov (w.alloc (.cells c t)) x0).alloc x1).setCell ⟨n, i, none⟩ v = (ov (w.alloc (.cells (c.setIfInBounds i v) t)) x0).alloc x1 := by subst hn; rw [World.setCell_alloc_past _ _ _ _ (lo lz), ov_set _ _ _ _ _ lz, World.setCell_alloc_at _ _ _ _ _ rfl]
@[go_sem] theorem ncell_ooo (w : World) (x0 : More) (x1 : More) (x2 : More) (c : Array Value) (t : TypeId) (n i : Nat) (hn : n = w.heap.size) : (ov (ov (ov (w.alloc (.cells c t)) x0) x1) x2).cell? ⟨n, i, none⟩ = c[i]? := by subst hn; rw [ov_cell _ _ _ _ (lo (lo lz)), ov_cell _ _ _ _ (lo lz), ov_cell _ _ _ _ lz, World.cell?_alloc_at _ _ _ _ rfl]
@[go_sem] theorem nfrozen_ooo (w : World) (x0 : More) (x1 : More) (x2 : More) (c : Array Value) (t : TypeId) (n i : Nat) (hn : n = w.heap.size) : (ov (ov (ov (w.alloc (.cells c t)) x0) x1) x2).frozen? ⟨n, i, none⟩ = false := by subst hn; rw [ov_frozen _ _ _ _ (lo (lo lz)), ov_frozen _ _ _ _ (lo lz), ov_frozen _ _ _ _ lz, World.frozen?_alloc_at _ _ _ _ rfl]
@[go_sem] theorem nset_ooo (w : World) (x0 : More) (x1 : More) (x2 : More) (c : Array Value) (t : TypeId) (n i : Nat) (v : Value) (hn : n = w.heap.size) : (ov (ov (ov (w.alloc (.cells c t)) x0) x1) x2).setCell ⟨n, i, none⟩ v = ov (ov (ov (w.alloc (.cells (c.setIfInBounds i v) t)) x0) x1) x2 := by subst hn; rw [ov_set _ _ _ _ _ (lo (lo lz)), ov_set _ _ _ _ _ (lo lz), ov_set _ _ _ _ _ lz, World.setCell_alloc_at _ _ _ _ _ rfl]
@[go_sem] theorem ncell_ooa (w : World) (x0 : Obj) (x1 : More) (x2 : More) (c : Array Value) (t : TypeId) (n i : Nat) (hn : n = w.heap.size) : (ov (ov ((w.alloc (.cells c t)).alloc x0) x1) x2).cell? ⟨n, i, none⟩ = c[i]? := by subst hn; rw [ov_cell _ _ _ _ (lo (la lz)), ov_cell _ _ _ _ (la lz), World.cell?_alloc_past _ _ _ lz, World.cell?_alloc_at _ _ _ _ rfl]
@[go_sem] theorem nfrozen_ooa (w : World) (x0 : Obj) (x1 : More) (x2 : More) (c : Array Value) (t : TypeId) (n i : Nat) (hn : n = w.heap.size) : (ov (ov ((w.alloc (.cells c t)).alloc x0) x1) x2).frozen? ⟨n, i, none⟩ = false := by subst hn; rw [ov_frozen _ _ _ _ (lo (la lz)), ov_frozen _ _ _ _ (la lz), World.frozen?_alloc_past _ _ _ lz, World.frozen?_alloc_at _ _ _ _ rfl]
@[go_sem] theorem nset_ooa (w : World) (x0 : Obj) (x1 : More) (x2 : More) (c : Array Value) (t : TypeId) (n i : Nat) (v : Value) (hn : n = w.heap.size) : (ov (ov ((w.alloc (.cells c t)).alloc x0) x1) x2).setCell ⟨n, i, none⟩ v = ov (ov ((w.alloc (.cells (c.setIfInBounds i v) t)).alloc x0) x1) x2 := by subst hn; rw [ov_set _ _ _ _ _ (lo (la lz)), ov_set _ _ _ _ _ (la lz), World.setCell_alloc_past _ _ _ _ lz, World.setCell_alloc_at _ _ _ _ _ rfl]
@[go_sem] theorem ncell_oao (w : World) (x0 : More) (x1 : Obj) (x2 : More) (c : Array Value) (t : TypeId) (n i : Nat) (hn : n = w.heap.size) : (ov ((ov (w.alloc (.cells c t)) x0).alloc x1) x2).cell? ⟨n, i, none⟩ = c[i]? := by subst hn; rw [ov_cell _ _ _ _ (la (lo lz)), World.cell?_alloc_past _ _ _ (lo lz), ov_cell _ _ _ _ lz, World.cell?_alloc_at _ _ _ _ rfl]
@[go_sem] theorem nfrozen_oao (w : World) (x0 : More) (x1 : Obj) (x2 : More) (c : Array Value) (t : TypeId) (n i : Nat) (hn : n = w.heap.size) : (ov ((ov (w.alloc (.cells c t)) x0).alloc x1) x2).frozen? ⟨n, i, none⟩ = false := by subst hn; rw [ov_frozen _ _ _ _ (la (lo lz)), World.frozen?_alloc_past _ _ _ (lo lz), ov_frozen _ _ _ _ lz, World.frozen?_alloc_at _ _ _ _ rfl]
@[go_sem] theorem nset_oao (w : World) (x0 : More) (x1 : Obj) (x2 : More) (c : Array Value) (t : TypeId) (n i : Nat) (v : Value) (hn : n = w.heap.size) : (ov ((ov (w.alloc (.cells c t)) x0).alloc x1) x2).setCell ⟨n, i, none⟩ v = ov ((ov (w.alloc (.cells (c.setIfInBounds i v) t)) x0).alloc x1) x2 := by subst hn; rw [ov_set _ _ _ _ _ (la (lo lz)), World.setCell_alloc_past _ _ _ _ (lo lz), ov_set _ _ _ _ _ lz, World.setCell_alloc_at _ _ _ _ _ rfl]
@[go_sem] theorem ncell_oaa (w : World) (x0 : Obj) (x1 : Obj) (x2 : More) (c : Array Value) (t : TypeId) (n i : Nat) (hn : n = w.heap.size) : (ov (((w.alloc (.cells c t)).alloc x0).alloc x1) x2).cell? ⟨n, i, none⟩ = c[i]? := by subst hn; rw [ov_cell _ _ _ _ (la (la lz)), World.cell?_alloc_past _ _ _ (la lz), World.cell?_alloc_past _ _ _ lz, World.cell?_alloc_at _ _ _ _ rfl]
@[go_sem] theorem nfrozen_oaa (w : World) (x0 : Obj) (x1 : Obj) (x2 : More) (c : Array Value) (t : TypeId) (n i : Nat) (hn : n = w.heap.size) : (ov (((w.alloc (.cells c t)).alloc x0).alloc x1) x2).frozen? ⟨n, i, none⟩ = false := by subst hn; rw [ov_frozen _ _ _ _ (la (la lz)), World.frozen?_alloc_past _ _ _ (la lz), World.frozen?_alloc_past _ _ _ lz, World.frozen?_alloc_at _ _ _ _ rfl]
@[go_sem] theorem nset_oaa (w : World) (x0 : Obj) (x1 : Obj) (x2 : More) (c : Array Value) (t : TypeId) (n i : Nat) (v : Value) (hn : n = w.heap.size) : (ov (((w.alloc (.cells c t)).alloc x0).alloc x1) x2).setCell ⟨n, i, none⟩ v = ov (((w.alloc (.cells (c.setIfInBounds i v) t)).alloc x0).alloc x1) x2 := by subst hn; rw [ov_set _ _ _ _ _ (la (la lz)), World.setCell_alloc_past _ _ _ _ (la lz), World.setCell_alloc_past _ _ _ _ lz, World.setCell_alloc_at _ _ _ _ _ rfl]
@[go_sem] theorem ncell_aoo (w : World) (x0 : More) (x1 : More) (x2 : Obj) (c : Array Value) (t : TypeId) (n i : Nat) (hn : n = w.heap.size) : ((ov (ov (w.alloc (.cells c t)) x0) x1).alloc x2).cell? ⟨n, i, none⟩ = c[i]? := by subst hn; rw [World.cell?_alloc_past _ _ _ (lo (lo lz)), ov_cell _ _ _ _ (lo lz), ov_cell _ _ _ _ lz, World.cell?_alloc_at _ _ _ _ rfl]
@[go_sem] theorem nfrozen_aoo (w : World) (x0 : More) (x1 : More) (x2 : Obj) (c : Array Value) (t : TypeId) (n i : Nat) (hn : n = w.heap.size) : ((ov (ov (w.alloc (.cells c t)) x0) x1).alloc x2).frozen? ⟨n, i, none⟩ = false := by subst hn; rw [World.frozen?_alloc_past _ _ _ (lo (lo lz)), ov_frozen _ _ _ _ (lo lz), ov_frozen _ _ _ _ lz, World.frozen?_alloc_at _ _ _ _ rfl]
@[go_sem] theorem nset_aoo (w : World) (x0 : More) (x1 : More) (x2 : Obj) (c : Array Value) (t : TypeId) (n i : Nat) (v : Value) (hn : n = w.heap.size) : ((ov (ov (w.alloc (.cells c t)) x0) x1).alloc x2).setCell ⟨n, i, none⟩ v = (ov (ov (w.alloc (.cells (c.setIfInBounds i v) t)) x0) x1).alloc x2 := by subst hn; rw [World.setCell_alloc_past _ _ _ _ (lo (lo lz)), ov_set _ _ _ _ _ (lo lz), ov_set _ _ _ _ _ lz, World.setCell_alloc_at _ _ _ _ _ rfl]
@[go_sem] theorem ncell_aoa (w : World) (x0 : Obj) (x1 : More) (x2 : Obj) (c : Array Value) (t : TypeId) (n i : Nat) (hn : n = w.heap.size) : ((ov ((w.alloc (.cells c t)).alloc x0) x1).alloc x2).cell? ⟨n, i, none⟩ = c[i]? := by subst hn; rw [World.cell?_alloc_past _ _ _ (lo (la lz)), ov_cell _ _ _ _ (la lz), World.cell?_alloc_past _ _ _ lz, World.cell?_alloc_at _ _ _ _ rfl]
@[go_sem] theorem nfrozen_aoa (w : World) (x0 : Obj) (x1 : More) (x2 : Obj) (c : Array Value) (t : TypeId) (n i : Nat) (hn : n = w.heap.size) : ((ov ((w.alloc (.cells c t)).alloc x0) x1).alloc x2).frozen? ⟨n, i, none⟩ = false := by subst hn; rw [World.frozen?_alloc_past _ _ _ (lo (la lz)), ov_frozen _ _ _ _ (la lz), World.frozen?_alloc_past _ _ _ lz, World.frozen?_alloc_at _ _ _ _ rfl]
@[go_sem] theorem nset_aoa (w : World) (x0 : Obj) (x1 : More) (x2 : Obj) (c : Array Value) (t : TypeId) (n i : Nat) (v : Value) (hn : n = w.heap.size) : ((ov ((w.alloc (.cells c t)).alloc x0) x1).alloc x2).setCell ⟨n, i, none⟩ v = (ov ((w.alloc (.cells (c.setIfInBounds i v) t)).alloc x0) x1).alloc x2 := by subst hn; rw [World.setCell_alloc_past _ _ _ _ (lo (la lz)), ov_set _ _ _ _ _ (la lz), World.setCell_alloc_past _ _ _ _ lz, World.setCell_alloc_at _ _ _ _ _ rfl]
@[go_sem] theorem ncell_aao (w : World) (x0 : More) (x1 : Obj) (x2 : Obj) (c : Array Value) (t : TypeId) (n i : Nat) (hn : n = w.heap.size) : (((ov (w.alloc (.cells c t)) x0).alloc x1).alloc x2).cell? ⟨n, i, none⟩ = c[i]? := by subst hn; rw [World.cell?_alloc_past _ _ _ (la (lo lz)), World.cell?_alloc_past _ _ _ (lo lz), ov_cell _ _ _ _ lz, World.cell?_alloc_at _ _ _ _ rfl]
@[go_sem] theorem nfrozen_aao (w : World) (x0 : More) (x1 : Obj) (x2 : Obj) (c : Array Value) (t : TypeId) (n i : Nat) (hn : n = w.heap.size) : (((ov (w.alloc (.cells c t)) x0).alloc x1).alloc x2).frozen? ⟨n, i, none⟩ = false := by subst hn; rw [World.frozen?_alloc_past _ _ _ (la (lo lz)), World.frozen?_alloc_past _ _ _ (lo lz), ov_frozen _ _ _ _ lz, World.frozen?_alloc_at _ _ _ _ rfl]
@[go_sem] theorem nset_aao (w : World) (x0 : More) (x1 : Obj) (x2 : Obj) (c : Array Value) (t : TypeId) (n i : Nat) (v : Value) (hn : n = w.heap.size) : (((ov (w.alloc (.cells c t)) x0).alloc x1).alloc x2).setCell ⟨n, i, none⟩ v = ((ov (w.alloc (.cells (c.setIfInBounds i v) t)) x0).alloc x1).alloc x2 := by subst hn; rw [World.setCell_alloc_past _ _ _ _ (la (lo lz)), World.setCell_alloc_past _ _ _ _ (lo lz), ov_set _ _ _ _ _ lz, World.setCell_alloc_at _ _ _ _ _ rfl]
@[go_sem] theorem ncell_oooo (w : World) (x0 : More) (x1 : More) (x2 : More) (x3 : More) (c : Array Value) (t : TypeId) (n i : Nat) (hn : n = w.heap.size) : (ov (ov (ov (ov (w.alloc (.cells c t)) x0) x1) x2) x3).cell? ⟨n, i, none⟩ = c[i]? := by subst hn; rw [ov_cell _ _ _ _ (lo (lo (lo lz))), ov_cell _ _ _ _ (lo (lo lz)), ov_cell _ _ _ _ (lo lz), ov_cell _ _ _ _ lz, World.cell?_alloc_at _ _ _ _ rfl]
@[go_sem] theorem nfrozen_oooo (w : World) (x0 : More) (x1 : More) (x2 : More) (x3 : More) (c : Array Value) (t : TypeId) (n i : Nat) (hn : n = w.heap.size) : (ov (ov (ov (ov (w.alloc (.cells c t)) x0) x1) x2) x3).frozen? ⟨n, i, none⟩ = false := by subst hn; rw [ov_frozen _ _ _ _ (lo (lo (lo lz))), ov_frozen _ _ _ _ (lo (lo lz)), ov_frozen _ _ _ _ (lo lz), ov_frozen _ _ _ _ lz, World.frozen?_alloc_at _ _ _ _ rfl]
@[go_sem] theorem nset_oooo (w : World) (x0 : More) (x1 : More) (x2 : More) (x3 : More) (c : Array Value) (t : TypeId) (n i : Nat) (v : Value) (hn : n = w.heap.size) : (ov (ov (ov (ov (w.alloc (.cells c t)) x0) x1) x2) x3).setCell ⟨n, i, none⟩ v = ov (ov (ov (ov (w.alloc (.cells (c.setIfInBounds i v) t)) x0) x1) x2) x3 := by subst hn; rw [ov_set _ _ _ _ _ (lo (lo (lo lz))), ov_set _ _ _ _ _ (lo (lo lz)), ov_set _ _ _ _ _ (lo lz), ov_set _ _ _ _ _ lz, World.setCell_alloc_at _ _ _ _ _ rfl]
@[go_sem] theorem ncell_oooa (w : World) (x0 : Obj) (x1 : More) (x2 : More) (x3 : More) (c : Array Value) (t : TypeId) (n i : Nat) (hn : n = w.heap.size) : (ov (ov (ov ((w.alloc (.cells c t)).alloc x0) x1) x2) x3).cell? ⟨n, i, none⟩ = c[i]? := by subst hn; rw [ov_cell _ _ _ _ (lo (lo (la lz))), ov_cell _ _ _ _ (lo (la lz)), ov_cell _ _ _ _ (la lz), World.cell?_alloc_past _ _ _ lz, World.cell?_alloc_at _ _ _ _ rfl]
@[go_sem] theorem nfrozen_oooa (w : World) (x0 : Obj) (x1 : More) (x2 : More) (x3 : More) (c : Array Value) (t : TypeId) (n i : Nat) (hn : n = w.heap.size) : (ov (ov (ov ((w.alloc (.cells c t)).alloc x0) x1) x2) x3).frozen? ⟨n, i, none⟩ = false := by subst hn; rw [ov_frozen _ _ _ _ (lo (lo (la lz))), ov_frozen _ _ _ _ (lo (la lz)), ov_frozen _ _ _ _ (la lz), World.frozen?_alloc_past _ _ _ lz, World.frozen?_alloc_at _ _ _ _ rfl]
@[go_sem] theorem nset_oooa (w : World) (x0 : Obj) (x1 : More) (x2 : More) (x3 : More) (c : Array Value) (t : TypeId) (n i : Nat) (v : Value) (hn : n = w.heap.size) : (ov (ov (ov ((w.alloc (.cells c t)).alloc x0) x1) x2) x3).setCell ⟨n, i, none⟩ v = ov (ov (ov ((w.alloc (.cells (c.setIfInBounds i v) t)).alloc x0) x1) x2) x3 := by subst hn; rw [ov_set _ _ _ _ _ (lo (lo (la lz))), ov_set _ _ _ _ _ (lo (la lz)), ov_set _ _ _ _ _ (la lz), World.setCell_alloc_past _ _ _ _ lz, World.setCell_alloc_at _ _ _ _ _ rfl]
@[go_sem] theorem ncell_ooao (w : World) (x0 : More) (x1 : Obj) (x2 : More) (x3 : More) (c : Array Value) (t : TypeId) (n i : Nat) (hn : n = w.heap.size) : (ov (ov ((ov (w.alloc (.cells c t)) x0).alloc x1) x2) x3).cell? ⟨n, i, none⟩ = c[i]? := by subst hn; rw [ov_cell _ _ _ _ (lo (la (lo lz))), ov_cell _ _ _ _ (la (lo lz)), World.cell?_alloc_past _ _ _ (lo lz), ov_cell _ _ _ _ lz, World.cell?_alloc_at _ _ _ _ rfl]
@[go_sem] theorem nfrozen_ooao (w : World) (x0 : More) (x1 : Obj) (x2 : More) (x3 : More) (c : Array Value) (t : TypeId) (n i : Nat) (hn : n = w.heap.size) : (ov (ov ((ov (w.alloc (.cells c t)) x0).alloc x1) x2) x3).frozen? ⟨n, i, none⟩ = false := by subst hn; rw [ov_frozen _ _ _ _ (lo (la (lo lz))), ov_frozen _ _ _ _ (la (lo lz)), World.frozen?_alloc_past _ _ _ (lo lz), ov_frozen _ _ _ _ lz, World.frozen?_alloc_at _ _ _ _ rfl]
@[go_sem] theorem nset_ooao (w : World) (x0 : More) (x1 : Obj) (x2 : More) (x3 : More) (c : Array Value) (t : TypeId) (n i : Nat) (v : Value) (hn : n = w.heap.size) : (ov (ov ((ov (w.alloc (.cells c t)) x0).alloc x1) x2) x3).setCell ⟨n, i, none⟩ v = ov (ov ((ov (w.alloc (.cells (c.setIfInBounds i v) t)) x0).alloc x1) x2) x3 := by subst hn; rw [ov_set _ _ _ _ _ (lo (la (lo lz))), ov_set _ _ _ _ _ (la (lo lz)), World.setCell_alloc_past _ _ _ _ (lo lz), ov_set _ _ _ _ _ lz, World.setCell_alloc_at _ _ _ _ _ rfl]
@[go_sem] theorem ncell_ooaa (w : World) (x0 : Obj) (x1 : Obj) (x2 : More) (x3 : More) (c : Array Value) (t : TypeId) (n i : Nat) (hn : n = w.heap.size) : (ov (ov (((w.alloc (.cells c t)).alloc x0).alloc x1) x2) x3).cell? ⟨n, i, none⟩ = c[i]? := by subst hn; rw [ov_cell _ _ _ _ (lo (la (la lz))), ov_cell _ _ _ _ (la (la lz)), World.cell?_alloc_past _ _ _ (la lz), World.cell?_alloc_past _ _ _ lz, World.cell?_alloc_at _ _ _ _ rfl]
@[go_sem] theorem nfrozen_ooaa (w : World) (x0 : Obj) (x1 : Obj) (x2 : More) (x3 : More) (c : Array Value) (t : TypeId) (n i : Nat) (hn : n = w.heap.size) : (ov (ov (((w.alloc (.cells c t)).alloc x0).alloc x1) x2) x3).frozen? ⟨n, i, none⟩ = false := by subst hn; rw [ov_frozen _ _ _ _ (lo (la (la lz))), ov_frozen _ _ _ _ (la (la lz)), World.frozen?_alloc_past _ _ _ (la lz), World.frozen?_alloc_past _ _ _ lz, World.frozen?_alloc_at _ _ _ _ rfl]
@[go_sem] theorem nset_ooaa (w : World) (x0 : Obj) (x1 : Obj) (x2 : More) (x3 : More) (c : Array Value) (t : TypeId) (n i : Nat) (v : Value) (hn : n = w.heap.size) : (ov (ov (((w.alloc (.cells c t)).alloc x0).alloc x1) x2) x3).setCell ⟨n, i, none⟩ v = ov (ov (((w.alloc (.cells (c.setIfInBounds i v) t)).alloc x0).alloc x1) x2) x3 := by subst hn; rw [ov_set _ _ _ _ _ (lo (la (la lz))), ov_set _ _ _ _ _ (la (la lz)), World.setCell_alloc_past _ _ _ _ (la lz), World.setCell_alloc_past _ _ _ _ lz, World.setCell_alloc_at _ _ _ _ _ rfl]
@[go_sem] theorem ncell_oaoo (w : World) (x0 : More) (x1 : More) (x2 : Obj) (x3 : More) (c : Array Value) (t : TypeId) (n i : Nat) (hn : n = w.heap.size) : (ov ((ov (ov (w.alloc (.cells c t)) x0) x1).alloc x2) x3).cell? ⟨n, i, none⟩ = c[i]? := by subst hn; rw [ov_cell _ _ _ _ (la (lo (lo lz))), World.cell?_alloc_past _ _ _ (lo (lo lz)), ov_cell _ _ _ _ (lo lz), ov_cell _ _ _ _ lz, World.cell?_alloc_at _ _ _ _ rfl]
@[go_sem] theorem nfrozen_oaoo (w : World) (x0 : More) (x1 : More) (x2 : Obj) (x3 : More) (c : Array Value) (t : TypeId) (n i : Nat) (hn : n = w.heap.size) : (ov ((ov (ov (w.alloc (.cells c t)) x0) x1).alloc x2) x3).frozen? ⟨n, i, none⟩ = false := by subst hn; rw [ov_frozen _ _ _ _ (la (lo (lo lz))), World.frozen?_alloc_past _ _ _ (lo (lo lz)), ov_frozen _ _ _ _ (lo lz), ov_frozen _ _ _ _ lz, World.frozen?_alloc_at _ _ _ _ rfl]
@[go_sem] theorem nset_oaoo (w : World) (x0 : More) (x1 : More) (x2 : Obj) (x3 : More) (c : Array Value) (t : TypeId) (n i : Nat) (v : Value) (hn : n = w.heap.size) : (ov ((ov (ov (w.alloc (.cells c t)) x0) x1).alloc x2) x3).setCell ⟨n, i, none⟩ v = ov ((ov (ov (w.alloc (.cells (c.setIfInBounds i v) t)) x0) x1).alloc x2) x3 := by subst hn; rw [ov_set _ _ _ _ _ (la (lo (lo lz))), World.setCell_alloc_past _ _ _ _ (lo (lo lz)), ov_set _ _ _ _ _ (lo lz), ov_set _ _ _ _ _ lz, World.setCell_alloc_at _ _ _ _ _ rfl]
@[go_sem] theorem ncell_oaoa (w : World) (x0 : Obj) (x1 : More) (x2 : Obj) (x3 : More) (c : Array Value) (t : TypeId) (n i : Nat) (hn : n = w.heap.size) : (ov ((ov ((w.alloc (.cells c t)).alloc x0) x1).alloc x2) x3).cell? ⟨n, i, none⟩ = c[i]? := by subst hn; rw [ov_cell _ _ _ _ (la (lo (la lz))), World.cell?_alloc_past _ _ _ (lo (la lz)), ov_cell _ _ _ _ (la lz), World.cell?_alloc_past _ _ _ lz, World.cell?_alloc_at _ _ _ _ rfl]
@[go_sem] theorem nfrozen_oaoa (w : World) (x0 : Obj) (x1 : More) (x2 : Obj) (x3 : More) (c : Array Value) (t : TypeId) (n i : Nat) (hn : n = w.heap.size) : (ov ((ov ((w.alloc (.cells c t)).alloc x0) x1).alloc x2) x3).frozen? ⟨n, i, none⟩ = false := by subst hn; rw [ov_frozen _ _ _ _ (la (lo (la lz))), World.frozen?_alloc_past _ _ _ (lo (la lz)), ov_frozen _ _ _ _ (la lz), World.frozen?_alloc_past _ _ _ lz, World.frozen?_alloc_at _ _ _ _ rfl]
@[go_sem] theorem nset_oaoa (w : World) (x0 : Obj) (x1 : More) (x2 : Obj) (x3 : More) (c : Array Value) (t : TypeId) (n i : Nat) (v : Value) (hn : n = w.heap.size) : (ov ((ov ((w.alloc (.cells c t)).alloc x0) x1).alloc x2) x3).setCell ⟨n, i, none⟩ v = ov ((ov ((w.alloc (.cells (c.setIfInBounds i v) t)).alloc x0) x1).alloc x2) x3 := by subst hn; rw [ov_set _ _ _ _ _ (la (lo (la lz))), World.setCell_alloc_past _ _ _ _ (lo (la lz)), ov_set _ _ _ _ _ (la lz), World.setCell_alloc_past _ _ _ _ lz, World.setCell_alloc_at _ _ _ _ _ rfl]
@[go_sem] theorem ncell_oaao (w : World) (x0 : More) (x1 : Obj) (x2 : Obj) (x3 : More) (c : Array Value) (t : TypeId) (n i : Nat) (hn : n = w.heap.size) : (ov (((ov (w.alloc (.cells c t)) x0).alloc x1).alloc x2) x3).cell? ⟨n, i, none⟩ = c[i]? := by subst hn; rw [ov_cell _ _ _ _ (la (la (lo lz))), World.cell?_alloc_past _ _ _ (la (lo lz)), World.cell?_alloc_past _ _ _ (lo lz), ov_cell _ _ _ _ lz, World.cell?_alloc_at _ _ _ _ rfl]
@[go_sem] theorem nfrozen_oaao (w : World) (x0 : More) (x1 : Obj) (x2 : Obj) (x3 : More) (c : Array Value) (t : TypeId) (n i : Nat) (hn : n = w.heap.size) : (ov (((ov (w.alloc (.cells c t)) x0).alloc x1).alloc x2) x3).frozen? ⟨n, i, none⟩ = false := by subst hn; rw [ov_frozen _ _ _ _ (la (la (lo lz))), World.frozen?_alloc_past _ _ _ (la (lo lz)), World.frozen?_alloc_past _ _ _ (lo lz), ov_frozen _ _ _ _ lz, World.frozen?_alloc_at _ _ _ _ rfl]
@[go_sem] theorem nset_oaao (w : World) (x0 : More) (x1 : Obj) (x2 : Obj) (x3 : More) (c : Array Value) (t : TypeId) (n i : Nat) (v : Value) (hn : n = w.heap.size) : (ov (((ov (w.alloc (.cells c t)) x0).alloc x1).alloc x2) x3).setCell ⟨n, i, none⟩ v = ov (((ov (w.alloc (.cells (c.setIfInBounds i v) t)) x0).alloc x1).alloc x2) x3 := by subst hn; rw [ov_set _ _ _ _ _ (la (la (lo lz))), World.setCell_alloc_past _ _ _ _ (la (lo lz)), World.setCell_alloc_past _ _ _ _ (lo lz), ov_set _ _ _ _ _ lz, World.setCell_alloc_at _ _ _ _ _ rfl]
@[go_sem] theorem ncell_oaaa (w : World) (x0 : Obj) (x1 : Obj) (x2 : Obj) (x3 : More) (c : Array Value) (t : TypeId) (n i : Nat) (hn : n = w.heap.size) : (ov ((((w.alloc (.cells c t)).alloc x0).alloc x1).alloc x2) x3).cell? ⟨n, i, none⟩ = c[i]? := by subst hn; rw [ov_cell _ _ _ _ (la (la (la lz))), World.cell?_alloc_past _ _ _ (la (la lz)), World.cell?_alloc_past _ _ _ (la lz), World.cell?_alloc_past _ _ _ lz, World.cell?_alloc_at _ _ _ _ rfl]
@[go_sem] theorem nfrozen_oaaa (w : World) (x0 : Obj) (x1 : Obj) (x2 : Obj) (x3 : More) (c : Array Value) (t : TypeId) (n i : Nat) (hn : n = w.heap.size) : (ov ((((w.alloc (.cells c t)).alloc x0).alloc x1).alloc x2) x3).frozen? ⟨n, i, none⟩ = false := by subst hn; rw [ov_frozen _ _ _ _ (la (la (la lz))), World.frozen?_alloc_past _ _ _ (la (la lz)), World.frozen?_alloc_past _ _ _ (la lz), World.frozen?_alloc_past _ _ _ lz, World.frozen?_alloc_at _ _ _ _ rfl]
@[go_sem] theorem nset_oaaa (w : World) (x0 : Obj) (x1 : Obj) (x2 : Obj) (x3 : More) (c : Array Value) (t : TypeId) (n i : Nat) (v : Value) (hn : n = w.heap.size) : (ov ((((w.alloc (.cells c t)).alloc x0).alloc x1).alloc x2) x3).setCell ⟨n, i, none⟩ v = ov ((((w.alloc (.cells (c.setIfInBounds i v) t)).alloc x0).alloc x1).alloc x2) x3 := by subst hn; rw [ov_set _ _ _ _ _ (la (la (la lz))), World.setCell_alloc_past _ _ _ _ (la (la lz)), World.setCell_alloc_past _ _ _ _ (la lz), World.setCell_alloc_past _ _ _ _ lz, World.setCell_alloc_at _ _ _ _ _ rfl]
@[go_sem] theorem ncell_aooo (w : World) (x0 : More) (x1 : More) (x2 : More) (x3 : Obj) (c : Array Value) (t : TypeId) (n i : Nat) (hn : n = w.heap.size) : ((ov (ov (ov (w.alloc (.cells c t)) x0) x1) x2).alloc x3).cell? ⟨n, i, none⟩ = c[i]? := by subst hn; rw [World.cell?_alloc_past _ _ _ (lo (lo (lo lz))), ov_cell _ _ _ _ (lo (lo lz)), ov_cell _ _ _ _ (lo lz), ov_cell _ _ _ _ lz, World.cell?_alloc_at _ _ _ _ rfl]
@[go_sem] theorem nfrozen_aooo (w : World) (x0 : More) (x1 : More) (x2 : More) (x3 : Obj) (c : Array Value) (t : TypeId) (n i : Nat) (hn : n = w.heap.size) : ((ov (ov (ov (w.alloc (.cells c t)) x0) x1) x2).alloc x3).frozen? ⟨n, i, none⟩ = false := by subst hn; rw [World.frozen?_alloc_past _ _ _ (lo (lo (lo lz))), ov_frozen _ _ _ _ (lo (lo lz)), ov_frozen _ _ _ _ (lo lz), ov_frozen _ _ _ _ lz, World.frozen?_alloc_at _ _ _ _ rfl]
@[go_sem] theorem nset_aooo (w : World) (x0 : More) (x1 : More) (x2 : More) (x3 : Obj) (c : Array Value) (t : TypeId) (n i : Nat) (v : Value) (hn : n = w.heap.size) : ((ov (ov (ov (w.alloc (.cells c t)) x0) x1) x2).alloc x3).setCell ⟨n, i, none⟩ v = (ov (ov (ov (w.alloc (.cells (c.setIfInBounds i v) t)) x0) x1) x2).alloc x3 := by subst hn; rw [World.setCell_alloc_past _ _ _ _ (lo (lo (lo lz))), ov_set _ _ _ _ _ (lo (lo lz)), ov_set _ _ _ _ _ (lo lz), ov_set _ _ _ _ _ lz, World.setCell_alloc_at _ _ _ _ _ rfl]
@[go_sem] theorem ncell_aooa (w : World) (x0 : Obj) (x1 : More) (x2 : More) (x3 : Obj) (c : Array Value) (t : TypeId) (n i : Nat) (hn : n = w.heap.size) : ((ov (ov ((w.alloc (.cells c t)).alloc x0) x1) x2).alloc x3).cell? ⟨n, i, none⟩ = c[i]? := by subst hn; rw [World.cell?_alloc_past _ _ _ (lo (lo (la lz))), ov_cell _ _ _ _ (lo (la lz)), ov_cell _ _ _ _ (la lz), World.cell?_alloc_past _ _ _ lz, World.cell?_alloc_at _ _ _ _ rfl]
@[go_sem] theorem nfrozen_aooa (w : World) (x0 : Obj) (x1 : More) (x2 : More) (x3 : Obj) (c : Array Value) (t : TypeId) (n i : Nat) (hn : n = w.heap.size) : ((ov (ov ((w.alloc (.cells c t)).alloc x0) x1) x2).alloc x3).frozen? ⟨n, i, none⟩ = false := by subst hn; rw [World.frozen?_alloc_past _ _ _ (lo (lo (la lz))), ov_frozen _ _ _ _ (lo (la lz)), ov_frozen _ _ _ _ (la lz), World.frozen?_alloc_past _ _ _ lz, World.frozen?_alloc_at _ _ _ _ rfl]
@[go_sem] theorem nset_aooa (w : World) (x0 : Obj) (x1 : More) (x2 : More) (x3 : Obj) (c : Array Value) (t : TypeId) (n i : Nat) (v : Value) (hn : n = w.heap.size) : ((ov (ov ((w.alloc (.cells c t)).alloc x0) x1) x2).alloc x3).setCell ⟨n, i, none⟩ v = (ov (ov ((w.alloc (.cells (c.setIfInBounds i v) t)).alloc x0) x1) x2).alloc x3 := by subst hn; rw [World.setCell_alloc_past _ _ _ _ (lo (lo (la lz))), ov_set _ _ _ _ _ (lo (la lz)), ov_set _ _ _ _ _ (la lz), World.setCell_alloc_past _ _ _ _ lz, World.setCell_alloc_at _ _ _ _ _ rfl]
@[go_sem] theorem ncell_aoao (w : World) (x0 : More) (x1 : Obj) (x2 : More) (x3 : Obj) (c : Array Value) (t : TypeId) (n i : Nat) (hn : n = w.heap.size) : ((ov ((ov (w.alloc (.cells c t)) x0).alloc x1) x2).alloc x3).cell? ⟨n, i, none⟩ = c[i]? := by subst hn; rw [World.cell?_alloc_past _ _ _ (lo (la (lo lz))), ov_cell _ _ _ _ (la (lo lz)), World.cell?_alloc_past _ _ _ (lo lz), ov_cell _ _ _ _ lz, World.cell?_alloc_at _ _ _ _ rfl]
@[go_sem] theorem nfrozen_aoao (w : World) (x0 : More) (x1 : Obj) (x2 : More) (x3 : Obj) (c : Array Value) (t : TypeId) (n i : Nat) (hn : n = w.heap.size) : ((ov ((ov (w.alloc (.cells c t)) x0).alloc x1) x2).alloc x3).frozen? ⟨n, i, none⟩ = false := by subst hn; rw [World.frozen?_alloc_past _ _ _ (lo (la (lo lz))), ov_frozen _ _ _ _ (la (lo lz)), World.frozen?_alloc_past _ _ _ (lo lz), ov_frozen _ _ _ _ lz, World.frozen?_alloc_at _ _ _ _ rfl]
@[go_sem] theorem nset_aoao (w : World) (x0 : More) (x1 : Obj) (x2 : More) (x3 : Obj) (c : Array Value) (t : TypeId) (n i : Nat) (v : Value) (hn : n = w.heap.size) : ((ov ((ov (w.alloc (.cells c t)) x0).alloc x1) x2).alloc x3).setCell ⟨n, i, none⟩ v = (ov ((ov (w.alloc (.cells (c.setIfInBounds i v) t)) x0).alloc x1) x2).alloc x3 := by subst hn; rw [World.setCell_alloc_past _ _ _ _ (lo (la (lo lz))), ov_set _ _ _ _ _ (la (lo lz)), World.setCell_alloc_past _ _ _ _ (lo lz), ov_set _ _ _ _ _ lz, World.setCell_alloc_at _ _ _ _ _ rfl]
@[go_sem] theorem ncell_aoaa (w : World) (x0 : Obj) (x1 : Obj) (x2 : More) (x3 : Obj) (c : Array Value) (t : TypeId) (n i : Nat) (hn : n = w.heap.size) : ((ov (((w.alloc (.cells c t)).alloc x0).alloc x1) x2).alloc x3).cell? ⟨n, i, none⟩ = c[i]? := by subst hn; rw [World.cell?_alloc_past _ _ _ (lo (la (la lz))), ov_cell _ _ _ _ (la (la lz)), World.cell?_alloc_past _ _ _ (la lz), World.cell?_alloc_past _ _ _ lz, World.cell?_alloc_at _ _ _ _ rfl]
@[go_sem] theorem nfrozen_aoaa (w : World) (x0 : Obj) (x1 : Obj) (x2 : More) (x3 : Obj) (c : Array Value) (t : TypeId) (n i : Nat) (hn : n = w.heap.size) : ((ov (((w.alloc (.cells c t)).alloc x0).alloc x1) x2).alloc x3).frozen? ⟨n, i, none⟩ = false := by subst hn; rw [World.frozen?_alloc_past _ _ _ (lo (la (la lz))), ov_frozen _ _ _ _ (la (la lz)), World.frozen?_alloc_past _ _ _ (la lz), World.frozen?_alloc_past _ _ _ lz, World.frozen?_alloc_at _ _ _ _ rfl]
@[go_sem] theorem nset_aoaa (w : World) (x0 : Obj) (x1 : Obj) (x2 : More) (x3 : Obj) (c : Array Value) (t : TypeId) (n i : Nat) (v : Value) (hn : n = w.heap.size) : ((ov (((w.alloc (.cells c t)).alloc x0).alloc x1) x2).alloc x3).setCell ⟨n, i, none⟩ v = (ov (((w.alloc (.cells (c.setIfInBounds i v) t)).alloc x0).alloc x1) x2).alloc x3 := by subst hn; rw [World.setCell_alloc_past _ _ _ _ (lo (la (la lz))), ov_set _ _ _ _ _ (la (la lz)), World.setCell_alloc_past _ _ _ _ (la lz), World.setCell_alloc_past _ _ _ _ lz, World.setCell_alloc_at _ _ _ _ _ rfl]
@[go_sem] theorem ncell_aaoo (w : World) (x0 : More) (x1 : More) (x2 : Obj) (x3 : Obj) (c : Array Value) (t : TypeId) (n i : Nat) (hn : n = w.heap.size) : (((ov (ov (w.alloc (.cells c t)) x0) x1).alloc x2).alloc x3).cell? ⟨n, i, none⟩ = c[i]? := by subst hn; rw [World.cell?_alloc_past _ _ _ (la (lo (lo lz))), World.cell?_alloc_past _ _ _ (lo (lo lz)), ov_cell _ _ _ _ (lo lz), ov_cell _ _ _ _ lz, World.cell?_alloc_at _ _ _ _ rfl]
@[go_sem] theorem nfrozen_aaoo (w : World) (x0 : More) (x1 : More) (x2 : Obj) (x3 : Obj) (c : Array Value) (t : TypeId) (n i : Nat) (hn : n = w.heap.size) : (((ov (ov (w.alloc (.cells c t)) x0) x1).alloc x2).alloc x3).frozen? ⟨n, i, none⟩ = false := by subst hn; rw [World.frozen?_alloc_past _ _ _ (la (lo (lo lz))), World.frozen?_alloc_past _ _ _ (lo (lo lz)), ov_frozen _ _ _ _ (lo lz), ov_frozen _ _ _ _ lz, World.frozen?_alloc_at _ _ _ _ rfl]
@[go_sem] theorem nset_aaoo (w : World) (x0 : More) (x1 : More) (x2 : Obj) (x3 : Obj) (c : Array Value) (t : TypeId) (n i : Nat) (v : Value) (hn : n = w.heap.size) : (((ov (ov (w.alloc (.cells c t)) x0) x1).alloc x2).alloc x3).setCell ⟨n, i, none⟩ v = ((ov (ov (w.alloc (.cells (c.setIfInBounds i v) t)) x0) x1).alloc x2).alloc x3 := by subst hn; rw [World.setCell_alloc_past _ _ _ _ (la (lo (lo lz))), World.setCell_alloc_past _ _ _ _ (lo (lo lz)), ov_set _ _ _ _ _ (lo lz), ov_set _ _ _ _ _ lz, World.setCell_alloc_at _ _ _ _ _ rfl]
@[go_sem] theorem ncell_aaoa (w : World) (x0 : Obj) (x1 : More) (x2 : Obj) (x3 : Obj) (c : Array Value) (t : TypeId) (n i : Nat) (hn : n = w.heap.size) : (((ov ((w.alloc (.cells c t)).alloc x0) x1).alloc x2).alloc x3).cell? ⟨n, i, none⟩ = c[i]? := by subst hn; rw [World.cell?_alloc_past _ _ _ (la (lo (la lz))), World.cell?_alloc_past _ _ _ (lo (la lz)), ov_cell _ _ _ _ (la lz), World.cell?_alloc_past _ _ _ lz, World.cell?_alloc_at _ _ _ _ rfl]
@[go_sem] theorem nfrozen_aaoa (w : World) (x0 : Obj) (x1 : More) (x2 : Obj) (x3 : Obj) (c : Array Value) (t : TypeId) (n i : Nat) (hn : n = w.heap.size) : (((ov ((w.alloc (.cells c t)).alloc x0) x1).alloc x2).alloc x3).frozen? ⟨n, i, none⟩ = false := by subst hn; rw [World.frozen?_alloc_past _ _ _ (la (lo (la lz))), World.frozen?_alloc_past _ _ _ (lo (la lz)), ov_frozen _ _ _ _ (la lz), World.frozen?_alloc_past _ _ _ lz, World.frozen?_alloc_at _ _ _ _ rfl]
@[go_sem] theorem nset_aaoa (w : World) (x0 : Obj) (x1 : More) (x2 : Obj) (x3 : Obj) (c : Array Value) (t : TypeId) (n i : Nat) (v : Value) (hn : n = w.heap.size) : (((ov ((w.alloc (.cells c t)).alloc x0) x1).alloc x2).alloc x3).setCell ⟨n, i, none⟩ v = ((ov ((w.alloc (.cells (c.setIfInBounds i v) t)).alloc x0) x1).alloc x2).alloc x3 := by subst hn; rw [World.setCell_alloc_past _ _ _ _ (la (lo (la lz))), World.setCell_alloc_past _ _ _ _ (lo (la lz)), ov_set _ _ _ _ _ (la lz), World.setCell_alloc_past _ _ _ _ lz, World.setCell_alloc_at _ _ _ _ _ rfl]
@[go_sem] theorem ncell_aaao (w : World) (x0 : More) (x1 : Obj) (x2 : Obj) (x3 : Obj) (c : Array Value) (t : TypeId) (n i : Nat) (hn : n = w.heap.size) : ((((ov (w.alloc (.cells c t)) x0).alloc x1).alloc x2).alloc x3).cell? ⟨n, i, none⟩ = c[i]? := by subst hn; rw [World.cell?_alloc_past _ _ _ (la (la (lo lz))), World.cell?_alloc_past _ _ _ (la (lo lz)), World.cell?_alloc_past _ _ _ (lo lz), ov_cell _ _ _ _ lz, World.cell?_alloc_at _ _ _ _ rfl]
@[go_sem] theorem nfrozen_aaao (w : World) (x0 : More) (x1 : Obj) (x2 : Obj) (x3 : Obj) (c : Array Value) (t : TypeId) (n i : Nat) (hn : n = w.heap.size) : ((((ov (w.alloc (.cells c t)) x0).alloc x1).alloc x2).alloc x3).frozen? ⟨n, i, none⟩ = false := by subst hn; rw [World.frozen?_alloc_past _ _ _ (la (la (lo lz))), World.frozen?_alloc_past _ _ _ (la (lo lz)), World.frozen?_alloc_past _ _ _ (lo lz), ov_frozen _ _ _ _ lz, World.frozen?_alloc_at _ _ _ _ rfl]
@[go_sem] theorem nset_aaao (w : World) (x0 : More) (x1 : Obj) (x2 : Obj) (x3 : Obj) (c : Array Value) (t : TypeId) (n i : Nat) (v : Value) (hn : n = w.heap.size) : ((((ov (w.alloc (.cells c t)) x0).alloc x1).alloc x2).alloc x3).setCell ⟨n, i, none⟩ v = (((ov (w.alloc (.cells (c.setIfInBounds i v) t)) x0).alloc x1).alloc x2).alloc x3 := by subst hn; rw [World.setCell_alloc_past _ _ _ _ (la (la (lo lz))), World.setCell_alloc_past _ _ _ _ (la (lo lz)), World.setCell_alloc_past _ _ _ _ (lo lz), ov_set _ _ _ _ _ lz, World.setCell_alloc_at _ _ _ _ _ rfl]
end Go.Proofs.Ytabmfaamadbefaa

/- Plain definitions and laws on numbers and lists, no program. -/
namespace Go.Proofs.Ytabmfaamadbefaa

def inR (n a b : Int) : Bool := decide (a ≤ n) && decide (n ≤ b)

/-- The greatest common divisor of the magnitudes. -/
def gcdL (l : List Int) : Nat := l.foldl (fun g n => Nat.gcd g n.natAbs) 0

/-- The reference's GcdOf. -/
def gcdS (a b : Int) : Int := if a < -9223372036854775807 ∨ b < -9223372036854775807 then 0 else (Int.gcd a b : Int)

theorem gcd_step (a b : Nat) : Nat.gcd b (a % b) = Nat.gcd a b := by
  rw [Nat.gcd_comm, ← Nat.gcd_rec, Nat.gcd_comm]

theorem gcdL_take_succ (l : List Int) (k : Nat) (h : k < l.length) : gcdL (l.take (k+1)) = Nat.gcd (gcdL (l.take k)) l[k].natAbs := by
  unfold gcdL
  rw [List.take_succ_eq_append_getElem h, List.foldl_append]
  rfl


theorem gcdL_le_aux (B : Nat) : ∀ (l : List Int) (g : Nat), g ≤ B → (∀ x ∈ l, x.natAbs ≤ B) → l.foldl (fun g n => Nat.gcd g n.natAbs) g ≤ B := by
  intro l
  induction l with
  | nil => intro g hg _; exact hg
  | cons x r ih =>
    intro g hg h
    refine ih _ ?_ (fun y hy => h y (List.mem_cons_of_mem _ hy))
    rcases Nat.eq_zero_or_pos g with h0 | h0
    · subst h0; show Nat.gcd 0 x.natAbs ≤ B; rw [Nat.gcd_zero_left]; exact h x List.mem_cons_self
    · exact Nat.le_trans (Nat.gcd_le_left _ h0) hg
theorem gcdL_le (B : Nat) (l : List Int) (h : ∀ x ∈ l, x.natAbs ≤ B) : gcdL l ≤ B := gcdL_le_aux B l 0 (Nat.zero_le _) h

theorem gcdS_bd (a b : Int) (ha : a ≤ 9223372036854775807) (hb : b ≤ 9223372036854775807) : 0 ≤ gcdS a b ∧ gcdS a b ≤ 9223372036854775807 := by
  unfold gcdS
  by_cases h : a < -9223372036854775807 ∨ b < -9223372036854775807
  · rw [if_pos h]; omega
  · rw [if_neg h]
    refine ⟨by omega, ?_⟩
    have : Int.gcd a b ≤ 9223372036854775807 := by
      unfold Int.gcd
      rcases Nat.eq_zero_or_pos a.natAbs with h0 | h0
      · rw [h0, Nat.gcd_zero_left]; omega
      · exact Nat.le_trans (Nat.gcd_le_left _ h0) (by omega)
    omega
theorem gcdS_eq (a b : Int) (ha : -9223372036854775807 ≤ a) (hb : -9223372036854775807 ≤ b) : gcdS a b = (Nat.gcd a.natAbs b.natAbs : Int) := by
  unfold gcdS; rw [if_neg (by omega)]; rfl
theorem inR_iff {n a b : Int} : inR n a b = true ↔ a ≤ n ∧ n ≤ b := by simp [inR]
theorem gcdS3 (a b c : Int) (ha : -9223372036854775807 ≤ a) (hb : -9223372036854775807 ≤ b) (hc : -9223372036854775807 ≤ c) : gcdS (gcdS a b) c = (gcdL [a, b, c] : Int) := by
  rw [gcdS_eq a b ha hb, gcdS_eq _ _ (by omega) hc]
  simp [gcdL]
theorem gcdS4 (a b c d : Int) (ha : -9223372036854775807 ≤ a) (hb : -9223372036854775807 ≤ b) (hc : -9223372036854775807 ≤ c) (hd : -9223372036854775807 ≤ d) : gcdS (gcdS a b) (gcdS c d) = (gcdL [a, b, c, d] : Int) := by
  rw [gcdS_eq a b ha hb, gcdS_eq c d hc hd, gcdS_eq _ _ (by omega) (by omega)]
  simp [gcdL, Nat.gcd_assoc]

theorem chain2 (a b : Bool) : a = false ∨ (a = true ∧ b = false) ∨ (a = true ∧ b = true) := by cases a <;> cases b <;> simp
theorem chain3 (a b c : Bool) : a = false ∨ (a = true ∧ b = false) ∨ (a = true ∧ b = true ∧ c = false) ∨ (a = true ∧ b = true ∧ c = true) := by cases a <;> cases b <;> cases c <;> simp
theorem chain4 (a b c d : Bool) : a = false ∨ (a = true ∧ b = false) ∨ (a = true ∧ b = true ∧ c = false) ∨ (a = true ∧ b = true ∧ c = true ∧ d = false) ∨ (a = true ∧ b = true ∧ c = true ∧ d = true) := by
  cases a <;> cases b <;> cases c <;> cases d <;> simp
theorem chain5 (a b c d e : Bool) : a = false ∨ (a = true ∧ b = false) ∨ (a = true ∧ b = true ∧ c = false) ∨ (a = true ∧ b = true ∧ c = true ∧ d = false) ∨ (a = true ∧ b = true ∧ c = true ∧ d = true ∧ e = false) ∨ (a = true ∧ b = true ∧ c = true ∧ d = true ∧ e = true) := by
  cases a <;> cases b <;> cases c <;> cases d <;> cases e <;> simp

/-- The program's PieceOk. -/
def pieceOk (a b c d : Int) : Bool := inR d 1 1000000000000 && inR a (-1000000000000) 1000000000000 && inR b (-1000000000000) 1000000000000 && inR c (-1000000000000) 1000000000000 && decide (gcdL [a, b, c, d] = 1)

end Go.Proofs.Ytabmfaamadbefaa

/- Contracts of the small functions on numbers. Condition: the numbers are ints. -/
namespace Go.Proofs.Ytabmfaamadbefaa
open Go.RowKit

theorem l01In_any (n a b : Int) (w : World) :
    Calls Try.prog 81 #[.int .i64 n, .int .i64 a, .int .i64 b] w fun e w' => e = .returned (.bool (inR n a b)) ∧ w = w' := by
  unfold inR
  by_cases h1 : a ≤ n
  · by_cases h2 : n ≤ b
    all_goals
      go_enter Try.func81, Try.ntmps81
      go_wp2
      go_ret
      exact ⟨by simp; omega, rfl⟩
  · go_enter Try.func81, Try.ntmps81
    go_wp2
    go_ret
    exact ⟨by simp; omega, rfl⟩

theorem l01In_eq {n a b : Int} {v : Bool} {w : World} (h : inR n a b = v) :
    Calls Try.prog 81 #[.int .i64 n, .int .i64 a, .int .i64 b] w fun e w' => e = .returned (.bool v) ∧ w = w' := by
  subst h; exact l01In_any n a b w

theorem inRange_any (n a b : Int) (w : World) :
    Calls Try.prog 69 #[.int .i64 n, .int .i64 a, .int .i64 b] w fun e w' => e = .returned (.bool (inR n a b)) ∧ w = w' := by
  unfold inR
  by_cases h1 : a ≤ n
  · by_cases h2 : n ≤ b
    all_goals
      go_enter Try.func69, Try.ntmps69
      go_wp2
      go_ret
      exact ⟨by simp; omega, rfl⟩
  · go_enter Try.func69, Try.ntmps69
    go_wp2
    go_ret
    exact ⟨by simp; omega, rfl⟩

theorem inRange_eq {n a b : Int} {v : Bool} {w : World} (h : inR n a b = v) :
    Calls Try.prog 69 #[.int .i64 n, .int .i64 a, .int .i64 b] w fun e w' => e = .returned (.bool v) ∧ w = w' := by
  subst h; exact inRange_any n a b w

theorem l02Turn_any (a b : Int) (w : World) (hb : 0 < b) (ha : 0 ≤ a) :
    Calls Try.prog 101 #[.int .i64 a, .int .i64 b] w fun e w' => e = .returned (.tuple #[.int .i64 b, .int .i64 (a % b)]) ∧ ∃ n, w' = w.drewN n := by
  have h1 : (b == 0) = false := by simp; omega
  go_enter Try.func101, Try.ntmps101
  go_wp2
  go_quiet (fail)
  go_wp2
  go_ret2
  exact ⟨rfl, _, rfl⟩


theorem spec_GcdOf_any (a b : Int) (w : World) (ha : -9223372036854775808 ≤ a) (hb : -9223372036854775808 ≤ b) (ha' : a ≤ 9223372036854775807) (hb' : b ≤ 9223372036854775807) :
    Calls Try.prog 86 #[.int .i64 a, .int .i64 b] w fun e w' => e = .returned (.int .i64 (gcdS a b)) ∧ ∃ n, w' = w.drewN n := by
  by_cases h1 : a < -9223372036854775807
  · have HS := Lib.hid (show 0 = gcdS a b by unfold gcdS; rw [if_pos (.inl h1)])
    go_enter Try.func86, Try.ntmps86
    go_wp2
    go_ret
    exact ⟨ret_int HS.out, 0, rfl⟩
  by_cases h2 : b < -9223372036854775807
  · have HS := Lib.hid (show 0 = gcdS a b by unfold gcdS; rw [if_pos (.inr h2)])
    go_enter Try.func86, Try.ntmps86
    go_wp2
    go_ret
    exact ⟨ret_int HS.out, 0, rfl⟩
  have HS := Lib.hid (show (Nat.gcd a.natAbs b.natAbs : Int) = gcdS a b by unfold gcdS; rw [if_neg (by omega)]; rfl)
  go_enter Try.func86, Try.ntmps86
  go_wp2
  all_goals
    go_loopw [0, 1] (fun t0 t1 wr => ∃ x y : Nat, t0 = .int .i64 x ∧ t1 = .int .i64 y ∧ x ≤ 9223372036854775807 ∧ y ≤ 9223372036854775807 ∧ Hid (Nat.gcd x y = Nat.gcd a.natAbs b.natAbs) ∧ ∃ n, wr = w.drewN n) (fun _ t1 _ => (intOf t1).toNat)
    case atStart => exact ⟨a.natAbs, b.natAbs, int_eq (by omega), int_eq (by omega), by omega, by omega, Lib.hid rfl, 0, rfl⟩
    case round =>
      obtain ⟨x, y, rfl, rfl, hx, hy, hg, n, rfl⟩ := hrel
      by_cases hy0 : y = 0
      · subst hy0
        go_wp2
        go_ret
        refine ⟨ret_int ?_, _, rfl⟩
        rw [← HS.out, ← hg.out]; simp
      · have h3 : ((y : Int) == 0) = false := by simp; omega
        have h4 : ((y : Int) != 0) = true := by simp; omega
        go_wp2_with (go_at_call 101; refine (l02Turn_any _ _ _ (by omega) (by omega)).mono ?_; rintro e w' ⟨rfl, m, rfl⟩)
        have hG := Lib.hid (gcd_step x y)
        go_roundw
        case rel => exact ⟨y, x % y, rfl, by go_num, hy, by have := Nat.mod_lt x (Nat.pos_of_ne_zero hy0); omega, Lib.hid (hG.out.trans hg.out), _, rfl⟩
        case measure => simp [intOf]; have := Nat.mod_lt x (Nat.pos_of_ne_zero hy0); omega


theorem magnitude_any (n : Int) (w : World) (ha : -9223372036854775808 ≤ n) (ha' : n ≤ 9223372036854775807) :
    Calls Try.prog 98 #[.int .i64 n] w fun e w' => e = .returned (.int .u64 n.natAbs) ∧ w = w' := by
  by_cases h1 : n < 0
  · go_enter Try.func98, Try.ntmps98
    go_wp2
    go_ret
    exact ⟨ret_int (by first | omega | (simp [IntKind.wrap_u64]; omega)), rfl⟩
  · go_enter Try.func98, Try.ntmps98
    go_wp2
    go_ret
    exact ⟨ret_int (by first | omega | (simp [IntKind.wrap_u64]; omega)), rfl⟩

set_option maxHeartbeats 400000 in
theorem gcdOfAll_any (xs : List Int) (b : Nat) (c : Nat) (w : World) (hl : xs.length ≤ 1000) (hr : ∀ x ∈ xs, -9223372036854775808 ≤ x ∧ x ≤ 9223372036854775807)
    (hcell : ∀ (k : Nat) (h : k < xs.length), w.cell? ⟨b, k, none⟩ = some (.int .i64 xs[k])) :
    Calls Try.prog 70 #[.slice (some ⟨b, 0, none⟩) xs.length c] w fun e w' => e = .returned (.int .u64 (gcdL xs)) ∧ ∃ n, w' = w.drewN n := by
  go_enter Try.func70, Try.ntmps70
  go_wp2
  go_loopw [3, 5, 6, 9] (fun t3 _ _ t9 wr => ∃ k : Nat, k ≤ xs.length ∧ t9 = .int .i64 k ∧ t3 = .int .u64 (gcdL (xs.take k)) ∧ ∃ n, wr = w.drewN n) (fun _ _ _ t9 _ => xs.length - (intOf t9).toNat)
  case atStart => exact ⟨0, Nat.zero_le _, rfl, rfl, 0, rfl⟩
  case round =>
    obtain ⟨k, hk, rfl, rfl, n, rfl⟩ := hrel
    by_cases hlt : k < xs.length
    · have hc := hcell k hlt
      have hrk := hr xs[k] (List.getElem_mem hlt)
      have hG := Lib.hid (gcdL_take_succ xs k hlt)
      go_wp2_with (go_at_call 98; refine (magnitude_any _ _ (by omega) (by omega)).mono ?_; rintro e w' ⟨rfl, rfl⟩)
      go_loopw [3, 6] (fun t3 t6 wr => ∃ x y : Nat, t3 = .int .u64 x ∧ t6 = .int .u64 y ∧ x ≤ 18446744073709551615 ∧ y ≤ 18446744073709551615 ∧ Hid (Nat.gcd x y = gcdL (xs.take (k+1))) ∧ ∃ n, wr = w.drewN n) (fun _ t6 _ => (intOf t6).toNat)
      case atStart => exact ⟨_, _, rfl, rfl, by have := gcdL_le 9223372036854775808 (xs.take k) (fun x hx => by have := hr x (List.mem_of_mem_take hx); omega); omega, by omega, Lib.hid hG.out.symm, _, rfl⟩
      case round =>
        obtain ⟨x, y, rfl, rfl, hx, hy, hg, m, rfl⟩ := hrel
        by_cases hy0 : y = 0
        · subst hy0
          go_wp2
          go_roundw
          case rel => exact ⟨k + 1, by omega, by go_num, int_eq (by rw [← hg.out]; simp), _, rfl⟩
          case measure => simp [intOf]; omega
        · have h3 : ((y : Int) == 0) = false := by simp; omega
          have h4 : ((y : Int) != 0) = true := by simp; omega
          have h5 : (0:Int) < (y : Int) := by omega
          go_wp2
          go_quiet (fail)
          have hG2 := Lib.hid (gcd_step x y)
          go_wp2
          go_roundw
          case rel => exact ⟨y, x % y, rfl, by go_num, hy, by have := Nat.mod_lt x (Nat.pos_of_ne_zero hy0); omega, Lib.hid (hG2.out.trans hg.out), _, World.drewN_drewN _ _ _⟩
          case measure => simp [intOf]; have := Nat.mod_lt x (Nat.pos_of_ne_zero hy0); omega
    · obtain rfl : k = xs.length := by omega
      have hT := Lib.hid (show gcdL (xs.take xs.length) = gcdL xs by rw [List.take_length])
      go_wp2
      go_ret
      exact ⟨ret_int (by rw [hT.out]), _, rfl⟩

end Go.Proofs.Ytabmfaamadbefaa

/- A region that draws its order: first operations each of which has one value in every world of a class, then a tail that is forced: one walk serves every order. No condition. -/
set_option linter.unusedVariables false
namespace Go.Proofs.Ytabmfaamadbefaa
open Go.RowKit

section
variable {P : Program} {ops : Array Oper} {md : Region.Mode} {C : World → Prop}

def wpAnyC (P : Program) (md : Region.Mode) (ops : Array Oper) (C : World → Prop) (n : Nat) (L : Array Bool → Act → Prop) : Nat → Array Bool → Act → Prop
  | 0, listed, a => L listed a
  | f + 1, listed, a => Region.ready md ops listed ≠ [] ∧ ∀ i ∈ Region.ready md ops listed, i < n ∧ qOp P ops C i (wpAnyC P md ops C n L f (listed.setIfInBounds i true)) a

theorem wpAny_of_calm_head {n g : Nat} {L : Array Bool → Act → Prop} {Q' : Exit → Act → World → Prop} (hL : ∀ listed a w, C w → L listed a → wpAny P md ops Q' g listed a w) :
    ∀ (f : Nat) (listed : Array Bool) (a : Act) (w : World), C w → wpAnyC P md ops C n L f listed a → wpAny P md ops Q' (f + g) listed a w
  | 0, listed, a, w, hw, h => by rw [Nat.zero_add]; exact hL _ _ _ hw h
  | f + 1, listed, a, w, hw, h => by
    rw [show f + 1 + g = (f + g) + 1 by omega]
    exact ⟨fun h0 => absurd h0 h.1, fun i hi => wpOp_of_qOp hw (fun a' w' hw' h' => wpAny_of_calm_head hL f _ a' w' hw' h') (h.2 i hi).2⟩

theorem wpAnyC_first {n i : Nat} {oi : Oper} {v : Value} {L : Array Bool → Act → Prop} (hi : ops[i]? = some oi) (hsel : ∀ (j : Nat) (o : Oper) cs b, ops[j]? = some o → o.op ≠ .select cs b)
    (hs : Region.sinkB md ops n = true) (hc : Region.chainB md ops n = true) (hn : n < ops.size) (hin : i < n)
    (hdone : ∀ listed a, L listed a → ∀ j ∈ Region.ready md ops listed, n ≤ j) :
    ∀ (f : Nat) (listed : Array Bool) (a : Act), HeadInv md ops n listed →
      (∀ j oj, ops[j]? = some oj → j ≠ i → listed.getD j true = false → (∀ e ∈ oj.after, Region.binds md e = true → e.on ≠ i) → oi.apart ops oj = true) →
      i ∈ Region.ready md ops listed → YieldsIn P ops C oi v a →
      wpAnyC P md ops C n L f (listed.setIfInBounds i true) (a.put oi.dst v) → wpAnyC P md ops C n L (f + 1) listed a := by
  intro f
  induction f with
  | zero =>
    intro listed a inv _ hr hy H
    refine ⟨fun h => (by rw [h] at hr; cases hr), fun j hj => ?_⟩
    have hjn : j < n := by
      rcases Nat.lt_or_ge j n with h | h
      · exact h
      · exact absurd hj (tail_waits hs hc hn inv _ i rfl hin (mem_ready.1 hr).1 j h)
    refine ⟨hjn, ?_⟩
    by_cases hji : j = i
    · subst hji; exact hy.qOp hi H
    · have := hdone _ _ H j (ready_mono hj hji)
      omega
  | succ f ih =>
    intro listed a inv hfree hr hy H
    have hun := (mem_ready.1 hr).1
    refine ⟨fun h => (by rw [h] at hr; cases hr), fun j hj => ?_⟩
    have hjn : j < n := by
      rcases Nat.lt_or_ge j n with h | h
      · exact h
      · exact absurd hj (tail_waits hs hc hn inv _ i rfl hin hun j h)
    refine ⟨hjn, ?_⟩
    by_cases hji : j = i
    · subst hji; exact hy.qOp hi H
    · have h1 := (H.2 j (ready_mono hj hji)).2
      obtain ⟨hjun, oj, hoj, hall⟩ := mem_ready.1 hj
      have hnot : ∀ e ∈ oj.after, Region.binds md e = true → e.on ≠ i := fun e he hb heq => by
        have h1 := hall e he hb
        rw [heq, getD_both hun] at h1
        cases h1
      have h2 := qOp_put hoj (hfree j oj hoj hji hjun hnot) (fun cs b => hsel i oi cs b hi) (fun cs b => hsel j oj cs b hoj) hy h1
      have hfree' : ∀ k ok, ops[k]? = some ok → k ≠ i → (listed.setIfInBounds j true).getD k true = false →
          (∀ e ∈ ok.after, Region.binds md e = true → e.on ≠ i) → oi.apart ops ok = true := fun k ok hk hki hun hno => by
        refine hfree k ok hk hki ?_ hno
        by_cases hjk : j = k
        · subst hjk; exact hjun
        · rw [getD_set_ne true hjk] at hun; exact hun
      refine qOp_mono (fun a' h3 => ih (listed.setIfInBounds j true) a' (inv.set hj hjn) hfree' (ready_mono hr (Ne.symm hji)) h3.1 ?_) h2
      rw [Array.setIfInBounds_comm _ _ hji]
      exact h3.2

theorem wpAnyC_lex {n g : Nat} {Lq : Act → Prop} (hsel : Region.noSelect ops = true) (hs : Region.sinkB md ops n = true) (hc : Region.chainB md ops n = true) (hn : n < ops.size) :
    ∀ (l : List Oper) (k : Nat) (listed : Array Bool) (a : Act), (∀ j, j < l.length → l[j]? = ops[k + j]?) → k + l.length = n → HeadInv md ops n listed →
    Region.lexHead md ops g l.length k listed = true → wpQuiet P ops C Lq l a →
    wpAnyC P md ops C n (fun listed' a' => Region.seqB md ops g n listed' = true ∧ Lq a') l.length listed a
  | [], k, listed, a, _, hk, _, hB, h => by
    have : k = n := by simpa using hk
    subst this
    exact ⟨by simpa [Region.lexHead] using hB, h⟩
  | o :: l, k, listed, a, hl, hk, inv, hB, h => by
    have h0 : ops[k]? = some o := by simpa using (hl 0 (by simp)).symm
    simp only [List.length_cons, Region.lexHead, Bool.and_eq_true] at hB
    obtain ⟨⟨hr, hf⟩, hB'⟩ := hB
    have hkn : k < n := by simp only [List.length_cons] at hk; omega
    have hr' : k ∈ Region.ready md ops listed := by simpa using hr
    have hst : qOp P ops C k (wpQuiet P ops C Lq l) a := by unfold qOp; simp only [h0]; exact h
    obtain ⟨v, hy, hK⟩ := yieldsIn_of_qOp h0 hst
    exact wpAnyC_first h0 (Region.noSelect_spec hsel) hs hc hn hkn (fun listed' a' hL => seqB_ready hL.1) l.length listed a inv (Region.free_spec h0 hf) hr' hy
      (wpAnyC_lex hsel hs hc hn l (k + 1) _ _ (fun j hj => by have := hl (j + 1) (by simp; omega); simpa [Nat.add_assoc, Nat.add_comm 1 j] using this) (by simp only [List.length_cons] at hk; omega) (inv.set hr' hkn) hB' hK)

/-- n operations that have one value each in every world that lies over w, then the rest in one order. -/
theorem wp_region_calm_tail {id : Nat} {Q : Exit → Act → World → Prop} {a : Act} {w : World} {l : List Oper} (n : Nat) (hm : P.follows .mixedOrders = true) (hB : Region.lexTailB .any l.toArray n = true)
    (h : wpQuiet P l.toArray (fun w' => ∃ x, w' = ov w x) (fun a' => ∀ w', (∃ x, w' = ov w x) → wpList P l.toArray Q (l.drop n) a' w') (l.take n) a) : (Code.region id l.toArray true).wp P Q a w := by
  simp only [Region.lexTailB, Bool.and_eq_true, decide_eq_true_eq] at hB
  obtain ⟨⟨⟨⟨hsel, hn⟩, hs⟩, hc⟩, hlex⟩ := hB
  have hn' : n < l.length := by simpa using hn
  have htl : (l.take n).length = n := by simp; omega
  have hdl : (l.drop n).length = l.toArray.size - n := by simp
  have inv0 : HeadInv .any l.toArray n (Array.replicate l.toArray.size false) :=
    ⟨by simp, fun j oj _ hl => (by rw [getD_replicate_false] at hl; cases hl), fun t _ ht => getD_in (by simpa using ht) (getD_replicate_false _ _)⟩
  have H := wpAnyC_lex (md := .any) (g := l.toArray.size - n) hsel hs hc hn (l.take n) 0 _ a (fun j hj => by
    have hj' : j < n := by rw [htl] at hj; exact hj
    simp [hj']) (by simpa using htl) inv0 (by rw [htl]; exact hlex) h
  refine wp_region_any hm ?_
  have := wpAny_of_calm_head (C := fun w' => ∃ x, w' = ov w x) (Q' := Q) (g := l.toArray.size - n) (fun listed a' w' hw' hL => by
    have := wpAny_of_seq (md := .any) (Q' := Q) (l.drop n) n listed a' w' (fun j => by simp [List.getElem?_drop]) (by rw [hdl]; exact hL.1) (hL.2 w' hw')
    rwa [hdl] at this) _ _ _ { w with drawn := w.drawn + 1 } (ov_of_below ⟨rfl, rfl, rfl, Nat.le_refl _, fun _ _ => rfl⟩) H
  rw [htl, show n + (l.toArray.size - n) = l.toArray.size by omega] at this
  exact this
end
end Go.Proofs.Ytabmfaamadbefaa
