/- Worlds that lie over another one: further blocks and draws alone; regions and calls in them. No condition. -/
import Derived.WalkKit
import Derived.WalkSpells
import Derived.WalkLawsBesides
import Derived.RegionTactic
import Derived.Deep.QuietTactic
import Derived.BigQuiet
import Derived.Below
import Derived.Lib.Hide
import Derived.Outline
namespace Go.Proofs.Ytbgdfdibpmfafaa
open Go.RowKit

/-- Further blocks, and a count of draws. -/
structure More where
  objs : Array Obj
  count : Nat

instance : Nonempty More := ⟨⟨#[], 0⟩⟩

/-- The world w with further blocks and draws. -/
def ov (w : World) (x : More) : World := { w with heap := w.heap ++ x.objs, drawn := x.count }

section
variable (w : World) (x : More)
theorem ov_size : (ov w x).heap.size = w.heap.size + x.objs.size := by simp [ov]
theorem ov_lt {n : Nat} (h : n < w.heap.size) : n < (ov w x).heap.size := by rw [ov_size]; omega
theorem ov_le {n : Nat} (h : n ≤ w.heap.size) : n ≤ (ov w x).heap.size := by rw [ov_size]; omega
theorem ov_lt_add {n k : Nat} (h : n < w.heap.size + k) : n < (ov w x).heap.size + k := by rw [ov_size]; omega
theorem ov_le_add {n k : Nat} (h : n ≤ w.heap.size + k) : n ≤ (ov w x).heap.size + k := by rw [ov_size]; omega
theorem ov_block {n : Nat} (hn : n < w.heap.size) : (ov w x).heap[n]? = w.heap[n]? := by
  show (w.heap ++ x.objs)[n]? = _
  rw [Array.getElem?_append_left hn]
@[go_sem] theorem ov_cell (n i : Nat) (hn : n < w.heap.size) : (ov w x).cell? ⟨n, i, none⟩ = w.cell? ⟨n, i, none⟩ := World.cell?_of_block (ov_block w x hn)
@[go_sem] theorem ov_frozen (n i : Nat) (hn : n < w.heap.size) : (ov w x).frozen? ⟨n, i, none⟩ = w.frozen? ⟨n, i, none⟩ := World.frozen?_of_block (ov_block w x hn)
@[go_sem] theorem ov_set (n i : Nat) (v : Value) (hn : n < w.heap.size) : (ov w x).setCell ⟨n, i, none⟩ v = ov (w.setCell ⟨n, i, none⟩ v) x := by
  unfold ov World.setCell
  congr 1
  apply Array.ext_getElem?
  intro k
  rw [Array.getElem?_modify]
  by_cases hk : n = k
  · subst hk
    rw [if_pos rfl, Array.getElem?_append_left hn, Array.getElem?_append_left (by simpa using hn), Array.getElem?_modify, if_pos rfl]
  · rw [if_neg hk]
    by_cases hk2 : k < w.heap.size
    · rw [Array.getElem?_append_left hk2, Array.getElem?_append_left (by simpa using hk2), Array.getElem?_modify, if_neg hk]
    · rw [Array.getElem?_append_right (by omega), Array.getElem?_append_right (by simp; omega)]
      simp
@[go_sem] theorem ov_drew : (ov w x).drew = ov w ⟨x.objs, x.count + 1⟩ := rfl
@[go_sem] theorem ov_drewN (n : Nat) : (ov w x).drewN n = ov w ⟨x.objs, x.count + n⟩ := rfl
@[go_sem] theorem ov_of_drew : ov w.drew x = ov w x := rfl
@[go_sem] theorem ov_of_drewN (n : Nat) : ov (w.drewN n) x = ov w x := rfl
@[go_sem] theorem ov_tape : (ov w x).tape = w.tape := rfl

theorem below_ov {B : Nat} {a : World} (h : Below B a w) (hB : B ≤ w.heap.size) : Below B a (ov w x) :=
  ⟨h.os, h.tape, h.output, Nat.le_trans h.size (by rw [ov_size]; omega), fun k hk => (ov_block w x (by omega)).trans (h.block k hk)⟩
theorem ov_of_below {w w' : World} (h : Below w.heap.size w w') : ∃ x, w' = ov w x := by
  refine ⟨⟨w'.heap.extract w.heap.size w'.heap.size, w'.drawn⟩, ?_⟩
  have e : w'.heap = w.heap ++ w'.heap.extract w.heap.size w'.heap.size := by
    apply Array.ext_getElem?
    intro k
    by_cases hk : k < w.heap.size
    · rw [Array.getElem?_append_left hk]; exact h.block k hk
    · rw [Array.getElem?_append_right (by omega), Array.getElem?_extract]
      have := h.size
      by_cases hk2 : k < w'.heap.size
      · rw [if_pos (by omega)]; congr 1; omega
      · rw [if_neg (by omega), Array.getElem?_eq_none (by omega)]
  obtain ⟨hp, t, d, o, out⟩ := w'
  obtain ⟨h1, h2, h3, _, _⟩ := h
  simp only at e h1 h2 h3
  subst h1 h2 h3
  unfold ov
  rw [← e]
theorem below_drewN {B : Nat} {a w : World} (h : Below B a w) (n : Nat) : Below B a (w.drewN n) := ⟨h.os, h.tape, h.output, h.size, h.block⟩
end

/-- A contract that ends in 'Below', in the form that a walk takes. -/
theorem calls_ov {P : Program} {f : FuncId} {args : Array Value} {w : World} {R : Ending → Prop} (h : Calls P f args w fun e w' => R e ∧ Below w.heap.size w w') :
    Calls P f args w fun e w' => R e ∧ ∃ x, w' = ov w x := h.mono fun _ _ ⟨a, b⟩ => ⟨a, ov_of_below b⟩

/-- The same in a world that lies over another one already: the two layers are one. -/
theorem calls_ov2 {P : Program} {f : FuncId} {args : Array Value} {w : World} {x : More} {R : Ending → Prop} (h : Calls P f args (ov w x) fun e w' => R e ∧ Below (ov w x).heap.size (ov w x) w') :
    Calls P f args (ov w x) fun e w' => R e ∧ ∃ y, w' = ov w y := h.mono fun _ _ ⟨a, b⟩ => ⟨a, ov_of_below ((below_ov w x (Below.refl _ _) (Nat.le_refl _)).trans (b.mono (by rw [ov_size]; omega)))⟩

/-- A region that draws its order, each of whose operations has one value in every world that lies over w. -/
theorem wp_region_calm {P : Program} {id : Nat} {Q : Exit → Act → World → Prop} {a : Act} {w : World} {l : List Oper} (hm : P.follows .mixedOrders = true) (hB : Region.lexB .any l.toArray = true)
    (h : wpQuiet P l.toArray (fun w' => ∃ x, w' = ov w x) (fun a' => ∀ w', (∃ x, w' = ov w x) → Q .normal a' w') l a) : (Code.region id l.toArray true).wp P Q a w :=
  wp_region_quiet (C := fun w' => ∃ x, w' = ov w x) hm hB (ov_of_below ⟨rfl, rfl, rfl, Nat.le_refl _, fun _ _ => rfl⟩) (by simpa using h)

/-- The same in a world that lies over w already. -/
theorem wp_region_calm2 {P : Program} {id : Nat} {Q : Exit → Act → World → Prop} {a : Act} {w : World} {x0 : More} {l : List Oper} (hm : P.follows .mixedOrders = true) (hB : Region.lexB .any l.toArray = true)
    (h : wpQuiet P l.toArray (fun w' => ∃ x, w' = ov w x) (fun a' => ∀ w', (∃ x, w' = ov w x) → Q .normal a' w') l a) : (Code.region id l.toArray true).wp P Q a (ov w x0) :=
  wp_region_quiet (C := fun w' => ∃ x, w' = ov w x) hm hB ⟨_, ov_drew w x0⟩ (by simpa using h)

/-- A callee that makes memory, met in a calm region. -/
theorem calm_below {P : Program} {f : FuncId} {args : Array Value} {w : World} {x : More} {v : Value}
    (h : Calls P f args (ov w x) fun e w' => e = .returned v ∧ Below (ov w x).heap.size (ov w x) w') : Calls P f args (ov w x) fun e w'' => e = .returned v ∧ ∃ y, w'' = ov w y :=
  h.mono fun _ _ ⟨he, hb⟩ => ⟨he, ov_of_below ((below_ov w x (Below.refl _ _) (Nat.le_refl _)).trans (hb.mono (by rw [ov_size]; omega)))⟩
theorem calm_same {P : Program} {f : FuncId} {args : Array Value} {w : World} {x : More} {v : Value}
    (h : Calls P f args (ov w x) fun e w' => e = .returned v ∧ ov w x = w') : Calls P f args (ov w x) fun e w'' => e = .returned v ∧ ∃ y, w'' = ov w y :=
  h.mono fun _ _ ⟨he, hb⟩ => ⟨he, x, hb.symm⟩
theorem calm_drewN {P : Program} {f : FuncId} {args : Array Value} {w : World} {x : More} {v : Value}
    (h : Calls P f args (ov w x) fun e w' => e = .returned v ∧ ∃ n, w' = (ov w x).drewN n) : Calls P f args (ov w x) fun e w'' => e = .returned v ∧ ∃ y, w'' = ov w y :=
  h.mono fun _ _ ⟨he, n, hb⟩ => ⟨he, ⟨x.objs, x.count + n⟩, hb⟩

theorem ret_int {k : IntKind} {a b : Int} (h : a = b) : Ending.returned (.int k a) = .returned (.int k b) := by rw [h]
theorem ret_bool {a b : Bool} (h : a = b) : Ending.returned (.bool a) = .returned (.bool b) := by rw [h]
theorem int_eq {k : IntKind} {a b : Int} (h : a = b) : Value.int k a = .int k b := by rw [h]
theorem nat_beq1 (n : Nat) : ((n : Int) == 1) = decide (n = 1) := by
  by_cases h : n = 1
  · subst h; rfl
  · simp [h]; omega
theorem bR {B : Nat} {w : World} : Below B w w := Below.refl _ _
theorem bO {B : Nat} {a w : World} {x : More} (h : Below B a w) (hB : B ≤ w.heap.size := by first | omega | (simp [ov_size] <;> omega)) : Below B a (ov w x) := below_ov w x h hB
theorem bA {B : Nat} {a w : World} {o : Obj} (h : Below B a w) (hB : B ≤ w.heap.size := by first | omega | (simp [ov_size] <;> omega)) : Below B a (w.alloc o) := Below.alloc h hB o
theorem bS {B : Nat} {a w : World} {p : Addr} {v : Value} (h : Below B a w) (hB : B ≤ p.block := by first | omega | (simp [ov_size] <;> omega)) : Below B a (w.setCell p v) := Below.setCell h hB v
theorem bD {B : Nat} {a w : World} (h : Below B a w) : Below B a w.drew := Below.drew h
theorem bN {B : Nat} {a w : World} {n : Nat} (h : Below B a w) : Below B a (w.drewN n) := below_drewN h n
end Go.Proofs.Ytbgdfdibpmfafaa
