/- Several texts in one: Plain, Sup. Each says its own conditions. -/
import Derived.WalkKit
import Derived.WalkSpells
import Derived.WalkLawsBesides
import Derived.RegionTactic
import Derived.Deep.QuietTactic
import Derived.BigQuiet
import Derived.Below
import Derived.Lib.Hide
import Derived.Outline
/- Plain definitions and laws on numbers and lists, no program. -/

namespace Go.Proofs.YtabmfaamadbefaaGreat
def inR (n a b : Int) : Bool := decide (a ≤ n) && decide (n ≤ b)

/-- The greatest common divisor of the magnitudes. -/
def gcdL (l : List Int) : Nat := l.foldl (fun g n => Nat.gcd g n.natAbs) 0

/-- The reference's GcdOf. -/
def gcdS (a b : Int) : Int := if a < -9223372036854775807 ∨ b < -9223372036854775807 then 0 else (Int.gcd a b : Int)

theorem gcd_step (a b : Nat) : Nat.gcd b (a % b) = Nat.gcd a b := by
  rw [Nat.gcd_comm, ← Nat.gcd_rec, Nat.gcd_comm]

theorem gcdL_take_succ (l : List Int) (k : Nat) (h : k < l.length) : gcdL (l.take (k+1)) = Nat.gcd (gcdL (l.take k)) l[k].natAbs := by
  unfold gcdL
  rw [List.take_succ_eq_append_getElem h, List.foldl_append]
  rfl


theorem gcdL_le_aux (B : Nat) : ∀ (l : List Int) (g : Nat), g ≤ B → (∀ x ∈ l, x.natAbs ≤ B) → l.foldl (fun g n => Nat.gcd g n.natAbs) g ≤ B := by
  intro l
  induction l with
  | nil => intro g hg _; exact hg
  | cons x r ih =>
    intro g hg h
    refine ih _ ?_ (fun y hy => h y (List.mem_cons_of_mem _ hy))
    rcases Nat.eq_zero_or_pos g with h0 | h0
    · subst h0; show Nat.gcd 0 x.natAbs ≤ B; rw [Nat.gcd_zero_left]; exact h x List.mem_cons_self
    · exact Nat.le_trans (Nat.gcd_le_left _ h0) hg
theorem gcdL_le (B : Nat) (l : List Int) (h : ∀ x ∈ l, x.natAbs ≤ B) : gcdL l ≤ B := gcdL_le_aux B l 0 (Nat.zero_le _) h

theorem gcdS_bd (a b : Int) (ha : a ≤ 9223372036854775807) (hb : b ≤ 9223372036854775807) : 0 ≤ gcdS a b ∧ gcdS a b ≤ 9223372036854775807 := by
  unfold gcdS
  by_cases h : a < -9223372036854775807 ∨ b < -9223372036854775807
  · rw [if_pos h]; omega
  · rw [if_neg h]
    refine ⟨by omega, ?_⟩
    have : Int.gcd a b ≤ 9223372036854775807 := by
      unfold Int.gcd
      rcases Nat.eq_zero_or_pos a.natAbs with h0 | h0
      · rw [h0, Nat.gcd_zero_left]; omega
      · exact Nat.le_trans (Nat.gcd_le_left _ h0) (by omega)
    omega
theorem gcdS_eq (a b : Int) (ha : -9223372036854775807 ≤ a) (hb : -9223372036854775807 ≤ b) : gcdS a b = (Nat.gcd a.natAbs b.natAbs : Int) := by
  unfold gcdS; rw [if_neg (by omega)]; rfl
theorem inR_iff {n a b : Int} : inR n a b = true ↔ a ≤ n ∧ n ≤ b := by simp [inR]
theorem gcdS3 (a b c : Int) (ha : -9223372036854775807 ≤ a) (hb : -9223372036854775807 ≤ b) (hc : -9223372036854775807 ≤ c) : gcdS (gcdS a b) c = (gcdL [a, b, c] : Int) := by
  rw [gcdS_eq a b ha hb, gcdS_eq _ _ (by omega) hc]
  simp [gcdL]
theorem gcdS4 (a b c d : Int) (ha : -9223372036854775807 ≤ a) (hb : -9223372036854775807 ≤ b) (hc : -9223372036854775807 ≤ c) (hd : -9223372036854775807 ≤ d) : gcdS (gcdS a b) (gcdS c d) = (gcdL [a, b, c, d] : Int) := by
  rw [gcdS_eq a b ha hb, gcdS_eq c d hc hd, gcdS_eq _ _ (by omega) (by omega)]
  simp [gcdL, Nat.gcd_assoc]

theorem chain2 (a b : Bool) : a = false ∨ (a = true ∧ b = false) ∨ (a = true ∧ b = true) := by cases a <;> cases b <;> simp
theorem chain3 (a b c : Bool) : a = false ∨ (a = true ∧ b = false) ∨ (a = true ∧ b = true ∧ c = false) ∨ (a = true ∧ b = true ∧ c = true) := by cases a <;> cases b <;> cases c <;> simp
theorem chain4 (a b c d : Bool) : a = false ∨ (a = true ∧ b = false) ∨ (a = true ∧ b = true ∧ c = false) ∨ (a = true ∧ b = true ∧ c = true ∧ d = false) ∨ (a = true ∧ b = true ∧ c = true ∧ d = true) := by
  cases a <;> cases b <;> cases c <;> cases d <;> simp
theorem chain5 (a b c d e : Bool) : a = false ∨ (a = true ∧ b = false) ∨ (a = true ∧ b = true ∧ c = false) ∨ (a = true ∧ b = true ∧ c = true ∧ d = false) ∨ (a = true ∧ b = true ∧ c = true ∧ d = true ∧ e = false) ∨ (a = true ∧ b = true ∧ c = true ∧ d = true ∧ e = true) := by
  cases a <;> cases b <;> cases c <;> cases d <;> cases e <;> simp

/-- The program's PieceOk. -/
def pieceOk (a b c d : Int) : Bool := inR d 1 1000000000000 && inR a (-1000000000000) 1000000000000 && inR b (-1000000000000) 1000000000000 && inR c (-1000000000000) 1000000000000 && decide (gcdL [a, b, c, d] = 1)

end Go.Proofs.YtabmfaamadbefaaGreat
/- Worlds that lie over another one: further blocks and draws alone; regions and calls in them. No condition. -/

namespace Go.Proofs.YtabmfaamadbefaaGreat
open Go.RowKit
/-- Further blocks, and a count of draws. -/
structure More where
  objs : Array Obj
  count : Nat

instance : Nonempty More := ⟨⟨#[], 0⟩⟩

/-- The world w with further blocks and draws. -/
def ov (w : World) (x : More) : World := { w with heap := w.heap ++ x.objs, drawn := x.count }

section
variable (w : World) (x : More)
theorem ov_size : (ov w x).heap.size = w.heap.size + x.objs.size := by simp [ov]
theorem ov_lt {n : Nat} (h : n < w.heap.size) : n < (ov w x).heap.size := by rw [ov_size]; omega
theorem ov_le {n : Nat} (h : n ≤ w.heap.size) : n ≤ (ov w x).heap.size := by rw [ov_size]; omega
theorem ov_lt_add {n k : Nat} (h : n < w.heap.size + k) : n < (ov w x).heap.size + k := by rw [ov_size]; omega
theorem ov_le_add {n k : Nat} (h : n ≤ w.heap.size + k) : n ≤ (ov w x).heap.size + k := by rw [ov_size]; omega
theorem ov_block {n : Nat} (hn : n < w.heap.size) : (ov w x).heap[n]? = w.heap[n]? := by
  show (w.heap ++ x.objs)[n]? = _
  rw [Array.getElem?_append_left hn]
@[go_sem] theorem ov_cell (n i : Nat) (hn : n < w.heap.size) : (ov w x).cell? ⟨n, i, none⟩ = w.cell? ⟨n, i, none⟩ := World.cell?_of_block (ov_block w x hn)
@[go_sem] theorem ov_frozen (n i : Nat) (hn : n < w.heap.size) : (ov w x).frozen? ⟨n, i, none⟩ = w.frozen? ⟨n, i, none⟩ := World.frozen?_of_block (ov_block w x hn)
@[go_sem] theorem ov_set (n i : Nat) (v : Value) (hn : n < w.heap.size) : (ov w x).setCell ⟨n, i, none⟩ v = ov (w.setCell ⟨n, i, none⟩ v) x := by
  unfold ov World.setCell
  congr 1
  apply Array.ext_getElem?
  intro k
  rw [Array.getElem?_modify]
  by_cases hk : n = k
  · subst hk
    rw [if_pos rfl, Array.getElem?_append_left hn, Array.getElem?_append_left (by simpa using hn), Array.getElem?_modify, if_pos rfl]
  · rw [if_neg hk]
    by_cases hk2 : k < w.heap.size
    · rw [Array.getElem?_append_left hk2, Array.getElem?_append_left (by simpa using hk2), Array.getElem?_modify, if_neg hk]
    · rw [Array.getElem?_append_right (by omega), Array.getElem?_append_right (by simp; omega)]
      simp
@[go_sem] theorem ov_drew : (ov w x).drew = ov w ⟨x.objs, x.count + 1⟩ := rfl
@[go_sem] theorem ov_drewN (n : Nat) : (ov w x).drewN n = ov w ⟨x.objs, x.count + n⟩ := rfl
@[go_sem] theorem ov_of_drew : ov w.drew x = ov w x := rfl
@[go_sem] theorem ov_of_drewN (n : Nat) : ov (w.drewN n) x = ov w x := rfl
@[go_sem] theorem ov_tape : (ov w x).tape = w.tape := rfl

theorem below_ov {B : Nat} {a : World} (h : Below B a w) (hB : B ≤ w.heap.size) : Below B a (ov w x) :=
  ⟨h.os, h.tape, h.output, Nat.le_trans h.size (by rw [ov_size]; omega), fun k hk => (ov_block w x (by omega)).trans (h.block k hk)⟩
theorem ov_of_below {w w' : World} (h : Below w.heap.size w w') : ∃ x, w' = ov w x := by
  refine ⟨⟨w'.heap.extract w.heap.size w'.heap.size, w'.drawn⟩, ?_⟩
  have e : w'.heap = w.heap ++ w'.heap.extract w.heap.size w'.heap.size := by
    apply Array.ext_getElem?
    intro k
    by_cases hk : k < w.heap.size
    · rw [Array.getElem?_append_left hk]; exact h.block k hk
    · rw [Array.getElem?_append_right (by omega), Array.getElem?_extract]
      have := h.size
      by_cases hk2 : k < w'.heap.size
      · rw [if_pos (by omega)]; congr 1; omega
      · rw [if_neg (by omega), Array.getElem?_eq_none (by omega)]
  obtain ⟨hp, t, d, o, out⟩ := w'
  obtain ⟨h1, h2, h3, _, _⟩ := h
  simp only at e h1 h2 h3
  subst h1 h2 h3
  unfold ov
  rw [← e]
theorem below_drewN {B : Nat} {a w : World} (h : Below B a w) (n : Nat) : Below B a (w.drewN n) := ⟨h.os, h.tape, h.output, h.size, h.block⟩
end
/-- A contract that ends in 'Below', in the form that a walk takes. -/
theorem calls_ov {P : Program} {f : FuncId} {args : Array Value} {w : World} {R : Ending → Prop} (h : Calls P f args w fun e w' => R e ∧ Below w.heap.size w w') :
    Calls P f args w fun e w' => R e ∧ ∃ x, w' = ov w x := h.mono fun _ _ ⟨a, b⟩ => ⟨a, ov_of_below b⟩

/-- The same in a world that lies over another one already: the two layers are one. -/
theorem calls_ov2 {P : Program} {f : FuncId} {args : Array Value} {w : World} {x : More} {R : Ending → Prop} (h : Calls P f args (ov w x) fun e w' => R e ∧ Below (ov w x).heap.size (ov w x) w') :
    Calls P f args (ov w x) fun e w' => R e ∧ ∃ y, w' = ov w y := h.mono fun _ _ ⟨a, b⟩ => ⟨a, ov_of_below ((below_ov w x (Below.refl _ _) (Nat.le_refl _)).trans (b.mono (by rw [ov_size]; omega)))⟩

/-- A region that draws its order, each of whose operations has one value in every world that lies over w. -/
theorem wp_region_calm {P : Program} {id : Nat} {Q : Exit → Act → World → Prop} {a : Act} {w : World} {l : List Oper} (hm : P.follows .mixedOrders = true) (hB : Region.lexB .any l.toArray = true)
    (h : wpQuiet P l.toArray (fun w' => ∃ x, w' = ov w x) (fun a' => ∀ w', (∃ x, w' = ov w x) → Q .normal a' w') l a) : (Code.region id l.toArray true).wp P Q a w :=
  wp_region_quiet (C := fun w' => ∃ x, w' = ov w x) hm hB (ov_of_below ⟨rfl, rfl, rfl, Nat.le_refl _, fun _ _ => rfl⟩) (by simpa using h)

/-- The same in a world that lies over w already. -/
theorem wp_region_calm2 {P : Program} {id : Nat} {Q : Exit → Act → World → Prop} {a : Act} {w : World} {x0 : More} {l : List Oper} (hm : P.follows .mixedOrders = true) (hB : Region.lexB .any l.toArray = true)
    (h : wpQuiet P l.toArray (fun w' => ∃ x, w' = ov w x) (fun a' => ∀ w', (∃ x, w' = ov w x) → Q .normal a' w') l a) : (Code.region id l.toArray true).wp P Q a (ov w x0) :=
  wp_region_quiet (C := fun w' => ∃ x, w' = ov w x) hm hB ⟨_, ov_drew w x0⟩ (by simpa using h)

/-- A callee that makes memory, met in a calm region. -/
theorem calm_below {P : Program} {f : FuncId} {args : Array Value} {w : World} {x : More} {v : Value}
    (h : Calls P f args (ov w x) fun e w' => e = .returned v ∧ Below (ov w x).heap.size (ov w x) w') : Calls P f args (ov w x) fun e w'' => e = .returned v ∧ ∃ y, w'' = ov w y :=
  h.mono fun _ _ ⟨he, hb⟩ => ⟨he, ov_of_below ((below_ov w x (Below.refl _ _) (Nat.le_refl _)).trans (hb.mono (by rw [ov_size]; omega)))⟩
theorem calm_same {P : Program} {f : FuncId} {args : Array Value} {w : World} {x : More} {v : Value}
    (h : Calls P f args (ov w x) fun e w' => e = .returned v ∧ ov w x = w') : Calls P f args (ov w x) fun e w'' => e = .returned v ∧ ∃ y, w'' = ov w y :=
  h.mono fun _ _ ⟨he, hb⟩ => ⟨he, x, hb.symm⟩
theorem calm_drewN {P : Program} {f : FuncId} {args : Array Value} {w : World} {x : More} {v : Value}
    (h : Calls P f args (ov w x) fun e w' => e = .returned v ∧ ∃ n, w' = (ov w x).drewN n) : Calls P f args (ov w x) fun e w'' => e = .returned v ∧ ∃ y, w'' = ov w y :=
  h.mono fun _ _ ⟨he, n, hb⟩ => ⟨he, ⟨x.objs, x.count + n⟩, hb⟩

theorem ret_int {k : IntKind} {a b : Int} (h : a = b) : Ending.returned (.int k a) = .returned (.int k b) := by rw [h]
theorem ret_bool {a b : Bool} (h : a = b) : Ending.returned (.bool a) = .returned (.bool b) := by rw [h]
theorem int_eq {k : IntKind} {a b : Int} (h : a = b) : Value.int k a = .int k b := by rw [h]
theorem nat_beq1 (n : Nat) : ((n : Int) == 1) = decide (n = 1) := by
  by_cases h : n = 1
  · subst h; rfl
  · simp [h]; omega
theorem bR {B : Nat} {w : World} : Below B w w := Below.refl _ _
theorem bO {B : Nat} {a w : World} {x : More} (h : Below B a w) (hB : B ≤ w.heap.size := by first | omega | (simp [ov_size] <;> omega)) : Below B a (ov w x) := below_ov w x h hB
theorem bA {B : Nat} {a w : World} {o : Obj} (h : Below B a w) (hB : B ≤ w.heap.size := by first | omega | (simp [ov_size] <;> omega)) : Below B a (w.alloc o) := Below.alloc h hB o
theorem bS {B : Nat} {a w : World} {p : Addr} {v : Value} (h : Below B a w) (hB : B ≤ p.block := by first | omega | (simp [ov_size] <;> omega)) : Below B a (w.setCell p v) := Below.setCell h hB v
theorem bD {B : Nat} {a w : World} (h : Below B a w) : Below B a w.drew := Below.drew h
theorem bN {B : Nat} {a w : World} {n : Nat} (h : Below B a w) : Below B a (w.drewN n) := below_drewN h n
end Go.Proofs.YtabmfaamadbefaaGreat