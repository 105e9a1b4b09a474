/- Slices of three numbers each (half planes, spots) in rows that the program made itself. Condition: as each law says. -/
import Derived.Test.YtbgdfdibpmfafaaA
import Derived.Test.YtbgdfdibpmfafaaGeo
import Derived.Laws.AppendOwn
import Derived.Laws.OwnMore
set_option linter.unusedSimpArgs false
set_option linter.unusedVariables false
set_option linter.unusedSectionVars false
namespace Go.Proofs.Ytbgdfdibpmfafaa
open Go.RowKit

def cells3 (xs : List H3) : List Value := xs.flatMap fun h => [.int .i64 h.a, .int .i64 h.b, .int .i64 h.c]
/-- The slice (A, its length, c) of E's holds xs, in a row of its own. -/
def R3 (E : TypeId) (w : World) (A : Option Addr) (c : Nat) (xs : List H3) : Prop := w.ownsRow 0 E 3 (.slice A xs.length c) xs.length (cells3 xs)

theorem cells3_length (xs : List H3) : (cells3 xs).length = xs.length * 3 := by
  unfold cells3
  induction xs with
  | nil => rfl
  | cons x r ih => rw [List.flatMap_cons, List.length_append, ih]; simp; omega
theorem cells3_append (xs ys : List H3) : cells3 (xs ++ ys) = cells3 xs ++ cells3 ys := by unfold cells3; rw [List.flatMap_append]
theorem cells3_get (xs : List H3) (k : Nat) (hk : k < xs.length) :
    (cells3 xs)[k * 3]? = some (.int .i64 xs[k].a) ∧ (cells3 xs)[k * 3 + 1]? = some (.int .i64 xs[k].b) ∧ (cells3 xs)[k * 3 + 2]? = some (.int .i64 xs[k].c) := by
  induction xs generalizing k with
  | nil => cases hk
  | cons x r ih =>
    have e : cells3 (x :: r) = .int .i64 x.a :: .int .i64 x.b :: .int .i64 x.c :: cells3 r := rfl
    cases k with
    | zero => rw [e]; exact ⟨rfl, rfl, rfl⟩
    | succ k =>
      obtain ⟨h1, h2, h3⟩ := ih k (by simpa using hk)
      rw [e, show (k + 1) * 3 = k * 3 + 1 + 1 + 1 by omega]
      exact ⟨by simpa using h1, by simpa using h2, by simpa using h3⟩
theorem cells3_take (xs : List H3) (i : Nat) : cells3 (xs.take i) = (cells3 xs).take (i * 3) := by
  induction xs generalizing i with
  | nil => simp [cells3]
  | cons x r ih =>
    have e : ∀ l, cells3 (x :: l) = .int .i64 x.a :: .int .i64 x.b :: .int .i64 x.c :: cells3 l := fun _ => rfl
    cases i with
    | zero => simp [cells3]
    | succ i => rw [List.take_succ_cons, e, e, ih, show (i + 1) * 3 = i * 3 + 1 + 1 + 1 by omega]; simp
theorem cells3_drop (xs : List H3) (i : Nat) : cells3 (xs.drop i) = (cells3 xs).drop (i * 3) := by
  induction xs generalizing i with
  | nil => simp [cells3]
  | cons x r ih =>
    have e : ∀ l, cells3 (x :: l) = .int .i64 x.a :: .int .i64 x.b :: .int .i64 x.c :: cells3 l := fun _ => rfl
    cases i with
    | zero => simp [cells3]
    | succ i => rw [List.drop_succ_cons, e, ih, show (i + 1) * 3 = i * 3 + 1 + 1 + 1 by omega]; simp
theorem cells3_one (xs : List H3) : ∀ u ∈ cells3 xs, u.oneCell' = true := by
  intro u hu
  unfold cells3 at hu
  rw [List.mem_flatMap] at hu
  obtain ⟨x, _, hx⟩ := hu
  simp at hx
  rcases hx with rfl | rfl | rfl <;> rfl

section
variable {E : TypeId} {w : World} {A : Option Addr} {c : Nat} {xs : List H3}
theorem R3.cap (h : R3 E w A c xs) : xs.length ≤ c ∧ c ≤ maxLen := by
  rcases h.2 with ⟨e, hn⟩ | ⟨g, cap, cur, e, _, _, h1, h2, _⟩
  · have : A = none ∧ xs.length = 0 ∧ c = 0 := by injection e with a b d; exact ⟨a, b, d⟩
    obtain ⟨_, h2, h3⟩ := this
    rw [h2, h3]; exact ⟨Nat.le_refl _, Nat.zero_le _⟩
  · injection e with a b d; subst d; exact ⟨h1, h2⟩
theorem R3.at_ (h : R3 E w A c xs) {k : Nat} (hk : k < xs.length) : ∃ g, A = some ⟨g, 0, none⟩ ∧ g < w.heap.size ∧
    w.cell? ⟨g, k * 3, none⟩ = some (.int .i64 xs[k].a) ∧ w.cell? ⟨g, k * 3 + 1, none⟩ = some (.int .i64 xs[k].b) ∧ w.cell? ⟨g, k * 3 + 2, none⟩ = some (.int .i64 xs[k].c) := by
  have h' : w.ownsRow 0 E 3 (.slice A xs.length c) xs.length (cells3 xs) := h
  rcases h.2 with ⟨e, hn⟩ | ⟨g, cap, cur, e, _, hh, h1, h2, _⟩
  · omega
  · injection e with a b d
    subst a; subst d
    obtain ⟨c1, c2, c3⟩ := cells3_get xs k hk
    have hlt : g < w.heap.size := by
      rcases Nat.lt_or_ge g w.heap.size with q | q
      · exact q
      · rw [Array.getElem?_eq_none q] at hh; cases hh
    exact ⟨g, rfl, hlt, by rw [h'.cellAt _ (by omega)]; exact c1, by rw [h'.cellAt _ (by omega)]; exact c2, by rw [h'.cellAt _ (by omega)]; exact c3⟩
theorem R3.below {w' : World} (h : R3 E w A c xs) (hb : Below w.heap.size w w') : R3 E w' A c xs := by
  refine ⟨h.1, ?_⟩
  rcases h.2 with h1 | ⟨g, cap, cur, e, hg, hh, r⟩
  · exact .inl h1
  · have hlt : g < w.heap.size := by
      rcases Nat.lt_or_ge g w.heap.size with q | q
      · exact q
      · rw [Array.getElem?_eq_none q] at hh; cases hh
    exact .inr ⟨g, cap, cur, e, hg, (hb.block g hlt).trans hh, r⟩
theorem R3.ov (h : R3 E w A c xs) (x : More) : R3 E (ov w x) A c xs := h.below (below_ov _ _ (Below.refl _ _) (Nat.le_refl _))
theorem R3.alloc (h : R3 E w A c xs) (o : Obj) : R3 E (w.alloc o) A c xs := h.below ((Below.refl _ _).alloc (Nat.le_refl _) o)
theorem R3.drewN (h : R3 E w A c xs) (n : Nat) : R3 E (w.drewN n) A c xs := h
theorem R3.nil : R3 E w none 0 [] := ⟨rfl, .inl ⟨rfl, rfl⟩⟩
end

/-- The same in a row that lies from block B on. -/
def RB (B : Nat) (E : TypeId) (w : World) (A : Option Addr) (c : Nat) (xs : List H3) : Prop := w.ownsRow B E 3 (.slice A xs.length c) xs.length (cells3 xs)
theorem RB.weak {B B' : Nat} {E : TypeId} {w : World} {A : Option Addr} {c : Nat} {xs : List H3} (h : RB B E w A c xs) (hb : B' ≤ B) : RB B' E w A c xs := by
  refine ⟨h.1, ?_⟩
  rcases h.2 with h1 | ⟨g, cap, cur, e, hg, r⟩
  · exact .inl h1
  · exact .inr ⟨g, cap, cur, e, by omega, r⟩
theorem RB.r3 {B : Nat} {E : TypeId} {w : World} {A : Option Addr} {c : Nat} {xs : List H3} (h : RB B E w A c xs) : R3 E w A c xs := h.weak (Nat.zero_le _)
theorem RB.below {B : Nat} {E : TypeId} {w w' : World} {A : Option Addr} {c : Nat} {xs : List H3} (h : RB B E w A c xs) (hb : Below w.heap.size w w') : RB B E w' A c xs := by
  refine ⟨h.1, ?_⟩
  rcases h.2 with h1 | ⟨g, cap, cur, e, hg, hh, r⟩
  · exact .inl h1
  · have hlt : g < w.heap.size := by
      rcases Nat.lt_or_ge g w.heap.size with q | q
      · exact q
      · rw [Array.getElem?_eq_none q] at hh; cases hh
    exact .inr ⟨g, cap, cur, e, hg, (hb.block g hlt).trans hh, r⟩
theorem RB.nil (B : Nat) (E : TypeId) (w : World) : RB B E w none 0 [] := ⟨rfl, .inl ⟨rfl, rfl⟩⟩
theorem RB.row {B : Nat} {E : TypeId} {w : World} {A : Option Addr} {c : Nat} {xs : List H3} (h : RB B E w A c xs) (hn : 0 < xs.length) :
    ∃ g cur, A = some ⟨g, 0, none⟩ ∧ B ≤ g ∧ g < w.heap.size ∧ w.heap[g]? = some (.cells cur E (0, 0)) ∧ xs.length ≤ c ∧ c ≤ maxLen ∧ cur.size = c * 3 ∧ cur.toList.take (xs.length * 3) = cells3 xs := by
  rcases h.2 with ⟨_, h1⟩ | ⟨g, cap, cur, e, hg, hh, h1, h2, h3, h4⟩
  · omega
  · injection e with a b d
    subst a; subst d
    have hlt : g < w.heap.size := by
      rcases Nat.lt_or_ge g w.heap.size with q | q
      · exact q
      · rw [Array.getElem?_eq_none q] at hh; cases hh
    exact ⟨g, cur, rfl, hg, hlt, hh, h1, h2, h3, h4⟩
theorem own_slice {B : Nat} {E : TypeId} {w : World} {v : Value} {xs : List H3} (h : w.ownsRow B E 3 v xs.length (cells3 xs)) : ∃ A c, v = .slice A xs.length c ∧ RB B E w A c xs := by
  rcases h.2 with ⟨e, h1⟩ | ⟨g, cap, cur, e, r⟩
  · subst e
    have : xs = [] := List.eq_nil_of_length_eq_zero h1
    subst this
    exact ⟨none, 0, rfl, RB.nil _ _ _⟩
  · subst e
    exact ⟨_, cap, rfl, h.1, .inr ⟨g, cap, cur, rfl, r⟩⟩

theorem results_tmp4 {fn : Func} {t u v x : Tmp} (h : fn.results = #[.tmp t, .tmp u, .tmp v, .tmp x]) (tmps : Array Value) (P : Program) (w : World) :
    (results fn tmps).run P w = .ok (.tuple #[tmps.getD t undef, tmps.getD u undef, tmps.getD v undef, tmps.getD x undef]) w := by simp [results, h]
end Go.Proofs.Ytbgdfdibpmfafaa
