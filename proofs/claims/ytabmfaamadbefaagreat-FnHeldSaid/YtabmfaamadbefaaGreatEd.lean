/- Several texts in one: Sl, Ed. Each says its own conditions. -/
import Derived.Test.YtabmfaamadbefaaGreatA
import Derived.Test.YtabmfaamadbefaaGreatGeo
import Derived.Laws.AppendOwn
import Derived.Laws.OwnMore
import Derived.Test.YtabmfaamadbefaaGreatH
import Derived.Test.YtabmfaamadbefaaGreatFr
/- Slices of three numbers each (half planes, spots) in rows that the program made itself. Condition: as each law says. -/
set_option linter.unusedSimpArgs false
set_option linter.unusedVariables false
set_option linter.unusedSectionVars false
namespace Go.Proofs.YtabmfaamadbefaaGreat
open Go.RowKit
def cells3 (xs : List H3) : List Value := xs.flatMap fun h => [.int .i64 h.a, .int .i64 h.b, .int .i64 h.c]
/-- The slice (A, its length, c) of E's holds xs, in a row of its own. -/
def R3 (E : TypeId) (w : World) (A : Option Addr) (c : Nat) (xs : List H3) : Prop := w.ownsRow 0 E 3 (.slice A xs.length c) xs.length (cells3 xs)

theorem cells3_length (xs : List H3) : (cells3 xs).length = xs.length * 3 := by
  unfold cells3
  induction xs with
  | nil => rfl
  | cons x r ih => rw [List.flatMap_cons, List.length_append, ih]; simp; omega
theorem cells3_append (xs ys : List H3) : cells3 (xs ++ ys) = cells3 xs ++ cells3 ys := by unfold cells3; rw [List.flatMap_append]
theorem cells3_get (xs : List H3) (k : Nat) (hk : k < xs.length) :
    (cells3 xs)[k * 3]? = some (.int .i64 xs[k].a) ∧ (cells3 xs)[k * 3 + 1]? = some (.int .i64 xs[k].b) ∧ (cells3 xs)[k * 3 + 2]? = some (.int .i64 xs[k].c) := by
  induction xs generalizing k with
  | nil => cases hk
  | cons x r ih =>
    have e : cells3 (x :: r) = .int .i64 x.a :: .int .i64 x.b :: .int .i64 x.c :: cells3 r := rfl
    cases k with
    | zero => rw [e]; exact ⟨rfl, rfl, rfl⟩
    | succ k =>
      obtain ⟨h1, h2, h3⟩ := ih k (by simpa using hk)
      rw [e, show (k + 1) * 3 = k * 3 + 1 + 1 + 1 by omega]
      exact ⟨by simpa using h1, by simpa using h2, by simpa using h3⟩
theorem cells3_take (xs : List H3) (i : Nat) : cells3 (xs.take i) = (cells3 xs).take (i * 3) := by
  induction xs generalizing i with
  | nil => simp [cells3]
  | cons x r ih =>
    have e : ∀ l, cells3 (x :: l) = .int .i64 x.a :: .int .i64 x.b :: .int .i64 x.c :: cells3 l := fun _ => rfl
    cases i with
    | zero => simp [cells3]
    | succ i => rw [List.take_succ_cons, e, e, ih, show (i + 1) * 3 = i * 3 + 1 + 1 + 1 by omega]; simp
theorem cells3_drop (xs : List H3) (i : Nat) : cells3 (xs.drop i) = (cells3 xs).drop (i * 3) := by
  induction xs generalizing i with
  | nil => simp [cells3]
  | cons x r ih =>
    have e : ∀ l, cells3 (x :: l) = .int .i64 x.a :: .int .i64 x.b :: .int .i64 x.c :: cells3 l := fun _ => rfl
    cases i with
    | zero => simp [cells3]
    | succ i => rw [List.drop_succ_cons, e, ih, show (i + 1) * 3 = i * 3 + 1 + 1 + 1 by omega]; simp
theorem cells3_one (xs : List H3) : ∀ u ∈ cells3 xs, u.oneCell' = true := by
  intro u hu
  unfold cells3 at hu
  rw [List.mem_flatMap] at hu
  obtain ⟨x, _, hx⟩ := hu
  simp at hx
  rcases hx with rfl | rfl | rfl <;> rfl

section
variable {E : TypeId} {w : World} {A : Option Addr} {c : Nat} {xs : List H3}
theorem R3.cap (h : R3 E w A c xs) : xs.length ≤ c ∧ c ≤ maxLen := by
  rcases h.2 with ⟨e, hn⟩ | ⟨g, cap, cur, e, _, _, h1, h2, _⟩
  · have : A = none ∧ xs.length = 0 ∧ c = 0 := by injection e with a b d; exact ⟨a, b, d⟩
    obtain ⟨_, h2, h3⟩ := this
    rw [h2, h3]; exact ⟨Nat.le_refl _, Nat.zero_le _⟩
  · injection e with a b d; subst d; exact ⟨h1, h2⟩
theorem R3.at_ (h : R3 E w A c xs) {k : Nat} (hk : k < xs.length) : ∃ g, A = some ⟨g, 0, none⟩ ∧ g < w.heap.size ∧
    w.cell? ⟨g, k * 3, none⟩ = some (.int .i64 xs[k].a) ∧ w.cell? ⟨g, k * 3 + 1, none⟩ = some (.int .i64 xs[k].b) ∧ w.cell? ⟨g, k * 3 + 2, none⟩ = some (.int .i64 xs[k].c) := by
  have h' : w.ownsRow 0 E 3 (.slice A xs.length c) xs.length (cells3 xs) := h
  rcases h.2 with ⟨e, hn⟩ | ⟨g, cap, cur, e, _, hh, h1, h2, _⟩
  · omega
  · injection e with a b d
    subst a; subst d
    obtain ⟨c1, c2, c3⟩ := cells3_get xs k hk
    have hlt : g < w.heap.size := by
      rcases Nat.lt_or_ge g w.heap.size with q | q
      · exact q
      · rw [Array.getElem?_eq_none q] at hh; cases hh
    exact ⟨g, rfl, hlt, by rw [h'.cellAt _ (by omega)]; exact c1, by rw [h'.cellAt _ (by omega)]; exact c2, by rw [h'.cellAt _ (by omega)]; exact c3⟩
theorem R3.below {w' : World} (h : R3 E w A c xs) (hb : Below w.heap.size w w') : R3 E w' A c xs := by
  refine ⟨h.1, ?_⟩
  rcases h.2 with h1 | ⟨g, cap, cur, e, hg, hh, r⟩
  · exact .inl h1
  · have hlt : g < w.heap.size := by
      rcases Nat.lt_or_ge g w.heap.size with q | q
      · exact q
      · rw [Array.getElem?_eq_none q] at hh; cases hh
    exact .inr ⟨g, cap, cur, e, hg, (hb.block g hlt).trans hh, r⟩
theorem R3.ov (h : R3 E w A c xs) (x : More) : R3 E (ov w x) A c xs := h.below (below_ov _ _ (Below.refl _ _) (Nat.le_refl _))
theorem R3.alloc (h : R3 E w A c xs) (o : Obj) : R3 E (w.alloc o) A c xs := h.below ((Below.refl _ _).alloc (Nat.le_refl _) o)
theorem R3.drewN (h : R3 E w A c xs) (n : Nat) : R3 E (w.drewN n) A c xs := h
theorem R3.nil : R3 E w none 0 [] := ⟨rfl, .inl ⟨rfl, rfl⟩⟩
end
/-- The same in a row that lies from block B on. -/
def RB (B : Nat) (E : TypeId) (w : World) (A : Option Addr) (c : Nat) (xs : List H3) : Prop := w.ownsRow B E 3 (.slice A xs.length c) xs.length (cells3 xs)
theorem RB.weak {B B' : Nat} {E : TypeId} {w : World} {A : Option Addr} {c : Nat} {xs : List H3} (h : RB B E w A c xs) (hb : B' ≤ B) : RB B' E w A c xs := by
  refine ⟨h.1, ?_⟩
  rcases h.2 with h1 | ⟨g, cap, cur, e, hg, r⟩
  · exact .inl h1
  · exact .inr ⟨g, cap, cur, e, by omega, r⟩
theorem RB.r3 {B : Nat} {E : TypeId} {w : World} {A : Option Addr} {c : Nat} {xs : List H3} (h : RB B E w A c xs) : R3 E w A c xs := h.weak (Nat.zero_le _)
theorem RB.below {B : Nat} {E : TypeId} {w w' : World} {A : Option Addr} {c : Nat} {xs : List H3} (h : RB B E w A c xs) (hb : Below w.heap.size w w') : RB B E w' A c xs := by
  refine ⟨h.1, ?_⟩
  rcases h.2 with h1 | ⟨g, cap, cur, e, hg, hh, r⟩
  · exact .inl h1
  · have hlt : g < w.heap.size := by
      rcases Nat.lt_or_ge g w.heap.size with q | q
      · exact q
      · rw [Array.getElem?_eq_none q] at hh; cases hh
    exact .inr ⟨g, cap, cur, e, hg, (hb.block g hlt).trans hh, r⟩
theorem RB.nil (B : Nat) (E : TypeId) (w : World) : RB B E w none 0 [] := ⟨rfl, .inl ⟨rfl, rfl⟩⟩
theorem RB.row {B : Nat} {E : TypeId} {w : World} {A : Option Addr} {c : Nat} {xs : List H3} (h : RB B E w A c xs) (hn : 0 < xs.length) :
    ∃ g cur, A = some ⟨g, 0, none⟩ ∧ B ≤ g ∧ g < w.heap.size ∧ w.heap[g]? = some (.cells cur E (0, 0)) ∧ xs.length ≤ c ∧ c ≤ maxLen ∧ cur.size = c * 3 ∧ cur.toList.take (xs.length * 3) = cells3 xs := by
  rcases h.2 with ⟨_, h1⟩ | ⟨g, cap, cur, e, hg, hh, h1, h2, h3, h4⟩
  · omega
  · injection e with a b d
    subst a; subst d
    have hlt : g < w.heap.size := by
      rcases Nat.lt_or_ge g w.heap.size with q | q
      · exact q
      · rw [Array.getElem?_eq_none q] at hh; cases hh
    exact ⟨g, cur, rfl, hg, hlt, hh, h1, h2, h3, h4⟩
theorem own_slice {B : Nat} {E : TypeId} {w : World} {v : Value} {xs : List H3} (h : w.ownsRow B E 3 v xs.length (cells3 xs)) : ∃ A c, v = .slice A xs.length c ∧ RB B E w A c xs := by
  rcases h.2 with ⟨e, h1⟩ | ⟨g, cap, cur, e, r⟩
  · subst e
    have : xs = [] := List.eq_nil_of_length_eq_zero h1
    subst this
    exact ⟨none, 0, rfl, RB.nil _ _ _⟩
  · subst e
    exact ⟨_, cap, rfl, h.1, .inr ⟨g, cap, cur, rfl, r⟩⟩

theorem results_tmp4 {fn : Func} {t u v x : Tmp} (h : fn.results = #[.tmp t, .tmp u, .tmp v, .tmp x]) (tmps : Array Value) (P : Program) (w : World) :
    (results fn tmps).run P w = .ok (.tuple #[tmps.getD t undef, tmps.getD u undef, tmps.getD v undef, tmps.getD x undef]) w := by simp [results, h]
end Go.Proofs.YtabmfaamadbefaaGreat
/- Contracts of crossing and narrow. Condition: the half planes are valid; the mark's denominator is positive. Contract of isEdge: it answers edgeI. Condition: the half planes are valid, the index is one of theirs. -/
set_option linter.unusedSimpArgs false
set_option linter.unusedVariables false
set_option linter.unusedSectionVars false
namespace Go.Proofs.YtabmfaamadbefaaGreat
open Go.RowKit
theorem crossing_bd {g h : H3} (kg : HOk g) (kh : HOk h) : (-5000000000000 ≤ g.c * h.b ∧ g.c * h.b ≤ 5000000000000) ∧ (-5000000000000 ≤ h.c * g.b ∧ h.c * g.b ≤ 5000000000000) ∧ (-5000000000000 ≤ g.a * h.c ∧ g.a * h.c ≤ 5000000000000) ∧ (-5000000000000 ≤ h.a * g.c ∧ h.a * g.c ≤ 5000000000000) := by
  have := mul_bd kg.bc kh.bb
  have := mul_bd kh.bc kg.bb
  have := mul_bd kg.ba kh.bc
  have := mul_bd kh.ba kg.bc
  omega

theorem crossing_any {g h : H3} {w : World} (kg : HOk g) (kh : HOk h) (hne : cross g h ≠ 0) : Calls Tryz.prog 128 #[.agg #[.int .i64 g.a, .int .i64 g.b, .int .i64 g.c], .agg #[.int .i64 h.a, .int .i64 h.b, .int .i64 h.c]] w fun e w' =>
    e = .returned (.tuple #[.int .i64 (crossI g h).1, .int .i64 (crossI g h).2.1, .int .i64 (crossI g h).2.2, .bool true]) ∧ Below w.heap.size w w' := by
  obtain ⟨p1, p2, p3, p4⟩ := crossing_bd kg kh
  have p5 := cross_bd kg kh
  by_cases hs : cross g h < 0
  · have HS := Lib.hid (show crossI g h = (-(g.c * h.b - h.c * g.b), -(g.a * h.c - h.a * g.c), -cross g h) by unfold crossI; rw [if_pos hs])
    clear hne
    go_enter Tryz.func128, Tryz.ntmps128
    go_wp2_with (first | (go_at_call 126; (first | (with_reducible refine (calls_ov2 (cross_any kg kh)).mono ?_) | refine (calls_ov (cross_any kg kh)).mono ?_); rintro e w' ⟨rfl, x, rfl⟩))
    refine bodyPost_ret (results_tmp4 rfl _ _ _) rfl ⟨by rw [HS.out]; rfl, ?_⟩
    (repeat (first | exact bR | refine bO ?_ | refine bA ?_ | refine bS ?_ | refine bD ?_ | refine bN ?_))
  · have HS := Lib.hid (show crossI g h = ((g.c * h.b - h.c * g.b), (g.a * h.c - h.a * g.c), cross g h) by unfold crossI; rw [if_neg hs])
    have hp : 0 < cross g h := by omega
    have hz : (cross g h != 0) = true := by simp; omega
    clear hne
    go_enter Tryz.func128, Tryz.ntmps128
    go_wp2_with (first | (go_at_call 126; (first | (with_reducible refine (calls_ov2 (cross_any kg kh)).mono ?_) | refine (calls_ov (cross_any kg kh)).mono ?_); rintro e w' ⟨rfl, x, rfl⟩))
    refine bodyPost_ret (results_tmp4 rfl _ _ _) rfl ⟨by rw [HS.out]; rfl, ?_⟩
    (repeat (first | exact bR | refine bO ?_ | refine bA ?_ | refine bS ?_ | refine bD ?_ | refine bN ?_))

/-- The mark in block B is set. -/
def mset (w : World) (B : Nat) (n d : Int) : World := ((w.setCell ⟨B, 0, none⟩ (.int .i64 n)).setCell ⟨B, 1, none⟩ (.int .i64 d)).setCell ⟨B, 2, none⟩ (.bool true)
@[go_sem] theorem setCell_drewN (w : World) (n : Nat) (a : Addr) (v : Value) : (w.drewN n).setCell a v = (w.setCell a v).drewN n := rfl
theorem quiet_left {P : Program} {f : FuncId} {args : Array Value} {w : World} {n : Nat} {v : Value}
    (h : Calls P f args (w.drewN n) fun e w' => e = .returned v ∧ w.drewN n = w') : Calls P f args (w.drewN n) fun e w'' => e = .returned v ∧ ∃ m, w'' = w.drewN m :=
  h.mono fun _ _ ⟨he, hm⟩ => ⟨he, n, hm.symm⟩

section
variable {n d n0 d0 : Int} {B : Nat} {w : World}
theorem narrow_first {later : Bool} (c0 : w.cell? ⟨B, 0, none⟩ = some (.int .i64 n0)) (c1 : w.cell? ⟨B, 1, none⟩ = some (.int .i64 d0)) (c2 : w.cell? ⟨B, 2, none⟩ = some (.bool false))
    (f0 : w.frozen? ⟨B, 0, none⟩ = false) (f1 : w.frozen? ⟨B, 1, none⟩ = false) (f2 : w.frozen? ⟨B, 2, none⟩ = false) :
    Calls Tryz.prog 129 #[.pointer (some ⟨B, 0, none⟩), .int .i64 n, .int .i64 d, .bool later] w fun e w' =>
      e = .returned (.tuple #[]) ∧ ∃ k, w' = (mset w B n d).drewN k := by
  go_enter Tryz.func129, Tryz.ntmps129
  go_wp2
  go_end0
  exact ⟨rfl, 0, rfl⟩

variable (c0 : w.cell? ⟨B, 0, none⟩ = some (.int .i64 n0)) (c1 : w.cell? ⟨B, 1, none⟩ = some (.int .i64 d0)) (c2 : w.cell? ⟨B, 2, none⟩ = some (.bool true))
    (f0 : w.frozen? ⟨B, 0, none⟩ = false) (f1 : w.frozen? ⟨B, 1, none⟩ = false) (f2 : w.frozen? ⟨B, 2, none⟩ = false)
    (hn : -9223372036854775808 ≤ n ∧ n ≤ 9223372036854775807) (hd : 0 < d ∧ d ≤ 9223372036854775807) (hn0 : -9223372036854775808 ≤ n0 ∧ n0 ≤ 9223372036854775807) (hd0 : 0 < d0 ∧ d0 ≤ 9223372036854775807)
include c0 c1 c2 f0 f1 f2 hn hd hn0 hd0
theorem narrow_to_keep (h : 0 ≤ cmpF n d n0 d0) :
    Calls Tryz.prog 129 #[.pointer (some ⟨B, 0, none⟩), .int .i64 n, .int .i64 d, .bool false] w fun e w' =>
      e = .returned (.tuple #[]) ∧ ∃ k, w' = w.drewN k := by
  go_enter Tryz.func129, Tryz.ntmps129
  go_wp2
  go_quiet ((go_at_call 73; exact quiet_left (compareFractions_any _ _ _ _ _ hn hd hn0 hd0)))
  go_wp2
  exact bodyPost_ret (results_none rfl _ _ _) rfl ⟨rfl, _, rfl⟩
theorem narrow_to_set (h : cmpF n d n0 d0 < 0) :
    Calls Tryz.prog 129 #[.pointer (some ⟨B, 0, none⟩), .int .i64 n, .int .i64 d, .bool false] w fun e w' =>
      e = .returned (.tuple #[]) ∧ ∃ k, w' = (mset w B n d).drewN k := by
  go_enter Tryz.func129, Tryz.ntmps129
  go_wp2
  go_quiet ((go_at_call 73; exact quiet_left (compareFractions_any _ _ _ _ _ hn hd hn0 hd0)))
  go_wp2
  go_end0
  exact ⟨rfl, _, rfl⟩
theorem narrow_from_keep (h : cmpF n d n0 d0 ≤ 0) :
    Calls Tryz.prog 129 #[.pointer (some ⟨B, 0, none⟩), .int .i64 n, .int .i64 d, .bool true] w fun e w' =>
      e = .returned (.tuple #[]) ∧ ∃ k, w' = w.drewN k := by
  go_enter Tryz.func129, Tryz.ntmps129
  go_wp2
  go_quiet ((go_at_call 73; exact quiet_left (compareFractions_any _ _ _ _ _ hn hd hn0 hd0)))
  go_wp2
  exact bodyPost_ret (results_none rfl _ _ _) rfl ⟨rfl, _, rfl⟩
theorem narrow_from_set (h : 0 < cmpF n d n0 d0) :
    Calls Tryz.prog 129 #[.pointer (some ⟨B, 0, none⟩), .int .i64 n, .int .i64 d, .bool true] w fun e w' =>
      e = .returned (.tuple #[]) ∧ ∃ k, w' = (mset w B n d).drewN k := by
  go_enter Tryz.func129, Tryz.ntmps129
  go_wp2
  go_quiet ((go_at_call 73; exact quiet_left (compareFractions_any _ _ _ _ _ hn hd hn0 hd0)))
  go_wp2
  go_end0
  exact ⟨rfl, _, rfl⟩
end
end Go.Proofs.YtabmfaamadbefaaGreat
set_option linter.unusedSimpArgs false
set_option linter.unusedVariables false
set_option linter.unusedSectionVars false
namespace Go.Proofs.YtabmfaamadbefaaGreat
open Go.RowKit
/-- The world in isEdge's loop: the half plane's box, the two marks, what else was made. -/
def edgeW (w : World) (h : H3) (fn fd : Int) (fb : Bool) (tn td : Int) (tb : Bool) : World :=
  ((w.alloc (.cells #[.int .i64 h.a, .int .i64 h.b, .int .i64 h.c] 44)).alloc (.cells #[.int .i64 fn, .int .i64 fd, .bool fb] 146)).alloc (.cells #[.int .i64 tn, .int .i64 td, .bool tb] 146)

def ScanAt (L : List H3) (h : H3) (k j : Nat) (fn fd : Int) (fb : Bool) (tn td : Int) (tb : Bool) : Prop :=
  scanS h ((L.take j).eraseIdx k) = some (optM fb fn fd, optM tb tn td)

theorem wfacts (w : World) : w.heap.size < w.heap.size + 1 + 1 + 1 ∧ w.heap.size + 1 < w.heap.size + 1 + 1 + 1 ∧ w.heap.size + 1 + 1 < w.heap.size + 1 + 1 + 1 := by omega

set_option maxHeartbeats 2000000 in
theorem isEdge_any {L : List H3} {k : Nat} {A : Option Addr} {c : Nat} {w : World} (G : ∀ g ∈ L, HOk g) (hk : k < L.length) (R : R3 44 w A c L) (hl : L.length ≤ 1000) :
    Calls Tryz.prog 95 #[.slice A L.length c, .int .i64 k] w fun e w' => e = .returned (.tuple #[.bool (edgeI L k L[k]).1, .bool (edgeI L k L[k]).2]) ∧ Below w.heap.size w w' := by
  obtain ⟨g, rfl, hg, q0, q1, q2⟩ := R.at_ hk
  have kh := G _ (List.getElem_mem hk)
  go_enter Tryz.func95, Tryz.ntmps95
  go_wp2
  go_loopw [23] (fun i wr => ∃ j : Nat, j ≤ L.length ∧ i = .int .i64 j ∧ ∃ (fn fd : Int) (fb : Bool) (tn td : Int) (tb : Bool), ScanAt L L[k] k j fn fd fb tn td tb ∧
      (-1000000000000000000 ≤ fn ∧ fn ≤ 1000000000000000000) ∧ (fd ≤ 5000000000 ∧ (fb = true → 0 < fd)) ∧ (-1000000000000000000 ≤ tn ∧ tn ≤ 1000000000000000000) ∧ (td ≤ 5000000000 ∧ (tb = true → 0 < td)) ∧
      ∃ x, wr = ov (edgeW w L[k] fn fd fb tn td tb) x) (fun i _ => L.length - (intOf i).toNat)
  case atStart => exact ⟨0, Nat.zero_le _, rfl, 0, 0, false, 0, 0, false, rfl, by omega, ⟨by omega, by simp⟩, by omega, ⟨by omega, by simp⟩, ov_of_below (Below.refl _ _)⟩
  case round =>
    obtain ⟨j, hj, rfl, fn, fd, fb, tn, td, tb, hs, bf, bfd, bt, btd, x, rfl⟩ := hrel
    by_cases hlt : j < L.length
    · obtain ⟨g', eg, hg', z0, z1, z2⟩ := ((((R.alloc _).alloc _).alloc _).ov x : R3 44 (ov (edgeW w L[k] fn fd fb tn td tb) x) _ _ _).at_ hlt
      obtain rfl : g' = g := by injection eg with e; injection e with e; exact e.symm
      unfold edgeW
      clear eg
      by_cases hjk : j = k
      · have ejk : ((j : Int) == (k : Int)) = true := by simp [hjk]
        have HJ := Lib.hid hjk
        clear hjk
        go_wp2
        go_roundw
        case rel => exact ⟨j + 1, by omega, by go_num, fn, fd, fb, tn, td, tb, by have e := HJ.out; unfold ScanAt at *; rw [e] at hs ⊢; rw [take_erase_same]; exact hs, bf, bfd, bt, btd, by (try unfold edgeW); exact ov_of_below (by repeat (first | exact bR | refine bO ?_ | refine bA ?_ | refine bS ?_ | refine bD ?_ | refine bN ?_))⟩
        case measure => simp [intOf]; omega
      · have ejk : ((j : Int) == (k : Int)) = false := by simp; omega
        have kg := G _ (List.getElem_mem hlt)
        have hsc := Lib.hid (scanS_succ L[k] L k j hlt hjk)
        have hnone := Lib.hid (scanS_none_all L[k] L k j hlt hjk)
        clear hjk
        by_cases c0 : cross L[k] L[j] = 0
        · have ec : (cross L[k] L[j] == 0) = true := by simp [c0]
          have C0 := Lib.hid c0
          clear c0
          cases hl : leaves L[j] L[k] with
          | true =>
            go_wp2_with (first | (go_at_call 126; (first | (with_reducible refine (calls_ov2 (cross_any kh kg)).mono ?_) | refine (calls_ov (cross_any kh kg)).mono ?_); rintro e w' ⟨rfl, x, rfl⟩) | (go_at_call 127; (first | (with_reducible refine (calls_ov2 (hl ▸ leavesRoom_any kg kh)).mono ?_) | refine (calls_ov (hl ▸ leavesRoom_any kg kh)).mono ?_); rintro e w' ⟨rfl, x, rfl⟩))
            go_roundw
            case rel => exact ⟨j + 1, by omega, by go_num, fn, fd, fb, tn, td, tb, by unfold ScanAt at *; rw [hsc.out, hs, step_zero _ _ C0.out, hl]; rfl, bf, bfd, bt, btd, by (try unfold edgeW); exact ov_of_below (by repeat (first | exact bR | refine bO ?_ | refine bA ?_ | refine bS ?_ | refine bD ?_ | refine bN ?_))⟩
            case measure => simp [intOf]; omega
          | false =>
            have HN := Lib.hid (show edgeI L k L[k] = (false, true) from edgeI_of_none (hnone.out (by unfold ScanAt at hs; rw [hs, step_zero _ _ C0.out, hl]; rfl)))
            go_wp2_with (first | (go_at_call 126; (first | (with_reducible refine (calls_ov2 (cross_any kh kg)).mono ?_) | refine (calls_ov (cross_any kh kg)).mono ?_); rintro e w' ⟨rfl, x, rfl⟩) | (go_at_call 127; (first | (with_reducible refine (calls_ov2 (hl ▸ leavesRoom_any kg kh)).mono ?_) | refine (calls_ov (hl ▸ leavesRoom_any kg kh)).mono ?_); rintro e w' ⟨rfl, x, rfl⟩))
            go_ret2
            exact ⟨by rw [HN.out]; rfl, (by repeat (first | exact bR | refine bO ?_ | refine bA ?_ | refine bS ?_ | refine bD ?_ | refine bN ?_))⟩
        · have ec : (cross L[k] L[j] == 0) = false := by simp [c0]
          obtain ⟨m1, m2, m3, m4⟩ := mark_parts kh kg
          have mb := markI_bd kh kg c0
          have dlo := crossI_pos c0
          have dhi := crossI_bd kh kg
          have MV := Lib.hid (show markI L[k] L[j] = (L[k].a * (crossI L[k] L[j]).2.1 - L[k].b * (crossI L[k] L[j]).1, (crossI L[k] L[j]).2.2) from rfl)
          by_cases cp : 0 < cross L[k] L[j]
          · cases tb with
            | false =>
              have HU := Lib.hid (show scanS L[k] ((L.take (j + 1)).eraseIdx k) = some (optM fb fn fd, optM true (markI L[k] L[j]).1 (markI L[k] L[j]).2) by unfold ScanAt at hs; rw [hsc.out, hs, step_pos _ _ cp]; rfl)
              go_wp2_with (first | (go_at_call 126; (first | (with_reducible refine (calls_ov2 (cross_any kh kg)).mono ?_) | refine (calls_ov (cross_any kh kg)).mono ?_); rintro e w' ⟨rfl, x, rfl⟩) | (go_at_call 128; (first | (with_reducible refine (calls_ov2 (crossing_any kh kg c0)).mono ?_) | refine (calls_ov (crossing_any kh kg c0)).mono ?_); rintro e w' ⟨rfl, x, rfl⟩) | (go_at_call 129; refine (narrow_first (n0 := tn) (d0 := td) (by simp [go_sem]) (by simp [go_sem]) (by simp [go_sem]) (by simp [go_sem]) (by simp [go_sem]) (by simp [go_sem])).mono ?_; rintro e w' ⟨rfl, n', rfl⟩; (try unfold mset)))
              go_roundw
              case rel => exact ⟨j + 1, by omega, by go_num, fn, fd, fb, (markI L[k] L[j]).1, (markI L[k] L[j]).2, true, HU.out, bf, bfd, ⟨mb.1, mb.2.1⟩, ⟨mb.2.2.2, fun _ => mb.2.2.1⟩, by (try unfold edgeW); exact ov_of_below (by repeat (first | exact bR | refine bO ?_ | refine bA ?_ | refine bS ?_ | refine bD ?_ | refine bN ?_))⟩
              case measure => simp [intOf]; omega
            | true =>
              have td0 := btd.2 rfl
              by_cases hc : 0 ≤ cmpF (markI L[k] L[j]).1 (markI L[k] L[j]).2 tn td
              · have HU := Lib.hid (show scanS L[k] ((L.take (j + 1)).eraseIdx k) = some (optM fb fn fd, optM true tn td) by unfold ScanAt at hs; rw [hsc.out, hs, step_pos _ _ cp, upd_to, if_pos hc])
                go_wp2_with (first | (go_at_call 126; (first | (with_reducible refine (calls_ov2 (cross_any kh kg)).mono ?_) | refine (calls_ov (cross_any kh kg)).mono ?_); rintro e w' ⟨rfl, x, rfl⟩) | (go_at_call 128; (first | (with_reducible refine (calls_ov2 (crossing_any kh kg c0)).mono ?_) | refine (calls_ov (crossing_any kh kg c0)).mono ?_); rintro e w' ⟨rfl, x, rfl⟩) | (go_at_call 129; refine (narrow_to_keep (n0 := tn) (d0 := td) (by simp [go_sem]) (by simp [go_sem]) (by simp [go_sem]) (by simp [go_sem]) (by simp [go_sem]) (by simp [go_sem]) (by omega) (by omega) (by omega) (by omega) (by have e := MV.out; rw [e] at hc; simp only at hc; omega)).mono ?_; rintro e w' ⟨rfl, n', rfl⟩; (try unfold mset)))
                go_roundw
                case rel => exact ⟨j + 1, by omega, by go_num, fn, fd, fb, tn, td, true, HU.out, bf, bfd, bt, ⟨btd.1, fun _ => td0⟩, by (try unfold edgeW); exact ov_of_below (by repeat (first | exact bR | refine bO ?_ | refine bA ?_ | refine bS ?_ | refine bD ?_ | refine bN ?_))⟩
                case measure => simp [intOf]; omega
              · have HU := Lib.hid (show scanS L[k] ((L.take (j + 1)).eraseIdx k) = some (optM fb fn fd, optM true (markI L[k] L[j]).1 (markI L[k] L[j]).2) by unfold ScanAt at hs; rw [hsc.out, hs, step_pos _ _ cp, upd_to, if_neg hc])
                go_wp2_with (first | (go_at_call 126; (first | (with_reducible refine (calls_ov2 (cross_any kh kg)).mono ?_) | refine (calls_ov (cross_any kh kg)).mono ?_); rintro e w' ⟨rfl, x, rfl⟩) | (go_at_call 128; (first | (with_reducible refine (calls_ov2 (crossing_any kh kg c0)).mono ?_) | refine (calls_ov (crossing_any kh kg c0)).mono ?_); rintro e w' ⟨rfl, x, rfl⟩) | (go_at_call 129; refine (narrow_to_set (n0 := tn) (d0 := td) (by simp [go_sem]) (by simp [go_sem]) (by simp [go_sem]) (by simp [go_sem]) (by simp [go_sem]) (by simp [go_sem]) (by omega) (by omega) (by omega) (by omega) (by have e := MV.out; rw [e] at hc; simp only at hc; omega)).mono ?_; rintro e w' ⟨rfl, n', rfl⟩; (try unfold mset)))
                go_roundw
                case rel => exact ⟨j + 1, by omega, by go_num, fn, fd, fb, (markI L[k] L[j]).1, (markI L[k] L[j]).2, true, HU.out, bf, bfd, ⟨mb.1, mb.2.1⟩, ⟨mb.2.2.2, fun _ => mb.2.2.1⟩, by (try unfold edgeW); exact ov_of_below (by repeat (first | exact bR | refine bO ?_ | refine bA ?_ | refine bS ?_ | refine bD ?_ | refine bN ?_))⟩
                case measure => simp [intOf]; omega
          · have cn : cross L[k] L[j] < 0 := by omega
            cases fb with
            | false =>
              have HU := Lib.hid (show scanS L[k] ((L.take (j + 1)).eraseIdx k) = some (optM true (markI L[k] L[j]).1 (markI L[k] L[j]).2, optM tb tn td) by unfold ScanAt at hs; rw [hsc.out, hs, step_neg _ _ cn]; rfl)
              go_wp2_with (first | (go_at_call 126; (first | (with_reducible refine (calls_ov2 (cross_any kh kg)).mono ?_) | refine (calls_ov (cross_any kh kg)).mono ?_); rintro e w' ⟨rfl, x, rfl⟩) | (go_at_call 128; (first | (with_reducible refine (calls_ov2 (crossing_any kh kg c0)).mono ?_) | refine (calls_ov (crossing_any kh kg c0)).mono ?_); rintro e w' ⟨rfl, x, rfl⟩) | (go_at_call 129; refine (narrow_first (n0 := fn) (d0 := fd) (by simp [go_sem]) (by simp [go_sem]) (by simp [go_sem]) (by simp [go_sem]) (by simp [go_sem]) (by simp [go_sem])).mono ?_; rintro e w' ⟨rfl, n', rfl⟩; (try unfold mset)))
              go_roundw
              case rel => exact ⟨j + 1, by omega, by go_num, (markI L[k] L[j]).1, (markI L[k] L[j]).2, true, tn, td, tb, HU.out, ⟨mb.1, mb.2.1⟩, ⟨mb.2.2.2, fun _ => mb.2.2.1⟩, bt, btd, by (try unfold edgeW); exact ov_of_below (by repeat (first | exact bR | refine bO ?_ | refine bA ?_ | refine bS ?_ | refine bD ?_ | refine bN ?_))⟩
              case measure => simp [intOf]; omega
            | true =>
              have fd0 := bfd.2 rfl
              by_cases hc : cmpF (markI L[k] L[j]).1 (markI L[k] L[j]).2 fn fd ≤ 0
              · have HU := Lib.hid (show scanS L[k] ((L.take (j + 1)).eraseIdx k) = some (optM true fn fd, optM tb tn td) by unfold ScanAt at hs; rw [hsc.out, hs, step_neg _ _ cn, upd_from, if_pos hc])
                go_wp2_with (first | (go_at_call 126; (first | (with_reducible refine (calls_ov2 (cross_any kh kg)).mono ?_) | refine (calls_ov (cross_any kh kg)).mono ?_); rintro e w' ⟨rfl, x, rfl⟩) | (go_at_call 128; (first | (with_reducible refine (calls_ov2 (crossing_any kh kg c0)).mono ?_) | refine (calls_ov (crossing_any kh kg c0)).mono ?_); rintro e w' ⟨rfl, x, rfl⟩) | (go_at_call 129; refine (narrow_from_keep (n0 := fn) (d0 := fd) (by simp [go_sem]) (by simp [go_sem]) (by simp [go_sem]) (by simp [go_sem]) (by simp [go_sem]) (by simp [go_sem]) (by omega) (by omega) (by omega) (by omega) (by have e := MV.out; rw [e] at hc; simp only at hc; omega)).mono ?_; rintro e w' ⟨rfl, n', rfl⟩; (try unfold mset)))
                go_roundw
                case rel => exact ⟨j + 1, by omega, by go_num, fn, fd, true, tn, td, tb, HU.out, bf, ⟨bfd.1, fun _ => fd0⟩, bt, btd, by (try unfold edgeW); exact ov_of_below (by repeat (first | exact bR | refine bO ?_ | refine bA ?_ | refine bS ?_ | refine bD ?_ | refine bN ?_))⟩
                case measure => simp [intOf]; omega
              · have HU := Lib.hid (show scanS L[k] ((L.take (j + 1)).eraseIdx k) = some (optM true (markI L[k] L[j]).1 (markI L[k] L[j]).2, optM tb tn td) by unfold ScanAt at hs; rw [hsc.out, hs, step_neg _ _ cn, upd_from, if_neg hc])
                go_wp2_with (first | (go_at_call 126; (first | (with_reducible refine (calls_ov2 (cross_any kh kg)).mono ?_) | refine (calls_ov (cross_any kh kg)).mono ?_); rintro e w' ⟨rfl, x, rfl⟩) | (go_at_call 128; (first | (with_reducible refine (calls_ov2 (crossing_any kh kg c0)).mono ?_) | refine (calls_ov (crossing_any kh kg c0)).mono ?_); rintro e w' ⟨rfl, x, rfl⟩) | (go_at_call 129; refine (narrow_from_set (n0 := fn) (d0 := fd) (by simp [go_sem]) (by simp [go_sem]) (by simp [go_sem]) (by simp [go_sem]) (by simp [go_sem]) (by simp [go_sem]) (by omega) (by omega) (by omega) (by omega) (by have e := MV.out; rw [e] at hc; simp only at hc; omega)).mono ?_; rintro e w' ⟨rfl, n', rfl⟩; (try unfold mset)))
                go_roundw
                case rel => exact ⟨j + 1, by omega, by go_num, (markI L[k] L[j]).1, (markI L[k] L[j]).2, true, tn, td, tb, HU.out, ⟨mb.1, mb.2.1⟩, ⟨mb.2.2.2, fun _ => mb.2.2.1⟩, bt, btd, by (try unfold edgeW); exact ov_of_below (by repeat (first | exact bR | refine bO ?_ | refine bA ?_ | refine bS ?_ | refine bD ?_ | refine bN ?_))⟩
                case measure => simp [intOf]; omega
    · obtain rfl : j = L.length := by omega
      have hs' : scanS L[k] (L.eraseIdx k) = some (optM fb fn fd, optM tb tn td) := by unfold ScanAt at hs; rwa [List.take_length] at hs
      have HE := Lib.hid (edgeI_of_scan hs')
      clear hs'
      unfold edgeW
      cases fb with
      | false =>
        go_wp2
        go_ret2
        exact ⟨by rw [HE.out]; rfl, (by repeat (first | exact bR | refine bO ?_ | refine bA ?_ | refine bS ?_ | refine bD ?_ | refine bN ?_))⟩
      | true =>
        cases tb with
        | false =>
          go_wp2
          go_ret2
          exact ⟨by rw [HE.out]; rfl, (by repeat (first | exact bR | refine bO ?_ | refine bA ?_ | refine bS ?_ | refine bD ?_ | refine bN ?_))⟩
        | true =>
          have fd0 := bfd.2 rfl
          have td0 := btd.2 rfl
          go_wp2_with (first | (go_at_call 73; refine (compareFractions_any _ _ _ _ _ (by omega) (by omega) (by omega) (by omega)).mono ?_; rintro e w' ⟨rfl, rfl⟩))
          go_ret2
          exact ⟨by rw [HE.out]; rfl, (by repeat (first | exact bR | refine bO ?_ | refine bA ?_ | refine bS ?_ | refine bD ?_ | refine bN ?_))⟩
end Go.Proofs.YtabmfaamadbefaaGreat