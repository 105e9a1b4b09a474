/- Several texts in one: Rn, Rw. Each says its own conditions. -/
import Derived.Test.YtabmfaamadbefaaGreatLk
/- Rows of ints that lie from a block on, with room for more: append on them; rows, regions and rooms marked and held. Condition: rows of at most 2^20. -/
set_option linter.unusedVariables false
set_option linter.unusedSimpArgs false
set_option linter.unusedSectionVars false
namespace Go.Proofs.YtabmfaamadbefaaGreat
open Go.ChangeShapes Go.WideShapes Go.ChangeAt Go.RowKit Go.Joins
def cellsI (xs : List Int) : List Value := xs.map (Value.int .i64)
theorem cellsI_length (xs : List Int) : (cellsI xs).length = xs.length * 1 := by simp [cellsI]
theorem cellsI_get (xs : List Int) (k : Nat) (hk : k < xs.length) : (cellsI xs)[k]? = some (.int .i64 xs[k]) := by simp [cellsI, hk]
theorem cellsI_one (xs : List Int) : ∀ u ∈ cellsI xs, u.oneCell' = true := by
  intro u hu
  obtain ⟨x, _, rfl⟩ := List.mem_map.1 hu
  rfl
def RN (B : Nat) (w : World) (A : Option Addr) (c : Nat) (xs : List Int) : Prop := w.ownsRow B 3 1 (.slice A xs.length c) xs.length (cellsI xs)
theorem RN.weak {B B' : Nat} {w : World} {A : Option Addr} {c : Nat} {xs : List Int} (h : RN B w A c xs) (hb : B' ≤ B) : RN B' w A c xs := by
  refine ⟨h.1, ?_⟩
  rcases h.2 with h1 | ⟨g, cap, cur, e, hg, r⟩
  · exact .inl h1
  · exact .inr ⟨g, cap, cur, e, by omega, r⟩
theorem RN.below {B : Nat} {w w' : World} {A : Option Addr} {c : Nat} {xs : List Int} (h : RN B w A c xs) (hb : Below w.heap.size w w') : RN B w' A c xs := by
  refine ⟨h.1, ?_⟩
  rcases h.2 with h1 | ⟨g, cap, cur, e, hg, hh, r⟩
  · exact .inl h1
  · exact .inr ⟨g, cap, cur, e, hg, (hb.block g (Array.getElem?_eq_some_iff.1 hh).1).trans hh, r⟩
theorem RN.nil (B : Nat) (w : World) : RN B w none 0 [] := ⟨rfl, .inl ⟨rfl, rfl⟩⟩
theorem RN.row {B : Nat} {w : World} {A : Option Addr} {c : Nat} {xs : List Int} (h : RN B w A c xs) (hn : 0 < xs.length) :
    ∃ g cur, A = some ⟨g, 0, none⟩ ∧ B ≤ g ∧ g < w.heap.size ∧ w.heap[g]? = some (.cells cur 3 (0, 0)) ∧ xs.length ≤ c ∧ c ≤ maxLen ∧ cur.size = c ∧ cur.toList.take xs.length = cellsI xs := by
  rcases h.2 with ⟨_, h1⟩ | ⟨g, cap, cur, e, hg, hh, h1, h2, h3, h4⟩
  · omega
  · injection e with a b d
    subst a; subst d
    exact ⟨g, cur, rfl, hg, (Array.getElem?_eq_some_iff.1 hh).1, hh, h1, h2, by omega, by simpa using h4⟩
theorem RN.ri {B : Nat} {w : World} {A : Option Addr} {c : Nat} {xs : List Int} (h : RN B w A c xs) : RI w A xs := fun k hk => by
  obtain ⟨g, cur, rfl, _, hlt, hh, _, _, _, h4⟩ := h.row (by omega)
  refine ⟨g, 0, rfl, hlt, ?_⟩
  rw [Nat.zero_add]
  refine cell_blk hh ?_
  have := cellsI_get xs k hk
  rw [← h4, List.getElem?_take, if_pos hk] at this
  simpa using this
theorem own_sliceI {B : Nat} {w : World} {v : Value} {xs : List Int} (h : w.ownsRow B 3 1 v xs.length (cellsI xs)) : ∃ A c, v = .slice A xs.length c ∧ RN B w A c xs := by
  rcases h.2 with ⟨e, h1⟩ | ⟨g, cap, cur, e, r⟩
  · subst e
    have : xs = [] := List.eq_nil_of_length_eq_zero h1
    subst this
    exact ⟨none, 0, rfl, RN.nil _ _⟩
  · subst e
    exact ⟨_, cap, rfl, h.1, .inr ⟨g, cap, cur, rfl, r⟩⟩
theorem RN.new0 {B n : Nat} {w : World} {cs : Array Value} (hn : n = w.heap.size) (hB : B ≤ w.heap.size) (h : cs = #[]) : RN B (w.alloc (.cells cs 3)) (some ⟨n, 0, none⟩) 0 [] := by
  subst h hn
  exact ⟨rfl, .inr ⟨w.heap.size, 0, _, rfl, hB, heap_alloc_new _ _, Nat.le_refl _, by unfold maxLen; omega, rfl, rfl⟩⟩
theorem RN.lt {B : Nat} {w : World} {A : Option Addr} {c n : Nat} {xs : List Int} (h : RN B w A c xs) : ∀ k, (Value.slice A n c).ownBlock = some k → B ≤ k ∧ k < w.heap.size := fun k hk => by
  rcases h.2 with ⟨e, _⟩ | ⟨g, cap, cur, e, hg, hh, _⟩
  · injection e with e; subst e; cases hk
  · injection e with e; subst e
    injection hk with hk
    subst hk
    exact ⟨hg, (Array.getElem?_eq_some_iff.1 hh).1⟩
theorem RN.form {B : Nat} {w : World} {A : Option Addr} {c : Nat} {xs : List Int} (h : RN B w A c xs) : A = none ∨ ∃ g, A = some ⟨g, 0, none⟩ := by
  rcases h.2 with ⟨e, _⟩ | ⟨g, cap, cur, e, _⟩
  · injection e with e; exact .inl e
  · injection e with e; exact .inr ⟨g, e⟩
theorem RN.ne_box {B b n : Nat} {T : TypeId} {w : World} {A : Option Addr} {c : Nat} {xs : List Int} {arr : Array Value} {fr : Nat × Nat} (h : RN B w A c xs) (hb : w.heap[b]? = some (.cells arr T fr)) (hT : T ≠ 3) : some b ≠ (Value.slice A n c).ownBlock := by
  intro e
  rcases h.2 with ⟨e1, _⟩ | ⟨g, cap, cur, e1, hg, hh, _⟩
  · injection e1 with e1; subst e1; cases e
  · injection e1 with e1; subst e1
    injection e with e
    subst e
    rw [hh] at hb
    injection hb with hb; injection hb with _ hb; exact hT hb.symm
theorem RN.set_box {B b i : Nat} {T : TypeId} {w : World} {A : Option Addr} {c : Nat} {xs : List Int} {arr : Array Value} {fr : Nat × Nat} {v : Value} (h : RN B w A c xs) (hb : w.heap[b]? = some (.cells arr T fr)) (hT : T ≠ 3) : RN B (w.setCell ⟨b, i, none⟩ v) A c xs := by
  refine ⟨h.1, ?_⟩
  rcases h.2 with e | ⟨g, cap, cur, e1, hg, hh, hr⟩
  · exact .inl e
  · refine .inr ⟨g, cap, cur, e1, hg, ?_, hr⟩
    rw [heap_setCell_other]
    · exact hh
    · rintro rfl
      rw [hh] at hb
      injection hb with hb; injection hb with _ hb; exact hT hb.symm
theorem RN.set_row {B b : Nat} {T : TypeId} {w : World} {A : Option Addr} {c : Nat} {xs : List Int} {cur arr : Array Value} {fr : Nat × Nat} (h : RN B w A c xs) (hb : w.heap[b]? = some (.cells cur T fr)) (hT : T ≠ 3) : RN B (w.setRow b arr) A c xs := by
  refine ⟨h.1, ?_⟩
  rcases h.2 with e | ⟨g, cap, cu, e1, hg, hh, hr⟩
  · exact .inl e
  · refine .inr ⟨g, cap, cu, e1, hg, ?_, hr⟩
    rw [setRow_other]
    · exact hh
    · rintro rfl
      rw [hh] at hb
      injection hb with hb; injection hb with _ hb; exact hT hb.symm
/-- A row of ints through the change of another block. -/
theorem RN.grown {B : Nat} {w w' : World} {A : Option Addr} {c : Nat} {xs : List Int} {o : Option Nat} (h : RN B w A c xs) (hg : w.grownBy w' o) (hne : ∀ k, A = some ⟨k, 0, none⟩ → some k ≠ o) : RN B w' A c xs := by
  refine ⟨h.1, ?_⟩
  rcases h.2 with e | ⟨g, cap, cu, e1, hgB, hh, hr⟩
  · exact .inl e
  · refine .inr ⟨g, cap, cu, e1, hgB, ?_, hr⟩
    injection e1 with e1
    exact (hg.block g (Array.getElem?_eq_some_iff.1 hh).1 (hne g e1)).trans hh
theorem RN.ad {B : Nat} {w : World} {A : Option Addr} {c : Nat} {xs : List Int} (h : RN B w A c xs) : ∀ k, A = some ⟨k, 0, none⟩ → B ≤ k ∧ k < w.heap.size := fun k hk => h.lt (n := 0) k (by subst hk; rfl)
/-- A row of half planes through the change of a row of ints, and the other way. -/
theorem RN.ne_h {B B1 n k : Nat} {w : World} {E : TypeId} {A A1 : Option Addr} {c c1 : Nat} {xs : List Int} {ys : List H3} (h : RN B w A c xs) (h1 : RB B1 E w A1 c1 ys) (hT : E ≠ 3) (hk : A1 = some ⟨k, 0, none⟩) : some k ≠ (Value.slice A n c).ownBlock := by
  rcases h1.2 with ⟨e, _⟩ | ⟨g, cap, cu, e1, hgB, hh, hr⟩
  · injection e with e; rw [e] at hk; cases hk
  · injection e1 with e1
    rw [hk] at e1
    injection e1 with e1; injection e1 with e1
    subst e1
    exact h.ne_box hh hT
theorem RN.ne_n {B B1 n k : Nat} {w : World} {E : TypeId} {A A1 : Option Addr} {c c1 : Nat} {xs : List Int} {ys : List H3} (h : RN B w A c xs) (h1 : RB B1 E w A1 c1 ys) (hT : E ≠ 3) (hk : A = some ⟨k, 0, none⟩) : some k ≠ (Value.slice A1 n c1).ownBlock := by
  rcases h.2 with ⟨e, _⟩ | ⟨g, cap, cu, e1, hgB, hh, hr⟩
  · injection e with e; rw [e] at hk; cases hk
  · injection e1 with e1
    rw [hk] at e1
    injection e1 with e1; injection e1 with e1
    subst e1
    exact h1.ne_box hh (Ne.symm hT)
theorem RB.grown_n {B B1 n : Nat} {E : TypeId} {w w' : World} {A A1 : Option Addr} {c c1 : Nat} {xs : List H3} {ys : List Int} (h : RB B E w A c xs) (h1 : RN B1 w A1 c1 ys) (hg : w.grownBy w' (Value.slice A1 n c1).ownBlock) (hT : E ≠ 3) : RB B E w' A c xs := by
  refine ⟨h.1, ?_⟩
  rcases h.2 with e | ⟨g, cap, cu, e1, hgB, hh, hr⟩
  · exact .inl e
  · refine .inr ⟨g, cap, cu, e1, hgB, ?_, hr⟩
    injection e1 with e1
    exact (hg.block g (Array.getElem?_eq_some_iff.1 hh).1 (h1.ne_h h hT e1)).trans hh
theorem IB.rn {g : Nat} {w : World} {xs : List Int} (h : IB g w xs) (hl : xs.length ≤ maxLen) : RN g w (some ⟨g, 0, none⟩) xs.length xs := by
  obtain ⟨cur, h1, h2, h3⟩ := h
  refine ⟨cellsI_length _, .inr ⟨g, xs.length, cur, rfl, Nat.le_refl _, h1, Nat.le_refl _, hl, by omega, ?_⟩⟩
  apply List.ext_getElem?
  intro j
  rw [Nat.mul_one]
  by_cases hj : j < xs.length
  · rw [List.getElem?_take, if_pos hj, cellsI_get xs j hj, ← h3 j hj]; simp
  · rw [List.getElem?_eq_none (by simp; omega), List.getElem?_eq_none (by simp [cellsI]; omega)]

/-- append(s, x...) on rows of ints: s of the call's own, x any row that has memory. -/
theorem wpList_append_ints {ops : Array Oper} {rest : List Oper} {o : Oper} {a : Act} {Q : Exit → Act → World → Prop} {w : World} (hgd : o.guard = none) (s x : Operand)
    (ho : o.op = .call { callee := .builtin .append, args := #[s, x], argTypes := #[23, 23] }) (B : Nat) {A : Option Addr} {ad : Addr} {c c2 : Nat} {os xs : List Int}
    (hs : a.eval s = .slice A os.length c) (hown : RN B w A c os) (hx : a.eval x = .slice (some ad) xs.length c2) (src : RI w (some ad) xs) (hl : os.length + xs.length ≤ 3000000) (hB : B ≤ w.heap.size)
    (h : ∀ A' c' w', RN B w' A' c' (os ++ xs) → Hid (∀ {w0 : World}, Below B w0 w → B ≤ w0.heap.size → Below B w0 w') → wpList Tryz.prog ops Q rest (a.put o.dst (.slice A' (os.length + xs.length) c')) w') : wpList Tryz.prog ops Q (o :: rest) a w := by
  obtain ⟨i0, hi, hz0, hz1, hz2⟩ := info_int_parts
  refine wpList_append_own (P := Tryz.prog) w hgd s x 23 ho B 3 i0 (.int .i64 0) 1 8 Tryz.underlying23 hi hz0 hz1 hz2 rfl (by decide) _ _ _ hs hown ad xs.length c2 (cellsI xs) hx (cellsI_length _) ?_ (cellsI_one _) (by unfold maxLen; omega) (by omega) hB ?_
  · intro j u hj
    have hlt : j < xs.length := by
      have := (List.getElem?_eq_some_iff.1 hj).1
      simpa [cellsI] using this
    obtain ⟨g, o, e, _, hc⟩ := src j hlt
    obtain rfl := Option.some.inj e
    rw [cellsI_get xs j hlt] at hj
    obtain rfl := Option.some.inj hj
    have ha : (⟨g, o, none⟩ : Addr).add j = ⟨g, o + j, none⟩ := by
      simp only [Addr.add]
      split
      · rename_i q; subst q; rfl
      · rfl
    rw [ha]; exact hc
  intro v' w' O hg _
  have O' : w'.ownsRow B 3 1 v' (os ++ xs).length (cellsI (os ++ xs)) := by
    rw [List.length_append]
    have e : cellsI (os ++ xs) = cellsI os ++ cellsI xs := by simp [cellsI]
    rw [e]
    exact O
  obtain ⟨A', c', rfl, R⟩ := own_sliceI O'
  rw [List.length_append]
  exact h A' c' w' R (Lib.hid fun hb hB0 => grown_below hb hg (fun k hk => (hown.lt k hk).1) hB0)

def marksI (k : Int) (n : Nat) : List Int := (List.range n).map fun (i : Nat) => k + (i : Int)
theorem marksI_length (k : Int) (n : Nat) : (marksI k n).length = n := by simp [marksI]
theorem marksI_get (k : Int) (n i : Nat) (h : i < (marksI k n).length) : (marksI k n)[i] = k + i := by simp [marksI]
theorem RN.set_ {B : Nat} {w : World} {g c j : Nat} {xs : List Int} (h : RN B w (some ⟨g, 0, none⟩) c xs) (hj : j < xs.length) (v : Int) : RN B (w.setCell ⟨g, j, none⟩ (.int .i64 v)) (some ⟨g, 0, none⟩) c (xs.set j v) := by
  obtain ⟨g', cur, e, hB, hlt, hh, h1, h2, h3, h4⟩ := h.row (by omega)
  injection e with e
  injection e with e
  subst e
  refine ⟨cellsI_length _, .inr ⟨g, c, cur.setIfInBounds j (.int .i64 v), by rw [List.length_set], hB, heap_setCell_same w g j cur _ _ hh, by rw [List.length_set]; exact h1, h2, by simp [h3], ?_⟩⟩
  rw [List.length_set, Nat.mul_one, Array.toList_setIfInBounds, List.take_set, h4]
  simp [cellsI, List.map_set]
theorem markI_set {xs : List Int} {k : Nat} {b : Int} (hk : k < xs.length) : (marksI b k ++ xs.drop k).set k (b + k) = marksI b (k + 1) ++ xs.drop (k + 1) := by
  have hl := marksI_length b k
  rw [List.set_append_right (h := by omega), hl, Nat.sub_self, List.drop_eq_getElem_cons hk, List.set_cons_zero]
  simp [marksI, List.range_succ]

end Go.Proofs.YtabmfaamadbefaaGreat
/- Rooms whose three rows lie from a block on, the row of ints with room for more: marked and held; what a call leaves that makes such a room. Condition: rows of at most 2^20. -/
set_option linter.unusedVariables false
set_option linter.unusedSimpArgs false
set_option linter.unusedSectionVars false
namespace Go.Proofs.YtabmfaamadbefaaGreat
open Go.ChangeShapes Go.WideShapes Go.ChangeAt Go.RowKit Go.Joins
structure RBO (B : Nat) (w : World) (r : RoomV) (A1 : Option Addr) (c1 : Nat) (A2 : Option Addr) (c2 : Nat) (A3 : Option Addr) (c3 : Nat) : Prop where
  nn : RN B w A1 c1 r.m
  nb : RB B 44 w A2 c2 r.ns
  lb : RB B 44 w A3 c3 r.ls
  ap : Apart A2 A3
theorem RBO.below {B : Nat} {w w' : World} {r : RoomV} {A1 A2 A3 : Option Addr} {c1 c2 c3 : Nat} (h : RBO B w r A1 c1 A2 c2 A3 c3) (hb : Below w.heap.size w w') : RBO B w' r A1 c1 A2 c2 A3 c3 := ⟨h.nn.below hb, h.nb.below hb, h.lb.below hb, h.ap⟩
theorem RBO.weak {B B' : Nat} {w : World} {r : RoomV} {A1 A2 A3 : Option Addr} {c1 c2 c3 : Nat} (h : RBO B w r A1 c1 A2 c2 A3 c3) (hb : B' ≤ B) : RBO B' w r A1 c1 A2 c2 A3 c3 := ⟨h.nn.weak hb, h.nb.weak hb, h.lb.weak hb, h.ap⟩
theorem RBO.rm {B : Nat} {w : World} {r : RoomV} {A1 A2 A3 : Option Addr} {c1 c2 c3 : Nat} (h : RBO B w r A1 c1 A2 c2 A3 c3) : RM w r A1 A2 c2 A3 c3 := ⟨h.nn.ri, h.nb.r3, h.lb.r3⟩
def RoomPost (w : World) (r : RoomV) (ok : Bool) (e : Ending) (w' : World) : Prop := ∃ A1 d1 A2 d2 A3 d3, e = .returned (.tuple #[.agg #[.slice A1 r.m.length d1, .int .i64 r.q, .int .i64 r.bx, .int .i64 r.by_, .int .i64 r.lo, .int .i64 r.hi, .slice A2 r.ns.length d2, .slice A3 r.ls.length d3], .bool ok]) ∧ RBO w.heap.size w' r A1 d1 A2 d2 A3 d3 ∧ Below w.heap.size w w'
def CopyPost (w : World) (r : RoomV) (e : Ending) (w' : World) : Prop := ∃ A1 d1 A2 d2 A3 d3, e = .returned (.agg #[.slice A1 r.m.length d1, .int .i64 r.q, .int .i64 r.bx, .int .i64 r.by_, .int .i64 r.lo, .int .i64 r.hi, .slice A2 r.ns.length d2, .slice A3 r.ls.length d3]) ∧ RBO w.heap.size w' r A1 d1 A2 d2 A3 d3 ∧ Below w.heap.size w w'
def GRoomN (r : RoomV) (w0 : World) (v : Value) (w : World) : Prop := ∃ A1 d1 A2 d2 A3 d3, v = .agg #[.slice A1 r.m.length d1, .int .i64 r.q, .int .i64 r.bx, .int .i64 r.by_, .int .i64 r.lo, .int .i64 r.hi, .slice A2 r.ns.length d2, .slice A3 r.ls.length d3] ∧ RBO w0.heap.size w r A1 d1 A2 d2 A3 d3
def GRTupN (r : RoomV) (ok : Bool) (w0 : World) (v : Value) (w : World) : Prop := ∃ A1 d1 A2 d2 A3 d3, v = .tuple #[.agg #[.slice A1 r.m.length d1, .int .i64 r.q, .int .i64 r.bx, .int .i64 r.by_, .int .i64 r.lo, .int .i64 r.hi, .slice A2 r.ns.length d2, .slice A3 r.ls.length d3], .bool ok] ∧ RBO w0.heap.size w r A1 d1 A2 d2 A3 d3
theorem owned_roomN {T : TypeId} (h1 : T ≠ 44) (h2 : T ≠ 3) (r : RoomV) : Owned T (GRoomN r) :=
  ⟨fun w0 v w x ⟨a1, d1, A2, d2, A3, d3, e, R⟩ => ⟨a1, d1, A2, d2, A3, d3, e, R.below (below_ov _ _ (Below.refl _ _) (Nat.le_refl _))⟩,
   fun w0 v w b cur arr hb hs ⟨a1, d1, A2, d2, A3, d3, e, R⟩ => ⟨a1, d1, A2, d2, A3, d3, e, ⟨R.nn.set_row hb h2, R.nb.set_row hb h1, R.lb.set_row hb h1, R.ap⟩⟩⟩
theorem owned_rtupN {T : TypeId} (h1 : T ≠ 44) (h2 : T ≠ 3) (r : RoomV) (ok : Bool) : Owned T (GRTupN r ok) :=
  ⟨fun w0 v w x ⟨a1, d1, A2, d2, A3, d3, e, R⟩ => ⟨a1, d1, A2, d2, A3, d3, e, R.below (below_ov _ _ (Below.refl _ _) (Nat.le_refl _))⟩,
   fun w0 v w b cur arr hb hs ⟨a1, d1, A2, d2, A3, d3, e, R⟩ => ⟨a1, d1, A2, d2, A3, d3, e, ⟨R.nn.set_row hb h2, R.nb.set_row hb h1, R.lb.set_row hb h1, R.ap⟩⟩⟩
theorem room_cells (A1 : Option Addr) (n1 c1 : Nat) (q bx by_ lo hi : Int) (A2 : Option Addr) (n2 c2 : Nat) (A3 : Option Addr) (n3 c3 : Nat) : (Value.agg #[.slice A1 n1 c1, .int .i64 q, .int .i64 bx, .int .i64 by_, .int .i64 lo, .int .i64 hi, .slice A2 n2 c2, .slice A3 n3 c3]).cells.size = 8 ∧ ∀ x ∈ (Value.agg #[.slice A1 n1 c1, .int .i64 q, .int .i64 bx, .int .i64 by_, .int .i64 lo, .int .i64 hi, .slice A2 n2 c2, .slice A3 n3 c3]).cells.toList, x.oneCell' = true := ⟨rfl, by simp [Value.cells, Value.oneCell']⟩
theorem RN.grown_n {B B1 n c2 : Nat} {w w' w1 : World} {A A1 : Option Addr} {c c1 : Nat} {xs ys : List Int} (h : RN B w A c xs) (h1 : RN B1 w1 A1 c1 ys) (hg : w.grownBy w' (Value.slice A1 n c2).ownBlock) (ap : Apart A1 A) : RN B w' A c xs :=
  h.grown hg fun k hk e => by
    rcases h1.form with e3 | ⟨g', e3⟩
    · subst e3; cases e
    · subst e3
      injection e with e
      subst e
      exact ap _ rfl hk
theorem apart_newN {B B' : Nat} {W W' : World} {A A' : Option Addr} {c c' : Nat} {xs ys : List Int} (h : RN B W A c xs) (h2 : RN B' W' A' c' ys) (hB : W.heap.size ≤ B') : Apart A A' := fun k h1 h3 => by
  have := (h.ad k h1).2
  have := (h2.ad k h3).1
  omega

end Go.Proofs.YtabmfaamadbefaaGreat