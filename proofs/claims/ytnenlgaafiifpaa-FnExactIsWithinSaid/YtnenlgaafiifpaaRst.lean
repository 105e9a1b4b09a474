/- New blocks and whole stores in a region that draws its order; slices that the region's calls make. No condition. -/
import Derived.Test.YtnenlgaafiifpaaReg
import Derived.Laws.Tables
import Derived.Laws.Rows
import Derived.Laws.CopyOwn
set_option linter.unusedVariables false
set_option linter.unusedSimpArgs false
namespace Go.Proofs.Ytnenlgaafiifpaa
open Go.RowKit

/-- A pointer to a block of n cells from B on. -/
def IsAl (T : TypeId) (n : Nat) (w0 : World) (l : List Value) (w : World) : Prop := ∃ b cur, l = [.pointer (some ⟨b, 0, none⟩)] ∧ w0.heap.size ≤ b ∧ w.heap[b]? = some (.cells cur T (0, 0)) ∧ cur.size = n
/-- A pointer and what its block holds. -/
def IsSt (T : TypeId) (w0 : World) (l : List Value) (w : World) : Prop := ∃ b u, l = [.pointer (some ⟨b, 0, none⟩), u] ∧ w0.heap.size ≤ b ∧ w.heap[b]? = some (.cells u.cells T (0, 0))

theorem all_nil {p : RD → Prop} : ∀ r ∈ ([] : List RD), p r := fun _ h => by cases h
theorem all_cons {p : RD → Prop} {x : RD} {l : List RD} (h : p x) (hl : ∀ r ∈ l, p r) : ∀ r ∈ x :: l, p r := fun r hr => by
  rcases List.mem_cons.1 hr with rfl | hr
  · exact h
  · exact hl r hr
theorem cell_blk {W : World} {b j : Nat} {arr : Array Value} {T : TypeId} {v : Value} (h : W.heap[b]? = some (.cells arr T (0, 0))) (hv : arr[j]? = some v) : W.cell? ⟨b, j, none⟩ = some v := by
  simp [World.cell?, h, hv]
theorem frozen_blk {W : World} {b j : Nat} {arr : Array Value} {T : TypeId} (h : W.heap[b]? = some (.cells arr T (0, 0))) : W.frozen? ⟨b, j, none⟩ = false := by
  simp [World.frozen?, h]
theorem ov_blk {w : World} {x : More} {b : Nat} {o : Obj} (h : w.heap[b]? = some o) : (ov w x).heap[b]? = some o := by
  rw [ov_block w x (Array.getElem?_eq_some_iff.1 h).1]; exact h
theorem isAl_stable {nd js : List Nat} {wd : Bool} {T : TypeId} {n : Nat} : RD.stable (.rel nd js wd (IsAl T n)) := by
  rintro w0 l w x ⟨b, cur, h1, h2, h3, h4⟩
  exact ⟨b, cur, h1, h2, ov_blk h3, h4⟩
theorem isSt_stable {nd js : List Nat} {wd : Bool} {T : TypeId} : RD.stable (.rel nd js wd (IsSt T)) := by
  rintro w0 l w x ⟨b, u, h1, h2, h3⟩
  exact ⟨b, u, h1, h2, ov_blk h3⟩

/-- What a store of a whole block of type T leaves as it is. -/
def RD.steady (T : TypeId) : RD → Prop
  | .pur _ _ => True
  | .rel _ _ _ F => ∀ w0 l w b cur arr, w.heap[b]? = some (.cells cur T (0, 0)) → arr.size = cur.size → F w0 l w → F w0 l (w.setRow b arr)

theorem setRow_other {w : World} {b c : Nat} {arr : Array Value} (h : c ≠ b) : (w.setRow b arr).heap[c]? = w.heap[c]? := by
  simp [World.setRow, Array.getElem?_modify, Ne.symm h]
theorem isAl_steady {nd js : List Nat} {wd : Bool} {T U : TypeId} {n : Nat} : RD.steady U (.rel nd js wd (IsAl T n)) := by
  rintro w0 l w b cur arr hb hs ⟨c, cur', h1, h2, h3, h4⟩
  by_cases e : c = b
  · subst e
    rw [h3] at hb
    cases hb
    exact ⟨c, arr, h1, h2, setRow_heap _ _ _ _ _ _ h3, by omega⟩
  · exact ⟨c, cur', h1, h2, by rw [setRow_other e]; exact h3, h4⟩

/-- A value that a call of the region made: G says what it is. -/
def IsOw (G : World → Value → World → Prop) (w0 : World) (l : List Value) (w : World) : Prop := ∃ v, l = [v] ∧ G w0 v w
structure Owned (T : TypeId) (G : World → Value → World → Prop) : Prop where
  st : ∀ w0 v w x, G w0 v w → G w0 v (ov w x)
  sd : ∀ w0 v w b cur arr, w.heap[b]? = some (.cells cur T (0, 0)) → arr.size = cur.size → G w0 v w → G w0 v (w.setRow b arr)
theorem isOw_stable {nd js : List Nat} {wd : Bool} {T : TypeId} {G : World → Value → World → Prop} (h : Owned T G) : RD.stable (.rel nd js wd (IsOw G)) := by
  rintro w0 l w x ⟨v, h1, h2⟩
  exact ⟨v, h1, h.st w0 v w x h2⟩
theorem isOw_steady {nd js : List Nat} {wd : Bool} {T : TypeId} {G : World → Value → World → Prop} (h : Owned T G) : RD.steady T (.rel nd js wd (IsOw G)) := by
  rintro w0 l w b cur arr h0 hs ⟨v, h1, h2⟩
  exact ⟨v, h1, h.sd w0 v w b cur arr h0 hs h2⟩

theorem setRow_ov {W : World} {x : More} {b : Nat} (hb : W.heap.size ≤ b) (arr : Array Value) : ∃ x', (ov W x).setRow b arr = ov W x' :=
  ov_of_below (below_setRow (below_ov W x (Below.refl _ _) (Nat.le_refl _)) hb arr)

section
variable {P : Program} {ops : Array Oper} {Q : Exit → Act → World → Prop} {w0 w w' : World} {Rs : List RD} {vs : Nat → Value} {i : Nat} {a a' : Act} {o : Oper} {r : List Oper} {dst : Option Tmp}

/-- A store of a whole value into a block. -/
theorem wpList_store_blk {rest : List Oper} (hg : o.guard = none) (T T' : TypeId) (s t : Operand) (hop : o.op = .store T s t) {b : Nat} {cur : Array Value} (es : a.eval s = .pointer (some ⟨b, 0, none⟩)) (hx : w.heap[b]? = some (.cells cur T' (0, 0)))
    (hn : (P.info? T).map (·.size) = some cur.size) (hsz : (a.eval t).cells.size = cur.size) (h1 : ∀ u ∈ (a.eval t).cells.toList, u.oneCell' = true) (h : wpList P ops Q rest (a.put o.dst undef) (w.setRow b (a.eval t).cells)) : wpList P ops Q (o :: rest) a w :=
  wpList_plain hg fun _ hK => by
    unfold Oper.wp execOp
    have hst := run_storeCells_from (P := P) b T' (a.eval t).cells.toList 0 cur w hx (by simp [hsz]) h1
    cases hq : P.info? T with
    | none => simp [hq] at hn
    | some inf =>
      have hs : inf.size = cur.size := by simpa [hq] using hn
      simp only [hop, es, Instr.storeAt, Instr.sureAddr, Sem.run_bind, Sem.run_pure, Result.andThen_ok, storeVar, sizeOf, typeInfo]
      simp [hq, hs, hsz, hst]
      exact hK _ _ h

theorem wpRel_al {T : TypeId} {n k : Nat} (z : Array Value) {d : Tmp} (hr : Rs[i]? = some (.rel [] [k] false (IsAl T n))) (hki : k = i) (hz : z.size = n) (hop : o.op = .alloc T) (hg : o.guard = none) (hd : o.dst = some d)
    (run : ∀ w, (execOp a.eval o).run P w = .ok (.value (.pointer (some ⟨w.heap.size, 0, none⟩))) (w.alloc (.cells z T)))
    (h2 : wpRel P ops Q w0 Rs vs (i + 1) r (a.put (some d) (vs k))) : wpRel P ops Q w0 Rs vs i (o :: r) a := by
  subst hki
  refine wpRel_cons (fun w' hw _ => ?_) ?_
  · obtain ⟨x, rfl⟩ := hw
    refine wpList_plain hg fun _ hK => ?_
    unfold Oper.wp
    rw [run]
    refine hK _ _ ?_
    refine relEnd_rel hr rfl ((Below.refl _ _).alloc (Nat.le_refl _) _) ⟨_, z, ?_, ?_, heap_alloc_new _ _, hz⟩
    · simp [vv, hr, updV]
    · rw [ov_size]; omega
  · rw [hd]
    have : vv Rs vs k = vs k := by unfold vv; rw [hr]
    rw [this]; exact h2

theorem vv_rel {n js : List Nat} {b : Bool} {F : World → List Value → World → Prop} {j : Nat} (h : Rs[j]? = some (.rel n js b F)) : vv Rs vs j = vs j := by unfold vv; rw [h]
theorem vv_pur {n : List Nat} {c : Value} {j : Nat} (h : Rs[j]? = some (.pur n c)) : vv Rs vs j = c := by unfold vv; rw [h]

theorem wpRel_stv {T : TypeId} {k j n : Nat} {s : Tmp} {y : Operand} {nk : List Nat} {wk : Bool} {u : Value} (hr : Rs[i]? = some (.rel [k, j] [k, j] true (IsSt T))) (hk : Rs[k]? = some (.rel nk [k] wk (IsAl T n)))
    (hop : o.op = .store T (.tmp s) y) (hg : o.guard = none) (hd : o.dst = none) (hki : k ≠ i) (hji : j ≠ i) (es : a.eval (.tmp s) = vs k) (hu : vv Rs vs j = u) (et : a.eval y = u) (hn : (P.info? T).map (·.size) = some n)
    (hval : ∀ w, holds w0 Rs vs j w → u.cells.size = n ∧ ∀ x ∈ u.cells.toList, x.oneCell' = true) (hst : ∀ r ∈ Rs.eraseIdx i, r.steady T)
    (h2 : wpRel P ops Q w0 Rs vs (i + 1) r a) : wpRel P ops Q w0 Rs vs i (o :: r) a := by
  refine wpRel_cons (fun w' hw hh => ?_) (by rw [hd]; exact h2)
  obtain ⟨x, rfl⟩ := hw
  have hneed : needOf Rs i = [k, j] := by unfold needOf; rw [hr]; rfl
  rw [hneed] at hh
  have h1 := hh k (by simp)
  have h3 := hval _ (hh j (by simp))
  unfold holds at h1
  rw [hk] at h1
  simp only [List.map_cons, List.map_nil, vv_rel hk] at h1
  obtain ⟨b, cur, e, hb, hblk, hcs⟩ := h1
  have e' : vs k = .pointer (some ⟨b, 0, none⟩) := by simpa using e
  refine wpList_store_blk hg T T (.tmp s) y hop (es.trans e') hblk (by rw [hcs]; exact hn) (by rw [et, h3.1, hcs]) (by rw [et]; exact h3.2) ?_
  refine relEnd_wild hr rfl (setRow_ov hb _) (fun m hm hmm => ?_) ?_
  · unfold holds at hmm ⊢
    cases hq : Rs[m]? with
    | none => trivial
    | some rm =>
      rw [hq] at hmm
      have := hst rm (List.mem_eraseIdx_iff_getElem?.2 ⟨m, hm, hq⟩)
      cases rm with
      | pur _ _ => trivial
      | rel _ _ _ F => exact this _ _ _ b cur _ hblk (by rw [et, h3.1, hcs]) hmm
  · refine ⟨b, u, ?_, hb, ?_⟩
    · simp only [List.map_cons, List.map_nil]
      rw [vv_upd hki, vv_upd hji, vv_rel hk, e', hu]
    · rw [et]; exact setRow_heap _ _ _ _ _ _ hblk

/-- The store of a value that the text fixes. -/
theorem wpRel_st {T : TypeId} {k j n : Nat} {s : Tmp} {y : Operand} {nk nj : List Nat} {wk : Bool} {u : Value} (hr : Rs[i]? = some (.rel [k, j] [k, j] true (IsSt T))) (hk : Rs[k]? = some (.rel nk [k] wk (IsAl T n))) (hj : Rs[j]? = some (.pur nj u))
    (hop : o.op = .store T (.tmp s) y) (hg : o.guard = none) (hd : o.dst = none) (hki : k ≠ i) (hji : j ≠ i) (es : a.eval (.tmp s) = vs k) (et : a.eval y = u) (hn : (P.info? T).map (·.size) = some n)
    (hval : u.cells.size = n ∧ ∀ x ∈ u.cells.toList, x.oneCell' = true) (hst : ∀ r ∈ Rs.eraseIdx i, r.steady T)
    (h2 : wpRel P ops Q w0 Rs vs (i + 1) r a) : wpRel P ops Q w0 Rs vs i (o :: r) a :=
  wpRel_stv hr hk hop hg hd hki hji es (vv_pur hj) et hn (fun _ _ => hval) hst h2
/-- The store of a value that a call made. -/
theorem wpRel_so {T : TypeId} {k j n : Nat} {s : Tmp} {y : Operand} {nk nj : List Nat} {wk wj : Bool} {G : World → Value → World → Prop} (hr : Rs[i]? = some (.rel [k, j] [k, j] true (IsSt T))) (hk : Rs[k]? = some (.rel nk [k] wk (IsAl T n))) (hj : Rs[j]? = some (.rel nj [j] wj (IsOw G)))
    (hop : o.op = .store T (.tmp s) y) (hg : o.guard = none) (hd : o.dst = none) (hki : k ≠ i) (hji : j ≠ i) (es : a.eval (.tmp s) = vs k) (et : a.eval y = vs j) (hn : (P.info? T).map (·.size) = some n)
    (hval : ∀ w, G w0 (vs j) w → (vs j).cells.size = n ∧ ∀ x ∈ (vs j).cells.toList, x.oneCell' = true) (hst : ∀ r ∈ Rs.eraseIdx i, r.steady T)
    (h2 : wpRel P ops Q w0 Rs vs (i + 1) r a) : wpRel P ops Q w0 Rs vs i (o :: r) a :=
  wpRel_stv hr hk hop hg hd hki hji es (vv_rel hj) et hn (fun w hw => by
    unfold holds at hw
    rw [hj] at hw
    simp only [List.map_cons, List.map_nil, vv_rel hj] at hw
    obtain ⟨v, h1, h2⟩ := hw
    simp only [List.cons.injEq, and_true] at h1
    subst h1
    exact hval w h2) hst h2
/-- What stands at the end of a region about a block that was made and filled in it. -/
theorem isSt_pur {T : TypeId} {m k j : Nat} {nk nj nm jk : List Nat} {wk wm : Bool} {F : World → List Value → World → Prop} {u : Value} (h : holds w0 Rs vs m w) (hr : Rs[m]? = some (.rel nm [k, j] wm (IsSt T))) (hk : Rs[k]? = some (.rel nk jk wk F)) (hj : Rs[j]? = some (.pur nj u)) :
    ∃ b, vs k = .pointer (some ⟨b, 0, none⟩) ∧ w0.heap.size ≤ b ∧ w.heap[b]? = some (.cells u.cells T (0, 0)) := by
  unfold holds at h
  rw [hr] at h
  obtain ⟨b, u', e, h1, h2⟩ := h
  simp only [List.map_cons, List.map_nil, vv_rel hk, vv_pur hj, List.cons.injEq, and_true] at e
  obtain ⟨e1, rfl⟩ := e
  exact ⟨b, e1, h1, h2⟩
theorem isSt_own {T : TypeId} {m k j : Nat} {nk nj nm jk jj : List Nat} {wk wm wj : Bool} {F F' : World → List Value → World → Prop} (h : holds w0 Rs vs m w) (hr : Rs[m]? = some (.rel nm [k, j] wm (IsSt T))) (hk : Rs[k]? = some (.rel nk jk wk F)) (hj : Rs[j]? = some (.rel nj jj wj F')) :
    ∃ b, vs k = .pointer (some ⟨b, 0, none⟩) ∧ w0.heap.size ≤ b ∧ w.heap[b]? = some (.cells (vs j).cells T (0, 0)) := by
  unfold holds at h
  rw [hr] at h
  obtain ⟨b, u', e, h1, h2⟩ := h
  simp only [List.map_cons, List.map_nil, vv_rel hk, vv_rel hj, List.cons.injEq, and_true] at e
  obtain ⟨e1, rfl⟩ := e
  exact ⟨b, e1, h1, h2⟩
theorem isOw_at {j : Nat} {nj : List Nat} {wj : Bool} {G : World → Value → World → Prop} (h : holds w0 Rs vs j w) (hj : Rs[j]? = some (.rel nj [j] wj (IsOw G))) : G w0 (vs j) w := by
  unfold holds at h
  rw [hj] at h
  obtain ⟨v, e, h1⟩ := h
  simp only [List.map_cons, List.map_nil, vv_rel hj, List.cons.injEq, and_true] at e
  subst e
  exact h1
/-- An operation that leaves a value of its own making. -/
theorem wpRel_ow {k : Nat} {dst : Option Tmp} {G : World → Value → World → Prop} (hr : Rs[i]? = some (.rel [] [k] false (IsOw G))) (hki : k = i) (hd : o.dst = dst) (h1 : ∀ x, wpList P ops (relEnd Rs vs w0 i dst a (ov w0 x)) [o] a (ov w0 x)) (h2 : wpRel P ops Q w0 Rs vs (i + 1) r (a.put dst (vs k))) : wpRel P ops Q w0 Rs vs i (o :: r) a := by
  subst hki hd
  refine wpRel_cons (fun w' hw _ => ?_) ?_
  · obtain ⟨x, rfl⟩ := hw; exact h1 x
  · rw [vv_rel hr]; exact h2
theorem relEnd_ow {k : Nat} {n : List Nat} {v : Value} {G : World → Value → World → Prop} (hr : Rs[i]? = some (.rel n [k] false (IsOw G))) (hki : k = i) (ha : a' = a.put dst v) (hb : Below w.heap.size w w') (hG : G w0 v w') : relEnd Rs vs w0 i dst a w .normal a' w' := by
  subst hki
  refine relEnd_rel hr ha hb ⟨v, ?_, hG⟩
  simp [vv, hr, updV]
end
end Go.Proofs.Ytnenlgaafiifpaa
