/- Several texts in one: Gb, Rh. Each says its own conditions. -/
import Derived.Test.YtabmfaamadbefaaGreatMj
import Derived.Test.YtabmfaamadbefaaGreatHsp
import Derived.Test.YtabmfaamadbefaaGreatRe
import Derived.Test.YtabmfaamadbefaaGreatRf
/- Rows, boxes and the cursor through a world that changed one block. No condition. -/
set_option linter.unusedVariables false
set_option linter.unusedSimpArgs false
set_option linter.unusedSectionVars false
namespace Go.Proofs.YtabmfaamadbefaaGreat
open Go.ChangeShapes Go.WideShapes Go.ChangeAt Go.RowKit Go.Joins
theorem RB.thru {B b : Nat} {E T : TypeId} {w w' : World} {A : Option Addr} {c : Nat} {xs : List H3} {arr : Array Value} {fr : Nat × Nat} (h : RB B E w A c xs) (K : w.grownBy w' (some b)) (hb : w.heap[b]? = some (.cells arr T fr)) (hT : T ≠ E) : RB B E w' A c xs := by
  refine ⟨h.1, ?_⟩
  rcases h.2 with e | ⟨g, cap, cu, e1, hgB, hh, hr⟩
  · exact .inl e
  · refine .inr ⟨g, cap, cu, e1, hgB, (K.block g (Array.getElem?_eq_some_iff.1 hh).1 (fun e => ?_)).trans hh, hr⟩
    injection e with e
    subst e
    rw [hh] at hb
    injection hb with hb; injection hb with _ hb; exact hT hb.symm
theorem box_thru {W W' : World} {b k : Nat} {o : Obj} (h : Hid (W.heap[k]? = some o)) (K : W.grownBy W' (some b)) (hne : k ≠ b) : Hid (W'.heap[k]? = some o) := box_grown_i h K (fun e => hne (by injection e))
theorem k8 {w : World} {b : Nat} {v0 v1 v2 v3 v4 v5 v6 v7 : Value} : w.grownBy ((((((((w.setCell ⟨b, 0, none⟩ v0).setCell ⟨b, 1, none⟩ v1).setCell ⟨b, 2, none⟩ v2).setCell ⟨b, 3, none⟩ v3).setCell ⟨b, 4, none⟩ v4).setCell ⟨b, 5, none⟩ v5).setCell ⟨b, 6, none⟩ v6).setCell ⟨b, 7, none⟩ v7) (some b) :=
  grownBy_set (grownBy_set (grownBy_set (grownBy_set (grownBy_set (grownBy_set (grownBy_set (grownBy_set (grownBy_of_below (Below.refl _ _)))))))))
theorem set_grown {w : World} {b i : Nat} {v : Value} : w.grownBy (w.setCell ⟨b, i, none⟩ v) (some b) := grownBy_set (grownBy_of_below (Below.refl _ _))
theorem IB.thru {g b : Nat} {T : TypeId} {w w' : World} {xs : List Int} {arr : Array Value} {fr : Nat × Nat} (h : IB g w xs) (K : w.grownBy w' (some b)) (hb : w.heap[b]? = some (.cells arr T fr)) (hT : T ≠ 3) : IB g w' xs := h.grown K (h.ne hb hT).symm
theorem IB.thruC {g b c : Nat} {A : Option Addr} {bs : List Int} {w w' : World} {xs : List Int} (h : IB g w xs) (C : CurE b A c bs w) (K : w.grownBy w' (some b)) : IB g w' xs := by
  obtain ⟨i, y, _, hb⟩ := C
  exact h.thru K hb (by decide)
theorem RY.thruN {w0 w w' : World} {A : Option Addr} {bs : List Int} {b : Nat} (h : RY w A bs) (h0 : RY w0 A bs) (hb : w0.heap.size ≤ b) (K : w.grownBy w' (some b)) : RY w' A bs := fun k hk => by
  obtain ⟨g, o, h1, h2, h3, h4⟩ := h k hk
  obtain ⟨g', o', h1', h2', _⟩ := h0 k hk
  have e : g = g' := by rw [h1] at h1'; injection h1' with e; injection e
  have hne : some g ≠ some b := fun e => by injection e with e; omega
  refine ⟨g, o, h1, Nat.lt_of_lt_of_le h2 K.size, ?_, h4⟩
  rw [← h3]
  exact World.cell?_of_block (K.block g h2 hne)
theorem CurE.thruN {b c r : Nat} {A : Option Addr} {bs : List Int} {w w' : World} (h : CurE b A c bs w) (K : w.grownBy w' (some r)) (hne : b ≠ r) : CurE b A c bs w' := by
  obtain ⟨k, h0, hi, hh⟩ := h
  exact ⟨k, h0, hi, (K.block b (Array.getElem?_eq_some_iff.1 hh).1 (fun e => hne (by injection e))).trans hh⟩
theorem gb_thruN {w W W' : World} {o : Option Nat} {r : Nat} (G : w.grownBy W o) (K : W.grownBy W' (some r)) (hr : w.heap.size ≤ r) : w.grownBy W' o :=
  ⟨K.os.trans G.os, K.tape.trans G.tape, K.output.trans G.output, Nat.le_trans G.size K.size, fun k hk hne => (K.block k (Nat.lt_of_lt_of_le hk G.size) (fun e => by injection e with e; omega)).trans (G.block k hk hne)⟩
set_option maxHeartbeats 2000000 in
theorem l01Once_any {b c : Nat} {A : Option Addr} {bs : List Int} {n : Int} {w : World} (R : RY w A bs) (C : CurE b A c bs w) (hl : bs.length ≤ 1048576) (hn : 0 < n ∧ n ≤ 256) :
    Calls Tryz.prog 83 #[.pointer (some ⟨b, 0, none⟩), .int .i64 n] w (fun e w' => ∃ v : Bool, e = .returned (.bool v) ∧ CurE b A c bs w' ∧ w.grownBy w' (some b)) := by
  go_enter Tryz.func83, Tryz.ntmps83
  go_wp2_with fail
  refine (below_small R C hl ⟨by omega, by omega⟩).mono ?_
  rintro e W1 ⟨x, rfl, ⟨x0, x1⟩, C1, K⟩
  go_wp2
  go_ret
  exact ⟨_, rfl, C1, K⟩
end Go.Proofs.YtabmfaamadbefaaGreat
/- Regions that draw their order and call what changes older blocks: calls that keep a fact, stores into several older blocks. No condition. -/
set_option linter.unusedVariables false
set_option linter.unusedSimpArgs false
set_option linter.unusedSectionVars false
namespace Go.Proofs.YtabmfaamadbefaaGreat
open Go.RowKit
section
variable {E : World → Prop} {K : List (Nat × Nat) × List (Nat × Nat)} {P : Program} {ops : Array Oper} {Q : Exit → Act → World → Prop} {w0 w w' : World} {Rs : List RD} {vs : Nat → Value} {i : Nat} {a a' : Act} {o : Oper} {r : List Oper} {dst : Option Tmp}
/-- An operation with one value, the fact E at hand. -/
theorem wpRelE_purE {n : List Nat} {c : Value} {dst : Option Tmp} (hr : Rs[i]? = some (.pur n c)) (hd : o.dst = dst) (h1 : ∀ w', E w' → (∀ j ∈ n, holds w0 Rs vs j w') → wpList P ops (relEndE E K Rs vs w0 i dst a w') [o] a w') (h2 : wpRelE E K P ops Q w0 Rs vs (i + 1) r (a.put dst c)) : wpRelE E K P ops Q w0 Rs vs i (o :: r) a := by
  subst hd
  have hv : vv Rs vs i = c := by unfold vv; rw [hr]
  subst hv
  refine ⟨fun w' ⟨_, he⟩ hh => ?_, h2⟩
  rw [needOf_at hr rfl] at hh
  exact h1 w' he hh
/-- A call that changes what lies from the base on, and keeps E; its value says G. -/
theorem wpRelE_wild {dst : Option Tmp} {G : World → Value → World → Prop} (hr : Rs[i]? = some (.rel [] [i] true (IsOw G))) (hd : o.dst = dst) (h1 : ∀ w', (∃ x, w' = ov w0 x) → E w' → wpList P ops (relEndE E K Rs vs w0 i dst a w') [o] a w') (h2 : wpRelE E K P ops Q w0 Rs vs (i + 1) r (a.put dst (vs i))) : wpRelE E K P ops Q w0 Rs vs i (o :: r) a := by
  subst hd
  refine wpRelE_cons (fun w' ⟨hw, he⟩ hh => h1 w' hw he) ?_
  rw [vv_rel hr]; exact h2
def RD.flat : RD → Prop
  | .pur _ _ => True
  | .rel _ _ _ F => ∀ w0 l w w', F w0 l w → F w0 l w'
theorem relEndE_wild {v : Value} {G : World → Value → World → Prop} (hr : Rs[i]? = some (.rel [] [i] true (IsOw G))) (ha : a' = a.put dst v) (hb : ∃ x, w' = ov w0 x) (he : E w') (hG : G w0 v w') (hfl : ∀ j, j ≠ i → (j, i) ∉ K.2 → ∀ rj, Rs[j]? = some rj → rj.flat) : relEndE E K Rs vs w0 i dst a w .normal a' w' := by
  refine ⟨v, ha, ?_⟩
  unfold relPostE
  rw [hr]
  refine ⟨⟨hb, he⟩, fun j hj _ hK hh => ?_, v, ?_, hG⟩
  · unfold holds at hh ⊢
    cases hq : Rs[j]? with
    | none => trivial
    | some rm =>
      rw [hq] at hh
      have := hfl j hj hK rm hq
      cases rm with
      | pur _ _ => trivial
      | rel _ _ _ F => exact this _ _ _ _ hh
  · simp [vv, hr, updV]
/-- The last store, into a block made before; E besides. -/
theorem wpRelE_old2 {E2 : World → Prop} {T : TypeId} {j n b : Nat} {s : Tmp} {y : Operand} {u : Value} (hr : Rs[i]? = some (.rel [j] [j] true (IsStB b T)))
    (hop : o.op = .store T (.tmp s) y) (hg : o.guard = none) (hd : o.dst = none) (hji : j ≠ i) (es : a.eval (.tmp s) = .pointer (some ⟨b, 0, none⟩)) (hb : w0.heap.size ≤ b) (hu : vv Rs vs j = u) (et : a.eval y = u) (hn : (P.info? T).map (·.size) = some n)
    (hval : ∀ w, holds w0 Rs vs j w → u.cells.size = n ∧ ∀ x ∈ u.cells.toList, x.oneCell' = true) (hfl : ∀ r ∈ Rs.eraseIdx i, r.flat) (hE2 : ∀ w cur arr, E2 w → w.heap[b]? = some (.cells cur T (0, 0)) → E2 (w.setRow b arr))
    (h2 : wpRelE (fun w => IsOld b T n w ∧ E2 w) K P ops Q w0 Rs vs (i + 1) r a) : wpRelE (fun w => IsOld b T n w ∧ E2 w) K P ops Q w0 Rs vs i (o :: r) a := by
  refine wpRelE_cons (fun w' ⟨hw, ⟨cur, hcs, hblk⟩, he2⟩ hh => ?_) (by rw [hd]; exact h2)
  obtain ⟨x, rfl⟩ := hw
  rw [needOf_at hr rfl] at hh
  have h3 := hval _ (hh j List.mem_cons_self)
  refine wpList_store_blk hg T T (.tmp s) y hop es hblk (by rw [hcs]; exact hn) (by rw [et, h3.1, hcs]) (by rw [et]; exact h3.2) ?_
  refine ⟨undef, rfl, ?_⟩
  unfold relPostE
  rw [hr]
  refine ⟨⟨setRow_ov hb _, ⟨⟨_, by rw [et]; exact h3.1, setRow_heap _ _ _ _ _ _ hblk⟩, hE2 _ _ _ he2 hblk⟩⟩, fun m hm _ _ hmm => ?_, ?_⟩
  · unfold holds at hmm ⊢
    cases hq : Rs[m]? with
    | none => trivial
    | some rm =>
      rw [hq] at hmm
      have := hfl rm (List.mem_eraseIdx_iff_getElem?.2 ⟨m, hm, hq⟩)
      cases rm with
      | pur _ _ => trivial
      | rel _ _ _ F => exact this _ _ _ _ hmm
  · refine ⟨u, ?_, ?_⟩
    · simp only [List.map_cons, List.map_nil]
      rw [vv_upd hji, hu]
    · rw [et]; exact setRow_heap _ _ _ _ _ _ hblk
end
theorem flat_ow {nd js : List Nat} {wd : Bool} {G : World → Value → World → Prop} (h : ∀ w0 v w w', G w0 v w → G w0 v w') : RD.flat (.rel nd js wd (IsOw G)) := fun w0 l w w' ⟨v, e, hG⟩ => ⟨v, e, h _ _ _ _ hG⟩
theorem flat_owned {T : TypeId} {G : World → Value → World → Prop} (h : ∀ w0 v w w', G w0 v w → G w0 v w') : Owned T G := ⟨fun _ _ _ _ => h _ _ _ _, fun _ _ _ _ _ _ _ _ => h _ _ _ _⟩
/-- A relation that a store into the block b keeps. -/
def RD.keeps (b : Nat) : RD → Prop
  | .pur _ _ => True
  | .rel _ _ _ F => ∀ w0 l w arr, F w0 l w → F w0 l (w.setRow b arr)
theorem keeps_flat {b : Nat} {r : RD} (h : r.flat) : r.keeps b := by
  cases r with
  | pur _ _ => trivial
  | rel _ _ _ F => exact fun w0 l w arr hF => h _ _ _ _ hF
theorem keeps_stB {b b' : Nat} {T : TypeId} {nd js : List Nat} {wd : Bool} (h : b' ≠ b) : RD.keeps b (.rel nd js wd (IsStB b' T)) := fun w0 l w arr ⟨u, e, hu⟩ => ⟨u, e, (setRow_other h).trans hu⟩
section
variable {E : World → Prop} {K : List (Nat × Nat) × List (Nat × Nat)} {P : Program} {ops : Array Oper} {Q : Exit → Act → World → Prop} {w0 w w' : World} {Rs : List RD} {vs : Nat → Value} {i : Nat} {a a' : Act} {o : Oper} {r : List Oper} {dst : Option Tmp}
/-- A store into a block made before, beside other such stores. -/
theorem wpRelE_oldG {T : TypeId} {j n b : Nat} {s : Tmp} {y : Operand} {u : Value} (hr : Rs[i]? = some (.rel [j] [j] true (IsStB b T)))
    (hop : o.op = .store T (.tmp s) y) (hg : o.guard = none) (hd : o.dst = none) (hji : j ≠ i) (es : a.eval (.tmp s) = .pointer (some ⟨b, 0, none⟩)) (hb : w0.heap.size ≤ b) (hu : vv Rs vs j = u) (et : a.eval y = u) (hn : (P.info? T).map (·.size) = some n)
    (hE : ∀ w, E w → IsOld b T n w) (hval : ∀ w, holds w0 Rs vs j w → u.cells.size = n ∧ ∀ x ∈ u.cells.toList, x.oneCell' = true) (hkp : ∀ m, m ≠ i → ∀ rm, Rs[m]? = some rm → rm.keeps b) (hE2 : ∀ w cur arr, E w → w.heap[b]? = some (.cells cur T (0, 0)) → arr.size = n → E (w.setRow b arr))
    (h2 : wpRelE E K P ops Q w0 Rs vs (i + 1) r a) : wpRelE E K P ops Q w0 Rs vs i (o :: r) a := by
  refine wpRelE_cons (fun w' ⟨hw, he⟩ hh => ?_) (by rw [hd]; exact h2)
  obtain ⟨cur, hcs, hblk⟩ := hE _ he
  obtain ⟨x, rfl⟩ := hw
  rw [needOf_at hr rfl] at hh
  have h3 := hval _ (hh j List.mem_cons_self)
  refine wpList_store_blk hg T T (.tmp s) y hop es hblk (by rw [hcs]; exact hn) (by rw [et, h3.1, hcs]) (by rw [et]; exact h3.2) ?_
  refine ⟨undef, rfl, ?_⟩
  unfold relPostE
  rw [hr]
  refine ⟨⟨setRow_ov hb _, hE2 _ _ _ he hblk (by rw [et]; exact h3.1)⟩, fun m hm _ _ hmm => ?_, ?_⟩
  · unfold holds at hmm ⊢
    cases hq : Rs[m]? with
    | none => trivial
    | some rm =>
      rw [hq] at hmm
      have := hkp m hm rm hq
      cases rm with
      | pur _ _ => trivial
      | rel _ _ _ F => exact this _ _ _ _ hmm
  · refine ⟨u, ?_, ?_⟩
    · simp only [List.map_cons, List.map_nil]
      rw [vv_upd hji, hu]
    · rw [et]; exact setRow_heap _ _ _ _ _ _ hblk
end
theorem CurE.setrow {b c r : Nat} {A : Option Addr} {bs : List Int} {w : World} {arr : Array Value} (h : CurE b A c bs w) (hne : b ≠ r) : CurE b A c bs (w.setRow r arr) := by
  obtain ⟨k, h0, hi, hh⟩ := h
  exact ⟨k, h0, hi, (setRow_other hne).trans hh⟩
theorem RY.setrow {w0 w : World} {A : Option Addr} {bs : List Int} {b : Nat} {arr : Array Value} (h : RY w A bs) (h0 : RY w0 A bs) (hb : w0.heap.size ≤ b) : RY (w.setRow b arr) A bs := fun k hk => by
  obtain ⟨g, o, h1, h2, h3, h4⟩ := h k hk
  obtain ⟨g', o', h1', h2', _⟩ := h0 k hk
  have e : g = g' := by rw [h1] at h1'; injection h1' with e; injection e
  have hne : g ≠ b := by omega
  refine ⟨g, o, h1, by simpa [World.setRow] using h2, ?_, h4⟩
  rw [← h3]
  exact World.cell?_of_block (setRow_other hne)

section
variable {w0 w : World} {Rs : List RD} {vs : Nat → Value}
end
end Go.Proofs.YtabmfaamadbefaaGreat