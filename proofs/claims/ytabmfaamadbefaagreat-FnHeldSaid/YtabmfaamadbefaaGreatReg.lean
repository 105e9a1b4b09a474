/- A region that draws its order, each of whose operations leaves a value that meets a relation of its own, in worlds that lie over the first: one walk, operation by operation, serves every order. No condition. New blocks and whole stores in a region that draws its order; slices that the region's calls make. No condition. -/
import Derived.Test.YtabmfaamadbefaaGreatWords
import Derived.StillTail
import Derived.Laws.Tables
import Derived.Laws.Rows
import Derived.Laws.CopyOwn
set_option linter.unusedVariables false
set_option linter.unusedSimpArgs false
namespace Go.Proofs.YtabmfaamadbefaaGreat
open Go.RowKit
theorem ov_ov (w : World) (x y : More) : ov (ov w x) y = ov w ⟨x.objs ++ y.objs, y.count⟩ := by simp [ov, Array.append_assoc]

/-- What is said of one operation: its value is c; or its value, with those of earlier ones, meets F. -/
inductive RD where
  | pur (need : List Nat) (c : Value)
  | rel (need : List Nat) (js : List Nat) (wild : Bool) (F : World → List Value → World → Prop)

def RD.need : RD → List Nat
  | .pur n _ => n
  | .rel n _ _ _ => n
def RD.js : RD → List Nat
  | .pur _ _ => []
  | .rel _ j _ _ => j
def RD.deps (r : RD) : List Nat × List Nat := (r.need, r.js)
def RD.stable : RD → Prop
  | .pur _ _ => True
  | .rel _ _ _ F => ∀ w0 l w x, F w0 l w → F w0 l (ov w x)

def vv (Rs : List RD) (vs : Nat → Value) (j : Nat) : Value := match Rs[j]? with
  | some (.pur _ c) => c
  | _ => vs j
def holds (w0 : World) (Rs : List RD) (vs : Nat → Value) (j : Nat) (w : World) : Prop := match Rs[j]? with
  | some (.rel _ js _ F) => F w0 (js.map (vv Rs vs)) w
  | _ => True
def updV (vs : Nat → Value) (i : Nat) (v : Value) (j : Nat) : Value := if j = i then v else vs j
def needOf (Rs : List RD) (i : Nat) : List Nat := match Rs[i]? with
  | some r => r.need
  | none => []

def relPost (Rs : List RD) (vs : Nat → Value) (w0 : World) (i : Nat) (w : World) (v : Value) (w' : World) : Prop := match Rs[i]? with
  | some (.pur _ c) => v = c ∧ ∃ x, w' = ov w x
  | some (.rel _ js false F) => (∃ x, w' = ov w x) ∧ F w0 (js.map (vv Rs (updV vs i v))) w'
  | some (.rel _ js true F) => (∃ x, w' = ov w0 x) ∧ (∀ j, j ≠ i → holds w0 Rs vs j w → holds w0 Rs vs j w') ∧ F w0 (js.map (vv Rs (updV vs i v))) w'
  | none => False

def relEnd (Rs : List RD) (vs : Nat → Value) (w0 : World) (i : Nat) (dst : Option Tmp) (a : Act) (w : World) : Exit → Act → World → Prop
  | .normal, a', w' => ∃ v, a' = a.put dst v ∧ relPost Rs vs w0 i w v w'
  | _, _, _ => False

/-- The walk: the operations in the order of the text; the last line is what stands behind the region. -/
def wpRel (P : Program) (ops : Array Oper) (Q : Exit → Act → World → Prop) (w0 : World) (Rs : List RD) (vs : Nat → Value) : Nat → List Oper → Act → Prop
  | _, [], a => ∀ w', (∃ x, w' = ov w0 x) → (∀ j, holds w0 Rs vs j w') → Q .normal a w'
  | i, o :: r, a => (∀ w', (∃ x, w' = ov w0 x) → (∀ j ∈ needOf Rs i, holds w0 Rs vs j w') → wpList P ops (relEnd Rs vs w0 i o.dst a w') [o] a w') ∧ wpRel P ops Q w0 Rs vs (i + 1) r (a.put o.dst (vv Rs vs i))

def dstAt (ops : Array Oper) (j : Nat) : Option Tmp := (ops[j]?).bind (·.dst)

def clo (ops : Array Oper) : Nat → List (List Nat)
  | 0 => []
  | k + 1 => let C := clo ops k; C ++ [match ops[k]? with
    | some o => (o.after.toList.filter (Region.binds .any)).flatMap fun e => e.on :: C.getD e.on []
    | none => []]

def relB (ops : Array Oper) (D : List (List Nat)) (JS : List (List Nat × List Nat)) : Bool :=
  Region.noSelect ops && (List.range ops.size).all fun i => match ops[i]? with
    | none => false
    | some o =>
      (o.after.all fun e => !Region.binds .any e || decide (e.on < i))
      && ((D.getD i []).all fun j => o.after.any fun e => Region.binds .any e && (e.on == j || (D.getD e.on []).contains j))
      && ((o.looksAt ops).all fun t => (List.range ops.size).all fun j => dstAt ops j != some t || j == i || (D.getD i []).contains j || (D.getD j []).contains i)
      && ((List.range ops.size).all fun j => j == i || dstAt ops j == none || dstAt ops j != o.dst)
      && ((JS.getD i ([], [])).1.all fun j => (D.getD i []).contains j)
      && ((JS.getD i ([], [])).2.all fun j => j == i || (D.getD i []).contains j)

section
variable {P : Program} {ops : Array Oper} {D : List (List Nat)} {Rs : List RD} {JS : List (List Nat × List Nat)} {w0 : World} {a0 : Act}
structure RelOk (ops : Array Oper) (D : List (List Nat)) (JS : List (List Nat × List Nat)) : Prop where
  nosel : Region.noSelect ops = true
  down : ∀ i o, ops[i]? = some o → ∀ e ∈ o.after, Region.binds .any e = true → e.on < i
  clos : ∀ i o, ops[i]? = some o → ∀ j ∈ D.getD i [], ∃ e ∈ o.after, Region.binds .any e = true ∧ (e.on = j ∨ j ∈ D.getD e.on [])
  reads : ∀ i o, ops[i]? = some o → ∀ t ∈ o.looksAt ops, ∀ j, dstAt ops j = some t → j = i ∨ j ∈ D.getD i [] ∨ i ∈ D.getD j []
  apart : ∀ i j t, dstAt ops i = some t → dstAt ops j = some t → j = i
  need : ∀ i, i < ops.size → ∀ j ∈ (JS.getD i ([], [])).1, j ∈ D.getD i []
  js : ∀ i, i < ops.size → ∀ j ∈ (JS.getD i ([], [])).2, j = i ∨ j ∈ D.getD i []

theorem dstAt_lt {j : Nat} {t : Tmp} (h : dstAt ops j = some t) : j < ops.size := by
  unfold dstAt at h
  cases ho : ops[j]? with
  | none => rw [ho] at h; cases h
  | some o => exact (Array.getElem?_eq_some_iff.1 ho).1

theorem relB_ok (h : relB ops D JS = true) : RelOk ops D JS := by
  unfold relB at h
  rw [Bool.and_eq_true] at h
  obtain ⟨h0, h⟩ := h
  rw [List.all_eq_true] at h
  have main : ∀ i o, ops[i]? = some o → _ := fun i o ho => by
    have hi : i < ops.size := (Array.getElem?_eq_some_iff.1 ho).1
    have := h i (List.mem_range.2 hi)
    rw [ho] at this
    simp only [Bool.and_eq_true] at this
    exact this
  refine ⟨h0, fun i o ho e he hb => ?_, fun i o ho j hj => ?_, fun i o ho t ht j hj => ?_, fun i j t hi hj => ?_, fun i hi j hj => ?_, fun i hi j hj => ?_⟩
  · have := Array.all_eq_true_iff_forall_mem.1 (main i o ho).1.1.1.1.1 e he
    simpa [hb] using this
  · have := List.all_eq_true.1 (main i o ho).1.1.1.1.2 j hj
    obtain ⟨e, he, h2⟩ := Array.any_eq_true'.1 this
    simp only [Bool.and_eq_true, Bool.or_eq_true, beq_iff_eq, List.contains_iff_mem] at h2
    exact ⟨e, he, h2.1, h2.2⟩
  · have := List.all_eq_true.1 (List.all_eq_true.1 (main i o ho).1.1.1.2 t ht) j (List.mem_range.2 (dstAt_lt hj))
    simp only [Bool.or_eq_true, bne_iff_ne, ne_eq, beq_iff_eq, List.contains_iff_mem] at this
    rcases this with ((h1 | h1) | h1) | h1
    · exact absurd hj h1
    · exact .inl h1
    · exact .inr (.inl h1)
    · exact .inr (.inr h1)
  · have hil := dstAt_lt hi
    have ho : ops[i]? = some ops[i] := Array.getElem?_eq_getElem hil
    have := List.all_eq_true.1 (main i _ ho).1.1.2 j (List.mem_range.2 (dstAt_lt hj))
    have hd : (ops[i]).dst = some t := by unfold dstAt at hi; rw [ho] at hi; exact hi
    simp only [Bool.or_eq_true, bne_iff_ne, ne_eq, beq_iff_eq, hd, hj] at this
    simpa using this
  · have ho : ops[i]? = some ops[i] := Array.getElem?_eq_getElem hi
    have := List.all_eq_true.1 (main i _ ho).1.2 j hj
    simpa using this
  · have ho : ops[i]? = some ops[i] := Array.getElem?_eq_getElem hi
    have := List.all_eq_true.1 (main i _ ho).2 j hj
    simpa using this

theorem clo_lt (R : RelOk ops D JS) : ∀ i, i < ops.size → ∀ j ∈ D.getD i [], j < i := by
  intro i
  induction i using Nat.strongRecOn with
  | _ i ih =>
    intro hi j hj
    have ho : ops[i]? = some ops[i] := Array.getElem?_eq_getElem hi
    obtain ⟨e, he, hb, h⟩ := R.clos i _ ho j hj
    have he' := R.down i _ ho e he hb
    rcases h with rfl | h
    · exact he'
    · have := ih e.on he' (by omega) j h; omega

/-- The listed operations are closed under what binds. -/
def Closed (ops : Array Oper) (S : Nat → Bool) : Prop := ∀ i o, ops[i]? = some o → S i = true → ∀ e ∈ o.after, Region.binds .any e = true → S e.on = true

theorem clo_in (R : RelOk ops D JS) {S : Nat → Bool} (c : Closed ops S) : ∀ i o, ops[i]? = some o → (∀ e ∈ o.after, Region.binds .any e = true → S e.on = true) → ∀ j ∈ D.getD i [], S j = true := by
  intro i
  induction i using Nat.strongRecOn with
  | _ i ih =>
    intro o ho h j hj
    obtain ⟨e, he, hb, hh⟩ := R.clos i o ho j hj
    have h1 := h e he hb
    have hlt := R.down i o ho e he hb
    rcases hh with rfl | hh
    · exact h1
    · have hl : e.on < ops.size := by have := (Array.getElem?_eq_some_iff.1 ho).1; omega
      have ho' : ops[e.on]? = some ops[e.on] := Array.getElem?_eq_getElem hl
      exact ih e.on hlt _ ho' (c e.on _ ho' h1) j hh

/-- The act a is a0 with the values of the operations in S. -/
structure ActAt (ops : Array Oper) (a0 : Act) (V : Nat → Value) (S : Nat → Bool) (a : Act) : Prop where
  defers : a.defers = a0.defers
  size : a.tmps.size = a0.tmps.size
  at_ : ∀ j t, S j = true → dstAt ops j = some t → t < a0.tmps.size → a.tmps[t]? = some (V j)
  old : ∀ t, (∀ j, S j = true → dstAt ops j ≠ some t) → a.tmps[t]? = a0.tmps[t]?

theorem ActAt.start {V : Nat → Value} : ActAt ops a0 V (fun _ => false) a0 := ⟨rfl, rfl, fun _ _ h => (by cases h), fun _ _ => rfl⟩

theorem ActAt.put (R : RelOk ops D JS) {V : Nat → Value} {S : Nat → Bool} {a : Act} (h : ActAt ops a0 V S a) {i : Nat} {v : Value} {V' : Nat → Value} (hS : ∀ j, S j = true → V' j = V j) (hn : S i = false) (hi : V' i = v) :
    ActAt ops a0 V' (fun j => S j || j == i) (a.put (dstAt ops i) v) := by
  cases hd : dstAt ops i with
  | none =>
    refine ⟨h.defers, h.size, fun j t hj ht hl => ?_, fun t ht => h.old t fun j hj => ht j (by simp [hj])⟩
    simp only [Bool.or_eq_true, beq_iff_eq] at hj
    rcases hj with hj | rfl
    · rw [hS j hj]; exact h.at_ j t hj ht hl
    · rw [hd] at ht; cases ht
  | some d =>
    refine ⟨h.defers, by simp [Act.put, h.size], fun j t hj ht hl => ?_, fun t ht => ?_⟩
    · simp only [Bool.or_eq_true, beq_iff_eq] at hj
      rcases hj with hj | rfl
      · have hne : d ≠ t := fun e => by
          subst e
          have := R.apart i j d hd ht
          subst this; rw [hn] at hj; cases hj
        simp only [Act.put, Array.getElem?_setIfInBounds_ne hne]
        rw [hS j hj]; exact h.at_ j t hj ht hl
      · rw [hd] at ht
        obtain rfl : d = t := by simpa using ht
        simp [Act.put, Array.getElem?_setIfInBounds_self, h.size, hl, hi]
    · have hne : d ≠ t := fun e => ht i (by simp) (by rw [hd, e])
      simp only [Act.put, Array.getElem?_setIfInBounds_ne hne]
      exact h.old t fun j hj => ht j (by simp [hj])

theorem ActAt.congrS {V V' : Nat → Value} {S S' : Nat → Bool} {a : Act} (h : ActAt ops a0 V S a) (hS : ∀ j, j < ops.size → S j = S' j) (hV : ∀ j, S j = true → V j = V' j) : ActAt ops a0 V' S' a :=
  ⟨h.defers, h.size, fun j t hj ht hl => by
    have hj' : S j = true := by rw [hS j (dstAt_lt ht)]; exact hj
    rw [← hV j hj']; exact h.at_ j t hj' ht hl,
   fun t ht => h.old t fun j hj hd => ht j (by rw [← hS j (dstAt_lt hd)]; exact hj) hd⟩

/-- The two acts agree on what operation i looks at. -/
theorem looks_same (R : RelOk ops D JS) {V : Nat → Value} {S : Nat → Bool} {a ai : Act} {i : Nat} {o : Oper} (ho : ops[i]? = some o) (ha : ActAt ops a0 V S a) (hai : ActAt ops a0 V (fun j => decide (j < i)) ai)
    (hn : S i = false) (hin : ∀ j ∈ D.getD i [], S j = true) (hout : ∀ j, j < ops.size → i ∈ D.getD j [] → S j = false) : ∀ t ∈ o.looksAt ops, a.tmps[t]? = ai.tmps[t]? := by
  intro t ht
  have hi : i < ops.size := (Array.getElem?_eq_some_iff.1 ho).1
  by_cases hex : ∃ j, dstAt ops j = some t
  · obtain ⟨j, hj⟩ := hex
    have huniq : ∀ k, dstAt ops k = some t → k = j := fun k hk => R.apart j k t hj hk
    have hjl := dstAt_lt hj
    by_cases hl : t < a0.tmps.size
    · rcases R.reads i o ho t ht j hj with rfl | h | h
      · rw [ha.old t (fun k hk hkd => by rw [huniq k hkd, hn] at hk; cases hk), hai.old t (fun k hk hkd => by rw [huniq k hkd] at hk; simp at hk)]
      · rw [ha.at_ j t (hin j h) hj hl, hai.at_ j t (by have := clo_lt R i hi j h; simpa using this) hj hl]
      · have := clo_lt R j hjl i h
        rw [ha.old t (fun k hk hkd => by rw [huniq k hkd, hout j hjl h] at hk; cases hk), hai.old t (fun k hk hkd => by rw [huniq k hkd] at hk; simp at hk; omega)]
    · rw [Array.getElem?_eq_none (by rw [ha.size]; exact Nat.le_of_not_lt hl), Array.getElem?_eq_none (by rw [hai.size]; exact Nat.le_of_not_lt hl)]
  · rw [ha.old t (fun k _ hk => hex ⟨k, hk⟩), hai.old t (fun k _ hk => hex ⟨k, hk⟩)]

theorem exec_same (R : RelOk ops D JS) {o : Oper} {i : Nat} (ho : ops[i]? = some o) {a ai : Act} (h : ∀ t ∈ o.looksAt ops, a.tmps[t]? = ai.tmps[t]?) :
    execOp a.eval o = execOp ai.eval o ∧ Region.wanted o (yielded ops a.tmps) = Region.wanted o (yielded ops ai.tmps) := by
  constructor
  · refine execOp_congr o (fun cs b => Region.noSelect_spec R.nosel i o cs b ho) fun x hx => ?_
    cases x with
    | tmp t =>
      have := h t (List.mem_append_left _ (List.mem_filterMap.2 ⟨.tmp t, by simpa using hx, rfl⟩))
      simp only [Act.eval, Array.getD_eq_getD_getElem?, this]
    | _ => rfl
  · unfold Region.wanted
    cases hg : o.guard with
    | none => rfl
    | some gw =>
      obtain ⟨g, want⟩ := gw
      have hy : yielded ops a.tmps g = yielded ops ai.tmps g := by
        unfold yielded
        cases ht : (ops[g]?).bind (·.dst) with
        | none => rfl
        | some t =>
          have := h t (by simp [Oper.looksAt, hg, ht])
          simp only [Option.bind_some, this]
      simp only [hy]

theorem put_same {a ai : Act} {d : Option Tmp} {v v' : Value} (hs : a.tmps.size = ai.tmps.size) (h : ai.put d v = ai.put d v') : a.put d v = a.put d v' := by
  cases d with
  | none => rfl
  | some d =>
    simp only [Act.put] at h ⊢
    have h1 : ai.tmps.setIfInBounds d v = ai.tmps.setIfInBounds d v' := by injection h
    by_cases hl : d < ai.tmps.size
    · have h2 := congrArg (fun z : Array Value => z[d]?) h1
      simp [Array.getElem?_setIfInBounds_self, hl] at h2
      rw [h2]
    · rw [Array.setIfInBounds_eq_of_size_le (by rw [hs]; exact Nat.le_of_not_lt hl), Array.setIfInBounds_eq_of_size_le (by rw [hs]; exact Nat.le_of_not_lt hl)]

theorem wp_transfer {o : Oper} {i : Nat} {a ai : Act} {w : World} {vs : Nat → Value} {K : Act → World → Prop} {Q : Exit → Act → World → Prop} (hs : a.tmps.size = ai.tmps.size) (hx : execOp a.eval o = execOp ai.eval o)
    (hw : Region.wanted o (yielded ops a.tmps) = Region.wanted o (yielded ops ai.tmps)) (hK : ∀ v w', relPost Rs vs w0 i w v w' → K (a.put o.dst v) w') (hi : ops[i]? = some o)
    (h : wpList P ops (relEnd Rs vs w0 i o.dst ai w) [o] ai w) : wpOp P ops Q i K a w := by
  unfold wpOp
  simp only [hi]
  unfold wpList at h
  rw [hw]
  have key : ∀ (v : Value) (w' : World), wpList P ops (relEnd Rs vs w0 i o.dst ai w) [] (ai.put o.dst v) w' → K (a.put o.dst v) w' := fun v w' h => by
    obtain ⟨v', h1, h2⟩ := h
    rw [put_same hs h1]
    exact hK v' w' h2
  split
  · rename_i hwt
    rw [if_pos hwt] at h
    replace h := h.resolve_right fun h => by
      obtain ⟨_, _, _, h⟩ := h
      cases h
    refine .inl ?_
    unfold Oper.wp at *
    rw [hx]
    generalize (execOp ai.eval o).run P w = r at *
    cases r with
    | ok n w' =>
      cases n <;> simp only [Oper.upon] at h ⊢
      case value v => exact key v w' h
      case skip => exact key undef w' h
      case defer d =>
        obtain ⟨v', h1, h2⟩ := h
        have := congrArg Act.defers h1
        cases hd : o.dst <;> simp [Act.put, hd] at this
      case enter f args =>
        refine Calls.mono h fun e w'' he => ?_
        cases e with
        | returned v => exact key v w'' he
        | panicked c => cases he
        | outgrown => obtain ⟨_, _, h⟩ := he; cases h
      case row row args => exact Rows.mono h fun v w'' he => key v w'' he
    | halt x w' => cases x <;> simp only [Oper.upon] at h ⊢ <;> first | exact h | cases h
  · rename_i hwt
    rw [if_neg hwt] at h
    exact key undef w h

theorem needOf_lt {i j : Nat} (h : j ∈ needOf Rs i) : i < Rs.length := by
  unfold needOf at h
  rcases Nat.lt_or_ge i Rs.length with h1 | h1
  · exact h1
  · rw [List.getElem?_eq_none h1] at h; cases h

/-- The state in the midst of a region. -/
structure RelInv (ops : Array Oper) (Rs : List RD) (w0 : World) (a0 : Act) (listed : Array Bool) (a : Act) (w : World) : Prop where
  size : listed.size = ops.size
  closed : Closed ops fun j => listed.getD j false
  over : ∃ x, w = ov w0 x
  vals : ∃ vs, ActAt ops a0 (vv Rs vs) (fun j => listed.getD j false) a ∧ ∀ j, listed.getD j false = true → holds w0 Rs vs j w

theorem vv_upd {vs : Nat → Value} {i j : Nat} {v : Value} (h : j ≠ i) : vv Rs (updV vs i v) j = vv Rs vs j := by unfold vv updV; rw [if_neg h]

theorem holds_congr {vs vs' : Nat → Value} {j : Nat} {w : World} (h : ∀ k ∈ ((Rs.map RD.deps).getD j ([], [])).2, vv Rs vs k = vv Rs vs' k) (hh : holds w0 Rs vs j w) : holds w0 Rs vs' j w := by
  unfold holds at *
  cases hr : Rs[j]? with
  | none => trivial
  | some r =>
    rw [hr] at hh
    cases r with
    | pur n c => trivial
    | rel n js b F =>
      have e : ((Rs.map RD.deps).getD j ([], [])).2 = js := by
        rw [List.getD_eq_getElem?_getD, List.getElem?_map, hr]; rfl
      rw [e] at h
      simp only at hh ⊢
      rwa [← List.map_congr_left h]

theorem holds_ov {vs : Nat → Value} {j : Nat} {w : World} {x : More} (hst : ∀ r ∈ Rs, r.stable) (h : holds w0 Rs vs j w) : holds w0 Rs vs j (ov w x) := by
  unfold holds at *
  cases hr : Rs[j]? with
  | none => trivial
  | some r =>
    rw [hr] at h
    cases r with
    | pur n c => trivial
    | rel n js b F => exact hst _ (List.mem_of_getElem? hr) _ _ _ _ h

theorem rel_step (R : RelOk ops D JS) (hJ : Rs.map RD.deps = JS) (hlen : Rs.length = ops.size) (hst : ∀ r ∈ Rs, r.stable) {listed : Array Bool} {a : Act} {w : World} {i : Nat} {o : Oper} {Q : Exit → Act → World → Prop} (ho : ops[i]? = some o)
    (inv : RelInv ops Rs w0 a0 listed a w) (hi : i ∈ Region.ready .any ops listed)
    (hop : ∀ vs, ∃ ai, ActAt ops a0 (vv Rs vs) (fun j => decide (j < i)) ai ∧ ∀ w', (∃ x, w' = ov w0 x) → (∀ j ∈ needOf Rs i, holds w0 Rs vs j w') → wpList P ops (relEnd Rs vs w0 i o.dst ai w') [o] ai w') :
    wpOp P ops Q i (RelInv ops Rs w0 a0 (listed.setIfInBounds i true)) a w := by
  obtain ⟨vs, hact, hh⟩ := inv.vals
  obtain ⟨ai, hai, hobl⟩ := hop vs
  obtain ⟨hun, o', ho', haft⟩ := mem_ready.1 hi
  obtain rfl : o = o' := by rw [ho] at ho'; simpa using ho'
  have hil : i < ops.size := (Array.getElem?_eq_some_iff.1 ho).1
  have hunf : listed.getD i false = false := by
    have : i < listed.size := by rw [inv.size]; exact hil
    simp [Array.getD, this] at hun ⊢; exact hun
  have hin : ∀ j ∈ D.getD i [], listed.getD j false = true := clo_in R inv.closed i o ho haft
  have hout : ∀ j, j < ops.size → i ∈ D.getD j [] → listed.getD j false = false := fun j hj hm => by
    cases hb : listed.getD j false with
    | false => rfl
    | true =>
      have ho2 : ops[j]? = some ops[j] := Array.getElem?_eq_getElem hj
      have := clo_in R inv.closed j _ ho2 (inv.closed j _ ho2 hb) i hm
      rw [hunf] at this; cases this
  obtain ⟨hx, hw⟩ := exec_same R ho (looks_same R ho hact hai hunf hin hout)
  have hneed : ∀ j ∈ needOf Rs i, holds w0 Rs vs j w := fun j hj => hh j (hin j (by
    refine R.need i hil j ?_
    rw [← hJ, List.getD_eq_getElem?_getD, List.getElem?_map]
    unfold needOf at hj
    cases hr : Rs[i]? with
    | none => rw [hr] at hj; cases hj
    | some r => rw [hr] at hj; exact hj))
  refine wp_transfer (by rw [hact.size, hai.size]) hx hw (fun v w' hpost => ?_) ho (hobl w inv.over hneed)
  have hd : o.dst = dstAt ops i := by unfold dstAt; rw [ho]; rfl
  have hset : ∀ j, (listed.setIfInBounds i true).getD j false = (listed.getD j false || j == i) := fun j => by
    by_cases hj : j = i
    · subst hj
      have hl : j < listed.size := by rw [inv.size]; exact hil
      simp [Array.getD_eq_getD_getElem?, Array.getElem?_setIfInBounds_self, hl]
    · simp [Array.getD_eq_getD_getElem?, Array.getElem?_setIfInBounds_ne (Ne.symm hj), hj]
  have hri : ∃ r, Rs[i]? = some r := ⟨Rs[i]'(by omega), List.getElem?_eq_getElem _⟩
  obtain ⟨r, hr⟩ := hri
  have hcl : Closed ops fun j => (listed.setIfInBounds i true).getD j false := fun k ok hk hS e he hb => by
    show (listed.setIfInBounds i true).getD e.on false = true
    replace hS : (listed.setIfInBounds i true).getD k false = true := hS
    rw [hset] at hS ⊢
    simp only [Bool.or_eq_true, beq_iff_eq] at hS ⊢
    rcases hS with hS | rfl
    · exact .inl (inv.closed k ok hk hS e he hb)
    · obtain rfl : o = ok := by rw [ho] at hk; simpa using hk
      exact .inl (haft e he hb)
  -- the value, the new relation, what stays
  have fin : ∀ vs', (∀ j, j ≠ i → vv Rs vs' j = vv Rs vs j) → vv Rs vs' i = v → holds w0 Rs vs' i w' → (∀ j, j ≠ i → listed.getD j false = true → holds w0 Rs vs j w') → (∃ x, w' = ov w0 x) → RelInv ops Rs w0 a0 (listed.setIfInBounds i true) (a.put o.dst v) w' := by
    intro vs' hne hvi hhi hrest hov
    refine ⟨by simp [inv.size], hcl, hov, vs', ?_, fun j hj => ?_⟩
    · rw [hd]
      refine (ActAt.put R hact (V' := vv Rs vs') (fun j hj => hne j fun e => by subst e; rw [hunf] at hj; cases hj) hunf hvi).congrS (fun j _ => (hset j).symm) fun _ _ => rfl
    · rw [hset] at hj
      by_cases hji : j = i
      · subst hji; exact hhi
      · have hjl : listed.getD j false = true := by simpa [hji] using hj
        refine holds_congr (fun k hk => ?_) (hrest j hji hjl)
        rw [hJ] at hk
        have hjs : j < ops.size := by
          rw [← inv.size]
          rcases Nat.lt_or_ge j listed.size with h | h
          · exact h
          · rw [show listed.getD j false = false by simp [Array.getD_eq_getD_getElem?, Array.getElem?_eq_none h]] at hjl; cases hjl
        refine (hne k fun e => ?_).symm
        subst e
        rcases R.js j hjs k hk with h | h
        · exact hji h.symm
        · have := hout j hjs h
          rw [hjl] at this; cases this
  unfold relPost at hpost
  rw [hr] at hpost
  obtain ⟨x0, rfl⟩ := inv.over
  cases r with
  | pur n c =>
    obtain ⟨rfl, x, rfl⟩ := hpost
    exact fin vs (fun _ _ => rfl) (by unfold vv; rw [hr]) (by unfold holds; rw [hr]; trivial) (fun j _ hj => holds_ov hst (hh j hj)) ⟨_, ov_ov _ _ _⟩
  | rel n js b F =>
    have hvi : vv Rs (updV vs i v) i = v := by unfold vv updV; rw [hr, if_pos rfl]
    cases b with
    | false =>
      obtain ⟨⟨x, rfl⟩, hF⟩ := hpost
      exact fin (updV vs i v) (fun j hj => vv_upd hj) hvi (by unfold holds; rw [hr]; exact hF) (fun j _ hj => holds_ov hst (hh j hj)) ⟨_, ov_ov _ _ _⟩
    | true =>
      obtain ⟨hov, hk, hF⟩ := hpost
      exact fin (updV vs i v) (fun j hj => vv_upd hj) hvi (by unfold holds; rw [hr]; exact hF) (fun j hj hl => hk j hj (hh j hl)) hov

theorem wpRel_at (R : RelOk ops D JS) {Q : Exit → Act → World → Prop} {vs : Nat → Value} : ∀ (l : List Oper) (k : Nat) (a : Act), (∀ j, l[j]? = ops[k + j]?) → ActAt ops a0 (vv Rs vs) (fun j => decide (j < k)) a → wpRel P ops Q w0 Rs vs k l a →
    (∀ i o, k ≤ i → ops[i]? = some o → ∃ ai, ActAt ops a0 (vv Rs vs) (fun j => decide (j < i)) ai ∧ ∀ w', (∃ x, w' = ov w0 x) → (∀ j ∈ needOf Rs i, holds w0 Rs vs j w') → wpList P ops (relEnd Rs vs w0 i o.dst ai w') [o] ai w') ∧
    ∃ an, ActAt ops a0 (vv Rs vs) (fun j => decide (j < ops.size)) an ∧ ∀ w', (∃ x, w' = ov w0 x) → (∀ j, holds w0 Rs vs j w') → Q .normal an w'
  | [], k, a, hl, ha, h => by
    have hk : ops.size ≤ k := by
      have := hl 0
      simp at this
      exact this
    refine ⟨fun i o hi ho => ?_, a, ha.congrS (fun j hj => by simp; omega) (fun _ _ => rfl), h⟩
    have := (Array.getElem?_eq_some_iff.1 ho).1; omega
  | o :: l, k, a, hl, ha, h => by
    have h0 : ops[k]? = some o := by simpa using (hl 0).symm
    obtain ⟨h1, h2⟩ := h
    have hd : o.dst = dstAt ops k := by unfold dstAt; rw [h0]; rfl
    have ha' : ActAt ops a0 (vv Rs vs) (fun j => decide (j < k + 1)) (a.put o.dst (vv Rs vs k)) := by
      rw [hd]
      refine (ActAt.put R ha (V' := vv Rs vs) (fun _ _ => rfl) (by simp) rfl).congrS (fun j _ => ?_) (fun _ _ => rfl)
      rw [Bool.eq_iff_iff]; simp; omega
    obtain ⟨r1, r2⟩ := wpRel_at R l (k + 1) _ (fun j => by have := hl (j + 1); simpa [Nat.add_assoc, Nat.add_comm 1 j] using this) ha' h2
    refine ⟨fun i o' hi ho => ?_, r2⟩
    by_cases e : i = k
    · subst e
      obtain rfl : o = o' := by rw [h0] at ho; simpa using ho
      exact ⟨a, ha, h1⟩
    · exact r1 i o' (by omega) ho

theorem act_eq {a b : Act} (h1 : a.defers = b.defers) (h2 : a.tmps = b.tmps) : a = b := by cases a; cases b; simp_all

theorem ActAt.unique {V : Nat → Value} {S : Nat → Bool} {a b : Act} (ha : ActAt ops a0 V S a) (hb : ActAt ops a0 V S b) : a = b := by
  refine act_eq (by rw [ha.defers, hb.defers]) (Array.ext_getElem? fun t => ?_)
  by_cases hex : ∃ j, S j = true ∧ dstAt ops j = some t
  · obtain ⟨j, hj, hd⟩ := hex
    by_cases hl : t < a0.tmps.size
    · rw [ha.at_ j t hj hd hl, hb.at_ j t hj hd hl]
    · rw [Array.getElem?_eq_none (by rw [ha.size]; exact Nat.le_of_not_lt hl), Array.getElem?_eq_none (by rw [hb.size]; exact Nat.le_of_not_lt hl)]
  · rw [ha.old t fun j hj hd => hex ⟨j, hj, hd⟩, hb.old t fun j hj hd => hex ⟨j, hj, hd⟩]

theorem some_ready (R : RelOk ops D JS) {listed : Array Bool} (hsz : listed.size = ops.size) {k : Nat} (hk : listed.getD k true = false) : ∃ i, i ∈ Region.ready .any ops listed := by
  induction k using Nat.strongRecOn with
  | _ k ih =>
    have hl : k < listed.size := by
      rcases Nat.lt_or_ge k listed.size with h | h
      · exact h
      · rw [show listed.getD k true = true by simp [Array.getD_eq_getD_getElem?, Array.getElem?_eq_none h]] at hk; cases hk
    have ho : ops[k]? = some (ops[k]'(by omega)) := Array.getElem?_eq_getElem _
    by_cases hall : ∀ e ∈ (ops[k]'(by omega)).after, Region.binds .any e = true → listed.getD e.on false = true
    · exact ⟨k, mem_ready.2 ⟨hk, _, ho, hall⟩⟩
    · simp only [Classical.not_forall] at hall
      obtain ⟨e, he, hb, hne⟩ := hall
      have hlt := R.down k _ ho e he hb
      refine ih e.on hlt ?_
      have hl2 : e.on < listed.size := by omega
      simp [Array.getD, hl2] at hne ⊢
      exact hne

theorem rel_any (R : RelOk ops D JS) (hJ : Rs.map RD.deps = JS) (hlen : Rs.length = ops.size) (hst : ∀ r ∈ Rs, r.stable) {Q : Exit → Act → World → Prop}
    (hop : ∀ i o, ops[i]? = some o → ∀ vs, ∃ ai, ActAt ops a0 (vv Rs vs) (fun j => decide (j < i)) ai ∧ ∀ w', (∃ x, w' = ov w0 x) → (∀ j ∈ needOf Rs i, holds w0 Rs vs j w') → wpList P ops (relEnd Rs vs w0 i o.dst ai w') [o] ai w')
    (hend : ∀ vs, ∃ an, ActAt ops a0 (vv Rs vs) (fun j => decide (j < ops.size)) an ∧ ∀ w', (∃ x, w' = ov w0 x) → (∀ j, holds w0 Rs vs j w') → Q .normal an w') :
    ∀ (fuel : Nat) (listed : Array Bool) (a : Act) (w : World), listed.toList.count false = fuel → RelInv ops Rs w0 a0 listed a w → wpAny P .any ops Q fuel listed a w := by
  have done : ∀ (listed : Array Bool) (a : Act) (w : World), RelInv ops Rs w0 a0 listed a w → Region.ready .any ops listed = [] → Q .normal a w := by
    intro listed a w inv hr
    have hall : ∀ k, k < ops.size → listed.getD k false = true := fun k hk => by
      cases hb : listed.getD k true with
      | false => obtain ⟨i, hi⟩ := some_ready R inv.size hb; rw [hr] at hi; cases hi
      | true =>
        have hl : k < listed.size := by rw [inv.size]; exact hk
        simp [Array.getD, hl] at hb ⊢; exact hb
    obtain ⟨vs, hact, hh⟩ := inv.vals
    obtain ⟨an, han, hQ⟩ := hend vs
    have e : a = an := ActAt.unique (hact.congrS (S' := fun j => decide (j < ops.size)) (fun j hj => by rw [hall j hj]; simp [hj]) fun _ _ => rfl) han
    subst e
    refine hQ w inv.over fun j => ?_
    by_cases hj : j < ops.size
    · exact hh j (hall j hj)
    · unfold holds; rw [List.getElem?_eq_none (by omega)]; trivial
  intro fuel
  induction fuel with
  | zero =>
    intro listed a w hc inv
    have hr : Region.ready .any ops listed = [] := by
      cases hrr : Region.ready .any ops listed with
      | nil => rfl
      | cons i r =>
        have hi : i ∈ Region.ready .any ops listed := by rw [hrr]; simp
        obtain ⟨hun, _⟩ := mem_ready.1 hi
        have hl : i < listed.size := by
          rcases Nat.lt_or_ge i listed.size with h | h
          · exact h
          · rw [show listed.getD i true = true by simp [Array.getD_eq_getD_getElem?, Array.getElem?_eq_none h]] at hun; cases hun
        have hm : false ∈ listed.toList := by
          simp [Array.getD, hl] at hun
          rw [← hun]; simp
        have := List.count_pos_iff.2 hm
        omega
    exact ⟨hr, done listed a w inv hr⟩
  | succ fuel ih =>
    intro listed a w hc inv
    refine ⟨fun hr => done listed a w inv hr, fun i hi => ?_⟩
    obtain ⟨hun, o, ho, _⟩ := mem_ready.1 hi
    have hl : i < listed.size := by rw [inv.size]; exact (Array.getElem?_eq_some_iff.1 ho).1
    refine wpOp_mono (fun a' w' inv' => ih _ a' w' ?_ inv') (rel_step R hJ hlen hst ho inv hi (hop i o ho))
    have hl' : i < listed.toList.length := by simpa using hl
    have hv : listed.toList[i] = false := by simp [Array.getD, hl] at hun; simpa using hun
    have hcs := List.count_set (a := true) (b := false) hl'
    rw [hv] at hcs
    rw [Array.toList_setIfInBounds, hcs, hc]
    simp
end
theorem getD_rep_false (n j : Nat) : (Array.replicate n false).getD j false = false := by
  rw [Array.getD_eq_getD_getElem?, Array.getElem?_replicate]
  split <;> rfl

/-- A region that draws its order: a relation an operation. -/
theorem wp_region_rel {P : Program} {id : Nat} {Q : Exit → Act → World → Prop} {a : Act} {w : World} {l : List Oper} (Rs : List RD) (JS : List (List Nat × List Nat)) (hJ : Rs.map RD.deps = JS) (hlen : Rs.length = l.length) (hm : P.follows .mixedOrders = true)
    (hB : relB l.toArray (clo l.toArray l.toArray.size) JS = true) (hst : ∀ r ∈ Rs, r.stable) (h : ∀ vs, wpRel P l.toArray Q w Rs vs 0 l a) : (Code.region id l.toArray true).wp P Q a w := by
  have R := relB_ok hB
  refine wp_region_any hm ?_
  have st : ∀ (V : Nat → Value) (S : Nat → Bool), (∀ j, S j = false) → ActAt l.toArray a V S a := fun V S hS => (ActAt.start (V := V)).congrS (V' := V) (fun j _ => (hS j).symm) fun _ _ => rfl
  have hat := fun vs => wpRel_at (Rs := Rs) (a0 := a) R l 0 a (fun j => by simp) (st _ _ (fun j => by simp)) (h vs)
  refine rel_any R hJ (by simpa using hlen) hst (fun i o ho vs => (hat vs).1 i o (Nat.zero_le _) ho) (fun vs => (hat vs).2) _ _ _ _ (by simp) ⟨by simp, fun i o _ hS => ?_, ov_of_below ⟨rfl, rfl, rfl, Nat.le_refl _, fun _ _ => rfl⟩, fun _ => undef, ?_, fun j hj => ?_⟩
  · exact absurd hS (by show ¬ (Array.replicate l.toArray.size false).getD i false = true; rw [getD_rep_false]; simp)
  · exact st _ _ fun j => getD_rep_false _ _
  · rw [getD_rep_false] at hj; cases hj

section
variable {P : Program} {ops : Array Oper} {Q : Exit → Act → World → Prop} {w0 w w' : World} {Rs : List RD} {vs : Nat → Value} {i : Nat} {a a' : Act} {o : Oper} {r : List Oper} {dst : Option Tmp}
theorem wpRel_cons (h1 : ∀ w', (∃ x, w' = ov w0 x) → (∀ j ∈ needOf Rs i, holds w0 Rs vs j w') → wpList P ops (relEnd Rs vs w0 i o.dst a w') [o] a w') (h2 : wpRel P ops Q w0 Rs vs (i + 1) r (a.put o.dst (vv Rs vs i))) : wpRel P ops Q w0 Rs vs i (o :: r) a := ⟨h1, h2⟩
/-- An operation with one value, in worlds of which nothing is asked. -/
theorem wpRel_pur {c : Value} {dst : Option Tmp} (hr : Rs[i]? = some (.pur [] c)) (hd : o.dst = dst) (h1 : ∀ x, wpList P ops (relEnd Rs vs w0 i dst a (ov w0 x)) [o] a (ov w0 x)) (h2 : wpRel P ops Q w0 Rs vs (i + 1) r (a.put dst c)) : wpRel P ops Q w0 Rs vs i (o :: r) a := by
  subst hd
  have hv : vv Rs vs i = c := by unfold vv; rw [hr]
  subst hv
  refine ⟨fun w' ⟨x, hx⟩ _ => ?_, h2⟩
  subst hx
  exact h1 x
theorem wpRel_nil (h : ∀ x, (∀ j, holds w0 Rs vs j (ov w0 x)) → Q .normal a (ov w0 x)) : wpRel P ops Q w0 Rs vs i [] a := fun w' ⟨x, hx⟩ hh => by subst hx; exact h x hh
theorem relEnd_pur {n : List Nat} {c : Value} (hr : Rs[i]? = some (.pur n c)) (ha : a' = a.put dst c) (hb : Below w.heap.size w w') : relEnd Rs vs w0 i dst a w .normal a' w' :=
  ⟨c, ha, by unfold relPost; rw [hr]; exact ⟨rfl, ov_of_below hb⟩⟩
theorem relEnd_rel {n js : List Nat} {F : World → List Value → World → Prop} {v : Value} (hr : Rs[i]? = some (.rel n js false F)) (ha : a' = a.put dst v) (hb : Below w.heap.size w w') (hF : F w0 (js.map (vv Rs (updV vs i v))) w') : relEnd Rs vs w0 i dst a w .normal a' w' :=
  ⟨v, ha, by unfold relPost; rw [hr]; exact ⟨ov_of_below hb, hF⟩⟩
theorem relEnd_wild {n js : List Nat} {F : World → List Value → World → Prop} {v : Value} (hr : Rs[i]? = some (.rel n js true F)) (ha : a' = a.put dst v) (ho : ∃ x, w' = ov w0 x) (hk : ∀ j, j ≠ i → holds w0 Rs vs j w → holds w0 Rs vs j w') (hF : F w0 (js.map (vv Rs (updV vs i v))) w') : relEnd Rs vs w0 i dst a w .normal a' w' :=
  ⟨v, ha, by unfold relPost; rw [hr]; exact ⟨ho, hk, hF⟩⟩
end
end Go.Proofs.YtabmfaamadbefaaGreat
set_option linter.unusedVariables false
set_option linter.unusedSimpArgs false
namespace Go.Proofs.YtabmfaamadbefaaGreat
open Go.RowKit
/-- A pointer to a block of n cells from B on. -/
def IsAl (T : TypeId) (n : Nat) (w0 : World) (l : List Value) (w : World) : Prop := ∃ b cur, l = [.pointer (some ⟨b, 0, none⟩)] ∧ w0.heap.size ≤ b ∧ w.heap[b]? = some (.cells cur T (0, 0)) ∧ cur.size = n
/-- A pointer and what its block holds. -/
def IsSt (T : TypeId) (w0 : World) (l : List Value) (w : World) : Prop := ∃ b u, l = [.pointer (some ⟨b, 0, none⟩), u] ∧ w0.heap.size ≤ b ∧ w.heap[b]? = some (.cells u.cells T (0, 0))

theorem all_nil {p : RD → Prop} : ∀ r ∈ ([] : List RD), p r := fun _ h => by cases h
theorem all_cons {p : RD → Prop} {x : RD} {l : List RD} (h : p x) (hl : ∀ r ∈ l, p r) : ∀ r ∈ x :: l, p r := fun r hr => by
  rcases List.mem_cons.1 hr with rfl | hr
  · exact h
  · exact hl r hr
theorem cell_blk {W : World} {b j : Nat} {arr : Array Value} {T : TypeId} {v : Value} (h : W.heap[b]? = some (.cells arr T (0, 0))) (hv : arr[j]? = some v) : W.cell? ⟨b, j, none⟩ = some v := by
  simp [World.cell?, h, hv]
theorem frozen_blk {W : World} {b j : Nat} {arr : Array Value} {T : TypeId} (h : W.heap[b]? = some (.cells arr T (0, 0))) : W.frozen? ⟨b, j, none⟩ = false := by
  simp [World.frozen?, h]
theorem ov_blk {w : World} {x : More} {b : Nat} {o : Obj} (h : w.heap[b]? = some o) : (ov w x).heap[b]? = some o := by
  rw [ov_block w x (Array.getElem?_eq_some_iff.1 h).1]; exact h
theorem isAl_stable {nd js : List Nat} {wd : Bool} {T : TypeId} {n : Nat} : RD.stable (.rel nd js wd (IsAl T n)) := by
  rintro w0 l w x ⟨b, cur, h1, h2, h3, h4⟩
  exact ⟨b, cur, h1, h2, ov_blk h3, h4⟩
theorem isSt_stable {nd js : List Nat} {wd : Bool} {T : TypeId} : RD.stable (.rel nd js wd (IsSt T)) := by
  rintro w0 l w x ⟨b, u, h1, h2, h3⟩
  exact ⟨b, u, h1, h2, ov_blk h3⟩

/-- What a store of a whole block of type T leaves as it is. -/
def RD.steady (T : TypeId) : RD → Prop
  | .pur _ _ => True
  | .rel _ _ _ F => ∀ w0 l w b cur arr, w.heap[b]? = some (.cells cur T (0, 0)) → arr.size = cur.size → F w0 l w → F w0 l (w.setRow b arr)

theorem setRow_other {w : World} {b c : Nat} {arr : Array Value} (h : c ≠ b) : (w.setRow b arr).heap[c]? = w.heap[c]? := by
  simp [World.setRow, Array.getElem?_modify, Ne.symm h]
theorem isAl_steady {nd js : List Nat} {wd : Bool} {T U : TypeId} {n : Nat} : RD.steady U (.rel nd js wd (IsAl T n)) := by
  rintro w0 l w b cur arr hb hs ⟨c, cur', h1, h2, h3, h4⟩
  by_cases e : c = b
  · subst e
    rw [h3] at hb
    cases hb
    exact ⟨c, arr, h1, h2, setRow_heap _ _ _ _ _ _ h3, by omega⟩
  · exact ⟨c, cur', h1, h2, by rw [setRow_other e]; exact h3, h4⟩

/-- A value that a call of the region made: G says what it is. -/
def IsOw (G : World → Value → World → Prop) (w0 : World) (l : List Value) (w : World) : Prop := ∃ v, l = [v] ∧ G w0 v w
structure Owned (T : TypeId) (G : World → Value → World → Prop) : Prop where
  st : ∀ w0 v w x, G w0 v w → G w0 v (ov w x)
  sd : ∀ w0 v w b cur arr, w.heap[b]? = some (.cells cur T (0, 0)) → arr.size = cur.size → G w0 v w → G w0 v (w.setRow b arr)
theorem isOw_stable {nd js : List Nat} {wd : Bool} {T : TypeId} {G : World → Value → World → Prop} (h : Owned T G) : RD.stable (.rel nd js wd (IsOw G)) := by
  rintro w0 l w x ⟨v, h1, h2⟩
  exact ⟨v, h1, h.st w0 v w x h2⟩
theorem isOw_steady {nd js : List Nat} {wd : Bool} {T : TypeId} {G : World → Value → World → Prop} (h : Owned T G) : RD.steady T (.rel nd js wd (IsOw G)) := by
  rintro w0 l w b cur arr h0 hs ⟨v, h1, h2⟩
  exact ⟨v, h1, h.sd w0 v w b cur arr h0 hs h2⟩

theorem setRow_ov {W : World} {x : More} {b : Nat} (hb : W.heap.size ≤ b) (arr : Array Value) : ∃ x', (ov W x).setRow b arr = ov W x' :=
  ov_of_below (below_setRow (below_ov W x (Below.refl _ _) (Nat.le_refl _)) hb arr)

section
variable {P : Program} {ops : Array Oper} {Q : Exit → Act → World → Prop} {w0 w w' : World} {Rs : List RD} {vs : Nat → Value} {i : Nat} {a a' : Act} {o : Oper} {r : List Oper} {dst : Option Tmp}
/-- A store of a whole value into a block. -/
theorem wpList_store_blk {rest : List Oper} (hg : o.guard = none) (T T' : TypeId) (s t : Operand) (hop : o.op = .store T s t) {b : Nat} {cur : Array Value} (es : a.eval s = .pointer (some ⟨b, 0, none⟩)) (hx : w.heap[b]? = some (.cells cur T' (0, 0)))
    (hn : (P.info? T).map (·.size) = some cur.size) (hsz : (a.eval t).cells.size = cur.size) (h1 : ∀ u ∈ (a.eval t).cells.toList, u.oneCell' = true) (h : wpList P ops Q rest (a.put o.dst undef) (w.setRow b (a.eval t).cells)) : wpList P ops Q (o :: rest) a w :=
  wpList_plain hg fun _ hK => by
    unfold Oper.wp execOp
    have hst := run_storeCells_from (P := P) b T' (a.eval t).cells.toList 0 cur w hx (by simp [hsz]) h1
    cases hq : P.info? T with
    | none => simp [hq] at hn
    | some inf =>
      have hs : inf.size = cur.size := by simpa [hq] using hn
      simp only [hop, es, Instr.storeAt, Instr.sureAddr, Sem.run_bind, Sem.run_pure, Result.andThen_ok, storeVar, sizeOf, typeInfo]
      simp [hq, hs, hsz, hst]
      exact hK _ _ h

theorem wpRel_al {T : TypeId} {n k : Nat} (z : Array Value) {d : Tmp} (hr : Rs[i]? = some (.rel [] [k] false (IsAl T n))) (hki : k = i) (hz : z.size = n) (hop : o.op = .alloc T) (hg : o.guard = none) (hd : o.dst = some d)
    (run : ∀ w, (execOp a.eval o).run P w = .ok (.value (.pointer (some ⟨w.heap.size, 0, none⟩))) (w.alloc (.cells z T)))
    (h2 : wpRel P ops Q w0 Rs vs (i + 1) r (a.put (some d) (vs k))) : wpRel P ops Q w0 Rs vs i (o :: r) a := by
  subst hki
  refine wpRel_cons (fun w' hw _ => ?_) ?_
  · obtain ⟨x, rfl⟩ := hw
    refine wpList_plain hg fun _ hK => ?_
    unfold Oper.wp
    rw [run]
    refine hK _ _ ?_
    refine relEnd_rel hr rfl ((Below.refl _ _).alloc (Nat.le_refl _) _) ⟨_, z, ?_, ?_, heap_alloc_new _ _, hz⟩
    · simp [vv, hr, updV]
    · rw [ov_size]; omega
  · rw [hd]
    have : vv Rs vs k = vs k := by unfold vv; rw [hr]
    rw [this]; exact h2

theorem vv_rel {n js : List Nat} {b : Bool} {F : World → List Value → World → Prop} {j : Nat} (h : Rs[j]? = some (.rel n js b F)) : vv Rs vs j = vs j := by unfold vv; rw [h]
theorem vv_pur {n : List Nat} {c : Value} {j : Nat} (h : Rs[j]? = some (.pur n c)) : vv Rs vs j = c := by unfold vv; rw [h]

theorem wpRel_stv {T : TypeId} {k j n : Nat} {s : Tmp} {y : Operand} {nk : List Nat} {wk : Bool} {u : Value} (hr : Rs[i]? = some (.rel [k, j] [k, j] true (IsSt T))) (hk : Rs[k]? = some (.rel nk [k] wk (IsAl T n)))
    (hop : o.op = .store T (.tmp s) y) (hg : o.guard = none) (hd : o.dst = none) (hki : k ≠ i) (hji : j ≠ i) (es : a.eval (.tmp s) = vs k) (hu : vv Rs vs j = u) (et : a.eval y = u) (hn : (P.info? T).map (·.size) = some n)
    (hval : ∀ w, holds w0 Rs vs j w → u.cells.size = n ∧ ∀ x ∈ u.cells.toList, x.oneCell' = true) (hst : ∀ r ∈ Rs.eraseIdx i, r.steady T)
    (h2 : wpRel P ops Q w0 Rs vs (i + 1) r a) : wpRel P ops Q w0 Rs vs i (o :: r) a := by
  refine wpRel_cons (fun w' hw hh => ?_) (by rw [hd]; exact h2)
  obtain ⟨x, rfl⟩ := hw
  have hneed : needOf Rs i = [k, j] := by unfold needOf; rw [hr]; rfl
  rw [hneed] at hh
  have h1 := hh k (by simp)
  have h3 := hval _ (hh j (by simp))
  unfold holds at h1
  rw [hk] at h1
  simp only [List.map_cons, List.map_nil, vv_rel hk] at h1
  obtain ⟨b, cur, e, hb, hblk, hcs⟩ := h1
  have e' : vs k = .pointer (some ⟨b, 0, none⟩) := by simpa using e
  refine wpList_store_blk hg T T (.tmp s) y hop (es.trans e') hblk (by rw [hcs]; exact hn) (by rw [et, h3.1, hcs]) (by rw [et]; exact h3.2) ?_
  refine relEnd_wild hr rfl (setRow_ov hb _) (fun m hm hmm => ?_) ?_
  · unfold holds at hmm ⊢
    cases hq : Rs[m]? with
    | none => trivial
    | some rm =>
      rw [hq] at hmm
      have := hst rm (List.mem_eraseIdx_iff_getElem?.2 ⟨m, hm, hq⟩)
      cases rm with
      | pur _ _ => trivial
      | rel _ _ _ F => exact this _ _ _ b cur _ hblk (by rw [et, h3.1, hcs]) hmm
  · refine ⟨b, u, ?_, hb, ?_⟩
    · simp only [List.map_cons, List.map_nil]
      rw [vv_upd hki, vv_upd hji, vv_rel hk, e', hu]
    · rw [et]; exact setRow_heap _ _ _ _ _ _ hblk

/-- The store of a value that the text fixes. -/
theorem wpRel_st {T : TypeId} {k j n : Nat} {s : Tmp} {y : Operand} {nk nj : List Nat} {wk : Bool} {u : Value} (hr : Rs[i]? = some (.rel [k, j] [k, j] true (IsSt T))) (hk : Rs[k]? = some (.rel nk [k] wk (IsAl T n))) (hj : Rs[j]? = some (.pur nj u))
    (hop : o.op = .store T (.tmp s) y) (hg : o.guard = none) (hd : o.dst = none) (hki : k ≠ i) (hji : j ≠ i) (es : a.eval (.tmp s) = vs k) (et : a.eval y = u) (hn : (P.info? T).map (·.size) = some n)
    (hval : u.cells.size = n ∧ ∀ x ∈ u.cells.toList, x.oneCell' = true) (hst : ∀ r ∈ Rs.eraseIdx i, r.steady T)
    (h2 : wpRel P ops Q w0 Rs vs (i + 1) r a) : wpRel P ops Q w0 Rs vs i (o :: r) a :=
  wpRel_stv hr hk hop hg hd hki hji es (vv_pur hj) et hn (fun _ _ => hval) hst h2
/-- The store of a value that a call made. -/
theorem wpRel_so {T : TypeId} {k j n : Nat} {s : Tmp} {y : Operand} {nk nj : List Nat} {wk wj : Bool} {G : World → Value → World → Prop} (hr : Rs[i]? = some (.rel [k, j] [k, j] true (IsSt T))) (hk : Rs[k]? = some (.rel nk [k] wk (IsAl T n))) (hj : Rs[j]? = some (.rel nj [j] wj (IsOw G)))
    (hop : o.op = .store T (.tmp s) y) (hg : o.guard = none) (hd : o.dst = none) (hki : k ≠ i) (hji : j ≠ i) (es : a.eval (.tmp s) = vs k) (et : a.eval y = vs j) (hn : (P.info? T).map (·.size) = some n)
    (hval : ∀ w, G w0 (vs j) w → (vs j).cells.size = n ∧ ∀ x ∈ (vs j).cells.toList, x.oneCell' = true) (hst : ∀ r ∈ Rs.eraseIdx i, r.steady T)
    (h2 : wpRel P ops Q w0 Rs vs (i + 1) r a) : wpRel P ops Q w0 Rs vs i (o :: r) a :=
  wpRel_stv hr hk hop hg hd hki hji es (vv_rel hj) et hn (fun w hw => by
    unfold holds at hw
    rw [hj] at hw
    simp only [List.map_cons, List.map_nil, vv_rel hj] at hw
    obtain ⟨v, h1, h2⟩ := hw
    simp only [List.cons.injEq, and_true] at h1
    subst h1
    exact hval w h2) hst h2
/-- What stands at the end of a region about a block that was made and filled in it. -/
theorem isSt_pur {T : TypeId} {m k j : Nat} {nk nj nm jk : List Nat} {wk wm : Bool} {F : World → List Value → World → Prop} {u : Value} (h : holds w0 Rs vs m w) (hr : Rs[m]? = some (.rel nm [k, j] wm (IsSt T))) (hk : Rs[k]? = some (.rel nk jk wk F)) (hj : Rs[j]? = some (.pur nj u)) :
    ∃ b, vs k = .pointer (some ⟨b, 0, none⟩) ∧ w0.heap.size ≤ b ∧ w.heap[b]? = some (.cells u.cells T (0, 0)) := by
  unfold holds at h
  rw [hr] at h
  obtain ⟨b, u', e, h1, h2⟩ := h
  simp only [List.map_cons, List.map_nil, vv_rel hk, vv_pur hj, List.cons.injEq, and_true] at e
  obtain ⟨e1, rfl⟩ := e
  exact ⟨b, e1, h1, h2⟩
theorem isSt_own {T : TypeId} {m k j : Nat} {nk nj nm jk jj : List Nat} {wk wm wj : Bool} {F F' : World → List Value → World → Prop} (h : holds w0 Rs vs m w) (hr : Rs[m]? = some (.rel nm [k, j] wm (IsSt T))) (hk : Rs[k]? = some (.rel nk jk wk F)) (hj : Rs[j]? = some (.rel nj jj wj F')) :
    ∃ b, vs k = .pointer (some ⟨b, 0, none⟩) ∧ w0.heap.size ≤ b ∧ w.heap[b]? = some (.cells (vs j).cells T (0, 0)) := by
  unfold holds at h
  rw [hr] at h
  obtain ⟨b, u', e, h1, h2⟩ := h
  simp only [List.map_cons, List.map_nil, vv_rel hk, vv_rel hj, List.cons.injEq, and_true] at e
  obtain ⟨e1, rfl⟩ := e
  exact ⟨b, e1, h1, h2⟩
theorem isOw_at {j : Nat} {nj : List Nat} {wj : Bool} {G : World → Value → World → Prop} (h : holds w0 Rs vs j w) (hj : Rs[j]? = some (.rel nj [j] wj (IsOw G))) : G w0 (vs j) w := by
  unfold holds at h
  rw [hj] at h
  obtain ⟨v, e, h1⟩ := h
  simp only [List.map_cons, List.map_nil, vv_rel hj, List.cons.injEq, and_true] at e
  subst e
  exact h1
/-- An operation that leaves a value of its own making. -/
theorem wpRel_ow {k : Nat} {dst : Option Tmp} {G : World → Value → World → Prop} (hr : Rs[i]? = some (.rel [] [k] false (IsOw G))) (hki : k = i) (hd : o.dst = dst) (h1 : ∀ x, wpList P ops (relEnd Rs vs w0 i dst a (ov w0 x)) [o] a (ov w0 x)) (h2 : wpRel P ops Q w0 Rs vs (i + 1) r (a.put dst (vs k))) : wpRel P ops Q w0 Rs vs i (o :: r) a := by
  subst hki hd
  refine wpRel_cons (fun w' hw _ => ?_) ?_
  · obtain ⟨x, rfl⟩ := hw; exact h1 x
  · rw [vv_rel hr]; exact h2
theorem relEnd_ow {k : Nat} {n : List Nat} {v : Value} {G : World → Value → World → Prop} (hr : Rs[i]? = some (.rel n [k] false (IsOw G))) (hki : k = i) (ha : a' = a.put dst v) (hb : Below w.heap.size w w') (hG : G w0 v w') : relEnd Rs vs w0 i dst a w .normal a' w' := by
  subst hki
  refine relEnd_rel hr ha hb ⟨v, ?_, hG⟩
  simp [vv, hr, updV]
end
theorem cb1 {W : World} {b : Nat} {T : TypeId} {a0 : Value} (h : Hid (W.heap[b]? = some (.cells #[a0] T (0, 0)))) : W.cell? ⟨b, 0, none⟩ = some a0 ∧ b < W.heap.size := ⟨cell_blk (j := 0) h.out rfl, (Array.getElem?_eq_some_iff.1 h.out).1⟩
theorem cb2 {W : World} {b : Nat} {T : TypeId} {a0 a1 : Value} (h : Hid (W.heap[b]? = some (.cells #[a0, a1] T (0, 0)))) : W.cell? ⟨b, 0, none⟩ = some a0 ∧ W.cell? ⟨b, 1, none⟩ = some a1 ∧ b < W.heap.size := ⟨cell_blk (j := 0) h.out rfl, cell_blk (j := 1) h.out rfl, (Array.getElem?_eq_some_iff.1 h.out).1⟩
theorem cb3 {W : World} {b : Nat} {T : TypeId} {a0 a1 a2 : Value} (h : Hid (W.heap[b]? = some (.cells #[a0, a1, a2] T (0, 0)))) : W.cell? ⟨b, 0, none⟩ = some a0 ∧ W.cell? ⟨b, 1, none⟩ = some a1 ∧ W.cell? ⟨b, 2, none⟩ = some a2 ∧ b < W.heap.size := ⟨cell_blk (j := 0) h.out rfl, cell_blk (j := 1) h.out rfl, cell_blk (j := 2) h.out rfl, (Array.getElem?_eq_some_iff.1 h.out).1⟩
theorem cb4 {W : World} {b : Nat} {T : TypeId} {a0 a1 a2 a3 : Value} (h : Hid (W.heap[b]? = some (.cells #[a0, a1, a2, a3] T (0, 0)))) : W.cell? ⟨b, 0, none⟩ = some a0 ∧ W.cell? ⟨b, 1, none⟩ = some a1 ∧ W.cell? ⟨b, 2, none⟩ = some a2 ∧ W.cell? ⟨b, 3, none⟩ = some a3 ∧ b < W.heap.size := ⟨cell_blk (j := 0) h.out rfl, cell_blk (j := 1) h.out rfl, cell_blk (j := 2) h.out rfl, cell_blk (j := 3) h.out rfl, (Array.getElem?_eq_some_iff.1 h.out).1⟩
theorem cb8 {W : World} {b : Nat} {T : TypeId} {a0 a1 a2 a3 a4 a5 a6 a7 : Value} (h : Hid (W.heap[b]? = some (.cells #[a0, a1, a2, a3, a4, a5, a6, a7] T (0, 0)))) : W.cell? ⟨b, 0, none⟩ = some a0 ∧ W.cell? ⟨b, 1, none⟩ = some a1 ∧ W.cell? ⟨b, 2, none⟩ = some a2 ∧ W.cell? ⟨b, 3, none⟩ = some a3 ∧ W.cell? ⟨b, 4, none⟩ = some a4 ∧ W.cell? ⟨b, 5, none⟩ = some a5 ∧ W.cell? ⟨b, 6, none⟩ = some a6 ∧ W.cell? ⟨b, 7, none⟩ = some a7 ∧ b < W.heap.size := ⟨cell_blk (j := 0) h.out rfl, cell_blk (j := 1) h.out rfl, cell_blk (j := 2) h.out rfl, cell_blk (j := 3) h.out rfl, cell_blk (j := 4) h.out rfl, cell_blk (j := 5) h.out rfl, cell_blk (j := 6) h.out rfl, cell_blk (j := 7) h.out rfl, (Array.getElem?_eq_some_iff.1 h.out).1⟩
end Go.Proofs.YtabmfaamadbefaaGreat