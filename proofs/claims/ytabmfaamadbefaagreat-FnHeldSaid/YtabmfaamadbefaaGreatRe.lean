/- A region that draws its order and stores into a block made before it: wp_region_rel with a fact that holds all along. No condition. -/
import Derived.Test.YtabmfaamadbefaaGreatLq
set_option linter.unusedVariables false
set_option linter.unusedSimpArgs false
namespace Go.Proofs.YtabmfaamadbefaaGreat
open Go.RowKit
def relPostE (E : World → Prop) (K : List (Nat × Nat) × List (Nat × Nat)) (Rs : List RD) (vs : Nat → Value) (w0 : World) (i : Nat) (w : World) (v : Value) (w' : World) : Prop := match Rs[i]? with
  | some (.pur _ c) => v = c ∧ ∃ x, w' = ov w x
  | some (.rel _ js false F) => (∃ x, w' = ov w x) ∧ F w0 (js.map (vv Rs (updV vs i v))) w'
  | some (.rel _ js true F) => ((∃ x, w' = ov w0 x) ∧ E w') ∧ (∀ j, j ≠ i → (j, i) ∉ K.1 → (j, i) ∉ K.2 → holds w0 Rs vs j w → holds w0 Rs vs j w') ∧ F w0 (js.map (vv Rs (updV vs i v))) w'
  | none => False

def relEndE (E : World → Prop) (K : List (Nat × Nat) × List (Nat × Nat)) (Rs : List RD) (vs : Nat → Value) (w0 : World) (i : Nat) (dst : Option Tmp) (a : Act) (w : World) : Exit → Act → World → Prop
  | .normal, a', w' => ∃ v, a' = a.put dst v ∧ relPostE E K Rs vs w0 i w v w'
  | _, _, _ => False

/-- The walk: the operations in the order of the text; the last line is what stands behind the region. -/
def wpRelE (E : World → Prop) (K : List (Nat × Nat) × List (Nat × Nat)) (P : Program) (ops : Array Oper) (Q : Exit → Act → World → Prop) (w0 : World) (Rs : List RD) (vs : Nat → Value) : Nat → List Oper → Act → Prop
  | _, [], a => ∀ w', ((∃ x, w' = ov w0 x) ∧ E w') → (∀ j, (∀ k, (j, k) ∉ K.1) → holds w0 Rs vs j w') → Q .normal a w'
  | i, o :: r, a => (∀ w', ((∃ x, w' = ov w0 x) ∧ E w') → (∀ j ∈ needOf Rs i, holds w0 Rs vs j w') → wpList P ops (relEndE E K Rs vs w0 i o.dst a w') [o] a w') ∧ wpRelE E K P ops Q w0 Rs vs (i + 1) r (a.put o.dst (vv Rs vs i))

section
variable {E : World → Prop} {K : List (Nat × Nat) × List (Nat × Nat)} {P : Program} {ops : Array Oper} {D : List (List Nat)} {Rs : List RD} {JS : List (List Nat × List Nat)} {w0 : World} {a0 : Act}
theorem wp_transferE {o : Oper} {i : Nat} {a ai : Act} {w : World} {vs : Nat → Value} {K1 : Act → World → Prop} {Q : Exit → Act → World → Prop} (hs : a.tmps.size = ai.tmps.size) (hx : execOp a.eval o = execOp ai.eval o)
    (hw : Region.wanted o (yielded ops a.tmps) = Region.wanted o (yielded ops ai.tmps)) (hK : ∀ v w', relPostE E K Rs vs w0 i w v w' → K1 (a.put o.dst v) w') (hi : ops[i]? = some o)
    (h : wpList P ops (relEndE E K Rs vs w0 i o.dst ai w) [o] ai w) : wpOp P ops Q i K1 a w := by
  unfold wpOp
  simp only [hi]
  unfold wpList at h
  rw [hw]
  have key : ∀ (v : Value) (w' : World), wpList P ops (relEndE E K Rs vs w0 i o.dst ai w) [] (ai.put o.dst v) w' → K1 (a.put o.dst v) w' := fun v w' h => by
    obtain ⟨v', h1, h2⟩ := h
    rw [put_same hs h1]
    exact hK v' w' h2
  split
  · rename_i hwt
    rw [if_pos hwt] at h
    replace h := h.resolve_right fun h => by
      obtain ⟨_, _, _, h⟩ := h
      cases h
    refine .inl ?_
    unfold Oper.wp at *
    rw [hx]
    generalize (execOp ai.eval o).run P w = r at *
    cases r with
    | ok n w' =>
      cases n <;> simp only [Oper.upon] at h ⊢
      case value v => exact key v w' h
      case skip => exact key undef w' h
      case defer d =>
        obtain ⟨v', h1, h2⟩ := h
        have := congrArg Act.defers h1
        cases hd : o.dst <;> simp [Act.put, hd] at this
      case enter f args =>
        refine Calls.mono h fun e w'' he => ?_
        cases e with
        | returned v => exact key v w'' he
        | panicked c => cases he
        | outgrown => obtain ⟨_, _, h⟩ := he; cases h
      case row row args => exact Rows.mono h fun v w'' he => key v w'' he
    | halt x w' => cases x <;> simp only [Oper.upon] at h ⊢ <;> first | exact h | cases h
  · rename_i hwt
    rw [if_neg hwt] at h
    exact key undef w h

/-- The state in the midst of a region. -/
structure RelInvE (E : World → Prop) (K : List (Nat × Nat) × List (Nat × Nat)) (ops : Array Oper) (Rs : List RD) (w0 : World) (a0 : Act) (listed : Array Bool) (a : Act) (w : World) : Prop where
  size : listed.size = ops.size
  closed : Closed ops fun j => listed.getD j false
  over : (∃ x, w = ov w0 x) ∧ E w
  vals : ∃ vs, ActAt ops a0 (vv Rs vs) (fun j => listed.getD j false) a ∧ ∀ j, listed.getD j false = true → (∀ k, (j, k) ∈ K.1 → listed.getD k false = false) → holds w0 Rs vs j w

theorem rel_stepE (R : RelOk ops D JS) (hK : ∀ i j k, i < ops.size → j ∈ (JS.getD i ([], [])).1 → (j, k) ∈ K.1 → k = i ∨ (k < ops.size ∧ i ∈ D.getD k [])) (hL : ∀ j i, (j, i) ∈ K.2 → j < ops.size ∧ i ∈ D.getD j []) (hJ : Rs.map RD.deps = JS) (hlen : Rs.length = ops.size) (hst : ∀ r ∈ Rs, r.stable) (hE : ∀ w x, E w → E (ov w x)) {listed : Array Bool} {a : Act} {w : World} {i : Nat} {o : Oper} {Q : Exit → Act → World → Prop} (ho : ops[i]? = some o)
    (inv : RelInvE E K ops Rs w0 a0 listed a w) (hi : i ∈ Region.ready .any ops listed)
    (hop : ∀ vs, ∃ ai, ActAt ops a0 (vv Rs vs) (fun j => decide (j < i)) ai ∧ ∀ w', ((∃ x, w' = ov w0 x) ∧ E w') → (∀ j ∈ needOf Rs i, holds w0 Rs vs j w') → wpList P ops (relEndE E K Rs vs w0 i o.dst ai w') [o] ai w') :
    wpOp P ops Q i (RelInvE E K ops Rs w0 a0 (listed.setIfInBounds i true)) a w := by
  obtain ⟨vs, hact, hh⟩ := inv.vals
  obtain ⟨ai, hai, hobl⟩ := hop vs
  obtain ⟨hun, o', ho', haft⟩ := mem_ready.1 hi
  obtain rfl : o = o' := by rw [ho] at ho'; simpa using ho'
  have hil : i < ops.size := (Array.getElem?_eq_some_iff.1 ho).1
  have hunf : listed.getD i false = false := by
    have : i < listed.size := by rw [inv.size]; exact hil
    simp [Array.getD, this] at hun ⊢; exact hun
  have hin : ∀ j ∈ D.getD i [], listed.getD j false = true := clo_in R inv.closed i o ho haft
  have hout : ∀ j, j < ops.size → i ∈ D.getD j [] → listed.getD j false = false := fun j hj hm => by
    cases hb : listed.getD j false with
    | false => rfl
    | true =>
      have ho2 : ops[j]? = some ops[j] := Array.getElem?_eq_getElem hj
      have := clo_in R inv.closed j _ ho2 (inv.closed j _ ho2 hb) i hm
      rw [hunf] at this; cases this
  obtain ⟨hx, hw⟩ := exec_same R ho (looks_same R ho hact hai hunf hin hout)
  have hnj : ∀ j ∈ needOf Rs i, j ∈ (JS.getD i ([], [])).1 := fun j hj => by
    rw [← hJ, List.getD_eq_getElem?_getD, List.getElem?_map]
    unfold needOf at hj
    cases hr : Rs[i]? with
    | none => rw [hr] at hj; cases hj
    | some r => rw [hr] at hj; exact hj
  have hneed : ∀ j ∈ needOf Rs i, holds w0 Rs vs j w := fun j hj => hh j (hin j (R.need i hil j (hnj j hj))) fun k hk => by
    rcases hK i j k hil (hnj j hj) hk with h | ⟨h1, h2⟩
    · subst h; exact hunf
    · exact hout k h1 h2
  refine wp_transferE (by rw [hact.size, hai.size]) hx hw (fun v w' hpost => ?_) ho (hobl w inv.over hneed)
  have hd : o.dst = dstAt ops i := by unfold dstAt; rw [ho]; rfl
  have hset : ∀ j, (listed.setIfInBounds i true).getD j false = (listed.getD j false || j == i) := fun j => by
    by_cases hj : j = i
    · subst hj
      have hl : j < listed.size := by rw [inv.size]; exact hil
      simp [Array.getD_eq_getD_getElem?, Array.getElem?_setIfInBounds_self, hl]
    · simp [Array.getD_eq_getD_getElem?, Array.getElem?_setIfInBounds_ne (Ne.symm hj), hj]
  have hri : ∃ r, Rs[i]? = some r := ⟨Rs[i]'(by omega), List.getElem?_eq_getElem _⟩
  obtain ⟨r, hr⟩ := hri
  have hcl : Closed ops fun j => (listed.setIfInBounds i true).getD j false := fun k ok hk hS e he hb => by
    show (listed.setIfInBounds i true).getD e.on false = true
    replace hS : (listed.setIfInBounds i true).getD k false = true := hS
    rw [hset] at hS ⊢
    simp only [Bool.or_eq_true, beq_iff_eq] at hS ⊢
    rcases hS with hS | rfl
    · exact .inl (inv.closed k ok hk hS e he hb)
    · obtain rfl : o = ok := by rw [ho] at hk; simpa using hk
      exact .inl (haft e he hb)
  -- the value, the new relation, what stays
  have fin : ∀ vs', (∀ j, j ≠ i → vv Rs vs' j = vv Rs vs j) → vv Rs vs' i = v → holds w0 Rs vs' i w' → (∀ j, j ≠ i → listed.getD j false = true → (j, i) ∉ K.1 → (∀ k, (j, k) ∈ K.1 → listed.getD k false = false) → holds w0 Rs vs j w') → ((∃ x, w' = ov w0 x) ∧ E w') → RelInvE E K ops Rs w0 a0 (listed.setIfInBounds i true) (a.put o.dst v) w' := by
    intro vs' hne hvi hhi hrest hov
    refine ⟨by simp [inv.size], hcl, hov, vs', ?_, fun j hj hkj => ?_⟩
    · rw [hd]
      refine (ActAt.put R hact (V' := vv Rs vs') (fun j hj => hne j fun e => by subst e; rw [hunf] at hj; cases hj) hunf hvi).congrS (fun j _ => (hset j).symm) fun _ _ => rfl
    · rw [hset] at hj
      by_cases hji : j = i
      · subst hji; exact hhi
      · have hjl : listed.getD j false = true := by simpa [hji] using hj
        have hki : (j, i) ∉ K.1 := fun h => by have := hkj i h; rw [hset] at this; simp at this
        have hkl : ∀ k, (j, k) ∈ K.1 → listed.getD k false = false := fun k hk => by have := hkj k hk; rw [hset] at this; rw [Bool.or_eq_false_iff] at this; exact this.1
        refine holds_congr (fun k hk => ?_) (hrest j hji hjl hki hkl)
        rw [hJ] at hk
        have hjs : j < ops.size := by
          rw [← inv.size]
          rcases Nat.lt_or_ge j listed.size with h | h
          · exact h
          · rw [show listed.getD j false = false by simp [Array.getD_eq_getD_getElem?, Array.getElem?_eq_none h]] at hjl; cases hjl
        refine (hne k fun e => ?_).symm
        subst e
        rcases R.js j hjs k hk with h | h
        · exact hji h.symm
        · have := hout j hjs h
          rw [hjl] at this; cases this
  unfold relPostE at hpost
  rw [hr] at hpost
  obtain ⟨⟨x0, rfl⟩, hE0⟩ := inv.over
  cases r with
  | pur n c =>
    obtain ⟨rfl, x, rfl⟩ := hpost
    exact fin vs (fun _ _ => rfl) (by unfold vv; rw [hr]) (by unfold holds; rw [hr]; trivial) (fun j _ hj _ hkl => holds_ov hst (hh j hj hkl)) ⟨⟨_, ov_ov _ _ _⟩, hE _ _ hE0⟩
  | rel n js b F =>
    have hvi : vv Rs (updV vs i v) i = v := by unfold vv updV; rw [hr, if_pos rfl]
    cases b with
    | false =>
      obtain ⟨⟨x, rfl⟩, hF⟩ := hpost
      exact fin (updV vs i v) (fun j hj => vv_upd hj) hvi (by unfold holds; rw [hr]; exact hF) (fun j _ hj _ hkl => holds_ov hst (hh j hj hkl)) ⟨⟨_, ov_ov _ _ _⟩, hE _ _ hE0⟩
    | true =>
      obtain ⟨hov, hk, hF⟩ := hpost
      exact fin (updV vs i v) (fun j hj => vv_upd hj) hvi (by unfold holds; rw [hr]; exact hF) (fun j hj hl hki hkl => hk j hj hki (fun hlt => by
        obtain ⟨h1, h2⟩ := hL j i hlt
        have ho2 : ops[j]? = some ops[j] := Array.getElem?_eq_getElem h1
        have := clo_in R inv.closed j _ ho2 (inv.closed j _ ho2 hl) i h2
        rw [hunf] at this; cases this) (hh j hl hkl)) hov

theorem wpRelE_at (R : RelOk ops D JS) {Q : Exit → Act → World → Prop} {vs : Nat → Value} : ∀ (l : List Oper) (k : Nat) (a : Act), (∀ j, l[j]? = ops[k + j]?) → ActAt ops a0 (vv Rs vs) (fun j => decide (j < k)) a → wpRelE E K P ops Q w0 Rs vs k l a →
    (∀ i o, k ≤ i → ops[i]? = some o → ∃ ai, ActAt ops a0 (vv Rs vs) (fun j => decide (j < i)) ai ∧ ∀ w', ((∃ x, w' = ov w0 x) ∧ E w') → (∀ j ∈ needOf Rs i, holds w0 Rs vs j w') → wpList P ops (relEndE E K Rs vs w0 i o.dst ai w') [o] ai w') ∧
    ∃ an, ActAt ops a0 (vv Rs vs) (fun j => decide (j < ops.size)) an ∧ ∀ w', ((∃ x, w' = ov w0 x) ∧ E w') → (∀ j, (∀ k, (j, k) ∉ K.1) → holds w0 Rs vs j w') → Q .normal an w'
  | [], k, a, hl, ha, h => by
    have hk : ops.size ≤ k := by
      have := hl 0
      simp at this
      exact this
    refine ⟨fun i o hi ho => ?_, a, ha.congrS (fun j hj => by simp; omega) (fun _ _ => rfl), h⟩
    have := (Array.getElem?_eq_some_iff.1 ho).1; omega
  | o :: l, k, a, hl, ha, h => by
    have h0 : ops[k]? = some o := by simpa using (hl 0).symm
    obtain ⟨h1, h2⟩ := h
    have hd : o.dst = dstAt ops k := by unfold dstAt; rw [h0]; rfl
    have ha' : ActAt ops a0 (vv Rs vs) (fun j => decide (j < k + 1)) (a.put o.dst (vv Rs vs k)) := by
      rw [hd]
      refine (ActAt.put R ha (V' := vv Rs vs) (fun _ _ => rfl) (by simp) rfl).congrS (fun j _ => ?_) (fun _ _ => rfl)
      rw [Bool.eq_iff_iff]; simp; omega
    obtain ⟨r1, r2⟩ := wpRelE_at R l (k + 1) _ (fun j => by have := hl (j + 1); simpa [Nat.add_assoc, Nat.add_comm 1 j] using this) ha' h2
    refine ⟨fun i o' hi ho => ?_, r2⟩
    by_cases e : i = k
    · subst e
      obtain rfl : o = o' := by rw [h0] at ho; simpa using ho
      exact ⟨a, ha, h1⟩
    · exact r1 i o' (by omega) ho

theorem rel_anyE (R : RelOk ops D JS) (hK : ∀ i j k, i < ops.size → j ∈ (JS.getD i ([], [])).1 → (j, k) ∈ K.1 → k = i ∨ (k < ops.size ∧ i ∈ D.getD k [])) (hL : ∀ j i, (j, i) ∈ K.2 → j < ops.size ∧ i ∈ D.getD j []) (hJ : Rs.map RD.deps = JS) (hlen : Rs.length = ops.size) (hst : ∀ r ∈ Rs, r.stable) (hE : ∀ w x, E w → E (ov w x)) {Q : Exit → Act → World → Prop}
    (hop : ∀ i o, ops[i]? = some o → ∀ vs, ∃ ai, ActAt ops a0 (vv Rs vs) (fun j => decide (j < i)) ai ∧ ∀ w', ((∃ x, w' = ov w0 x) ∧ E w') → (∀ j ∈ needOf Rs i, holds w0 Rs vs j w') → wpList P ops (relEndE E K Rs vs w0 i o.dst ai w') [o] ai w')
    (hend : ∀ vs, ∃ an, ActAt ops a0 (vv Rs vs) (fun j => decide (j < ops.size)) an ∧ ∀ w', ((∃ x, w' = ov w0 x) ∧ E w') → (∀ j, (∀ k, (j, k) ∉ K.1) → holds w0 Rs vs j w') → Q .normal an w') :
    ∀ (fuel : Nat) (listed : Array Bool) (a : Act) (w : World), listed.toList.count false = fuel → RelInvE E K ops Rs w0 a0 listed a w → wpAny P .any ops Q fuel listed a w := by
  have done : ∀ (listed : Array Bool) (a : Act) (w : World), RelInvE E K ops Rs w0 a0 listed a w → Region.ready .any ops listed = [] → Q .normal a w := by
    intro listed a w inv hr
    have hall : ∀ k, k < ops.size → listed.getD k false = true := fun k hk => by
      cases hb : listed.getD k true with
      | false => obtain ⟨i, hi⟩ := some_ready R inv.size hb; rw [hr] at hi; cases hi
      | true =>
        have hl : k < listed.size := by rw [inv.size]; exact hk
        simp [Array.getD, hl] at hb ⊢; exact hb
    obtain ⟨vs, hact, hh⟩ := inv.vals
    obtain ⟨an, han, hQ⟩ := hend vs
    have e : a = an := ActAt.unique (hact.congrS (S' := fun j => decide (j < ops.size)) (fun j hj => by rw [hall j hj]; simp [hj]) fun _ _ => rfl) han
    subst e
    refine hQ w inv.over fun j hkb => ?_
    by_cases hj : j < ops.size
    · exact hh j (hall j hj) fun k hk => absurd hk (hkb k)
    · unfold holds; rw [List.getElem?_eq_none (by omega)]; trivial
  intro fuel
  induction fuel with
  | zero =>
    intro listed a w hc inv
    have hr : Region.ready .any ops listed = [] := by
      cases hrr : Region.ready .any ops listed with
      | nil => rfl
      | cons i r =>
        have hi : i ∈ Region.ready .any ops listed := by rw [hrr]; simp
        obtain ⟨hun, _⟩ := mem_ready.1 hi
        have hl : i < listed.size := by
          rcases Nat.lt_or_ge i listed.size with h | h
          · exact h
          · rw [show listed.getD i true = true by simp [Array.getD_eq_getD_getElem?, Array.getElem?_eq_none h]] at hun; cases hun
        have hm : false ∈ listed.toList := by
          simp [Array.getD, hl] at hun
          rw [← hun]; simp
        have := List.count_pos_iff.2 hm
        omega
    exact ⟨hr, done listed a w inv hr⟩
  | succ fuel ih =>
    intro listed a w hc inv
    refine ⟨fun hr => done listed a w inv hr, fun i hi => ?_⟩
    obtain ⟨hun, o, ho, _⟩ := mem_ready.1 hi
    have hl : i < listed.size := by rw [inv.size]; exact (Array.getElem?_eq_some_iff.1 ho).1
    refine wpOp_mono (fun a' w' inv' => ih _ a' w' ?_ inv') (rel_stepE R hK hL hJ hlen hst hE ho inv hi (hop i o ho))
    have hl' : i < listed.toList.length := by simpa using hl
    have hv : listed.toList[i] = false := by simp [Array.getD, hl] at hun; simpa using hun
    have hcs := List.count_set (a := true) (b := false) hl'
    rw [hv] at hcs
    rw [Array.toList_setIfInBounds, hcs, hc]
    simp
end
/-- A region that draws its order: a relation an operation. -/
def killB (n : Nat) (D : List (List Nat)) (JS : List (List Nat × List Nat)) (K : List (Nat × Nat)) : Bool := K.all fun p => decide (p.2 < n) && (List.range n).all fun i => !((JS.getD i ([], [])).1.contains p.1) || p.2 == i || (D.getD p.2 []).contains i
theorem killB_ok {n : Nat} {D : List (List Nat)} {JS : List (List Nat × List Nat)} {K : List (Nat × Nat)} (h : killB n D JS K = true) : ∀ i j k, i < n → j ∈ (JS.getD i ([], [])).1 → (j, k) ∈ K → k = i ∨ (k < n ∧ i ∈ D.getD k []) := by
  intro i j k hi hj hk
  have h1 := List.all_eq_true.1 h _ hk
  rw [Bool.and_eq_true, decide_eq_true_eq] at h1
  have h2 := List.all_eq_true.1 h1.2 i (List.mem_range.2 hi)
  simp only [Bool.or_eq_true, Bool.not_eq_true', beq_iff_eq, List.contains_iff_mem] at h2
  rcases h2 with (h2 | h2) | h2
  · have := List.contains_iff_mem.2 hj; rw [h2] at this; cases this
  · exact .inl h2
  · exact .inr ⟨h1.1, h2⟩
def laterB (n : Nat) (D : List (List Nat)) (K : List (Nat × Nat)) : Bool := K.all fun p => decide (p.1 < n) && (D.getD p.1 []).contains p.2
theorem laterB_ok {n : Nat} {D : List (List Nat)} {K : List (Nat × Nat)} (h : laterB n D K = true) : ∀ j i, (j, i) ∈ K → j < n ∧ i ∈ D.getD j [] := by
  intro j i hk
  have h1 := List.all_eq_true.1 h _ hk
  rw [Bool.and_eq_true, decide_eq_true_eq] at h1
  exact ⟨h1.1, List.contains_iff_mem.1 h1.2⟩
theorem wp_region_relE (E : World → Prop) (K : List (Nat × Nat) × List (Nat × Nat)) {P : Program} {id : Nat} {Q : Exit → Act → World → Prop} {a : Act} {w w1 : World} {l : List Oper} (Rs : List RD) (JS : List (List Nat × List Nat)) (hJ : Rs.map RD.deps = JS) (hlen : Rs.length = l.length) (hm : P.follows .mixedOrders = true)
    (hB : relB l.toArray (clo l.toArray l.toArray.size) JS = true) (hKB : killB l.toArray.size (clo l.toArray l.toArray.size) JS K.1 = true) (hLB : laterB l.toArray.size (clo l.toArray l.toArray.size) K.2 = true) (hst : ∀ r ∈ Rs, r.stable) (hE : ∀ w x, E w → E (ov w x)) (hw : ∃ x, w1 = ov w x) (hE1 : E w1) (h : ∀ vs, wpRelE E K P l.toArray Q w Rs vs 0 l a) : (Code.region id l.toArray true).wp P Q a w1 := by
  have R := relB_ok hB
  have over1 : (∃ x, ({ w1 with drawn := w1.drawn + 1 } : World) = ov w x) ∧ E { w1 with drawn := w1.drawn + 1 } := by
    obtain ⟨x, rfl⟩ := hw
    refine ⟨⟨⟨x.objs, x.count + 1⟩, rfl⟩, ?_⟩
    have := hE _ (⟨#[], x.count + 1⟩ : More) hE1
    rwa [show ov (ov w x) (⟨#[], x.count + 1⟩ : More) = { ov w x with drawn := (ov w x).drawn + 1 } by simp [ov]] at this
  refine wp_region_any hm ?_
  have st : ∀ (V : Nat → Value) (S : Nat → Bool), (∀ j, S j = false) → ActAt l.toArray a V S a := fun V S hS => (ActAt.start (V := V)).congrS (V' := V) (fun j _ => (hS j).symm) fun _ _ => rfl
  have hat := fun vs => wpRelE_at (E := E) (K := K) (w0 := w) (Rs := Rs) (a0 := a) R l 0 a (fun j => by simp) (st _ _ (fun j => by simp)) (h vs)
  refine rel_anyE (E := E) (K := K) R (killB_ok hKB) (laterB_ok hLB) hJ (by simpa using hlen) hst hE (fun i o ho vs => (hat vs).1 i o (Nat.zero_le _) ho) (fun vs => (hat vs).2) _ _ _ _ (by simp) ⟨by simp, fun i o _ hS => ?_, over1, fun _ => undef, ?_, fun j hj _ => ?_⟩
  · exact absurd hS (by show ¬ (Array.replicate l.toArray.size false).getD i false = true; rw [getD_rep_false]; simp)
  · exact st _ _ fun j => getD_rep_false _ _
  · rw [getD_rep_false] at hj; cases hj


section
variable {E : World → Prop} {K : List (Nat × Nat) × List (Nat × Nat)} {P : Program} {ops : Array Oper} {Q : Exit → Act → World → Prop} {w0 w w' : World} {Rs : List RD} {vs : Nat → Value} {i : Nat} {a a' : Act} {o : Oper} {r : List Oper} {dst : Option Tmp}
theorem wpRelE_cons (h1 : ∀ w', ((∃ x, w' = ov w0 x) ∧ E w') → (∀ j ∈ needOf Rs i, holds w0 Rs vs j w') → wpList P ops (relEndE E K Rs vs w0 i o.dst a w') [o] a w') (h2 : wpRelE E K P ops Q w0 Rs vs (i + 1) r (a.put o.dst (vv Rs vs i))) : wpRelE E K P ops Q w0 Rs vs i (o :: r) a := ⟨h1, h2⟩
/-- An operation with one value. -/
theorem wpRelE_pur {n : List Nat} {c : Value} {dst : Option Tmp} (hr : Rs[i]? = some (.pur n c)) (hd : o.dst = dst) (h1 : ∀ x, (∀ j ∈ n, holds w0 Rs vs j (ov w0 x)) → wpList P ops (relEndE E K Rs vs w0 i dst a (ov w0 x)) [o] a (ov w0 x)) (h2 : wpRelE E K P ops Q w0 Rs vs (i + 1) r (a.put dst c)) : wpRelE E K P ops Q w0 Rs vs i (o :: r) a := by
  subst hd
  have hv : vv Rs vs i = c := by unfold vv; rw [hr]
  subst hv
  refine ⟨fun w' ⟨⟨x, hx⟩, _⟩ hh => ?_, h2⟩
  subst hx
  rw [needOf_at hr rfl] at hh
  exact h1 x hh
/-- An operation that leaves a value of its own making. -/
theorem wpRelE_own {n : List Nat} {k : Nat} {dst : Option Tmp} {G : World → Value → World → Prop} (hr : Rs[i]? = some (.rel n [k] false (IsOw G))) (hki : k = i) (hd : o.dst = dst) (h1 : ∀ x, (∀ j ∈ n, holds w0 Rs vs j (ov w0 x)) → wpList P ops (relEndE E K Rs vs w0 i dst a (ov w0 x)) [o] a (ov w0 x)) (h2 : wpRelE E K P ops Q w0 Rs vs (i + 1) r (a.put dst (vs k))) : wpRelE E K P ops Q w0 Rs vs i (o :: r) a := by
  subst hki hd
  refine wpRelE_cons (fun w' ⟨hw, _⟩ hh => ?_) ?_
  · obtain ⟨x, rfl⟩ := hw
    rw [needOf_at hr rfl] at hh
    exact h1 x hh
  · rw [vv_rel hr]; exact h2
theorem wpRelE_nil (h : ∀ w', Below w0.heap.size w0 w' → E w' → (∀ j, (∀ k, (j, k) ∉ K.1) → holds w0 Rs vs j w') → Q .normal a w') : wpRelE E K P ops Q w0 Rs vs i [] a :=
  fun w' ⟨⟨x, hx⟩, he⟩ hh => h w' (by subst hx; exact below_ov _ _ (Below.refl _ _) (Nat.le_refl _)) he hh
theorem relEndE_pur {n : List Nat} {c : Value} (hr : Rs[i]? = some (.pur n c)) (ha : a' = a.put dst c) (hb : Below w.heap.size w w') : relEndE E K Rs vs w0 i dst a w .normal a' w' :=
  ⟨c, ha, by unfold relPostE; rw [hr]; exact ⟨rfl, ov_of_below hb⟩⟩
theorem relEndE_own {k : Nat} {n : List Nat} {v : Value} {G : World → Value → World → Prop} (hr : Rs[i]? = some (.rel n [k] false (IsOw G))) (hki : k = i) (ha : a' = a.put dst v) (hb : Below w.heap.size w w') (hG : G w0 v w') : relEndE E K Rs vs w0 i dst a w .normal a' w' := by
  subst hki
  refine ⟨v, ha, ?_⟩
  unfold relPostE
  rw [hr]
  refine ⟨ov_of_below hb, v, ?_, hG⟩
  simp [vv, hr, updV]
/-- An old block of the region, that a store fills. -/
def IsOld (b : Nat) (T : TypeId) (n : Nat) (w : World) : Prop := ∃ cur : Array Value, cur.size = n ∧ w.heap[b]? = some (.cells cur T (0, 0))
theorem isOld_ov {b n : Nat} {T : TypeId} : ∀ (w : World) (x : More), IsOld b T n w → IsOld b T n (ov w x) := fun w x ⟨cur, h1, h2⟩ => ⟨cur, h1, ov_blk h2⟩
def IsStB (b : Nat) (T : TypeId) (w0 : World) (l : List Value) (w : World) : Prop := ∃ u, l = [u] ∧ w.heap[b]? = some (.cells u.cells T (0, 0))
theorem isStB_stable {nd js : List Nat} {wd : Bool} {T : TypeId} {b : Nat} : RD.stable (.rel nd js wd (IsStB b T)) := by
  rintro w0 l w x ⟨u, h1, h2⟩
  exact ⟨u, h1, ov_blk h2⟩
theorem wpRelE_old {T : TypeId} {j n b : Nat} {s : Tmp} {y : Operand} {u : Value} (hr : Rs[i]? = some (.rel [j] [j] true (IsStB b T)))
    (hop : o.op = .store T (.tmp s) y) (hg : o.guard = none) (hd : o.dst = none) (hji : j ≠ i) (es : a.eval (.tmp s) = .pointer (some ⟨b, 0, none⟩)) (hb : w0.heap.size ≤ b) (hu : vv Rs vs j = u) (et : a.eval y = u) (hn : (P.info? T).map (·.size) = some n)
    (hval : ∀ w, holds w0 Rs vs j w → u.cells.size = n ∧ ∀ x ∈ u.cells.toList, x.oneCell' = true) (hst : ∀ r ∈ Rs.eraseIdx i, r.steady T)
    (h2 : wpRelE (IsOld b T n) K P ops Q w0 Rs vs (i + 1) r a) : wpRelE (IsOld b T n) K P ops Q w0 Rs vs i (o :: r) a := by
  refine wpRelE_cons (fun w' ⟨hw, cur, hcs, hblk⟩ hh => ?_) (by rw [hd]; exact h2)
  obtain ⟨x, rfl⟩ := hw
  rw [needOf_at hr rfl] at hh
  have h3 := hval _ (hh j List.mem_cons_self)
  refine wpList_store_blk hg T T (.tmp s) y hop es hblk (by rw [hcs]; exact hn) (by rw [et, h3.1, hcs]) (by rw [et]; exact h3.2) ?_
  refine ⟨undef, rfl, ?_⟩
  unfold relPostE
  rw [hr]
  refine ⟨⟨setRow_ov hb _, ⟨_, by rw [et]; exact h3.1, setRow_heap _ _ _ _ _ _ hblk⟩⟩, fun m hm _ _ hmm => ?_, ?_⟩
  · unfold holds at hmm ⊢
    cases hq : Rs[m]? with
    | none => trivial
    | some rm =>
      rw [hq] at hmm
      have := hst rm (List.mem_eraseIdx_iff_getElem?.2 ⟨m, hm, hq⟩)
      cases rm with
      | pur _ _ => trivial
      | rel _ _ _ F => exact this _ _ _ b cur _ hblk (by rw [et, h3.1, hcs]) hmm
  · refine ⟨u, ?_, ?_⟩
    · simp only [List.map_cons, List.map_nil]
      rw [vv_upd hji, hu]
    · rw [et]; exact setRow_heap _ _ _ _ _ _ hblk
theorem isStB_own {T : TypeId} {m j b : Nat} {nj nm jj : List Nat} {wm wj : Bool} {F' : World → List Value → World → Prop} (h : holds w0 Rs vs m w) (hr : Rs[m]? = some (.rel nm [j] wm (IsStB b T))) (hj : Rs[j]? = some (.rel nj jj wj F')) :
    w.heap[b]? = some (.cells (vs j).cells T (0, 0)) := by
  unfold holds at h
  rw [hr] at h
  obtain ⟨u', e, h1⟩ := h
  simp only [List.map_cons, List.map_nil, vv_rel hj, List.cons.injEq, and_true] at e
  subst e
  exact h1
end
end Go.Proofs.YtabmfaamadbefaaGreat