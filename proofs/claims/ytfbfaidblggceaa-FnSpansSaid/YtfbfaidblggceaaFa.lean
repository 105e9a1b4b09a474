/- A region that draws its order, with an allocation that waits for nothing beside operations each of which has one value: one walk serves every order. No condition. -/
import Derived.Test.YtfbfaidblggceaaTail
set_option linter.unusedVariables false
set_option linter.unusedSimpArgs false
namespace Go.Proofs.Ytfbfaidblggceaa
open Go.RowKit

section
variable {P : Program} {ops : Array Oper} {md : Region.Mode} {w0 : World}

/-- The worlds that lie over w0 with x0 on it. -/
def Ovx (w0 : World) (x0 : More) (w : World) : Prop := ∃ y, w = ov (ov w0 x0) y

def qF (P : Program) (ops : Array Oper) (w0 : World) (i : Nat) (K : Act → Prop) (a : Act) : Prop :=
  match ops[i]? with
  | none => K a
  | some o => if Region.wanted o (yielded ops a.tmps) then ∃ v, (∀ x0 w, Ovx w0 x0 w → o.quietAt P a (Ovx w0 x0) w v) ∧ K (a.put o.dst v) else K (a.put o.dst undef)

def YF (P : Program) (ops : Array Oper) (w0 : World) (o : Oper) (v : Value) (a : Act) : Prop :=
  (Region.wanted o (yielded ops a.tmps) = true ∧ ∀ x0 w, Ovx w0 x0 w → o.quietAt P a (Ovx w0 x0) w v) ∨ (Region.wanted o (yielded ops a.tmps) = false ∧ v = undef)

/-- The operation n is the allocation: any value may come. -/
def qX (P : Program) (ops : Array Oper) (w0 : World) (n s : Nat) (i : Nat) (K : Act → Prop) (a : Act) : Prop :=
  if i = n then ∀ p, K (a.put (some s) p) else qF P ops w0 i K a

theorem qX_mono {n s i : Nat} {a : Act} {K K' : Act → Prop} (h : ∀ a, K a → K' a) (hh : qX P ops w0 n s i K a) : qX P ops w0 n s i K' a := by
  unfold qX at *
  by_cases hi : i = n
  · rw [if_pos hi] at *; exact fun p => h _ (hh p)
  · rw [if_neg hi] at *
    unfold qF at *
    cases ho : ops[i]? with
    | none => rw [ho] at hh; exact h _ hh
    | some o =>
      rw [ho] at hh
      simp only at hh ⊢
      by_cases hw : Region.wanted o (yielded ops a.tmps) = true
      · rw [if_pos hw] at hh ⊢; obtain ⟨v, h1, h2⟩ := hh; exact ⟨v, h1, h _ h2⟩
      · rw [if_neg hw] at hh ⊢; exact h _ hh

theorem YF.qX {n s i : Nat} {o : Oper} {v : Value} {a : Act} (hi : ops[i]? = some o) (hin : i ≠ n) (hy : YF P ops w0 o v a) {K : Act → Prop} (h : K (a.put o.dst v)) : qX P ops w0 n s i K a := by
  unfold Proofs.Ytfbfaidblggceaa.qX qF
  rw [if_neg hin, hi]
  simp only
  rcases hy with ⟨hw, hv⟩ | ⟨hw, rfl⟩
  · rw [if_pos hw]; exact ⟨v, hv, h⟩
  · rw [if_neg (by rw [hw]; simp)]; exact h

theorem YF.of_same {o : Oper} {v : Value} {a a' : Act} (hy : YF P ops w0 o v a) (he : execOp a'.eval o = execOp a.eval o)
    (hw : Region.wanted o (yielded ops a'.tmps) = Region.wanted o (yielded ops a.tmps)) : YF P ops w0 o v a' := by
  unfold YF Oper.quietAt at *
  rw [he, hw]
  exact hy

theorem qX_put {n s j : Nat} {oi oj : Oper} {v : Value} (hj : ops[j]? = some oj) (hap : oi.apart ops oj = true) (hs : j = n → oj.dst = some s)
    (hsi : ∀ cs b, oi.op ≠ .select cs b) (hsj : ∀ cs b, oj.op ≠ .select cs b) {K : Act → Prop} {a : Act}
    (hy : YF P ops w0 oi v a) (h : qX P ops w0 n s j K (a.put oi.dst v)) :
    qX P ops w0 n s j (fun a' => YF P ops w0 oi v a' ∧ K (a'.put oi.dst v)) a := by
  obtain ⟨h1, h2, h3⟩ := Oper.apart_spec hap
  have keep : ∀ u, YF P ops w0 oi v (a.put oj.dst u) := fun u => hy.of_same (execOp_put oi hsi a oj.dst u h3) (wanted_put oi a oj.dst u h3)
  unfold qX at *
  by_cases hn : j = n
  · rw [if_pos hn] at *
    intro p
    rw [← hs hn]
    refine ⟨keep p, ?_⟩
    have := h p
    rw [← hs hn] at this
    rw [← Act.put_comm a v p h2]; exact this
  · rw [if_neg hn] at *
    unfold qF at *
    rw [hj] at *
    simp only at *
    rw [wanted_put oj a oi.dst v h1] at h
    by_cases hw : Region.wanted oj (yielded ops a.tmps) = true
    · rw [if_pos hw] at *
      obtain ⟨u, hu, hk⟩ := h
      refine ⟨u, fun x0 w hw' => ?_, keep u, by rw [← Act.put_comm a v u h2]; exact hk⟩
      have := hu x0 w hw'
      unfold Oper.quietAt at *
      rw [execOp_put oj hsj a oi.dst v h1] at this
      exact this
    · rw [if_neg hw] at *
      exact ⟨keep undef, by rw [← Act.put_comm a v undef h2]; exact h⟩

def wpX (P : Program) (md : Region.Mode) (ops : Array Oper) (w0 : World) (n s : Nat) (L : Array Bool → Act → Prop) : Nat → Array Bool → Act → Prop
  | 0, listed, a => L listed a
  | f + 1, listed, a => Region.ready md ops listed ≠ [] ∧ ∀ i ∈ Region.ready md ops listed, i < n + 1 ∧ qX P ops w0 n s i (wpX P md ops w0 n s L f (listed.setIfInBounds i true)) a

theorem wpX_first {n s i : Nat} {oi : Oper} {v : Value} {L : Array Bool → Act → Prop} (hi : ops[i]? = some oi) (hsel : ∀ (j : Nat) (o : Oper) cs b, ops[j]? = some o → o.op ≠ .select cs b)
    (hal : ∀ o, ops[n]? = some o → o.dst = some s)
    (hs : Region.sinkB md ops (n + 1) = true) (hc : Region.chainB md ops (n + 1) = true) (hn : n + 1 < ops.size) (hin : i < n)
    (hdone : ∀ listed a, L listed a → ∀ j ∈ Region.ready md ops listed, n + 1 ≤ j) :
    ∀ (f : Nat) (listed : Array Bool) (a : Act), HeadInv md ops (n + 1) listed →
      (∀ j oj, ops[j]? = some oj → j ≠ i → listed.getD j true = false → (∀ e ∈ oj.after, Region.binds md e = true → e.on ≠ i) → oi.apart ops oj = true) →
      i ∈ Region.ready md ops listed → YF P ops w0 oi v a →
      wpX P md ops w0 n s L f (listed.setIfInBounds i true) (a.put oi.dst v) → wpX P md ops w0 n s L (f + 1) listed a := by
  have head : ∀ listed, HeadInv md ops (n + 1) listed → i ∈ Region.ready md ops listed → ∀ j ∈ Region.ready md ops listed, j < n + 1 := fun listed inv hr j hj => by
    rcases Nat.lt_or_ge j (n + 1) with h | h
    · exact h
    · exact absurd hj (tail_waits hs hc hn inv _ i rfl (by omega) (mem_ready.1 hr).1 j h)
  intro f
  induction f with
  | zero =>
    intro listed a inv _ hr hy H
    refine ⟨fun h => (by rw [h] at hr; cases hr), fun j hj => ?_⟩
    have hjn := head listed inv hr j hj
    refine ⟨hjn, ?_⟩
    by_cases hji : j = i
    · subst hji; exact hy.qX hi (by omega) H
    · have := hdone _ _ H j (ready_mono hj hji)
      omega
  | succ f ih =>
    intro listed a inv hfree hr hy H
    have hun := (mem_ready.1 hr).1
    refine ⟨fun h => (by rw [h] at hr; cases hr), fun j hj => ?_⟩
    have hjn := head listed inv hr j hj
    refine ⟨hjn, ?_⟩
    by_cases hji : j = i
    · subst hji; exact hy.qX hi (by omega) H
    · have h1 := (H.2 j (ready_mono hj hji)).2
      obtain ⟨hjun, oj, hoj, hall⟩ := mem_ready.1 hj
      have hnot : ∀ e ∈ oj.after, Region.binds md e = true → e.on ≠ i := fun e he hb heq => by
        have h1 := hall e he hb
        rw [heq, getD_both hun] at h1
        cases h1
      have h2 := qX_put (n := n) (s := s) hoj (hfree j oj hoj hji hjun hnot) (fun e => hal oj (by rw [← e]; exact hoj)) (fun cs b => hsel i oi cs b hi) (fun cs b => hsel j oj cs b hoj) hy h1
      have hfree' : ∀ k ok, ops[k]? = some ok → k ≠ i → (listed.setIfInBounds j true).getD k true = false →
          (∀ e ∈ ok.after, Region.binds md e = true → e.on ≠ i) → oi.apart ops ok = true := fun k ok hk hki hun hno => by
        refine hfree k ok hk hki ?_ hno
        by_cases hjk : j = k
        · subst hjk; exact hjun
        · rw [getD_set_ne true hjk] at hun; exact hun
      refine qX_mono (fun a' h3 => ih (listed.setIfInBounds j true) a' (inv.set hj hjn) hfree' (ready_mono hr (Ne.symm hji)) h3.1 ?_) h2
      rw [Array.setIfInBounds_comm _ _ hji]
      exact h3.2
def wpQF (P : Program) (ops : Array Oper) (w0 : World) (Q : Act → Prop) : List Oper → Act → Prop
  | [], a => Q a
  | o :: rest, a => if Region.wanted o (yielded ops a.tmps) then ∃ v, (∀ x0 w, Ovx w0 x0 w → o.quietAt P a (Ovx w0 x0) w v) ∧ wpQF P ops w0 Q rest (a.put o.dst v) else wpQF P ops w0 Q rest (a.put o.dst undef)

theorem wpX_lex {n g s : Nat} {Lq : Act → Prop} (hsel : Region.noSelect ops = true) (hal : ∀ o, ops[n]? = some o → o.dst = some s)
    (hs : Region.sinkB md ops (n + 1) = true) (hc : Region.chainB md ops (n + 1) = true) (hn : n + 1 < ops.size) :
    ∀ (l : List Oper) (k : Nat) (listed : Array Bool) (a : Act), (∀ j, j < l.length → l[j]? = ops[k + j]?) → k + l.length = n → HeadInv md ops (n + 1) listed → (∀ j, j < k → listed.getD j true = true) →
    Region.lexHead md ops g (l.length + 1) k listed = true → wpQF P ops w0 (fun a => ∀ p, Lq (a.put (some s) p)) l a →
    wpX P md ops w0 n s (fun listed' a' => (Region.seqB md ops g (n + 1) listed' = true ∧ listed'.getD n false = true) ∧ Lq a') (l.length + 1) listed a
  | [], k, listed, a, _, hk, inv, hall, hB, h => by
    have : k = n := by simpa using hk
    subst this
    simp only [List.length_nil, Nat.zero_add, Region.lexHead, Bool.and_eq_true] at hB
    obtain ⟨⟨hr, hf⟩, hB'⟩ := hB
    have hr' : k ∈ Region.ready md ops listed := by simpa using hr
    refine ⟨fun h0 => (by rw [h0] at hr'; cases hr'), fun i hi => ?_⟩
    have hlt : i < k + 1 := by
      rcases Nat.lt_or_ge i (k + 1) with h' | h'
      · exact h'
      · exact absurd hi (tail_waits hs hc hn inv _ k rfl (by omega) (mem_ready.1 hr').1 i h')
    have hik : i = k := by
      rcases Nat.lt_or_ge i k with h' | h'
      · have h1 := hall i h'
        have h2 := (mem_ready.1 hi).1
        rw [h1] at h2; cases h2
      · omega
    subst hik
    refine ⟨hlt, ?_⟩
    unfold qX
    rw [if_pos rfl]
    intro p
    refine ⟨⟨hB', ?_⟩, h p⟩
    have := inv.size
    simp [Array.getD_eq_getD_getElem?, this, show i < ops.size by omega]
  | o :: l, k, listed, a, hl, hk, inv, hall, hB, h => by
    have h0 : ops[k]? = some o := by simpa using (hl 0 (by simp)).symm
    rw [List.length_cons, Region.lexHead] at hB
    simp only [Bool.and_eq_true] at hB
    obtain ⟨⟨hr, hf⟩, hB'⟩ := hB
    have hkn : k < n := by simp only [List.length_cons] at hk; omega
    have hr' : k ∈ Region.ready md ops listed := by simpa using hr
    obtain ⟨v, hy, hK⟩ : ∃ v, YF P ops w0 o v a ∧ wpQF P ops w0 (fun a => ∀ p, Lq (a.put (some s) p)) l (a.put o.dst v) := by
      unfold wpQF at h
      by_cases hw : Region.wanted o (yielded ops a.tmps) = true
      · rw [if_pos hw] at h; obtain ⟨v, h1, h2⟩ := h; exact ⟨v, .inl ⟨hw, h1⟩, h2⟩
      · rw [if_neg hw] at h; exact ⟨undef, .inr ⟨by simpa using hw, rfl⟩, h⟩
    have hall' : ∀ j, j < k + 1 → (listed.setIfInBounds k true).getD j true = true := fun j hj => by
      by_cases hjk : k = j
      · subst hjk
        have := inv.size
        simp [Array.getD_eq_getD_getElem?, this, show k < ops.size by omega]
      · rw [getD_set_ne true hjk]; exact hall j (by omega)
    exact wpX_first h0 (Region.noSelect_spec hsel) hal hs hc hn hkn (fun listed' a' hL => seqB_ready hL.1.1) (l.length + 1) listed a inv (Region.free_spec h0 hf) hr' hy
      (wpX_lex hsel hal hs hc hn l (k + 1) _ _ (fun j hj => by have := hl (j + 1) (by simp; omega); simpa [Nat.add_assoc, Nat.add_comm 1 j] using this) (by simp only [List.length_cons] at hk; omega) (inv.set hr' (by omega)) hall' hB' hK)

/-- What holds on the way: the worlds lie over w0, and the new block is whole. -/
def InvX (w0 : World) (obj : Obj) (n s : Nat) (listed : Array Bool) (a : Act) (w : World) : Prop :=
  s < a.tmps.size ∧ (∃ x, w = ov w0 x) ∧ (listed.getD n false = true → ∃ b, a.tmps.getD s undef = .pointer (some ⟨b, 0, none⟩) ∧ w0.heap.size ≤ b ∧ w.heap[b]? = some obj)

theorem put_size (a : Act) (d : Option Tmp) (v : Value) : (a.put d v).tmps.size = a.tmps.size := by cases d <;> simp [Act.put]
theorem put_getD_ne (a : Act) {d : Option Tmp} {s : Nat} (v : Value) (h : d ≠ some s) : (a.put d v).tmps.getD s undef = a.tmps.getD s undef := by
  cases d with
  | none => rfl
  | some t =>
    have : t ≠ s := fun e => h (by rw [e])
    simp [Act.put, Array.getD_eq_getD_getElem?, Array.getElem?_setIfInBounds, this]
theorem put_getD_eq (a : Act) {s : Nat} (v : Value) (h : s < a.tmps.size) : (a.put (some s) v).tmps.getD s undef = v := by
  simp [Act.put, Array.getD_eq_getD_getElem?, h]

theorem wpAny_of_X {n s g : Nat} {obj : Obj} {on : Oper} {L : Array Bool → Act → Prop} {Q' : Exit → Act → World → Prop} (hon : ops[n]? = some on) (hdn : on.dst = some s) (hwn : ∀ t, Region.wanted on t = true)
    (hA : ∀ (a : Act) (w : World), (execOp a.eval on).run P w = .ok (.value (.pointer (some ⟨w.heap.size, 0, none⟩))) (w.alloc obj))
    (hds : ∀ j o, j < n → ops[j]? = some o → o.dst ≠ some s)
    (hL : ∀ listed a w, InvX w0 obj n s listed a w → L listed a → wpAny P md ops Q' g listed a w) :
    ∀ (f : Nat) (listed : Array Bool) (a : Act) (w : World), listed.size = ops.size → InvX w0 obj n s listed a w → wpX P md ops w0 n s L f listed a → wpAny P md ops Q' (f + g) listed a w
  | 0, listed, a, w, _, hI, h => by rw [Nat.zero_add]; exact hL _ _ _ hI h
  | f + 1, listed, a, w, hsz, hI, h => by
    rw [show f + 1 + g = (f + g) + 1 by omega]
    have hn : n < ops.size := (Array.getElem?_eq_some_iff.1 hon).1
    refine ⟨fun h0 => absurd h0 h.1, fun i hi => ?_⟩
    obtain ⟨hin, hq⟩ := h.2 i hi
    obtain ⟨hsa, ⟨x, rfl⟩, hb⟩ := hI
    unfold qX at hq
    by_cases hni : i = n
    · subst hni
      rw [if_pos rfl] at hq
      unfold wpOp
      rw [hon]
      simp only [hwn, if_true]
      refine .inl ?_
      unfold Oper.wp
      rw [hA, Oper.upon_value, hdn]
      refine wpAny_of_X hon hdn hwn hA hds hL f _ _ _ (by simp [hsz]) ⟨by rw [put_size]; exact hsa, ⟨⟨x.objs.push obj, x.count⟩, by simp [ov, World.alloc]⟩, fun _ => ⟨(ov w0 x).heap.size, put_getD_eq _ _ hsa, by rw [ov_size]; omega, ?_⟩⟩ (hq _)
      show ((ov w0 x).heap.push obj)[(ov w0 x).heap.size]? = some obj
      simp
    · rw [if_neg hni] at hq
      have hgn : ∀ l : Array Bool, (l.setIfInBounds i true).getD n false = l.getD n false := fun l => getD_set_ne false hni
      unfold qF at hq
      unfold wpOp
      cases ho : ops[i]? with
      | none =>
        rw [ho] at hq
        simp only at hq ⊢
        exact wpAny_of_X hon hdn hwn hA hds hL f _ _ _ (by simp [hsz]) ⟨hsa, ⟨x, rfl⟩, fun k => hb (by rw [hgn] at k; exact k)⟩ hq
      | some o =>
        have hdo := hds i o (by omega) ho
        rw [ho] at hq
        simp only at hq ⊢
        by_cases hw : Region.wanted o (yielded ops a.tmps) = true
        · rw [if_pos hw] at hq ⊢
          obtain ⟨v, hv, hk⟩ := hq
          refine .inl (Oper.wp_of_quiet (C := Ovx w0 x) (K := fun a' => a' = a.put o.dst v) ⟨⟨#[], x.count⟩, by simp [ov]⟩ ?_ ⟨v, hv x, rfl⟩)
          rintro a' w' ⟨y, rfl⟩ rfl
          refine wpAny_of_X hon hdn hwn hA hds hL f _ _ _ (by simp [hsz]) ⟨by rw [put_size]; exact hsa, ⟨⟨x.objs ++ y.objs, y.count⟩, by simp [ov, Array.append_assoc]⟩, fun k => ?_⟩ hk
          obtain ⟨b, e1, e2, e3⟩ := hb (by rw [hgn] at k; exact k)
          exact ⟨b, by rw [put_getD_ne _ _ hdo]; exact e1, e2, by rw [ov_block _ _ (Array.getElem?_eq_some_iff.1 e3).1]; exact e3⟩
        · rw [if_neg hw] at hq ⊢
          exact wpAny_of_X hon hdn hwn hA hds hL f _ _ _ (by simp [hsz]) ⟨by rw [put_size]; exact hsa, ⟨x, rfl⟩, fun k => by
            obtain ⟨b, e1, e2, e3⟩ := hb (by rw [hgn] at k; exact k)
            exact ⟨b, by rw [put_getD_ne _ _ hdo]; exact e1, e2, e3⟩⟩ hq
/-- Each operation of the head writes a slot of its own, and none writes s. -/
def dstsOk (s m : Nat) : List Oper → Bool
  | [] => true
  | o :: r => (match o.dst with
    | none => false
    | some d => decide (d < m) && decide (d ≠ s) && r.all (fun o' => decide (o'.dst ≠ some d))) && dstsOk s m r

theorem quiet_keeps {C : World → Prop} {A : Act} {d : Nat} : ∀ (l : List Oper) (a : Act), (∀ o ∈ l, o.dst ≠ some d) → wpQuiet P ops C (fun a' => a' = A) l a → A.tmps.getD d undef = a.tmps.getD d undef
  | [], a, _, h => by have h' : a = A := h; rw [h']
  | o :: l, a, hd, h => by
    unfold wpQuiet at h
    by_cases hw : Region.wanted o (yielded ops a.tmps) = true
    · rw [if_pos hw] at h
      obtain ⟨v, _, h2⟩ := h
      rw [quiet_keeps l _ (fun o' ho' => hd o' (List.mem_cons_of_mem _ ho')) h2, put_getD_ne _ _ (hd o List.mem_cons_self)]
    · rw [if_neg hw] at h
      rw [quiet_keeps l _ (fun o' ho' => hd o' (List.mem_cons_of_mem _ ho')) h, put_getD_ne _ _ (hd o List.mem_cons_self)]

theorem uniform {A : Act} {s : Nat} : ∀ (l : List Oper) (a : Act), dstsOk s a.tmps.size l = true → (∀ x0, wpQuiet P ops (Ovx w0 x0) (fun a' => a' = A) l a) → wpQF P ops w0 (fun a' => a' = A) l a
  | [], a, _, h => h ⟨#[], 0⟩
  | o :: l, a, hd, h => by
    unfold dstsOk at hd
    cases hod : o.dst with
    | none => rw [hod] at hd; simp at hd
    | some d =>
      rw [hod] at hd
      simp only [Bool.and_eq_true, decide_eq_true_eq, List.all_eq_true] at hd
      obtain ⟨⟨⟨h1, h2⟩, h3⟩, h4⟩ := hd
      unfold wpQF
      by_cases hw : Region.wanted o (yielded ops a.tmps) = true
      · rw [if_pos hw]
        have key : ∀ x0, (∀ w, Ovx w0 x0 w → o.quietAt P a (Ovx w0 x0) w (A.tmps.getD d undef)) ∧ wpQuiet P ops (Ovx w0 x0) (fun a' => a' = A) l (a.put o.dst (A.tmps.getD d undef)) := fun x0 => by
          have hx := h x0
          unfold wpQuiet at hx
          rw [if_pos hw] at hx
          obtain ⟨v, hv, hk⟩ := hx
          have e := quiet_keeps (d := d) l _ h3 hk
          rw [hod, put_getD_eq _ _ h1] at e
          subst e
          exact ⟨hv, hk⟩
        exact ⟨_, fun x0 => (key x0).1, uniform l _ (by rw [put_size]; exact h4) fun x0 => (key x0).2⟩
      · rw [if_neg hw]
        refine uniform l _ (by rw [put_size]; exact h4) fun x0 => ?_
        have hx := h x0
        unfold wpQuiet at hx
        rw [if_neg hw] at hx
        exact hx

theorem dstsOk_spec {s m : Nat} {l : List Oper} (h : dstsOk s m l = true) : ∀ o ∈ l, o.dst ≠ some s := by
  induction l with
  | nil => intro o ho; cases ho
  | cons o l ih =>
    unfold dstsOk at h
    rw [Bool.and_eq_true] at h
    intro o' ho'
    rcases List.mem_cons.1 ho' with e | ho'
    · have h1 := h.1
      rw [e]
      cases hod : o.dst with
      | none => intro k; cases k
      | some d =>
        rw [hod] at h1
        simp only [Bool.and_eq_true, decide_eq_true_eq] at h1
        intro k
        exact h1.1.2 (Option.some.inj k)
    · exact ih h.2 o' ho'

theorem wpQF_mono {Q Q' : Act → Prop} (hQ : ∀ a, Q a → Q' a) : ∀ (l : List Oper) (a : Act), wpQF P ops w0 Q l a → wpQF P ops w0 Q' l a
  | [], a, h => hQ a h
  | o :: l, a, h => by
    unfold wpQF at *
    by_cases hw : Region.wanted o (yielded ops a.tmps) = true
    · rw [if_pos hw] at *; obtain ⟨v, h1, h2⟩ := h; exact ⟨v, h1, wpQF_mono hQ l _ h2⟩
    · rw [if_neg hw] at *; exact wpQF_mono hQ l _ h

/-- n operations that have one value each in every world that lies over w, among them at any place the allocation number n, then the rest in one order. -/
theorem wp_region_calm_alloc {id : Nat} {Q : Exit → Act → World → Prop} {a : Act} {w : World} {l : List Oper} (n s : Nat) (on : Oper) (obj : Obj) (hm : P.follows .mixedOrders = true) (hB : Region.lexTailB .any l.toArray (n + 1) = true)
    (hon : l.toArray[n]? = some on) (hdn : on.dst = some s) (hwn : on.guard = none) (hsa : s < a.tmps.size)
    (hA : ∀ (a : Act) (w : World), (execOp a.eval on).run P w = .ok (.value (.pointer (some ⟨w.heap.size, 0, none⟩))) (w.alloc obj))
    (hd : dstsOk s a.tmps.size (l.take n) = true) (A : Act)
    (h : ∀ x0, wpQuiet P l.toArray (fun w' => ∃ y, w' = ov (ov w x0) y) (fun a' => a' = A) (l.take n) a)
    (ht : ∀ b x, w.heap.size ≤ b → (ov w x).heap[b]? = some obj → wpList P l.toArray Q (l.drop (n + 1)) (A.put (some s) (.pointer (some ⟨b, 0, none⟩))) (ov w x)) : (Code.region id l.toArray true).wp P Q a w := by
  simp only [Region.lexTailB, Bool.and_eq_true, decide_eq_true_eq] at hB
  obtain ⟨⟨⟨⟨hsel, hn⟩, hs⟩, hc⟩, hlex⟩ := hB
  have hn' : n + 1 < l.length := by simpa using hn
  have htl : (l.take n).length = n := by simp; omega
  have hdl : (l.drop (n + 1)).length = l.toArray.size - (n + 1) := by simp
  have inv0 : HeadInv .any l.toArray (n + 1) (Array.replicate l.toArray.size false) :=
    ⟨by simp, fun j oj _ hl => (by rw [getD_replicate_false] at hl; cases hl), fun t _ ht => getD_in (by simpa using ht) (getD_replicate_false _ _)⟩
  have hF := wpQF_mono (w0 := w) (Q' := fun a' => ∀ p, ∃ p', a'.put (some s) p = A.put (some s) p') (fun a' e p => ⟨p, by rw [e]⟩) _ _ (uniform (P := P) (ops := l.toArray) (w0 := w) (A := A) (s := s) (l.take n) a hd h)
  have H := wpX_lex (md := .any) (g := l.toArray.size - (n + 1)) (Lq := fun a' => ∃ p', a' = A.put (some s) p') (s := s) hsel (fun o ho => by rw [hon] at ho; injection ho with ho; rw [← ho]; exact hdn) hs hc hn (l.take n) 0 _ a (fun j hj => by
    have hj' : j < n := by rw [htl] at hj; exact hj
    simp [hj']) (by simpa using htl) inv0 (fun j hj => by omega) (by rw [htl]; exact hlex) hF
  refine wp_region_any hm ?_
  have := wpAny_of_X (Q' := Q) (g := l.toArray.size - (n + 1)) (w0 := w) (obj := obj) hon hdn (fun t => by simp [Region.wanted, hwn]) hA (fun j o hj ho => dstsOk_spec hd o (by
      have : (l.take n)[j]? = some o := by simpa [hj] using ho
      exact List.mem_of_getElem? this)) (fun listed a' w' hI hL => by
    obtain ⟨⟨hq1, hq2⟩, p', rfl⟩ := hL
    obtain ⟨hsz, ⟨x, rfl⟩, hb⟩ := hI
    obtain ⟨b, e1, e2, e3⟩ := hb hq2
    rw [put_getD_eq _ _ (by rw [put_size] at hsz; exact hsz)] at e1
    subst e1
    have := wpAny_of_seq (md := .any) (Q' := Q) (l.drop (n + 1)) (n + 1) listed _ (ov w x) (fun j => by simp [List.getElem?_drop]) (by rw [hdl]; exact hq1) (ht b x e2 e3)
    rwa [hdl] at this) _ _ a { w with drawn := w.drawn + 1 } (by simp) ⟨hsa, ov_of_below ⟨rfl, rfl, rfl, Nat.le_refl _, fun _ _ => rfl⟩, fun k => by rw [getD_replicate_false] at k; cases k⟩ H
  rw [htl, show n + 1 + (l.toArray.size - (n + 1)) = l.toArray.size by omega] at this
  exact this

theorem wp_region_calm_alloc' {id : Nat} {Q : Exit → Act → World → Prop} {a : Act} {w : World} {l : List Oper} (n s : Nat) (on : Oper) (obj : Obj) (hm : P.follows .mixedOrders = true) (hB : Region.lexTailB .any l.toArray (n + 1) = true)
    (hon : l.toArray[n]? = some on) (hdn : on.dst = some s) (hwn : on.guard = none) (hsa : s < a.tmps.size)
    (hA : ∀ (a : Act) (w : World), (execOp a.eval on).run P w = .ok (.value (.pointer (some ⟨w.heap.size, 0, none⟩))) (w.alloc obj))
    (hd : dstsOk s a.tmps.size (l.take n) = true)
    (h : ∃ A : Act, (∀ x0, wpQuiet P l.toArray (fun w' => ∃ y, w' = ov (ov w x0) y) (fun a' => a' = A) (l.take n) a) ∧
      (∀ b x, w.heap.size ≤ b → (ov w x).heap[b]? = some obj → wpList P l.toArray Q (l.drop (n + 1)) (A.put (some s) (.pointer (some ⟨b, 0, none⟩))) (ov w x))) : (Code.region id l.toArray true).wp P Q a w :=
  let ⟨A, h1, h2⟩ := h
  wp_region_calm_alloc n s on obj hm hB hon hdn hwn hsa hA hd A h1 h2
end

theorem cell_blk {W : World} {b j : Nat} {arr : Array Value} {T : TypeId} {v : Value} (h : W.heap[b]? = some (.cells arr T (0, 0))) (hv : arr[j]? = some v) : W.cell? ⟨b, j, none⟩ = some v := by
  simp [World.cell?, h, hv]
theorem frozen_blk {W : World} {b j : Nat} {arr : Array Value} {T : TypeId} (h : W.heap[b]? = some (.cells arr T (0, 0))) : W.frozen? ⟨b, j, none⟩ = false := by
  simp [World.frozen?, h]
end Go.Proofs.Ytfbfaidblggceaa
