/- Several texts in one: Cg, Rd. Each says its own conditions. -/
import Derived.Test.YtabmfaamadbefaaGreatCu
import Derived.Test.YtabmfaamadbefaaGreatReg
/- Contracts of slices.Clone on any row, of copyRegion and of the reference's l08Region. Condition: rows of at most 5000. -/
set_option linter.unusedSimpArgs false
set_option linter.unusedVariables false
set_option linter.unusedSectionVars false
namespace Go.Proofs.YtabmfaamadbefaaGreat
open Go.RowKit
set_option maxRecDepth 100000 in
theorem Clone_all {xs : List H3} {A : Option Addr} {c : Nat} {w : World} (R : R3 44 w A c xs) (hl : xs.length ≤ 5000) :
    Calls Tryz.prog 57 #[.slice A xs.length c] w (InsPost w.heap.size w xs) := by
  by_cases h0 : 0 < xs.length
  · exact Clone_any R ⟨h0, hl⟩
  · have hx : xs = [] := List.length_eq_zero_iff.1 (by omega)
    subst hx
    have R' := R
    rcases R'.2 with ⟨e, _⟩ | ⟨g, cap, cur, e, _⟩
    · injection e with e1 e2 e3
      subst e1 e3
      have hn : (binOp .eql 24 (.slice none 0 0) (.slice none 0 0)).run Tryz.prog w = .ok (.bool (none : Option Addr).isNone) w := Lib.run_eql_slice_nil w _ _ _ _ _ _ _ Tryz.underlying24
      clear R R'
      go_enter Tryz.func57, Tryz.ntmps57
      go_wp2
      go_ret
      exact ⟨none, 0, rfl, RB.nil _ _ _, Below.refl _ _⟩
    · injection e with e1 e2 e3
      subst e1 e3
      have hn : (binOp .eql 24 (.slice (some ⟨g, 0, none⟩) 0 c) (.slice none 0 0)).run Tryz.prog w = .ok (.bool (some (⟨g, 0, none⟩ : Addr)).isNone) w := Lib.run_eql_slice_nil w _ _ _ _ _ _ _ Tryz.underlying24
      clear R'
      go_enter Tryz.func57, Tryz.ntmps57
      go_wp2_with (at_builtin; refine wpList_append_rows (os := []) (xs := []) rfl _ _ rfl w.heap.size rfl (RB.new0 (by simp) (by simp) rfl) rfl (R3.alloc R _) (by simp) (by simp) ?_; intro A1 c1 w1 R1 B1; rw [List.nil_append] at R1; have hb1 : Below w.heap.size w w1 := B1.out (by repeat (first | exact bR | refine bO ?_ | refine bA ?_ | refine bS ?_ | refine bD ?_ | refine bN ?_)) (by simp))
      go_ret
      exact ⟨A1, c1, rfl, R1, hb1⟩

set_option maxHeartbeats 2000000 in
theorem copyRegion_eq {xs : List H3} {A : Option Addr} {c : Nat} {w : World} (R : R3 44 w A c xs) (hl : xs.length ≤ 5000) :
    Calls Tryz.prog 47 #[.agg #[.slice A xs.length c]] w (RegOut w xs) := by
  go_enter Tryz.func47, Tryz.ntmps47
  go_wp2_with fail
  refine (Clone_all (R.below (by repeat (first | exact bR | refine bO ?_ | refine bA ?_ | refine bS ?_ | refine bD ?_ | refine bN ?_))) hl).mono ?_
  rintro e w1 ⟨A1, c1, rfl, R1, hb1⟩
  have hbw : Below w.heap.size w w1 := Below.trans (by repeat (first | exact bR | refine bO ?_ | refine bA ?_ | refine bS ?_ | refine bD ?_ | refine bN ?_)) (hb1.mono (by simp; omega))
  have HX := Lib.hid ((hb1.block (w.heap.size + 1) (by simp)).trans (heap_new_at (r := some (.cells #[.slice none 0 0] 26 (0, 0))) (by simp) rfl))
  have HR1 := R1.weak (B' := w.heap.size) (by simp; omega)
  clear R1 hb1
  have hb2 : w.heap.size ≤ w.heap.size + 1 := by omega
  generalize w.heap.size + 1 = b4 at HX hb2 ⊢
  have x2 := cell_blk (j := 0) (v := .slice none 0 0) HX.out rfl
  have f2 := frozen_blk (j := 0) HX.out
  have l2 := (Array.getElem?_eq_some_iff.1 HX.out).1
  go_wp2
  refine bodyPost_ret (v := .agg #[.slice A1 xs.length c1]) (by simp [results, Tryz.results47, go_sem, x2, l2]) rfl ⟨A1, c1, rfl, HR1.set_box HX.out (by decide), hbw.setCell (show w.heap.size ≤ b4 from hb2) _⟩

end Go.Proofs.YtabmfaamadbefaaGreat
/- A region that draws its order and makes several blocks: the blocks differ. No condition. -/
set_option linter.unusedVariables false
set_option linter.unusedSimpArgs false
namespace Go.Proofs.YtabmfaamadbefaaGreat
open Go.RowKit
def RD.isRel : RD → Bool
  | .pur _ _ => false
  | .rel _ _ _ _ => true
def gEnd (R : Value → World → Prop) (dst : Option Tmp) (a : Act) : Exit → Act → World → Prop
  | .normal, a', w' => ∃ v, a' = a.put dst v ∧ R v w'
  | _, _, _ => False
/-- The values of the operations AL differ, as far as they are known. -/
def DistV (AL : List Nat) (vs : Nat → Value) : Prop := ∀ i ∈ AL, ∀ j ∈ AL, i ≠ j → vs i = vs j → vs i = undef
def FreshV (w : World) (v : Value) : Prop := ∃ b, v = .pointer (some ⟨b, 0, none⟩) ∧ w.heap.size ≤ b
def relPostD (Rs : List RD) (AL : List Nat) (vs : Nat → Value) (w0 : World) (i : Nat) (w : World) (v : Value) (w' : World) : Prop := relPost Rs vs w0 i w v w' ∧ (i ∈ AL → FreshV w v)
def wpRelD (P : Program) (ops : Array Oper) (Q : Exit → Act → World → Prop) (w0 : World) (Rs : List RD) (AL : List Nat) (vs : Nat → Value) : Nat → List Oper → Act → Prop
  | _, [], a => ∀ w', (∃ x, w' = ov w0 x) → (∀ j, holds w0 Rs vs j w') → Q .normal a w'
  | i, o :: r, a => (∀ w', (∃ x, w' = ov w0 x) → (∀ j ∈ needOf Rs i, holds w0 Rs vs j w') → wpList P ops (gEnd (relPostD Rs AL vs w0 i w') o.dst a) [o] a w') ∧ wpRelD P ops Q w0 Rs AL vs (i + 1) r (a.put o.dst (vv Rs vs i))

section
variable {P : Program} {ops : Array Oper} {D : List (List Nat)} {Rs : List RD} {JS : List (List Nat × List Nat)} {w0 : World} {a0 : Act}
theorem wp_transferG {o : Oper} {i : Nat} {a ai : Act} {w : World} {R : Value → World → Prop} {K : Act → World → Prop} {Q : Exit → Act → World → Prop} (hs : a.tmps.size = ai.tmps.size) (hx : execOp a.eval o = execOp ai.eval o)
    (hw : Region.wanted o (yielded ops a.tmps) = Region.wanted o (yielded ops ai.tmps)) (hK : ∀ v w', R v w' → K (a.put o.dst v) w') (hi : ops[i]? = some o)
    (h : wpList P ops (gEnd R o.dst ai) [o] ai w) : wpOp P ops Q i K a w := by
  unfold wpOp
  simp only [hi]
  unfold wpList at h
  rw [hw]
  have key : ∀ (v : Value) (w' : World), wpList P ops (gEnd R o.dst ai) [] (ai.put o.dst v) w' → K (a.put o.dst v) w' := fun v w' h => by
    obtain ⟨v', h1, h2⟩ := h
    rw [put_same hs h1]
    exact hK v' w' h2
  split
  · rename_i hwt
    rw [if_pos hwt] at h
    replace h := h.resolve_right fun h => by
      obtain ⟨_, _, _, h⟩ := h
      cases h
    refine .inl ?_
    unfold Oper.wp at *
    rw [hx]
    generalize (execOp ai.eval o).run P w = r at *
    cases r with
    | ok n w' =>
      cases n <;> simp only [Oper.upon] at h ⊢
      case value v => exact key v w' h
      case skip => exact key undef w' h
      case defer d =>
        obtain ⟨v', h1, h2⟩ := h
        have := congrArg Act.defers h1
        cases hd : o.dst <;> simp [Act.put, hd] at this
      case enter f args =>
        refine Calls.mono h fun e w'' he => ?_
        cases e with
        | returned v => exact key v w'' he
        | panicked c => cases he
        | outgrown => obtain ⟨_, _, h⟩ := he; cases h
      case row row args => exact Rows.mono h fun v w'' he => key v w'' he
    | halt x w' => cases x <;> simp only [Oper.upon] at h ⊢ <;> first | exact h | cases h
  · rename_i hwt
    rw [if_neg hwt] at h
    exact key undef w h

structure RelInvD (ops : Array Oper) (AL : List Nat) (Rs : List RD) (w0 : World) (a0 : Act) (listed : Array Bool) (a : Act) (w : World) : Prop where
  size : listed.size = ops.size
  closed : Closed ops fun j => listed.getD j false
  over : ∃ x, w = ov w0 x
  vals : ∃ vs, ActAt ops a0 (vv Rs vs) (fun j => listed.getD j false) a ∧ (∀ j, listed.getD j false = true → holds w0 Rs vs j w) ∧ DistV AL vs ∧ ∀ j ∈ AL, listed.getD j false = false → vs j = undef

theorem rel_stepD {AL : List Nat} (R : RelOk ops D JS) (hAL : ∀ j ∈ AL, ∃ nd wd T n, Rs[j]? = some (.rel nd [j] wd (IsAl T n))) (hJ : Rs.map RD.deps = JS) (hlen : Rs.length = ops.size) (hst : ∀ r ∈ Rs, r.stable) {listed : Array Bool} {a : Act} {w : World} {i : Nat} {o : Oper} {Q : Exit → Act → World → Prop} (ho : ops[i]? = some o)
    (inv : RelInvD ops AL Rs w0 a0 listed a w) (hi : i ∈ Region.ready .any ops listed)
    (hop : ∀ vs, DistV AL vs → ∃ ai, ActAt ops a0 (vv Rs vs) (fun j => decide (j < i)) ai ∧ ∀ w', (∃ x, w' = ov w0 x) → (∀ j ∈ needOf Rs i, holds w0 Rs vs j w') → wpList P ops (gEnd (relPostD Rs AL vs w0 i w') o.dst ai) [o] ai w') :
    wpOp P ops Q i (RelInvD ops AL Rs w0 a0 (listed.setIfInBounds i true)) a w := by
  obtain ⟨vs, hact, hh, hdist, hund⟩ := inv.vals
  obtain ⟨ai, hai, hobl⟩ := hop vs hdist
  obtain ⟨hun, o', ho', haft⟩ := mem_ready.1 hi
  obtain rfl : o = o' := by rw [ho] at ho'; simpa using ho'
  have hil : i < ops.size := (Array.getElem?_eq_some_iff.1 ho).1
  have hunf : listed.getD i false = false := by
    have : i < listed.size := by rw [inv.size]; exact hil
    simp [Array.getD, this] at hun ⊢; exact hun
  have hin : ∀ j ∈ D.getD i [], listed.getD j false = true := clo_in R inv.closed i o ho haft
  have hout : ∀ j, j < ops.size → i ∈ D.getD j [] → listed.getD j false = false := fun j hj hm => by
    cases hb : listed.getD j false with
    | false => rfl
    | true =>
      have ho2 : ops[j]? = some ops[j] := Array.getElem?_eq_getElem hj
      have := clo_in R inv.closed j _ ho2 (inv.closed j _ ho2 hb) i hm
      rw [hunf] at this; cases this
  obtain ⟨hx, hw⟩ := exec_same R ho (looks_same R ho hact hai hunf hin hout)
  have hneed : ∀ j ∈ needOf Rs i, holds w0 Rs vs j w := fun j hj => hh j (hin j (by
    refine R.need i hil j ?_
    rw [← hJ, List.getD_eq_getElem?_getD, List.getElem?_map]
    unfold needOf at hj
    cases hr : Rs[i]? with
    | none => rw [hr] at hj; cases hj
    | some r => rw [hr] at hj; exact hj))
  refine wp_transferG (by rw [hact.size, hai.size]) hx hw (fun v w' hpost => ?_) ho (hobl w inv.over hneed)
  have hd : o.dst = dstAt ops i := by unfold dstAt; rw [ho]; rfl
  have hset : ∀ j, (listed.setIfInBounds i true).getD j false = (listed.getD j false || j == i) := fun j => by
    by_cases hj : j = i
    · subst hj
      have hl : j < listed.size := by rw [inv.size]; exact hil
      simp [Array.getD_eq_getD_getElem?, Array.getElem?_setIfInBounds_self, hl]
    · simp [Array.getD_eq_getD_getElem?, Array.getElem?_setIfInBounds_ne (Ne.symm hj), hj]
  have hri : ∃ r, Rs[i]? = some r := ⟨Rs[i]'(by omega), List.getElem?_eq_getElem _⟩
  obtain ⟨r, hr⟩ := hri
  have hcl : Closed ops fun j => (listed.setIfInBounds i true).getD j false := fun k ok hk hS e he hb => by
    show (listed.setIfInBounds i true).getD e.on false = true
    replace hS : (listed.setIfInBounds i true).getD k false = true := hS
    rw [hset] at hS ⊢
    simp only [Bool.or_eq_true, beq_iff_eq] at hS ⊢
    rcases hS with hS | rfl
    · exact .inl (inv.closed k ok hk hS e he hb)
    · obtain rfl : o = ok := by rw [ho] at hk; simpa using hk
      exact .inl (haft e he hb)
  -- the value, the new relation, what stays
  have fin : ∀ vs', (∀ j, j ≠ i → vv Rs vs' j = vv Rs vs j) → vv Rs vs' i = v → holds w0 Rs vs' i w' → (∀ j, j ≠ i → listed.getD j false = true → holds w0 Rs vs j w') → (∃ x, w' = ov w0 x) → DistV AL vs' → (∀ j ∈ AL, (listed.setIfInBounds i true).getD j false = false → vs' j = undef) → RelInvD ops AL Rs w0 a0 (listed.setIfInBounds i true) (a.put o.dst v) w' := by
    intro vs' hne hvi hhi hrest hov hd1 hd2
    refine ⟨by simp [inv.size], hcl, hov, vs', ?_, fun j hj => ?_, hd1, hd2⟩
    · rw [hd]
      refine (ActAt.put R hact (V' := vv Rs vs') (fun j hj => hne j fun e => by subst e; rw [hunf] at hj; cases hj) hunf hvi).congrS (fun j _ => (hset j).symm) fun _ _ => rfl
    · rw [hset] at hj
      by_cases hji : j = i
      · subst hji; exact hhi
      · have hjl : listed.getD j false = true := by simpa [hji] using hj
        refine holds_congr (fun k hk => ?_) (hrest j hji hjl)
        rw [hJ] at hk
        have hjs : j < ops.size := by
          rw [← inv.size]
          rcases Nat.lt_or_ge j listed.size with h | h
          · exact h
          · rw [show listed.getD j false = false by simp [Array.getD_eq_getD_getElem?, Array.getElem?_eq_none h]] at hjl; cases hjl
        refine (hne k fun e => ?_).symm
        subst e
        rcases R.js j hjs k hk with h | h
        · exact hji h.symm
        · have := hout j hjs h
          rw [hjl] at this; cases this
  have hund' : ∀ j ∈ AL, j ≠ i → (listed.setIfInBounds i true).getD j false = false → vs j = undef := fun j hj hji hl => by
    rw [hset] at hl
    simp only [Bool.or_eq_false_iff, beq_eq_false_iff_ne] at hl
    exact hund j hj hl.1
  obtain ⟨hpost, hfr⟩ := hpost
  have hdu : r.isRel = true → DistV AL (updV vs i v) := fun hrel => by
    by_cases hi2 : i ∈ AL
    · obtain ⟨b, hvb, hb⟩ := hfr hi2
      have other : ∀ j ∈ AL, j ≠ i → v = vs j → v = undef := fun j hj hji he => by
        cases hl : listed.getD j false with
        | false => rw [he]; exact hund j hj hl
        | true =>
          obtain ⟨nd, wd, T, n, hrj⟩ := hAL j hj
          have h1 := hh j hl
          unfold holds at h1
          rw [hrj] at h1
          simp only [List.map_cons, List.map_nil] at h1
          obtain ⟨c, cur, e, _, hblk, _⟩ := h1
          have hvj : vv Rs vs j = vs j := by unfold vv; rw [hrj]
          rw [hvj] at e
          simp only [List.cons.injEq, and_true] at e
          have hc := (Array.getElem?_eq_some_iff.1 hblk).1
          rw [← he, hvb] at e
          injection e with e; injection e with e; injection e with e
          omega
      intro x hx y hy hxy he
      unfold updV at he ⊢
      by_cases hxi : x = i
      · rw [if_pos hxi] at he ⊢
        rw [if_neg (fun e => hxy (hxi.trans e.symm))] at he
        exact other y hy (fun e => hxy (hxi.trans e.symm)) he
      · rw [if_neg hxi] at he ⊢
        by_cases hyi : y = i
        · rw [if_pos hyi] at he
          rw [he]
          exact other x hx hxi he.symm
        · rw [if_neg hyi] at he
          exact hdist x hx y hy hxy he
    · have hn : ∀ x ∈ AL, updV vs i v x = vs x := fun x hx => by unfold updV; exact if_neg (fun e => hi2 (by rw [← e]; exact hx))
      intro x hx y hy hxy he
      rw [hn x hx, hn y hy] at he
      rw [hn x hx]
      exact hdist x hx y hy hxy he
  have hu2 : ∀ j ∈ AL, (listed.setIfInBounds i true).getD j false = false → updV vs i v j = undef := fun j hj hl => by
    have hji : j ≠ i := fun e => by
      rw [hset] at hl
      simp [e] at hl
    unfold updV
    rw [if_neg hji]
    exact hund' j hj hji hl
  unfold relPost at hpost
  rw [hr] at hpost
  obtain ⟨x0, rfl⟩ := inv.over
  cases r with
  | pur n c =>
    obtain ⟨rfl, x, rfl⟩ := hpost
    exact fin vs (fun _ _ => rfl) (by unfold vv; rw [hr]) (by unfold holds; rw [hr]; trivial) (fun j _ hj => holds_ov hst (hh j hj)) ⟨_, ov_ov _ _ _⟩ hdist (fun j hj hl => by
      by_cases hji : j = i
      · subst hji
        obtain ⟨nd, wd, T, n, hrj⟩ := hAL j hj
        rw [hr] at hrj; cases hrj
      · exact hund' j hj hji hl)
  | rel n js b F =>
    have hvi : vv Rs (updV vs i v) i = v := by unfold vv updV; rw [hr, if_pos rfl]
    cases b with
    | false =>
      obtain ⟨⟨x, rfl⟩, hF⟩ := hpost
      exact fin (updV vs i v) (fun j hj => vv_upd hj) hvi (by unfold holds; rw [hr]; exact hF) (fun j _ hj => holds_ov hst (hh j hj)) ⟨_, ov_ov _ _ _⟩ (hdu rfl) hu2
    | true =>
      obtain ⟨hov, hk, hF⟩ := hpost
      exact fin (updV vs i v) (fun j hj => vv_upd hj) hvi (by unfold holds; rw [hr]; exact hF) (fun j hj hl => hk j hj (hh j hl)) hov (hdu rfl) hu2

theorem wpRelD_at {AL : List Nat} (R : RelOk ops D JS) {Q : Exit → Act → World → Prop} {vs : Nat → Value} : ∀ (l : List Oper) (k : Nat) (a : Act), (∀ j, l[j]? = ops[k + j]?) → ActAt ops a0 (vv Rs vs) (fun j => decide (j < k)) a → wpRelD P ops Q w0 Rs AL vs k l a →
    (∀ i o, k ≤ i → ops[i]? = some o → ∃ ai, ActAt ops a0 (vv Rs vs) (fun j => decide (j < i)) ai ∧ ∀ w', (∃ x, w' = ov w0 x) → (∀ j ∈ needOf Rs i, holds w0 Rs vs j w') → wpList P ops (gEnd (relPostD Rs AL vs w0 i w') o.dst ai) [o] ai w') ∧
    ∃ an, ActAt ops a0 (vv Rs vs) (fun j => decide (j < ops.size)) an ∧ ∀ w', (∃ x, w' = ov w0 x) → (∀ j, holds w0 Rs vs j w') → Q .normal an w'
  | [], k, a, hl, ha, h => by
    have hk : ops.size ≤ k := by
      have := hl 0
      simp at this
      exact this
    refine ⟨fun i o hi ho => ?_, a, ha.congrS (fun j hj => by simp; omega) (fun _ _ => rfl), h⟩
    have := (Array.getElem?_eq_some_iff.1 ho).1; omega
  | o :: l, k, a, hl, ha, h => by
    have h0 : ops[k]? = some o := by simpa using (hl 0).symm
    obtain ⟨h1, h2⟩ := h
    have hd : o.dst = dstAt ops k := by unfold dstAt; rw [h0]; rfl
    have ha' : ActAt ops a0 (vv Rs vs) (fun j => decide (j < k + 1)) (a.put o.dst (vv Rs vs k)) := by
      rw [hd]
      refine (ActAt.put R ha (V' := vv Rs vs) (fun _ _ => rfl) (by simp) rfl).congrS (fun j _ => ?_) (fun _ _ => rfl)
      rw [Bool.eq_iff_iff]; simp; omega
    obtain ⟨r1, r2⟩ := wpRelD_at R l (k + 1) _ (fun j => by have := hl (j + 1); simpa [Nat.add_assoc, Nat.add_comm 1 j] using this) ha' h2
    refine ⟨fun i o' hi ho => ?_, r2⟩
    by_cases e : i = k
    · subst e
      obtain rfl : o = o' := by rw [h0] at ho; simpa using ho
      exact ⟨a, ha, h1⟩
    · exact r1 i o' (by omega) ho

theorem rel_anyD {AL : List Nat} (R : RelOk ops D JS) (hAL : ∀ j ∈ AL, ∃ nd wd T n, Rs[j]? = some (.rel nd [j] wd (IsAl T n))) (hJ : Rs.map RD.deps = JS) (hlen : Rs.length = ops.size) (hst : ∀ r ∈ Rs, r.stable) {Q : Exit → Act → World → Prop}
    (hop : ∀ i o, ops[i]? = some o → ∀ vs, DistV AL vs → ∃ ai, ActAt ops a0 (vv Rs vs) (fun j => decide (j < i)) ai ∧ ∀ w', (∃ x, w' = ov w0 x) → (∀ j ∈ needOf Rs i, holds w0 Rs vs j w') → wpList P ops (gEnd (relPostD Rs AL vs w0 i w') o.dst ai) [o] ai w')
    (hend : ∀ vs, DistV AL vs → ∃ an, ActAt ops a0 (vv Rs vs) (fun j => decide (j < ops.size)) an ∧ ∀ w', (∃ x, w' = ov w0 x) → (∀ j, holds w0 Rs vs j w') → Q .normal an w') :
    ∀ (fuel : Nat) (listed : Array Bool) (a : Act) (w : World), listed.toList.count false = fuel → RelInvD ops AL Rs w0 a0 listed a w → wpAny P .any ops Q fuel listed a w := by
  have done : ∀ (listed : Array Bool) (a : Act) (w : World), RelInvD ops AL Rs w0 a0 listed a w → Region.ready .any ops listed = [] → Q .normal a w := by
    intro listed a w inv hr
    have hall : ∀ k, k < ops.size → listed.getD k false = true := fun k hk => by
      cases hb : listed.getD k true with
      | false => obtain ⟨i, hi⟩ := some_ready R inv.size hb; rw [hr] at hi; cases hi
      | true =>
        have hl : k < listed.size := by rw [inv.size]; exact hk
        simp [Array.getD, hl] at hb ⊢; exact hb
    obtain ⟨vs, hact, hh, hdist, _⟩ := inv.vals
    obtain ⟨an, han, hQ⟩ := hend vs hdist
    have e : a = an := ActAt.unique (hact.congrS (S' := fun j => decide (j < ops.size)) (fun j hj => by rw [hall j hj]; simp [hj]) fun _ _ => rfl) han
    subst e
    refine hQ w inv.over fun j => ?_
    by_cases hj : j < ops.size
    · exact hh j (hall j hj)
    · unfold holds; rw [List.getElem?_eq_none (by omega)]; trivial
  intro fuel
  induction fuel with
  | zero =>
    intro listed a w hc inv
    have hr : Region.ready .any ops listed = [] := by
      cases hrr : Region.ready .any ops listed with
      | nil => rfl
      | cons i r =>
        have hi : i ∈ Region.ready .any ops listed := by rw [hrr]; simp
        obtain ⟨hun, _⟩ := mem_ready.1 hi
        have hl : i < listed.size := by
          rcases Nat.lt_or_ge i listed.size with h | h
          · exact h
          · rw [show listed.getD i true = true by simp [Array.getD_eq_getD_getElem?, Array.getElem?_eq_none h]] at hun; cases hun
        have hm : false ∈ listed.toList := by
          simp [Array.getD, hl] at hun
          rw [← hun]; simp
        have := List.count_pos_iff.2 hm
        omega
    exact ⟨hr, done listed a w inv hr⟩
  | succ fuel ih =>
    intro listed a w hc inv
    refine ⟨fun hr => done listed a w inv hr, fun i hi => ?_⟩
    obtain ⟨hun, o, ho, _⟩ := mem_ready.1 hi
    have hl : i < listed.size := by rw [inv.size]; exact (Array.getElem?_eq_some_iff.1 ho).1
    refine wpOp_mono (fun a' w' inv' => ih _ a' w' ?_ inv') (rel_stepD R hAL hJ hlen hst ho inv hi (hop i o ho))
    have hl' : i < listed.toList.length := by simpa using hl
    have hv : listed.toList[i] = false := by simp [Array.getD, hl] at hun; simpa using hun
    have hcs := List.count_set (a := true) (b := false) hl'
    rw [hv] at hcs
    rw [Array.toList_setIfInBounds, hcs, hc]
    simp
end
/-- A region that draws its order: a relation an operation; the blocks that the operations AL make differ. -/
theorem wp_region_relD {P : Program} {id : Nat} {Q : Exit → Act → World → Prop} {a : Act} {w : World} {l : List Oper} (AL : List Nat) (Rs : List RD) (hAL : ∀ j ∈ AL, ∃ nd wd T n, Rs[j]? = some (.rel nd [j] wd (IsAl T n))) (JS : List (List Nat × List Nat)) (hJ : Rs.map RD.deps = JS) (hlen : Rs.length = l.length) (hm : P.follows .mixedOrders = true)
    (hB : relB l.toArray (clo l.toArray l.toArray.size) JS = true) (hst : ∀ r ∈ Rs, r.stable) (h : ∀ vs, DistV AL vs → wpRelD P l.toArray Q w Rs AL vs 0 l a) : (Code.region id l.toArray true).wp P Q a w := by
  have R := relB_ok hB
  refine wp_region_any hm ?_
  have st : ∀ (V : Nat → Value) (S : Nat → Bool), (∀ j, S j = false) → ActAt l.toArray a V S a := fun V S hS => (ActAt.start (V := V)).congrS (V' := V) (fun j _ => (hS j).symm) fun _ _ => rfl
  have hat := fun vs hv => wpRelD_at (Rs := Rs) (a0 := a) R l 0 a (fun j => by simp) (st _ _ (fun j => by simp)) (h vs hv)
  refine rel_anyD R hAL hJ (by simpa using hlen) hst (fun i o ho vs hv => (hat vs hv).1 i o (Nat.zero_le _) ho) (fun vs hv => (hat vs hv).2) _ _ _ _ (by simp) ⟨by simp, fun i o _ hS => ?_, ov_of_below ⟨rfl, rfl, rfl, Nat.le_refl _, fun _ _ => rfl⟩, fun _ => undef, ?_, fun j hj => ?_, fun _ _ _ _ _ _ => rfl, fun _ _ _ => rfl⟩
  · exact absurd hS (by show ¬ (Array.replicate l.toArray.size false).getD i false = true; rw [getD_rep_false]; simp)
  · exact st _ _ fun j => getD_rep_false _ _
  · rw [getD_rep_false] at hj; cases hj


section
variable {P : Program} {ops : Array Oper} {Q : Exit → Act → World → Prop} {w0 w w' : World} {Rs : List RD} {AL : List Nat} {vs : Nat → Value} {i : Nat} {a a' : Act} {o : Oper} {r : List Oper} {dst : Option Tmp}
theorem wpRelD_pur {c : Value} {dst : Option Tmp} (hr : Rs[i]? = some (.pur [] c)) (hd : o.dst = dst) (h1 : ∀ x, wpList P ops (gEnd (relPostD Rs AL vs w0 i (ov w0 x)) dst a) [o] a (ov w0 x)) (h2 : wpRelD P ops Q w0 Rs AL vs (i + 1) r (a.put dst c)) : wpRelD P ops Q w0 Rs AL vs i (o :: r) a := by
  subst hd
  have hv : vv Rs vs i = c := by unfold vv; rw [hr]
  subst hv
  refine ⟨fun w' ⟨x, hx⟩ _ => ?_, h2⟩
  subst hx
  exact h1 x
theorem gEnd_pur {n : List Nat} {c : Value} (hr : Rs[i]? = some (.pur n c)) (hn : i ∉ AL) (ha : a' = a.put dst c) (hb : Below w.heap.size w w') : gEnd (relPostD Rs AL vs w0 i w) dst a .normal a' w' :=
  ⟨c, ha, by unfold relPost; rw [hr]; exact ⟨rfl, ov_of_below hb⟩, fun h => absurd h hn⟩
theorem wpRelD_al {T : TypeId} {n k : Nat} (z : Array Value) {d : Tmp} (hr : Rs[i]? = some (.rel [] [k] false (IsAl T n))) (hki : k = i) (hz : z.size = n) (hop : o.op = .alloc T) (hg : o.guard = none) (hd : o.dst = some d)
    (run : ∀ w, (execOp a.eval o).run P w = .ok (.value (.pointer (some ⟨w.heap.size, 0, none⟩))) (w.alloc (.cells z T)))
    (h2 : wpRelD P ops Q w0 Rs AL vs (i + 1) r (a.put (some d) (vs k))) : wpRelD P ops Q w0 Rs AL vs i (o :: r) a := by
  subst hki
  refine ⟨fun w' hw _ => ?_, ?_⟩
  · obtain ⟨x, rfl⟩ := hw
    refine wpList_plain hg fun _ hK => ?_
    unfold Oper.wp
    rw [run]
    refine hK _ _ ?_
    refine ⟨_, rfl, ?_, fun _ => ⟨_, rfl, Nat.le_refl _⟩⟩
    unfold relPost
    rw [hr]
    refine ⟨ov_of_below ((Below.refl _ _).alloc (Nat.le_refl _) _), _, z, ?_, ?_, heap_alloc_new _ _, hz⟩
    · simp [vv, hr, updV]
    · rw [ov_size]; omega
  · rw [hd]
    have : vv Rs vs k = vs k := by unfold vv; rw [hr]
    rw [this]; exact h2
/-- The other relations that a store into the block of operation k leaves: those that are steady, and what stands in another block of AL. -/
def calmBy (T : TypeId) (AL : List Nat) (k : Nat) (r : RD) : Prop := r.steady T ∨ ∃ nd j u, r = .rel nd [j, u] true (IsSt T) ∧ j ∈ AL ∧ j ≠ k
theorem wpRelD_st {T : TypeId} {k j n : Nat} {s : Tmp} {y : Operand} {nk nj : List Nat} {wk : Bool} {u : Value} (hv : DistV AL vs) (hkA : k ∈ AL) (hAL : ∀ j ∈ AL, ∃ nd wd T n, Rs[j]? = some (.rel nd [j] wd (IsAl T n))) (hr : Rs[i]? = some (.rel [k, j] [k, j] true (IsSt T))) (hk : Rs[k]? = some (.rel nk [k] wk (IsAl T n))) (hj : Rs[j]? = some (.pur nj u))
    (hop : o.op = .store T (.tmp s) y) (hg : o.guard = none) (hd : o.dst = none) (hki : k ≠ i) (hji : j ≠ i) (hiA : i ∉ AL) (es : a.eval (.tmp s) = vs k) (et : a.eval y = u) (hn : (P.info? T).map (·.size) = some n)
    (hval : u.cells.size = n ∧ ∀ x ∈ u.cells.toList, x.oneCell' = true) (hst : ∀ r ∈ Rs.eraseIdx i, calmBy T AL k r)
    (h2 : wpRelD P ops Q w0 Rs AL vs (i + 1) r a) : wpRelD P ops Q w0 Rs AL vs i (o :: r) a := by
  refine ⟨fun w' hw hh => ?_, by rw [hd]; exact h2⟩
  obtain ⟨x, rfl⟩ := hw
  have hneed : needOf Rs i = [k, j] := by unfold needOf; rw [hr]; rfl
  rw [hneed] at hh
  have h1 := hh k (by simp)
  unfold holds at h1
  rw [hk] at h1
  simp only [List.map_cons, List.map_nil, vv_rel hk] at h1
  obtain ⟨b, cur, e, hb, hblk, hcs⟩ := h1
  have e' : vs k = .pointer (some ⟨b, 0, none⟩) := by simpa using e
  have hu : vv Rs vs j = u := vv_pur hj
  refine wpList_store_blk hg T T (.tmp s) y hop (es.trans e') hblk (by rw [hcs]; exact hn) (by rw [et, hval.1, hcs]) (by rw [et]; exact hval.2) ?_
  refine ⟨_, rfl, ?_, fun h => absurd h hiA⟩
  unfold relPost
  rw [hr]
  refine ⟨setRow_ov hb _, fun m hm hmm => ?_, b, u, ?_, hb, ?_⟩
  · unfold holds at hmm ⊢
    cases hq : Rs[m]? with
    | none => trivial
    | some rm =>
      rw [hq] at hmm
      have := hst rm (List.mem_eraseIdx_iff_getElem?.2 ⟨m, hm, hq⟩)
      cases rm with
      | pur _ _ => trivial
      | rel _ _ _ F =>
        rcases this with this | ⟨nd, m1, u1, e1, hmA, hmk⟩
        · exact this _ _ _ b cur _ hblk (by rw [et, hval.1, hcs]) hmm
        · injection e1 with e1 e2 e3 e4
          subst e2 e4
          obtain ⟨b2, u2, e5, hb2, hx2⟩ := hmm
          refine ⟨b2, u2, e5, hb2, ?_⟩
          obtain ⟨nd2, wd2, T2, n2, hrm⟩ := hAL m1 hmA
          simp only [List.map_cons, List.map_nil, vv_rel hrm, List.cons.injEq, and_true] at e5
          rw [setRow_other]
          · exact hx2
          · rintro rfl
            have := hv m1 hmA k hkA hmk (e5.1.trans e'.symm)
            rw [e5.1] at this
            cases this
  · simp only [List.map_cons, List.map_nil]
    rw [vv_upd hki, vv_upd hji, vv_rel hk, e', hu]
  · rw [et]; exact setRow_heap _ _ _ _ _ _ hblk
theorem wpRelD_nilB0 (h : ∀ w', Below w0.heap.size w0 w' → (∀ j, holds w0 Rs vs j w') → Q .normal a w') : wpRelD P ops Q w0 Rs AL vs i [] a :=
  fun w' ⟨x, hx⟩ hh => h w' (by subst hx; exact below_ov _ _ (Below.refl _ _) (Nat.le_refl _)) hh
end
end Go.Proofs.YtabmfaamadbefaaGreat