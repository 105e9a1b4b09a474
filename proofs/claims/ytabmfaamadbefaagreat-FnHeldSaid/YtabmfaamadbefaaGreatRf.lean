/- Appends to rows of half planes within a region that draws its order. No condition. -/
import Derived.Test.YtabmfaamadbefaaGreatRe
import Derived.ArgAppend
set_option linter.unusedVariables false
set_option linter.unusedSimpArgs false
namespace Go.Proofs.YtabmfaamadbefaaGreat
open Go.RowKit
def GRow (xs : List H3) (w0 : World) (v : Value) (w : World) : Prop := ∃ A c, v = .slice A xs.length c ∧ RB w0.heap.size 44 w A c xs
def GRow0 (w0 : World) (v : Value) (w : World) : Prop := ∃ b, v = .slice (some ⟨b, 0, none⟩) 0 0 ∧ RB w0.heap.size 44 w (some ⟨b, 0, none⟩) 0 []
theorem owned_row (xs : List H3) : Owned 26 (GRow xs) :=
  ⟨fun w0 v w x ⟨A, c, e, R⟩ => ⟨A, c, e, R.below (below_ov _ _ (Below.refl _ _) (Nat.le_refl _))⟩, fun w0 v w b cur arr hb hs ⟨A, c, e, R⟩ => ⟨A, c, e, R.set_row hb (by decide)⟩⟩
theorem owned_row0 : Owned 26 GRow0 :=
  ⟨fun w0 v w x ⟨b, e, R⟩ => ⟨b, e, R.below (below_ov _ _ (Below.refl _ _) (Nat.le_refl _))⟩, fun w0 v w b cur arr hb hs ⟨b', e, R⟩ => ⟨b', e, R.set_row hb (by decide)⟩⟩

/-- append(s, x...) on rows of half planes, with what may have turned. -/
theorem wpList_append_rowsG {ops : Array Oper} {rest : List Oper} {o : Oper} {a : Act} {Q : Exit → Act → World → Prop} {w : World} (hgd : o.guard = none) (s x : Operand)
    (ho : o.op = .call { callee := .builtin .append, args := #[s, x], argTypes := #[24, 24] }) (B : Nat) {A A2 : Option Addr} {c c2 : Nat} {os xs ys : List H3} (hy : os ++ xs = ys)
    (hs : a.eval s = .slice A os.length c) (hown : RB B 44 w A c os) (hx : a.eval x = .slice A2 xs.length c2) (src : R3 44 w A2 c2 xs) (hl : os.length + xs.length ≤ 5000) (hB : B ≤ w.heap.size)
    (h : ∀ A' c' w', RB B 44 w' A' c' ys → w.grownBy w' (Value.slice A os.length c).ownBlock → wpList Tryz.prog ops Q rest (a.put o.dst (.slice A' ys.length c')) w') : wpList Tryz.prog ops Q (o :: rest) a w := by
  subst hy
  obtain ⟨i0, hi, hz0, hz1, hz2⟩ := info_parts info_half
  rcases src.2 with ⟨e, e0⟩ | ⟨g, cap, cur, e, _⟩
  · injection e with e1 e2 e3
    subst e1 e3
    have hx0 : xs = [] := List.length_eq_zero_iff.1 e2
    subst hx0
    refine wpList_append_own_none (P := Tryz.prog) hgd s x 24 ho B 44 i0 3 Tryz.underlying24 hi _ _ _ hs hown hx ?_
    have := h A c w (by rw [List.append_nil]; exact hown) ⟨rfl, rfl, rfl, Nat.le_refl _, fun _ _ _ => rfl⟩
    rwa [List.append_nil] at this
  · injection e with e1 e2 e3
    subst e1 e3
    refine wpList_append_own (P := Tryz.prog) w hgd s x 24 ho B 44 i0 (.agg #[.int .i64 0, .int .i64 0, .int .i64 0]) 3 24 Tryz.underlying24 hi hz0 hz1 hz2 rfl (by decide) _ _ _ hs hown ⟨g, 0, none⟩ xs.length c2 (cells3 xs) hx (cells3_length _) (news_row src) (cells3_one _) (by unfold maxLen; omega) (by omega) hB ?_
    intro v' w' O hg _
    have O' : w'.ownsRow B 44 3 v' (os ++ xs).length (cells3 (os ++ xs)) := by rw [cells3_append, List.length_append]; exact O
    obtain ⟨A', c', rfl, R⟩ := own_slice O'
    exact h A' c' w' R hg
/-- append onto an empty slice without capacity: always a new row. -/
theorem wpList_append_fresh {ops : Array Oper} {rest : List Oper} {o : Oper} {a : Act} {Q : Exit → Act → World → Prop} {w : World} (hgd : o.guard = none) (s x : Operand)
    (ho : o.op = .call { callee := .builtin .append, args := #[s, x], argTypes := #[24, 24] }) {b : Nat} {A2 : Option Addr} {c2 : Nat} {xs : List H3}
    (hs : a.eval s = .slice (some ⟨b, 0, none⟩) 0 0) (hx : a.eval x = .slice A2 xs.length c2) (src : R3 44 w A2 c2 xs) (hl : 0 < xs.length ∧ xs.length ≤ 5000)
    (h : ∀ A' c' w', RB w.heap.size 44 w' A' c' xs → Below w.heap.size w w' → wpList Tryz.prog ops Q rest (a.put o.dst (.slice A' xs.length c')) w') : wpList Tryz.prog ops Q (o :: rest) a w := by
  obtain ⟨i0, hi, hz0, hz1, hz2⟩ := info_parts info_half
  obtain ⟨g, rfl, _⟩ := src.at_ hl.1
  have hl1 := hl.1
  have hl2 := hl.2
  refine wpList_append_grows w hgd s x 24 ho 44 i0 (.agg #[.int .i64 0, .int .i64 0, .int .i64 0]) 3 24 Tryz.underlying24 hi hz0 hz1 hz2 rfl (by decide) (some ⟨b, 0, none⟩) 0 0 [] hs (fun e => by cases e) rfl (fun _ _ j u hj => by simp at hj) ⟨g, 0, none⟩ xs.length c2 (cells3 xs) hx (cells3_length _) (news_row src) (cells3_one _) (by omega) (by unfold maxLen; omega) (by omega) ?_
  intro v' w' O hg
  simp only [Nat.zero_add, List.nil_append] at O
  obtain ⟨A', c', rfl, R⟩ := own_slice O
  exact h A' c' w' R ⟨hg.os, hg.tape, hg.output, hg.size, fun k hk => hg.block k hk (by simp)⟩

section
variable {b n : Nat} {T : TypeId} {E : World → Prop} {K : List (Nat × Nat) × List (Nat × Nat)} {P : Program} {ops : Array Oper} {Q : Exit → Act → World → Prop} {w0 w w' : World} {Rs : List RD} {vs : Nat → Value} {i : Nat} {a a' : Act} {o : Oper} {r : List Oper} {dst : Option Tmp}
/-- An append that may write into the row that it lengthens. -/
theorem wpRelE_app {nd : List Nat} {k : Nat} {dst : Option Tmp} {G : World → Value → World → Prop} (hr : Rs[i]? = some (.rel nd [k] true (IsOw G))) (hki : k = i) (hd : o.dst = dst) (h1 : ∀ x, E (ov w0 x) → (∀ j ∈ nd, holds w0 Rs vs j (ov w0 x)) → wpList P ops (relEndE E K Rs vs w0 i dst a (ov w0 x)) [o] a (ov w0 x)) (h2 : wpRelE E K P ops Q w0 Rs vs (i + 1) r (a.put dst (vs k))) : wpRelE E K P ops Q w0 Rs vs i (o :: r) a := by
  subst hki hd
  refine wpRelE_cons (fun w' ⟨hw, he⟩ hh => ?_) ?_
  · obtain ⟨x, rfl⟩ := hw
    rw [needOf_at hr rfl] at hh
    exact h1 x he hh
  · rw [vv_rel hr]; exact h2
def restPure (Rs : List RD) (K : List (Nat × Nat) × List (Nat × Nat)) (i : Nat) : Bool := (List.range Rs.length).all fun j => j == i || K.1.contains (j, i) || K.2.contains (j, i) || (match Rs[j]? with
  | some (.rel _ _ _ _) => false
  | _ => true)
theorem restPure_ok (h : restPure Rs K i = true) {j : Nat} (hj : j ≠ i) (h1 : (j, i) ∉ K.1) (h2 : (j, i) ∉ K.2) (v : World) : holds w0 Rs vs j v := by
  unfold holds
  cases hq : Rs[j]? with
  | none => trivial
  | some rm =>
    have hl : j < Rs.length := (List.getElem?_eq_some_iff.1 hq).1
    have := List.all_eq_true.1 h j (List.mem_range.2 hl)
    rw [hq] at this
    cases rm with
    | pur _ _ => trivial
    | rel _ _ _ _ =>
      simp only [Bool.or_eq_true, beq_iff_eq, List.contains_iff_mem, Bool.false_eq_true, or_false] at this
      rcases this with (h | h) | h
      · exact absurd h hj
      · exact absurd h h1
      · exact absurd h h2
theorem relEndE_app {k : Nat} {nd : List Nat} {v : Value} {G : World → Value → World → Prop} {A : Option Addr} {c : Nat} {os : List H3} (hr : Rs[i]? = some (.rel nd [k] true (IsOw G))) (hki : k = i) (ha : a' = a.put dst v) (hw : Below w0.heap.size w0 w) (hE : IsOld b T n w) (hT : T ≠ 44)
    (hown : RB w0.heap.size 44 w A c os) (hg : w.grownBy w' (Value.slice A os.length c).ownBlock) (hG : G w0 v w') (hp : restPure Rs K i = true) : relEndE (IsOld b T n) K Rs vs w0 i dst a w .normal a' w' := by
  subst hki
  refine ⟨v, ha, ?_⟩
  unfold relPostE
  rw [hr]
  refine ⟨⟨ov_of_below (grown_below hw hg (fun k hk => (hown.lt k hk).1) (Nat.le_refl _)), ?_⟩, fun j hj h1 h2 _ => restPure_ok hp hj h1 h2 w', v, ?_, hG⟩
  · obtain ⟨cur, h1, h2⟩ := hE
    exact ⟨cur, h1, (hg.block b (Array.getElem?_eq_some_iff.1 h2).1 (hown.ne_box h2 hT)).trans h2⟩
  · simp [vv, hr, updV]
end
end Go.Proofs.YtabmfaamadbefaaGreat