/- Rows of ints in the laws: the argument opened, the copy, the comparison. Condition: at most 2^20 ints where said. -/
import Derived.Test.YtbgdfdibpmfafaaLb
import Derived.Test.YtbgdfdibpmfafaaSf
import Derived.OwnWalk
import Derived.Deep.Slices
import Derived.Deep.Fields
import Derived.ChangeSame
set_option linter.unusedSimpArgs false
set_option linter.unusedVariables false
set_option linter.unusedSectionVars false
namespace Go.Proofs.Ytbgdfdibpmfafaa
open Go.ChangeShapes Go.WideShapes Go.ChangeAt Go.RowKit Go.Joins Go.Deep

/-- A row of ints: any address. -/
def RI (w : World) (A : Option Addr) (xs : List Int) : Prop := ∀ k (hk : k < xs.length), ∃ g o, A = some ⟨g, o, none⟩ ∧ g < w.heap.size ∧ w.cell? ⟨g, o + k, none⟩ = some (.int .i64 xs[k])
theorem RI.below {w w' : World} {A : Option Addr} {xs : List Int} (h : RI w A xs) (hb : Below w.heap.size w w') : RI w' A xs := fun k hk => by
  obtain ⟨g, o, h1, h2, h3⟩ := h k hk
  have := hb.size
  exact ⟨g, o, h1, by omega, (hb.cell (p := ⟨g, o + k, none⟩) h2).trans h3⟩
section
variable {H : Type} {enc : TypeId × Value → H} {w : World} {base : Nat} {spare : Nat → Bool} {held : Bool} {n : Nat}
theorem ints_of_trod {cs : List Value} {y : DataW H × List MemPlace} (h : DataW.trod enc Try.prog w base spare held n 27 cs = some y) : ∃ (A : Option Addr) (c : Nat) (xs : List Int), cs = [.slice A xs.length c] ∧ RI w A xs ∧ xs.length ≤ c ∧ c ≤ maxLen ∧ ∀ x ∈ xs, -9223372036854775808 ≤ x ∧ x ≤ 9223372036854775807 := by
  rcases open_slice Try.underlying27 h with ⟨rfl, _⟩ | ⟨a, len, cap, m, n', D, Pl, rfl, hb, hl, hm, hmm, _, hi⟩
  · exact ⟨none, 0, [], rfl, fun k hk => by simp at hk, Nat.le_refl _, by unfold maxLen; omega, fun x hx => by cases hx⟩
  · have hlm : len ≤ m := by rw [hmm]; split <;> omega
    have cell0 : ∀ i, i < len → ∃ x : Int, w.cell? (a.add i) = some (.int .i64 x) ∧ -9223372036854775808 ≤ x ∧ x ≤ 9223372036854775807 := by
      intro i hi'
      obtain ⟨cs', hc, ht⟩ := hi i (by omega)
      rw [cells_int] at hc
      obtain ⟨_, hcl, hat⟩ := World.cells?_some hc
      match cs', hcl with
      | [c0], _ =>
        obtain ⟨x, rfl, hx⟩ := int_of_trod ht
        have c0 := hat 0 (by omega)
        rw [Go.Deep.add_add, Nat.mul_one, Nat.add_zero] at c0
        exact ⟨x, c0, hx⟩
    have hall : ∀ i, i < len → ∃ x : Int, (∃ g o, (some a : Option Addr) = some ⟨g, o, none⟩ ∧ g < w.heap.size ∧ w.cell? ⟨g, o + i, none⟩ = some (.int .i64 x)) ∧ -9223372036854775808 ≤ x ∧ x ≤ 9223372036854775807 := by
      intro i hi'
      obtain ⟨x0, h0, _⟩ := cell0 0 (by omega)
      obtain ⟨x, c0, hx⟩ := cell0 i hi'
      rw [show a.add 0 = a by simp [Addr.add]] at h0
      obtain ⟨sp, hbk⟩ := cell?_addr h0
      obtain ⟨g, o, sp'⟩ := a
      simp only at sp hbk
      subst sp
      rw [Addr.add_lit] at c0
      exact ⟨x, ⟨g, o, rfl, hbk, c0⟩, hx⟩
    obtain ⟨xs, hxl, hx⟩ := list_of len hall
    subst hxl
    refine ⟨some a, cap, xs, rfl, fun k hk => (hx k hk).1, hl, hm, fun x hxm => ?_⟩
    obtain ⟨i, hi', rfl⟩ := List.mem_iff_getElem.1 hxm
    exact (hx i hi').2
set_option maxRecDepth 100000 in
theorem open_ints {v : Value} {d : DataW H} {p : List MemPlace} {r : Reach} {b0 : Nat} (hv : Value.okWide Try.prog w r b0 27 v) (h : DataW.Trod enc Try.prog w base spare held 27 v d p) :
    ∃ (A : Option Addr) (c : Nat) (xs : List Int), v = .slice A xs.length c ∧ RI w A xs ∧ xs.length ≤ 9223372036854775807 ∧ ∀ x ∈ xs, -9223372036854775808 ≤ x ∧ x ≤ 9223372036854775807 := by
  obtain ⟨fuel, hf⟩ := h
  obtain ⟨A, c, xs, e, h1, h2, h3, h4⟩ := ints_of_trod hf
  obtain ⟨a, l, k, rfl⟩ := okWide_slice Try.underlying27 hv
  simp [Value.cells] at e
  exact ⟨A, c, xs, by rw [e.1, e.2.1, e.2.2], h1, by unfold maxLen at h3; omega, h4⟩
end

/-- A block of ints. -/
def IB (g : Nat) (w : World) (xs : List Int) : Prop := ∃ cur : Array Value, w.heap[g]? = some (.cells cur 3 (0, 0)) ∧ cur.size = xs.length ∧ ∀ j (hj : j < xs.length), cur[j]? = some (.int .i64 xs[j])
theorem IB.lt {g : Nat} {w : World} {xs : List Int} (h : IB g w xs) : g < w.heap.size := by
  obtain ⟨cur, h1, _⟩ := h
  exact (Array.getElem?_eq_some_iff.1 h1).1
theorem IB.below {g : Nat} {w w' : World} {xs : List Int} (h : IB g w xs) (hb : Below w.heap.size w w') : IB g w' xs := by
  have hl := h.lt
  obtain ⟨cur, h1, h2⟩ := h
  exact ⟨cur, (hb.block g hl).trans h1, h2⟩
theorem IB.ri {g : Nat} {w : World} {xs : List Int} (h : IB g w xs) : RI w (some ⟨g, 0, none⟩) xs := fun k hk => by
  have hl := h.lt
  obtain ⟨cur, h1, _, h3⟩ := h
  exact ⟨g, 0, rfl, hl, by rw [Nat.zero_add]; exact cell_blk h1 (h3 k hk)⟩
theorem IB.ne {g b : Nat} {w : World} {xs : List Int} {arr : Array Value} {T : TypeId} {fr : Nat × Nat} (h : IB g w xs) (hb : w.heap[b]? = some (.cells arr T fr)) (hT : T ≠ 3) : some b ≠ some g := by
  obtain ⟨cur, h1, _⟩ := h
  intro e
  injection e with e
  subst e
  rw [h1] at hb
  injection hb with hb; injection hb with _ hb; exact hT hb.symm
theorem IB.apart {g : Nat} {w : World} {xs : List Int} {B : Nat} {E : TypeId} {A : Option Addr} {c : Nat} {ys : List H3} (h : IB g w xs) (R : RB B E w A c ys) (hT : E ≠ 3) : A ≠ some ⟨g, 0, none⟩ := by
  rintro rfl
  rcases R.2 with ⟨e, _⟩ | ⟨g', cap, cu, e1, _, hh, _⟩
  · cases e
  · injection e1 with e1; injection e1 with e1; injection e1 with e1
    subst e1
    exact h.ne hh hT rfl
theorem RB.grown_i {B g : Nat} {E : TypeId} {w w' : World} {A : Option Addr} {c : Nat} {xs : List H3} (h : RB B E w A c xs) (hg : w.grownBy w' (some g)) (hne : A ≠ some ⟨g, 0, none⟩) : RB B E w' A c xs := by
  refine ⟨h.1, ?_⟩
  rcases h.2 with e | ⟨g', cap, cu, e1, hgB, hh, hr⟩
  · exact .inl e
  · refine .inr ⟨g', cap, cu, e1, hgB, ?_, hr⟩
    refine (hg.block g' (Array.getElem?_eq_some_iff.1 hh).1 fun e => ?_).trans hh
    injection e with e
    subst e
    injection e1 with e1
    exact hne e1
theorem box_grown_i {W W' : World} {b g : Nat} {o : Obj} (h : Hid (W.heap[b]? = some o)) (K : W.grownBy W' (some g)) (hne : some b ≠ some g) : Hid (W'.heap[b]? = some o) := Lib.hid ((K.block b (Array.getElem?_eq_some_iff.1 h.out).1 hne).trans h.out)
theorem IB.grown {g : Nat} {w w' : World} {xs : List Int} {o : Option Nat} (h : IB g w xs) (hg : w.grownBy w' o) (hne : some g ≠ o) : IB g w' xs := by
  have hl := h.lt
  obtain ⟨cur, h1, h2⟩ := h
  exact ⟨cur, (hg.block g hl hne).trans h1, h2⟩
theorem RB.ne_i {B g n : Nat} {E : TypeId} {w : World} {A : Option Addr} {c : Nat} {ys : List H3} {xs : List Int} (R : RB B E w A c ys) (h : IB g w xs) (hT : E ≠ 3) : some g ≠ (Value.slice A n c).ownBlock := by
  obtain ⟨cur, h1, _⟩ := h
  exact R.ne_box h1 (fun e => hT e.symm)
/-- What a call that copies a row of ints leaves: a new block. -/
def IntsOut (w : World) (xs : List Int) (e : Ending) (w' : World) : Prop := ∃ g c, e = .returned (.slice (some ⟨g, 0, none⟩) xs.length c) ∧ w.heap.size ≤ g ∧ IB g w' xs ∧ Below w.heap.size w w'

theorem info_int : (Try.prog.info? 3).map (fun i => (i.zero, i.size, i.bytes)) = some (some (.int .i64 0), 1, 8) := by kernel_rfl
theorem info_int_parts : ∃ i, Try.prog.info? 3 = some i ∧ i.zero = some (.int .i64 0) ∧ i.size = 1 ∧ i.bytes = 8 := by
  have h := info_int
  cases hq : Try.prog.info? 3 with
  | none => rw [hq] at h; cases h
  | some i => rw [hq] at h; simp at h; exact ⟨i, rfl, h.1, h.2.1, h.2.2⟩

def smallI (n : Int) : Bool := inR n (-20) 20
def mapOk (m : List Int) (q : Int) : Bool := decide (m.length = 4) && inR q 1 20 && m.all smallI
theorem isMap_eq {m : List Int} {q : Int} {A : Option Addr} {c : Nat} {w : World} {v : Bool} (R : RI w A m) (hl : m.length ≤ 1000000000) (h : Hid (mapOk m q = v)) :
    Calls Try.prog 30 #[.slice A m.length c, .int .i64 q] w fun e w' => e = .returned (.bool v) ∧ Below w.heap.size w w' := by
  have h' := h.out
  clear h
  unfold mapOk at h'
  by_cases h4 : m.length = 4
  · have hz : ((m.length : Int) != 4) = false := by simp; omega
    rw [decide_eq_true h4, Bool.true_and] at h'
    cases hq : inR q 1 20 with
    | false =>
      rw [hq, Bool.false_and] at h'
      subst h'
      clear h4
      go_enter Try.func30, Try.ntmps30
      go_wp2_with ((go_at_call 53; refine (inRange_eq hq).mono ?_; rintro e w' ⟨rfl, rfl⟩))
      go_ret
      exact ⟨rfl, (by repeat (first | exact bR | refine bO ?_ | refine bA ?_ | refine bS ?_ | refine bD ?_ | refine bN ?_))⟩
    | true =>
      rw [hq, Bool.true_and] at h'
      have HV := Lib.hid h'
      clear h' h4
      go_enter Try.func30, Try.ntmps30
      go_wp2_with ((go_at_call 53; refine (inRange_eq hq).mono ?_; rintro e w' ⟨rfl, rfl⟩))
      go_loopw [17] (fun i wr => ∃ k : Nat, k ≤ m.length ∧ i = .int .i64 k ∧ Hid ((m.take k).all smallI = true) ∧ Below w.heap.size w wr) (fun i _ => m.length - (intOf i).toNat)
      case atStart => exact ⟨0, Nat.zero_le _, rfl, Lib.hid rfl, Below.refl _ _⟩
      case round =>
        obtain ⟨k, hk, rfl, HA, hb⟩ := hrel
        have hbs := hb.size
        by_cases hlt : k < m.length
        · obtain ⟨g, o, rfl, hg, z0⟩ := (R.below hb) k hlt
          have HT := Lib.hid (all_take_succ smallI m k hlt)
          clear R
          cases hs : inR m[k] (-20) 20 with
          | true =>
            have HB := Lib.hid (show smallI m[k] = true from hs)
            go_wp2_with ((go_at_call 53; refine (inRange_eq hs).mono ?_; rintro e w' ⟨rfl, rfl⟩))
            go_roundw
            case rel => exact ⟨k + 1, by omega, by go_num, Lib.hid (by rw [HT.out, HA.out, HB.out]; rfl), (by repeat (first | exact hb | refine bO ?_ | refine bA ?_ | refine bS ?_ | refine bD ?_ | refine bN ?_))⟩
            case measure => simp [intOf] <;> omega
          | false =>
            obtain rfl : v = false := by
              rw [← HV.out, List.all_eq_false]
              exact ⟨m[k], List.getElem_mem hlt, by show ¬ smallI m[k] = true; unfold smallI; rw [hs]; simp⟩
            go_wp2_with ((go_at_call 53; refine (inRange_eq hs).mono ?_; rintro e w' ⟨rfl, rfl⟩))
            go_ret
            exact ⟨rfl, (by repeat (first | exact hb | refine bO ?_ | refine bA ?_ | refine bS ?_ | refine bD ?_ | refine bN ?_))⟩
        · obtain rfl : k = m.length := by omega
          obtain rfl : v = true := by rw [← HV.out, ← HA.out, List.take_length]
          go_wp2
          go_ret
          exact ⟨rfl, hb⟩
  · have hz : ((m.length : Int) != 4) = true := by simp; omega
    have hz' : ¬ ((m.length : Int) = 4) := by omega
    rw [decide_eq_false h4, Bool.false_and, Bool.false_and] at h'
    subst h'
    clear h4
    go_enter Try.func30, Try.ntmps30
    go_wp2
    go_ret
    exact ⟨rfl, (by repeat (first | exact bR | refine bO ?_ | refine bA ?_ | refine bS ?_ | refine bD ?_ | refine bN ?_))⟩
theorem RI.four {w : World} {A : Option Addr} {a b e f : Int} (R : RI w A [a, b, e, f]) : ∃ g o, A = some ⟨g, o, none⟩ ∧ g < w.heap.size ∧ w.cell? ⟨g, o, none⟩ = some (.int .i64 a) ∧ w.cell? ⟨g, o + 1, none⟩ = some (.int .i64 b) ∧ w.cell? ⟨g, o + 2, none⟩ = some (.int .i64 e) ∧ w.cell? ⟨g, o + 3, none⟩ = some (.int .i64 f) := by
  obtain ⟨g, o, rfl, h1, c0⟩ := R 0 (by simp)
  obtain ⟨g1, o1, e1, _, c1⟩ := R 1 (by simp)
  obtain ⟨g2, o2, e2, _, c2⟩ := R 2 (by simp)
  obtain ⟨g3, o3, e3, _, c3⟩ := R 3 (by simp)
  injection e1 with e1; injection e1 with e1 f1; subst e1 f1
  injection e2 with e2; injection e2 with e2 f2; subst e2 f2
  injection e3 with e3; injection e3 with e3 f3; subst e3 f3
  exact ⟨g, o, rfl, h1, c0, c1, c2, c3⟩
theorem isStB_pur {w0 w : World} {Rs : List RD} {vs : Nat → Value} {T : TypeId} {m j b : Nat} {nj nm : List Nat} {wm : Bool} {u : Value} (h : holds w0 Rs vs m w) (hr : Rs[m]? = some (.rel nm [j] wm (IsStB b T))) (hj : Rs[j]? = some (.pur nj u)) :
    w.heap[b]? = some (.cells u.cells T (0, 0)) := by
  unfold holds at h
  rw [hr] at h
  obtain ⟨u', e, h1⟩ := h
  simp only [List.map_cons, List.map_nil, vv_pur hj, List.cons.injEq, and_true] at e
  subst e
  exact h1

end Go.Proofs.Ytbgdfdibpmfafaa
