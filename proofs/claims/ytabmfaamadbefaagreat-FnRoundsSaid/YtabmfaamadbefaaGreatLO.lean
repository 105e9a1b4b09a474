/- Several texts in one: Zo, LO. Each says its own conditions. -/
import Derived.Test.YtabmfaamadbefaaGreatZr
import Derived.Test.YtabmfaamadbefaaGreatQi
import Derived.Test.YtabmfaamadbefaaGreatQl
import Derived.Test.YtabmfaamadbefaaGreatQz
import Derived.Test.YtabmfaamadbefaaGreatCst
import Derived.Test.YtabmfaamadbefaaGreatQf
import Derived.Test.YtabmfaamadbefaaGreatQq
import Derived.Test.YtabmfaamadbefaaGreatQg
import Derived.Test.YtabmfaamadbefaaGreatWn
/- Plain: runs of none, one and two rounds at a drawn room, and the loss of its limits (FnRounds). No program. -/
set_option linter.unusedSimpArgs false
set_option linter.unusedVariables false
set_option linter.unusedSectionVars false
namespace Go.Proofs.YtabmfaamadbefaaGreat
open Go.RowKit
def ratP (a : Int × Int) : Prop := ratioOk a.1 a.2 = true
theorem ratP_pos {a : Int × Int} (h : ratP a) : 0 < a.2 := by
  unfold ratP ratioOk at h
  simp only [Bool.and_eq_true, inR_iff] at h
  omega
theorem cmp_fr {a b : Int × Int} (ha : ratP a) (hb : ratP b) : ratioCmp a.1 a.2 b.1 b.2 ≤ 0 ↔ fr a ≤ fr b := by
  have h1 := ratP_pos ha
  have h2 := ratP_pos hb
  unfold ratioCmp
  rw [if_pos ⟨ha, hb⟩]
  have := cmpF_pos (m := a) (n := b) h1 h2
  constructor
  · intro h
    apply Classical.byContradiction; intro hn
    have := this.2 (by grind)
    omega
  · intro h
    apply Classical.byContradiction; intro hn
    have := this.1 (by omega)
    grind
theorem fr_one (n : Int) : fr (n, 1) = (n : Rat) := by unfold fr; simp only; grind
theorem div_leR {t m u : Rat} (hm : 0 < m) : t / m ≤ u ↔ t ≤ u * m := by
  have e : t / m * m = t := by grind
  constructor
  · intro h
    have := Rat.mul_le_mul_of_nonneg_right h (show (0 : Rat) ≤ m by grind)
    grind
  · intro h
    apply Classical.byContradiction; intro hn
    have := Rat.mul_pos (show (0 : Rat) < t / m - u by grind) hm
    grind
theorem le_divR {t m u : Rat} (hm : 0 < m) : u ≤ t / m ↔ u * m ≤ t := by
  have e : t / m * m = t := by grind
  constructor
  · intro h
    have := Rat.mul_le_mul_of_nonneg_right h (show (0 : Rat) ≤ m by grind)
    grind
  · intro h
    apply Classical.byContradiction; intro hn
    have := Rat.mul_pos (show (0 : Rat) < u - t / m by grind) hm
    grind
theorem rat_sign {n d : Int} (hn : -1000000000000000000 ≤ n ∧ n ≤ 1000000000000000000) (hd : 0 < d ∧ d ≤ 1000000000000000) : (ratOf n d).1 ≤ 0 ↔ n ≤ 0 := by
  obtain ⟨g, a, b, e, g0, ea, eb, qa, qb, b0, hc⟩ := gcd2_parts (n := n) hd.1
  have ha := mul_le_bd (a := a) (M := 1000000000000000000) g0 (by omega) (by rw [← ea]; exact hn)
  have hb := mul_le_bd (a := b) (M := 1000000000000000) g0 (by omega) (by rw [← eb]; omega)
  have ok : ratioOk a b = true := (ratioOk_parts b0 hc (by omega)).2 ⟨by omega, ha⟩
  rw [ratOf_red e qa qb, if_pos ok]
  simp only
  have gz : (0 : Int) < (g : Int) := by omega
  constructor
  · intro h
    have := Int.mul_le_mul_of_nonneg_right h (Int.le_of_lt gz)
    rw [ea]
    omega
  · intro h
    apply Classical.byContradiction
    intro hh
    have := Int.mul_pos (show 0 < a by omega) gz
    omega
theorem fr_sign {w : Int × Int} (h : ratP w) : fr w ≤ 0 ↔ w.1 ≤ 0 := by
  have h2 := ratP_pos h
  have q0 : (0 : Rat) < (w.2 : Rat) := by exact_mod_cast h2
  unfold fr
  rw [div_leR q0]
  constructor
  · intro k
    have k' : (w.1 : Rat) ≤ ((0 : Int) : Rat) := by rw [Rat.zero_mul] at k; exact k
    exact_mod_cast k'
  · intro k
    have k' : (w.1 : Rat) ≤ ((0 : Int) : Rat) := le_cast k
    rw [Rat.zero_mul]
    exact k'
theorem loss_sign {p : List H3} {h : H3} (kp : regionOk p = true) (hp : p ≠ []) (k : HOk h) : fr (lossF p h) ≤ 0 ↔ ∀ x, setR p x → In h x := by
  have ok : ratP (lossF p h) := loss_ok kp hp k
  have B := loss_bd kp hp k
  rw [fr_sign ok]
  unfold lossF
  have := B.s; have := B.c; have := B.d
  rw [rat_sign (by omega) (by omega)]
  obtain ⟨⟨u, v⟩, hs⟩ : ∃ s, supN h.a h.b p = s := ⟨_, rfl⟩
  obtain ⟨q0, hmax, x0, hx0, e0⟩ := sup_set kp hp k.ba k.bb k.nz hs
  rw [hs]
  simp only
  have q1 : (0 : Rat) < (v : Rat) := by exact_mod_cast q0
  have hv : ∀ x, val h x = val ⟨h.a, h.b, 0⟩ x := fun x => rfl
  constructor
  · intro hle x hx
    have m := hmax x hx
    have c1 : ((u : Int) : Rat) ≤ ((h.c * v : Int) : Rat) := le_cast (by omega)
    push_cast at c1
    unfold In
    rw [hv]
    exact Rat.le_of_mul_le_mul_right (by grind) q1
  · intro hin
    have m := hin x0 hx0
    unfold In at m
    rw [hv] at m
    have m2 := Rat.mul_le_mul_of_nonneg_right m (Rat.le_of_lt q1)
    have c1 : ((u : Int) : Rat) ≤ ((h.c * v : Int) : Rat) := by push_cast; grind
    have c2 : u ≤ h.c * v := by exact_mod_cast c1
    omega
theorem best_fold {p : List H3} (kp : regionOk p = true) (hp : p ≠ []) : ∀ (l : List H3), (∀ h ∈ l, HOk h) → ∀ (st : Int × Int), ratP st → 0 ≤ fr st → ∀ out, l.foldl (fun st h => if 0 ≤ ratioCmp st.1 st.2 (lossF p h).1 (lossF p h).2 then st else lossF p h) st = out → ratP out ∧ 0 ≤ fr out ∧ (fr out ≤ 0 ↔ fr st ≤ 0 ∧ ∀ h ∈ l, ∀ x, setR p x → In h x)
  | [], _, st, hst, h0, out, ho => by
    simp only [List.foldl_nil] at ho
    subst ho
    exact ⟨hst, h0, fun h => ⟨h, fun _ k => nomatch k⟩, fun h => h.1⟩
  | h :: l, hl, st, hst, h0, out, ho => by
    have k := hl h List.mem_cons_self
    have ok : ratP (lossF p h) := loss_ok kp hp k
    have ls := loss_sign kp hp k
    have sw : ratioCmp st.1 st.2 (lossF p h).1 (lossF p h).2 = - ratioCmp (lossF p h).1 (lossF p h).2 st.1 st.2 := ratioCmp_swap ok hst
    have cm := cmp_fr ok hst
    simp only [List.foldl_cons] at ho
    split at ho
    · rename_i hc
      have hle : fr (lossF p h) ≤ fr st := cm.1 (by omega)
      obtain ⟨r1, r2, r3⟩ := best_fold kp hp l (fun g hg => hl g (List.mem_cons_of_mem _ hg)) st hst h0 out ho
      refine ⟨r1, r2, ?_⟩
      rw [r3]
      constructor
      · rintro ⟨a, b⟩
        refine ⟨a, fun g hg => ?_⟩
        rcases List.mem_cons.1 hg with rfl | hg
        · exact ls.1 (by grind)
        · exact b g hg
      · rintro ⟨a, b⟩
        exact ⟨a, fun g hg => b g (List.mem_cons_of_mem _ hg)⟩
    · rename_i hc
      have hlt : ¬ fr (lossF p h) ≤ fr st := fun k => hc (by have := cm.2 k; omega)
      have h0' : 0 ≤ fr (lossF p h) := by grind
      obtain ⟨r1, r2, r3⟩ := best_fold kp hp l (fun g hg => hl g (List.mem_cons_of_mem _ hg)) _ ok h0' out ho
      refine ⟨r1, r2, ?_⟩
      rw [r3]
      constructor
      · rintro ⟨a, b⟩
        exact absurd a (by grind)
      · rintro ⟨a, b⟩
        exact absurd (ls.2 (b h List.mem_cons_self)) (by grind)
theorem best_sign {p l : List H3} (kp : regionOk p = true) (hp : p ≠ []) (hl : ∀ h ∈ l, HOk h) : 0 ≤ (bestL p l).1 ∧ ((bestL p l).1 = 0 ↔ ∀ h ∈ l, ∀ x, setR p x → In h x) := by
  have o1 : ratP ((0 : Int), (1 : Int)) := whole_rat (by omega)
  have f1 : fr ((0 : Int), (1 : Int)) = 0 := by rw [fr_one]; rfl
  obtain ⟨r1, r2, r3⟩ := best_fold kp hp l hl (0, 1) o1 (by rw [f1]; exact Rat.le_refl) (bestL p l) rfl
  have s := fr_sign r1
  have n0 : 0 ≤ (bestL p l).1 := by
    have h2 := ratP_pos r1
    have q0 : (0 : Rat) < ((bestL p l).2 : Rat) := by exact_mod_cast h2
    unfold fr at r2
    rw [le_divR q0] at r2
    have k' : ((0 : Int) : Rat) ≤ ((bestL p l).1 : Rat) := by rw [Rat.zero_mul] at r2; exact r2
    exact_mod_cast k'
  refine ⟨n0, ?_⟩
  rw [f1] at r3
  constructor
  · intro h
    exact (r3.1 (s.2 (by omega))).2
  · intro h
    have := s.1 (r3.2 ⟨Rat.le_refl, h⟩)
    omega
theorem run_zero {r : RoomV} (k : roomOk r = true) : runR r 0 = ((r.ls, 0, false), true) := by
  unfold runR
  rw [if_pos ⟨k, rfl⟩]
  rfl
theorem run_one {r : RoomV} (k : roomOk r = true) {k1 : List H3} {t1 : Bool} (h : keepR r r.ls = (k1, t1)) : runR r 1 = if t1 = true then (if k1 = r.ls then ((r.ls, 0, true), true) else ((k1, 1, false), true)) else (([], 0, false), false) := by
  unfold runR
  rw [if_pos ⟨k, rfl⟩]
  show keptV (runL (keepR r) 1 r.ls 0) = _
  unfold runL
  rw [h]
  simp only
  cases t1 with
  | false => rfl
  | true =>
    simp only [if_true]
    by_cases e : k1 = r.ls
    · rw [if_pos e, if_pos e]; rfl
    · rw [if_neg e, if_neg e]; rfl
theorem run_two {r : RoomV} (k : roomOk r = true) {k1 k2 : List H3} {t1 t2 : Bool} (h : keepR r r.ls = (k1, t1)) (h2 : keepR r k1 = (k2, t2)) : runR r 2 = if t1 = true then (if k1 = r.ls then ((r.ls, 0, true), true) else if t2 = true then (if k2 = k1 then ((k1, 1, true), true) else ((k2, 2, false), true)) else (([], 0, false), false)) else (([], 0, false), false) := by
  unfold runR
  rw [if_pos ⟨k, rfl⟩]
  show keptV (runL (keepR r) (1 + 1) r.ls 0) = _
  unfold runL
  rw [h]
  simp only
  cases t1 with
  | false => rfl
  | true =>
    simp only [if_true]
    by_cases e : k1 = r.ls
    · rw [if_pos e, if_pos e]; rfl
    · rw [if_neg e, if_neg e]
      unfold runL
      rw [h2]
      simp only
      cases t2 with
      | false => rfl
      | true =>
        simp only [if_true]
        by_cases e2 : k2 = k1
        · rw [if_pos e2, if_pos e2]; rfl
        · rw [if_neg e2, if_neg e2]; rfl
theorem runL_more {F : List H3 → List H3 × Bool} : ∀ (n m : Nat) (p : List H3) (k : Nat) {q : List H3} {k' : Nat}, runL F n p k = some (q, k', true) → runL F (n + m) p k = some (q, k', true)
  | 0, m, p, k, q, k', h => by simp [runL] at h
  | n + 1, m, p, k, q, k', h => by
    rw [Nat.add_right_comm]
    unfold runL at h ⊢
    split at h
    · rename_i hf
      rw [if_pos hf]
      split at h
      · rename_i he
        rw [if_pos he]; exact h
      · rename_i he
        rw [if_neg he]
        exact runL_more n m _ _ h
    · cases h
/-- What FnRounds says of a drawn room. -/
structure RoundsP (r : RoomV) (b c : List H3) (cn : Int) (bs cs : Bool) : Prop where
  wb : isWithinR b r.ls = true
  wc : isWithinR c b = true
  n : cn ≤ 2
  st : bs = true → cs = true
  loss : ∀ l1 l2, lossR r 0 = ((l1, l2), true) → 0 ≤ l1 ∧ (l1 = 0 ↔ r.ls = b)
  kept : ∀ p, keptR r = (p, true) → isWithinR p c = true ∧ (cs = true → p = c)
theorem keep_with {r : RoomV} {p o : List H3} (h : keepR r p = (o, true)) : isWithinR o p = true := by
  obtain ⟨_, q, K⟩ := keep_parts h
  exact within_iff.2 ⟨K.ko, K.kp, fun x hx => ((K.so x).1 hx).2.1⟩
theorem within_refl {p : List H3} (k : regionOk p = true) : isWithinR p p = true := within_iff.2 ⟨k, k, fun _ h => h⟩
theorem keptR_run {r : RoomV} {p c : List H3} {cn : Int} (h : runR r 2 = ((c, cn, true), true)) (hp : keptR r = (p, true)) : p = c := by
  obtain ⟨hk, _, k', e, hr⟩ := runR_parts h
  have h12 := runL_more 2 10 _ _ hr
  unfold keptR at hp
  have e12 : runR r 12 = ((c, (k' : Int), true), true) := by
    unfold runR
    rw [if_pos ⟨hk, rfl⟩]
    show keptV (runL (keepR r) (2 + 10) r.ls 0) = _
    rw [h12]
    rfl
  rw [e12] at hp
  unfold keptOf at hp
  rw [if_pos ⟨rfl, rfl⟩] at hp
  injection hp with q _
  exact q.symm
theorem kept_in {r : RoomV} {p c : List H3} {cn : Int} {cs : Bool} (h : runR r 2 = ((c, cn, cs), true)) (kc : regionOk c = true) (hp : keptR r = (p, true)) : isWithinR p c = true := by
  obtain ⟨hk, hP, hs, _⟩ := keptR_parts hp
  obtain ⟨_, _, k', e, hr⟩ := runR_parts h
  exact within_iff.2 ⟨keptR_reg hp, kc, runL_super (RoomLe.refl r) hP _ _ _ hr hs⟩
theorem loss_law {r : RoomV} (D : RoomD r) {k1 : List H3} (h : keepR r r.ls = (k1, true)) {l1 l2 : Int} (hl : lossR r 0 = ((l1, l2), true)) : 0 ≤ l1 ∧ (l1 = 0 ↔ r.ls = k1) := by
  have kr := (limits D).reg
  have kk := keepR_reg h
  unfold lossR lossOf at hl
  rw [run_zero (room_ok D)] at hl
  simp only at hl
  split at hl
  · rename_i hc
    obtain ⟨_, _, c1, c2⟩ := hc
    rw [h] at hl c2
    simp only at hl c2
    obtain ⟨b1, b2⟩ := best_sign (l := k1) kr c1 (region_good kk).1
    have e1 : (bestL r.ls k1).1 = l1 := by injection hl with q _; rw [q]
    rw [e1] at b1 b2
    refine ⟨b1, b2.trans ⟨fun hin => ?_, fun e => ?_⟩⟩
    · refine set_eq kr kk fun x => ⟨fun hx => ⟨c2, fun g hg => hin g hg x hx⟩, fun hx => keep_sub h x hx⟩
    · intro g hg x hx
      rw [e] at hx
      exact hx.2 g hg
  · injection hl with _ q; cases q
theorem rounds_law {r : RoomV} (D : RoomD r) {b c : List H3} {bn cn : Int} {bs cs : Bool} (hb : runR r 1 = ((b, bn, bs), true)) (hc : runR r 2 = ((c, cn, cs), true)) : RoundsP r b c cn bs cs := by
  have k := room_ok D
  have kr := (limits D).reg
  obtain ⟨⟨k1, t1⟩, h1⟩ : ∃ v, keepR r r.ls = v := ⟨_, rfl⟩
  obtain ⟨⟨k2, t2⟩, h2⟩ : ∃ v, keepR r k1 = v := ⟨_, rfl⟩
  have hb' := hb
  have hc' := hc
  rw [run_one k h1] at hb'
  rw [run_two k h1 h2] at hc'
  cases t1 with
  | false => simp at hb'
  | true =>
    have kk := keepR_reg h1
    simp only [if_true] at hb' hc'
    have hloss := fun l1 l2 (hl : lossR r 0 = ((l1, l2), true)) => loss_law D h1 hl
    by_cases e : k1 = r.ls
    · rw [if_pos e] at hb' hc'
      simp only [Prod.mk.injEq, and_true] at hb' hc'
      obtain ⟨rfl, rfl, rfl⟩ := hb'
      obtain ⟨rfl, rfl, rfl⟩ := hc'
      refine ⟨within_refl kr, within_refl kr, by omega, fun h => h, fun l1 l2 hl => ?_, fun p hp => ⟨kept_in hc kr hp, fun _ => keptR_run hc hp⟩⟩
      have := hloss l1 l2 hl
      rw [e] at this
      exact this
    · rw [if_neg e] at hb' hc'
      simp only [Prod.mk.injEq, and_true] at hb'
      obtain ⟨rfl, rfl, rfl⟩ := hb'
      cases t2 with
      | false => simp at hc'
      | true =>
        have kk2 := keepR_reg h2
        simp only [if_true] at hc'
        by_cases e2 : k2 = k1
        · rw [if_pos e2] at hc'
          simp only [Prod.mk.injEq, and_true] at hc'
          obtain ⟨rfl, rfl, rfl⟩ := hc'
          exact ⟨keep_with h1, within_refl kk, by omega, fun h => rfl, hloss, fun p hp => ⟨kept_in hc kk hp, fun _ => keptR_run hc hp⟩⟩
        · rw [if_neg e2] at hc'
          simp only [Prod.mk.injEq, and_true] at hc'
          obtain ⟨rfl, rfl, rfl⟩ := hc'
          exact ⟨keep_with h1, keep_with h2, by omega, fun h => (by cases h), hloss, fun p hp => ⟨kept_in hc kk2 hp, fun h => (by cases h)⟩⟩
theorem can_far (r : RoomV) : canR r 2000 0 1 = false := by
  have : spotOk 2000 0 1 = false := rfl
  unfold canR hasSpotR
  rw [this]
  simp
end Go.Proofs.YtabmfaamadbefaaGreat
/- FnRounds returns true for every argument, and leaves it as it was. No condition. -/
set_option linter.unusedVariables false
set_option linter.unusedSimpArgs false
set_option linter.unusedSectionVars false
namespace Go.Proofs.YtabmfaamadbefaaGreat
open Go.ChangeShapes Go.WideShapes Go.ChangeAt Go.RowKit Go.Joins
theorem bel_ {B : Nat} {a w : World} (h : Below B a w := by repeat (first | exact bR | refine bO ?_ | refine bA ?_ | refine bS ?_ | refine bD ?_ | refine bN ?_)) : Below B a w := h
set_option maxRecDepth 100000 in
set_option maxHeartbeats 8000000 in
theorem lawO_any {bs : List Int} {A : Option Addr} {c : Nat} (w : World) (Rcode : RY w A bs) (hlen : bs.length ≤ 9223372036854775807) :
    Calls Tryz.prog 5 #[.slice A bs.length c] w fun e w' => e = .returned (.bool true) ∧ Below w.heap.size w w' := by
  by_cases hm : 1048576 < bs.length
  · go_enter Tryz.func5, Tryz.ntmps5
    go_wp2
    go_ret
    exact ⟨rfl, bel_⟩
  replace hm : bs.length ≤ 1048576 := by omega
  go_enter Tryz.func5, Tryz.ntmps5
  go_wp2_with fail
  obtain ⟨V, hV⟩ : ∃ V, V = w := ⟨_, rfl⟩
  have TV : Below w.heap.size w V := by rw [hV]; exact Below.refl _ _
  have s0 : w.heap.size ≤ V.heap.size := TV.size
  obtain ⟨W0, hW⟩ : ∃ W0, W0 = w := ⟨_, rfl⟩
  rw [← hW]
  have T : Below V.heap.size V W0 := by rw [hW, hV]; exact Below.refl _ _
  clear hW hV
  have Scode := Rcode.below (TV.trans (T.mono s0))
  refine (MakeRoom_any (Scode.below bel_) hm).mono ?_
  rintro e W1 ⟨r, gr, cr1, Ar2, cr2, Ar3, cr3, rfl, Xr, D, hb⟩
  have K : Below W0.heap.size W0 W1 := Below.trans bel_ (hb.mono (by first | exact Nat.le_refl _ | simp [ov_size]))
  clear hb
  replace T := T.trans (K.mono T.size)
  clear K Scode
  have Scode := Rcode.below (TV.trans (T.mono s0))
  have hsr := short_room D
  go_wp2_with fail
  obtain ⟨br, hbx⟩ : ∃ b, b = W1.heap.size := ⟨_, rfl⟩
  rw [← hbx]
  obtain ⟨W2, hW⟩ : ∃ W, W = W1.alloc (.cells #[.slice (some ⟨gr, 0, none⟩) r.m.length cr1, .int .i64 r.q, .int .i64 r.bx, .int .i64 r.by_, .int .i64 r.lo, .int .i64 r.hi, .slice Ar2 r.ns.length cr2, .slice Ar3 r.ls.length cr3] 28) := ⟨_, rfl⟩
  rw [← hW]
  have K : Below W1.heap.size W1 W2 := by rw [hW]; exact bel_
  have Br := Lib.hid (show W2.heap[br]? = some (.cells #[.slice (some ⟨gr, 0, none⟩) r.m.length cr1, .int .i64 r.q, .int .i64 r.bx, .int .i64 r.by_, .int .i64 r.lo, .int .i64 r.hi, .slice Ar2 r.ns.length cr2, .slice Ar3 r.ls.length cr3] 28 (0, 0)) by rw [hW, hbx]; exact heap_alloc_new _ _)
  clear hW hbx
  replace T := T.trans (K.mono T.size)
  replace Xr := Xr.below K
  clear K Scode
  have Scode := Rcode.below (TV.trans (T.mono s0))
  obtain ⟨⟨⟨rb, bn, bst⟩, two⟩, hrb⟩ : ∃ v, runR r 1 = v := ⟨_, rfl⟩
  obtain ⟨⟨⟨rc, cn, cst⟩, three⟩, hrc⟩ : ∃ v, runR r 2 = v := ⟨_, rfl⟩
  obtain ⟨⟨⟨l1, l2⟩, fine⟩, hl⟩ : ∃ v, lossR r 0 = v := ⟨_, rfl⟩
  obtain ⟨⟨p, kept⟩, hp⟩ : ∃ v, keptR r = v := ⟨_, rfl⟩
  have lr : r.ls.length ≤ 40 := by have := (limits D).len; omega
  have lb := (region_good (runR_reg hrb)).2
  have lc := (region_good (runR_reg hrc)).2
  have lp := (region_good (keptR_reg hp)).2
  have hlaw : two = true → three = true → RoundsP r rb rc cn bst cst := fun e1 e2 => rounds_law D (by rw [hrb, e1]) (by rw [hrc, e2])
  have HLAW := Lib.hid hlaw
  have HA := Lib.hid (run_zero (room_ok D))
  have HB := Lib.hid hrb
  have HC := Lib.hid hrc
  have HL := Lib.hid hl
  have HP := Lib.hid hp
  have HF := Lib.hid (can_far r)
  have SF : SpB 2000 0 1 := ⟨by omega, by omega, by omega⟩
  clear hrb hrc hl hp hlaw
  refine (impl_RunRounds_eq (by exact Xr.below bel_) hsr HA).mono ?_
  rintro e W3 ⟨Aa, ca, rfl, Xa, hb⟩
  have K : Below W2.heap.size W2 W3 := Below.trans bel_ (hb.mono (by first | exact Nat.le_refl _ | simp [ov_size]))
  clear hb
  replace T := T.trans (K.mono T.size)
  replace Br := box_below Br K
  replace Xr := Xr.below K
  clear K Scode
  have Scode := Rcode.below (TV.trans (T.mono s0))
  replace Xa := Xa.r3
  obtain ⟨Brc0, Brc1, Brc2, Brc3, Brc4, Brc5, Brc6, Brc7, Brl⟩ := cb8 Br
  go_wp2_with fail
  clear Brc0 Brc1 Brc2 Brc3 Brc4 Brc5 Brc6 Brc7 Brl
  obtain ⟨ba, hbx⟩ : ∃ b, b = W3.heap.size := ⟨_, rfl⟩
  rw [← hbx]
  obtain ⟨W4, hW⟩ : ∃ W, W = W3.alloc (.cells #[.slice Aa r.ls.length ca, .int .i64 0, .bool false] 47) := ⟨_, rfl⟩
  rw [← hW]
  have K : Below W3.heap.size W3 W4 := by rw [hW]; exact bel_
  have Ba := Lib.hid (show W4.heap[ba]? = some (.cells #[.slice Aa r.ls.length ca, .int .i64 0, .bool false] 47 (0, 0)) by rw [hW, hbx]; exact heap_alloc_new _ _)
  clear hW hbx
  replace T := T.trans (K.mono T.size)
  replace Br := box_below Br K
  replace Xr := Xr.below K
  replace Xa := Xa.below K
  clear K Scode
  have Scode := Rcode.below (TV.trans (T.mono s0))
  refine (impl_RunRounds_eq (by exact Xr.below bel_) hsr HB).mono ?_
  rintro e W5 ⟨Ab, cb, rfl, Xb, hb⟩
  have K : Below W4.heap.size W4 W5 := Below.trans bel_ (hb.mono (by first | exact Nat.le_refl _ | simp [ov_size]))
  clear hb
  replace T := T.trans (K.mono T.size)
  replace Br := box_below Br K
  replace Ba := box_below Ba K
  replace Xr := Xr.below K
  replace Xa := Xa.below K
  clear K Scode
  have Scode := Rcode.below (TV.trans (T.mono s0))
  replace Xb := Xb.r3
  obtain ⟨Brc0, Brc1, Brc2, Brc3, Brc4, Brc5, Brc6, Brc7, Brl⟩ := cb8 Br
  obtain ⟨Bac0, Bac1, Bac2, Bal⟩ := cb3 Ba
  go_wp2_with fail
  clear Brc0 Brc1 Brc2 Brc3 Brc4 Brc5 Brc6 Brc7 Bac0 Bac1 Bac2 Brl Bal
  obtain ⟨bb, hbx⟩ : ∃ b, b = W5.heap.size := ⟨_, rfl⟩
  rw [← hbx]
  obtain ⟨W6, hW⟩ : ∃ W, W = W5.alloc (.cells #[.slice Ab rb.length cb, .int .i64 bn, .bool bst] 47) := ⟨_, rfl⟩
  rw [← hW]
  have K : Below W5.heap.size W5 W6 := by rw [hW]; exact bel_
  have Bb := Lib.hid (show W6.heap[bb]? = some (.cells #[.slice Ab rb.length cb, .int .i64 bn, .bool bst] 47 (0, 0)) by rw [hW, hbx]; exact heap_alloc_new _ _)
  clear hW hbx
  replace T := T.trans (K.mono T.size)
  replace Br := box_below Br K
  replace Ba := box_below Ba K
  replace Xr := Xr.below K
  replace Xa := Xa.below K
  replace Xb := Xb.below K
  clear K Scode
  have Scode := Rcode.below (TV.trans (T.mono s0))
  refine (impl_RunRounds_eq (by exact Xr.below bel_) hsr HC).mono ?_
  rintro e W7 ⟨Ac, cc, rfl, Xc, hb⟩
  have K : Below W6.heap.size W6 W7 := Below.trans bel_ (hb.mono (by first | exact Nat.le_refl _ | simp [ov_size]))
  clear hb
  replace T := T.trans (K.mono T.size)
  replace Br := box_below Br K
  replace Ba := box_below Ba K
  replace Bb := box_below Bb K
  replace Xr := Xr.below K
  replace Xa := Xa.below K
  replace Xb := Xb.below K
  clear K Scode
  have Scode := Rcode.below (TV.trans (T.mono s0))
  replace Xc := Xc.r3
  obtain ⟨Brc0, Brc1, Brc2, Brc3, Brc4, Brc5, Brc6, Brc7, Brl⟩ := cb8 Br
  obtain ⟨Bac0, Bac1, Bac2, Bal⟩ := cb3 Ba
  obtain ⟨Bbc0, Bbc1, Bbc2, Bbl⟩ := cb3 Bb
  go_wp2_with fail
  clear Brc0 Brc1 Brc2 Brc3 Brc4 Brc5 Brc6 Brc7 Bac0 Bac1 Bac2 Bbc0 Bbc1 Bbc2 Brl Bal Bbl
  obtain ⟨bc, hbx⟩ : ∃ b, b = W7.heap.size := ⟨_, rfl⟩
  rw [← hbx]
  obtain ⟨W8, hW⟩ : ∃ W, W = W7.alloc (.cells #[.slice Ac rc.length cc, .int .i64 cn, .bool cst] 47) := ⟨_, rfl⟩
  rw [← hW]
  have K : Below W7.heap.size W7 W8 := by rw [hW]; exact bel_
  have Bc := Lib.hid (show W8.heap[bc]? = some (.cells #[.slice Ac rc.length cc, .int .i64 cn, .bool cst] 47 (0, 0)) by rw [hW, hbx]; exact heap_alloc_new _ _)
  clear hW hbx
  replace T := T.trans (K.mono T.size)
  replace Br := box_below Br K
  replace Ba := box_below Ba K
  replace Bb := box_below Bb K
  replace Xr := Xr.below K
  replace Xa := Xa.below K
  replace Xb := Xb.below K
  replace Xc := Xc.below K
  clear K Scode
  have Scode := Rcode.below (TV.trans (T.mono s0))
  refine (calls_ov (SameRegion_eq (by exact Xa.below bel_) (by exact Xr.lr.below bel_) (by omega) (by omega) (Lib.hid (decide_eq_true (show r.ls = r.ls from rfl))))).mono ?_
  rintro e w' ⟨rfl, x9, rfl⟩
  obtain ⟨W9, hW⟩ : ∃ Z, Z = ov W8 x9 := ⟨_, rfl⟩
  rw [← hW]
  have K : Below W8.heap.size W8 W9 := by rw [hW]; exact bel_
  clear hW
  replace T := T.trans (K.mono T.size)
  replace Br := box_below Br K
  replace Ba := box_below Ba K
  replace Bb := box_below Bb K
  replace Bc := box_below Bc K
  replace Xr := Xr.below K
  replace Xa := Xa.below K
  replace Xb := Xb.below K
  replace Xc := Xc.below K
  clear K Scode
  have Scode := Rcode.below (TV.trans (T.mono s0))
  cases two with
  | false =>
    obtain ⟨Brc0, Brc1, Brc2, Brc3, Brc4, Brc5, Brc6, Brc7, Brl⟩ := cb8 Br
    obtain ⟨Bac0, Bac1, Bac2, Bal⟩ := cb3 Ba
    obtain ⟨Bbc0, Bbc1, Bbc2, Bbl⟩ := cb3 Bb
    obtain ⟨Bcc0, Bcc1, Bcc2, Bcl⟩ := cb3 Bc
    go_wp2_with fail
    clear Brc0 Brc1 Brc2 Brc3 Brc4 Brc5 Brc6 Brc7 Bac0 Bac1 Bac2 Bbc0 Bbc1 Bbc2 Bcc0 Bcc1 Bcc2 Brl Bal Bbl Bcl
    refine (calls_ov (impl_CanBeKept_eq (by exact Xr.below bel_) hsr SF HF)).mono ?_
    rintro e w' ⟨rfl, x9, rfl⟩
    obtain ⟨W10, hW⟩ : ∃ Z, Z = ov W9 x9 := ⟨_, rfl⟩
    rw [← hW]
    have K : Below W9.heap.size W9 W10 := by rw [hW]; exact bel_
    clear hW
    replace T := T.trans (K.mono T.size)
    replace Br := box_below Br K
    replace Ba := box_below Ba K
    replace Bb := box_below Bb K
    replace Bc := box_below Bc K
    replace Xr := Xr.below K
    replace Xa := Xa.below K
    replace Xb := Xb.below K
    replace Xc := Xc.below K
    clear K Scode
    have Scode := Rcode.below (TV.trans (T.mono s0))
    obtain ⟨Brc0, Brc1, Brc2, Brc3, Brc4, Brc5, Brc6, Brc7, Brl⟩ := cb8 Br
    obtain ⟨Bac0, Bac1, Bac2, Bal⟩ := cb3 Ba
    obtain ⟨Bbc0, Bbc1, Bbc2, Bbl⟩ := cb3 Bb
    obtain ⟨Bcc0, Bcc1, Bcc2, Bcl⟩ := cb3 Bc
    go_wp2
    go_ret
    exact ⟨rfl, (by repeat (first | exact TV.trans (T.mono s0) | refine bO ?_ | refine bA ?_ | refine bS ?_ | refine bD ?_ | refine bN ?_))⟩
  | true =>
    cases three with
    | false =>
      obtain ⟨Brc0, Brc1, Brc2, Brc3, Brc4, Brc5, Brc6, Brc7, Brl⟩ := cb8 Br
      obtain ⟨Bac0, Bac1, Bac2, Bal⟩ := cb3 Ba
      obtain ⟨Bbc0, Bbc1, Bbc2, Bbl⟩ := cb3 Bb
      obtain ⟨Bcc0, Bcc1, Bcc2, Bcl⟩ := cb3 Bc
      go_wp2_with fail
      clear Brc0 Brc1 Brc2 Brc3 Brc4 Brc5 Brc6 Brc7 Bac0 Bac1 Bac2 Bbc0 Bbc1 Bbc2 Bcc0 Bcc1 Bcc2 Brl Bal Bbl Bcl
      refine (calls_ov (impl_CanBeKept_eq (by exact Xr.below bel_) hsr SF HF)).mono ?_
      rintro e w' ⟨rfl, x9, rfl⟩
      obtain ⟨W11, hW⟩ : ∃ Z, Z = ov W9 x9 := ⟨_, rfl⟩
      rw [← hW]
      have K : Below W9.heap.size W9 W11 := by rw [hW]; exact bel_
      clear hW
      replace T := T.trans (K.mono T.size)
      replace Br := box_below Br K
      replace Ba := box_below Ba K
      replace Bb := box_below Bb K
      replace Bc := box_below Bc K
      replace Xr := Xr.below K
      replace Xa := Xa.below K
      replace Xb := Xb.below K
      replace Xc := Xc.below K
      clear K Scode
      have Scode := Rcode.below (TV.trans (T.mono s0))
      obtain ⟨Brc0, Brc1, Brc2, Brc3, Brc4, Brc5, Brc6, Brc7, Brl⟩ := cb8 Br
      obtain ⟨Bac0, Bac1, Bac2, Bal⟩ := cb3 Ba
      obtain ⟨Bbc0, Bbc1, Bbc2, Bbl⟩ := cb3 Bb
      obtain ⟨Bcc0, Bcc1, Bcc2, Bcl⟩ := cb3 Bc
      go_wp2
      go_ret
      exact ⟨rfl, (by repeat (first | exact TV.trans (T.mono s0) | refine bO ?_ | refine bA ?_ | refine bS ?_ | refine bD ?_ | refine bN ?_))⟩
    | true =>
      have PL := HLAW.out rfl rfl
      have hcn : decide (2 < cn) = false := decide_eq_false (by have := PL.n; omega)
      have HWB := Lib.hid PL.wb
      have HWC := Lib.hid PL.wc
      have HST := Lib.hid PL.st
      have HLO := Lib.hid PL.loss
      have HK := Lib.hid PL.kept
      clear PL
      obtain ⟨Brc0, Brc1, Brc2, Brc3, Brc4, Brc5, Brc6, Brc7, Brl⟩ := cb8 Br
      obtain ⟨Bac0, Bac1, Bac2, Bal⟩ := cb3 Ba
      obtain ⟨Bbc0, Bbc1, Bbc2, Bbl⟩ := cb3 Bb
      obtain ⟨Bcc0, Bcc1, Bcc2, Bcl⟩ := cb3 Bc
      go_wp2_with fail
      clear Brc0 Brc1 Brc2 Brc3 Brc4 Brc5 Brc6 Brc7 Bac0 Bac1 Bac2 Bbc0 Bbc1 Bbc2 Bcc0 Bcc1 Bcc2 Brl Bal Bbl Bcl
      refine (impl_LossOf_eq (by exact Xr.below bel_) hsr HL).mono ?_
      rintro e W12 ⟨rfl, hb⟩
      have K : Below W9.heap.size W9 W12 := Below.trans bel_ (hb.mono (by first | exact Nat.le_refl _ | simp [ov_size]))
      clear hb
      replace T := T.trans (K.mono T.size)
      replace Br := box_below Br K
      replace Ba := box_below Ba K
      replace Bb := box_below Bb K
      replace Bc := box_below Bc K
      replace Xr := Xr.below K
      replace Xa := Xa.below K
      replace Xb := Xb.below K
      replace Xc := Xc.below K
      clear K Scode
      have Scode := Rcode.below (TV.trans (T.mono s0))
      obtain ⟨Brc0, Brc1, Brc2, Brc3, Brc4, Brc5, Brc6, Brc7, Brl⟩ := cb8 Br
      obtain ⟨Bac0, Bac1, Bac2, Bal⟩ := cb3 Ba
      obtain ⟨Bbc0, Bbc1, Bbc2, Bbl⟩ := cb3 Bb
      obtain ⟨Bcc0, Bcc1, Bcc2, Bcl⟩ := cb3 Bc
      go_wp2_with fail
      clear Brc0 Brc1 Brc2 Brc3 Brc4 Brc5 Brc6 Brc7 Bac0 Bac1 Bac2 Bbc0 Bbc1 Bbc2 Bcc0 Bcc1 Bcc2 Brl Bal Bbl Bcl
      obtain ⟨bl, hbx⟩ : ∃ b, b = W12.heap.size := ⟨_, rfl⟩
      rw [← hbx]
      obtain ⟨W13, hW⟩ : ∃ W, W = W12.alloc (.cells #[.int .i64 l1, .int .i64 l2] 54) := ⟨_, rfl⟩
      rw [← hW]
      have K : Below W12.heap.size W12 W13 := by rw [hW]; exact bel_
      have Bl := Lib.hid (show W13.heap[bl]? = some (.cells #[.int .i64 l1, .int .i64 l2] 54 (0, 0)) by rw [hW, hbx]; exact heap_alloc_new _ _)
      clear hW hbx
      replace T := T.trans (K.mono T.size)
      replace Br := box_below Br K
      replace Ba := box_below Ba K
      replace Bb := box_below Bb K
      replace Bc := box_below Bc K
      replace Xr := Xr.below K
      replace Xa := Xa.below K
      replace Xb := Xb.below K
      replace Xc := Xc.below K
      clear K Scode
      have Scode := Rcode.below (TV.trans (T.mono s0))
      cases bst with
      | false =>
        cases cst with
        | false =>
          cases fine with
          | false =>
            obtain ⟨Brc0, Brc1, Brc2, Brc3, Brc4, Brc5, Brc6, Brc7, Brl⟩ := cb8 Br
            obtain ⟨Bac0, Bac1, Bac2, Bal⟩ := cb3 Ba
            obtain ⟨Bbc0, Bbc1, Bbc2, Bbl⟩ := cb3 Bb
            obtain ⟨Bcc0, Bcc1, Bcc2, Bcl⟩ := cb3 Bc
            obtain ⟨Blc0, Blc1, Bll⟩ := cb2 Bl
            ((first | (with_reducible refine wp_region_calm2 (by kernel_rfl) (by kernel_rfl) ?_) | refine wp_region_calm (by kernel_rfl) (by kernel_rfl) ?_); (repeat (go_big_quiet_step (first | (go_at_call 15; exact calm_below (impl_IsWithin_eq (by exact Xb.below bel_) (by omega) (by exact Xa.below bel_) (by omega) HWB)) | (go_at_call 15; exact calm_below (impl_IsWithin_eq (by exact Xc.below bel_) (by omega) (by exact Xb.below bel_) (by omega) HWC))))); refine wpQuiet_nil ?_; rintro _ ⟨y, rfl⟩)
            clear Brc0 Brc1 Brc2 Brc3 Brc4 Brc5 Brc6 Brc7 Bac0 Bac1 Bac2 Bbc0 Bbc1 Bbc2 Bcc0 Bcc1 Bcc2 Blc0 Blc1 Brl Bal Bbl Bcl Bll
            obtain ⟨W14, hW⟩ : ∃ Z, Z = ov W13 y := ⟨_, rfl⟩
            rw [← hW]
            have K : Below W13.heap.size W13 W14 := by rw [hW]; exact bel_
            clear hW
            replace T := T.trans (K.mono T.size)
            replace Br := box_below Br K
            replace Ba := box_below Ba K
            replace Bb := box_below Bb K
            replace Bc := box_below Bc K
            replace Bl := box_below Bl K
            replace Xr := Xr.below K
            replace Xa := Xa.below K
            replace Xb := Xb.below K
            replace Xc := Xc.below K
            clear K Scode
            have Scode := Rcode.below (TV.trans (T.mono s0))
            obtain ⟨Brc0, Brc1, Brc2, Brc3, Brc4, Brc5, Brc6, Brc7, Brl⟩ := cb8 Br
            obtain ⟨Bac0, Bac1, Bac2, Bal⟩ := cb3 Ba
            obtain ⟨Bbc0, Bbc1, Bbc2, Bbl⟩ := cb3 Bb
            obtain ⟨Bcc0, Bcc1, Bcc2, Bcl⟩ := cb3 Bc
            obtain ⟨Blc0, Blc1, Bll⟩ := cb2 Bl
            go_wp2_with fail
            clear Brc0 Brc1 Brc2 Brc3 Brc4 Brc5 Brc6 Brc7 Bac0 Bac1 Bac2 Bbc0 Bbc1 Bbc2 Bcc0 Bcc1 Bcc2 Blc0 Blc1 Brl Bal Bbl Bcl Bll
            refine (impl_KeptRegion_eq (by exact Xr.below bel_) hsr HP).mono ?_
            rintro e W15 ⟨Ap, cp, rfl, Xp, hb⟩
            have K : Below W14.heap.size W14 W15 := Below.trans bel_ (hb.mono (by first | exact Nat.le_refl _ | simp [ov_size]))
            clear hb
            replace T := T.trans (K.mono T.size)
            replace Br := box_below Br K
            replace Ba := box_below Ba K
            replace Bb := box_below Bb K
            replace Bc := box_below Bc K
            replace Bl := box_below Bl K
            replace Xr := Xr.below K
            replace Xa := Xa.below K
            replace Xb := Xb.below K
            replace Xc := Xc.below K
            clear K Scode
            have Scode := Rcode.below (TV.trans (T.mono s0))
            replace Xp := Xp.r3
            cases kept with
            | false =>
              obtain ⟨Brc0, Brc1, Brc2, Brc3, Brc4, Brc5, Brc6, Brc7, Brl⟩ := cb8 Br
              obtain ⟨Bac0, Bac1, Bac2, Bal⟩ := cb3 Ba
              obtain ⟨Bbc0, Bbc1, Bbc2, Bbl⟩ := cb3 Bb
              obtain ⟨Bcc0, Bcc1, Bcc2, Bcl⟩ := cb3 Bc
              obtain ⟨Blc0, Blc1, Bll⟩ := cb2 Bl
              go_wp2
              go_ret
              exact ⟨rfl, (TV.trans (T.mono s0)).alloc (Nat.le_trans s0 T.size) _⟩
            | true =>
              obtain ⟨hw, he⟩ := HK.out _ HP.out
              have HWP := Lib.hid hw
              clear hw he
              obtain ⟨Brc0, Brc1, Brc2, Brc3, Brc4, Brc5, Brc6, Brc7, Brl⟩ := cb8 Br
              obtain ⟨Bac0, Bac1, Bac2, Bal⟩ := cb3 Ba
              obtain ⟨Bbc0, Bbc1, Bbc2, Bbl⟩ := cb3 Bb
              obtain ⟨Bcc0, Bcc1, Bcc2, Bcl⟩ := cb3 Bc
              obtain ⟨Blc0, Blc1, Bll⟩ := cb2 Bl
              go_wp2_with fail
              clear Brc0 Brc1 Brc2 Brc3 Brc4 Brc5 Brc6 Brc7 Bac0 Bac1 Bac2 Bbc0 Bbc1 Bbc2 Bcc0 Bcc1 Bcc2 Blc0 Blc1 Brl Bal Bbl Bcl Bll
              obtain ⟨bp, hbx⟩ : ∃ b, b = W15.heap.size := ⟨_, rfl⟩
              rw [← hbx]
              obtain ⟨W16, hW⟩ : ∃ W, W = W15.alloc (.cells #[.slice Ap p.length cp] 26) := ⟨_, rfl⟩
              rw [← hW]
              have K : Below W15.heap.size W15 W16 := by rw [hW]; exact bel_
              have Bp := Lib.hid (show W16.heap[bp]? = some (.cells #[.slice Ap p.length cp] 26 (0, 0)) by rw [hW, hbx]; exact heap_alloc_new _ _)
              clear hW hbx
              replace T := T.trans (K.mono T.size)
              replace Br := box_below Br K
              replace Ba := box_below Ba K
              replace Bb := box_below Bb K
              replace Bc := box_below Bc K
              replace Bl := box_below Bl K
              replace Xr := Xr.below K
              replace Xa := Xa.below K
              replace Xb := Xb.below K
              replace Xc := Xc.below K
              replace Xp := Xp.below K
              clear K Scode
              have Scode := Rcode.below (TV.trans (T.mono s0))
              refine (calls_ov (impl_IsWithin_eq (by exact Xp.below bel_) (by omega) (by exact Xc.below bel_) (by omega) HWP)).mono ?_
              rintro e w' ⟨rfl, x9, rfl⟩
              obtain ⟨W17, hW⟩ : ∃ Z, Z = ov W16 x9 := ⟨_, rfl⟩
              rw [← hW]
              have K : Below W16.heap.size W16 W17 := by rw [hW]; exact bel_
              clear hW
              replace T := T.trans (K.mono T.size)
              replace Br := box_below Br K
              replace Ba := box_below Ba K
              replace Bb := box_below Bb K
              replace Bc := box_below Bc K
              replace Bl := box_below Bl K
              replace Bp := box_below Bp K
              replace Xr := Xr.below K
              replace Xa := Xa.below K
              replace Xb := Xb.below K
              replace Xc := Xc.below K
              replace Xp := Xp.below K
              clear K Scode
              have Scode := Rcode.below (TV.trans (T.mono s0))
              obtain ⟨Brc0, Brc1, Brc2, Brc3, Brc4, Brc5, Brc6, Brc7, Brl⟩ := cb8 Br
              obtain ⟨Bac0, Bac1, Bac2, Bal⟩ := cb3 Ba
              obtain ⟨Bbc0, Bbc1, Bbc2, Bbl⟩ := cb3 Bb
              obtain ⟨Bcc0, Bcc1, Bcc2, Bcl⟩ := cb3 Bc
              obtain ⟨Blc0, Blc1, Bll⟩ := cb2 Bl
              obtain ⟨Bpc0, Bpl⟩ := cb1 Bp
              go_wp2
              go_ret
              exact ⟨rfl, (by repeat (first | exact TV.trans (T.mono s0) | refine bO ?_ | refine bA ?_ | refine bS ?_ | refine bD ?_ | refine bN ?_))⟩
          | true =>
            obtain ⟨hl0, hl1⟩ := HLO.out _ _ HL.out
            have hln : decide (l1 < 0) = false := decide_eq_false (by omega)
            by_cases hz : l1 = 0
            · have HS2 : Hid (decide (r.ls = rb) = true) := Lib.hid (decide_eq_true (hl1.1 hz))
              clear hl1 hl0 hln
              subst hz
              obtain ⟨Brc0, Brc1, Brc2, Brc3, Brc4, Brc5, Brc6, Brc7, Brl⟩ := cb8 Br
              obtain ⟨Bac0, Bac1, Bac2, Bal⟩ := cb3 Ba
              obtain ⟨Bbc0, Bbc1, Bbc2, Bbl⟩ := cb3 Bb
              obtain ⟨Bcc0, Bcc1, Bcc2, Bcl⟩ := cb3 Bc
              obtain ⟨Blc0, Blc1, Bll⟩ := cb2 Bl
              ((first | (with_reducible refine wp_region_calm2 (by kernel_rfl) (by kernel_rfl) ?_) | refine wp_region_calm (by kernel_rfl) (by kernel_rfl) ?_); (repeat (go_big_quiet_step (first | (go_at_call 15; exact calm_below (impl_IsWithin_eq (by exact Xb.below bel_) (by omega) (by exact Xa.below bel_) (by omega) HWB)) | (go_at_call 15; exact calm_below (impl_IsWithin_eq (by exact Xc.below bel_) (by omega) (by exact Xb.below bel_) (by omega) HWC)) | (go_at_call 22; exact calm_below (SameRegion_eq (by exact Xa.below bel_) (by exact Xb.below bel_) (by omega) (by omega) HS2))))); refine wpQuiet_nil ?_; rintro _ ⟨y, rfl⟩)
              clear Brc0 Brc1 Brc2 Brc3 Brc4 Brc5 Brc6 Brc7 Bac0 Bac1 Bac2 Bbc0 Bbc1 Bbc2 Bcc0 Bcc1 Bcc2 Blc0 Blc1 Brl Bal Bbl Bcl Bll
              obtain ⟨W18, hW⟩ : ∃ Z, Z = ov W13 y := ⟨_, rfl⟩
              rw [← hW]
              have K : Below W13.heap.size W13 W18 := by rw [hW]; exact bel_
              clear hW
              replace T := T.trans (K.mono T.size)
              replace Br := box_below Br K
              replace Ba := box_below Ba K
              replace Bb := box_below Bb K
              replace Bc := box_below Bc K
              replace Bl := box_below Bl K
              replace Xr := Xr.below K
              replace Xa := Xa.below K
              replace Xb := Xb.below K
              replace Xc := Xc.below K
              clear K Scode
              have Scode := Rcode.below (TV.trans (T.mono s0))
              obtain ⟨Brc0, Brc1, Brc2, Brc3, Brc4, Brc5, Brc6, Brc7, Brl⟩ := cb8 Br
              obtain ⟨Bac0, Bac1, Bac2, Bal⟩ := cb3 Ba
              obtain ⟨Bbc0, Bbc1, Bbc2, Bbl⟩ := cb3 Bb
              obtain ⟨Bcc0, Bcc1, Bcc2, Bcl⟩ := cb3 Bc
              obtain ⟨Blc0, Blc1, Bll⟩ := cb2 Bl
              go_wp2_with fail
              clear Brc0 Brc1 Brc2 Brc3 Brc4 Brc5 Brc6 Brc7 Bac0 Bac1 Bac2 Bbc0 Bbc1 Bbc2 Bcc0 Bcc1 Bcc2 Blc0 Blc1 Brl Bal Bbl Bcl Bll
              refine (impl_KeptRegion_eq (by exact Xr.below bel_) hsr HP).mono ?_
              rintro e W19 ⟨Ap, cp, rfl, Xp, hb⟩
              have K : Below W18.heap.size W18 W19 := Below.trans bel_ (hb.mono (by first | exact Nat.le_refl _ | simp [ov_size]))
              clear hb
              replace T := T.trans (K.mono T.size)
              replace Br := box_below Br K
              replace Ba := box_below Ba K
              replace Bb := box_below Bb K
              replace Bc := box_below Bc K
              replace Bl := box_below Bl K
              replace Xr := Xr.below K
              replace Xa := Xa.below K
              replace Xb := Xb.below K
              replace Xc := Xc.below K
              clear K Scode
              have Scode := Rcode.below (TV.trans (T.mono s0))
              replace Xp := Xp.r3
              cases kept with
              | false =>
                obtain ⟨Brc0, Brc1, Brc2, Brc3, Brc4, Brc5, Brc6, Brc7, Brl⟩ := cb8 Br
                obtain ⟨Bac0, Bac1, Bac2, Bal⟩ := cb3 Ba
                obtain ⟨Bbc0, Bbc1, Bbc2, Bbl⟩ := cb3 Bb
                obtain ⟨Bcc0, Bcc1, Bcc2, Bcl⟩ := cb3 Bc
                obtain ⟨Blc0, Blc1, Bll⟩ := cb2 Bl
                go_wp2
                go_ret
                exact ⟨rfl, (TV.trans (T.mono s0)).alloc (Nat.le_trans s0 T.size) _⟩
              | true =>
                obtain ⟨hw, he⟩ := HK.out _ HP.out
                have HWP := Lib.hid hw
                clear hw he
                obtain ⟨Brc0, Brc1, Brc2, Brc3, Brc4, Brc5, Brc6, Brc7, Brl⟩ := cb8 Br
                obtain ⟨Bac0, Bac1, Bac2, Bal⟩ := cb3 Ba
                obtain ⟨Bbc0, Bbc1, Bbc2, Bbl⟩ := cb3 Bb
                obtain ⟨Bcc0, Bcc1, Bcc2, Bcl⟩ := cb3 Bc
                obtain ⟨Blc0, Blc1, Bll⟩ := cb2 Bl
                go_wp2_with fail
                clear Brc0 Brc1 Brc2 Brc3 Brc4 Brc5 Brc6 Brc7 Bac0 Bac1 Bac2 Bbc0 Bbc1 Bbc2 Bcc0 Bcc1 Bcc2 Blc0 Blc1 Brl Bal Bbl Bcl Bll
                obtain ⟨bp, hbx⟩ : ∃ b, b = W19.heap.size := ⟨_, rfl⟩
                rw [← hbx]
                obtain ⟨W20, hW⟩ : ∃ W, W = W19.alloc (.cells #[.slice Ap p.length cp] 26) := ⟨_, rfl⟩
                rw [← hW]
                have K : Below W19.heap.size W19 W20 := by rw [hW]; exact bel_
                have Bp := Lib.hid (show W20.heap[bp]? = some (.cells #[.slice Ap p.length cp] 26 (0, 0)) by rw [hW, hbx]; exact heap_alloc_new _ _)
                clear hW hbx
                replace T := T.trans (K.mono T.size)
                replace Br := box_below Br K
                replace Ba := box_below Ba K
                replace Bb := box_below Bb K
                replace Bc := box_below Bc K
                replace Bl := box_below Bl K
                replace Xr := Xr.below K
                replace Xa := Xa.below K
                replace Xb := Xb.below K
                replace Xc := Xc.below K
                replace Xp := Xp.below K
                clear K Scode
                have Scode := Rcode.below (TV.trans (T.mono s0))
                refine (calls_ov (impl_IsWithin_eq (by exact Xp.below bel_) (by omega) (by exact Xc.below bel_) (by omega) HWP)).mono ?_
                rintro e w' ⟨rfl, x9, rfl⟩
                obtain ⟨W21, hW⟩ : ∃ Z, Z = ov W20 x9 := ⟨_, rfl⟩
                rw [← hW]
                have K : Below W20.heap.size W20 W21 := by rw [hW]; exact bel_
                clear hW
                replace T := T.trans (K.mono T.size)
                replace Br := box_below Br K
                replace Ba := box_below Ba K
                replace Bb := box_below Bb K
                replace Bc := box_below Bc K
                replace Bl := box_below Bl K
                replace Bp := box_below Bp K
                replace Xr := Xr.below K
                replace Xa := Xa.below K
                replace Xb := Xb.below K
                replace Xc := Xc.below K
                replace Xp := Xp.below K
                clear K Scode
                have Scode := Rcode.below (TV.trans (T.mono s0))
                obtain ⟨Brc0, Brc1, Brc2, Brc3, Brc4, Brc5, Brc6, Brc7, Brl⟩ := cb8 Br
                obtain ⟨Bac0, Bac1, Bac2, Bal⟩ := cb3 Ba
                obtain ⟨Bbc0, Bbc1, Bbc2, Bbl⟩ := cb3 Bb
                obtain ⟨Bcc0, Bcc1, Bcc2, Bcl⟩ := cb3 Bc
                obtain ⟨Blc0, Blc1, Bll⟩ := cb2 Bl
                obtain ⟨Bpc0, Bpl⟩ := cb1 Bp
                go_wp2
                go_ret
                exact ⟨rfl, (by repeat (first | exact TV.trans (T.mono s0) | refine bO ?_ | refine bA ?_ | refine bS ?_ | refine bD ?_ | refine bN ?_))⟩
            · have HS2 : Hid (decide (r.ls = rb) = false) := Lib.hid (decide_eq_false (fun h => hz (hl1.2 h)))
              have hz1 : decide (l1 = 0) = false := decide_eq_false hz
              clear hl1
              obtain ⟨Brc0, Brc1, Brc2, Brc3, Brc4, Brc5, Brc6, Brc7, Brl⟩ := cb8 Br
              obtain ⟨Bac0, Bac1, Bac2, Bal⟩ := cb3 Ba
              obtain ⟨Bbc0, Bbc1, Bbc2, Bbl⟩ := cb3 Bb
              obtain ⟨Bcc0, Bcc1, Bcc2, Bcl⟩ := cb3 Bc
              obtain ⟨Blc0, Blc1, Bll⟩ := cb2 Bl
              ((first | (with_reducible refine wp_region_calm2 (by kernel_rfl) (by kernel_rfl) ?_) | refine wp_region_calm (by kernel_rfl) (by kernel_rfl) ?_); (repeat (go_big_quiet_step (first | (go_at_call 15; exact calm_below (impl_IsWithin_eq (by exact Xb.below bel_) (by omega) (by exact Xa.below bel_) (by omega) HWB)) | (go_at_call 15; exact calm_below (impl_IsWithin_eq (by exact Xc.below bel_) (by omega) (by exact Xb.below bel_) (by omega) HWC)) | (go_at_call 22; exact calm_below (SameRegion_eq (by exact Xa.below bel_) (by exact Xb.below bel_) (by omega) (by omega) HS2))))); refine wpQuiet_nil ?_; rintro _ ⟨y, rfl⟩)
              clear Brc0 Brc1 Brc2 Brc3 Brc4 Brc5 Brc6 Brc7 Bac0 Bac1 Bac2 Bbc0 Bbc1 Bbc2 Bcc0 Bcc1 Bcc2 Blc0 Blc1 Brl Bal Bbl Bcl Bll
              obtain ⟨W22, hW⟩ : ∃ Z, Z = ov W13 y := ⟨_, rfl⟩
              rw [← hW]
              have K : Below W13.heap.size W13 W22 := by rw [hW]; exact bel_
              clear hW
              replace T := T.trans (K.mono T.size)
              replace Br := box_below Br K
              replace Ba := box_below Ba K
              replace Bb := box_below Bb K
              replace Bc := box_below Bc K
              replace Bl := box_below Bl K
              replace Xr := Xr.below K
              replace Xa := Xa.below K
              replace Xb := Xb.below K
              replace Xc := Xc.below K
              clear K Scode
              have Scode := Rcode.below (TV.trans (T.mono s0))
              obtain ⟨Brc0, Brc1, Brc2, Brc3, Brc4, Brc5, Brc6, Brc7, Brl⟩ := cb8 Br
              obtain ⟨Bac0, Bac1, Bac2, Bal⟩ := cb3 Ba
              obtain ⟨Bbc0, Bbc1, Bbc2, Bbl⟩ := cb3 Bb
              obtain ⟨Bcc0, Bcc1, Bcc2, Bcl⟩ := cb3 Bc
              obtain ⟨Blc0, Blc1, Bll⟩ := cb2 Bl
              go_wp2_with fail
              clear Brc0 Brc1 Brc2 Brc3 Brc4 Brc5 Brc6 Brc7 Bac0 Bac1 Bac2 Bbc0 Bbc1 Bbc2 Bcc0 Bcc1 Bcc2 Blc0 Blc1 Brl Bal Bbl Bcl Bll
              refine (impl_KeptRegion_eq (by exact Xr.below bel_) hsr HP).mono ?_
              rintro e W23 ⟨Ap, cp, rfl, Xp, hb⟩
              have K : Below W22.heap.size W22 W23 := Below.trans bel_ (hb.mono (by first | exact Nat.le_refl _ | simp [ov_size]))
              clear hb
              replace T := T.trans (K.mono T.size)
              replace Br := box_below Br K
              replace Ba := box_below Ba K
              replace Bb := box_below Bb K
              replace Bc := box_below Bc K
              replace Bl := box_below Bl K
              replace Xr := Xr.below K
              replace Xa := Xa.below K
              replace Xb := Xb.below K
              replace Xc := Xc.below K
              clear K Scode
              have Scode := Rcode.below (TV.trans (T.mono s0))
              replace Xp := Xp.r3
              cases kept with
              | false =>
                obtain ⟨Brc0, Brc1, Brc2, Brc3, Brc4, Brc5, Brc6, Brc7, Brl⟩ := cb8 Br
                obtain ⟨Bac0, Bac1, Bac2, Bal⟩ := cb3 Ba
                obtain ⟨Bbc0, Bbc1, Bbc2, Bbl⟩ := cb3 Bb
                obtain ⟨Bcc0, Bcc1, Bcc2, Bcl⟩ := cb3 Bc
                obtain ⟨Blc0, Blc1, Bll⟩ := cb2 Bl
                go_wp2
                go_ret
                exact ⟨rfl, (TV.trans (T.mono s0)).alloc (Nat.le_trans s0 T.size) _⟩
              | true =>
                obtain ⟨hw, he⟩ := HK.out _ HP.out
                have HWP := Lib.hid hw
                clear hw he
                obtain ⟨Brc0, Brc1, Brc2, Brc3, Brc4, Brc5, Brc6, Brc7, Brl⟩ := cb8 Br
                obtain ⟨Bac0, Bac1, Bac2, Bal⟩ := cb3 Ba
                obtain ⟨Bbc0, Bbc1, Bbc2, Bbl⟩ := cb3 Bb
                obtain ⟨Bcc0, Bcc1, Bcc2, Bcl⟩ := cb3 Bc
                obtain ⟨Blc0, Blc1, Bll⟩ := cb2 Bl
                go_wp2_with fail
                clear Brc0 Brc1 Brc2 Brc3 Brc4 Brc5 Brc6 Brc7 Bac0 Bac1 Bac2 Bbc0 Bbc1 Bbc2 Bcc0 Bcc1 Bcc2 Blc0 Blc1 Brl Bal Bbl Bcl Bll
                obtain ⟨bp, hbx⟩ : ∃ b, b = W23.heap.size := ⟨_, rfl⟩
                rw [← hbx]
                obtain ⟨W24, hW⟩ : ∃ W, W = W23.alloc (.cells #[.slice Ap p.length cp] 26) := ⟨_, rfl⟩
                rw [← hW]
                have K : Below W23.heap.size W23 W24 := by rw [hW]; exact bel_
                have Bp := Lib.hid (show W24.heap[bp]? = some (.cells #[.slice Ap p.length cp] 26 (0, 0)) by rw [hW, hbx]; exact heap_alloc_new _ _)
                clear hW hbx
                replace T := T.trans (K.mono T.size)
                replace Br := box_below Br K
                replace Ba := box_below Ba K
                replace Bb := box_below Bb K
                replace Bc := box_below Bc K
                replace Bl := box_below Bl K
                replace Xr := Xr.below K
                replace Xa := Xa.below K
                replace Xb := Xb.below K
                replace Xc := Xc.below K
                replace Xp := Xp.below K
                clear K Scode
                have Scode := Rcode.below (TV.trans (T.mono s0))
                refine (calls_ov (impl_IsWithin_eq (by exact Xp.below bel_) (by omega) (by exact Xc.below bel_) (by omega) HWP)).mono ?_
                rintro e w' ⟨rfl, x9, rfl⟩
                obtain ⟨W25, hW⟩ : ∃ Z, Z = ov W24 x9 := ⟨_, rfl⟩
                rw [← hW]
                have K : Below W24.heap.size W24 W25 := by rw [hW]; exact bel_
                clear hW
                replace T := T.trans (K.mono T.size)
                replace Br := box_below Br K
                replace Ba := box_below Ba K
                replace Bb := box_below Bb K
                replace Bc := box_below Bc K
                replace Bl := box_below Bl K
                replace Bp := box_below Bp K
                replace Xr := Xr.below K
                replace Xa := Xa.below K
                replace Xb := Xb.below K
                replace Xc := Xc.below K
                replace Xp := Xp.below K
                clear K Scode
                have Scode := Rcode.below (TV.trans (T.mono s0))
                obtain ⟨Brc0, Brc1, Brc2, Brc3, Brc4, Brc5, Brc6, Brc7, Brl⟩ := cb8 Br
                obtain ⟨Bac0, Bac1, Bac2, Bal⟩ := cb3 Ba
                obtain ⟨Bbc0, Bbc1, Bbc2, Bbl⟩ := cb3 Bb
                obtain ⟨Bcc0, Bcc1, Bcc2, Bcl⟩ := cb3 Bc
                obtain ⟨Blc0, Blc1, Bll⟩ := cb2 Bl
                obtain ⟨Bpc0, Bpl⟩ := cb1 Bp
                go_wp2
                go_ret
                exact ⟨rfl, (by repeat (first | exact TV.trans (T.mono s0) | refine bO ?_ | refine bA ?_ | refine bS ?_ | refine bD ?_ | refine bN ?_))⟩
        | true =>
          cases fine with
          | false =>
            obtain ⟨Brc0, Brc1, Brc2, Brc3, Brc4, Brc5, Brc6, Brc7, Brl⟩ := cb8 Br
            obtain ⟨Bac0, Bac1, Bac2, Bal⟩ := cb3 Ba
            obtain ⟨Bbc0, Bbc1, Bbc2, Bbl⟩ := cb3 Bb
            obtain ⟨Bcc0, Bcc1, Bcc2, Bcl⟩ := cb3 Bc
            obtain ⟨Blc0, Blc1, Bll⟩ := cb2 Bl
            ((first | (with_reducible refine wp_region_calm2 (by kernel_rfl) (by kernel_rfl) ?_) | refine wp_region_calm (by kernel_rfl) (by kernel_rfl) ?_); (repeat (go_big_quiet_step (first | (go_at_call 15; exact calm_below (impl_IsWithin_eq (by exact Xb.below bel_) (by omega) (by exact Xa.below bel_) (by omega) HWB)) | (go_at_call 15; exact calm_below (impl_IsWithin_eq (by exact Xc.below bel_) (by omega) (by exact Xb.below bel_) (by omega) HWC))))); refine wpQuiet_nil ?_; rintro _ ⟨y, rfl⟩)
            clear Brc0 Brc1 Brc2 Brc3 Brc4 Brc5 Brc6 Brc7 Bac0 Bac1 Bac2 Bbc0 Bbc1 Bbc2 Bcc0 Bcc1 Bcc2 Blc0 Blc1 Brl Bal Bbl Bcl Bll
            obtain ⟨W26, hW⟩ : ∃ Z, Z = ov W13 y := ⟨_, rfl⟩
            rw [← hW]
            have K : Below W13.heap.size W13 W26 := by rw [hW]; exact bel_
            clear hW
            replace T := T.trans (K.mono T.size)
            replace Br := box_below Br K
            replace Ba := box_below Ba K
            replace Bb := box_below Bb K
            replace Bc := box_below Bc K
            replace Bl := box_below Bl K
            replace Xr := Xr.below K
            replace Xa := Xa.below K
            replace Xb := Xb.below K
            replace Xc := Xc.below K
            clear K Scode
            have Scode := Rcode.below (TV.trans (T.mono s0))
            obtain ⟨Brc0, Brc1, Brc2, Brc3, Brc4, Brc5, Brc6, Brc7, Brl⟩ := cb8 Br
            obtain ⟨Bac0, Bac1, Bac2, Bal⟩ := cb3 Ba
            obtain ⟨Bbc0, Bbc1, Bbc2, Bbl⟩ := cb3 Bb
            obtain ⟨Bcc0, Bcc1, Bcc2, Bcl⟩ := cb3 Bc
            obtain ⟨Blc0, Blc1, Bll⟩ := cb2 Bl
            go_wp2_with fail
            clear Brc0 Brc1 Brc2 Brc3 Brc4 Brc5 Brc6 Brc7 Bac0 Bac1 Bac2 Bbc0 Bbc1 Bbc2 Bcc0 Bcc1 Bcc2 Blc0 Blc1 Brl Bal Bbl Bcl Bll
            refine (impl_KeptRegion_eq (by exact Xr.below bel_) hsr HP).mono ?_
            rintro e W27 ⟨Ap, cp, rfl, Xp, hb⟩
            have K : Below W26.heap.size W26 W27 := Below.trans bel_ (hb.mono (by first | exact Nat.le_refl _ | simp [ov_size]))
            clear hb
            replace T := T.trans (K.mono T.size)
            replace Br := box_below Br K
            replace Ba := box_below Ba K
            replace Bb := box_below Bb K
            replace Bc := box_below Bc K
            replace Bl := box_below Bl K
            replace Xr := Xr.below K
            replace Xa := Xa.below K
            replace Xb := Xb.below K
            replace Xc := Xc.below K
            clear K Scode
            have Scode := Rcode.below (TV.trans (T.mono s0))
            replace Xp := Xp.r3
            cases kept with
            | false =>
              obtain ⟨Brc0, Brc1, Brc2, Brc3, Brc4, Brc5, Brc6, Brc7, Brl⟩ := cb8 Br
              obtain ⟨Bac0, Bac1, Bac2, Bal⟩ := cb3 Ba
              obtain ⟨Bbc0, Bbc1, Bbc2, Bbl⟩ := cb3 Bb
              obtain ⟨Bcc0, Bcc1, Bcc2, Bcl⟩ := cb3 Bc
              obtain ⟨Blc0, Blc1, Bll⟩ := cb2 Bl
              go_wp2
              go_ret
              exact ⟨rfl, (TV.trans (T.mono s0)).alloc (Nat.le_trans s0 T.size) _⟩
            | true =>
              obtain ⟨hw, he⟩ := HK.out _ HP.out
              have HWP := Lib.hid hw
              have HE : Hid (decide (p = rc) = true) := Lib.hid (decide_eq_true (he (by trivial)))
              clear hw he
              obtain ⟨Brc0, Brc1, Brc2, Brc3, Brc4, Brc5, Brc6, Brc7, Brl⟩ := cb8 Br
              obtain ⟨Bac0, Bac1, Bac2, Bal⟩ := cb3 Ba
              obtain ⟨Bbc0, Bbc1, Bbc2, Bbl⟩ := cb3 Bb
              obtain ⟨Bcc0, Bcc1, Bcc2, Bcl⟩ := cb3 Bc
              obtain ⟨Blc0, Blc1, Bll⟩ := cb2 Bl
              go_wp2_with fail
              clear Brc0 Brc1 Brc2 Brc3 Brc4 Brc5 Brc6 Brc7 Bac0 Bac1 Bac2 Bbc0 Bbc1 Bbc2 Bcc0 Bcc1 Bcc2 Blc0 Blc1 Brl Bal Bbl Bcl Bll
              obtain ⟨bp, hbx⟩ : ∃ b, b = W27.heap.size := ⟨_, rfl⟩
              rw [← hbx]
              obtain ⟨W28, hW⟩ : ∃ W, W = W27.alloc (.cells #[.slice Ap p.length cp] 26) := ⟨_, rfl⟩
              rw [← hW]
              have K : Below W27.heap.size W27 W28 := by rw [hW]; exact bel_
              have Bp := Lib.hid (show W28.heap[bp]? = some (.cells #[.slice Ap p.length cp] 26 (0, 0)) by rw [hW, hbx]; exact heap_alloc_new _ _)
              clear hW hbx
              replace T := T.trans (K.mono T.size)
              replace Br := box_below Br K
              replace Ba := box_below Ba K
              replace Bb := box_below Bb K
              replace Bc := box_below Bc K
              replace Bl := box_below Bl K
              replace Xr := Xr.below K
              replace Xa := Xa.below K
              replace Xb := Xb.below K
              replace Xc := Xc.below K
              replace Xp := Xp.below K
              clear K Scode
              have Scode := Rcode.below (TV.trans (T.mono s0))
              refine (calls_ov (impl_IsWithin_eq (by exact Xp.below bel_) (by omega) (by exact Xc.below bel_) (by omega) HWP)).mono ?_
              rintro e w' ⟨rfl, x9, rfl⟩
              obtain ⟨W29, hW⟩ : ∃ Z, Z = ov W28 x9 := ⟨_, rfl⟩
              rw [← hW]
              have K : Below W28.heap.size W28 W29 := by rw [hW]; exact bel_
              clear hW
              replace T := T.trans (K.mono T.size)
              replace Br := box_below Br K
              replace Ba := box_below Ba K
              replace Bb := box_below Bb K
              replace Bc := box_below Bc K
              replace Bl := box_below Bl K
              replace Bp := box_below Bp K
              replace Xr := Xr.below K
              replace Xa := Xa.below K
              replace Xb := Xb.below K
              replace Xc := Xc.below K
              replace Xp := Xp.below K
              clear K Scode
              have Scode := Rcode.below (TV.trans (T.mono s0))
              obtain ⟨Brc0, Brc1, Brc2, Brc3, Brc4, Brc5, Brc6, Brc7, Brl⟩ := cb8 Br
              obtain ⟨Bac0, Bac1, Bac2, Bal⟩ := cb3 Ba
              obtain ⟨Bbc0, Bbc1, Bbc2, Bbl⟩ := cb3 Bb
              obtain ⟨Bcc0, Bcc1, Bcc2, Bcl⟩ := cb3 Bc
              obtain ⟨Blc0, Blc1, Bll⟩ := cb2 Bl
              obtain ⟨Bpc0, Bpl⟩ := cb1 Bp
              go_wp2_with fail
              clear Brc0 Brc1 Brc2 Brc3 Brc4 Brc5 Brc6 Brc7 Bac0 Bac1 Bac2 Bbc0 Bbc1 Bbc2 Bcc0 Bcc1 Bcc2 Blc0 Blc1 Bpc0 Brl Bal Bbl Bcl Bll Bpl
              refine (calls_ov (SameRegion_eq (by exact Xp.below bel_) (by exact Xc.below bel_) (by omega) (by omega) HE)).mono ?_
              rintro e w' ⟨rfl, x9, rfl⟩
              obtain ⟨W30, hW⟩ : ∃ Z, Z = ov W29 x9 := ⟨_, rfl⟩
              rw [← hW]
              have K : Below W29.heap.size W29 W30 := by rw [hW]; exact bel_
              clear hW
              replace T := T.trans (K.mono T.size)
              replace Br := box_below Br K
              replace Ba := box_below Ba K
              replace Bb := box_below Bb K
              replace Bc := box_below Bc K
              replace Bl := box_below Bl K
              replace Bp := box_below Bp K
              replace Xr := Xr.below K
              replace Xa := Xa.below K
              replace Xb := Xb.below K
              replace Xc := Xc.below K
              replace Xp := Xp.below K
              clear K Scode
              have Scode := Rcode.below (TV.trans (T.mono s0))
              obtain ⟨Brc0, Brc1, Brc2, Brc3, Brc4, Brc5, Brc6, Brc7, Brl⟩ := cb8 Br
              obtain ⟨Bac0, Bac1, Bac2, Bal⟩ := cb3 Ba
              obtain ⟨Bbc0, Bbc1, Bbc2, Bbl⟩ := cb3 Bb
              obtain ⟨Bcc0, Bcc1, Bcc2, Bcl⟩ := cb3 Bc
              obtain ⟨Blc0, Blc1, Bll⟩ := cb2 Bl
              obtain ⟨Bpc0, Bpl⟩ := cb1 Bp
              go_wp2
              go_ret
              exact ⟨rfl, (by repeat (first | exact TV.trans (T.mono s0) | refine bO ?_ | refine bA ?_ | refine bS ?_ | refine bD ?_ | refine bN ?_))⟩
          | true =>
            obtain ⟨hl0, hl1⟩ := HLO.out _ _ HL.out
            have hln : decide (l1 < 0) = false := decide_eq_false (by omega)
            by_cases hz : l1 = 0
            · have HS2 : Hid (decide (r.ls = rb) = true) := Lib.hid (decide_eq_true (hl1.1 hz))
              clear hl1 hl0 hln
              subst hz
              obtain ⟨Brc0, Brc1, Brc2, Brc3, Brc4, Brc5, Brc6, Brc7, Brl⟩ := cb8 Br
              obtain ⟨Bac0, Bac1, Bac2, Bal⟩ := cb3 Ba
              obtain ⟨Bbc0, Bbc1, Bbc2, Bbl⟩ := cb3 Bb
              obtain ⟨Bcc0, Bcc1, Bcc2, Bcl⟩ := cb3 Bc
              obtain ⟨Blc0, Blc1, Bll⟩ := cb2 Bl
              ((first | (with_reducible refine wp_region_calm2 (by kernel_rfl) (by kernel_rfl) ?_) | refine wp_region_calm (by kernel_rfl) (by kernel_rfl) ?_); (repeat (go_big_quiet_step (first | (go_at_call 15; exact calm_below (impl_IsWithin_eq (by exact Xb.below bel_) (by omega) (by exact Xa.below bel_) (by omega) HWB)) | (go_at_call 15; exact calm_below (impl_IsWithin_eq (by exact Xc.below bel_) (by omega) (by exact Xb.below bel_) (by omega) HWC)) | (go_at_call 22; exact calm_below (SameRegion_eq (by exact Xa.below bel_) (by exact Xb.below bel_) (by omega) (by omega) HS2))))); refine wpQuiet_nil ?_; rintro _ ⟨y, rfl⟩)
              clear Brc0 Brc1 Brc2 Brc3 Brc4 Brc5 Brc6 Brc7 Bac0 Bac1 Bac2 Bbc0 Bbc1 Bbc2 Bcc0 Bcc1 Bcc2 Blc0 Blc1 Brl Bal Bbl Bcl Bll
              obtain ⟨W31, hW⟩ : ∃ Z, Z = ov W13 y := ⟨_, rfl⟩
              rw [← hW]
              have K : Below W13.heap.size W13 W31 := by rw [hW]; exact bel_
              clear hW
              replace T := T.trans (K.mono T.size)
              replace Br := box_below Br K
              replace Ba := box_below Ba K
              replace Bb := box_below Bb K
              replace Bc := box_below Bc K
              replace Bl := box_below Bl K
              replace Xr := Xr.below K
              replace Xa := Xa.below K
              replace Xb := Xb.below K
              replace Xc := Xc.below K
              clear K Scode
              have Scode := Rcode.below (TV.trans (T.mono s0))
              obtain ⟨Brc0, Brc1, Brc2, Brc3, Brc4, Brc5, Brc6, Brc7, Brl⟩ := cb8 Br
              obtain ⟨Bac0, Bac1, Bac2, Bal⟩ := cb3 Ba
              obtain ⟨Bbc0, Bbc1, Bbc2, Bbl⟩ := cb3 Bb
              obtain ⟨Bcc0, Bcc1, Bcc2, Bcl⟩ := cb3 Bc
              obtain ⟨Blc0, Blc1, Bll⟩ := cb2 Bl
              go_wp2_with fail
              clear Brc0 Brc1 Brc2 Brc3 Brc4 Brc5 Brc6 Brc7 Bac0 Bac1 Bac2 Bbc0 Bbc1 Bbc2 Bcc0 Bcc1 Bcc2 Blc0 Blc1 Brl Bal Bbl Bcl Bll
              refine (impl_KeptRegion_eq (by exact Xr.below bel_) hsr HP).mono ?_
              rintro e W32 ⟨Ap, cp, rfl, Xp, hb⟩
              have K : Below W31.heap.size W31 W32 := Below.trans bel_ (hb.mono (by first | exact Nat.le_refl _ | simp [ov_size]))
              clear hb
              replace T := T.trans (K.mono T.size)
              replace Br := box_below Br K
              replace Ba := box_below Ba K
              replace Bb := box_below Bb K
              replace Bc := box_below Bc K
              replace Bl := box_below Bl K
              replace Xr := Xr.below K
              replace Xa := Xa.below K
              replace Xb := Xb.below K
              replace Xc := Xc.below K
              clear K Scode
              have Scode := Rcode.below (TV.trans (T.mono s0))
              replace Xp := Xp.r3
              cases kept with
              | false =>
                obtain ⟨Brc0, Brc1, Brc2, Brc3, Brc4, Brc5, Brc6, Brc7, Brl⟩ := cb8 Br
                obtain ⟨Bac0, Bac1, Bac2, Bal⟩ := cb3 Ba
                obtain ⟨Bbc0, Bbc1, Bbc2, Bbl⟩ := cb3 Bb
                obtain ⟨Bcc0, Bcc1, Bcc2, Bcl⟩ := cb3 Bc
                obtain ⟨Blc0, Blc1, Bll⟩ := cb2 Bl
                go_wp2
                go_ret
                exact ⟨rfl, (TV.trans (T.mono s0)).alloc (Nat.le_trans s0 T.size) _⟩
              | true =>
                obtain ⟨hw, he⟩ := HK.out _ HP.out
                have HWP := Lib.hid hw
                have HE : Hid (decide (p = rc) = true) := Lib.hid (decide_eq_true (he (by trivial)))
                clear hw he
                obtain ⟨Brc0, Brc1, Brc2, Brc3, Brc4, Brc5, Brc6, Brc7, Brl⟩ := cb8 Br
                obtain ⟨Bac0, Bac1, Bac2, Bal⟩ := cb3 Ba
                obtain ⟨Bbc0, Bbc1, Bbc2, Bbl⟩ := cb3 Bb
                obtain ⟨Bcc0, Bcc1, Bcc2, Bcl⟩ := cb3 Bc
                obtain ⟨Blc0, Blc1, Bll⟩ := cb2 Bl
                go_wp2_with fail
                clear Brc0 Brc1 Brc2 Brc3 Brc4 Brc5 Brc6 Brc7 Bac0 Bac1 Bac2 Bbc0 Bbc1 Bbc2 Bcc0 Bcc1 Bcc2 Blc0 Blc1 Brl Bal Bbl Bcl Bll
                obtain ⟨bp, hbx⟩ : ∃ b, b = W32.heap.size := ⟨_, rfl⟩
                rw [← hbx]
                obtain ⟨W33, hW⟩ : ∃ W, W = W32.alloc (.cells #[.slice Ap p.length cp] 26) := ⟨_, rfl⟩
                rw [← hW]
                have K : Below W32.heap.size W32 W33 := by rw [hW]; exact bel_
                have Bp := Lib.hid (show W33.heap[bp]? = some (.cells #[.slice Ap p.length cp] 26 (0, 0)) by rw [hW, hbx]; exact heap_alloc_new _ _)
                clear hW hbx
                replace T := T.trans (K.mono T.size)
                replace Br := box_below Br K
                replace Ba := box_below Ba K
                replace Bb := box_below Bb K
                replace Bc := box_below Bc K
                replace Bl := box_below Bl K
                replace Xr := Xr.below K
                replace Xa := Xa.below K
                replace Xb := Xb.below K
                replace Xc := Xc.below K
                replace Xp := Xp.below K
                clear K Scode
                have Scode := Rcode.below (TV.trans (T.mono s0))
                refine (calls_ov (impl_IsWithin_eq (by exact Xp.below bel_) (by omega) (by exact Xc.below bel_) (by omega) HWP)).mono ?_
                rintro e w' ⟨rfl, x9, rfl⟩
                obtain ⟨W34, hW⟩ : ∃ Z, Z = ov W33 x9 := ⟨_, rfl⟩
                rw [← hW]
                have K : Below W33.heap.size W33 W34 := by rw [hW]; exact bel_
                clear hW
                replace T := T.trans (K.mono T.size)
                replace Br := box_below Br K
                replace Ba := box_below Ba K
                replace Bb := box_below Bb K
                replace Bc := box_below Bc K
                replace Bl := box_below Bl K
                replace Bp := box_below Bp K
                replace Xr := Xr.below K
                replace Xa := Xa.below K
                replace Xb := Xb.below K
                replace Xc := Xc.below K
                replace Xp := Xp.below K
                clear K Scode
                have Scode := Rcode.below (TV.trans (T.mono s0))
                obtain ⟨Brc0, Brc1, Brc2, Brc3, Brc4, Brc5, Brc6, Brc7, Brl⟩ := cb8 Br
                obtain ⟨Bac0, Bac1, Bac2, Bal⟩ := cb3 Ba
                obtain ⟨Bbc0, Bbc1, Bbc2, Bbl⟩ := cb3 Bb
                obtain ⟨Bcc0, Bcc1, Bcc2, Bcl⟩ := cb3 Bc
                obtain ⟨Blc0, Blc1, Bll⟩ := cb2 Bl
                obtain ⟨Bpc0, Bpl⟩ := cb1 Bp
                go_wp2_with fail
                clear Brc0 Brc1 Brc2 Brc3 Brc4 Brc5 Brc6 Brc7 Bac0 Bac1 Bac2 Bbc0 Bbc1 Bbc2 Bcc0 Bcc1 Bcc2 Blc0 Blc1 Bpc0 Brl Bal Bbl Bcl Bll Bpl
                refine (calls_ov (SameRegion_eq (by exact Xp.below bel_) (by exact Xc.below bel_) (by omega) (by omega) HE)).mono ?_
                rintro e w' ⟨rfl, x9, rfl⟩
                obtain ⟨W35, hW⟩ : ∃ Z, Z = ov W34 x9 := ⟨_, rfl⟩
                rw [← hW]
                have K : Below W34.heap.size W34 W35 := by rw [hW]; exact bel_
                clear hW
                replace T := T.trans (K.mono T.size)
                replace Br := box_below Br K
                replace Ba := box_below Ba K
                replace Bb := box_below Bb K
                replace Bc := box_below Bc K
                replace Bl := box_below Bl K
                replace Bp := box_below Bp K
                replace Xr := Xr.below K
                replace Xa := Xa.below K
                replace Xb := Xb.below K
                replace Xc := Xc.below K
                replace Xp := Xp.below K
                clear K Scode
                have Scode := Rcode.below (TV.trans (T.mono s0))
                obtain ⟨Brc0, Brc1, Brc2, Brc3, Brc4, Brc5, Brc6, Brc7, Brl⟩ := cb8 Br
                obtain ⟨Bac0, Bac1, Bac2, Bal⟩ := cb3 Ba
                obtain ⟨Bbc0, Bbc1, Bbc2, Bbl⟩ := cb3 Bb
                obtain ⟨Bcc0, Bcc1, Bcc2, Bcl⟩ := cb3 Bc
                obtain ⟨Blc0, Blc1, Bll⟩ := cb2 Bl
                obtain ⟨Bpc0, Bpl⟩ := cb1 Bp
                go_wp2
                go_ret
                exact ⟨rfl, (by repeat (first | exact TV.trans (T.mono s0) | refine bO ?_ | refine bA ?_ | refine bS ?_ | refine bD ?_ | refine bN ?_))⟩
            · have HS2 : Hid (decide (r.ls = rb) = false) := Lib.hid (decide_eq_false (fun h => hz (hl1.2 h)))
              have hz1 : decide (l1 = 0) = false := decide_eq_false hz
              clear hl1
              obtain ⟨Brc0, Brc1, Brc2, Brc3, Brc4, Brc5, Brc6, Brc7, Brl⟩ := cb8 Br
              obtain ⟨Bac0, Bac1, Bac2, Bal⟩ := cb3 Ba
              obtain ⟨Bbc0, Bbc1, Bbc2, Bbl⟩ := cb3 Bb
              obtain ⟨Bcc0, Bcc1, Bcc2, Bcl⟩ := cb3 Bc
              obtain ⟨Blc0, Blc1, Bll⟩ := cb2 Bl
              ((first | (with_reducible refine wp_region_calm2 (by kernel_rfl) (by kernel_rfl) ?_) | refine wp_region_calm (by kernel_rfl) (by kernel_rfl) ?_); (repeat (go_big_quiet_step (first | (go_at_call 15; exact calm_below (impl_IsWithin_eq (by exact Xb.below bel_) (by omega) (by exact Xa.below bel_) (by omega) HWB)) | (go_at_call 15; exact calm_below (impl_IsWithin_eq (by exact Xc.below bel_) (by omega) (by exact Xb.below bel_) (by omega) HWC)) | (go_at_call 22; exact calm_below (SameRegion_eq (by exact Xa.below bel_) (by exact Xb.below bel_) (by omega) (by omega) HS2))))); refine wpQuiet_nil ?_; rintro _ ⟨y, rfl⟩)
              clear Brc0 Brc1 Brc2 Brc3 Brc4 Brc5 Brc6 Brc7 Bac0 Bac1 Bac2 Bbc0 Bbc1 Bbc2 Bcc0 Bcc1 Bcc2 Blc0 Blc1 Brl Bal Bbl Bcl Bll
              obtain ⟨W36, hW⟩ : ∃ Z, Z = ov W13 y := ⟨_, rfl⟩
              rw [← hW]
              have K : Below W13.heap.size W13 W36 := by rw [hW]; exact bel_
              clear hW
              replace T := T.trans (K.mono T.size)
              replace Br := box_below Br K
              replace Ba := box_below Ba K
              replace Bb := box_below Bb K
              replace Bc := box_below Bc K
              replace Bl := box_below Bl K
              replace Xr := Xr.below K
              replace Xa := Xa.below K
              replace Xb := Xb.below K
              replace Xc := Xc.below K
              clear K Scode
              have Scode := Rcode.below (TV.trans (T.mono s0))
              obtain ⟨Brc0, Brc1, Brc2, Brc3, Brc4, Brc5, Brc6, Brc7, Brl⟩ := cb8 Br
              obtain ⟨Bac0, Bac1, Bac2, Bal⟩ := cb3 Ba
              obtain ⟨Bbc0, Bbc1, Bbc2, Bbl⟩ := cb3 Bb
              obtain ⟨Bcc0, Bcc1, Bcc2, Bcl⟩ := cb3 Bc
              obtain ⟨Blc0, Blc1, Bll⟩ := cb2 Bl
              go_wp2_with fail
              clear Brc0 Brc1 Brc2 Brc3 Brc4 Brc5 Brc6 Brc7 Bac0 Bac1 Bac2 Bbc0 Bbc1 Bbc2 Bcc0 Bcc1 Bcc2 Blc0 Blc1 Brl Bal Bbl Bcl Bll
              refine (impl_KeptRegion_eq (by exact Xr.below bel_) hsr HP).mono ?_
              rintro e W37 ⟨Ap, cp, rfl, Xp, hb⟩
              have K : Below W36.heap.size W36 W37 := Below.trans bel_ (hb.mono (by first | exact Nat.le_refl _ | simp [ov_size]))
              clear hb
              replace T := T.trans (K.mono T.size)
              replace Br := box_below Br K
              replace Ba := box_below Ba K
              replace Bb := box_below Bb K
              replace Bc := box_below Bc K
              replace Bl := box_below Bl K
              replace Xr := Xr.below K
              replace Xa := Xa.below K
              replace Xb := Xb.below K
              replace Xc := Xc.below K
              clear K Scode
              have Scode := Rcode.below (TV.trans (T.mono s0))
              replace Xp := Xp.r3
              cases kept with
              | false =>
                obtain ⟨Brc0, Brc1, Brc2, Brc3, Brc4, Brc5, Brc6, Brc7, Brl⟩ := cb8 Br
                obtain ⟨Bac0, Bac1, Bac2, Bal⟩ := cb3 Ba
                obtain ⟨Bbc0, Bbc1, Bbc2, Bbl⟩ := cb3 Bb
                obtain ⟨Bcc0, Bcc1, Bcc2, Bcl⟩ := cb3 Bc
                obtain ⟨Blc0, Blc1, Bll⟩ := cb2 Bl
                go_wp2
                go_ret
                exact ⟨rfl, (TV.trans (T.mono s0)).alloc (Nat.le_trans s0 T.size) _⟩
              | true =>
                obtain ⟨hw, he⟩ := HK.out _ HP.out
                have HWP := Lib.hid hw
                have HE : Hid (decide (p = rc) = true) := Lib.hid (decide_eq_true (he (by trivial)))
                clear hw he
                obtain ⟨Brc0, Brc1, Brc2, Brc3, Brc4, Brc5, Brc6, Brc7, Brl⟩ := cb8 Br
                obtain ⟨Bac0, Bac1, Bac2, Bal⟩ := cb3 Ba
                obtain ⟨Bbc0, Bbc1, Bbc2, Bbl⟩ := cb3 Bb
                obtain ⟨Bcc0, Bcc1, Bcc2, Bcl⟩ := cb3 Bc
                obtain ⟨Blc0, Blc1, Bll⟩ := cb2 Bl
                go_wp2_with fail
                clear Brc0 Brc1 Brc2 Brc3 Brc4 Brc5 Brc6 Brc7 Bac0 Bac1 Bac2 Bbc0 Bbc1 Bbc2 Bcc0 Bcc1 Bcc2 Blc0 Blc1 Brl Bal Bbl Bcl Bll
                obtain ⟨bp, hbx⟩ : ∃ b, b = W37.heap.size := ⟨_, rfl⟩
                rw [← hbx]
                obtain ⟨W38, hW⟩ : ∃ W, W = W37.alloc (.cells #[.slice Ap p.length cp] 26) := ⟨_, rfl⟩
                rw [← hW]
                have K : Below W37.heap.size W37 W38 := by rw [hW]; exact bel_
                have Bp := Lib.hid (show W38.heap[bp]? = some (.cells #[.slice Ap p.length cp] 26 (0, 0)) by rw [hW, hbx]; exact heap_alloc_new _ _)
                clear hW hbx
                replace T := T.trans (K.mono T.size)
                replace Br := box_below Br K
                replace Ba := box_below Ba K
                replace Bb := box_below Bb K
                replace Bc := box_below Bc K
                replace Bl := box_below Bl K
                replace Xr := Xr.below K
                replace Xa := Xa.below K
                replace Xb := Xb.below K
                replace Xc := Xc.below K
                replace Xp := Xp.below K
                clear K Scode
                have Scode := Rcode.below (TV.trans (T.mono s0))
                refine (calls_ov (impl_IsWithin_eq (by exact Xp.below bel_) (by omega) (by exact Xc.below bel_) (by omega) HWP)).mono ?_
                rintro e w' ⟨rfl, x9, rfl⟩
                obtain ⟨W39, hW⟩ : ∃ Z, Z = ov W38 x9 := ⟨_, rfl⟩
                rw [← hW]
                have K : Below W38.heap.size W38 W39 := by rw [hW]; exact bel_
                clear hW
                replace T := T.trans (K.mono T.size)
                replace Br := box_below Br K
                replace Ba := box_below Ba K
                replace Bb := box_below Bb K
                replace Bc := box_below Bc K
                replace Bl := box_below Bl K
                replace Bp := box_below Bp K
                replace Xr := Xr.below K
                replace Xa := Xa.below K
                replace Xb := Xb.below K
                replace Xc := Xc.below K
                replace Xp := Xp.below K
                clear K Scode
                have Scode := Rcode.below (TV.trans (T.mono s0))
                obtain ⟨Brc0, Brc1, Brc2, Brc3, Brc4, Brc5, Brc6, Brc7, Brl⟩ := cb8 Br
                obtain ⟨Bac0, Bac1, Bac2, Bal⟩ := cb3 Ba
                obtain ⟨Bbc0, Bbc1, Bbc2, Bbl⟩ := cb3 Bb
                obtain ⟨Bcc0, Bcc1, Bcc2, Bcl⟩ := cb3 Bc
                obtain ⟨Blc0, Blc1, Bll⟩ := cb2 Bl
                obtain ⟨Bpc0, Bpl⟩ := cb1 Bp
                go_wp2_with fail
                clear Brc0 Brc1 Brc2 Brc3 Brc4 Brc5 Brc6 Brc7 Bac0 Bac1 Bac2 Bbc0 Bbc1 Bbc2 Bcc0 Bcc1 Bcc2 Blc0 Blc1 Bpc0 Brl Bal Bbl Bcl Bll Bpl
                refine (calls_ov (SameRegion_eq (by exact Xp.below bel_) (by exact Xc.below bel_) (by omega) (by omega) HE)).mono ?_
                rintro e w' ⟨rfl, x9, rfl⟩
                obtain ⟨W40, hW⟩ : ∃ Z, Z = ov W39 x9 := ⟨_, rfl⟩
                rw [← hW]
                have K : Below W39.heap.size W39 W40 := by rw [hW]; exact bel_
                clear hW
                replace T := T.trans (K.mono T.size)
                replace Br := box_below Br K
                replace Ba := box_below Ba K
                replace Bb := box_below Bb K
                replace Bc := box_below Bc K
                replace Bl := box_below Bl K
                replace Bp := box_below Bp K
                replace Xr := Xr.below K
                replace Xa := Xa.below K
                replace Xb := Xb.below K
                replace Xc := Xc.below K
                replace Xp := Xp.below K
                clear K Scode
                have Scode := Rcode.below (TV.trans (T.mono s0))
                obtain ⟨Brc0, Brc1, Brc2, Brc3, Brc4, Brc5, Brc6, Brc7, Brl⟩ := cb8 Br
                obtain ⟨Bac0, Bac1, Bac2, Bal⟩ := cb3 Ba
                obtain ⟨Bbc0, Bbc1, Bbc2, Bbl⟩ := cb3 Bb
                obtain ⟨Bcc0, Bcc1, Bcc2, Bcl⟩ := cb3 Bc
                obtain ⟨Blc0, Blc1, Bll⟩ := cb2 Bl
                obtain ⟨Bpc0, Bpl⟩ := cb1 Bp
                go_wp2
                go_ret
                exact ⟨rfl, (by repeat (first | exact TV.trans (T.mono s0) | refine bO ?_ | refine bA ?_ | refine bS ?_ | refine bD ?_ | refine bN ?_))⟩
      | true =>
        have hcs := HST.out rfl
        subst hcs
        cases fine with
        | false =>
          obtain ⟨Brc0, Brc1, Brc2, Brc3, Brc4, Brc5, Brc6, Brc7, Brl⟩ := cb8 Br
          obtain ⟨Bac0, Bac1, Bac2, Bal⟩ := cb3 Ba
          obtain ⟨Bbc0, Bbc1, Bbc2, Bbl⟩ := cb3 Bb
          obtain ⟨Bcc0, Bcc1, Bcc2, Bcl⟩ := cb3 Bc
          obtain ⟨Blc0, Blc1, Bll⟩ := cb2 Bl
          ((first | (with_reducible refine wp_region_calm2 (by kernel_rfl) (by kernel_rfl) ?_) | refine wp_region_calm (by kernel_rfl) (by kernel_rfl) ?_); (repeat (go_big_quiet_step (first | (go_at_call 15; exact calm_below (impl_IsWithin_eq (by exact Xb.below bel_) (by omega) (by exact Xa.below bel_) (by omega) HWB)) | (go_at_call 15; exact calm_below (impl_IsWithin_eq (by exact Xc.below bel_) (by omega) (by exact Xb.below bel_) (by omega) HWC))))); refine wpQuiet_nil ?_; rintro _ ⟨y, rfl⟩)
          clear Brc0 Brc1 Brc2 Brc3 Brc4 Brc5 Brc6 Brc7 Bac0 Bac1 Bac2 Bbc0 Bbc1 Bbc2 Bcc0 Bcc1 Bcc2 Blc0 Blc1 Brl Bal Bbl Bcl Bll
          obtain ⟨W41, hW⟩ : ∃ Z, Z = ov W13 y := ⟨_, rfl⟩
          rw [← hW]
          have K : Below W13.heap.size W13 W41 := by rw [hW]; exact bel_
          clear hW
          replace T := T.trans (K.mono T.size)
          replace Br := box_below Br K
          replace Ba := box_below Ba K
          replace Bb := box_below Bb K
          replace Bc := box_below Bc K
          replace Bl := box_below Bl K
          replace Xr := Xr.below K
          replace Xa := Xa.below K
          replace Xb := Xb.below K
          replace Xc := Xc.below K
          clear K Scode
          have Scode := Rcode.below (TV.trans (T.mono s0))
          obtain ⟨Brc0, Brc1, Brc2, Brc3, Brc4, Brc5, Brc6, Brc7, Brl⟩ := cb8 Br
          obtain ⟨Bac0, Bac1, Bac2, Bal⟩ := cb3 Ba
          obtain ⟨Bbc0, Bbc1, Bbc2, Bbl⟩ := cb3 Bb
          obtain ⟨Bcc0, Bcc1, Bcc2, Bcl⟩ := cb3 Bc
          obtain ⟨Blc0, Blc1, Bll⟩ := cb2 Bl
          go_wp2_with fail
          clear Brc0 Brc1 Brc2 Brc3 Brc4 Brc5 Brc6 Brc7 Bac0 Bac1 Bac2 Bbc0 Bbc1 Bbc2 Bcc0 Bcc1 Bcc2 Blc0 Blc1 Brl Bal Bbl Bcl Bll
          refine (impl_KeptRegion_eq (by exact Xr.below bel_) hsr HP).mono ?_
          rintro e W42 ⟨Ap, cp, rfl, Xp, hb⟩
          have K : Below W41.heap.size W41 W42 := Below.trans bel_ (hb.mono (by first | exact Nat.le_refl _ | simp [ov_size]))
          clear hb
          replace T := T.trans (K.mono T.size)
          replace Br := box_below Br K
          replace Ba := box_below Ba K
          replace Bb := box_below Bb K
          replace Bc := box_below Bc K
          replace Bl := box_below Bl K
          replace Xr := Xr.below K
          replace Xa := Xa.below K
          replace Xb := Xb.below K
          replace Xc := Xc.below K
          clear K Scode
          have Scode := Rcode.below (TV.trans (T.mono s0))
          replace Xp := Xp.r3
          cases kept with
          | false =>
            obtain ⟨Brc0, Brc1, Brc2, Brc3, Brc4, Brc5, Brc6, Brc7, Brl⟩ := cb8 Br
            obtain ⟨Bac0, Bac1, Bac2, Bal⟩ := cb3 Ba
            obtain ⟨Bbc0, Bbc1, Bbc2, Bbl⟩ := cb3 Bb
            obtain ⟨Bcc0, Bcc1, Bcc2, Bcl⟩ := cb3 Bc
            obtain ⟨Blc0, Blc1, Bll⟩ := cb2 Bl
            go_wp2
            go_ret
            exact ⟨rfl, (TV.trans (T.mono s0)).alloc (Nat.le_trans s0 T.size) _⟩
          | true =>
            obtain ⟨hw, he⟩ := HK.out _ HP.out
            have HWP := Lib.hid hw
            have HE : Hid (decide (p = rc) = true) := Lib.hid (decide_eq_true (he (by trivial)))
            clear hw he
            obtain ⟨Brc0, Brc1, Brc2, Brc3, Brc4, Brc5, Brc6, Brc7, Brl⟩ := cb8 Br
            obtain ⟨Bac0, Bac1, Bac2, Bal⟩ := cb3 Ba
            obtain ⟨Bbc0, Bbc1, Bbc2, Bbl⟩ := cb3 Bb
            obtain ⟨Bcc0, Bcc1, Bcc2, Bcl⟩ := cb3 Bc
            obtain ⟨Blc0, Blc1, Bll⟩ := cb2 Bl
            go_wp2_with fail
            clear Brc0 Brc1 Brc2 Brc3 Brc4 Brc5 Brc6 Brc7 Bac0 Bac1 Bac2 Bbc0 Bbc1 Bbc2 Bcc0 Bcc1 Bcc2 Blc0 Blc1 Brl Bal Bbl Bcl Bll
            obtain ⟨bp, hbx⟩ : ∃ b, b = W42.heap.size := ⟨_, rfl⟩
            rw [← hbx]
            obtain ⟨W43, hW⟩ : ∃ W, W = W42.alloc (.cells #[.slice Ap p.length cp] 26) := ⟨_, rfl⟩
            rw [← hW]
            have K : Below W42.heap.size W42 W43 := by rw [hW]; exact bel_
            have Bp := Lib.hid (show W43.heap[bp]? = some (.cells #[.slice Ap p.length cp] 26 (0, 0)) by rw [hW, hbx]; exact heap_alloc_new _ _)
            clear hW hbx
            replace T := T.trans (K.mono T.size)
            replace Br := box_below Br K
            replace Ba := box_below Ba K
            replace Bb := box_below Bb K
            replace Bc := box_below Bc K
            replace Bl := box_below Bl K
            replace Xr := Xr.below K
            replace Xa := Xa.below K
            replace Xb := Xb.below K
            replace Xc := Xc.below K
            replace Xp := Xp.below K
            clear K Scode
            have Scode := Rcode.below (TV.trans (T.mono s0))
            refine (calls_ov (impl_IsWithin_eq (by exact Xp.below bel_) (by omega) (by exact Xc.below bel_) (by omega) HWP)).mono ?_
            rintro e w' ⟨rfl, x9, rfl⟩
            obtain ⟨W44, hW⟩ : ∃ Z, Z = ov W43 x9 := ⟨_, rfl⟩
            rw [← hW]
            have K : Below W43.heap.size W43 W44 := by rw [hW]; exact bel_
            clear hW
            replace T := T.trans (K.mono T.size)
            replace Br := box_below Br K
            replace Ba := box_below Ba K
            replace Bb := box_below Bb K
            replace Bc := box_below Bc K
            replace Bl := box_below Bl K
            replace Bp := box_below Bp K
            replace Xr := Xr.below K
            replace Xa := Xa.below K
            replace Xb := Xb.below K
            replace Xc := Xc.below K
            replace Xp := Xp.below K
            clear K Scode
            have Scode := Rcode.below (TV.trans (T.mono s0))
            obtain ⟨Brc0, Brc1, Brc2, Brc3, Brc4, Brc5, Brc6, Brc7, Brl⟩ := cb8 Br
            obtain ⟨Bac0, Bac1, Bac2, Bal⟩ := cb3 Ba
            obtain ⟨Bbc0, Bbc1, Bbc2, Bbl⟩ := cb3 Bb
            obtain ⟨Bcc0, Bcc1, Bcc2, Bcl⟩ := cb3 Bc
            obtain ⟨Blc0, Blc1, Bll⟩ := cb2 Bl
            obtain ⟨Bpc0, Bpl⟩ := cb1 Bp
            go_wp2_with fail
            clear Brc0 Brc1 Brc2 Brc3 Brc4 Brc5 Brc6 Brc7 Bac0 Bac1 Bac2 Bbc0 Bbc1 Bbc2 Bcc0 Bcc1 Bcc2 Blc0 Blc1 Bpc0 Brl Bal Bbl Bcl Bll Bpl
            refine (calls_ov (SameRegion_eq (by exact Xp.below bel_) (by exact Xc.below bel_) (by omega) (by omega) HE)).mono ?_
            rintro e w' ⟨rfl, x9, rfl⟩
            obtain ⟨W45, hW⟩ : ∃ Z, Z = ov W44 x9 := ⟨_, rfl⟩
            rw [← hW]
            have K : Below W44.heap.size W44 W45 := by rw [hW]; exact bel_
            clear hW
            replace T := T.trans (K.mono T.size)
            replace Br := box_below Br K
            replace Ba := box_below Ba K
            replace Bb := box_below Bb K
            replace Bc := box_below Bc K
            replace Bl := box_below Bl K
            replace Bp := box_below Bp K
            replace Xr := Xr.below K
            replace Xa := Xa.below K
            replace Xb := Xb.below K
            replace Xc := Xc.below K
            replace Xp := Xp.below K
            clear K Scode
            have Scode := Rcode.below (TV.trans (T.mono s0))
            obtain ⟨Brc0, Brc1, Brc2, Brc3, Brc4, Brc5, Brc6, Brc7, Brl⟩ := cb8 Br
            obtain ⟨Bac0, Bac1, Bac2, Bal⟩ := cb3 Ba
            obtain ⟨Bbc0, Bbc1, Bbc2, Bbl⟩ := cb3 Bb
            obtain ⟨Bcc0, Bcc1, Bcc2, Bcl⟩ := cb3 Bc
            obtain ⟨Blc0, Blc1, Bll⟩ := cb2 Bl
            obtain ⟨Bpc0, Bpl⟩ := cb1 Bp
            go_wp2
            go_ret
            exact ⟨rfl, (by repeat (first | exact TV.trans (T.mono s0) | refine bO ?_ | refine bA ?_ | refine bS ?_ | refine bD ?_ | refine bN ?_))⟩
        | true =>
          obtain ⟨hl0, hl1⟩ := HLO.out _ _ HL.out
          have hln : decide (l1 < 0) = false := decide_eq_false (by omega)
          by_cases hz : l1 = 0
          · have HS2 : Hid (decide (r.ls = rb) = true) := Lib.hid (decide_eq_true (hl1.1 hz))
            clear hl1 hl0 hln
            subst hz
            obtain ⟨Brc0, Brc1, Brc2, Brc3, Brc4, Brc5, Brc6, Brc7, Brl⟩ := cb8 Br
            obtain ⟨Bac0, Bac1, Bac2, Bal⟩ := cb3 Ba
            obtain ⟨Bbc0, Bbc1, Bbc2, Bbl⟩ := cb3 Bb
            obtain ⟨Bcc0, Bcc1, Bcc2, Bcl⟩ := cb3 Bc
            obtain ⟨Blc0, Blc1, Bll⟩ := cb2 Bl
            ((first | (with_reducible refine wp_region_calm2 (by kernel_rfl) (by kernel_rfl) ?_) | refine wp_region_calm (by kernel_rfl) (by kernel_rfl) ?_); (repeat (go_big_quiet_step (first | (go_at_call 15; exact calm_below (impl_IsWithin_eq (by exact Xb.below bel_) (by omega) (by exact Xa.below bel_) (by omega) HWB)) | (go_at_call 15; exact calm_below (impl_IsWithin_eq (by exact Xc.below bel_) (by omega) (by exact Xb.below bel_) (by omega) HWC)) | (go_at_call 22; exact calm_below (SameRegion_eq (by exact Xa.below bel_) (by exact Xb.below bel_) (by omega) (by omega) HS2))))); refine wpQuiet_nil ?_; rintro _ ⟨y, rfl⟩)
            clear Brc0 Brc1 Brc2 Brc3 Brc4 Brc5 Brc6 Brc7 Bac0 Bac1 Bac2 Bbc0 Bbc1 Bbc2 Bcc0 Bcc1 Bcc2 Blc0 Blc1 Brl Bal Bbl Bcl Bll
            obtain ⟨W46, hW⟩ : ∃ Z, Z = ov W13 y := ⟨_, rfl⟩
            rw [← hW]
            have K : Below W13.heap.size W13 W46 := by rw [hW]; exact bel_
            clear hW
            replace T := T.trans (K.mono T.size)
            replace Br := box_below Br K
            replace Ba := box_below Ba K
            replace Bb := box_below Bb K
            replace Bc := box_below Bc K
            replace Bl := box_below Bl K
            replace Xr := Xr.below K
            replace Xa := Xa.below K
            replace Xb := Xb.below K
            replace Xc := Xc.below K
            clear K Scode
            have Scode := Rcode.below (TV.trans (T.mono s0))
            obtain ⟨Brc0, Brc1, Brc2, Brc3, Brc4, Brc5, Brc6, Brc7, Brl⟩ := cb8 Br
            obtain ⟨Bac0, Bac1, Bac2, Bal⟩ := cb3 Ba
            obtain ⟨Bbc0, Bbc1, Bbc2, Bbl⟩ := cb3 Bb
            obtain ⟨Bcc0, Bcc1, Bcc2, Bcl⟩ := cb3 Bc
            obtain ⟨Blc0, Blc1, Bll⟩ := cb2 Bl
            go_wp2_with fail
            clear Brc0 Brc1 Brc2 Brc3 Brc4 Brc5 Brc6 Brc7 Bac0 Bac1 Bac2 Bbc0 Bbc1 Bbc2 Bcc0 Bcc1 Bcc2 Blc0 Blc1 Brl Bal Bbl Bcl Bll
            refine (impl_KeptRegion_eq (by exact Xr.below bel_) hsr HP).mono ?_
            rintro e W47 ⟨Ap, cp, rfl, Xp, hb⟩
            have K : Below W46.heap.size W46 W47 := Below.trans bel_ (hb.mono (by first | exact Nat.le_refl _ | simp [ov_size]))
            clear hb
            replace T := T.trans (K.mono T.size)
            replace Br := box_below Br K
            replace Ba := box_below Ba K
            replace Bb := box_below Bb K
            replace Bc := box_below Bc K
            replace Bl := box_below Bl K
            replace Xr := Xr.below K
            replace Xa := Xa.below K
            replace Xb := Xb.below K
            replace Xc := Xc.below K
            clear K Scode
            have Scode := Rcode.below (TV.trans (T.mono s0))
            replace Xp := Xp.r3
            cases kept with
            | false =>
              obtain ⟨Brc0, Brc1, Brc2, Brc3, Brc4, Brc5, Brc6, Brc7, Brl⟩ := cb8 Br
              obtain ⟨Bac0, Bac1, Bac2, Bal⟩ := cb3 Ba
              obtain ⟨Bbc0, Bbc1, Bbc2, Bbl⟩ := cb3 Bb
              obtain ⟨Bcc0, Bcc1, Bcc2, Bcl⟩ := cb3 Bc
              obtain ⟨Blc0, Blc1, Bll⟩ := cb2 Bl
              go_wp2
              go_ret
              exact ⟨rfl, (TV.trans (T.mono s0)).alloc (Nat.le_trans s0 T.size) _⟩
            | true =>
              obtain ⟨hw, he⟩ := HK.out _ HP.out
              have HWP := Lib.hid hw
              have HE : Hid (decide (p = rc) = true) := Lib.hid (decide_eq_true (he (by trivial)))
              clear hw he
              obtain ⟨Brc0, Brc1, Brc2, Brc3, Brc4, Brc5, Brc6, Brc7, Brl⟩ := cb8 Br
              obtain ⟨Bac0, Bac1, Bac2, Bal⟩ := cb3 Ba
              obtain ⟨Bbc0, Bbc1, Bbc2, Bbl⟩ := cb3 Bb
              obtain ⟨Bcc0, Bcc1, Bcc2, Bcl⟩ := cb3 Bc
              obtain ⟨Blc0, Blc1, Bll⟩ := cb2 Bl
              go_wp2_with fail
              clear Brc0 Brc1 Brc2 Brc3 Brc4 Brc5 Brc6 Brc7 Bac0 Bac1 Bac2 Bbc0 Bbc1 Bbc2 Bcc0 Bcc1 Bcc2 Blc0 Blc1 Brl Bal Bbl Bcl Bll
              obtain ⟨bp, hbx⟩ : ∃ b, b = W47.heap.size := ⟨_, rfl⟩
              rw [← hbx]
              obtain ⟨W48, hW⟩ : ∃ W, W = W47.alloc (.cells #[.slice Ap p.length cp] 26) := ⟨_, rfl⟩
              rw [← hW]
              have K : Below W47.heap.size W47 W48 := by rw [hW]; exact bel_
              have Bp := Lib.hid (show W48.heap[bp]? = some (.cells #[.slice Ap p.length cp] 26 (0, 0)) by rw [hW, hbx]; exact heap_alloc_new _ _)
              clear hW hbx
              replace T := T.trans (K.mono T.size)
              replace Br := box_below Br K
              replace Ba := box_below Ba K
              replace Bb := box_below Bb K
              replace Bc := box_below Bc K
              replace Bl := box_below Bl K
              replace Xr := Xr.below K
              replace Xa := Xa.below K
              replace Xb := Xb.below K
              replace Xc := Xc.below K
              replace Xp := Xp.below K
              clear K Scode
              have Scode := Rcode.below (TV.trans (T.mono s0))
              refine (calls_ov (impl_IsWithin_eq (by exact Xp.below bel_) (by omega) (by exact Xc.below bel_) (by omega) HWP)).mono ?_
              rintro e w' ⟨rfl, x9, rfl⟩
              obtain ⟨W49, hW⟩ : ∃ Z, Z = ov W48 x9 := ⟨_, rfl⟩
              rw [← hW]
              have K : Below W48.heap.size W48 W49 := by rw [hW]; exact bel_
              clear hW
              replace T := T.trans (K.mono T.size)
              replace Br := box_below Br K
              replace Ba := box_below Ba K
              replace Bb := box_below Bb K
              replace Bc := box_below Bc K
              replace Bl := box_below Bl K
              replace Bp := box_below Bp K
              replace Xr := Xr.below K
              replace Xa := Xa.below K
              replace Xb := Xb.below K
              replace Xc := Xc.below K
              replace Xp := Xp.below K
              clear K Scode
              have Scode := Rcode.below (TV.trans (T.mono s0))
              obtain ⟨Brc0, Brc1, Brc2, Brc3, Brc4, Brc5, Brc6, Brc7, Brl⟩ := cb8 Br
              obtain ⟨Bac0, Bac1, Bac2, Bal⟩ := cb3 Ba
              obtain ⟨Bbc0, Bbc1, Bbc2, Bbl⟩ := cb3 Bb
              obtain ⟨Bcc0, Bcc1, Bcc2, Bcl⟩ := cb3 Bc
              obtain ⟨Blc0, Blc1, Bll⟩ := cb2 Bl
              obtain ⟨Bpc0, Bpl⟩ := cb1 Bp
              go_wp2_with fail
              clear Brc0 Brc1 Brc2 Brc3 Brc4 Brc5 Brc6 Brc7 Bac0 Bac1 Bac2 Bbc0 Bbc1 Bbc2 Bcc0 Bcc1 Bcc2 Blc0 Blc1 Bpc0 Brl Bal Bbl Bcl Bll Bpl
              refine (calls_ov (SameRegion_eq (by exact Xp.below bel_) (by exact Xc.below bel_) (by omega) (by omega) HE)).mono ?_
              rintro e w' ⟨rfl, x9, rfl⟩
              obtain ⟨W50, hW⟩ : ∃ Z, Z = ov W49 x9 := ⟨_, rfl⟩
              rw [← hW]
              have K : Below W49.heap.size W49 W50 := by rw [hW]; exact bel_
              clear hW
              replace T := T.trans (K.mono T.size)
              replace Br := box_below Br K
              replace Ba := box_below Ba K
              replace Bb := box_below Bb K
              replace Bc := box_below Bc K
              replace Bl := box_below Bl K
              replace Bp := box_below Bp K
              replace Xr := Xr.below K
              replace Xa := Xa.below K
              replace Xb := Xb.below K
              replace Xc := Xc.below K
              replace Xp := Xp.below K
              clear K Scode
              have Scode := Rcode.below (TV.trans (T.mono s0))
              obtain ⟨Brc0, Brc1, Brc2, Brc3, Brc4, Brc5, Brc6, Brc7, Brl⟩ := cb8 Br
              obtain ⟨Bac0, Bac1, Bac2, Bal⟩ := cb3 Ba
              obtain ⟨Bbc0, Bbc1, Bbc2, Bbl⟩ := cb3 Bb
              obtain ⟨Bcc0, Bcc1, Bcc2, Bcl⟩ := cb3 Bc
              obtain ⟨Blc0, Blc1, Bll⟩ := cb2 Bl
              obtain ⟨Bpc0, Bpl⟩ := cb1 Bp
              go_wp2
              go_ret
              exact ⟨rfl, (by repeat (first | exact TV.trans (T.mono s0) | refine bO ?_ | refine bA ?_ | refine bS ?_ | refine bD ?_ | refine bN ?_))⟩
          · have HS2 : Hid (decide (r.ls = rb) = false) := Lib.hid (decide_eq_false (fun h => hz (hl1.2 h)))
            have hz1 : decide (l1 = 0) = false := decide_eq_false hz
            clear hl1
            obtain ⟨Brc0, Brc1, Brc2, Brc3, Brc4, Brc5, Brc6, Brc7, Brl⟩ := cb8 Br
            obtain ⟨Bac0, Bac1, Bac2, Bal⟩ := cb3 Ba
            obtain ⟨Bbc0, Bbc1, Bbc2, Bbl⟩ := cb3 Bb
            obtain ⟨Bcc0, Bcc1, Bcc2, Bcl⟩ := cb3 Bc
            obtain ⟨Blc0, Blc1, Bll⟩ := cb2 Bl
            ((first | (with_reducible refine wp_region_calm2 (by kernel_rfl) (by kernel_rfl) ?_) | refine wp_region_calm (by kernel_rfl) (by kernel_rfl) ?_); (repeat (go_big_quiet_step (first | (go_at_call 15; exact calm_below (impl_IsWithin_eq (by exact Xb.below bel_) (by omega) (by exact Xa.below bel_) (by omega) HWB)) | (go_at_call 15; exact calm_below (impl_IsWithin_eq (by exact Xc.below bel_) (by omega) (by exact Xb.below bel_) (by omega) HWC)) | (go_at_call 22; exact calm_below (SameRegion_eq (by exact Xa.below bel_) (by exact Xb.below bel_) (by omega) (by omega) HS2))))); refine wpQuiet_nil ?_; rintro _ ⟨y, rfl⟩)
            clear Brc0 Brc1 Brc2 Brc3 Brc4 Brc5 Brc6 Brc7 Bac0 Bac1 Bac2 Bbc0 Bbc1 Bbc2 Bcc0 Bcc1 Bcc2 Blc0 Blc1 Brl Bal Bbl Bcl Bll
            obtain ⟨W51, hW⟩ : ∃ Z, Z = ov W13 y := ⟨_, rfl⟩
            rw [← hW]
            have K : Below W13.heap.size W13 W51 := by rw [hW]; exact bel_
            clear hW
            replace T := T.trans (K.mono T.size)
            replace Br := box_below Br K
            replace Ba := box_below Ba K
            replace Bb := box_below Bb K
            replace Bc := box_below Bc K
            replace Bl := box_below Bl K
            replace Xr := Xr.below K
            replace Xa := Xa.below K
            replace Xb := Xb.below K
            replace Xc := Xc.below K
            clear K Scode
            have Scode := Rcode.below (TV.trans (T.mono s0))
            obtain ⟨Brc0, Brc1, Brc2, Brc3, Brc4, Brc5, Brc6, Brc7, Brl⟩ := cb8 Br
            obtain ⟨Bac0, Bac1, Bac2, Bal⟩ := cb3 Ba
            obtain ⟨Bbc0, Bbc1, Bbc2, Bbl⟩ := cb3 Bb
            obtain ⟨Bcc0, Bcc1, Bcc2, Bcl⟩ := cb3 Bc
            obtain ⟨Blc0, Blc1, Bll⟩ := cb2 Bl
            go_wp2_with fail
            clear Brc0 Brc1 Brc2 Brc3 Brc4 Brc5 Brc6 Brc7 Bac0 Bac1 Bac2 Bbc0 Bbc1 Bbc2 Bcc0 Bcc1 Bcc2 Blc0 Blc1 Brl Bal Bbl Bcl Bll
            refine (impl_KeptRegion_eq (by exact Xr.below bel_) hsr HP).mono ?_
            rintro e W52 ⟨Ap, cp, rfl, Xp, hb⟩
            have K : Below W51.heap.size W51 W52 := Below.trans bel_ (hb.mono (by first | exact Nat.le_refl _ | simp [ov_size]))
            clear hb
            replace T := T.trans (K.mono T.size)
            replace Br := box_below Br K
            replace Ba := box_below Ba K
            replace Bb := box_below Bb K
            replace Bc := box_below Bc K
            replace Bl := box_below Bl K
            replace Xr := Xr.below K
            replace Xa := Xa.below K
            replace Xb := Xb.below K
            replace Xc := Xc.below K
            clear K Scode
            have Scode := Rcode.below (TV.trans (T.mono s0))
            replace Xp := Xp.r3
            cases kept with
            | false =>
              obtain ⟨Brc0, Brc1, Brc2, Brc3, Brc4, Brc5, Brc6, Brc7, Brl⟩ := cb8 Br
              obtain ⟨Bac0, Bac1, Bac2, Bal⟩ := cb3 Ba
              obtain ⟨Bbc0, Bbc1, Bbc2, Bbl⟩ := cb3 Bb
              obtain ⟨Bcc0, Bcc1, Bcc2, Bcl⟩ := cb3 Bc
              obtain ⟨Blc0, Blc1, Bll⟩ := cb2 Bl
              go_wp2
              go_ret
              exact ⟨rfl, (TV.trans (T.mono s0)).alloc (Nat.le_trans s0 T.size) _⟩
            | true =>
              obtain ⟨hw, he⟩ := HK.out _ HP.out
              have HWP := Lib.hid hw
              have HE : Hid (decide (p = rc) = true) := Lib.hid (decide_eq_true (he (by trivial)))
              clear hw he
              obtain ⟨Brc0, Brc1, Brc2, Brc3, Brc4, Brc5, Brc6, Brc7, Brl⟩ := cb8 Br
              obtain ⟨Bac0, Bac1, Bac2, Bal⟩ := cb3 Ba
              obtain ⟨Bbc0, Bbc1, Bbc2, Bbl⟩ := cb3 Bb
              obtain ⟨Bcc0, Bcc1, Bcc2, Bcl⟩ := cb3 Bc
              obtain ⟨Blc0, Blc1, Bll⟩ := cb2 Bl
              go_wp2_with fail
              clear Brc0 Brc1 Brc2 Brc3 Brc4 Brc5 Brc6 Brc7 Bac0 Bac1 Bac2 Bbc0 Bbc1 Bbc2 Bcc0 Bcc1 Bcc2 Blc0 Blc1 Brl Bal Bbl Bcl Bll
              obtain ⟨bp, hbx⟩ : ∃ b, b = W52.heap.size := ⟨_, rfl⟩
              rw [← hbx]
              obtain ⟨W53, hW⟩ : ∃ W, W = W52.alloc (.cells #[.slice Ap p.length cp] 26) := ⟨_, rfl⟩
              rw [← hW]
              have K : Below W52.heap.size W52 W53 := by rw [hW]; exact bel_
              have Bp := Lib.hid (show W53.heap[bp]? = some (.cells #[.slice Ap p.length cp] 26 (0, 0)) by rw [hW, hbx]; exact heap_alloc_new _ _)
              clear hW hbx
              replace T := T.trans (K.mono T.size)
              replace Br := box_below Br K
              replace Ba := box_below Ba K
              replace Bb := box_below Bb K
              replace Bc := box_below Bc K
              replace Bl := box_below Bl K
              replace Xr := Xr.below K
              replace Xa := Xa.below K
              replace Xb := Xb.below K
              replace Xc := Xc.below K
              replace Xp := Xp.below K
              clear K Scode
              have Scode := Rcode.below (TV.trans (T.mono s0))
              refine (calls_ov (impl_IsWithin_eq (by exact Xp.below bel_) (by omega) (by exact Xc.below bel_) (by omega) HWP)).mono ?_
              rintro e w' ⟨rfl, x9, rfl⟩
              obtain ⟨W54, hW⟩ : ∃ Z, Z = ov W53 x9 := ⟨_, rfl⟩
              rw [← hW]
              have K : Below W53.heap.size W53 W54 := by rw [hW]; exact bel_
              clear hW
              replace T := T.trans (K.mono T.size)
              replace Br := box_below Br K
              replace Ba := box_below Ba K
              replace Bb := box_below Bb K
              replace Bc := box_below Bc K
              replace Bl := box_below Bl K
              replace Bp := box_below Bp K
              replace Xr := Xr.below K
              replace Xa := Xa.below K
              replace Xb := Xb.below K
              replace Xc := Xc.below K
              replace Xp := Xp.below K
              clear K Scode
              have Scode := Rcode.below (TV.trans (T.mono s0))
              obtain ⟨Brc0, Brc1, Brc2, Brc3, Brc4, Brc5, Brc6, Brc7, Brl⟩ := cb8 Br
              obtain ⟨Bac0, Bac1, Bac2, Bal⟩ := cb3 Ba
              obtain ⟨Bbc0, Bbc1, Bbc2, Bbl⟩ := cb3 Bb
              obtain ⟨Bcc0, Bcc1, Bcc2, Bcl⟩ := cb3 Bc
              obtain ⟨Blc0, Blc1, Bll⟩ := cb2 Bl
              obtain ⟨Bpc0, Bpl⟩ := cb1 Bp
              go_wp2_with fail
              clear Brc0 Brc1 Brc2 Brc3 Brc4 Brc5 Brc6 Brc7 Bac0 Bac1 Bac2 Bbc0 Bbc1 Bbc2 Bcc0 Bcc1 Bcc2 Blc0 Blc1 Bpc0 Brl Bal Bbl Bcl Bll Bpl
              refine (calls_ov (SameRegion_eq (by exact Xp.below bel_) (by exact Xc.below bel_) (by omega) (by omega) HE)).mono ?_
              rintro e w' ⟨rfl, x9, rfl⟩
              obtain ⟨W55, hW⟩ : ∃ Z, Z = ov W54 x9 := ⟨_, rfl⟩
              rw [← hW]
              have K : Below W54.heap.size W54 W55 := by rw [hW]; exact bel_
              clear hW
              replace T := T.trans (K.mono T.size)
              replace Br := box_below Br K
              replace Ba := box_below Ba K
              replace Bb := box_below Bb K
              replace Bc := box_below Bc K
              replace Bl := box_below Bl K
              replace Bp := box_below Bp K
              replace Xr := Xr.below K
              replace Xa := Xa.below K
              replace Xb := Xb.below K
              replace Xc := Xc.below K
              replace Xp := Xp.below K
              clear K Scode
              have Scode := Rcode.below (TV.trans (T.mono s0))
              obtain ⟨Brc0, Brc1, Brc2, Brc3, Brc4, Brc5, Brc6, Brc7, Brl⟩ := cb8 Br
              obtain ⟨Bac0, Bac1, Bac2, Bal⟩ := cb3 Ba
              obtain ⟨Bbc0, Bbc1, Bbc2, Bbl⟩ := cb3 Bb
              obtain ⟨Bcc0, Bcc1, Bcc2, Bcl⟩ := cb3 Bc
              obtain ⟨Blc0, Blc1, Bll⟩ := cb2 Bl
              obtain ⟨Bpc0, Bpl⟩ := cb1 Bp
              go_wp2
              go_ret
              exact ⟨rfl, (by repeat (first | exact TV.trans (T.mono s0) | refine bO ?_ | refine bA ?_ | refine bS ?_ | refine bD ?_ | refine bN ?_))⟩
set_option maxRecDepth 100000 in
theorem FnRounds_lifted (os : Os) (started : os.Started) (H : Type) (enc : TypeId × Value → H) :
    ReturnsInHanded {} Tryz.checked os 5 .any (Rows.fnRoundsSpec.pre6 enc Tryz.prog Tryz.f5 Rows.fnRoundsRow.domain false) (Rows.fnRoundsSpec.post enc Tryz.prog Tryz.f5 false true false false) := by
  refine returnsInHanded_of_change (C := Tryz.checked) own started (by kernel_rfl) Tryz.func5
    (ChangeSpec.witness6 (enc := enc) (C := Tryz.checked) false ⟨#[], #[.slice none 0 0], []⟩ 8 (by kernel_rfl) (by kernel_rfl) (by kernel_rfl) (by kernel_rfl)) ?_
  intro W base args ds gs before hval0 hW hcnd _
  have hval : ∀ (j : Nat) t v, Tryz.f5.params[j]? = some t → args[j]? = some v → Value.okWide Tryz.prog W .any base t v := hval0
  have hW' := hW
  obtain ⟨p, q, hA0, hV, rfl, hfz, hnd⟩ := hW
  have hA : DataW.TrodAll enc Tryz.prog W 0 (fun _ => true) true Tryz.f5.params.toList args.toList ds p := hA0
  rw [Tryz.params5] at hA hval
  obtain ⟨v0, vs0, d0, ds0, p0, q0, hargs0, rfl, rfl, h0, r0⟩ := trodAll_cons hA
  obtain ⟨rfl, rfl, rfl⟩ := trodAll_nil r0
  obtain rfl : args = #[v0] := by cases args; simp_all
  obtain ⟨rfl, rfl⟩ := trodVars_none hV
  have k0 := h0
  have lt0 : ∀ x ∈ p0, x.block < W.heap.size := by obtain ⟨m, hm⟩ := k0; exact DataW.trod_lt m _ _ _ hm
  have hv0 := hval 0 22 v0 rfl rfl
  obtain ⟨A0, c0, xs0, rfl, RR0, hlen0⟩ := open_bytes hv0 h0
  clear hA0 hval0
  refine (lawO_any W RR0 hlen0).mono fun e W' ⟨he, bel⟩ => ?_
  subst he
  exact ⟨_, rfl, _, _, _, [], _, [], hW', trodAll_mk1 (shut_bool Tryz.underlying4 _), (trodAll_cons_mk (Below.trod laidOut (by kernel_rfl) (of_decide_eq_true (by kernel_rfl)) k0 bel lt0) trodAll_mk0), rfl, bel.frame _, fun h => by cases h⟩

theorem FnRounds_holds : Rows.FnRoundsSaid :=
  OpenClaim.holds_of_wide 5 Tryz.f5 rfl rfl rfl rfl rfl rfl rfl ⟨rfl, rfl, rfl, rfl, rfl⟩ rfl rfl rfl rfl rfl (by kernel_rfl) Tryz.func5 (by kernel_rfl)
    (of_decide_eq_true (by kernel_rfl)) (by unfold Func.isWrapper; first | (rw [if_pos (by decide +kernel)]; kernel_rfl) | (rw [if_neg (by decide +kernel)]; exact ⟨rfl, rfl⟩))
    (fun os started H enc _ => FnRounds_lifted os started H enc)
#print axioms FnRounds_holds
end Go.Proofs.YtabmfaamadbefaaGreat