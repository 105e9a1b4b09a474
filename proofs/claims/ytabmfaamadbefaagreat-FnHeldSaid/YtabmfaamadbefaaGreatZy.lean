/- Several texts in one: Zn, Zt, Zy. Each says its own conditions. -/
import Derived.Test.YtabmfaamadbefaaGreatZc
import Derived.Test.YtabmfaamadbefaaGreatQm
import Derived.Test.YtabmfaamadbefaaGreatZr
import Derived.Test.YtabmfaamadbefaaGreatRmo
/- Plain: the inputs that AdmitAt admits, as a set of fractions. No program. -/
set_option linter.unusedSimpArgs false
set_option linter.unusedVariables false
set_option linter.unusedSectionVars false
namespace Go.Proofs.YtabmfaamadbefaaGreat
open Go.RowKit
def ratP (a : Int × Int) : Prop := ratioOk a.1 a.2 = true
theorem ratP_pos {a : Int × Int} (h : ratP a) : 0 < a.2 := by
  unfold ratP ratioOk at h
  simp only [Bool.and_eq_true, inR_iff] at h
  omega
theorem cmp_fr {a b : Int × Int} (ha : ratP a) (hb : ratP b) : ratioCmp a.1 a.2 b.1 b.2 ≤ 0 ↔ fr a ≤ fr b := by
  have h1 := ratP_pos ha
  have h2 := ratP_pos hb
  unfold ratioCmp
  rw [if_pos ⟨ha, hb⟩]
  have := cmpF_pos (m := a) (n := b) h1 h2
  constructor
  · intro h
    apply Classical.byContradiction; intro hn
    have := this.2 (by grind)
    omega
  · intro h
    apply Classical.byContradiction; intro hn
    have := this.1 (by omega)
    grind
theorem min_fr {a b : Int × Int} (ha : ratP a) (hb : ratP b) : ratP (ratMin a.1 a.2 b.1 b.2) ∧ ∀ u : Rat, u ≤ fr (ratMin a.1 a.2 b.1 b.2) ↔ u ≤ fr a ∧ u ≤ fr b := by
  have c := cmp_fr ha hb
  unfold ratMin
  split
  · rename_i h
    have := c.1 h
    exact ⟨ha, fun u => ⟨fun k => ⟨k, by have k' : u ≤ fr a := k; grind⟩, fun k => k.1⟩⟩
  · rename_i h
    have : ¬ fr a ≤ fr b := fun k => h (c.2 k)
    exact ⟨hb, fun u => ⟨fun k => ⟨by have k' : u ≤ fr b := k; grind, k⟩, fun k => k.2⟩⟩
theorem max_fr {a b : Int × Int} (ha : ratP a) (hb : ratP b) : ratP (ratMax a.1 a.2 b.1 b.2) ∧ ∀ u : Rat, fr (ratMax a.1 a.2 b.1 b.2) ≤ u ↔ fr a ≤ u ∧ fr b ≤ u := by
  have c := cmp_fr hb ha
  have sw : 0 ≤ ratioCmp a.1 a.2 b.1 b.2 ↔ ratioCmp b.1 b.2 a.1 a.2 ≤ 0 := by
    unfold ratioCmp
    rw [if_pos ⟨ha, hb⟩, if_pos ⟨hb, ha⟩, cmpF_swap]
    omega
  unfold ratMax
  split
  · rename_i h
    have := c.1 (sw.1 h)
    exact ⟨ha, fun u => ⟨fun k => ⟨k, by have k' : fr a ≤ u := k; grind⟩, fun k => k.1⟩⟩
  · rename_i h
    have : ¬ fr b ≤ fr a := fun k => h (sw.2 (c.2 k))
    exact ⟨hb, fun u => ⟨fun k => ⟨by have k' : fr b ≤ u := k; grind, k⟩, fun k => k.2⟩⟩
theorem ratOf_val {n d : Int} (hn : -500000000000000000 ≤ n ∧ n ≤ 500000000000000000) (hd : 1 ≤ d ∧ d ≤ 5000000000) : ratP (ratOf n d) ∧ fr (ratOf n d) = (n : Rat) / (d : Rat) := by
  obtain ⟨g, g0, e1, e2, q0, ok⟩ := ratOf_fr (x := (n, d)) ⟨hn, hd⟩
  refine ⟨ok, ?_⟩
  simp only at e1 e2 q0
  have gq : (0 : Rat) < (g : Rat) := by exact_mod_cast g0
  have dq : (0 : Rat) < ((ratOf n d).2 : Rat) := by exact_mod_cast q0
  have q1 : (n : Rat) = ((ratOf n d).1 : Rat) * (g : Rat) := by exact_mod_cast e1
  have q2 : (d : Rat) = ((ratOf n d).2 : Rat) * (g : Rat) := by exact_mod_cast e2
  unfold fr
  rw [q1, q2]
  grind
theorem fr_one (n : Int) : fr (n, 1) = (n : Rat) := by unfold fr; simp only; grind
structure AdmB (r : RoomV) (X Y D : Int) : Prop where
  bx : -100 ≤ r.bx ∧ r.bx ≤ 100
  by_ : -100 ≤ r.by_ ∧ r.by_ ≤ 100
  X : -1000000000 ≤ X ∧ X ≤ 1000000000
  Y : -1000000000 ≤ Y ∧ Y ≤ 1000000000
  D : 1 ≤ D ∧ D ≤ 400
theorem slopeB_bd {r : RoomV} {X Y D : Int} (B : AdmB r X Y D) {h : H3} (k : HOk h) : -10000000 ≤ slopeI r h ∧ slopeI r h ≤ 10000000 := by
  have m1 := mul_bd (A := 50000) (B := 100) k.ba B.bx
  have m2 := mul_bd (A := 50000) (B := 100) k.bb B.by_
  unfold slopeI
  omega
theorem admTop_bd {r : RoomV} {X Y D : Int} (B : AdmB r X Y D) {h : H3} (k : HOk h) : -500000000000000000 ≤ admTop X Y D h ∧ admTop X Y D h ≤ 500000000000000000 := by
  have m1 := mul_bd (A := 50000) (B := 1000000000) k.ba B.X
  have m2 := mul_bd (A := 50000) (B := 1000000000) k.bb B.Y
  have m3 := mul_bd (A := 100000000) (B := 400) (y := D) k.bc (by have := B.D; omega)
  unfold admTop
  omega
def baseP (X Y D : Int) : Pt := ⟨(X : Rat) / (D : Rat), (Y : Rat) / (D : Rat)⟩
theorem adm_in {r : RoomV} {X Y D : Int} (hD : 0 < D) (h : H3) (u : Rat) : In h (movP (baseP X Y D) u r.bx r.by_) ↔ u * ((D * slopeI r h : Int) : Rat) ≤ ((admTop X Y D h : Int) : Rat) := by
  have dq : (0 : Rat) < (D : Rat) := by exact_mod_cast hD
  have e : val h (movP (baseP X Y D) u r.bx r.by_) * (D : Rat) = (h.a : Rat) * X + (h.b : Rat) * Y + u * ((D * slopeI r h : Int) : Rat) := by
    rw [val_movP]
    unfold val baseP slopeI
    simp only
    push_cast
    grind
  have et : ((admTop X Y D h : Int) : Rat) = (h.c : Rat) * (D : Rat) - (h.a : Rat) * X - (h.b : Rat) * Y := by unfold admTop; push_cast; rfl
  rw [et]
  unfold In
  constructor
  · intro k
    have := Rat.mul_le_mul_of_nonneg_right k (show (0 : Rat) ≤ (D : Rat) by grind)
    grind
  · intro k
    apply Classical.byContradiction; intro hn
    have := Rat.mul_pos (show (0 : Rat) < val h (movP (baseP X Y D) u r.bx r.by_) - (h.c : Rat) by grind) dq
    grind
theorem div_leR {t m u : Rat} (hm : 0 < m) : t / m ≤ u ↔ t ≤ u * m := by
  have e : t / m * m = t := by grind
  constructor
  · intro h
    have := Rat.mul_le_mul_of_nonneg_right h (show (0 : Rat) ≤ m by grind)
    grind
  · intro h
    apply Classical.byContradiction; intro hn
    have := Rat.mul_pos (show (0 : Rat) < t / m - u by grind) hm
    grind
theorem le_divR {t m u : Rat} (hm : 0 < m) : u ≤ t / m ↔ u * m ≤ t := by
  have e : t / m * m = t := by grind
  constructor
  · intro h
    have := Rat.mul_le_mul_of_nonneg_right h (show (0 : Rat) ≤ m by grind)
    grind
  · intro h
    apply Classical.byContradiction; intro hn
    have := Rat.mul_pos (show (0 : Rat) < u - t / m by grind) hm
    grind
def spanP (w : Q4) (u : Rat) : Prop := fr w.1 ≤ u ∧ u ≤ fr w.2
/-- One half plane narrows the span to the inputs with which it holds. -/
theorem adm_step {r : RoomV} {X Y D : Int} (B : AdmB r X Y D) {h : H3} (k : HOk h) {w : Q4} (h1 : ratP w.1) (h2 : ratP w.2) : match admStep r X Y D w h with
    | some w' => ratP w'.1 ∧ ratP w'.2 ∧ ∀ u, spanP w' u ↔ spanP w u ∧ In h (movP (baseP X Y D) u r.bx r.by_)
    | none => ∀ u, ¬ In h (movP (baseP X Y D) u r.bx r.by_) := by
  have bs := slopeB_bd B k
  have bt := admTop_bd B k
  have bD := B.D
  have hin := fun u => adm_in (r := r) (X := X) (Y := Y) (D := D) (by omega) h u
  unfold admStep
  by_cases p : 0 < slopeI r h
  · rw [if_pos p]
    have m := mul_bd (x := D) (y := slopeI r h) (A := 400) (B := 10000000) (by omega) bs
    have pp := Int.mul_pos (show 0 < D by omega) p
    obtain ⟨ok, hv⟩ := ratOf_val (n := admTop X Y D h) (d := D * slopeI r h) bt (by omega)
    obtain ⟨ok2, hm⟩ := min_fr (a := w.2) (b := ratOf (admTop X Y D h) (D * slopeI r h)) h2 ok
    have mq : (0 : Rat) < ((D * slopeI r h : Int) : Rat) := by exact_mod_cast pp
    refine ⟨h1, ok2, fun u => ?_⟩
    unfold spanP
    simp only
    rw [hm, hv, le_divR mq, hin u]
    exact ⟨fun ⟨a, b, c⟩ => ⟨⟨a, b⟩, c⟩, fun ⟨⟨a, b⟩, c⟩ => ⟨a, b, c⟩⟩
  · rw [if_neg p]
    by_cases n : slopeI r h < 0
    · rw [if_pos n]
      have e : -D * slopeI r h = D * -slopeI r h := by rw [Int.neg_mul, Int.mul_neg]
      have m := mul_bd (x := D) (y := -slopeI r h) (A := 400) (B := 10000000) (by omega) (by omega)
      have pp := Int.mul_pos (show 0 < D by omega) (show 0 < -slopeI r h by omega)
      rw [e]
      obtain ⟨ok, hv⟩ := ratOf_val (n := -admTop X Y D h) (d := D * -slopeI r h) (by omega) (by omega)
      obtain ⟨ok2, hm⟩ := max_fr (a := w.1) (b := ratOf (-admTop X Y D h) (D * -slopeI r h)) h1 ok
      have mq : (0 : Rat) < ((D * -slopeI r h : Int) : Rat) := by exact_mod_cast pp
      refine ⟨ok2, h2, fun u => ?_⟩
      unfold spanP
      simp only
      rw [hm, hv, div_leR mq, hin u]
      have ec : ((-admTop X Y D h : Int) : Rat) ≤ u * ((D * -slopeI r h : Int) : Rat) ↔ u * ((D * slopeI r h : Int) : Rat) ≤ ((admTop X Y D h : Int) : Rat) := by
        push_cast
        constructor <;> intro q <;> grind
      rw [ec]
      exact ⟨fun ⟨⟨a, b⟩, c⟩ => ⟨⟨a, c⟩, b⟩, fun ⟨⟨a, c⟩, b⟩ => ⟨⟨a, b⟩, c⟩⟩
    · rw [if_neg n]
      have z : slopeI r h = 0 := by omega
      rw [z] at hin
      have hz : ∀ u : Rat, u * ((D * 0 : Int) : Rat) = 0 := fun u => by rw [Int.mul_zero]; simp
      by_cases t : admTop X Y D h < 0
      · rw [if_pos t]
        intro u q
        rw [hin u, hz] at q
        have tq : ((admTop X Y D h : Int) : Rat) < 0 := by exact_mod_cast t
        grind
      · rw [if_neg t]
        have tq : (0 : Rat) ≤ ((admTop X Y D h : Int) : Rat) := by exact_mod_cast (by omega : 0 ≤ admTop X Y D h)
        refine ⟨h1, h2, fun u => ⟨fun q => ⟨q, ?_⟩, fun q => q.1⟩⟩
        rw [hin u, hz]
        exact tq
theorem adm_list {r : RoomV} {X Y D : Int} (B : AdmB r X Y D) : ∀ (e : List H3) (w : Q4), (∀ h ∈ e, HOk h) → ratP w.1 → ratP w.2 → match admL r X Y D e w with
    | some w' => ratP w'.1 ∧ ratP w'.2 ∧ ∀ u, spanP w' u ↔ spanP w u ∧ ∀ h ∈ e, In h (movP (baseP X Y D) u r.bx r.by_)
    | none => ∀ u, ¬ ∀ h ∈ e, In h (movP (baseP X Y D) u r.bx r.by_)
  | [], w, _, h1, h2 => ⟨h1, h2, fun u => ⟨fun q => ⟨q, fun h hh => by cases hh⟩, fun q => q.1⟩⟩
  | g :: e, w, k, h1, h2 => by
    have hs := adm_step B (k g List.mem_cons_self) h1 h2
    unfold admL
    cases ha : admStep r X Y D w g with
    | none =>
      rw [ha] at hs
      exact fun u q => hs u (q g List.mem_cons_self)
    | some w' =>
      rw [ha] at hs
      obtain ⟨a1, a2, a3⟩ := hs
      have hl := adm_list B e w' (fun h hh => k h (List.mem_cons_of_mem _ hh)) a1 a2
      simp only
      cases hb : admL r X Y D e w' with
      | none =>
        rw [hb] at hl
        exact fun u q => hl u fun h hh => q h (List.mem_cons_of_mem _ hh)
      | some w'' =>
        rw [hb] at hl
        obtain ⟨b1, b2, b3⟩ := hl
        refine ⟨b1, b2, fun u => ?_⟩
        rw [b3, a3]
        constructor
        · rintro ⟨⟨c1, c2⟩, c3⟩
          refine ⟨c1, fun h hh => ?_⟩
          rcases List.mem_cons.1 hh with rfl | hh
          · exact c2
          · exact c3 h hh
        · rintro ⟨c1, c2⟩
          exact ⟨⟨c1, c2 g List.mem_cons_self⟩, fun h hh => c2 h (List.mem_cons_of_mem _ hh)⟩
/-- AdmitAt at a robust part: the admitted inputs. -/
theorem adm_val {r : RoomV} {e : List H3} {x y d : Int} {w : Q4} {ok : Bool} (B : AdmB r (r.m.getD 0 0 * x + r.m.getD 1 0 * y) (r.m.getD 2 0 * x + r.m.getD 3 0 * y) (r.q * d)) (k : ∀ h ∈ e, HOk h) (hl : -1000 ≤ r.lo ∧ r.lo ≤ 1000) (hh : -1000 ≤ r.hi ∧ r.hi ≤ 1000) (h : admV r e x y d = (w, ok)) :
    (ok = true → ratP w.1 ∧ ratP w.2 ∧ fr w.1 ≤ fr w.2 ∧ ∀ u, spanP w u ↔ ((r.lo : Rat) ≤ u ∧ u ≤ (r.hi : Rat)) ∧ ∀ g ∈ e, In g (movP (baseP (r.m.getD 0 0 * x + r.m.getD 1 0 * y) (r.m.getD 2 0 * x + r.m.getD 3 0 * y) (r.q * d)) u r.bx r.by_)) ∧
    (ok = false → ∀ u : Rat, (r.lo : Rat) ≤ u → u ≤ (r.hi : Rat) → ¬ ∀ g ∈ e, In g (movP (baseP (r.m.getD 0 0 * x + r.m.getD 1 0 * y) (r.m.getD 2 0 * x + r.m.getD 3 0 * y) (r.q * d)) u r.bx r.by_)) := by
  have o1 : ratP (r.lo, 1) := by
    unfold ratP
    have := ratOf_val (n := r.lo) (d := 1) (by omega) (by omega)
    have e : gcdS r.lo 1 = 1 := by unfold gcdS; rw [if_neg (by omega)]; simp
    simp [ratioOk, inR, e]; omega
  have o2 : ratP (r.hi, 1) := by
    unfold ratP
    have e : gcdS r.hi 1 = 1 := by unfold gcdS; rw [if_neg (by omega)]; simp
    simp [ratioOk, inR, e]; omega
  have hl := adm_list B e ((r.lo, 1), (r.hi, 1)) k o1 o2
  unfold admV at h
  generalize admL r (r.m.getD 0 0 * x + r.m.getD 1 0 * y) (r.m.getD 2 0 * x + r.m.getD 3 0 * y) (r.q * d) e ((r.lo, 1), (r.hi, 1)) = a at hl h
  cases a with
  | none =>
    simp only at hl
    simp only [spanV, Prod.mk.injEq] at h
    obtain ⟨_, rfl⟩ := h
    exact ⟨(fun q => by cases q), fun _ u _ _ => hl u⟩
  | some w' =>
    simp only at hl
    obtain ⟨a1, a2, a3⟩ := hl
    simp only [spanV] at h
    have e0 : ∀ u : Rat, spanP ((r.lo, 1), (r.hi, 1)) u ↔ ((r.lo : Rat) ≤ u ∧ u ≤ (r.hi : Rat)) := fun u => by unfold spanP; rw [fr_one, fr_one]
    have sp : spanOk w'.1.1 w'.1.2 w'.2.1 w'.2.2 = true ↔ fr w'.1 ≤ fr w'.2 := by
      unfold spanOk
      unfold ratP at a1 a2
      rw [a1, a2, Bool.true_and, Bool.true_and, decide_eq_true_eq]
      exact cmp_fr a1 a2
    split at h
    · rename_i hs
      injection h with q1 q2
      subst q1 q2
      exact ⟨fun _ => ⟨a1, a2, sp.1 hs, fun u => by rw [a3, e0]⟩, (fun q => by cases q)⟩
    · rename_i hs
      injection h with q1 q2
      subst q2
      refine ⟨(fun q => by cases q), fun _ u u1 u2 hu => ?_⟩
      have := (a3 u).2 ⟨(e0 u).2 ⟨u1, u2⟩, hu⟩
      unfold spanP at this
      exact hs (sp.2 (by grind))
end Go.Proofs.YtabmfaamadbefaaGreat
/- Plain: the robust part of a drawn room's limits, and the inputs that AdmitAt admits at a drawn state. No program. -/
set_option linter.unusedSimpArgs false
set_option linter.unusedVariables false
set_option linter.unusedSectionVars false
namespace Go.Proofs.YtabmfaamadbefaaGreat
open Go.RowKit
theorem box_supA {x0 y0 x1 y1 a b M : Int} (B : BoxBd x0 y0 x1 y1) (ha : -50 ≤ a ∧ a ≤ 50) (hb : -50 ≤ b ∧ b ≤ 50) (hM : 0 ≤ M ∧ M ≤ 1000) (hx : -M ≤ x0 ∧ x1 ≤ M) (hy : -M ≤ y0 ∧ y1 ≤ M) : ∃ n, supN a b (boxB x0 y0 x1 y1) = (n, 1) ∧ -100000 ≤ n ∧ n ≤ 100000 := by
  have fo := valsL_ok (a := a) (b := b) (by omega) (by omega) (box_reg B)
  rcases farN_ok fo with ⟨h0, _⟩ | ⟨_, _, _, hm⟩
  · have := valsL_length a b (boxB x0 y0 x1 y1)
    rw [h0] at this
    simp [boxB] at this
  · have bl := B.lx
    have bl' := B.ly
    have vb : ∀ X Y : Int, (-1000 ≤ X ∧ X ≤ 1000) → (-1000 ≤ Y ∧ Y ≤ 1000) → -100000 ≤ a * X + b * Y ∧ a * X + b * Y ≤ 100000 := fun X Y hX hY => by
      have m1 := mul_bd (A := 50) (B := 1000) ha hX
      have m2 := mul_bd (A := 50) (B := 1000) hb hY
      omega
    have hf : ∃ n, farN (valsL a b (boxB x0 y0 x1 y1)) = (n, 1) ∧ -100000 ≤ n ∧ n ≤ 100000 := by
      obtain ⟨s, hs, ev⟩ := List.mem_map.1 hm
      rw [box_corners B] at hs
      rw [← ev]
      simp only [List.mem_cons, List.not_mem_nil, or_false] at hs
      rcases hs with rfl | rfl | rfl | rfl <;> exact ⟨_, rfl, vb _ _ (by simp only; omega) (by simp only; omega)⟩
    obtain ⟨n, hn, h1, h2⟩ := hf
    refine ⟨n, ?_, h1, h2⟩
    unfold supN
    rw [hn]
    refine ratOf_same ?_
    have e : gcdS n 1 = 1 := by
      unfold gcdS
      rw [if_neg (by omega)]
      simp
    simp [ratioOk, inR, e]
    omega
theorem er_fine {ws : List H3} {g : H3} {n : Int} (hs : supN g.a g.b ws = (n, 1)) (hg : HOk g) (hc : -1000000 ≤ g.c ∧ g.c ≤ 1000000) (hn : -1000000 ≤ n ∧ n ≤ 1000000) : (erF ws g).2 = true := by
  unfold erF
  rw [hs]
  simp only [Int.mul_one]
  have := hg.ba; have := hg.bb
  exact halfOf_small (by omega) (by omega) (by omega) hg.nz
theorem movedF_len {F : H3 → H3 × Bool} {hs o : List H3} (hF : ∀ g ∈ hs, (F g).2 = true → HOk (F g).1) (h : movedF F hs = (o, true)) : o.length ≤ hs.length + 4 := by
  unfold movedF at h
  split at h
  · injection h with q _; rw [← q]; simp
  · split at h
    · rename_i hall
      simp only [List.all_eq_true] at hall
      have okm : ∀ g ∈ hs.map (fun g => (F g).1), HOk g := fun g hg => by
        obtain ⟨g0, hg0, rfl⟩ := List.mem_map.1 hg
        exact hF g0 hg0 (hall g0 hg0)
      rw [meetR_makeR okm] at h
      split at h
      · injection h with _ q; cases q
      · injection h with q _
        rw [← q]
        have := made_len okm
        rw [List.length_map] at this
        exact this
    · injection h with _ q; cases q
/-- The robust part of a drawn room's limits. -/
structure RobP (r : RoomV) (e : List H3) : Prop where
  rob : robustR r r.ls = (e, true)
  reg : regionOk e = true
  ne : e ≠ []
  wi : isWithinR e r.ls = true
  len : e.length ≤ 13
  set : ∀ x, setR e x ↔ regP (fun x => Inside frameH x ∧ ∀ t, setR r.ns t → setR r.ls (addP x t)) x
theorem addP_zero' (x : Pt) : addP x ⟨0, 0⟩ = x := by
  cases x with | mk a b => ?_
  unfold addP
  simp only
  congr 1 <;> grind
theorem robust_room {r : RoomV} (D : RoomD r) : ∃ e, RobP r e := by
  have k := room_ok D
  have P := roomOk_parts k
  have L := limits D
  obtain ⟨a, ha, en⟩ := D.ns
  have hF : ∀ g ∈ r.ls, (erF r.ns g).2 = true := fun g hg => by
    obtain ⟨kg, g1, g2, g3⟩ := L.small g hg
    rw [en]
    obtain ⟨n, hn, n1, n2⟩ := box_supA (M := 2) (noise_box ha) (a := g.a) (b := g.b) (by omega) (by omega) (by omega) (by omega) (by omega)
    exact er_fine hn kg (by omega) (by omega)
  have hm := (movedF_small hF (fun g hg => erF_ok (hF g hg)) (by have := L.len; omega)).1
  have hrob : robustR r r.ls = ((movedF (erF r.ns) r.ls).1, true) := by
    unfold robustR
    rw [if_pos ⟨k, L.reg⟩]
    exact hm
  have ke := erosion_ok hm
  have hset := fun x => set_erode (x := x) P.nk P.ns L.reg hm
  have core : FatP (fun x => Inside frameH x ∧ ∀ t, setR r.ns t → setR r.ls (addP x t)) := core_fat (M := 9) (by grind) fun x h1 h2 => by
    refine ⟨frame_pt (by grind), fun t ht => ?_⟩
    obtain ⟨t1, t2⟩ := noise_in D ht
    refine L.core _ ?_ ?_ <;> (unfold addP; simp only; grind)
  refine ⟨_, hrob, ke, ?_, ?_, ?_, hset⟩
  · obtain ⟨x, hx⟩ := core.some
    exact ((hset x).2 ⟨core, hx⟩).1
  · refine within_iff.2 ⟨ke, L.reg, fun x hx => ?_⟩
    have := ((hset x).1 hx).2.2 _ (noise_zero D)
    rw [addP_zero'] at this
    exact this
  · have := movedF_len (fun g hg q => erF_ok q) hm
    have := L.len
    omega
/-- Where a state with whole coordinates is mapped. -/
def mapX (r : RoomV) (x y : Int) : Int := r.m.getD 0 0 * x + r.m.getD 1 0 * y
def mapY (r : RoomV) (x y : Int) : Int := r.m.getD 2 0 * x + r.m.getD 3 0 * y
def stateP (r : RoomV) (x y : Int) : Pt := baseP (mapX r x y) (mapY r x y) (r.q * 1)
theorem map_small {r : RoomV} (D : RoomD r) {x y : Int} (hx : -15 ≤ x ∧ x < 15) (hy : -15 ≤ y ∧ y < 15) : (-1000 ≤ mapX r x y ∧ mapX r x y ≤ 1000) ∧ (-1000 ≤ mapY r x y ∧ mapY r x y ≤ 1000) := by
  obtain ⟨e, f, g, he, hf, hg, hm⟩ := D.mq
  have hq := D.q
  have m1 := mul_bd (A := 20) (B := 15) (x := r.q - 1 + e) (y := x) (by omega) (by omega)
  have m2 := mul_bd (A := 1) (B := 15) (x := f) (y := y) (by omega) (by omega)
  have m3 := mul_bd (A := 1) (B := 15) (x := -g) (y := x) (by omega) (by omega)
  have m4 := mul_bd (A := 20) (B := 15) (x := r.q - 1) (y := y) (by omega) (by omega)
  unfold mapX mapY
  rw [hm]
  simp only [List.getD_cons_zero, List.getD_cons_succ]
  omega
theorem adm_bounds {r : RoomV} (D : RoomD r) {x y : Int} (hx : -15 ≤ x ∧ x < 15) (hy : -15 ≤ y ∧ y < 15) : AdmB r (mapX r x y) (mapY r x y) (r.q * 1) := by
  obtain ⟨m1, m2⟩ := map_small D hx hy
  have := D.bx; have := D.by_; have := D.q
  exact ⟨by omega, by omega, by omega, by omega, by omega⟩
theorem base_frame {X Y Q : Int} (hX : -1000 ≤ X ∧ X ≤ 1000) (hY : -1000 ≤ Y ∧ Y ≤ 1000) (hQ : 1 ≤ Q) : Inside frameH (baseP X Y Q) := by
  have x1 := le_cast hX.1; have x2 := le_cast hX.2; have y1 := le_cast hY.1; have y2 := le_cast hY.2; have q1 := le_cast hQ
  push_cast at x1 x2 y1 y2 q1
  have q0 : (0 : Rat) < (Q : Rat) := by grind
  unfold baseP
  refine frame_pt ⟨⟨?_, ?_⟩, ?_, ?_⟩ <;> simp only
  · rw [le_divR q0]; grind
  · rw [div_leR q0]; grind
  · rw [le_divR q0]; grind
  · rw [div_leR q0]; grind
/-- AdmitAt at a robust part that is not void. -/
theorem adm_set {r : RoomV} {p e : List H3} {x y : Int} {w : Q4} {ok : Bool} (D : RoomD r) (hx : -15 ≤ x ∧ x < 15) (hy : -15 ≤ y ∧ y < 15) (kp : regionOk p = true) (hr : robustR r p = (e, true)) (hne : e ≠ []) (h : admitR r p x y 1 = (w, ok)) :
    (ok = true → ratP w.1 ∧ ratP w.2 ∧ fr w.1 ≤ fr w.2 ∧ ∀ u, spanP w u ↔ ((r.lo : Rat) ≤ u ∧ u ≤ (r.hi : Rat)) ∧ setR e (movP (stateP r x y) u r.bx r.by_)) ∧
    (ok = false → ∀ u : Rat, (r.lo : Rat) ≤ u → u ≤ (r.hi : Rat) → ¬ setR e (movP (stateP r x y) u r.bx r.by_)) := by
  have ke := (robustR_reg hr).1
  have hs : spotOk x y 1 = true := wspot_ok (by omega) (by omega)
  unfold admitR at h
  rw [if_pos ⟨kp, hs, by omega⟩, hr] at h
  unfold admOf at h
  rw [if_pos ⟨rfl, hne⟩] at h
  have lo := D.lo; have hi := D.hi
  obtain ⟨h1, h2⟩ := adm_val (adm_bounds D hx hy) (region_good ke).1 (by omega) (by omega) h
  refine ⟨fun q => ?_, fun q u u1 u2 hu => h2 q u u1 u2 hu.2⟩
  obtain ⟨a1, a2, a3, a4⟩ := h1 q
  refine ⟨a1, a2, a3, fun u => ?_⟩
  rw [a4]
  exact ⟨fun k => ⟨k.1, hne, k.2⟩, fun k => ⟨k.1, k.2.2⟩⟩
end Go.Proofs.YtabmfaamadbefaaGreat
/- Plain: the next state as a point. No program. -/
set_option linter.unusedSimpArgs false
set_option linter.unusedVariables false
set_option linter.unusedSectionVars false
namespace Go.Proofs.YtabmfaamadbefaaGreat
open Go.RowKit
theorem next_val {r : RoomV} {x y n u a b c : Int} {q : P3} (hq : 0 < r.q) (hu : 0 < u) (hc : 0 < c) (h : nextV r x y 1 n u a b c = (q, true)) : 0 < q.2.2 ∧ ptOf q = addP (movP (stateP r x y) (fr (n, u)) r.bx r.by_) (ptOf (a, b, c)) := by
  obtain ⟨q1, q2, q3⟩ := q
  have hd : 0 < r.q * 1 * u * c := Int.mul_pos (Int.mul_pos (by omega) hu) hc
  obtain ⟨k, k0, e1, e2, e3⟩ := spot_scale hd h
  have c0 : 0 < q3 := by
    apply Classical.byContradiction; intro hn
    have := Int.mul_le_mul_of_nonneg_right (show q3 ≤ 0 by omega) (show (0 : Int) ≤ (k : Int) by omega)
    omega
  refine ⟨c0, ?_⟩
  rw [← scale_pt k0 c0, ← e1, ← e2, ← e3]
  have qq : (0 : Rat) < (r.q : Rat) := by exact_mod_cast hq
  have uq : (0 : Rat) < (u : Rat) := by exact_mod_cast hu
  have cq : (0 : Rat) < (c : Rat) := by exact_mod_cast hc
  unfold addP movP stateP baseP ptOf mapX mapY fr
  simp only
  congr 1 <;> (push_cast; grind)
theorem next_pos {r : RoomV} (D : RoomD r) : 0 < r.q := by have := D.q; omega
theorem nextT_val {r : RoomV} {x y n u a b c : Int} {q : P3} (hq : 0 < r.q) (h : nextT r x y 1 n u a b c = (q, true)) : (0 < u ∧ 0 < c) ∧ 0 < q.2.2 ∧ ptOf q = addP (movP (stateP r x y) (fr (n, u)) r.bx r.by_) (ptOf (a, b, c)) := by
  unfold nextT at h
  split at h
  · rename_i hk
    unfold nextOk at hk
    simp only [Bool.and_eq_true, decide_eq_true_eq] at hk
    have h1 := okS_bd (s := ⟨a, b, c⟩) hk.1.1.1.1.2
    have h2 := ratP_pos (a := (n, u)) hk.2.1
    simp only at h1 h2
    exact ⟨⟨h2, by omega⟩, next_val hq h2 (by omega) h⟩
  · injection h with _ q; cases q
theorem nextT_ok {r : RoomV} {x y d n u a b c : Int} {q : P3} (h : nextT r x y d n u a b c = (q, true)) : spotOk q.1 q.2.1 q.2.2 = true := by
  unfold nextT nextV at h
  split at h
  · unfold spotOf at h
    split at h
    · simp at h
    · split at h
      · rename_i hc
        injection h with h _
        subst h; exact hc
      · simp at h
  · simp at h
end Go.Proofs.YtabmfaamadbefaaGreat