/- Several texts in one: Zm, Zr. Each says its own conditions. -/
import Derived.Test.YtabmfaamadbefaaGreatZc
import Derived.Test.YtabmfaamadbefaaGreatQg
import Derived.Test.YtabmfaamadbefaaGreatQj
import Derived.Test.YtabmfaamadbefaaGreatZe
/- Plain: the states that can be kept for a period, the kept part of a region, and the rounds, as sets of points: they grow with the region and the range of the inputs. No program. -/
set_option linter.unusedSimpArgs false
set_option linter.unusedVariables false
set_option linter.unusedSectionVars false
namespace Go.Proofs.YtabmfaamadbefaaGreat
open Go.RowKit
/-- The three steps of PreRegion, as sets. -/
structure PreP (r : RoomV) (p e g o : List H3) : Prop where
  ke : regionOk e = true
  kg : regionOk g = true
  ko : regionOk o = true
  he : movedF (erF r.ns) p = (e, true)
  hg : growM e r.bx r.by_ r.lo r.hi = (g, true)
  se : ∀ x, setR e x ↔ regP (fun x => Inside frameH x ∧ ∀ t, setR r.ns t → setR p (addP x t)) x
  sg : ∀ x, setR g x ↔ regP (fun x => Inside frameH x ∧ ∃ u : Rat, (r.lo : Rat) ≤ u ∧ u ≤ (r.hi : Rat) ∧ setR e (movP x u r.bx r.by_)) x
  so : ∀ x, setR o x ↔ regP (fun x => Inside frameH x ∧ setR g (linP (r.m.getD 0 0) (r.m.getD 1 0) (r.m.getD 2 0) (r.m.getD 3 0) r.q x)) x
theorem room_q {r : RoomV} (P : RoomP r) : 0 < r.q := by
  obtain ⟨_, a, b, e, f, _, M, _⟩ := turnOk_parts P.tk
  have := M.bq
  omega
theorem pre_parts {r : RoomV} {p o : List H3} (h : preR r p = (o, true)) : RoomP r ∧ regionOk p = true ∧ ∃ e g, PreP r p e g o := by
  have h' := h
  unfold preR at h
  split at h
  · rename_i hc
    have P := roomOk_parts hc.1
    refine ⟨P, hc.2, ?_⟩
    unfold preM at h
    obtain ⟨g, hg, ho⟩ := thenL_ok h
    obtain ⟨e, he, hg⟩ := thenL_ok hg
    have ke := erosion_ok he
    have kg := growP_ok ke hg
    have ko := pullM_ok ho
    unfold growP at hg
    split at hg
    · unfold pullM at ho
      have b1 := P.bx
      have b2 := P.by_
      have hl := P.hi
      exact ⟨e, g, ke, kg, ko, he, hg, fun x => set_erode P.nk P.ns hc.2 he, fun x => set_grow ke (by omega) (by omega) hl.1 hg, fun x => set_pull (room_q P) ho⟩
    · injection hg with _ q; cases q
  · injection h with _ q; cases q
/-- Rooms that differ in their limits alone, and in a wider range of inputs. -/
structure RoomLe (r x : RoomV) : Prop where
  m : x.m = r.m
  q : x.q = r.q
  bx : x.bx = r.bx
  by_ : x.by_ = r.by_
  ns : x.ns = r.ns
  lo : x.lo ≤ r.lo
  hi : r.hi ≤ x.hi
theorem RoomLe.refl (r : RoomV) : RoomLe r r := ⟨rfl, rfl, rfl, rfl, rfl, Int.le_refl _, Int.le_refl _⟩
theorem le_rat {a b : Int} (h : a ≤ b) : (a : Rat) ≤ (b : Rat) := by exact_mod_cast h
theorem pre_mono {r x : RoomV} {p p' o o' : List H3} (L : RoomLe r x) (h : preR r p = (o, true)) (h' : preR x p' = (o', true)) (hs : ∀ z, setR p z → setR p' z) : ∀ z, setR o z → setR o' z := by
  obtain ⟨P, kp, e, g, Q⟩ := pre_parts h
  obtain ⟨P', kp', e', g', Q'⟩ := pre_parts h'
  have l1 : (x.lo : Rat) ≤ (r.lo : Rat) := le_rat L.lo
  have l2 : (r.hi : Rat) ≤ (x.hi : Rat) := le_rat L.hi
  have me : ∀ z, setR e z → setR e' z := fun z hz => by
    rw [Q'.se]
    exact regP_mono (fun y hy => ⟨hy.1, fun t ht => hs _ (hy.2 t (L.ns ▸ ht))⟩) ((Q.se z).1 hz)
  have mg : ∀ z, setR g z → setR g' z := fun z hz => by
    rw [Q'.sg]
    exact regP_mono (fun y hy => ⟨hy.1, by
      obtain ⟨u, u1, u2, hu⟩ := hy.2
      exact ⟨u, by grind, by grind, by rw [L.bx, L.by_]; exact me _ hu⟩⟩) ((Q.sg z).1 hz)
  intro z hz
  rw [Q'.so]
  exact regP_mono (fun y hy => ⟨hy.1, by rw [L.m, L.q]; exact mg _ hy.2⟩) ((Q.so z).1 hz)
/-- What KeepRegion gives. -/
structure KeepP (r : RoomV) (p q o : List H3) : Prop where
  kp : regionOk p = true
  ko : regionOk o = true
  hp : preR r p = (q, true)
  so : ∀ x, setR o x ↔ regP (fun x => setR p x ∧ setR q x) x
theorem keep_parts {r : RoomV} {p o : List H3} (h : keepR r p = (o, true)) : roomOk r = true ∧ ∃ q, KeepP r p q o := by
  have ko := keepR_reg h
  have h' := h
  rw [keepR_chain] at h
  obtain ⟨q, hq, hm⟩ := thenL_ok h
  have hk : roomOk r = true ∧ regionOk p = true := by
    unfold preR at hq
    split at hq
    · rename_i hc; exact hc
    · injection hq with _ e; cases e
  exact ⟨hk.1, q, hk.2, ko, hq, fun x => set_meet hm⟩
theorem keep_mono {r x : RoomV} {p p' o o' : List H3} (L : RoomLe r x) (h : keepR r p = (o, true)) (h' : keepR x p' = (o', true)) (hs : ∀ z, setR p z → setR p' z) : ∀ z, setR o z → setR o' z := by
  obtain ⟨_, q, K⟩ := keep_parts h
  obtain ⟨_, q', K'⟩ := keep_parts h'
  intro z hz
  rw [K'.so]
  exact regP_mono (fun y hy => ⟨hs y hy.1, pre_mono L K.hp K'.hp hs y hy.2⟩) ((K.so z).1 hz)
theorem keep_sub {r : RoomV} {p o : List H3} (h : keepR r p = (o, true)) : ∀ z, setR o z → setR p z := by
  obtain ⟨_, q, K⟩ := keep_parts h
  exact fun z hz => ((K.so z).1 hz).2.1
theorem runL_fix {F : List H3 → List H3 × Bool} : ∀ (n : Nat) (p : List H3) (k : Nat) {q : List H3} {k' : Nat}, runL F n p k = some (q, k', true) → F q = (q, true)
  | 0, p, k, q, k', h => by simp [runL] at h
  | n + 1, p, k, q, k', h => by
    unfold runL at h
    split at h
    · rename_i h1
      split at h
      · rename_i h2
        simp only [Option.some.injEq, Prod.mk.injEq] at h
        obtain ⟨rfl, _, _⟩ := h
        exact Prod.ext h2 h1
      · exact runL_fix n _ _ h
    · cases h
theorem runL_sub {r : RoomV} : ∀ (n : Nat) (p : List H3) (k : Nat) {q : List H3} {k' : Nat} {s : Bool}, runL (keepR r) n p k = some (q, k', s) → ∀ z, setR q z → setR p z
  | 0, p, k, q, k', s, h => by
    simp only [runL, Option.some.injEq, Prod.mk.injEq] at h
    obtain ⟨rfl, _, _⟩ := h
    exact fun z hz => hz
  | n + 1, p, k, q, k', s, h => by
    unfold runL at h
    split at h
    · rename_i h1
      split at h
      · simp only [Option.some.injEq, Prod.mk.injEq] at h
        obtain ⟨rfl, _, _⟩ := h
        exact fun z hz => hz
      · intro z hz
        exact keep_sub (Prod.ext rfl h1) z (runL_sub n _ _ h z hz)
    · cases h
/-- A region that keeps itself lies in all rounds of a region around it. -/
theorem runL_super {r x : RoomV} {P : List H3} (L : RoomLe r x) (hP : keepR r P = (P, true)) : ∀ (n : Nat) (p : List H3) (k : Nat) {q : List H3} {k' : Nat} {s : Bool}, runL (keepR x) n p k = some (q, k', s) → (∀ z, setR P z → setR p z) → ∀ z, setR P z → setR q z
  | 0, p, k, q, k', s, h, hs => by
    simp only [runL, Option.some.injEq, Prod.mk.injEq] at h
    obtain ⟨rfl, _, _⟩ := h
    exact hs
  | n + 1, p, k, q, k', s, h, hs => by
    unfold runL at h
    split at h
    · rename_i h1
      split at h
      · simp only [Option.some.injEq, Prod.mk.injEq] at h
        obtain ⟨rfl, _, _⟩ := h
        exact hs
      · exact runL_super L hP n _ _ h (keep_mono L hP (Prod.ext rfl h1) hs)
    · cases h
theorem runR_parts {r : RoomV} {n : Int} {q : List H3} {k : Int} {s : Bool} (h : runR r n = ((q, k, s), true)) : roomOk r = true ∧ (0 ≤ n ∧ n ≤ 12) ∧ ∃ k' : Nat, k = k' ∧ runL (keepR r) n.toNat r.ls 0 = some (q, k', s) := by
  unfold runR at h
  split at h
  · rename_i hc
    refine ⟨hc.1, inR_iff.1 hc.2, ?_⟩
    cases hr : runL (keepR r) n.toNat r.ls 0 with
    | none =>
      rw [hr] at h
      unfold keptV at h
      simp at h
    | some v =>
      obtain ⟨p, k', s'⟩ := v
      rw [hr] at h
      simp only [keptV, Prod.mk.injEq, and_true] at h
      obtain ⟨rfl, rfl, rfl⟩ := h
      exact ⟨k', rfl, rfl⟩
  · simp at h
theorem keptR_parts {r : RoomV} {p : List H3} (h : keptR r = (p, true)) : roomOk r = true ∧ keepR r p = (p, true) ∧ (∀ z, setR p z → setR r.ls z) ∧ 0 ≤ roundsR r := by
  unfold keptR keptOf at h
  split at h
  · rename_i hc
    obtain ⟨⟨q, k, s⟩, ok⟩ : (List H3 × Int × Bool) × Bool := runR r 12
    obtain ⟨⟨⟨q, k, s⟩, ok⟩, hr⟩ : ∃ v, runR r 12 = v := ⟨_, rfl⟩
    rw [hr] at hc h
    simp only at hc h
    obtain ⟨rfl, rfl⟩ := hc
    injection h with h _
    subst h
    obtain ⟨h1, _, k', hk, hl⟩ := runR_parts hr
    refine ⟨h1, runL_fix _ _ _ hl, runL_sub _ _ _ hl, ?_⟩
    unfold roundsR roundsOf
    rw [hr, if_pos ⟨rfl, rfl⟩, hk]
    exact Int.natCast_nonneg _
  · injection h with _ e; cases e
theorem roundsR_none {r : RoomV} {p : List H3} (h : keptR r = (p, false)) : roundsR r = -1 := by
  unfold keptR keptOf at h
  unfold roundsR roundsOf
  split at h
  · injection h with _ e; cases e
  · rename_i hc
    exact if_neg hc
/-- A region that keeps itself in a room lies in the kept region of a room with wider limits and inputs. -/
theorem kept_super {r x : RoomV} {P q : List H3} (L : RoomLe r x) (hP : keepR r P = (P, true)) (hs : ∀ z, setR P z → setR x.ls z) (h : keptR x = (q, true)) : ∀ z, setR P z → setR q z := by
  unfold keptR keptOf at h
  split at h
  · rename_i hc
    obtain ⟨⟨⟨q', k, s⟩, ok⟩, hr⟩ : ∃ v, runR x 12 = v := ⟨_, rfl⟩
    rw [hr] at hc h
    simp only at hc h
    obtain ⟨rfl, rfl⟩ := hc
    injection h with h _
    subst h
    obtain ⟨_, _, k', _, hl⟩ := runR_parts hr
    exact runL_super L hP _ _ _ hl hs
  · injection h with _ e; cases e
theorem keep_within {r : RoomV} {p : List H3} (h : keepR r p = (p, true)) : ∃ q, preR r p = (q, true) ∧ regionOk q = true ∧ ∀ z, setR p z → setR q z := by
  obtain ⟨_, q, K⟩ := keep_parts h
  obtain ⟨_, _, e, g, Q⟩ := pre_parts K.hp
  exact ⟨q, K.hp, Q.ko, fun z hz => ((K.so z).1 hz).2.2⟩
theorem pre_same {r x : RoomV} {p : List H3} (hr : roomOk r = true) (hx : roomOk x = true) (L : RoomLe r x) (e1 : x.lo = r.lo) (e2 : x.hi = r.hi) : preR x p = preR r p := by
  unfold preR preM growP pullM
  rw [hr, hx, L.ns, L.bx, L.by_, L.m, L.q, e1, e2]
/-- A region that keeps itself is kept. -/
theorem kept_isKept {r : RoomV} {p : List H3} (hr : roomOk r = true) (kp : regionOk p = true) (h : ∃ q, preR r p = (q, true) ∧ regionOk q = true ∧ ∀ z, setR p z → setR q z) (hs : ∀ z, setR p z → setR r.ls z) : isKeptR r p = true := by
  obtain ⟨q, hq, kq, hsub⟩ := h
  unfold isKeptR
  rw [hr, hq, Bool.true_and, within_iff.2 ⟨kp, (roomOk_parts hr).lk, hs⟩, Bool.true_and]
  have : isWithinR p q = true := within_iff.2 ⟨kp, kq, hsub⟩
  simp [this]
end Go.Proofs.YtabmfaamadbefaaGreat
/- Plain: the rooms that the reference draws. No program. -/
set_option linter.unusedSimpArgs false
set_option linter.unusedVariables false
set_option linter.unusedSectionVars false
namespace Go.Proofs.YtabmfaamadbefaaGreat
open Go.RowKit
structure RoomD (r : RoomV) : Prop where
  mq : ∃ e f g : Int, (0 ≤ e ∧ e ≤ 1) ∧ (0 ≤ f ∧ f ≤ 1) ∧ (0 ≤ g ∧ g ≤ 1) ∧ r.m = [r.q - 1 + e, f, -g, r.q - 1]
  q : 2 ≤ r.q ∧ r.q ≤ 10
  bx : 1 ≤ r.bx ∧ r.bx ≤ 3
  by_ : -1 ≤ r.by_ ∧ r.by_ ≤ 2
  lo : -14 ≤ r.lo ∧ r.lo ≤ -3
  hi : 3 ≤ r.hi ∧ r.hi ≤ 14
  ns : ∃ a : Int, (1 ≤ a ∧ a ≤ 2) ∧ r.ns = boxB (-a) (-1) a 1
  ls : ∃ x y : Int, (15 ≤ x ∧ x ≤ 44) ∧ (15 ≤ y ∧ y ≤ 44) ∧ (r.ls = boxB (-x) (-y) x y ∨ r.ls = makeR (boxB (-x) (-y) x y ++ [⟨1, 1, x + y / 2⟩]))
theorem room_map {r : RoomV} (D : RoomD r) : mapOk r.m r.q = true ∧ detI r.m ≠ 0 := by
  obtain ⟨e, f, g, he, hf, hg, hm⟩ := D.mq
  have hq := D.q
  rw [hm]
  refine ⟨?_, ?_⟩
  · simp only [mapOk, List.length_cons, List.length_nil, List.all_cons, List.all_nil, Bool.and_true, Bool.and_eq_true, smallI, inR, decide_eq_true_eq]
    and_intros <;> first | trivial | omega
  · unfold detI
    simp only [List.getD_cons_zero, List.getD_cons_succ]
    have m1 := Int.mul_pos (show 0 < r.q - 1 + e by omega) (show 0 < r.q - 1 by omega)
    have m2 := Int.mul_nonneg hf.1 hg.1
    have : f * -g = -(f * g) := by rw [Int.mul_neg]
    omega
theorem cut_half {x y : Int} (hx : 15 ≤ x ∧ x ≤ 44) (hy : 15 ≤ y ∧ y ≤ 44) : HOk ⟨1, 1, x + y / 2⟩ := by
  refine ⟨by simp, by simp, by simp only; omega, by unfold NZ; simp, ?_⟩
  unfold Prim
  simp [gcdL]
theorem limit_box {x y : Int} (hx : 15 ≤ x ∧ x ≤ 44) (hy : 15 ≤ y ∧ y ≤ 44) : BoxBd (-x) (-y) x y := ⟨by omega, by omega⟩
theorem limit_okL {x y : Int} (hx : 15 ≤ x ∧ x ≤ 44) (hy : 15 ≤ y ∧ y ≤ 44) : ∀ g ∈ boxB (-x) (-y) x y ++ [⟨1, 1, x + y / 2⟩], HOk g := fun g hg => by
  rcases List.mem_append.1 hg with h | h
  · exact boxB_ok (limit_box hx hy) g h
  · rw [List.mem_singleton.1 h]; exact cut_half hx hy
/-- What is known of the limits of a drawn room. -/
structure LimP (p : List H3) : Prop where
  reg : regionOk p = true
  len : p.length ≤ 9
  small : ∀ g ∈ p, HOk g ∧ (-1 ≤ g.a ∧ g.a ≤ 1) ∧ (-1 ≤ g.b ∧ g.b ≤ 1) ∧ (-1000 ≤ g.c ∧ g.c ≤ 1000)
  box : ∀ x, setR p x → ((-44 : Rat) ≤ x.x ∧ x.x ≤ 44) ∧ ((-44 : Rat) ≤ x.y ∧ x.y ≤ 44)
  core : ∀ x : Pt, ((-11 : Rat) ≤ x.x ∧ x.x ≤ 11) → ((-11 : Rat) ≤ x.y ∧ x.y ≤ 11) → setR p x
theorem core_fat {A : Pt → Prop} {M : Rat} (hM : 0 < M) (h : ∀ x : Pt, (-M ≤ x.x ∧ x.x ≤ M) → (-M ≤ x.y ∧ x.y ≤ M) → A x) : FatP A := by
  refine ⟨⟨0, 0⟩, M, hM, fun y hy => ?_⟩
  unfold NbP at hy
  simp only at hy
  exact h y (by grind) (by grind)
theorem core_frame {z : Pt} (h1 : (-11 : Rat) ≤ z.x ∧ z.x ≤ 11) (h2 : (-11 : Rat) ≤ z.y ∧ z.y ≤ 11) : Inside frameH z := frame_pt (by grind)
theorem core_cut {x y : Int} (hx : 15 ≤ x ∧ x ≤ 44) (hy : 15 ≤ y ∧ y ≤ 44) {z : Pt} (h1 : (-11 : Rat) ≤ z.x ∧ z.x ≤ 11) (h2 : (-11 : Rat) ≤ z.y ∧ z.y ≤ 11) : In ⟨1, 1, x + y / 2⟩ z := by
  have c22 : ((22 : Int) : Rat) ≤ ((x + y / 2 : Int) : Rat) := le_cast (by omega)
  have c22' : ((22 : Int) : Rat) = 22 := rfl
  rw [c22'] at c22
  have e1 : ((1 : Int) : Rat) = 1 := rfl
  unfold In val
  simp only
  rw [e1]
  generalize ((x + y / 2 : Int) : Rat) = k at *
  grind
theorem limits {r : RoomV} (D : RoomD r) : LimP r.ls := by
  obtain ⟨x, y, hx, hy, h⟩ := D.ls
  have B := limit_box hx hy
  have x1 := le_cast hx.1; have x2 := le_cast hx.2; have y1 := le_cast hy.1; have y2 := le_cast hy.2
  push_cast at x1 x2 y1 y2
  have hb : ∀ z : Pt, (((-x : Int) : Rat) ≤ z.x ∧ z.x ≤ (x : Rat)) ∧ (((-y : Int) : Rat) ≤ z.y ∧ z.y ≤ (y : Rat)) → ((-44 : Rat) ≤ z.x ∧ z.x ≤ 44) ∧ ((-44 : Rat) ≤ z.y ∧ z.y ≤ 44) := fun z hz => by push_cast at hz; grind
  have hc : ∀ z : Pt, ((-11 : Rat) ≤ z.x ∧ z.x ≤ 11) → ((-11 : Rat) ≤ z.y ∧ z.y ≤ 11) → (((-x : Int) : Rat) ≤ z.x ∧ z.x ≤ (x : Rat)) ∧ (((-y : Int) : Rat) ≤ z.y ∧ z.y ≤ (y : Rat)) := fun z h1 h2 => by push_cast; grind
  have sm : ∀ g ∈ boxB (-x) (-y) x y, (-1 ≤ g.a ∧ g.a ≤ 1) ∧ (-1 ≤ g.b ∧ g.b ≤ 1) ∧ (-1000 ≤ g.c ∧ g.c ≤ 1000) := fun g hg => by
    simp only [boxB, List.mem_cons, List.not_mem_nil, or_false] at hg
    rcases hg with rfl | rfl | rfl | rfl <;> (simp only; omega)
  rcases h with h | h
  · rw [h]
    exact ⟨box_reg B, by simp [boxB], fun g hg => ⟨boxB_ok B g hg, sm g hg⟩, fun z hz => hb z (box_set.1 hz), fun z h1 h2 => box_set.2 (hc z h1 h2)⟩
  · have ok := limit_okL hx hy
    have hset : ∀ z, setR r.ls z ↔ regP (Inside (boxB (-x) (-y) x y ++ [⟨1, 1, x + y / 2⟩] ++ frameH)) z := fun z => by rw [h]; exact set_made ok
    have hcore : ∀ z : Pt, ((-11 : Rat) ≤ z.x ∧ z.x ≤ 11) → ((-11 : Rat) ≤ z.y ∧ z.y ≤ 11) → Inside (boxB (-x) (-y) x y ++ [⟨1, 1, x + y / 2⟩] ++ frameH) z := fun z h1 h2 => by
      rw [inside_app, inside_app, box_in, inside_one]
      exact ⟨⟨hc z h1 h2, core_cut hx hy h1 h2⟩, core_frame h1 h2⟩
    have fat : FatP (Inside (boxB (-x) (-y) x y ++ [⟨1, 1, x + y / 2⟩] ++ frameH)) := core_fat (M := 11) (by grind) hcore
    refine ⟨by rw [h]; exact made_ok ok (by show 5 ≤ 30; omega), ?_, fun g hg => ?_, fun z hz => ?_, fun z h1 h2 => (hset z).2 ⟨fat, hcore z h1 h2⟩⟩
    · rw [h]
      have h5 : (boxB (-x) (-y) x y ++ [(⟨1, 1, x + y / 2⟩ : H3)]).length = 5 := rfl
      have := made_len ok
      rw [h5] at this
      exact this
    · rw [h] at hg
      refine ⟨ok_framed ok g (made_mem ok hg), ?_⟩
      rcases List.mem_append.1 (made_mem ok hg) with q | q
      · rcases List.mem_append.1 q with q | q
        · exact sm g q
        · rw [List.mem_singleton.1 q]; simp only; omega
      · simp only [frameH, List.mem_cons, List.not_mem_nil, or_false] at q
        rcases q with rfl | rfl | rfl | rfl <;> (simp only; omega)
    · have := ((hset z).1 hz).2
      rw [inside_app, inside_app, box_in] at this
      exact hb z this.1.1
theorem LimP.ne {p : List H3} (L : LimP p) : p ≠ [] := (L.core ⟨0, 0⟩ (by grind) (by grind)).1
theorem noise_box {a : Int} (ha : 1 ≤ a ∧ a ≤ 2) : BoxBd (-a) (-1) a 1 := ⟨by omega, by omega⟩
theorem noise_in {r : RoomV} (D : RoomD r) {t : Pt} (h : setR r.ns t) : ((-2 : Rat) ≤ t.x ∧ t.x ≤ 2) ∧ ((-1 : Rat) ≤ t.y ∧ t.y ≤ 1) := by
  obtain ⟨a, ha, e⟩ := D.ns
  rw [e, box_set] at h
  have c1 := le_cast ha.2
  push_cast at c1 h
  grind
theorem noise_zero {r : RoomV} (D : RoomD r) : setR r.ns ⟨0, 0⟩ := by
  obtain ⟨a, ha, e⟩ := D.ns
  rw [e, box_set]
  have c1 := le_cast ha.1
  push_cast at c1 ⊢
  grind
theorem noise_reg {r : RoomV} (D : RoomD r) : regionOk r.ns = true ∧ r.ns ≠ [] ∧ r.ns.length = 4 := by
  obtain ⟨a, ha, e⟩ := D.ns
  rw [e]
  exact ⟨box_reg (noise_box ha), by simp [boxB], rfl⟩
theorem room_ok {r : RoomV} (D : RoomD r) : roomOk r = true := by
  obtain ⟨h1, h2⟩ := room_map D
  have L := limits D
  obtain ⟨n1, n2, _⟩ := noise_reg D
  have bx := D.bx; have bY := D.by_; have lo := D.lo; have hi := D.hi
  unfold roomOk turnOk rangeB
  simp only [Bool.and_eq_true, inR_iff, Bool.not_eq_true', decide_eq_false_iff_not, bne_iff_ne]
  have := L.ne
  refine ?_
  simp only [h1, L.reg, n1]
  and_intros <;> first | trivial | assumption | omega | simp_all
theorem short_room {r : RoomV} (D : RoomD r) : r.Short := by
  obtain ⟨e, f, g, _, _, _, hm⟩ := D.mq
  refine ⟨by rw [hm]; simp, by have := (noise_reg D).2.2; omega, by have := (limits D).len; omega⟩
end Go.Proofs.YtabmfaamadbefaaGreat