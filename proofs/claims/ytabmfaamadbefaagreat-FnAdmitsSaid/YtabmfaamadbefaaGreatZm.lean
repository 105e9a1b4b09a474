/- Plain: the states that can be kept for a period, the kept part of a region, and the rounds, as sets of points: they grow with the region and the range of the inputs. No program. -/
import Derived.Test.YtabmfaamadbefaaGreatZc
import Derived.Test.YtabmfaamadbefaaGreatQg
set_option linter.unusedSimpArgs false
set_option linter.unusedVariables false
set_option linter.unusedSectionVars false
namespace Go.Proofs.YtabmfaamadbefaaGreat
open Go.RowKit
/-- The three steps of PreRegion, as sets. -/
structure PreP (r : RoomV) (p e g o : List H3) : Prop where
  ke : regionOk e = true
  kg : regionOk g = true
  ko : regionOk o = true
  he : movedF (erF r.ns) p = (e, true)
  hg : growM e r.bx r.by_ r.lo r.hi = (g, true)
  se : ∀ x, setR e x ↔ regP (fun x => Inside frameH x ∧ ∀ t, setR r.ns t → setR p (addP x t)) x
  sg : ∀ x, setR g x ↔ regP (fun x => Inside frameH x ∧ ∃ u : Rat, (r.lo : Rat) ≤ u ∧ u ≤ (r.hi : Rat) ∧ setR e (movP x u r.bx r.by_)) x
  so : ∀ x, setR o x ↔ regP (fun x => Inside frameH x ∧ setR g (linP (r.m.getD 0 0) (r.m.getD 1 0) (r.m.getD 2 0) (r.m.getD 3 0) r.q x)) x
theorem room_q {r : RoomV} (P : RoomP r) : 0 < r.q := by
  obtain ⟨_, a, b, e, f, _, M, _⟩ := turnOk_parts P.tk
  have := M.bq
  omega
theorem pre_parts {r : RoomV} {p o : List H3} (h : preR r p = (o, true)) : RoomP r ∧ regionOk p = true ∧ ∃ e g, PreP r p e g o := by
  have h' := h
  unfold preR at h
  split at h
  · rename_i hc
    have P := roomOk_parts hc.1
    refine ⟨P, hc.2, ?_⟩
    unfold preM at h
    obtain ⟨g, hg, ho⟩ := thenL_ok h
    obtain ⟨e, he, hg⟩ := thenL_ok hg
    have ke := erosion_ok he
    have kg := growP_ok ke hg
    have ko := pullM_ok ho
    unfold growP at hg
    split at hg
    · unfold pullM at ho
      have b1 := P.bx
      have b2 := P.by_
      have hl := P.hi
      exact ⟨e, g, ke, kg, ko, he, hg, fun x => set_erode P.nk P.ns hc.2 he, fun x => set_grow ke (by omega) (by omega) hl.1 hg, fun x => set_pull (room_q P) ho⟩
    · injection hg with _ q; cases q
  · injection h with _ q; cases q
/-- Rooms that differ in their limits alone, and in a wider range of inputs. -/
structure RoomLe (r x : RoomV) : Prop where
  m : x.m = r.m
  q : x.q = r.q
  bx : x.bx = r.bx
  by_ : x.by_ = r.by_
  ns : x.ns = r.ns
  lo : x.lo ≤ r.lo
  hi : r.hi ≤ x.hi
theorem RoomLe.refl (r : RoomV) : RoomLe r r := ⟨rfl, rfl, rfl, rfl, rfl, Int.le_refl _, Int.le_refl _⟩
theorem le_rat {a b : Int} (h : a ≤ b) : (a : Rat) ≤ (b : Rat) := by exact_mod_cast h
theorem pre_mono {r x : RoomV} {p p' o o' : List H3} (L : RoomLe r x) (h : preR r p = (o, true)) (h' : preR x p' = (o', true)) (hs : ∀ z, setR p z → setR p' z) : ∀ z, setR o z → setR o' z := by
  obtain ⟨P, kp, e, g, Q⟩ := pre_parts h
  obtain ⟨P', kp', e', g', Q'⟩ := pre_parts h'
  have l1 : (x.lo : Rat) ≤ (r.lo : Rat) := le_rat L.lo
  have l2 : (r.hi : Rat) ≤ (x.hi : Rat) := le_rat L.hi
  have me : ∀ z, setR e z → setR e' z := fun z hz => by
    rw [Q'.se]
    exact regP_mono (fun y hy => ⟨hy.1, fun t ht => hs _ (hy.2 t (L.ns ▸ ht))⟩) ((Q.se z).1 hz)
  have mg : ∀ z, setR g z → setR g' z := fun z hz => by
    rw [Q'.sg]
    exact regP_mono (fun y hy => ⟨hy.1, by
      obtain ⟨u, u1, u2, hu⟩ := hy.2
      exact ⟨u, by grind, by grind, by rw [L.bx, L.by_]; exact me _ hu⟩⟩) ((Q.sg z).1 hz)
  intro z hz
  rw [Q'.so]
  exact regP_mono (fun y hy => ⟨hy.1, by rw [L.m, L.q]; exact mg _ hy.2⟩) ((Q.so z).1 hz)
/-- What KeepRegion gives. -/
structure KeepP (r : RoomV) (p q o : List H3) : Prop where
  kp : regionOk p = true
  ko : regionOk o = true
  hp : preR r p = (q, true)
  so : ∀ x, setR o x ↔ regP (fun x => setR p x ∧ setR q x) x
theorem keep_parts {r : RoomV} {p o : List H3} (h : keepR r p = (o, true)) : roomOk r = true ∧ ∃ q, KeepP r p q o := by
  have ko := keepR_reg h
  have h' := h
  rw [keepR_chain] at h
  obtain ⟨q, hq, hm⟩ := thenL_ok h
  have hk : roomOk r = true ∧ regionOk p = true := by
    unfold preR at hq
    split at hq
    · rename_i hc; exact hc
    · injection hq with _ e; cases e
  exact ⟨hk.1, q, hk.2, ko, hq, fun x => set_meet hm⟩
theorem keep_mono {r x : RoomV} {p p' o o' : List H3} (L : RoomLe r x) (h : keepR r p = (o, true)) (h' : keepR x p' = (o', true)) (hs : ∀ z, setR p z → setR p' z) : ∀ z, setR o z → setR o' z := by
  obtain ⟨_, q, K⟩ := keep_parts h
  obtain ⟨_, q', K'⟩ := keep_parts h'
  intro z hz
  rw [K'.so]
  exact regP_mono (fun y hy => ⟨hs y hy.1, pre_mono L K.hp K'.hp hs y hy.2⟩) ((K.so z).1 hz)
theorem keep_sub {r : RoomV} {p o : List H3} (h : keepR r p = (o, true)) : ∀ z, setR o z → setR p z := by
  obtain ⟨_, q, K⟩ := keep_parts h
  exact fun z hz => ((K.so z).1 hz).2.1
theorem runL_fix {F : List H3 → List H3 × Bool} : ∀ (n : Nat) (p : List H3) (k : Nat) {q : List H3} {k' : Nat}, runL F n p k = some (q, k', true) → F q = (q, true)
  | 0, p, k, q, k', h => by simp [runL] at h
  | n + 1, p, k, q, k', h => by
    unfold runL at h
    split at h
    · rename_i h1
      split at h
      · rename_i h2
        simp only [Option.some.injEq, Prod.mk.injEq] at h
        obtain ⟨rfl, _, _⟩ := h
        exact Prod.ext h2 h1
      · exact runL_fix n _ _ h
    · cases h
theorem runL_sub {r : RoomV} : ∀ (n : Nat) (p : List H3) (k : Nat) {q : List H3} {k' : Nat} {s : Bool}, runL (keepR r) n p k = some (q, k', s) → ∀ z, setR q z → setR p z
  | 0, p, k, q, k', s, h => by
    simp only [runL, Option.some.injEq, Prod.mk.injEq] at h
    obtain ⟨rfl, _, _⟩ := h
    exact fun z hz => hz
  | n + 1, p, k, q, k', s, h => by
    unfold runL at h
    split at h
    · rename_i h1
      split at h
      · simp only [Option.some.injEq, Prod.mk.injEq] at h
        obtain ⟨rfl, _, _⟩ := h
        exact fun z hz => hz
      · intro z hz
        exact keep_sub (Prod.ext rfl h1) z (runL_sub n _ _ h z hz)
    · cases h
/-- A region that keeps itself lies in all rounds of a region around it. -/
theorem runL_super {r x : RoomV} {P : List H3} (L : RoomLe r x) (hP : keepR r P = (P, true)) : ∀ (n : Nat) (p : List H3) (k : Nat) {q : List H3} {k' : Nat} {s : Bool}, runL (keepR x) n p k = some (q, k', s) → (∀ z, setR P z → setR p z) → ∀ z, setR P z → setR q z
  | 0, p, k, q, k', s, h, hs => by
    simp only [runL, Option.some.injEq, Prod.mk.injEq] at h
    obtain ⟨rfl, _, _⟩ := h
    exact hs
  | n + 1, p, k, q, k', s, h, hs => by
    unfold runL at h
    split at h
    · rename_i h1
      split at h
      · simp only [Option.some.injEq, Prod.mk.injEq] at h
        obtain ⟨rfl, _, _⟩ := h
        exact hs
      · exact runL_super L hP n _ _ h (keep_mono L hP (Prod.ext rfl h1) hs)
    · cases h
theorem runR_parts {r : RoomV} {n : Int} {q : List H3} {k : Int} {s : Bool} (h : runR r n = ((q, k, s), true)) : roomOk r = true ∧ (0 ≤ n ∧ n ≤ 12) ∧ ∃ k' : Nat, k = k' ∧ runL (keepR r) n.toNat r.ls 0 = some (q, k', s) := by
  unfold runR at h
  split at h
  · rename_i hc
    refine ⟨hc.1, inR_iff.1 hc.2, ?_⟩
    cases hr : runL (keepR r) n.toNat r.ls 0 with
    | none =>
      rw [hr] at h
      unfold keptV at h
      simp at h
    | some v =>
      obtain ⟨p, k', s'⟩ := v
      rw [hr] at h
      simp only [keptV, Prod.mk.injEq, and_true] at h
      obtain ⟨rfl, rfl, rfl⟩ := h
      exact ⟨k', rfl, rfl⟩
  · simp at h
theorem keptR_parts {r : RoomV} {p : List H3} (h : keptR r = (p, true)) : roomOk r = true ∧ keepR r p = (p, true) ∧ (∀ z, setR p z → setR r.ls z) ∧ 0 ≤ roundsR r := by
  unfold keptR keptOf at h
  split at h
  · rename_i hc
    obtain ⟨⟨q, k, s⟩, ok⟩ : (List H3 × Int × Bool) × Bool := runR r 12
    obtain ⟨⟨⟨q, k, s⟩, ok⟩, hr⟩ : ∃ v, runR r 12 = v := ⟨_, rfl⟩
    rw [hr] at hc h
    simp only at hc h
    obtain ⟨rfl, rfl⟩ := hc
    injection h with h _
    subst h
    obtain ⟨h1, _, k', hk, hl⟩ := runR_parts hr
    refine ⟨h1, runL_fix _ _ _ hl, runL_sub _ _ _ hl, ?_⟩
    unfold roundsR roundsOf
    rw [hr, if_pos ⟨rfl, rfl⟩, hk]
    exact Int.natCast_nonneg _
  · injection h with _ e; cases e
theorem roundsR_none {r : RoomV} {p : List H3} (h : keptR r = (p, false)) : roundsR r = -1 := by
  unfold keptR keptOf at h
  unfold roundsR roundsOf
  split at h
  · injection h with _ e; cases e
  · rename_i hc
    exact if_neg hc
/-- A region that keeps itself in a room lies in the kept region of a room with wider limits and inputs. -/
theorem kept_super {r x : RoomV} {P q : List H3} (L : RoomLe r x) (hP : keepR r P = (P, true)) (hs : ∀ z, setR P z → setR x.ls z) (h : keptR x = (q, true)) : ∀ z, setR P z → setR q z := by
  unfold keptR keptOf at h
  split at h
  · rename_i hc
    obtain ⟨⟨⟨q', k, s⟩, ok⟩, hr⟩ : ∃ v, runR x 12 = v := ⟨_, rfl⟩
    rw [hr] at hc h
    simp only at hc h
    obtain ⟨rfl, rfl⟩ := hc
    injection h with h _
    subst h
    obtain ⟨_, _, k', _, hl⟩ := runR_parts hr
    exact runL_super L hP _ _ _ hl hs
  · injection h with _ e; cases e
theorem keep_within {r : RoomV} {p : List H3} (h : keepR r p = (p, true)) : ∃ q, preR r p = (q, true) ∧ regionOk q = true ∧ ∀ z, setR p z → setR q z := by
  obtain ⟨_, q, K⟩ := keep_parts h
  obtain ⟨_, _, e, g, Q⟩ := pre_parts K.hp
  exact ⟨q, K.hp, Q.ko, fun z hz => ((K.so z).1 hz).2.2⟩
theorem pre_same {r x : RoomV} {p : List H3} (hr : roomOk r = true) (hx : roomOk x = true) (L : RoomLe r x) (e1 : x.lo = r.lo) (e2 : x.hi = r.hi) : preR x p = preR r p := by
  unfold preR preM growP pullM
  rw [hr, hx, L.ns, L.bx, L.by_, L.m, L.q, e1, e2]
end Go.Proofs.YtabmfaamadbefaaGreat