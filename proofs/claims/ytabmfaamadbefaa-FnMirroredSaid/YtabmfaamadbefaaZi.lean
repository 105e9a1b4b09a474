/- Plain: what FnMeets and FnMirrored say of areas. No program. -/
import Derived.Test.YtabmfaamadbefaaZh
set_option linter.unusedSimpArgs false
set_option linter.unusedVariables false
set_option linter.unusedSectionVars false
namespace Go.Proofs.Ytabmfaamadbefaa
open Go.RowKit

theorem meet_area {p q : List H3} (A : AreaP p) (B : AreaP q) : ∃ m, meetQ p q = (m, true) ∧ regionOk m = true := by
  have kp := area_ok A
  have kq := area_ok B
  have lp := area_len A
  have lq := area_len B
  refine ⟨makeR (p ++ q), ?_, ?_⟩
  · unfold meetQ
    rw [if_pos ⟨kp, kq, by omega⟩, if_neg (by rintro (h | h); exact area_fat A h; exact area_fat B h)]
  · refine made_ok (fun g hg => ?_) (by rw [List.length_append]; omega)
    rcases List.mem_append.1 hg with h | h
    · exact (region_good kp).1 g h
    · exact (region_good kq).1 g h
theorem meet_comm {p q m n : List H3} (h1 : meetQ p q = (m, true)) (h2 : meetQ q p = (n, true)) (km : regionOk m = true) (kn : regionOk n = true) : m = n :=
  set_eq km kn fun x => by
    rw [set_meet h1, set_meet h2]
    exact regP_congr fun y => ⟨fun h => ⟨h.2, h.1⟩, fun h => ⟨h.2, h.1⟩⟩
theorem meet_left {p q m : List H3} (kp : regionOk p = true) (h : meetQ p q = (m, true)) (km : regionOk m = true) : isWithinR m p = true := within_iff.2 ⟨km, kp, fun x hx => ((set_meet h).1 hx).2.1⟩
theorem meet_right {p q m : List H3} (kq : regionOk q = true) (h : meetQ p q = (m, true)) (km : regionOk m = true) : isWithinR m q = true := within_iff.2 ⟨km, kq, fun x hx => ((set_meet h).1 hx).2.2⟩
/-- A region lies in another one exactly if it is the meet of both. -/
theorem meet_same {p q m : List H3} (kp : regionOk p = true) (kq : regionOk q = true) (h : meetQ p q = (m, true)) (km : regionOk m = true) : isWithinR p q = decide (m = p) := by
  rw [Bool.eq_iff_iff, decide_eq_true_eq, within_iff]
  constructor
  · rintro ⟨_, _, hs⟩
    refine set_eq km kp fun x => ?_
    rw [set_meet h, ← set_regP kp]
    exact regP_congr fun y => ⟨fun h => h.1, fun h => ⟨h, hs y h⟩⟩
  · intro e
    refine ⟨kp, kq, fun x hx => ?_⟩
    rw [← e] at hx
    exact ((set_meet h).1 hx).2.2
theorem meet_has {p q m : List H3} {x y : Int} (kp : regionOk p = true) (kq : regionOk q = true) (h : meetQ p q = (m, true)) (km : regionOk m = true) (hx : -1000 ≤ x ∧ x ≤ 1000) (hy : -1000 ≤ y ∧ y ≤ 1000) (hne : m ≠ []) : hasSpotR m x y 1 = (hasSpotR p x y 1 && hasSpotR q x y 1) := by
  have f := (set_meet h).1 (set_fat km hne).some.choose_spec |>.1
  rw [Bool.eq_iff_iff, Bool.and_eq_true, has_whole km hx hy, has_whole kp hx hy, has_whole kq hx hy, set_meet h]
  exact ⟨fun k => k.2, fun k => ⟨f, k⟩⟩
theorem cut_area {p q : List H3} (A : AreaP p) (B : AreaP q) : ∃ h0 c, p[0]? = some h0 ∧ HOk h0 ∧ cutR q h0 = (c, true) ∧ regionOk c = true ∧ ∀ m, meetQ p q = (m, true) → regionOk m = true → isWithinR m c = true ∧ isWithinR c q = true ∧ wholeN m ≤ wholeN q := by
  have kp := area_ok A
  have kq := area_ok B
  have lq := area_len B
  cases p with
  | nil => exact absurd rfl (area_fat A)
  | cons h0 t =>
    have k0 := (region_good kp).1 h0 List.mem_cons_self
    have hc : cutR q h0 = (makeR (q ++ [h0]), true) := by
      unfold cutR
      rw [if_pos ⟨(halfOk_iff h0).2 k0, kq, by omega⟩, if_neg (area_fat B)]
    have kc := cutR_ok hc
    refine ⟨h0, _, rfl, k0, hc, kc, fun m hm km => ⟨?_, ?_, ?_⟩⟩
    · refine within_iff.2 ⟨km, kc, fun x hx => ?_⟩
      rw [set_cut hc]
      refine regP_mono (fun y hy => ⟨hy.2, hy.1.2 h0 List.mem_cons_self⟩) ((set_meet hm).1 hx)
    · exact within_iff.2 ⟨kc, kq, fun x hx => ((set_cut hc).1 hx).2.1⟩
    · exact whole_le km kq fun x hx => ((set_meet hm).1 hx).2.2
theorem mirror_area {p : List H3} (k : regionOk p = true) (hl : p.length ≤ 30) : ∃ m, mirrorR p = (m, true) ∧ regionOk m = true ∧ m.length ≤ p.length + 4 := by
  have okm := map_ok (region_good k).1
  unfold mirrorR
  rw [if_pos k]
  unfold movedM
  split
  · exact ⟨_, rfl, rfl, by simp⟩
  · rw [meetR_small okm (by rw [List.length_map]; omega)]
    refine ⟨_, rfl, made_ok okm (by rw [List.length_map]; omega), ?_⟩
    have := made_len okm
    rw [List.length_map] at this
    exact this
theorem negP_negP (x : Pt) : negP (negP x) = x := by
  cases x with | mk a b => ?_
  unfold negP
  simp only
  congr 1 <;> grind
theorem mirror_twice {p m n : List H3} (kp : regionOk p = true) (h1 : mirrorR p = (m, true)) (h2 : mirrorR m = (n, true)) (kn : regionOk n = true) : n = p :=
  set_eq kn kp fun x => by rw [set_mirror h2, set_mirror h1, negP_negP]
/-- What is known of a region whose coefficients are small, not far from the middle. -/
structure NearP (p : List H3) (M C : Int) : Prop where
  reg : regionOk p = true
  len : p.length ≤ 20
  small : ∀ g ∈ p, HOk g ∧ (-3 ≤ g.a ∧ g.a ≤ 3) ∧ (-3 ≤ g.b ∧ g.b ≤ 3) ∧ (-C ≤ g.c ∧ g.c ≤ C)
  box : ∀ x, setR p x → (-(M : Rat) ≤ x.x ∧ x.x ≤ (M : Rat)) ∧ (-(M : Rat) ≤ x.y ∧ x.y ≤ (M : Rat))
theorem area_near {p : List H3} (A : AreaP p) : NearP p 98 1000 := by
  refine ⟨area_ok A, by have := area_len A; omega, area_small A, fun x hx => ?_⟩
  have := area_box A hx
  have e : ((98 : Int) : Rat) = 98 := rfl
  rw [e]
  grind
theorem shift_area {p : List H3} {dx dy M C : Int} (N : NearP p M C) (hl : p.length + 4 ≤ 20) (hC : 0 ≤ C ∧ 1000 ≤ C + 180 ∧ C ≤ 10000) (hM : 0 ≤ M ∧ M ≤ 200) (hx : -30 ≤ dx ∧ dx ≤ 30) (hy : -30 ≤ dy ∧ dy ≤ 30) :
    ∃ a, shiftR dx dy p = (a, true) ∧ NearP a (M + 30) (C + 180) ∧ a.length ≤ p.length + 4 ∧ ∀ x, setR a x ↔ setR p (addP x ⟨-dx, -dy⟩) := by
  have kp := N.reg
  have hF : ∀ g ∈ p, (shiftF dx dy g).2 = true := fun g hg => by
    obtain ⟨k, g1, g2, g3⟩ := N.small g hg
    have m1 := mul_bd (A := 3) (B := 30) g1 hx
    have m2 := mul_bd (A := 3) (B := 30) g2 hy
    exact halfOf_small k.ba k.bb (by omega) k.nz
  have hok : ∀ g ∈ p, HOk (shiftF dx dy g).1 := fun g hg => halfOf_ok (v := _) rfl (hF g hg)
  obtain ⟨hm, hmk⟩ := movedF_small hF hok (by omega)
  have hs : shiftR dx dy p = ((movedF (shiftF dx dy) p).1, true) := by
    unfold shiftR
    rw [if_pos ⟨kp, inR_iff.2 (by omega), inR_iff.2 (by omega)⟩]
    exact hm
  have okm : ∀ g ∈ p.map (fun g => (shiftF dx dy g).1), HOk g := fun g hg => by
    obtain ⟨g0, hg0, rfl⟩ := List.mem_map.1 hg
    exact hok g0 hg0
  have kr : regionOk (movedF (shiftF dx dy) p).1 = true := movedF_ok (fun g hg _ => hok g hg) hm
  have hset : ∀ x, setR (movedF (shiftF dx dy) p).1 x ↔ setR p (addP x ⟨-dx, -dy⟩) := fun x => by
    rw [set_shift hs]
    have c1 := le_cast hx.1; have c2 := le_cast hx.2; have c3 := le_cast hy.1; have c4 := le_cast hy.2
    have cM := le_cast hM.2
    push_cast at c1 c2 c3 c4 cM
    have inF : ∀ y, setR p (addP y ⟨-dx, -dy⟩) → Inside frameH y := fun y hy => by
      have := N.box _ hy
      unfold addP at this
      simp only at this
      exact frame_pt (by grind)
    constructor
    · intro h; exact h.2.2
    · intro h
      refine ⟨?_, inF x h, h⟩
      obtain ⟨z, r, r0, hr⟩ := set_fat kp h.1
      refine ⟨addP z ⟨dx, dy⟩, r, r0, fun y hy => ?_⟩
      have hy2 : setR p (addP y ⟨-dx, -dy⟩) := hr _ (by unfold NbP addP at *; simp only at *; grind)
      exact ⟨inF y hy2, hy2⟩
  have hlen : (movedF (shiftF dx dy) p).1.length ≤ p.length + 4 := by
    by_cases hn : p = []
    · rw [hn]; simp [movedF]
    · rw [hmk hn]
      have := made_len okm
      rw [List.length_map] at this
      exact this
  refine ⟨_, hs, ⟨kr, by omega, fun g hg => ?_, fun x hx' => ?_⟩, hlen, hset⟩
  · by_cases hn : p = []
    · rw [hn] at hg; simp [movedF] at hg
    · rw [hmk hn] at hg
      rcases List.mem_append.1 (made_mem okm hg) with q | q
      · obtain ⟨g0, hg0, rfl⟩ := List.mem_map.1 q
        obtain ⟨k, g1, g2, g3⟩ := N.small g0 hg0
        have m1 := mul_bd (A := 3) (B := 30) g1 hx
        have m2 := mul_bd (A := 3) (B := 30) g2 hy
        exact ⟨hok g0 hg0, half_bd (C := C + 180) (Prod.ext rfl (hF g0 hg0)) g1 g2 (by omega)⟩
      · refine ⟨frameH_ok g q, ?_⟩
        simp only [frameH, List.mem_cons, List.not_mem_nil, or_false] at q
        rcases q with rfl | rfl | rfl | rfl <;> (simp only; omega)
  · have := N.box _ ((hset x).1 hx')
    have c1 := le_cast hx.1; have c2 := le_cast hx.2; have c3 := le_cast hy.1; have c4 := le_cast hy.2
    unfold addP at this
    simp only at this
    push_cast at c1 c2 c3 c4 ⊢
    grind
theorem shift_back {p a b : List H3} {dx dy : Int} (kp : regionOk p = true) (kb : regionOk b = true) (h1 : ∀ x, setR a x ↔ setR p (addP x ⟨-dx, -dy⟩)) (h2 : ∀ x, setR b x ↔ setR a (addP x ⟨-(-dx : Int), -(-dy : Int)⟩)) : b = p :=
  set_eq kb kp fun x => by
    rw [h2, h1]
    have : addP (addP x ⟨-(-dx : Int), -(-dy : Int)⟩) ⟨-dx, -dy⟩ = x := by
      cases x with | mk u v => ?_
      unfold addP
      simp only
      push_cast
      congr 1 <;> grind
    rw [this]
theorem area_window {p : List H3} (A : AreaP p) : wholeN p = sumI (cntC p) (-40) 139 :=
  whole_window (area_ok A) (area_fat A) (by omega) (by omega) fun x hx => by
    have := (area_box A hx).1
    push_cast
    grind
theorem mirror_count {p m : List H3} (A : AreaP p) (h : mirrorR p = (m, true)) (km : regionOk m = true) : wholeN m = wholeN p := by
  have hset := fun x => set_mirror h (x := x)
  have hp := area_fat A
  have hm : m ≠ [] := by
    obtain ⟨x, hx⟩ := (set_fat (area_ok A) hp).some
    exact ((hset (negP x)).2 (by rw [negP_negP]; exact hx)).1
  have hw : wholeN m = sumI (cntC m) (-98) 139 := whole_window km hm (by omega) (by omega) fun x hx => by
    have := (area_box A ((hset x).1 hx)).1
    unfold negP at this
    simp only at this
    push_cast
    grind
  rw [hw, area_window A]
  have hc : ∀ x, cntC m x = cntC p (-x) := fun x => by
    refine cnt_turn fun y => ?_
    rw [col_set hm, col_set hp, hset]
    have e : negP ⟨(x : Rat), (y : Rat)⟩ = ⟨((-x : Int) : Rat), ((-y : Int) : Rat)⟩ := by unfold negP; push_cast; rfl
    rw [e]
    constructor
    · rintro ⟨h1, h2⟩; exact ⟨by omega, h2⟩
    · rintro ⟨h1, h2⟩; exact ⟨by omega, h2⟩
  rw [sumI_congr (g := fun x => cntC p (-x)) fun i _ => hc _, sumI_rev]
  rfl
theorem shift_count {p a : List H3} {dx dy : Int} (A : AreaP p) (ka : regionOk a = true) (hx : -30 ≤ dx ∧ dx ≤ 30) (hy : -30 ≤ dy ∧ dy ≤ 30) (hset : ∀ x, setR a x ↔ setR p (addP x ⟨-dx, -dy⟩)) : wholeN a = wholeN p := by
  have hp := area_fat A
  have ha : a ≠ [] := by
    obtain ⟨x, hx⟩ := (set_fat (area_ok A) hp).some
    have : setR a (addP x ⟨dx, dy⟩) := (hset _).2 (by
      have : addP (addP x ⟨dx, dy⟩) ⟨-dx, -dy⟩ = x := by
        cases x with | mk u v => ?_
        unfold addP
        simp only
        congr 1 <;> grind
      rw [this]; exact hx)
    exact this.1
  have hw : wholeN a = sumI (cntC a) (-40 + dx) 139 := whole_window ka ha (by omega) (by omega) fun x hx => by
    have := (area_box A ((hset x).1 hx)).1
    unfold addP at this
    simp only at this
    push_cast
    grind
  rw [hw, area_window A]
  have hc : ∀ x, cntC a x = cntC p (x + -dx) := fun x => by
    refine cnt_move (d := -dy) fun y => ?_
    rw [col_set ha, col_set hp, hset]
    have e : addP ⟨(x : Rat), (y : Rat)⟩ ⟨-dx, -dy⟩ = ⟨((x + -dx : Int) : Rat), ((y + -dy : Int) : Rat)⟩ := by unfold addP; push_cast; rfl
    rw [e]
    constructor
    · rintro ⟨h1, h2⟩
      have := (area_box A h2).2
      simp only at this
      have c1 : ((-40 : Int) : Rat) ≤ ((y + -dy : Int) : Rat) := by push_cast at this ⊢; grind
      have c2 : ((y + -dy : Int) : Rat) ≤ ((98 : Int) : Rat) := by push_cast at this ⊢; grind
      have := cast_le c1; have := cast_le c2
      exact ⟨by omega, h2⟩
    · rintro ⟨h1, h2⟩
      have := (area_box A h2).2
      simp only at this
      have c1 : ((-40 : Int) : Rat) ≤ ((y + -dy : Int) : Rat) := by push_cast at this ⊢; grind
      have c2 : ((y + -dy : Int) : Rat) ≤ ((98 : Int) : Rat) := by push_cast at this ⊢; grind
      have := cast_le c1; have := cast_le c2
      exact ⟨by omega, h2⟩
  rw [sumI_congr (g := fun x => cntC p (x + -dx)) fun i _ => hc _, sumI_shift]
  rw [show -40 + dx + -dx = -40 by omega]
theorem box_count {dx dy : Int} (hx : -30 ≤ dx ∧ dx ≤ 30) (hy : -30 ≤ dy ∧ dy ≤ 30) : wholeN (boxB dx dy (dx + 7) (dy + 5)) = 48 := by
  have B : BoxBd dx dy (dx + 7) (dy + 5) := ⟨by omega, by omega⟩
  have hne : boxB dx dy (dx + 7) (dy + 5) ≠ [] := by simp [boxB]
  rw [whole_window (A := dx) (N := 8) (box_reg B) hne (by omega) (by omega) fun x hx => by
    have := (box_set.1 hx).1
    push_cast at this ⊢
    grind]
  have hc : ∀ x, dx ≤ x → x ≤ dx + 7 → cntC (boxB dx dy (dx + 7) (dy + 5)) x = 6 := fun x h1 h2 => by
    have : cntC (boxB dx dy (dx + 7) (dy + 5)) x = max ((dy + 5) - dy + 1) 0 := cnt_move (d := 0) fun y => by
      rw [col_set hne, box_set]
      constructor
      · rintro ⟨_, _, h3, h4⟩
        have := cast_le h3; have := cast_le h4
        omega
      · rintro ⟨h3, h4⟩
        exact ⟨by omega, ⟨le_cast h1, le_cast h2⟩, le_cast (by omega), le_cast (by omega)⟩
    rw [this]; omega
  rw [sumI_congr (g := fun _ => 6) fun i hi => hc _ (by omega) (by omega)]
  rfl
end Go.Proofs.Ytabmfaamadbefaa
