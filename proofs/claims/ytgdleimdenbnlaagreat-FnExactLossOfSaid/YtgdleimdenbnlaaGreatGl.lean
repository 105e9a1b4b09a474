/- Plain: the support of a region is the greatest value over all its points; an edge of a met region has a point in both parts. No program. -/
import Derived.Test.YtgdleimdenbnlaaGreatEp
set_option linter.unusedVariables false
set_option linter.unusedSimpArgs false
set_option linter.unusedSectionVars false
namespace Go.Proofs.YtgdleimdenbnlaaGreat

theorem edges_cone_any {L : List H3} (G : Good L) (nv : ¬ Void L) (ne : ∃ e ∈ L, Edge L e) {h : H3} (nh : NZ h) : ∃ e g v, e ∈ L ∧ Edge L e ∧ Next L e g v ∧ 0 < cross e h ∧ 0 ≤ cross h g := by
  classical
  have mA : ∀ f, f ∈ L.filter (fun f => decide (Edge L f ∧ 0 < cross f h)) ↔ f ∈ L ∧ Edge L f ∧ 0 < cross f h := fun f => by simp
  have neA : L.filter (fun f => decide (Edge L f ∧ 0 < cross f h)) ≠ [] := by
    intro h0
    have all : ∀ f ∈ L, Edge L f → 0 ≤ cross h f := fun f hf ef => by
      apply Classical.byContradiction; intro hn
      have : f ∈ L.filter (fun f => decide (Edge L f ∧ 0 < cross f h)) := (mA f).2 ⟨hf, ef, by rw [cross_anti]; omega⟩
      rw [h0] at this; cases this
    have mB : ∀ f, f ∈ L.filter (fun f => decide (Edge L f ∧ 0 < cross h f)) ↔ f ∈ L ∧ Edge L f ∧ 0 < cross h f := fun f => by simp
    by_cases hB : L.filter (fun f => decide (Edge L f ∧ 0 < cross h f)) = []
    · have zero : ∀ f ∈ L, Edge L f → cross h f = 0 := fun f hf ef => by
        have := all f hf ef
        apply Classical.byContradiction; intro hn
        have : f ∈ L.filter (fun f => decide (Edge L f ∧ 0 < cross h f)) := (mB f).2 ⟨hf, ef, by omega⟩
        rw [hB] at this; cases this
      obtain ⟨e, he, ee⟩ := ne
      obtain ⟨g, v, N⟩ := next_exists G nv he ee
      have z1 := zero e he ee
      have z2 := zero g N.mg N.eg
      have id := cross_nrm h e g
      rw [z1, z2, Int.mul_zero, Int.mul_zero] at id
      have := Int.mul_pos (nrm_pos nh) N.turn
      omega
    · obtain ⟨g0, hg0, gm⟩ := last_angle (e := h) _ hB (fun f hf => ((mB f).1 hf).2.2)
      obtain ⟨m0, e0, p0⟩ := (mB g0).1 hg0
      obtain ⟨g1, v1, N1⟩ := next_exists G nv m0 e0
      have z1 : cross h g1 = 0 := by
        have a1 := all g1 N1.mg N1.eg
        apply Classical.byContradiction; intro hn
        have := gm g1 ((mB g1).2 ⟨N1.mg, N1.eg, by omega⟩)
        have := N1.turn
        omega
      obtain ⟨g2, v2, N2⟩ := next_exists G nv N1.mg N1.eg
      have a2 := all g2 N2.mg N2.eg
      have id := cross_id4 h g1 g2 g0
      rw [z1, Int.zero_mul] at id
      have q1 := Int.mul_pos p0 N2.turn
      have q2 : cross h g2 * cross g1 g0 ≤ 0 := Int.mul_nonpos_of_nonneg_of_nonpos a2 (by rw [cross_anti]; have := N1.turn; omega)
      omega
  obtain ⟨e, he, em⟩ := last_angle (e := negH h) _ neA (fun f hf => by
    have := ((mA f).1 hf).2.2
    have id : cross (negH h) f = cross f h := by unfold cross negH; grind
    rw [id]; exact this)
  obtain ⟨m0, e0, p0⟩ := (mA e).1 he
  obtain ⟨g, v, N⟩ := next_exists G nv m0 e0
  refine ⟨e, g, v, m0, e0, N, p0, ?_⟩
  apply Classical.byContradiction; intro hn
  have := em g ((mA g).2 ⟨N.mg, N.eg, by rw [cross_anti]; omega⟩)
  have := N.turn
  omega
/-- A corner has the greatest value of a direction. -/
theorem value_max {L : List H3} (G : Good L) (nv : ¬ Void L) (ne : ∃ e ∈ L, Edge L e) {h : H3} (nh : NZ h) : ∃ e g v, e ∈ L ∧ Edge L e ∧ Next L e g v ∧ ∀ x, Inside L x → val h x ≤ val h v := by
  obtain ⟨e, g, v, he, ee, N, p, q⟩ := edges_cone_any G nv ne nh
  refine ⟨e, g, v, he, ee, N, fun x hx => ?_⟩
  have i1 := hx e he
  have i2 := hx g N.mg
  have o1 := N.oe
  have o2 := N.og
  have cq : (0 : Rat) < (cross e g : Rat) := by exact_mod_cast N.turn
  have pq : (0 : Rat) ≤ (cross e h : Rat) := by exact_mod_cast Int.le_of_lt p
  have qq : (0 : Rat) ≤ (cross h g : Rat) := by exact_mod_cast q
  have id : ∀ y : Pt, (cross e g : Rat) * val h y = (cross h g : Rat) * val e y + (cross e h : Rat) * val g y := fun y => by
    rw [crossQ, crossQ, crossQ]; unfold val; grind
  have d1 := id x
  have d2 := id v
  unfold In On at *
  have m1 := Rat.mul_le_mul_of_nonneg_left i1 qq
  have m2 := Rat.mul_le_mul_of_nonneg_left i2 pq
  rw [o1, o2] at d2
  apply Classical.byContradiction; intro hn
  have m4 := Rat.mul_pos cq (show (0 : Rat) < val h x - val h v by grind)
  grind
/-- The same among the corners of a region as they are reckoned. -/
theorem Reg.value_max {hs L : List H3} (R : Reg hs L) (ok : ∀ g ∈ hs, HOk g) (hne : hs ≠ []) {h : H3} (nh : NZ h) : ∃ s ∈ cornersL hs, 0 < s.c ∧ ∀ x, Inside L x → val h x ≤ val h (ptOf (s.a, s.b, s.c)) := by
  have mem : ∀ x, x ∈ hs ↔ x ∈ L ∧ Edge L x := fun x => by rw [← R.edges]; exact pick_mem R.good x
  obtain ⟨e0, he0⟩ := List.exists_mem_of_ne_nil hs hne
  have ne : ∃ e ∈ L, Edge L e := ⟨e0, (mem e0).1 he0⟩
  obtain ⟨e, g, v, he, ee, N, hmax⟩ := Go.Proofs.YtgdleimdenbnlaaGreat.value_max R.good R.full ne nh
  obtain ⟨k, hk, rfl⟩ := List.mem_iff_getElem.1 ((mem e).2 ⟨he, ee⟩)
  obtain ⟨i, hi, rfl⟩ := List.mem_iff_getElem.1 ((mem g).2 ⟨N.mg, N.eg⟩)
  have hs0 : Sorted hs := by rw [← R.edges]; exact pick_sorted R.good
  have ei := next_index hs0 R.nz hk hi N.turn fun f hf c1 c2 => next_none R.good N he ((mem f).1 hf).1 c1 c2 ((mem f).1 hf).2
  subst ei
  obtain ⟨hj, w, a, b, c, w0, ec, eh, c0, _⟩ := R.corner_ok ok hk
  have n0 : cross hs[k] hs[(k + 1) % hs.length] ≠ 0 := by have := N.turn; omega
  have nk := R.nz _ (List.getElem_mem hk)
  obtain ⟨p1, p2⟩ := cross_on n0
  have ev : ptOf (crossI hs[k] hs[(k + 1) % hs.length]) = v := pt_eq nk (by have o1 := N.oe; unfold On at p1 o1; rw [p1, o1]) (by rw [p2]; exact ((crossT_on nk n0 N.oe).1 N.og).symm)
  have es : ptOf (a, b, c) = v := by
    rw [← ev, ec]
    have wq : (w : Rat) ≠ 0 := by
      have : (0 : Rat) < (w : Rat) := by exact_mod_cast w0
      grind
    have cq : (c : Rat) ≠ 0 := by
      have : (0 : Rat) < (c : Rat) := by exact_mod_cast c0
      grind
    unfold ptOf
    push_cast
    congr 1 <;> grind
  refine ⟨⟨a, b, c⟩, ?_, c0, fun x hx => by rw [es]; exact hmax x hx⟩
  rw [← eh]
  unfold cornersL
  exact List.mem_map.2 ⟨k, List.mem_range.2 hk, rfl⟩
theorem farN_max {l : List (Int × Int)} (h : ∀ x ∈ l, FrOk x) : ∀ k, k ≤ l.length → ∀ x ∈ l.take k, cmpF x.1 x.2 (farN (l.take k)).1 (farN (l.take k)).2 ≤ 0 := by
  intro k
  induction k with
  | zero => intro _ x hx; simp at hx
  | succ k ih =>
    intro hk x hx
    have hlt : k < l.length := by omega
    have ht : ∀ x ∈ l.take k, FrOk x := fun x hx => h x (List.mem_of_mem_take hx)
    rw [List.take_succ_eq_append_getElem hlt] at hx ⊢
    have hs := (farN_snoc (x := l[k]) ht).1
    rw [hs]
    have pos : ∀ y, FrOk y → 0 < y.2 := fun y hy => by have := hy.2.1; omega
    have px := pos _ (h _ (List.getElem_mem hlt))
    rcases farN_ok ht with ⟨h0, e0, _⟩ | ⟨f, _, _, _⟩
    · have : farGo (l.take k) l[k] = true := by unfold farGo; rw [e0]; simp
      rw [if_pos this]
      rw [h0] at hx
      simp at hx
      subst hx
      simp [cmpF]
    · have pn := pos _ f
      by_cases hg : farGo (l.take k) l[k] = true
      · rw [if_pos hg]
        have hgt : 0 < cmpF l[k].1 l[k].2 (farN (l.take k)).1 (farN (l.take k)).2 := by
          unfold farGo at hg
          simp only [Bool.or_eq_true, decide_eq_true_eq] at hg
          omega
        rcases List.mem_append.1 hx with hx | hx
        · have h1 := ih (by omega) x hx
          have qx := pos _ (ht x hx)
          have l1 := (cmpF_pos (m := l[k]) (n := farN (l.take k)) px pn).1 hgt
          apply Classical.byContradiction; intro hn
          have l2 := (cmpF_pos (m := x) (n := l[k]) qx px).1 (by omega)
          have l3 : ¬ 0 < cmpF x.1 x.2 (farN (l.take k)).1 (farN (l.take k)).2 := by omega
          exact l3 ((cmpF_pos (m := x) (n := farN (l.take k)) qx pn).2 (by grind))
        · rw [List.mem_singleton.1 hx]; simp [cmpF]
      · rw [if_neg hg]
        rcases List.mem_append.1 hx with hx | hx
        · exact ih (by omega) x hx
        · rw [List.mem_singleton.1 hx]
          unfold farGo at hg
          simp only [Bool.or_eq_true, decide_eq_true_eq, not_or] at hg
          omega
/-- No point of a region has more than its support. -/
theorem sup_ge {ws : List H3} {a b p q : Int} (kw : regionOk ws = true) (hw : ws ≠ []) (ha : -50000 ≤ a ∧ a ≤ 50000) (hb : -50000 ≤ b ∧ b ≤ 50000) (hz : a ≠ 0 ∨ b ≠ 0) (h : supN a b ws = (p, q)) {x : Pt} (hx : Inside (sorted4 ws) x) (c : Int) (hc : val ⟨a, b, c⟩ x = (c : Rat)) : c * q ≤ p := by
  obtain ⟨G, hm, _⟩ := regionOk_parts kw hw
  obtain ⟨s, hs, c0, hmax⟩ := (reg_of G hm hw).value_max G hw (h := ⟨a, b, c⟩) hz
  have hv := hmax x hx
  have fo := valsL_ok ha hb kw
  have hin : valS a b s ∈ valsL a b ws := List.mem_map.2 ⟨s, hs, rfl⟩
  have hfm := farN_max fo _ (Nat.le_refl _) (valS a b s) (by rw [List.take_length]; exact hin)
  rw [List.take_length] at hfm
  have f1 := (sup_parts ha hb kw hw).1
  have f2 := fo _ hin
  obtain ⟨g, g0, e1, e2, q0, _⟩ := ratOf_fr f1
  have h' := h
  unfold supN at h'
  rw [h'] at e1 e2 q0
  simp only at e1 e2 q0
  have gq : (0 : Int) < (g : Int) := by omega
  have pos2 : 0 < (farN (valsL a b ws)).2 := by have := f1.2.1; omega
  have hle : (valS a b s).1 * (farN (valsL a b ws)).2 ≤ (farN (valsL a b ws)).1 * (valS a b s).2 := by
    unfold cmpF at hfm
    split at hfm
    · omega
    · split at hfm
      · omega
      · omega
  have hval : (c : Rat) ≤ val ⟨a, b, c⟩ (ptOf (s.a, s.b, s.c)) := by rw [← hc]; exact hv
  have hint : c * s.c ≤ a * s.a + b * s.b := by
    have cq : (0 : Rat) < (s.c : Rat) := by exact_mod_cast c0
    have e : val ⟨a, b, c⟩ (ptOf (s.a, s.b, s.c)) * (s.c : Rat) = (a : Rat) * s.a + (b : Rat) * s.b := by
      unfold val ptOf
      simp only
      grind
    have : (c : Rat) * s.c ≤ (a : Rat) * s.a + (b : Rat) * s.b := by
      rw [← e]
      exact Rat.mul_le_mul_of_nonneg_right hval (by grind)
    exact_mod_cast this
  have v1 : (valS a b s).1 = a * s.a + b * s.b := rfl
  have v2 : (valS a b s).2 = s.c := rfl
  rw [v1, v2, e1, e2] at hle
  -- c * s.c * (q g) ≤ (a s.a + b s.b) (q g) ≤ p g s.c
  have m1 : c * s.c * (q * g) ≤ (a * s.a + b * s.b) * (q * g) := Int.mul_le_mul_of_nonneg_right hint (Int.le_of_lt (Int.mul_pos q0 gq))
  have m2 : c * s.c * (q * g) ≤ p * g * s.c := Int.le_trans m1 hle
  have e3 : c * s.c * (q * g) = c * q * (s.c * g) := by grind
  have e4 : p * g * s.c = p * (s.c * g) := by grind
  rw [e3, e4] at m2
  exact Int.le_of_mul_le_mul_right m2 (Int.mul_pos c0 gq)
/-- An edge of a met region: the first region's support in its direction is at least its bound. -/
theorem meet_sup {ps qs : List H3} {h : H3} {p q : Int} (kp : regionOk ps = true) (hp : ps ≠ []) (okq : ∀ g ∈ qs, HOk g) (hh : h ∈ makeR (ps ++ qs)) (hs : supN h.a h.b ps = (p, q)) : h.c * q ≤ p := by
  obtain ⟨G, hm, _⟩ := regionOk_parts kp hp
  have okA : ∀ g ∈ ps ++ qs, HOk g := fun g hg => (List.mem_append.1 hg).elim (G g) (okq g)
  have GL := good_sorted okA
  have hne : makeE (sorted4 (ps ++ qs)) ≠ [] := fun e => by
    have : h ∈ makeE (sorted4 (ps ++ qs)) := hh
    rw [e] at this; cases this
  have hpk : h ∈ pickE (sorted4 (ps ++ qs)) (sorted4 (ps ++ qs)).length := by rw [← makeE_some hne]; exact hh
  obtain ⟨hm2, ed⟩ := (pick_mem GL h).1 hpk
  obtain ⟨x, _, ox, _, _, ix, _⟩ := ed
  have kh := GL.ok h hm2
  have ixp : Inside (sorted4 ps) x := (inside_sorted G).2 (fun g hg => (inside_sorted okA).1 ix g (by
    rcases List.mem_append.1 hg with hg | hg
    · exact List.mem_append.2 (.inl (List.mem_append.2 (.inl hg)))
    · exact List.mem_append.2 (.inr hg)))
  exact sup_ge kp hp kh.ba kh.bb kh.nz hs ixp h.c ox
end Go.Proofs.YtgdleimdenbnlaaGreat
