/- Several texts in one: Zb, Zc. Each says its own conditions. -/
import Derived.Test.YtabmfaamadbefaaGreatZa
import Derived.Test.YtabmfaamadbefaaGreatFi
import Derived.Test.YtabmfaamadbefaaGreatCu
import Derived.Test.YtabmfaamadbefaaGreatSf
import Derived.Test.YtabmfaamadbefaaGreatPb
/- Plain: what meets, cuts, mirrored, shifted, pulled back, eroded and grown regions are as sets of points. No program. -/
set_option linter.unusedSimpArgs false
set_option linter.unusedVariables false
set_option linter.unusedSectionVars false
namespace Go.Proofs.YtabmfaamadbefaaGreat
open Go.RowKit
theorem set_meetR {hs o : List H3} (ok : ∀ g ∈ hs, HOk g) (h : meetR hs = (o, true)) {x : Pt} : setR o x ↔ regP (Inside (hs ++ frameH)) x := by
  rw [meetR_makeR ok] at h
  split at h
  · injection h with _ q; cases q
  · injection h with q _
    rw [← q]
    exact set_made ok
theorem inside_app {l m : List H3} {x : Pt} : Inside (l ++ m) x ↔ Inside l x ∧ Inside m x := by
  constructor
  · intro h
    exact ⟨fun g hg => h g (List.mem_append_left _ hg), fun g hg => h g (List.mem_append_right _ hg)⟩
  · rintro ⟨h1, h2⟩ g hg
    rcases List.mem_append.1 hg with q | q
    · exact h1 g q
    · exact h2 g q
/-- Half planes that are moved: the points of the frame in the moved ones. -/
theorem set_moved {F : H3 → H3 × Bool} {ps o : List H3} (h : movedF F ps = (o, true)) (hF : ∀ g ∈ ps, (F g).2 = true → HOk (F g).1) {A : Pt → Prop} (h0 : ps = [] → ∀ x, ¬ A x) (hA : ps ≠ [] → (∀ g ∈ ps, (F g).2 = true) → ∀ x, Inside frameH x → ((∀ g ∈ ps, In (F g).1 x) ↔ A x)) {x : Pt} : setR o x ↔ regP (fun x => Inside frameH x ∧ A x) x := by
  unfold movedF at h
  split at h
  · rename_i hn
    injection h with q _
    rw [← q]
    exact ⟨fun h => absurd h set_void, fun h => absurd h.2.2 (h0 hn x)⟩
  · rename_i hn
    split at h
    · rename_i hall
      simp only [List.all_eq_true] at hall
      rw [set_meetR (fun g hg => by
        obtain ⟨g0, hg0, rfl⟩ := List.mem_map.1 hg
        exact hF g0 hg0 (hall g0 hg0)) h]
      refine regP_congr fun y => ?_
      rw [inside_app]
      constructor
      · rintro ⟨h1, h2⟩
        exact ⟨h2, (hA hn hall y h2).1 fun g hg => h1 _ (List.mem_map.2 ⟨g, hg, rfl⟩)⟩
      · rintro ⟨h1, h2⟩
        refine ⟨fun g hg => ?_, h1⟩
        obtain ⟨g0, hg0, rfl⟩ := List.mem_map.1 hg
        exact (hA hn hall y h1).2 h2 g0 hg0
    · injection h with _ q; cases q
theorem set_meet {p q m : List H3} (h : meetQ p q = (m, true)) {x : Pt} : setR m x ↔ regP (fun x => setR p x ∧ setR q x) x := by
  unfold meetQ at h
  split at h
  · rename_i hc
    obtain ⟨kp, kq, hl⟩ := hc
    split at h
    · rename_i hv
      injection h with e _
      rw [← e]
      refine ⟨fun h => absurd h set_void, fun h => ?_⟩
      rcases hv with rfl | rfl
      · exact absurd h.2.1 set_void
      · exact absurd h.2.2 set_void
    · rename_i hv
      injection h with e _
      have hp : p ≠ [] := fun q => hv (.inl q)
      have hq : q ≠ [] := fun e => hv (.inr e)
      have okp := (region_good kp).1
      have okq := (region_good kq).1
      rw [← e, set_made (fun g hg => by
        rcases List.mem_append.1 hg with q | q
        · exact okp g q
        · exact okq g q)]
      refine regP_congr fun y => ?_
      rw [set_reg kp hp, set_reg kq hq, inside_app, inside_app, inside_app, inside_app]
      exact ⟨fun ⟨⟨a, b⟩, c⟩ => ⟨⟨a, c⟩, b, c⟩, fun ⟨⟨a, c⟩, b, _⟩ => ⟨⟨a, b⟩, c⟩⟩
  · injection h with _ q; cases q
theorem inside_one {h : H3} {x : Pt} : Inside [h] x ↔ In h x := by
  constructor
  · intro k; exact k h List.mem_cons_self
  · intro k g hg
    rw [List.mem_singleton.1 hg]; exact k
theorem set_cut {p c : List H3} {h : H3} (e : cutR p h = (c, true)) {x : Pt} : setR c x ↔ regP (fun x => setR p x ∧ In h x) x := by
  unfold cutR at e
  split at e
  · rename_i hc
    obtain ⟨kh, kp, hl⟩ := hc
    have kh := (halfOk_iff h).1 kh
    split at e
    · rename_i hv
      injection e with e _
      subst hv
      rw [← e]
      exact ⟨fun h => absurd h set_void, fun h => absurd h.2.1 set_void⟩
    · rename_i hp
      injection e with e _
      have okp := (region_good kp).1
      rw [← e, set_made (fun g hg => by
        rcases List.mem_append.1 hg with q | q
        · exact okp g q
        · rw [List.mem_singleton.1 q]; exact kh)]
      refine regP_congr fun y => ?_
      rw [set_reg kp hp, inside_app, inside_app, inside_app, inside_one]
      exact ⟨fun ⟨⟨a, b⟩, c⟩ => ⟨⟨a, c⟩, b⟩, fun ⟨⟨a, c⟩, b⟩ => ⟨⟨a, b⟩, c⟩⟩
  · injection e with _ q; cases q
theorem cutR_ok {p c : List H3} {h : H3} (e : cutR p h = (c, true)) : regionOk c = true := by
  unfold cutR at e
  split at e
  · rename_i hc
    obtain ⟨kh, kp, hl⟩ := hc
    have kh := (halfOk_iff h).1 kh
    split at e
    · injection e with e _
      rw [← e]; rfl
    · rename_i hp
      injection e with e _
      obtain ⟨okp, hm, _⟩ := regionOk_parts kp hp
      have okr : ∀ g ∈ p ++ [h], HOk g := fun g hg => by
        rcases List.mem_append.1 hg with q | q
        · exact okp g q
        · rw [List.mem_singleton.1 q]; exact kh
      refine meetR_ok okr (hs := p ++ [h]) ?_
      have := meet_few okp (rest := [h]) (fun g hg => by rw [List.mem_singleton.1 hg]; exact kh) hm hp
      rw [meetR_makeR okr, if_neg (by simp at this; omega), e]
  · injection e with _ q; cases q
def addP (x t : Pt) : Pt := ⟨x.x + t.x, x.y + t.y⟩
def negP (x : Pt) : Pt := ⟨-x.x, -x.y⟩
def linP (a b e f q : Int) (x : Pt) : Pt := ⟨((a : Rat) * x.x + (b : Rat) * x.y) / (q : Rat), ((e : Rat) * x.x + (f : Rat) * x.y) / (q : Rat)⟩
theorem val_addP (h : H3) (x t : Pt) : val h (addP x t) = val h x + val h t := by unfold val addP; grind
theorem val_abc (a b c c' : Int) (x : Pt) : val ⟨a, b, c⟩ x = val ⟨a, b, c'⟩ x := rfl
/-- What HalfOf makes holds where the given half plane holds. -/
theorem half_in {a b c : Int} {g : H3} (h : halfOf a b c = (g, true)) {x : Pt} : In g x ↔ (a : Rat) * x.x + (b : Rat) * x.y ≤ (c : Rat) := by
  obtain ⟨k, k0, ea, eb, ec⟩ := half_scale h
  have kq : (0 : Rat) < (k : Rat) := by exact_mod_cast k0
  have qa : (a : Rat) = (g.a : Rat) * (k : Rat) := by exact_mod_cast ea
  have qb : (b : Rat) = (g.b : Rat) * (k : Rat) := by exact_mod_cast eb
  have qc : (c : Rat) = (g.c : Rat) * (k : Rat) := by exact_mod_cast ec
  unfold In val
  rw [qa, qb, qc]
  have e : (g.a : Rat) * k * x.x + (g.b : Rat) * k * x.y = ((g.a : Rat) * x.x + (g.b : Rat) * x.y) * k := by grind
  rw [e]
  constructor
  · intro h
    exact Rat.mul_le_mul_of_nonneg_right h (by grind)
  · intro h
    apply Classical.byContradiction; intro hn
    have := Rat.mul_pos (show (0 : Rat) < ((g.a : Rat) * x.x + (g.b : Rat) * x.y) - (g.c : Rat) by grind) kq
    grind
theorem half_in' {a b c : Int} (h : (halfOf a b c).2 = true) {x : Pt} : In (halfOf a b c).1 x ↔ (a : Rat) * x.x + (b : Rat) * x.y ≤ (c : Rat) := half_in (g := (halfOf a b c).1) (Prod.ext rfl h)
theorem set_mirror {p o : List H3} (h : mirrorR p = (o, true)) {x : Pt} : setR o x ↔ setR p (negP x) := by
  unfold mirrorR at h
  split at h
  · rename_i kp
    unfold movedM at h
    split at h
    · rename_i hn
      injection h with q _
      rw [← q, hn]
      exact ⟨fun h => absurd h set_void, fun h => absurd h set_void⟩
    · rename_i hn
      have ok := (region_good kp).1
      have hx : ∀ y, Inside (p.map mirH ++ frameH) y ↔ setR p (negP y) := fun y => by
        rw [set_reg kp hn, inside_app, inside_app]
        have e1 : Inside (p.map mirH) y ↔ Inside p (negP y) := by
          constructor
          · intro h g hg
            have := h (mirH g) (List.mem_map.2 ⟨g, hg, rfl⟩)
            unfold In val mirH at this
            unfold In val negP
            simp only at this ⊢
            push_cast at this
            grind
          · intro h g hg
            obtain ⟨g0, hg0, rfl⟩ := List.mem_map.1 hg
            have := h g0 hg0
            unfold In val mirH
            unfold In val negP at this
            simp only at this ⊢
            push_cast
            grind
        have e2 : Inside frameH y ↔ Inside frameH (negP y) := by
          constructor
          · intro h
            have := framed_pt h
            intro g hg
            simp only [frameH, List.mem_cons, List.not_mem_nil, or_false] at hg
            rcases hg with rfl | rfl | rfl | rfl <;> (unfold In val negP; simp only; push_cast; grind)
          · intro h
            have := framed_pt h
            unfold negP at this
            simp only at this
            intro g hg
            simp only [frameH, List.mem_cons, List.not_mem_nil, or_false] at hg
            rcases hg with rfl | rfl | rfl | rfl <;> (unfold In val; simp only; push_cast; grind)
        rw [e1, e2]
      rw [set_meetR (map_ok ok) h]
      constructor
      · intro h
        exact (hx x).1 h.2
      · intro hs
        refine ⟨?_, (hx x).2 hs⟩
        obtain ⟨z, r, r0, hr⟩ := set_fat kp hn
        refine ⟨negP z, r, r0, fun y hy => (hx y).2 (hr _ ?_)⟩
        unfold NbP negP at *
        simp only at *
        grind
  · injection h with _ q; cases q
theorem set_shift {p o : List H3} {dx dy : Int} (h : shiftR dx dy p = (o, true)) {x : Pt} : setR o x ↔ regP (fun x => Inside frameH x ∧ setR p (addP x ⟨-dx, -dy⟩)) x := by
  unfold shiftR at h
  split at h
  · rename_i hc
    have kp := hc.1
    refine set_moved h (fun g hg k => halfOf_ok (v := _) rfl k) (fun e x => by rw [e]; exact set_void) (fun hn hall y hy => ?_)
    have e1 : ∀ g ∈ p, In (shiftF dx dy g).1 y ↔ In g (addP y ⟨-dx, -dy⟩) := fun g hg => by
      have hk := hall g hg
      unfold shiftF at hk ⊢
      rw [half_in' hk]
      unfold In val addP
      simp only
      push_cast
      constructor <;> intro h <;> grind
    constructor
    · intro h
      exact ⟨hn, fun g hg => (e1 g hg).1 (h g hg)⟩
    · rintro ⟨_, h⟩ g hg
      exact (e1 g hg).2 (h g hg)
  · injection h with _ q; cases q
theorem set_pull {p o : List H3} {a b e f q : Int} (hq : 0 < q) (h : movedF (pullF a b e f q) p = (o, true)) {x : Pt} : setR o x ↔ regP (fun x => Inside frameH x ∧ setR p (linP a b e f q x)) x := by
  refine set_moved h (fun g hg k => by unfold pullF at k ⊢; exact halfOf_ok (v := _) rfl k) (fun e x => by rw [e]; exact set_void) (fun hn hall y hy => ?_)
  have qq : (0 : Rat) < (q : Rat) := by exact_mod_cast hq
  have e1 : ∀ g ∈ p, In (pullF a b e f q g).1 y ↔ In g (linP a b e f q y) := fun g hg => by
    have hk := hall g hg
    unfold pullF at hk ⊢
    rw [half_in' hk]
    have ev : val g (linP a b e f q y) * (q : Rat) = ((g.a * a + g.b * e : Int) : Rat) * y.x + ((g.a * b + g.b * f : Int) : Rat) * y.y := by
      unfold val linP
      simp only
      push_cast
      grind
    rw [← ev]
    unfold In
    push_cast
    constructor
    · intro h
      apply Classical.byContradiction; intro hn
      have := Rat.mul_pos (show (0 : Rat) < val g (linP a b e f q y) - (g.c : Rat) by grind) qq
      grind
    · intro h
      exact Rat.mul_le_mul_of_nonneg_right h (by grind)
  constructor
  · intro h
    exact ⟨hn, fun g hg => (e1 g hg).1 (h g hg)⟩
  · rintro ⟨_, h⟩ g hg
    exact (e1 g hg).2 (h g hg)
/-- The support of a region in a direction: no value is greater, and one point has it. -/
theorem sup_set {ws : List H3} {a b p q : Int} (kw : regionOk ws = true) (hw : ws ≠ []) (ha : -50000 ≤ a ∧ a ≤ 50000) (hb : -50000 ≤ b ∧ b ≤ 50000) (hz : a ≠ 0 ∨ b ≠ 0) (h : supN a b ws = (p, q)) : 0 < q ∧ (∀ x, setR ws x → val ⟨a, b, 0⟩ x * (q : Rat) ≤ (p : Rat)) ∧ ∃ x, setR ws x ∧ val ⟨a, b, 0⟩ x * (q : Rat) = (p : Rat) := by
  have hq := (sup_fr kw hw ha hb h).2.1.1
  have fo := valsL_ok ha hb kw
  obtain ⟨f1, _, _⟩ := sup_parts ha hb kw hw
  obtain ⟨g, g0, e1, e2, q0, _⟩ := ratOf_fr f1
  have h' := h
  unfold supN at h'
  rw [h'] at e1 e2 q0
  simp only at e1 e2 q0
  have gq : (0 : Rat) < (g : Rat) := by exact_mod_cast g0
  have qq : (0 : Rat) < (q : Rat) := by exact_mod_cast q0
  have vs : ∀ s : H3, 0 < s.c → val ⟨a, b, 0⟩ (ptOf (s.a, s.b, s.c)) * (s.c : Rat) = (a : Rat) * s.a + (b : Rat) * s.b := fun s c0 => by
    have cq : (0 : Rat) < (s.c : Rat) := by exact_mod_cast c0
    unfold val ptOf
    simp only
    grind
  refine ⟨by omega, fun x hx => ?_, ?_⟩
  · obtain ⟨s, hs, c0, hmax⟩ := corner_max kw hw (h := ⟨a, b, 0⟩) hz
    have hv := hmax x hx
    have hin : valS a b s ∈ valsL a b ws := List.mem_map.2 ⟨s, hs, rfl⟩
    have hfm := farN_max fo _ (Nat.le_refl _) (valS a b s) (by rw [List.take_length]; exact hin)
    rw [List.take_length] at hfm
    have hle : (valS a b s).1 * (farN (valsL a b ws)).2 ≤ (farN (valsL a b ws)).1 * (valS a b s).2 := by
      unfold cmpF at hfm
      split at hfm
      · omega
      · split at hfm
        · omega
        · omega
    have v1 : (valS a b s).1 = a * s.a + b * s.b := rfl
    have v2 : (valS a b s).2 = s.c := rfl
    rw [v1, v2, e1, e2] at hle
    have cq : (0 : Rat) < (s.c : Rat) := by exact_mod_cast c0
    have hleq : ((a : Rat) * s.a + (b : Rat) * s.b) * ((q : Rat) * (g : Rat)) ≤ (p : Rat) * (g : Rat) * (s.c : Rat) := by exact_mod_cast hle
    rw [← vs s c0] at hleq
    apply Classical.byContradiction; intro hn
    have m1 := Rat.mul_le_mul_of_nonneg_right (c := (q : Rat)) hv (by grind)
    have m2 := Rat.mul_pos (Rat.mul_pos gq cq) (show (0 : Rat) < val ⟨a, b, 0⟩ (ptOf (s.a, s.b, s.c)) * (q : Rat) - (p : Rat) by grind)
    grind
  · rcases farN_ok fo with ⟨h0, _⟩ | ⟨_, _, _, hm⟩
    · exfalso
      have := valsL_length a b ws
      rw [h0] at this
      exact hw (List.length_eq_zero_iff.1 this.symm)
    · obtain ⟨s, hs, ev⟩ := List.mem_map.1 hm
      obtain ⟨_, c0, i⟩ := corner_set kw hs
      refine ⟨_, i, ?_⟩
      have cq : (0 : Rat) < (s.c : Rat) := by exact_mod_cast c0
      have v1 : a * s.a + b * s.b = (farN (valsL a b ws)).1 := by rw [← ev]; rfl
      have v2 : s.c = (farN (valsL a b ws)).2 := by rw [← ev]; rfl
      rw [e1] at v1
      rw [e2] at v2
      have q1 : (a : Rat) * s.a + (b : Rat) * s.b = (p : Rat) * (g : Rat) := by exact_mod_cast v1
      have q2 : (s.c : Rat) = (q : Rat) * (g : Rat) := by exact_mod_cast v2
      have := vs s c0
      rw [q1, q2] at this
      have m : (val ⟨a, b, 0⟩ (ptOf (s.a, s.b, s.c)) * (q : Rat) - (p : Rat)) * (g : Rat) = 0 := by grind
      rcases Rat.mul_eq_zero.1 m with k | k
      · grind
      · grind
/-- An eroded half plane holds where the half plane holds after every step of the other region. -/
theorem er_in {ws : List H3} {g : H3} (kw : regionOk ws = true) (hw : ws ≠ []) (kg : HOk g) (h : (erF ws g).2 = true) {x : Pt} : In (erF ws g).1 x ↔ ∀ t, setR ws t → In g (addP x t) := by
  obtain ⟨⟨p, q⟩, hs⟩ : ∃ v, supN g.a g.b ws = v := ⟨_, rfl⟩
  obtain ⟨q0, hle, t0, ht0, hv0⟩ := sup_set kw hw kg.ba kg.bb kg.nz hs
  have qq : (0 : Rat) < (q : Rat) := by exact_mod_cast q0
  unfold erF at h ⊢
  rw [hs] at h ⊢
  simp only at h ⊢
  rw [half_in' h]
  have e : ((g.a * q : Int) : Rat) * x.x + ((g.b * q : Int) : Rat) * x.y = val g x * (q : Rat) := by unfold val; push_cast; grind
  rw [e]
  push_cast
  have ev : ∀ t : Pt, val g t = val ⟨g.a, g.b, 0⟩ t := fun t => rfl
  constructor
  · intro h1 t ht
    have h2 := hle t ht
    unfold In
    rw [val_addP, ev t]
    apply Classical.byContradiction; intro hn
    have := Rat.mul_pos (show (0 : Rat) < val g x + val ⟨g.a, g.b, 0⟩ t - (g.c : Rat) by grind) qq
    grind
  · intro h1
    have h2 := h1 t0 ht0
    unfold In at h2
    rw [val_addP, ev t0] at h2
    have := Rat.mul_le_mul_of_nonneg_right h2 (show (0 : Rat) ≤ (q : Rat) by grind)
    grind
theorem set_erode {ws ps e : List H3} (kw : regionOk ws = true) (hw : ws ≠ []) (kp : regionOk ps = true) (h : movedF (erF ws) ps = (e, true)) {x : Pt} : setR e x ↔ regP (fun x => Inside frameH x ∧ ∀ t, setR ws t → setR ps (addP x t)) x := by
  refine set_moved h (fun g hg k => erF_ok k) (fun e x hx => ?_) (fun hn hall y hy => ?_)
  · obtain ⟨t, ht⟩ := (set_fat kw hw).some
    rw [e] at hx
    exact set_void (hx t ht)
  · have ok := (region_good kp).1
    constructor
    · intro h t ht
      exact ⟨hn, fun g hg => (er_in kw hw (ok g hg) (hall g hg)).1 (h g hg) t ht⟩
    · intro h g hg
      exact (er_in kw hw (ok g hg) (hall g hg)).2 fun t ht => (h t ht).2 g hg
end Go.Proofs.YtabmfaamadbefaaGreat
/- Plain: a grown region is the set of the spots from which a step of the range leads into the region. No program. -/
set_option linter.unusedSimpArgs false
set_option linter.unusedVariables false
set_option linter.unusedSectionVars false
namespace Go.Proofs.YtabmfaamadbefaaGreat
open Go.RowKit
def movP (x : Pt) (u : Rat) (bx bY : Int) : Pt := ⟨x.x + u * (bx : Rat), x.y + u * (bY : Rat)⟩
theorem val_movP (h : H3) (x : Pt) (u : Rat) (bx bY : Int) : val h (movP x u bx bY) = val h x + u * ((h.a * bx + h.b * bY : Int) : Rat) := by
  unfold val movP; simp only; push_cast; grind
def combP (p q : Pt) (t : Rat) : Pt := ⟨q.x + t * (p.x - q.x), q.y + t * (p.y - q.y)⟩
theorem val_combP (h : H3) (p q : Pt) (t : Rat) : val h (combP p q t) = val h q + t * (val h p - val h q) := by unfold val combP; grind
theorem set_convex {ps : List H3} {p q : Pt} {t : Rat} (hp : setR ps p) (hq : setR ps q) (t0 : 0 ≤ t) (t1 : t ≤ 1) : setR ps (combP p q t) := by
  refine ⟨hp.1, fun g hg => ?_⟩
  have h1 := hp.2 g hg
  have h2 := hq.2 g hg
  unfold In at h1 h2 ⊢
  rw [val_combP]
  have m1 := Rat.mul_le_mul_of_nonneg_left h1 t0
  have m2 := Rat.mul_le_mul_of_nonneg_left h2 (show 0 ≤ 1 - t by grind)
  grind
theorem side_in {ps : List H3} {a b : Int} (kp : regionOk ps = true) (hne : ps ≠ []) (ha : -50000 ≤ a ∧ a ≤ 50000) (hb : -50000 ≤ b ∧ b ≤ 50000) (hz : a ≠ 0 ∨ b ≠ 0) (h : (sideF ps a b).2 = true) {y : Pt} : In (sideF ps a b).1 y ↔ ∃ x, setR ps x ∧ val ⟨a, b, 0⟩ y ≤ val ⟨a, b, 0⟩ x := by
  obtain ⟨⟨p, q⟩, hs⟩ : ∃ v, supN a b ps = v := ⟨_, rfl⟩
  obtain ⟨q0, hle, t0, ht0, hv0⟩ := sup_set kp hne ha hb hz hs
  have qq : (0 : Rat) < (q : Rat) := by exact_mod_cast q0
  unfold sideF at h ⊢
  rw [hs] at h ⊢
  simp only at h ⊢
  rw [half_in' h]
  have e : ((a * q : Int) : Rat) * y.x + ((b * q : Int) : Rat) * y.y = val ⟨a, b, 0⟩ y * (q : Rat) := by unfold val; push_cast; grind
  rw [e]
  constructor
  · intro h1
    refine ⟨t0, ht0, ?_⟩
    apply Classical.byContradiction; intro hn
    have := Rat.mul_pos (show (0 : Rat) < val ⟨a, b, 0⟩ y - val ⟨a, b, 0⟩ t0 by grind) qq
    grind
  · rintro ⟨x, hx, h1⟩
    have h2 := hle x hx
    have := Rat.mul_le_mul_of_nonneg_right h1 (show (0 : Rat) ≤ (q : Rat) by grind)
    grind
/-- A point between two points of a region, seen along a direction: a step along the direction leads into the region. -/
theorem ray_meets {ps : List H3} {a b bx bY : Int} {y P Q : Pt} (hP : setR ps P) (hQ : setR ps Q) (h1 : val ⟨a, b, 0⟩ y ≤ val ⟨a, b, 0⟩ P) (h2 : val ⟨a, b, 0⟩ Q ≤ val ⟨a, b, 0⟩ y) (ho : a * bx + b * bY = 0) (hz : a ≠ 0 ∨ b ≠ 0) (h0 : ¬ (bx = 0 ∧ bY = 0)) : ∃ u : Rat, setR ps (movP y u bx bY) := by
  have hZ : ∃ Z, setR ps Z ∧ val ⟨a, b, 0⟩ Z = val ⟨a, b, 0⟩ y := by
    by_cases e : val ⟨a, b, 0⟩ P = val ⟨a, b, 0⟩ Q
    · exact ⟨P, hP, by grind⟩
    · have d0 : 0 < val ⟨a, b, 0⟩ P - val ⟨a, b, 0⟩ Q := by grind
      obtain ⟨t, ht⟩ : ∃ t : Rat, t * (val ⟨a, b, 0⟩ P - val ⟨a, b, 0⟩ Q) = val ⟨a, b, 0⟩ y - val ⟨a, b, 0⟩ Q := ⟨(val ⟨a, b, 0⟩ y - val ⟨a, b, 0⟩ Q) / (val ⟨a, b, 0⟩ P - val ⟨a, b, 0⟩ Q), by grind⟩
      have t0 : 0 ≤ t := by
        apply Classical.byContradiction; intro hn
        have := Rat.mul_pos (show (0 : Rat) < -t by grind) d0
        grind
      have t1 : t ≤ 1 := by
        apply Classical.byContradiction; intro hn
        have := Rat.mul_pos (show (0 : Rat) < t - 1 by grind) d0
        grind
      exact ⟨combP P Q t, set_convex hP hQ t0 t1, by rw [val_combP, ht]; grind⟩
  obtain ⟨Z, hZ, eZ⟩ := hZ
  have oq : (a : Rat) * bx + (b : Rat) * bY = 0 := by exact_mod_cast ho
  have dz : (a : Rat) * (Z.x - y.x) + (b : Rat) * (Z.y - y.y) = 0 := by unfold val at eZ; simp only at eZ; grind
  have cz : (Z.x - y.x) * (bY : Rat) - (Z.y - y.y) * (bx : Rat) = 0 := by
    rcases hz with n | n
    · have nq : (a : Rat) ≠ 0 := by exact_mod_cast n
      have : (a : Rat) * ((Z.x - y.x) * (bY : Rat) - (Z.y - y.y) * (bx : Rat)) = 0 := by grind
      rcases Rat.mul_eq_zero.1 this with k | k
      · exact absurd k nq
      · exact k
    · have nq : (b : Rat) ≠ 0 := by exact_mod_cast n
      have : (b : Rat) * ((Z.x - y.x) * (bY : Rat) - (Z.y - y.y) * (bx : Rat)) = 0 := by grind
      rcases Rat.mul_eq_zero.1 this with k | k
      · exact absurd k nq
      · exact k
  by_cases hb : bx = 0
  · have hy : bY ≠ 0 := fun q => h0 ⟨hb, q⟩
    have yq : (bY : Rat) ≠ 0 := by exact_mod_cast hy
    have bq : (bx : Rat) = 0 := by rw [hb]; rfl
    obtain ⟨u, hu⟩ : ∃ u : Rat, u * (bY : Rat) = Z.y - y.y := ⟨(Z.y - y.y) / (bY : Rat), by grind⟩
    have zx : Z.x - y.x = 0 := by
      have : (Z.x - y.x) * (bY : Rat) = 0 := by rw [bq] at cz; grind
      rcases Rat.mul_eq_zero.1 this with k | k
      · exact k
      · exact absurd k yq
    have : movP y u bx bY = Z := by
      cases Z with | mk zx' zy' => ?_
      unfold movP
      rw [hu, bq]
      simp only at zx ⊢
      congr 1 <;> grind
    exact ⟨u, by rw [this]; exact hZ⟩
  · have xq : (bx : Rat) ≠ 0 := by exact_mod_cast hb
    obtain ⟨u, hu⟩ : ∃ u : Rat, u * (bx : Rat) = Z.x - y.x := ⟨(Z.x - y.x) / (bx : Rat), by grind⟩
    have zy : u * (bY : Rat) = Z.y - y.y := by
      have : (u * (bY : Rat) - (Z.y - y.y)) * (bx : Rat) = 0 := by grind
      rcases Rat.mul_eq_zero.1 this with k | k
      · grind
      · exact absurd k xq
    have : movP y u bx bY = Z := by
      cases Z with | mk zx' zy' => ?_
      unfold movP
      rw [hu, zy]
      simp only
      congr 1 <;> grind
    exact ⟨u, by rw [this]; exact hZ⟩
theorem grow_in {bx bY lo hi : Int} {g : H3} (h : (growF bx bY lo hi g).2 = true) {y : Pt} : In (growF bx bY lo hi g).1 y ↔ val g y ≤ (g.c : Rat) + ((max (-lo * (g.a * bx + g.b * bY)) (-hi * (g.a * bx + g.b * bY)) : Int) : Rat) := by
  unfold growF at h ⊢
  rw [half_in' h]
  unfold val
  push_cast
  exact Iff.rfl
theorem range_max {lo hi n : Int} {u : Rat} (h1 : (lo : Rat) ≤ u) (h2 : u ≤ (hi : Rat)) : -(u * (n : Rat)) ≤ ((max (-lo * n) (-hi * n) : Int) : Rat) := by
  rcases Int.lt_or_le n 0 with q | q
  · have q1 : (n : Rat) < 0 := by exact_mod_cast q
    have m := Rat.mul_le_mul_of_nonneg_right h2 (show (0 : Rat) ≤ -(n : Rat) by grind)
    have : ((-hi * n : Int) : Rat) ≤ ((max (-lo * n) (-hi * n) : Int) : Rat) := by exact_mod_cast Int.le_max_right _ _
    push_cast at this ⊢
    grind
  · have q1 : (0 : Rat) ≤ (n : Rat) := by exact_mod_cast q
    have m := Rat.mul_le_mul_of_nonneg_right h1 q1
    have : ((-lo * n : Int) : Rat) ≤ ((max (-lo * n) (-hi * n) : Int) : Rat) := by exact_mod_cast Int.le_max_left _ _
    push_cast at this ⊢
    grind
theorem max_lo {lo hi n : Int} (h : lo ≤ hi) (hn : 0 ≤ n) : max (-lo * n) (-hi * n) = -lo * n := by
  have := Int.mul_le_mul_of_nonneg_right (show -hi ≤ -lo by omega) hn
  omega
theorem max_hi {lo hi n : Int} (h : lo ≤ hi) (hn : n ≤ 0) : max (-lo * n) (-hi * n) = -hi * n := by
  have := Int.mul_le_mul_of_nonpos_right (show -hi ≤ -lo by omega) hn
  omega
/-- The step may be taken from the range. -/
theorem clamp_step {ps : List H3} {bx bY lo hi : Int} {y : Pt} {u0 : Rat} (hl : lo ≤ hi) (h0 : setR ps (movP y u0 bx bY)) (hg : ∀ g ∈ ps, val g y ≤ (g.c : Rat) + ((max (-lo * (g.a * bx + g.b * bY)) (-hi * (g.a * bx + g.b * bY)) : Int) : Rat)) : ∃ u : Rat, (lo : Rat) ≤ u ∧ u ≤ (hi : Rat) ∧ setR ps (movP y u bx bY) := by
  have lq : (lo : Rat) ≤ (hi : Rat) := by exact_mod_cast hl
  by_cases c1 : u0 < (lo : Rat)
  · refine ⟨lo, by grind, lq, h0.1, fun g hg' => ?_⟩
    have k1 := hg g hg'
    have k2 := h0.2 g hg'
    unfold In at k2 ⊢
    rw [val_movP] at k2 ⊢
    generalize g.a * bx + g.b * bY = n at *
    rcases Int.lt_or_le n 0 with q | q
    · have q1 : (n : Rat) < 0 := by exact_mod_cast q
      have m := Rat.mul_le_mul_of_nonneg_right (show u0 ≤ (lo : Rat) by grind) (show (0 : Rat) ≤ -(n : Rat) by grind)
      grind
    · rw [max_lo hl q] at k1
      push_cast at k1
      grind
  · by_cases c2 : (hi : Rat) < u0
    · refine ⟨hi, lq, by grind, h0.1, fun g hg' => ?_⟩
      have k1 := hg g hg'
      have k2 := h0.2 g hg'
      unfold In at k2 ⊢
      rw [val_movP] at k2 ⊢
      generalize g.a * bx + g.b * bY = n at *
      rcases Int.lt_or_le 0 n with q | q
      · have q1 : (0 : Rat) < (n : Rat) := by exact_mod_cast q
        have m := Rat.mul_le_mul_of_nonneg_right (show (hi : Rat) ≤ u0 by grind) (show (0 : Rat) ≤ (n : Rat) by grind)
        grind
      · rw [max_hi hl q] at k1
        push_cast at k1
        grind
    · exact ⟨u0, by grind, by grind, h0⟩
theorem dir_small {bx bY : Int} (h1 : -100 ≤ bx ∧ bx ≤ 100) (h2 : -100 ≤ bY ∧ bY ≤ 100) (h0 : ¬ (bx = 0 ∧ bY = 0)) : (-50000 ≤ dirA bx bY ∧ dirA bx bY ≤ 50000) ∧ (-50000 ≤ dirB bx bY ∧ dirB bx bY ≤ 50000) := by
  have := dir_bd h1 h2 h0
  omega
theorem set_grow {ps o : List H3} {bx bY lo hi : Int} (kp : regionOk ps = true) (b1 : -100 ≤ bx ∧ bx ≤ 100) (b2 : -100 ≤ bY ∧ bY ≤ 100) (hl : lo ≤ hi) (h : growM ps bx bY lo hi = (o, true)) {x : Pt} : setR o x ↔ regP (fun x => Inside frameH x ∧ ∃ u : Rat, (lo : Rat) ≤ u ∧ u ≤ (hi : Rat) ∧ setR ps (movP x u bx bY)) x := by
  have lq : (lo : Rat) ≤ (hi : Rat) := by exact_mod_cast hl
  unfold growM at h
  split at h
  · rename_i hc
    injection h with q _
    rw [← q]
    rcases hc with hn | ⟨rfl, rfl⟩
    · rw [hn]
      exact ⟨fun h => absurd h set_void, fun h => by obtain ⟨u, _, _, hu⟩ := h.2.2; exact absurd hu set_void⟩
    · rw [← set_regP kp]
      refine regP_congr fun y => ?_
      have e : ∀ u : Rat, movP y u 0 0 = y := fun u => by
        cases y with | mk y1 y2 => ?_
        unfold movP
        simp only
        congr 1 <;> grind
      constructor
      · intro hy
        exact ⟨set_frame kp hy, lo, by grind, lq, by rw [e]; exact hy⟩
      · rintro ⟨_, u, _, _, hu⟩
        rw [e] at hu
        exact hu
  · rename_i hc
    have hne : ps ≠ [] := fun q => hc (.inl q)
    have h0 : ¬ (bx = 0 ∧ bY = 0) := fun q => hc (.inr q)
    split at h
    · rename_i hk
      obtain ⟨s1, s2, hall⟩ := hk
      simp only [List.all_eq_true] at hall
      obtain ⟨dA, dB⟩ := dir_small b1 b2 h0
      obtain ⟨ort, dz⟩ := dir_ortho h0
      rw [set_meetR (fun g hg => by
        rcases List.mem_cons.1 hg with rfl | hg
        · exact sideF_ok s1
        rcases List.mem_cons.1 hg with rfl | hg
        · exact sideF_ok s2
        obtain ⟨g0, hg0, rfl⟩ := List.mem_map.1 hg
        exact growF_ok (hall g0 hg0)) h]
      refine regP_congr fun y => ?_
      rw [inside_app]
      constructor
      · rintro ⟨h1, h2⟩
        refine ⟨h2, ?_⟩
        obtain ⟨P, hP, vP⟩ := (side_in kp hne dA dB dz s1).1 (h1 _ List.mem_cons_self)
        obtain ⟨Q, hQ, vQ⟩ := (side_in kp hne (by omega) (by omega) (by omega) s2).1 (h1 _ (List.mem_cons_of_mem _ List.mem_cons_self))
        have ev : ∀ z : Pt, val ⟨-dirA bx bY, -dirB bx bY, 0⟩ z = -val ⟨dirA bx bY, dirB bx bY, 0⟩ z := fun z => by unfold val; push_cast; grind
        rw [ev, ev] at vQ
        obtain ⟨u0, hu0⟩ := ray_meets hP hQ vP (by grind) ort dz h0
        exact clamp_step hl hu0 fun g hg => (grow_in (hall g hg)).1 (h1 _ (List.mem_cons_of_mem _ (List.mem_cons_of_mem _ (List.mem_map.2 ⟨g, hg, rfl⟩))))
      · rintro ⟨h2, u, u1, u2, hu⟩
        refine ⟨fun g hg => ?_, h2⟩
        rcases List.mem_cons.1 hg with rfl | hg
        · refine (side_in kp hne dA dB dz s1).2 ⟨_, hu, ?_⟩
          rw [val_movP]
          simp only
          rw [ort]
          grind
        rcases List.mem_cons.1 hg with rfl | hg
        · refine (side_in kp hne (by omega) (by omega) (by omega) s2).2 ⟨_, hu, ?_⟩
          rw [val_movP]
          simp only
          have : -dirA bx bY * bx + -dirB bx bY * bY = 0 := by rw [Int.neg_mul, Int.neg_mul]; omega
          rw [this]
          grind
        obtain ⟨g0, hg0, rfl⟩ := List.mem_map.1 hg
        refine (grow_in (hall g0 hg0)).2 ?_
        have k := hu.2 g0 hg0
        unfold In at k
        rw [val_movP] at k
        have := range_max (n := g0.a * bx + g0.b * bY) u1 u2
        grind
    · injection h with _ q; cases q
end Go.Proofs.YtabmfaamadbefaaGreat