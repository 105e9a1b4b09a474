/- Several texts in one: Fg, Mq, Fi. Each says its own conditions. -/
import Derived.Test.YtabmfaamadbefaaGreatHsp
import Derived.Test.YtabmfaamadbefaaGreatGp
import Derived.Test.YtabmfaamadbefaaGreatCu
/- Plain: what FnGrown says of a grown region. No program. -/
set_option linter.unusedSimpArgs false
set_option linter.unusedVariables false
set_option linter.unusedSectionVars false
namespace Go.Proofs.YtabmfaamadbefaaGreat
open Go.RowKit
theorem between {t u lo hi : Int} (h1 : lo ≤ u) (h2 : u ≤ hi) : -(u * t) ≤ max (-lo * t) (-hi * t) := by
  rcases Int.lt_or_le t 0 with q | q
  · have := Int.mul_le_mul_of_nonpos_right (a := u) (b := hi) (c := t)
    have e : hi * t ≤ u * t := Int.mul_le_mul_of_nonpos_right h2 (by omega)
    have e2 : -hi * t = -(hi * t) := by rw [Int.neg_mul]
    omega
  · have e : lo * t ≤ u * t := Int.mul_le_mul_of_nonneg_right h1 q
    have e2 : -lo * t = -(lo * t) := by rw [Int.neg_mul]
    omega
/-- A half plane grown along a direction holds at a spot that a step of the range takes into the half plane. -/
theorem grow_side {bx bY lo hi x y u : Int} {g g' : H3} (hg : growF bx bY lo hi g = (g', true)) (h1 : lo ≤ u) (h2 : u ≤ hi) (hs : sideI g ⟨x + u * bx, y + u * bY, 1⟩ ≤ 0) : sideI g' ⟨x, y, 1⟩ ≤ 0 := by
  unfold growF at hg
  obtain ⟨k, k0, ea, eb, ec⟩ := half_scale hg
  have hb := between (t := g.a * bx + g.b * bY) h1 h2
  rw [← scale_le (n := sideI g' ⟨x, y, 1⟩) k0]
  unfold sideI at hs ⊢
  simp only at hs ⊢
  have l : (g'.a * x + g'.b * y - g'.c * 1) * (k : Int) = (g'.a * k) * x + (g'.b * k) * y - g'.c * k := by grind
  rw [l, ← ea, ← eb, ← ec]
  have r : g.a * (x + u * bx) + g.b * (y + u * bY) = g.a * x + g.b * y + u * (g.a * bx + g.b * bY) := by grind
  rw [r] at hs
  omega
/-- A side of the strip along the direction holds at every spot from which a step leads into the region. -/
theorem strip_side {ps : List H3} {a b bx bY x y u : Int} {g' : H3} (kp : regionOk ps = true) (hne : ps ≠ []) (ha : -50000 ≤ a ∧ a ≤ 50000) (hb : -50000 ≤ b ∧ b ≤ 50000) (hz : a ≠ 0 ∨ b ≠ 0) (ho : a * bx + b * bY = 0) (hg : sideF ps a b = (g', true)) (hin : ∀ h ∈ ps ++ frameH, sideI h ⟨x + u * bx, y + u * bY, 1⟩ ≤ 0) : sideI g' ⟨x, y, 1⟩ ≤ 0 := by
  obtain ⟨G, hm, _⟩ := regionOk_parts kp hne
  obtain ⟨⟨p, q⟩, hs⟩ : ∃ v, supN a b ps = v := ⟨_, rfl⟩
  have hx : Inside (sorted4 ps) (ptOf (x + u * bx, y + u * bY, 1)) := by
    rw [inside_sorted G]
    exact fun h hh => (in_side (s := ⟨x + u * bx, y + u * bY, 1⟩) (by simp)).2 (hin h hh)
  have hv : val ⟨a, b, a * x + b * y⟩ (ptOf (x + u * bx, y + u * bY, 1)) = ((a * x + b * y : Int) : Rat) := by
    have e : a * (x + u * bx) + b * (y + u * bY) = a * x + b * y := by
      have : a * (x + u * bx) + b * (y + u * bY) = a * x + b * y + u * (a * bx + b * bY) := by grind
      rw [this, ho]; omega
    unfold val ptOf
    simp only
    rw [← e]
    push_cast
    grind
  have hge := sup_ge kp hne ha hb hz hs hx (a * x + b * y) hv
  unfold sideF at hg
  rw [hs] at hg
  simp only at hg
  obtain ⟨k, k0, ea, eb, ec⟩ := half_scale hg
  rw [← scale_le (n := sideI g' ⟨x, y, 1⟩) k0]
  unfold sideI
  simp only
  have l : (g'.a * x + g'.b * y - g'.c * 1) * (k : Int) = (g'.a * k) * x + (g'.b * k) * y - g'.c * k := by grind
  rw [l, ← ea, ← eb, ← ec]
  have r : a * q * x + b * q * y = (a * x + b * y) * q := by grind
  rw [r]
  omega
theorem dir_ortho {bx bY : Int} (h0 : ¬ (bx = 0 ∧ bY = 0)) : dirA bx bY * bx + dirB bx bY * bY = 0 ∧ (dirA bx bY ≠ 0 ∨ dirB bx bY ≠ 0) := by
  have e : gcdL [bx, bY] = Nat.gcd bx.natAbs bY.natAbs := by simp [gcdL]
  have g0 : 0 < gcdL [bx, bY] := by
    rw [e]
    rcases Nat.eq_zero_or_pos (Nat.gcd bx.natAbs bY.natAbs) with q | q
    · have := Nat.gcd_eq_zero_iff.1 q
      omega
    · exact q
  obtain ⟨m, hm⟩ : ((gcdL [bx, bY] : Nat) : Int) ∣ bx := by rw [e]; exact Int.ofNat_dvd_left.2 (Nat.gcd_dvd_left _ _)
  obtain ⟨n, hn⟩ : ((gcdL [bx, bY] : Nat) : Int) ∣ bY := by rw [e]; exact Int.ofNat_dvd_left.2 (Nat.gcd_dvd_right _ _)
  have ea : dirA bx bY = -n := by
    unfold dirA
    generalize gcdL [bx, bY] = g at *
    rw [hn, ← Int.mul_neg]
    exact Int.mul_ediv_cancel_left _ (by omega)
  have eb : dirB bx bY = m := by
    unfold dirB
    generalize gcdL [bx, bY] = g at *
    conv => lhs; rw [hm]
    exact Int.mul_ediv_cancel_left _ (by omega)
  rw [ea, eb]
  constructor
  · have : -n * bx + m * bY = -n * (((gcdL [bx, bY] : Nat) : Int) * m) + m * (((gcdL [bx, bY] : Nat) : Int) * n) := by rw [← hm, ← hn]
    rw [this]; grind
  · by_cases q : n = 0
    · right
      rintro rfl
      apply h0
      rw [q] at hn
      exact ⟨by rw [hm]; simp, by rw [hn]; simp⟩
    · left; omega
end Go.Proofs.YtabmfaamadbefaaGreat
/- Contracts of MeetRegions, of the program and of the reference. No condition but that lengths are ints. -/
set_option linter.unusedSimpArgs false
set_option linter.unusedVariables false
set_option linter.unusedSectionVars false
namespace Go.Proofs.YtabmfaamadbefaaGreat
open Go.RowKit
/-- What MeetRegions returns. -/
def meetQ (p q : List H3) : List H3 × Bool := if regionOk p = true ∧ regionOk q = true ∧ p.length + q.length ≤ 40 then (if p = [] ∨ q = [] then ([], true) else (makeR (p ++ q), true)) else ([], false)
theorem meetq_few {p q : List H3} (okp : regionOk p = true) (okq : regionOk q = true) (hp : p ≠ []) (hq : q ≠ []) (hl : p.length + q.length ≤ 40) : (∀ g ∈ p ++ q, HOk g) ∧ (makeR (p ++ q)).length ≤ 40 ∧ meetR (p ++ q) = (makeR (p ++ q), true) := by
  obtain ⟨G1, e1, _⟩ := regionOk_parts okp hp
  obtain ⟨G2, e2, _⟩ := regionOk_parts okq hq
  have G : ∀ g ∈ p ++ q, HOk g := fun g hg => by
    rcases List.mem_append.1 hg with h1 | h1
    · exact G1 g h1
    · exact G2 g h1
  have hf := meet_few G1 G2 e1 hp
  refine ⟨G, by omega, ?_⟩
  rw [meetR_makeR G, if_neg (by omega)]

set_option maxRecDepth 100000 in
set_option maxHeartbeats 1000000 in
theorem impl_MeetRegions_eq {p q out : List H3} {ok : Bool} {A A2 : Option Addr} {c c2 : Nat} {w : World} (R1 : R3 44 w A c p) (R2 : R3 44 w A2 c2 q) (hlp : p.length ≤ 1000000000) (hlq : q.length ≤ 1000000000) (hr : Hid (meetQ p q = (out, ok))) :
    Calls Tryz.prog 96 #[.agg #[.slice A p.length c], .agg #[.slice A2 q.length c2]] w (RegPost w out ok) := by
  have hr' := hr.out
  clear hr
  obtain ⟨rp, hrp⟩ : ∃ v, regionOk p = v := ⟨_, rfl⟩
  obtain ⟨rq, hrq⟩ : ∃ v, regionOk q = v := ⟨_, rfl⟩
  have HP := Lib.hid hrp
  have HQ := Lib.hid hrq
  unfold meetQ at hr'
  rw [hrp, hrq] at hr'
  cases rp with
  | false =>
    rw [if_neg (by simp)] at hr'
    simp at hr'
    obtain ⟨rfl, rfl⟩ := hr'
    clear hrp hrq
    go_enter Tryz.func96, Tryz.ntmps96
    go_wp2_with (first | (go_at_call 51; (first | (with_reducible refine (calls_ov2 (impl_RegionOk_eq (by repeat (first | assumption | refine R3.ov ?_ _ | refine R3.alloc ?_ _)) (by first | exact hlp | exact hlq) (by first | exact HP | exact HQ))).mono ?_) | refine (calls_ov (impl_RegionOk_eq (by repeat (first | assumption | refine R3.ov ?_ _ | refine R3.alloc ?_ _)) (by first | exact hlp | exact hlq) (by first | exact HP | exact HQ))).mono ?_); rintro e w' ⟨rfl, x, rfl⟩))
    refine bodyPost_ret (v := .tuple #[.agg #[.slice none 0 0], .bool false]) (by simp [results, Tryz.results96, go_sem]) rfl ⟨none, 0, rfl, RB.nil _ _ _, (by repeat (first | exact bR | refine bO ?_ | refine bA ?_ | refine bS ?_ | refine bD ?_ | refine bN ?_))⟩
  | true =>
   cases rq with
   | false =>
    rw [if_neg (by simp)] at hr'
    simp at hr'
    obtain ⟨rfl, rfl⟩ := hr'
    clear hrp hrq
    go_enter Tryz.func96, Tryz.ntmps96
    go_wp2_with (first | (go_at_call 51; (first | (with_reducible refine (calls_ov2 (impl_RegionOk_eq (by repeat (first | assumption | refine R3.ov ?_ _ | refine R3.alloc ?_ _)) (by first | exact hlp | exact hlq) (by first | exact HP | exact HQ))).mono ?_) | refine (calls_ov (impl_RegionOk_eq (by repeat (first | assumption | refine R3.ov ?_ _ | refine R3.alloc ?_ _)) (by first | exact hlp | exact hlq) (by first | exact HP | exact HQ))).mono ?_); rintro e w' ⟨rfl, x, rfl⟩))
    refine bodyPost_ret (v := .tuple #[.agg #[.slice none 0 0], .bool false]) (by simp [results, Tryz.results96, go_sem]) rfl ⟨none, 0, rfl, RB.nil _ _ _, (by repeat (first | exact bR | refine bO ?_ | refine bA ?_ | refine bS ?_ | refine bD ?_ | refine bN ?_))⟩
   | true =>
    by_cases h40 : p.length + q.length ≤ 40
    case' neg =>
     rw [if_neg (by omega)] at hr'
     simp at hr'
     obtain ⟨rfl, rfl⟩ := hr'
     clear hrp hrq
     have h41 : (40 : Int) < (p.length : Int) + (q.length : Int) := by omega
     go_enter Tryz.func96, Tryz.ntmps96
     go_wp2_with (first | (go_at_call 51; (first | (with_reducible refine (calls_ov2 (impl_RegionOk_eq (by repeat (first | assumption | refine R3.ov ?_ _ | refine R3.alloc ?_ _)) (by first | exact hlp | exact hlq) (by first | exact HP | exact HQ))).mono ?_) | refine (calls_ov (impl_RegionOk_eq (by repeat (first | assumption | refine R3.ov ?_ _ | refine R3.alloc ?_ _)) (by first | exact hlp | exact hlq) (by first | exact HP | exact HQ))).mono ?_); rintro e w' ⟨rfl, x, rfl⟩))
     refine bodyPost_ret (v := .tuple #[.agg #[.slice none 0 0], .bool false]) (by simp [results, Tryz.results96, go_sem]) rfl ⟨none, 0, rfl, RB.nil _ _ _, (by repeat (first | exact bR | refine bO ?_ | refine bA ?_ | refine bS ?_ | refine bD ?_ | refine bN ?_))⟩
    rw [if_pos ⟨rfl, rfl, h40⟩] at hr'
    have h41 : ¬ (40 : Int) < (p.length : Int) + (q.length : Int) := by omega
    by_cases h1 : p = [] ∨ q = []
    case' pos =>
     rw [if_pos h1] at hr'
     simp at hr'
     obtain ⟨rfl, rfl⟩ := hr'
     obtain ⟨vp, hvp⟩ : ∃ v, decide (p.length = 0) = v := ⟨_, rfl⟩
     obtain ⟨vq, hvq⟩ : ∃ v, decide (q.length = 0) = v := ⟨_, rfl⟩
     have HVP := Lib.hid hvp
     have HVQ := Lib.hid hvq
     have hv : vp = true ∨ (vp = false ∧ vq = true) := by
       rw [← hvp, ← hvq]
       rcases h1 with h1 | h1
       · left; rw [h1]; rfl
       · by_cases hp : p.length = 0
         · left; simp [hp]
         · right; rw [h1]; simp [hp]
     clear hrp hrq hvp hvq h1
     rcases hv with rfl | ⟨rfl, rfl⟩
     all_goals
      go_enter Tryz.func96, Tryz.ntmps96
      go_wp2_with (first | (go_at_call 51; (first | (with_reducible refine (calls_ov2 (impl_RegionOk_eq (by repeat (first | assumption | refine R3.ov ?_ _ | refine R3.alloc ?_ _)) (by first | exact hlp | exact hlq) (by first | exact HP | exact HQ))).mono ?_) | refine (calls_ov (impl_RegionOk_eq (by repeat (first | assumption | refine R3.ov ?_ _ | refine R3.alloc ?_ _)) (by first | exact hlp | exact hlq) (by first | exact HP | exact HQ))).mono ?_); rintro e w' ⟨rfl, x, rfl⟩) | (go_at_call 20; (first | (with_reducible refine (calls_ov2 (IsVoid_eq (by first | exact HVP | exact HVQ))).mono ?_) | refine (calls_ov (IsVoid_eq (by first | exact HVP | exact HVQ))).mono ?_); rintro e w' ⟨rfl, x, rfl⟩))
      refine bodyPost_ret (v := .tuple #[.agg #[.slice none 0 0], .bool true]) (by simp [results, Tryz.results96, go_sem]) rfl ⟨none, 0, rfl, RB.nil _ _ _, (by repeat (first | exact bR | refine bO ?_ | refine bA ?_ | refine bS ?_ | refine bD ?_ | refine bN ?_))⟩
    rw [if_neg h1] at hr'
    simp at hr'
    obtain ⟨hm, rfl⟩ := hr'
    subst hm
    have h2 : p ≠ [] ∧ q ≠ [] := by simpa [not_or] using h1
    obtain ⟨Gm, _, hmr⟩ := meetq_few hrp hrq h2.1 h2.2 h40
    have hp0 : 0 < p.length := List.length_pos_iff.2 h2.1
    have hq0 : 0 < q.length := List.length_pos_iff.2 h2.2
    have HVP : Hid (decide (p.length = 0) = false) := Lib.hid (decide_eq_false (by omega))
    have HVQ : Hid (decide (q.length = 0) = false) := Lib.hid (decide_eq_false (by omega))
    obtain ⟨ys, hys⟩ : ∃ ys, p ++ q = ys := ⟨_, rfl⟩
    have HYL := Lib.hid (show ys.length = p.length + q.length by rw [← hys]; simp)
    rw [hys] at Gm hmr ⊢
    have HYS := Lib.hid hys
    obtain ⟨out, hout⟩ : ∃ out, makeR ys = out := ⟨_, rfl⟩
    rw [hout] at hmr ⊢
    have HM := Lib.hid hmr
    clear hrp hrq h1 h2 hys hout hmr
    go_enter Tryz.func96, Tryz.ntmps96
    go_wp2_with (first | (go_at_call 51; (first | (with_reducible refine (calls_ov2 (impl_RegionOk_eq (by repeat (first | assumption | refine R3.ov ?_ _ | refine R3.alloc ?_ _)) (by first | exact hlp | exact hlq) (by first | exact HP | exact HQ))).mono ?_) | refine (calls_ov (impl_RegionOk_eq (by repeat (first | assumption | refine R3.ov ?_ _ | refine R3.alloc ?_ _)) (by first | exact hlp | exact hlq) (by first | exact HP | exact HQ))).mono ?_); rintro e w' ⟨rfl, x, rfl⟩) | (go_at_call 20; (first | (with_reducible refine (calls_ov2 (IsVoid_eq (by first | exact HVP | exact HVQ))).mono ?_) | refine (calls_ov (IsVoid_eq (by first | exact HVP | exact HVQ))).mono ?_); rintro e w' ⟨rfl, x, rfl⟩))
    refine (Concat2_eq HYS.out (by repeat (first | assumption | refine R3.ov ?_ _ | refine R3.alloc ?_ _)) (by repeat (first | assumption | refine R3.ov ?_ _ | refine R3.alloc ?_ _)) ⟨hp0, by omega⟩ ⟨hq0, by omega⟩ (heap_new_at (by simp [ov_size]) rfl)).mono ?_
    rintro e w1 ⟨A1, c1, rfl, R1', hb1⟩
    have hbw : Below w.heap.size w w1 := Below.trans (by repeat (first | exact bR | refine bO ?_ | refine bA ?_ | refine bS ?_ | refine bD ?_ | refine bN ?_)) (hb1.mono (by simp [ov_size]; omega))
    have HX := Lib.hid ((hb1.block (w.heap.size + 1 + 1) (by simp [ov_size]; omega)).trans ((heap_old_at (by simp [ov_size]; omega)).trans (ov_blk (heap_new_at (r := some (.cells #[.slice none 0 0] 26 (0, 0))) (by simp) rfl))))
    generalize hb4 : w.heap.size + 1 + 1 = b4 at HX ⊢
    go_wp2_with fail
    refine (meetAll_any Gm R1'.r3 ⟨by have := HYL.out; omega, by have := HYL.out; omega⟩ HM).mono ?_
    rintro e w2 ⟨A2', c2', rfl, R2', hb2⟩
    have hbw2 : Below w.heap.size w w2 := hbw.trans (hb2.mono hbw.size)
    replace HX := box_below HX hb2
    have HR1 := R2'.weak (B' := w.heap.size) hbw.size
    clear R1' hb1 R2' hb2
    have x2 := cell_blk (j := 0) (v := .slice none 0 0) HX.out rfl
    have f2 := frozen_blk (j := 0) HX.out
    have l2 := (Array.getElem?_eq_some_iff.1 HX.out).1
    go_wp2
    refine bodyPost_ret (v := .tuple #[.agg #[.slice A2' out.length c2'], .bool true]) (by simp [results, Tryz.results96, go_sem, x2, l2]) rfl ⟨A2', c2', rfl, HR1.set_box HX.out (by decide), hbw2.setCell (show w.heap.size ≤ b4 by omega) _⟩
end Go.Proofs.YtabmfaamadbefaaGreat
/- Plain: a list of half planes with a point strictly inside all has an edge; a region made of it is not void. No program. -/
set_option linter.unusedSimpArgs false
set_option linter.unusedVariables false
set_option linter.unusedSectionVars false
namespace Go.Proofs.YtabmfaamadbefaaGreat
open Go.RowKit
def ray (x : Pt) (i : Nat) (t : Rat) : Pt := ⟨x.x + t, x.y + t * (i : Rat)⟩
def slope2 (h : H3) (i : Nat) : Rat := (h.a : Rat) + (h.b : Rat) * (i : Rat)
theorem val_ray (h : H3) (x : Pt) (i : Nat) (t : Rat) : val h (ray x i t) = val h x + t * slope2 h i := by unfold val ray slope2; grind
theorem exit_ray {x : Pt} (i : Nat) : ∀ L : List H3, (∀ h ∈ L, val h x < (h.c : Rat)) → (∀ h ∈ L, slope2 h i ≤ 0) ∨ ∃ t : Rat, 0 < t ∧ Inside L (ray x i t) ∧ ∃ h ∈ L, On h (ray x i t)
  | [], _ => .inl (fun h hh => by cases hh)
  | g :: L, hs => by
    have hg := hs g List.mem_cons_self
    have hL : ∀ h ∈ L, val h x < (h.c : Rat) := fun h hh => hs h (List.mem_cons_of_mem _ hh)
    have low : ∀ (h : H3) (t : Rat), val h x < (h.c : Rat) → slope2 h i ≤ 0 → 0 ≤ t → In h (ray x i t) := fun h t h1 h2 h3 => by
      unfold In
      rw [val_ray]
      have := Rat.mul_le_mul_of_nonneg_left h2 h3
      grind
    have mid : ∀ (h : H3) (t t' : Rat), val h x < (h.c : Rat) → 0 ≤ t → t ≤ t' → In h (ray x i t') → In h (ray x i t) := fun h t t' h1 h2 h3 h4 => by
      rcases Rat.le_total (a := slope2 h i) (b := 0) with q | q
      · exact low h t h1 q h2
      · unfold In at h4 ⊢
        rw [val_ray] at h4 ⊢
        have := Rat.mul_le_mul_of_nonneg_right h3 q
        grind
    by_cases q : slope2 g i ≤ 0
    · rcases exit_ray i L hL with h1 | ⟨t, t0, h1, h, hh, ho⟩
      · left
        intro h hh
        rcases List.mem_cons.1 hh with rfl | hh
        · exact q
        · exact h1 h hh
      · right
        refine ⟨t, t0, fun h' hh' => ?_, h, List.mem_cons_of_mem _ hh, ho⟩
        rcases List.mem_cons.1 hh' with rfl | hh'
        · exact low _ t hg q (by grind)
        · exact h1 h' hh'
    · have q' : 0 < slope2 g i := by grind
      obtain ⟨tg, htg⟩ : ∃ tg : Rat, tg * slope2 g i = (g.c : Rat) - val g x := ⟨((g.c : Rat) - val g x) / slope2 g i, by grind⟩
      have tg0 : 0 < tg := by
        apply Classical.byContradiction; intro hn
        have := Rat.mul_le_mul_of_nonneg_right (show tg ≤ 0 by grind) (show 0 ≤ slope2 g i by grind)
        grind
      have og : On g (ray x i tg) := by unfold On; rw [val_ray]; grind
      right
      rcases exit_ray i L hL with h1 | ⟨t, t0, h1, h, hh, ho⟩
      · refine ⟨tg, tg0, fun h' hh' => ?_, g, List.mem_cons_self, og⟩
        rcases List.mem_cons.1 hh' with rfl | hh'
        · unfold In; unfold On at og; grind
        · exact low h' tg (hL h' hh') (h1 h' hh') (by grind)
      · rcases Rat.le_total (a := tg) (b := t) with r | r
        · refine ⟨tg, tg0, fun h' hh' => ?_, g, List.mem_cons_self, og⟩
          rcases List.mem_cons.1 hh' with rfl | hh'
          · unfold In; unfold On at og; grind
          · exact mid h' tg t (hL h' hh') (by grind) r (h1 h' hh')
        · refine ⟨t, t0, fun h' hh' => ?_, h, List.mem_cons_of_mem _ hh, ho⟩
          rcases List.mem_cons.1 hh' with rfl | hh'
          · exact mid _ t tg hg (by grind) r (by unfold In; unfold On at og; grind)
          · exact h1 h' hh'
theorem pigeon {α : Type} (R : Nat → α → Prop) : ∀ (L : List α), ∀ R : Nat → α → Prop, (∀ i, i ≤ L.length → ∃ h ∈ L, R i h) → ∃ i j, i < j ∧ ∃ h ∈ L, R i h ∧ R j h
  | [], R, hR => by obtain ⟨h, hh, _⟩ := hR 0 (Nat.le_refl _); cases hh
  | g :: L, R, hR => by
    classical
    by_cases two : ∃ i j, i < j ∧ R i g ∧ R j g
    · obtain ⟨i, j, hij, h1, h2⟩ := two
      exact ⟨i, j, hij, g, List.mem_cons_self, h1, h2⟩
    · by_cases one : ∃ i, R i g
      · obtain ⟨i0, h0⟩ := one
        have only : ∀ i, R i g → i = i0 := fun i hi => by
          rcases Nat.lt_trichotomy i i0 with q | q | q
          · exact absurd ⟨i, i0, q, hi, h0⟩ two
          · exact q
          · exact absurd ⟨i0, i, q, h0, hi⟩ two
        obtain ⟨i, j, hij, h, hh, h1, h2⟩ := pigeon R L (fun i h => R (if i < i0 then i else i + 1) h) (fun i hi => by
          obtain ⟨h, hh, hr⟩ := hR (if i < i0 then i else i + 1) (by simp only [List.length_cons]; split <;> omega)
          rcases List.mem_cons.1 hh with rfl | hh
          · have := only _ hr
            split at this <;> omega
          · exact ⟨h, hh, hr⟩)
        exact ⟨_, _, by (try simp only); split <;> split <;> omega, h, List.mem_cons_of_mem _ hh, h1, h2⟩
      · obtain ⟨i, j, hij, h, hh, h1, h2⟩ := pigeon R L R (fun i hi => by
          obtain ⟨h, hh, hr⟩ := hR i (by simp only [List.length_cons]; omega)
          rcases List.mem_cons.1 hh with rfl | hh
          · exact absurd ⟨i, hr⟩ one
          · exact ⟨h, hh, hr⟩)
        exact ⟨i, j, hij, h, List.mem_cons_of_mem _ hh, h1, h2⟩
theorem right_half {L : List H3} (G : Good L) (i : Nat) : ∃ h ∈ L, 0 < slope2 h i := by
  obtain ⟨y, hy, t⟩ := G.frame ⟨1, 0, 1000⟩ (by simp [frameH])
  obtain ⟨hc, hu⟩ := (sameDir_iff _ _).1 t.1
  have hb : y.b = 0 := by unfold cross at hc; simp only at hc; omega
  have ha : 0 < y.a := by
    unfold upB at hu
    rw [hb] at hu
    simpa using hu
  refine ⟨y, hy, ?_⟩
  unfold slope2
  rw [hb]
  have h1 : (0 : Rat) < (y.a : Rat) := by exact_mod_cast ha
  have h2 : ((0 : Int) : Rat) = 0 := rfl
  rw [h2]
  grind
theorem edge_inner {L : List H3} (G : Good L) {x : Pt} (hs : ∀ h ∈ L, val h x < (h.c : Rat)) : ∃ e ∈ L, Edge L e := by
  obtain ⟨i, j, hij, h, hh, ⟨t1, p1, i1, o1⟩, ⟨t2, p2, i2, o2⟩⟩ := pigeon (fun _ _ => True) L (fun i h => ∃ t : Rat, 0 < t ∧ Inside L (ray x i t) ∧ On h (ray x i t)) (fun i _ => by
    rcases exit_ray i L hs with h1 | ⟨t, t0, h1, h, hh, ho⟩
    · obtain ⟨h, hh, hp⟩ := right_half G i
      have := h1 h hh
      exact absurd hp (by grind)
    · exact ⟨h, hh, t, t0, h1, ho⟩)
  have np := nrm_pos (G.nz h hh)
  have nq : (0 : Rat) < (nrm h : Rat) := by exact_mod_cast np
  have ne : prm h (ray x i t1) ≠ prm h (ray x j t2) := fun e => by
    unfold On at o1 o2
    have ev : val h (ray x i t1) = val h (ray x j t2) := by rw [o1, o2]
    have nn : (nrm h : Rat) = (h.a : Rat) * h.a + (h.b : Rat) * h.b := by unfold nrm; push_cast; rfl
    have dx : (nrm h : Rat) * (t1 - t2) = 0 := by
      rw [nn]
      unfold val at ev; unfold prm at e; unfold ray at ev e
      simp only at ev e
      grind
    have et : t1 = t2 := by grind
    have dy : (nrm h : Rat) * (t1 * (i : Rat) - t2 * (j : Rat)) = 0 := by
      rw [nn]
      unfold val at ev; unfold prm at e; unfold ray at ev e
      simp only at ev e
      grind
    subst et
    have e3 : t1 * ((i : Rat) - (j : Rat)) = 0 := by grind
    have e4 : (i : Rat) = (j : Rat) := by grind
    have : i = j := by exact_mod_cast e4
    omega
  refine ⟨h, hh, ?_⟩
  rcases Rat.le_total (a := prm h (ray x i t1)) (b := prm h (ray x j t2)) with q | q
  · exact ⟨_, _, o1, o2, by grind, i1, i2⟩
  · exact ⟨_, _, o2, o1, by grind, i2, i1⟩
theorem not_void_inner {L : List H3} (G : Good L) {x : Pt} (hs : ∀ h ∈ L, val h x < (h.c : Rat)) : ¬ Void L := by
  rintro ⟨g, hg, h, hh, d, k, v⟩
  have := void_on G hg hh d k v (p := x) (fun y hy => by have := hs y hy; unfold In; grind)
  have h2 := hs h hh
  unfold On at this
  grind
/-- A region made of half planes with a point strictly inside them and the frame is not void. -/
theorem made_inner {hs : List H3} (ok : ∀ g ∈ hs, HOk g) {x : Pt} (hx : ∀ h ∈ hs ++ frameH, val h x < (h.c : Rat)) : makeR hs ≠ [] := by
  have G := good_sorted ok
  have nz : AllNZ (hs ++ frameH) := fun y hy => by
    rcases List.mem_append.1 hy with h | h
    · exact (ok y h).nz
    · exact (frameH_ok y h).nz
  have h1 : ∀ h ∈ sorted4 hs, val h x < (h.c : Rat) := fun h hh => hx h (sortH_mem nz hh)
  obtain ⟨e, he, ee⟩ := edge_inner G h1
  have h3 := many_edges G (not_void_inner G h1) he ee
  unfold makeR makeE
  rw [if_neg (by omega)]
  intro h
  rw [h] at h3
  simp at h3
theorem on_both {e g : H3} (hc : cross e g ≠ 0) {p q : Pt} (p1 : On e p) (p2 : On g p) (q1 : On e q) (q2 : On g q) : prm g p = prm g q := by
  have hq : (cross e g : Rat) ≠ 0 := by exact_mod_cast hc
  have hd : (cross e g : Rat) = (e.a : Rat) * g.b - (e.b : Rat) * g.a := by unfold cross; push_cast; rfl
  unfold On val at p1 p2 q1 q2
  have dx : (cross e g : Rat) * (p.x - q.x) = 0 := by rw [hd]; grind
  have dy : (cross e g : Rat) * (p.y - q.y) = 0 := by rw [hd]; grind
  have ex : p.x = q.x := by grind
  have ey : p.y = q.y := by grind
  unfold prm
  rw [ex, ey]
def mid3 (p q r : Pt) : Pt := ⟨(p.x + q.x + r.x) / 3, (p.y + q.y + r.y) / 3⟩
theorem val_mid3 (h : H3) (p q r : Pt) : val h (mid3 p q r) * 3 = val h p + val h q + val h r := by unfold val mid3; grind
/-- Three points of a region that do not lie on one line: their middle is strictly inside. -/
theorem mid_strict {L : List H3} (G : Good L) {e : H3} (he : e ∈ L) {p q r : Pt} (p1 : On e p) (q1 : On e q) (hpq : prm e p < prm e q) (r1 : ¬ On e r) (ip : Inside L p) (iq : Inside L q) (ir : Inside L r) : ∀ h ∈ L, val h (mid3 p q r) < (h.c : Rat) := by
  intro h hh
  have a1 := ip h hh
  have a2 := iq h hh
  have a3 := ir h hh
  have m := val_mid3 h p q r
  apply Classical.byContradiction; intro hn
  unfold In at a1 a2 a3
  have o1 : On h p := by unfold On; grind
  have o2 : On h q := by unfold On; grind
  have o3 : On h r := by unfold On; grind
  by_cases hc : cross h e = 0
  · -- the same line: r would lie on e
    have nh := G.nz h hh
    have hd : (h.a : Rat) * e.b - (h.b : Rat) * e.a = 0 := by
      have : ((cross h e : Int) : Rat) = 0 := by rw [hc]; rfl
      unfold cross at this; push_cast at this; exact this
    apply r1
    unfold On val at o1 o3 p1 ⊢
    have k1 : (h.a : Rat) * ((e.a : Rat) * r.x + (e.b : Rat) * r.y - e.c) = 0 := by
      have : (h.a : Rat) * ((e.a : Rat) * (r.x - p.x) + (e.b : Rat) * (r.y - p.y)) = 0 := by grind
      grind
    have k2 : (h.b : Rat) * ((e.a : Rat) * r.x + (e.b : Rat) * r.y - e.c) = 0 := by
      have : (h.b : Rat) * ((e.a : Rat) * (r.x - p.x) + (e.b : Rat) * (r.y - p.y)) = 0 := by grind
      grind
    rcases nh with n | n
    · have nq : (h.a : Rat) ≠ 0 := by exact_mod_cast n
      grind
    · have nq : (h.b : Rat) ≠ 0 := by exact_mod_cast n
      grind
  · have := on_both hc o1 p1 o2 q1
    grind
/-- A region that is not void has a point strictly inside its half planes and the frame. -/
theorem inner_of {hs : List H3} (ok : ∀ g ∈ hs, HOk g) (hne : makeR hs ≠ []) : ∃ x : Pt, ∀ h ∈ sorted4 hs, val h x < (h.c : Rat) := by
  have G := good_sorted ok
  obtain ⟨_, nv, e, he, ee⟩ := made_edges ok hne
  obtain ⟨g, v, N⟩ := next_exists G nv he ee
  obtain ⟨p, q, p1, q1, hpq, ip, iq⟩ := ee
  obtain ⟨p', q', p1', q1', hpq', ip', iq'⟩ := N.eg
  have hc : cross e g ≠ 0 := by have := N.turn; omega
  by_cases h1 : On e p'
  · by_cases h2 : On e q'
    · have := on_both hc h1 p1' h2 q1'
      grind
    · exact ⟨_, mid_strict G he p1 q1 hpq h2 ip iq iq'⟩
  · exact ⟨_, mid_strict G he p1 q1 hpq h1 ip iq ip'⟩
theorem Tle.strict {y k : H3} (ny : NZ y) (nk : NZ k) (t : Tle y k) {p : Pt} (h : val y p < (y.c : Rat)) : val k p < (k.c : Rat) := by
  obtain ⟨ea, eb⟩ := prop_of_sameDir ny nk t.1
  have q1 : (y.a : Rat) * (sizeH k : Rat) = (k.a : Rat) * (sizeH y : Rat) := by exact_mod_cast ea
  have q2 : (y.b : Rat) * (sizeH k : Rat) = (k.b : Rat) * (sizeH y : Rat) := by exact_mod_cast eb
  have q3 : (y.c : Rat) * (sizeH k : Rat) ≤ (k.c : Rat) * (sizeH y : Rat) := by exact_mod_cast t.2
  have sk : (0 : Rat) < (sizeH k : Rat) := by exact_mod_cast size_pos nk
  have sy : (0 : Rat) < (sizeH y : Rat) := by exact_mod_cast size_pos ny
  have e : val k p * (sizeH y : Rat) = val y p * (sizeH k : Rat) := by unfold val; grind
  have m2 := Rat.mul_pos sk (show (0 : Rat) < (y.c : Rat) - val y p by grind)
  apply Classical.byContradiction; intro hn
  have m1 := Rat.mul_le_mul_of_nonneg_left (c := (sizeH y : Rat)) (show (k.c : Rat) ≤ val k p by grind) (by grind)
  grind
/-- A region that is not void has a point strictly inside all it was made of, and the frame. -/
theorem inner_all {hs : List H3} (ok : ∀ g ∈ hs, HOk g) (hne : makeR hs ≠ []) : ∃ x : Pt, ∀ h ∈ hs ++ frameH, val h x < (h.c : Rat) := by
  obtain ⟨x, hx⟩ := inner_of ok hne
  have nz : AllNZ (hs ++ frameH) := fun y hy => by
    rcases List.mem_append.1 hy with h | h
    · exact (ok y h).nz
    · exact (frameH_ok y h).nz
  refine ⟨x, fun h hh => ?_⟩
  obtain ⟨y, hy, t⟩ := sortH_cover nz hh
  exact Tle.strict ((good_sorted ok).nz y hy) (nz h hh) t (hx y hy)
end Go.Proofs.YtabmfaamadbefaaGreat