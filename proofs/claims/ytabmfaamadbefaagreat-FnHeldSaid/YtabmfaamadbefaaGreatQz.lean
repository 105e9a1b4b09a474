/- Several texts in one: Er, Sx, Sy, Es, Kt, Obr, Qz. Each says its own conditions. -/
import Derived.Test.YtabmfaamadbefaaGreatMj
import Derived.Test.YtabmfaamadbefaaGreatSv
import Derived.Test.YtabmfaamadbefaaGreatGp
import Derived.Test.YtabmfaamadbefaaGreatCn
import Derived.OwnWalk
import Derived.Deep.Slices
import Derived.Deep.Fields
import Derived.ChangeSame
/- Contracts of erode and ErodeRegion of the program. No condition but that lengths are ints. -/
set_option linter.unusedSimpArgs false
set_option linter.unusedVariables false
set_option linter.unusedSectionVars false
namespace Go.Proofs.YtabmfaamadbefaaGreat
open Go.RowKit
set_option maxRecDepth 100000 in
set_option maxHeartbeats 4000000 in
theorem erode_step {g m : H3} {v : Bool} {ws : List H3} {b4 : Nat} {A4 : Option Addr} {C4 : Nat} {W : World} (k : HOk g) (HM : Hid (erF ws g = (m, v))) (kw : regionOk ws = true) (hw : ws ≠ []) (R : R3 44 W A4 C4 ws) (c4 : W.cell? ⟨b4, 0, none⟩ = some (.slice A4 ws.length C4)) (l4 : b4 < W.heap.size) :
    Calls Tryz.prog 100 #[.agg #[.int .i64 g.a, .int .i64 g.b, .int .i64 g.c], .pointer (some ⟨b4, 0, none⟩)] W fun en w' => en = .returned (.tuple #[.agg #[.int .i64 m.a, .int .i64 m.b, .int .i64 m.c], .bool v]) ∧ Below W.heap.size W w' := by
  obtain ⟨⟨p, q⟩, hs⟩ : ∃ s, supN g.a g.b ws = s := ⟨_, rfl⟩
  have HM : Hid (halfOf (g.a * q) (g.b * q) (g.c * q - p) = (m, v)) := by have := HM.out; unfold erF at this; rw [hs] at this; exact Lib.hid this
  have HSU := Lib.hid (fun W (R : R3 44 W A4 C4 ws) => support_eq kw k.ba k.bb hw R (Lib.hid hs))
  obtain ⟨_, hq, hp⟩ := sup_fr kw hw k.ba k.bb hs
  have h1 := k.ba
  have h2 := k.bb
  have h3 := k.bc
  have p1 := mul_bd (x := g.a) (y := q) (B := 5000000000) h1 (by omega)
  have p2 := mul_bd (x := g.b) (y := q) (B := 5000000000) h2 (by omega)
  have p3 := mul_bd (x := g.c) (y := q) (B := 5000000000) h3 (by omega)
  clear hs k kw hw
  go_enter Tryz.func100, Tryz.ntmps100
  go_wp2_with (first | (go_at_call 63; (first | (with_reducible refine (calls_ov2 (HSU.out _ (R.below (by repeat (first | exact bR | refine bO ?_ | refine bA ?_ | refine bS ?_ | refine bD ?_ | refine bN ?_))))).mono ?_) | refine (calls_ov (HSU.out _ (R.below (by repeat (first | exact bR | refine bO ?_ | refine bA ?_ | refine bS ?_ | refine bD ?_ | refine bN ?_))))).mono ?_); rintro e w' ⟨rfl, x, rfl⟩) | (go_at_call 101; (first | (with_reducible refine (calls_ov2 (impl_HalfOf_eq HM (by omega) (by omega) (by omega))).mono ?_) | refine (calls_ov (impl_HalfOf_eq HM (by omega) (by omega) (by omega))).mono ?_); rintro e w' ⟨rfl, x, rfl⟩))
  refine bodyPost_ret (v := .tuple #[.agg #[.int .i64 m.a, .int .i64 m.b, .int .i64 m.c], .bool v]) (by simp [results, Tryz.results100, go_sem]) rfl ⟨rfl, ?_⟩
  (repeat (first | exact bR | refine bO ?_ | refine bA ?_ | refine bS ?_ | refine bD ?_ | refine bN ?_))

set_option maxRecDepth 100000 in
set_option maxHeartbeats 4000000 in
theorem moved_erode {hs out : List H3} {ok : Bool} {A : Option Addr} {c : Nat} {w : World} {ws : List H3} {b4 : Nat} {A4 : Option Addr} {C4 : Nat} (kw : regionOk ws = true) (hw : ws ≠ []) (RW4 : R3 44 w A4 C4 ws) (c4 : w.cell? ⟨b4, 0, none⟩ = some (.slice A4 ws.length C4)) (l4 : b4 < w.heap.size) (G : ∀ g ∈ hs, HOk g) (R : R3 44 w A c hs) (hl : 0 < hs.length ∧ hs.length ≤ 300) (hr : Hid (movedF (erF ws) hs = (out, ok))) :
    Calls Tryz.prog 99 #[.agg #[.slice A hs.length c], .func (.func 100) #[] #[.pointer (some ⟨b4, 0, none⟩)]] w (RegPost w out ok) := by
  obtain ⟨i0, hi, hz0, hz1, hz2⟩ := info_parts info_half
  have hl0 := hl.1
  have hl1 := hl.2
  have hne : hs ≠ [] := List.length_pos_iff.1 hl.1
  obtain ⟨FX, hFX⟩ : ∃ FX, FX = (erF ws) := ⟨_, rfl⟩
  rw [← hFX] at hr
  obtain ⟨ms, hms⟩ : ∃ ms, hs.map (fun g => (FX g).1) = ms := ⟨_, rfl⟩
  have hml : ms.length = hs.length := by rw [← hms]; simp
  have hmk : ∀ k (h : k < hs.length), ms[k]? = some (FX hs[k]).1 := fun k h => by rw [← hms, List.getElem?_map, List.getElem?_eq_getElem h]; rfl
  have HR := hr.out
  unfold movedF at HR
  rw [if_neg hne, hms] at HR
  have HM := Lib.hid HR
  have HML := Lib.hid hml
  have HMK := Lib.hid hmk
  have HMS := Lib.hid hms
  have HF := Lib.hid hFX
  have HV : Hid (decide (hs.length = 0) = false) := Lib.hid (decide_eq_false (by omega))
  clear hr HR hms hml hmk hne hFX
  go_enter Tryz.func99, Tryz.ntmps99
  go_wp2_with ((go_at_call 20; (first | (with_reducible refine (calls_ov2 (IsVoid_eq HV)).mono ?_) | refine (calls_ov (IsVoid_eq HV)).mono ?_); rintro e w' ⟨rfl, x, rfl⟩))
  obtain ⟨W0, hW⟩ : ∃ W0, W0 = ov ((w.alloc (.cells #[.slice A hs.length c] 26)).alloc (.cells #[.slice none 0 0] 26)) x := ⟨_, rfl⟩
  rw [← hW]
  have T0 : Below w.heap.size w W0 := by rw [hW]; exact (by repeat (first | exact bR | refine bO ?_ | refine bA ?_ | refine bS ?_ | refine bD ?_ | refine bN ?_))
  have X2 := Lib.hid (show W0.heap[w.heap.size + 1]? = some (.cells #[.slice none 0 0] 26 (0, 0)) by rw [hW]; exact ov_blk (heap_new_at (by simp) rfl))
  clear hW
  have t0 := T0.size
  have hb2 : w.heap.size ≤ w.heap.size + 1 := by omega
  generalize w.heap.size + 1 = b2 at X2 hb2 ⊢
  have RW := R.below T0
  go_loopw [6, 17] (fun o i wr => ∃ (k : Nat) (A' : Option Addr) (c' : Nat), k ≤ hs.length ∧ i = .int .i64 k ∧ o = .slice A' k c' ∧ Hid ((hs.take k).all (fun g => (FX g).2) = true) ∧ RB W0.heap.size 44 wr A' c' (ms.take k) ∧ Below W0.heap.size W0 wr) (fun _ i _ => hs.length - (intOf i).toNat)
  case atStart => exact ⟨0, none, 0, Nat.zero_le _, rfl, rfl, Lib.hid rfl, RB.nil _ _ _, Below.refl _ _⟩
  case round =>
    obtain ⟨k, A', c', hk, rfl, rfl, HA, RO, hb⟩ := hrel
    have hbs := hb.size
    have htl : (ms.take k).length = k := by have := HML.out; simp; omega
    have T1 := T0.trans (hb.mono t0)
    have X3 := box_below X2 hb
    have hX2 := (Array.getElem?_eq_some_iff.1 X3.out).1
    by_cases hlt : k < hs.length
    · obtain ⟨g0, rfl, hg0, z0, z1, z2⟩ := (RW.below hb).at_ hlt
      have kg := G _ (List.getElem_mem hlt)
      have HE := Lib.hid (HMK.out k hlt)
      have HT := Lib.hid (all_take_succ (fun g => (FX g).2) hs k hlt)
      obtain ⟨⟨m, b⟩, hmb⟩ : ∃ m, FX hs[k] = m := ⟨_, rfl⟩
      have hmb' := hmb
      rw [HF.out] at hmb'
      have HS : ∀ W, Below wr.heap.size wr W → _ := fun W hW => erode_step (W := W) kg (Lib.hid hmb') kw hw (RW4.below (T1.trans (hW.mono T1.size))) ((hW.cell (p := ⟨b4, 0, none⟩) (by have := T1.size; show b4 < wr.heap.size; omega)).trans ((T1.cell (p := ⟨b4, 0, none⟩) l4).trans c4)) (by have := T1.size; have := hW.size; omega)
      have HN := Lib.hid (show ms.take (k + 1) = ms.take k ++ [m] by
        obtain ⟨h1, h2⟩ := List.getElem?_eq_some_iff.1 HE.out
        rw [List.take_succ_eq_append_getElem h1, h2, hmb])
      have HB := Lib.hid (show (FX hs[k]).2 = b by rw [hmb])
      clear hmb hmb' HE
      have OV : wr.ownsRow W0.heap.size 44 3 (.slice A' k c') k (cells3 (ms.take k)) := by unfold RB at RO; rw [htl] at RO; exact RO
      cases b with
      | true =>
        go_wp2_with (first | (go_at_call 100; (first | (with_reducible refine (calls_ov2 (HS _ (by repeat (first | exact bR | refine bO ?_ | refine bA ?_ | refine bS ?_ | refine bD ?_ | refine bN ?_)))).mono ?_) | refine (calls_ov (HS _ (by repeat (first | exact bR | refine bO ?_ | refine bA ?_ | refine bS ?_ | refine bD ?_ | refine bN ?_)))).mono ?_); rintro e w' ⟨rfl, x, rfl⟩) | (at_builtin; refine wpList_append_own _ rfl _ _ 24 rfl W0.heap.size 44 i0 (.agg #[.int .i64 0, .int .i64 0, .int .i64 0]) 3 24 Tryz.underlying24 hi hz0 hz1 hz2 rfl (by decide) _ _ _ rfl (OV.below' (by repeat (first | exact bR | refine bO ?_ | refine bA ?_ | refine bS ?_ | refine bD ?_ | refine bN ?_))) ⟨_, 0, none⟩ 1 1 (cells3 [m]) rfl rfl (news_at (heap_new_at (by simp) rfl)) (cells3_one _) (by unfold maxLen; omega) (by omega) (by simp [ov_size]; omega) ?_; intro v2 w2 O2 hg2 _; obtain ⟨A5, c5, rfl, RO5⟩ := own_slice2 HN.out htl O2; have HG := Lib.hid hg2; clear hg2 O2))
        go_roundw
        case rel => exact ⟨k + 1, A5, c5, by omega, by go_num, by go_num, Lib.hid (by rw [HT.out, HA.out, HB.out]; rfl), RO5, grown_below (B := W0.heap.size) (by repeat (first | exact hb | refine bO ?_ | refine bA ?_ | refine bS ?_ | refine bD ?_ | refine bN ?_)) HG.out (fun k' hk' => (OV.lt k' hk').1) (Nat.le_refl _)⟩
        case measure => simp [intOf] <;> omega
      | false =>
        have hr0 := HM.out
        have hall : hs.all (fun g => (FX g).2) = false := by
          rw [List.all_eq_false]
          exact ⟨hs[k], List.getElem_mem hlt, by rw [HB.out]; simp⟩
        rw [if_neg (by rw [hall]; simp)] at hr0
        simp at hr0
        obtain ⟨rfl, rfl⟩ := hr0
        clear hall
        have x2 := cell_blk (j := 0) (v := .slice none 0 0) X3.out rfl
        have f2 := frozen_blk (j := 0) X3.out
        go_wp2_with (first | (go_at_call 100; (first | (with_reducible refine (calls_ov2 (HS _ (by repeat (first | exact bR | refine bO ?_ | refine bA ?_ | refine bS ?_ | refine bD ?_ | refine bN ?_)))).mono ?_) | refine (calls_ov (HS _ (by repeat (first | exact bR | refine bO ?_ | refine bA ?_ | refine bS ?_ | refine bD ?_ | refine bN ?_)))).mono ?_); rintro e w' ⟨rfl, x, rfl⟩))
        refine bodyPost_ret (v := .tuple #[.agg #[.slice none 0 0], .bool false]) (by simp [results, Tryz.results99, go_sem, x2, hX2]) rfl ⟨none, 0, rfl, RB.nil _ _ _, ?_⟩
        exact (by repeat (first | exact T1 | refine bO ?_ | refine bA ?_ | refine bS ?_ | refine bD ?_ | refine bN ?_))
    · obtain rfl : k = hs.length := by omega
      have hfull : ms.take hs.length = ms := by rw [← HML.out, List.take_length]
      rw [hfull] at RO
      have hall := HA.out
      rw [List.take_length] at hall
      have HL := HML.out
      have hr0 := HM.out
      rw [if_pos hall] at hr0
      have HM2 := Lib.hid hr0
      have GM : ∀ g ∈ ms, HOk g := fun g hg => by
        rw [← HMS.out] at hg
        obtain ⟨y, hy, rfl⟩ := List.mem_map.1 hg
        have h2 := List.all_eq_true.1 hall y hy
        rw [HF.out] at h2 ⊢
        exact halfOf_ok rfl h2
      clear hr0 hall
      go_wp2_with fail
      refine (meetAll_eqn (n := hs.length) HL GM RO.r3 (by omega) HM2).mono ?_
      rintro e w2 ⟨A2', c2', rfl, R2', hb2'⟩
      have T2 : Below w.heap.size w w2 := T1.trans (hb2'.mono T1.size)
      have X4 := box_below X3 hb2'
      have HR1 := R2'.weak (B' := w.heap.size) T1.size
      clear X3 X2 hb2' R2' RO hX2
      have x2 := cell_blk (j := 0) (v := .slice none 0 0) X4.out rfl
      have f2 := frozen_blk (j := 0) X4.out
      have l2 := (Array.getElem?_eq_some_iff.1 X4.out).1
      go_wp2
      refine bodyPost_ret (v := .tuple #[.agg #[.slice A2' out.length c2'], .bool ok]) (by simp [results, Tryz.results99, go_sem, x2, l2]) rfl ⟨A2', c2', rfl, HR1.set_box X4.out (by decide), T2.setCell (show w.heap.size ≤ b2 from hb2) _⟩

def erodeR (ps ws : List H3) : List H3 × Bool := if ws ≠ [] ∧ regionOk ps = true ∧ regionOk ws = true then movedF (erF ws) ps else ([], false)
theorem erodeR_short {ps ws out : List H3} {ok : Bool} (h : erodeR ps ws = (out, ok)) : out.length ≤ 1000 := by
  unfold erodeR at h
  split at h
  · have := movedF_short h; omega
  · simp at h; rw [h.1]; simp
set_option maxRecDepth 100000 in
set_option maxHeartbeats 4000000 in
theorem erode_eq {hs ws out : List H3} {ok : Bool} {A Am : Option Addr} {c cm : Nat} {w : World} (kw : regionOk ws = true) (hw : ws ≠ []) (RW : R3 44 w Am cm ws) (R : R3 44 w A c hs) (kp : regionOk hs = true) (hr : Hid (movedF (erF ws) hs = (out, ok))) :
    Calls Tryz.prog 66 #[.agg #[.slice A hs.length c], .agg #[.slice Am ws.length cm]] w (RegPost w out ok) := by
  have key : ∀ W b4, Below w.heap.size w W → W.cell? ⟨b4, 0, none⟩ = some (.slice Am ws.length cm) → b4 < W.heap.size → Calls Tryz.prog 99 #[.agg #[.slice A hs.length c], .func (.func 100) #[] #[.pointer (some ⟨b4, 0, none⟩)]] W (RegPost W out ok) := fun W b4 T c4 l4 => by
    have hr' := hr.out
    by_cases h0 : hs = []
    · unfold movedF at hr'
      rw [if_pos h0] at hr'
      simp at hr'
      obtain ⟨rfl, rfl⟩ := hr'
      exact moved_void (Lib.hid (by rw [h0]; rfl))
    · obtain ⟨G, _, h40⟩ := regionOk_parts kp h0
      exact moved_erode kw hw (RW.below T) c4 l4 G (R.below T) ⟨List.length_pos_iff.2 h0, by omega⟩ (Lib.hid hr')
  have KEY := Lib.hid key
  clear key kw hw kp hr
  go_enter Tryz.func66, Tryz.ntmps66
  go_wp2_with fail
  obtain ⟨W0, hW⟩ : ∃ W0, W0 = ((w.alloc (.cells #[.slice A hs.length c] 26)).alloc (.cells #[.slice Am ws.length cm] 26)).alloc (.cells #[.slice none 0 0] 26) := ⟨_, rfl⟩
  rw [← hW]
  have T0 : Below w.heap.size w W0 := by rw [hW]; exact (by repeat (first | exact bR | refine bO ?_ | refine bA ?_ | refine bS ?_ | refine bD ?_ | refine bN ?_))
  have X1 : W0.heap[w.heap.size + 1]? = some (.cells #[.slice Am ws.length cm] 26 (0, 0)) := by rw [hW]; exact ((heap_old_at (by simp)).trans (heap_new_at (by simp) rfl))
  have X3 := Lib.hid (show W0.heap[w.heap.size + 1 + 1]? = some (.cells #[.slice none 0 0] 26 (0, 0)) by rw [hW]; exact (heap_new_at (by simp) rfl))
  refine (KEY.out W0 _ T0 (cell_blk (j := 0) X1 rfl) (Array.getElem?_eq_some_iff.1 X1).1).mono ?_
  rintro en w2 ⟨A2', c2', rfl, R2', hb2'⟩
  have T2 : Below w.heap.size w w2 := T0.trans (hb2'.mono T0.size)
  have X4 := box_below X3 hb2'
  have HR1 := R2'.weak (B' := w.heap.size) T0.size
  have hb2 : w.heap.size ≤ w.heap.size + 1 + 1 := by omega
  clear hb2' R2' X1 X3 hW T0
  generalize w.heap.size + 1 + 1 = b2 at X4 hb2 ⊢
  have x2 := cell_blk (j := 0) (v := .slice none 0 0) X4.out rfl
  have f2 := frozen_blk (j := 0) X4.out
  have l2 := (Array.getElem?_eq_some_iff.1 X4.out).1
  go_wp2
  refine bodyPost_ret (v := .tuple #[.agg #[.slice A2' out.length c2'], .bool ok]) (by simp [results, Tryz.results66, go_sem, x2, l2]) rfl ⟨A2', c2', rfl, HR1.set_box X4.out (by decide), T2.setCell (show w.heap.size ≤ b2 from hb2) _⟩

end Go.Proofs.YtabmfaamadbefaaGreat
/- Contracts of SupportOf and FarthestCorner of the program. No condition but that lengths are ints. -/
set_option linter.unusedSimpArgs false
set_option linter.unusedVariables false
set_option linter.unusedSectionVars false
namespace Go.Proofs.YtabmfaamadbefaaGreat
open Go.RowKit Go.Shelf
theorem isCoef_any {n : Int} {v : Bool} {w : World} (h : Hid (inR n (-50000) 50000 = v)) : Calls Tryz.prog 91 #[.int .i64 n] w fun e w' => e = .returned (.bool v) ∧ w = w' := isCoef_eq h.out
theorem sup_shape (hs : List H3) (a b : Int) : (supOk hs a b = false ∧ (decide (hs.length = 0) = true ∨ (decide (hs.length = 0) = false ∧ inR a (-50000) 50000 = false) ∨ (decide (hs.length = 0) = false ∧ inR a (-50000) 50000 = true ∧ inR b (-50000) 50000 = false) ∨ (decide (hs.length = 0) = false ∧ inR a (-50000) 50000 = true ∧ inR b (-50000) 50000 = true ∧ regionOk hs = false))) ∨
    (supOk hs a b = true ∧ decide (hs.length = 0) = false ∧ inR a (-50000) 50000 = true ∧ inR b (-50000) 50000 = true ∧ regionOk hs = true ∧ hs ≠ []) := by
  by_cases h0 : hs = []
  · subst h0; left; exact ⟨by simp [supOk], .inl rfl⟩
  · have e : decide (hs.length = 0) = false := decide_eq_false (fun e => h0 (List.length_eq_zero_iff.1 e))
    have e2 : decide (hs ≠ []) = true := decide_eq_true h0
    unfold supOk
    rw [e, e2]
    simp only [Bool.true_and]
    generalize inR a (-50000) 50000 = y
    generalize inR b (-50000) 50000 = z
    generalize regionOk hs = t
    cases y <;> cases z <;> cases t <;> simp [h0]
end Go.Proofs.YtabmfaamadbefaaGreat
/- Contracts of l06Far, SupportOf and FarthestCorner of the reference. No condition but that lengths are ints. -/
set_option linter.unusedSimpArgs false
set_option linter.unusedVariables false
set_option linter.unusedSectionVars false
namespace Go.Proofs.YtabmfaamadbefaaGreat
open Go.RowKit
theorem vals_take {a b : Int} {cs : List H3} {k : Nat} (hk : k < cs.length) : (cs.map (valS a b)).take (k + 1) = (cs.map (valS a b)).take k ++ [valS a b cs[k]] := by
  rw [List.take_succ_eq_append_getElem (by rw [List.length_map]; exact hk), List.getElem_map]

theorem sup_shape2 (hs : List H3) (a b : Int) : (supOk hs a b = false ∧ (regionOk hs = false ∨ (regionOk hs = true ∧ decide (hs.length = 0) = true) ∨ (regionOk hs = true ∧ decide (hs.length = 0) = false ∧ inR a (-50000) 50000 = false) ∨ (regionOk hs = true ∧ decide (hs.length = 0) = false ∧ inR a (-50000) 50000 = true ∧ inR b (-50000) 50000 = false))) ∨
    (supOk hs a b = true ∧ decide (hs.length = 0) = false ∧ inR a (-50000) 50000 = true ∧ inR b (-50000) 50000 = true ∧ regionOk hs = true ∧ hs ≠ []) := by
  by_cases h0 : hs = []
  · subst h0; left; exact ⟨by simp [supOk], .inr (.inl ⟨rfl, rfl⟩)⟩
  · have e : decide (hs.length = 0) = false := decide_eq_false (fun e => h0 (List.length_eq_zero_iff.1 e))
    have e2 : decide (hs ≠ []) = true := decide_eq_true h0
    unfold supOk
    rw [e, e2]
    simp only [Bool.true_and]
    generalize inR a (-50000) 50000 = y
    generalize inR b (-50000) 50000 = z
    generalize regionOk hs = t
    cases y <;> cases z <;> cases t <;> simp [h0]
end Go.Proofs.YtabmfaamadbefaaGreat
/- Contracts of l06Sum, l07Top and ErodeRegion of the reference. No condition but that lengths are ints. -/
set_option linter.unusedSimpArgs false
set_option linter.unusedVariables false
set_option linter.unusedSectionVars false
namespace Go.Proofs.YtabmfaamadbefaaGreat
open Go.RowKit
structure SumBd (n d m e : Int) : Prop where
  bd : 1 ≤ d ∧ d ≤ 5000000000
  be : 1 ≤ e ∧ e ≤ 5000000000
  bn : -500000000000000000 ≤ n * e ∧ n * e ≤ 500000000000000000
  bm : -500000000000000000 ≤ m * d ∧ m * d ≤ 500000000000000000
  bb : d * e ≤ 5000000000
theorem sum_guard {n e : Int} (be : 1 ≤ e ∧ e ≤ 5000000000) (bn : -500000000000000000 ≤ n * e ∧ n * e ≤ 500000000000000000) : n ≤ Int.tdiv 9000000000000000000 e ∧ -n ≤ Int.tdiv 9000000000000000000 e ∧ -500000000000000000 ≤ n ∧ n ≤ 500000000000000000 := by
  rw [Int.tdiv_eq_ediv_of_nonneg (by omega)]
  have h1 : n ≤ 9000000000000000000 / e := (Int.le_ediv_iff_mul_le (by omega)).2 (by omega)
  have h2 : -n ≤ 9000000000000000000 / e := (Int.le_ediv_iff_mul_le (by omega)).2 (by rw [Int.neg_mul]; omega)
  have k1 := mul_le_bd (a := n) (M := 500000000000000000) (g := e.toNat) (by omega) (by omega) (by rw [Int.toNat_of_nonneg (by omega)]; exact bn)
  exact ⟨h1, h2, k1.1, k1.2⟩
end Go.Proofs.YtabmfaamadbefaaGreat
/- Contracts of the laws' toRoom, of rooms marked, of rooms compared. Condition: rows of at most 2^20. -/
set_option linter.unusedVariables false
set_option linter.unusedSimpArgs false
set_option linter.unusedSectionVars false
namespace Go.Proofs.YtabmfaamadbefaaGreat
open Go.ChangeShapes Go.WideShapes Go.ChangeAt Go.RowKit Go.Joins Go.Deep
theorem IB.set_box {g b i : Nat} {T : TypeId} {w : World} {xs : List Int} {arr : Array Value} {fr : Nat × Nat} {v : Value} (h : IB g w xs) (hb : w.heap[b]? = some (.cells arr T fr)) (hT : T ≠ 3) : IB g (w.setCell ⟨b, i, none⟩ v) xs := by
  obtain ⟨cu, h1, h2, h3⟩ := h
  refine ⟨cu, ?_, h2, h3⟩
  rw [heap_setCell_other]
  · exact h1
  · rintro rfl
    rw [h1] at hb
    injection hb with hb; injection hb with _ hb; exact hT hb.symm
def Box (b : Nat) (T : TypeId) (w : World) : Prop := ∃ arr fr, w.heap[b]? = some (.cells arr T fr)
theorem Box.set {b i : Nat} {T : TypeId} {w : World} {v : Value} (h : Box b T w) : Box b T (w.setCell ⟨b, i, none⟩ v) := by
  obtain ⟨arr, fr, h⟩ := h
  obtain ⟨a', h'⟩ : ∃ a', (w.setCell ⟨b, i, none⟩ v).heap[b]? = some (.cells a' T fr) := by
    refine ⟨arr.setIfInBounds i v, ?_⟩
    simp [World.setCell, Array.getElem?_modify, h]
  exact ⟨a', fr, h'⟩
theorem IB.sb {g b i : Nat} {T : TypeId} {w : World} {xs : List Int} {v : Value} (hT : T ≠ 3) (hB : Box b T w) (h : IB g w xs) : IB g (w.setCell ⟨b, i, none⟩ v) xs := by
  obtain ⟨arr, fr, hb⟩ := hB
  exact h.set_box hb hT
theorem RB.sb {B b i : Nat} {E T : TypeId} {w : World} {A : Option Addr} {c : Nat} {xs : List H3} {v : Value} (hT : T ≠ E) (hB : Box b T w) (h : RB B E w A c xs) : RB B E (w.setCell ⟨b, i, none⟩ v) A c xs := by
  obtain ⟨arr, fr, hb⟩ := hB
  exact h.set_box hb hT
theorem heap_sb {b i : Nat} {w : World} {v : Value} {k : Nat} {o : Obj} (hk : k ≠ b) (h : w.heap[k]? = some o) : (w.setCell ⟨b, i, none⟩ v).heap[k]? = some o := (heap_setCell_other _ ⟨b, i, none⟩ _ _ hk).trans h

theorem set8_0 {w : World} {b : Nat} {T : TypeId} {a0 a1 a2 a3 a4 a5 a6 a7 v : Value} (h : w.heap[b]? = some (.cells #[a0, a1, a2, a3, a4, a5, a6, a7] T (0, 0))) : (w.setCell ⟨b, 0, none⟩ v).heap[b]? = some (.cells #[v, a1, a2, a3, a4, a5, a6, a7] T (0, 0)) := by
  have := heap_setCell_same w b 0 _ T v h
  simpa using this
theorem set8_1 {w : World} {b : Nat} {T : TypeId} {a0 a1 a2 a3 a4 a5 a6 a7 v : Value} (h : w.heap[b]? = some (.cells #[a0, a1, a2, a3, a4, a5, a6, a7] T (0, 0))) : (w.setCell ⟨b, 1, none⟩ v).heap[b]? = some (.cells #[a0, v, a2, a3, a4, a5, a6, a7] T (0, 0)) := by
  have := heap_setCell_same w b 1 _ T v h
  simpa using this
theorem set8_2 {w : World} {b : Nat} {T : TypeId} {a0 a1 a2 a3 a4 a5 a6 a7 v : Value} (h : w.heap[b]? = some (.cells #[a0, a1, a2, a3, a4, a5, a6, a7] T (0, 0))) : (w.setCell ⟨b, 2, none⟩ v).heap[b]? = some (.cells #[a0, a1, v, a3, a4, a5, a6, a7] T (0, 0)) := by
  have := heap_setCell_same w b 2 _ T v h
  simpa using this
theorem set8_3 {w : World} {b : Nat} {T : TypeId} {a0 a1 a2 a3 a4 a5 a6 a7 v : Value} (h : w.heap[b]? = some (.cells #[a0, a1, a2, a3, a4, a5, a6, a7] T (0, 0))) : (w.setCell ⟨b, 3, none⟩ v).heap[b]? = some (.cells #[a0, a1, a2, v, a4, a5, a6, a7] T (0, 0)) := by
  have := heap_setCell_same w b 3 _ T v h
  simpa using this
theorem set8_4 {w : World} {b : Nat} {T : TypeId} {a0 a1 a2 a3 a4 a5 a6 a7 v : Value} (h : w.heap[b]? = some (.cells #[a0, a1, a2, a3, a4, a5, a6, a7] T (0, 0))) : (w.setCell ⟨b, 4, none⟩ v).heap[b]? = some (.cells #[a0, a1, a2, a3, v, a5, a6, a7] T (0, 0)) := by
  have := heap_setCell_same w b 4 _ T v h
  simpa using this
theorem set8_5 {w : World} {b : Nat} {T : TypeId} {a0 a1 a2 a3 a4 a5 a6 a7 v : Value} (h : w.heap[b]? = some (.cells #[a0, a1, a2, a3, a4, a5, a6, a7] T (0, 0))) : (w.setCell ⟨b, 5, none⟩ v).heap[b]? = some (.cells #[a0, a1, a2, a3, a4, v, a6, a7] T (0, 0)) := by
  have := heap_setCell_same w b 5 _ T v h
  simpa using this
theorem set8_6 {w : World} {b : Nat} {T : TypeId} {a0 a1 a2 a3 a4 a5 a6 a7 v : Value} (h : w.heap[b]? = some (.cells #[a0, a1, a2, a3, a4, a5, a6, a7] T (0, 0))) : (w.setCell ⟨b, 6, none⟩ v).heap[b]? = some (.cells #[a0, a1, a2, a3, a4, a5, v, a7] T (0, 0)) := by
  have := heap_setCell_same w b 6 _ T v h
  simpa using this
theorem set8_7 {w : World} {b : Nat} {T : TypeId} {a0 a1 a2 a3 a4 a5 a6 a7 v : Value} (h : w.heap[b]? = some (.cells #[a0, a1, a2, a3, a4, a5, a6, a7] T (0, 0))) : (w.setCell ⟨b, 7, none⟩ v).heap[b]? = some (.cells #[a0, a1, a2, a3, a4, a5, a6, v] T (0, 0)) := by
  have := heap_setCell_same w b 7 _ T v h
  simpa using this
end Go.Proofs.YtabmfaamadbefaaGreat
/- Bytes in the laws: the argument opened. -/
set_option linter.unusedSimpArgs false
set_option linter.unusedVariables false
set_option linter.unusedSectionVars false
namespace Go.Proofs.YtabmfaamadbefaaGreat
open Go.ChangeShapes Go.WideShapes Go.ChangeAt Go.RowKit Go.Joins Go.Deep
theorem wf_byte {x : Int} (h : (Lit.int .u8 x).wf = true) : 0 ≤ x ∧ x ≤ 255 := by
  simp [Lit.wf, IntKind.min, IntKind.max, IntKind.signed, IntKind.bits] at h
  omega
section
variable {H : Type} {enc : TypeId × Value → H} {w : World} {base : Nat} {spare : Nat → Bool} {held : Bool} {n : Nat}
theorem byte_of_trod {v : Value} {y : DataW H × List MemPlace}
    (h : DataW.trod enc Tryz.prog w base spare held n 5 [v] = some y) : ∃ x : Int, v = .int .u8 x ∧ 0 ≤ x ∧ x ≤ 255 := by
  obtain ⟨x, e, _, hx⟩ := DataW.trod_int Tryz.underlying5 h
  simp at e
  exact ⟨x, e, wf_byte hx⟩
theorem cells_byte : Tryz.prog.cellsOf 5 = 1 := by kernel_rfl
end
section
variable {H : Type} {enc : TypeId × Value → H} {w : World} {base : Nat} {spare : Nat → Bool} {held : Bool} {n : Nat}
theorem bytes_of_trod {cs : List Value} {y : DataW H × List MemPlace} (h : DataW.trod enc Tryz.prog w base spare held n 22 cs = some y) : ∃ (A : Option Addr) (c : Nat) (xs : List Int), cs = [.slice A xs.length c] ∧ RY w A xs ∧ xs.length ≤ c ∧ c ≤ maxLen ∧ ∀ x ∈ xs, 0 ≤ x ∧ x ≤ 255 := by
  rcases open_slice Tryz.underlying22 h with ⟨rfl, _⟩ | ⟨a, len, cap, m, n', D, Pl, rfl, hb, hl, hm, hmm, _, hi⟩
  · exact ⟨none, 0, [], rfl, fun k hk => by simp at hk, Nat.le_refl _, by unfold maxLen; omega, fun x hx => by cases hx⟩
  · have hlm : len ≤ m := by rw [hmm]; split <;> omega
    have cell0 : ∀ i, i < len → ∃ x : Int, w.cell? (a.add i) = some (.int .u8 x) ∧ 0 ≤ x ∧ x ≤ 255 := by
      intro i hi'
      obtain ⟨cs', hc, ht⟩ := hi i (by omega)
      rw [cells_byte] at hc
      obtain ⟨_, hcl, hat⟩ := World.cells?_some hc
      match cs', hcl with
      | [c0], _ =>
        obtain ⟨x, rfl, hx⟩ := byte_of_trod ht
        have c0 := hat 0 (by omega)
        rw [Go.Deep.add_add, Nat.mul_one, Nat.add_zero] at c0
        exact ⟨x, c0, hx⟩
    have hall : ∀ i, i < len → ∃ x : Int, (∃ g o, (some a : Option Addr) = some ⟨g, o, none⟩ ∧ g < w.heap.size ∧ w.cell? ⟨g, o + i, none⟩ = some (.int .u8 x)) ∧ 0 ≤ x ∧ x ≤ 255 := by
      intro i hi'
      obtain ⟨x0, h0, _⟩ := cell0 0 (by omega)
      obtain ⟨x, c0, hx⟩ := cell0 i hi'
      rw [show a.add 0 = a by simp [Addr.add]] at h0
      obtain ⟨sp, hbk⟩ := cell?_addr h0
      obtain ⟨g, o, sp'⟩ := a
      simp only at sp hbk
      subst sp
      rw [Addr.add_lit] at c0
      exact ⟨x, ⟨g, o, rfl, hbk, c0⟩, hx⟩
    obtain ⟨xs, hxl, hx⟩ := list_of len hall
    subst hxl
    refine ⟨some a, cap, xs, rfl, fun k hk => ?_, hl, hm, fun x hxm => ?_⟩
    · obtain ⟨⟨g, o, h1, h2, h3⟩, h4⟩ := hx k hk
      exact ⟨g, o, h1, h2, h3, h4⟩
    obtain ⟨i, hi', rfl⟩ := List.mem_iff_getElem.1 hxm
    exact (hx i hi').2
set_option maxRecDepth 100000 in
theorem open_bytes {v : Value} {d : DataW H} {p : List MemPlace} {r : Reach} {b0 : Nat} (hv : Value.okWide Tryz.prog w r b0 22 v) (h : DataW.Trod enc Tryz.prog w base spare held 22 v d p) :
    ∃ (A : Option Addr) (c : Nat) (xs : List Int), v = .slice A xs.length c ∧ RY w A xs ∧ xs.length ≤ 9223372036854775807 := by
  obtain ⟨fuel, hf⟩ := h
  obtain ⟨A, c, xs, e, h1, h2, h3, h4⟩ := bytes_of_trod hf
  obtain ⟨a, l, k, rfl⟩ := okWide_slice Tryz.underlying22 hv
  simp [Value.cells] at e
  exact ⟨A, c, xs, by rw [e.1, e.2.1, e.2.2], h1, by unfold maxLen at h3; omega⟩
end
end Go.Proofs.YtabmfaamadbefaaGreat
/- Plain: robust part. No program. -/
set_option linter.unusedVariables false
set_option linter.unusedSimpArgs false
set_option linter.unusedSectionVars false
namespace Go.Proofs.YtabmfaamadbefaaGreat
open Go.RowKit
def robustR (r : RoomV) (p : List H3) : List H3 × Bool := if roomOk r = true ∧ regionOk p = true then movedF (erF r.ns) p else ([], false)
theorem erosion_ok {r : RoomV} {p out : List H3} (h : movedF (erF r.ns) p = (out, true)) : regionOk out = true := movedF_ok (fun g _ hg => erF_ok hg) h
theorem erodeR_room {r : RoomV} (P : RoomP r) (p : List H3) : erodeR p r.ns = if regionOk p = true then movedF (erF r.ns) p else ([], false) := by
  unfold erodeR
  by_cases h : regionOk p = true
  · rw [if_pos ⟨P.ns, h, P.nk⟩, if_pos h]
  · rw [if_neg (fun e => h e.2.1), if_neg h]
theorem robustR_false {r : RoomV} {p : List H3} (h : roomOk r = false) : robustR r p = ([], false) := by unfold robustR; rw [if_neg (by rw [h]; simp)]
theorem robustR_true {r : RoomV} {p : List H3} (h : roomOk r = true) : robustR r p = erodeR p r.ns := by
  rw [erodeR_room (roomOk_parts h)]
  unfold robustR
  by_cases h2 : regionOk p = true
  · rw [if_pos ⟨h, h2⟩, if_pos h2]
  · rw [if_neg (fun e => h2 e.2), if_neg h2]
theorem robustR_reg {r : RoomV} {p e : List H3} (h : robustR r p = (e, true)) : regionOk e = true ∧ RoomP r := by
  unfold robustR at h
  split at h
  · rename_i hc
    exact ⟨erosion_ok h, roomOk_parts hc.1⟩
  · simp at h
theorem robustR_short {r : RoomV} {p out : List H3} {ok : Bool} (h : robustR r p = (out, ok)) : out.length ≤ 1000 := by
  by_cases hc : roomOk r = true
  · rw [robustR_true hc] at h; exact erodeR_short h
  · rw [robustR_false (by simpa using hc)] at h; simp at h; rw [h.1]; simp
end Go.Proofs.YtabmfaamadbefaaGreat