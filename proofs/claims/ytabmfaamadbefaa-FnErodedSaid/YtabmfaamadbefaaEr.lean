/- Contracts of erode and ErodeRegion of the program. No condition but that lengths are ints. -/
import Derived.Test.YtabmfaamadbefaaEp
import Derived.Test.YtabmfaamadbefaaSv
set_option linter.unusedSimpArgs false
set_option linter.unusedVariables false
set_option linter.unusedSectionVars false
namespace Go.Proofs.Ytabmfaamadbefaa
open Go.RowKit

set_option maxRecDepth 100000 in
set_option maxHeartbeats 4000000 in
theorem erode_step {g m : H3} {v : Bool} {ws : List H3} {b4 : Nat} {A4 : Option Addr} {C4 : Nat} {W : World} (k : HOk g) (HM : Hid (erF ws g = (m, v))) (kw : regionOk ws = true) (hw : ws ≠ []) (R : R3 36 W A4 C4 ws) (c4 : W.cell? ⟨b4, 0, none⟩ = some (.slice A4 ws.length C4)) (l4 : b4 < W.heap.size) :
    Calls Try.prog 82 #[.agg #[.int .i64 g.a, .int .i64 g.b, .int .i64 g.c], .pointer (some ⟨b4, 0, none⟩)] W fun en w' => en = .returned (.tuple #[.agg #[.int .i64 m.a, .int .i64 m.b, .int .i64 m.c], .bool v]) ∧ Below W.heap.size W w' := by
  obtain ⟨⟨p, q⟩, hs⟩ : ∃ s, supN g.a g.b ws = s := ⟨_, rfl⟩
  have HM : Hid (halfOf (g.a * q) (g.b * q) (g.c * q - p) = (m, v)) := by have := HM.out; unfold erF at this; rw [hs] at this; exact Lib.hid this
  have HSU := Lib.hid (fun W (R : R3 36 W A4 C4 ws) => support_eq kw k.ba k.bb hw R (Lib.hid hs))
  obtain ⟨_, hq, hp⟩ := sup_fr kw hw k.ba k.bb hs
  have h1 := k.ba
  have h2 := k.bb
  have h3 := k.bc
  have p1 := mul_bd (x := g.a) (y := q) (B := 5000000000) h1 (by omega)
  have p2 := mul_bd (x := g.b) (y := q) (B := 5000000000) h2 (by omega)
  have p3 := mul_bd (x := g.c) (y := q) (B := 5000000000) h3 (by omega)
  clear hs k kw hw
  go_enter Try.func82, Try.ntmps82
  go_wp2_with (first | (go_at_call 83; (first | (with_reducible refine (calls_ov2 (HSU.out _ (R.below (by repeat (first | exact bR | refine bO ?_ | refine bA ?_ | refine bS ?_ | refine bD ?_ | refine bN ?_))))).mono ?_) | refine (calls_ov (HSU.out _ (R.below (by repeat (first | exact bR | refine bO ?_ | refine bA ?_ | refine bS ?_ | refine bD ?_ | refine bN ?_))))).mono ?_); rintro e w' ⟨rfl, x, rfl⟩) | (go_at_call 48; (first | (with_reducible refine (calls_ov2 (impl_HalfOf_eq HM (by omega) (by omega) (by omega))).mono ?_) | refine (calls_ov (impl_HalfOf_eq HM (by omega) (by omega) (by omega))).mono ?_); rintro e w' ⟨rfl, x, rfl⟩))
  refine bodyPost_ret (v := .tuple #[.agg #[.int .i64 m.a, .int .i64 m.b, .int .i64 m.c], .bool v]) (by simp [results, Try.results82, go_sem]) rfl ⟨rfl, ?_⟩
  (repeat (first | exact bR | refine bO ?_ | refine bA ?_ | refine bS ?_ | refine bD ?_ | refine bN ?_))

set_option maxRecDepth 100000 in
set_option maxHeartbeats 4000000 in
theorem moved_erode {hs out : List H3} {ok : Bool} {A : Option Addr} {c : Nat} {w : World} {ws : List H3} {b4 : Nat} {A4 : Option Addr} {C4 : Nat} (kw : regionOk ws = true) (hw : ws ≠ []) (RW4 : R3 36 w A4 C4 ws) (c4 : w.cell? ⟨b4, 0, none⟩ = some (.slice A4 ws.length C4)) (l4 : b4 < w.heap.size) (G : ∀ g ∈ hs, HOk g) (R : R3 36 w A c hs) (hl : 0 < hs.length ∧ hs.length ≤ 300) (hr : Hid (movedF (erF ws) hs = (out, ok))) :
    Calls Try.prog 46 #[.agg #[.slice A hs.length c], .func (.func 82) #[] #[.pointer (some ⟨b4, 0, none⟩)]] w (RegPost w out ok) := by
  obtain ⟨i0, hi, hz0, hz1, hz2⟩ := info_parts info_half
  have hl0 := hl.1
  have hl1 := hl.2
  have hne : hs ≠ [] := List.length_pos_iff.1 hl.1
  obtain ⟨FX, hFX⟩ : ∃ FX, FX = (erF ws) := ⟨_, rfl⟩
  rw [← hFX] at hr
  obtain ⟨ms, hms⟩ : ∃ ms, hs.map (fun g => (FX g).1) = ms := ⟨_, rfl⟩
  have hml : ms.length = hs.length := by rw [← hms]; simp
  have hmk : ∀ k (h : k < hs.length), ms[k]? = some (FX hs[k]).1 := fun k h => by rw [← hms, List.getElem?_map, List.getElem?_eq_getElem h]; rfl
  have HR := hr.out
  unfold movedF at HR
  rw [if_neg hne, hms] at HR
  have HM := Lib.hid HR
  have HML := Lib.hid hml
  have HMK := Lib.hid hmk
  have HMS := Lib.hid hms
  have HF := Lib.hid hFX
  have HV : Hid (decide (hs.length = 0) = false) := Lib.hid (decide_eq_false (by omega))
  clear hr HR hms hml hmk hne hFX
  go_enter Try.func46, Try.ntmps46
  go_wp2_with ((go_at_call 13; (first | (with_reducible refine (calls_ov2 (IsVoid_eq HV)).mono ?_) | refine (calls_ov (IsVoid_eq HV)).mono ?_); rintro e w' ⟨rfl, x, rfl⟩))
  obtain ⟨W0, hW⟩ : ∃ W0, W0 = ov ((w.alloc (.cells #[.slice A hs.length c] 25)).alloc (.cells #[.slice none 0 0] 25)) x := ⟨_, rfl⟩
  rw [← hW]
  have T0 : Below w.heap.size w W0 := by rw [hW]; exact (by repeat (first | exact bR | refine bO ?_ | refine bA ?_ | refine bS ?_ | refine bD ?_ | refine bN ?_))
  have X2 := Lib.hid (show W0.heap[w.heap.size + 1]? = some (.cells #[.slice none 0 0] 25 (0, 0)) by rw [hW]; exact ov_blk (heap_new_at (by simp) rfl))
  clear hW
  have t0 := T0.size
  have hb2 : w.heap.size ≤ w.heap.size + 1 := by omega
  generalize w.heap.size + 1 = b2 at X2 hb2 ⊢
  have RW := R.below T0
  go_loopw [6, 17] (fun o i wr => ∃ (k : Nat) (A' : Option Addr) (c' : Nat), k ≤ hs.length ∧ i = .int .i64 k ∧ o = .slice A' k c' ∧ Hid ((hs.take k).all (fun g => (FX g).2) = true) ∧ RB W0.heap.size 36 wr A' c' (ms.take k) ∧ Below W0.heap.size W0 wr) (fun _ i _ => hs.length - (intOf i).toNat)
  case atStart => exact ⟨0, none, 0, Nat.zero_le _, rfl, rfl, Lib.hid rfl, RB.nil _ _ _, Below.refl _ _⟩
  case round =>
    obtain ⟨k, A', c', hk, rfl, rfl, HA, RO, hb⟩ := hrel
    have hbs := hb.size
    have htl : (ms.take k).length = k := by have := HML.out; simp; omega
    have T1 := T0.trans (hb.mono t0)
    have X3 := box_below X2 hb
    have hX2 := (Array.getElem?_eq_some_iff.1 X3.out).1
    by_cases hlt : k < hs.length
    · obtain ⟨g0, rfl, hg0, z0, z1, z2⟩ := (RW.below hb).at_ hlt
      have kg := G _ (List.getElem_mem hlt)
      have HE := Lib.hid (HMK.out k hlt)
      have HT := Lib.hid (all_take_succ (fun g => (FX g).2) hs k hlt)
      obtain ⟨⟨m, b⟩, hmb⟩ : ∃ m, FX hs[k] = m := ⟨_, rfl⟩
      have hmb' := hmb
      rw [HF.out] at hmb'
      have HS : ∀ W, Below wr.heap.size wr W → _ := fun W hW => erode_step (W := W) kg (Lib.hid hmb') kw hw (RW4.below (T1.trans (hW.mono T1.size))) ((hW.cell (p := ⟨b4, 0, none⟩) (by have := T1.size; show b4 < wr.heap.size; omega)).trans ((T1.cell (p := ⟨b4, 0, none⟩) l4).trans c4)) (by have := T1.size; have := hW.size; omega)
      have HN := Lib.hid (show ms.take (k + 1) = ms.take k ++ [m] by
        obtain ⟨h1, h2⟩ := List.getElem?_eq_some_iff.1 HE.out
        rw [List.take_succ_eq_append_getElem h1, h2, hmb])
      have HB := Lib.hid (show (FX hs[k]).2 = b by rw [hmb])
      clear hmb hmb' HE
      have OV : wr.ownsRow W0.heap.size 36 3 (.slice A' k c') k (cells3 (ms.take k)) := by unfold RB at RO; rw [htl] at RO; exact RO
      cases b with
      | true =>
        go_wp2_with (first | (go_at_call 82; (first | (with_reducible refine (calls_ov2 (HS _ (by repeat (first | exact bR | refine bO ?_ | refine bA ?_ | refine bS ?_ | refine bD ?_ | refine bN ?_)))).mono ?_) | refine (calls_ov (HS _ (by repeat (first | exact bR | refine bO ?_ | refine bA ?_ | refine bS ?_ | refine bD ?_ | refine bN ?_)))).mono ?_); rintro e w' ⟨rfl, x, rfl⟩) | (at_builtin; refine wpList_append_own _ rfl _ _ 23 rfl W0.heap.size 36 i0 (.agg #[.int .i64 0, .int .i64 0, .int .i64 0]) 3 24 Try.underlying23 hi hz0 hz1 hz2 rfl (by decide) _ _ _ rfl (OV.below' (by repeat (first | exact bR | refine bO ?_ | refine bA ?_ | refine bS ?_ | refine bD ?_ | refine bN ?_))) ⟨_, 0, none⟩ 1 1 (cells3 [m]) rfl rfl (news_at (heap_new_at (by simp) rfl)) (cells3_one _) (by unfold maxLen; omega) (by omega) (by simp [ov_size]; omega) ?_; intro v2 w2 O2 hg2 _; obtain ⟨A5, c5, rfl, RO5⟩ := own_slice2 HN.out htl O2; have HG := Lib.hid hg2; clear hg2 O2))
        go_roundw
        case rel => exact ⟨k + 1, A5, c5, by omega, by go_num, by go_num, Lib.hid (by rw [HT.out, HA.out, HB.out]; rfl), RO5, grown_below (B := W0.heap.size) (by repeat (first | exact hb | refine bO ?_ | refine bA ?_ | refine bS ?_ | refine bD ?_ | refine bN ?_)) HG.out (fun k' hk' => (OV.lt k' hk').1) (Nat.le_refl _)⟩
        case measure => simp [intOf] <;> omega
      | false =>
        have hr0 := HM.out
        have hall : hs.all (fun g => (FX g).2) = false := by
          rw [List.all_eq_false]
          exact ⟨hs[k], List.getElem_mem hlt, by rw [HB.out]; simp⟩
        rw [if_neg (by rw [hall]; simp)] at hr0
        simp at hr0
        obtain ⟨rfl, rfl⟩ := hr0
        clear hall
        have x2 := cell_blk (j := 0) (v := .slice none 0 0) X3.out rfl
        have f2 := frozen_blk (j := 0) X3.out
        go_wp2_with (first | (go_at_call 82; (first | (with_reducible refine (calls_ov2 (HS _ (by repeat (first | exact bR | refine bO ?_ | refine bA ?_ | refine bS ?_ | refine bD ?_ | refine bN ?_)))).mono ?_) | refine (calls_ov (HS _ (by repeat (first | exact bR | refine bO ?_ | refine bA ?_ | refine bS ?_ | refine bD ?_ | refine bN ?_)))).mono ?_); rintro e w' ⟨rfl, x, rfl⟩))
        refine bodyPost_ret (v := .tuple #[.agg #[.slice none 0 0], .bool false]) (by simp [results, Try.results46, go_sem, x2, hX2]) rfl ⟨none, 0, rfl, RB.nil _ _ _, ?_⟩
        exact (by repeat (first | exact T1 | refine bO ?_ | refine bA ?_ | refine bS ?_ | refine bD ?_ | refine bN ?_))
    · obtain rfl : k = hs.length := by omega
      have hfull : ms.take hs.length = ms := by rw [← HML.out, List.take_length]
      rw [hfull] at RO
      have hall := HA.out
      rw [List.take_length] at hall
      have HL := HML.out
      have hr0 := HM.out
      rw [if_pos hall] at hr0
      have HM2 := Lib.hid hr0
      have GM : ∀ g ∈ ms, HOk g := fun g hg => by
        rw [← HMS.out] at hg
        obtain ⟨y, hy, rfl⟩ := List.mem_map.1 hg
        have h2 := List.all_eq_true.1 hall y hy
        rw [HF.out] at h2 ⊢
        exact halfOf_ok rfl h2
      clear hr0 hall
      go_wp2_with fail
      refine (meetAll_eqn (n := hs.length) HL GM RO.r3 (by omega) HM2).mono ?_
      rintro e w2 ⟨A2', c2', rfl, R2', hb2'⟩
      have T2 : Below w.heap.size w w2 := T1.trans (hb2'.mono T1.size)
      have X4 := box_below X3 hb2'
      have HR1 := R2'.weak (B' := w.heap.size) T1.size
      clear X3 X2 hb2' R2' RO hX2
      have x2 := cell_blk (j := 0) (v := .slice none 0 0) X4.out rfl
      have f2 := frozen_blk (j := 0) X4.out
      have l2 := (Array.getElem?_eq_some_iff.1 X4.out).1
      go_wp2
      refine bodyPost_ret (v := .tuple #[.agg #[.slice A2' out.length c2'], .bool ok]) (by simp [results, Try.results46, go_sem, x2, l2]) rfl ⟨A2', c2', rfl, HR1.set_box X4.out (by decide), T2.setCell (show w.heap.size ≤ b2 from hb2) _⟩

def erodeR (ps ws : List H3) : List H3 × Bool := if ws ≠ [] ∧ regionOk ps = true ∧ regionOk ws = true then movedF (erF ws) ps else ([], false)
theorem erodeR_short {ps ws out : List H3} {ok : Bool} (h : erodeR ps ws = (out, ok)) : out.length ≤ 1000 := by
  unfold erodeR at h
  split at h
  · have := movedF_short h; omega
  · simp at h; rw [h.1]; simp
set_option maxRecDepth 100000 in
set_option maxHeartbeats 4000000 in
theorem erode_eq {hs ws out : List H3} {ok : Bool} {A Am : Option Addr} {c cm : Nat} {w : World} (kw : regionOk ws = true) (hw : ws ≠ []) (RW : R3 36 w Am cm ws) (R : R3 36 w A c hs) (kp : regionOk hs = true) (hr : Hid (movedF (erF ws) hs = (out, ok))) :
    Calls Try.prog 58 #[.agg #[.slice A hs.length c], .agg #[.slice Am ws.length cm]] w (RegPost w out ok) := by
  have key : ∀ W b4, Below w.heap.size w W → W.cell? ⟨b4, 0, none⟩ = some (.slice Am ws.length cm) → b4 < W.heap.size → Calls Try.prog 46 #[.agg #[.slice A hs.length c], .func (.func 82) #[] #[.pointer (some ⟨b4, 0, none⟩)]] W (RegPost W out ok) := fun W b4 T c4 l4 => by
    have hr' := hr.out
    by_cases h0 : hs = []
    · unfold movedF at hr'
      rw [if_pos h0] at hr'
      simp at hr'
      obtain ⟨rfl, rfl⟩ := hr'
      exact moved_void (Lib.hid (by rw [h0]; rfl))
    · obtain ⟨G, _, h40⟩ := regionOk_parts kp h0
      exact moved_erode kw hw (RW.below T) c4 l4 G (R.below T) ⟨List.length_pos_iff.2 h0, by omega⟩ (Lib.hid hr')
  have KEY := Lib.hid key
  clear key kw hw kp hr
  go_enter Try.func58, Try.ntmps58
  go_wp2_with fail
  obtain ⟨W0, hW⟩ : ∃ W0, W0 = ((w.alloc (.cells #[.slice A hs.length c] 25)).alloc (.cells #[.slice Am ws.length cm] 25)).alloc (.cells #[.slice none 0 0] 25) := ⟨_, rfl⟩
  rw [← hW]
  have T0 : Below w.heap.size w W0 := by rw [hW]; exact (by repeat (first | exact bR | refine bO ?_ | refine bA ?_ | refine bS ?_ | refine bD ?_ | refine bN ?_))
  have X1 : W0.heap[w.heap.size + 1]? = some (.cells #[.slice Am ws.length cm] 25 (0, 0)) := by rw [hW]; exact ((heap_old_at (by simp)).trans (heap_new_at (by simp) rfl))
  have X3 := Lib.hid (show W0.heap[w.heap.size + 1 + 1]? = some (.cells #[.slice none 0 0] 25 (0, 0)) by rw [hW]; exact (heap_new_at (by simp) rfl))
  refine (KEY.out W0 _ T0 (cell_blk (j := 0) X1 rfl) (Array.getElem?_eq_some_iff.1 X1).1).mono ?_
  rintro en w2 ⟨A2', c2', rfl, R2', hb2'⟩
  have T2 : Below w.heap.size w w2 := T0.trans (hb2'.mono T0.size)
  have X4 := box_below X3 hb2'
  have HR1 := R2'.weak (B' := w.heap.size) T0.size
  have hb2 : w.heap.size ≤ w.heap.size + 1 + 1 := by omega
  clear hb2' R2' X1 X3 hW T0
  generalize w.heap.size + 1 + 1 = b2 at X4 hb2 ⊢
  have x2 := cell_blk (j := 0) (v := .slice none 0 0) X4.out rfl
  have f2 := frozen_blk (j := 0) X4.out
  have l2 := (Array.getElem?_eq_some_iff.1 X4.out).1
  go_wp2
  refine bodyPost_ret (v := .tuple #[.agg #[.slice A2' out.length c2'], .bool ok]) (by simp [results, Try.results58, go_sem, x2, l2]) rfl ⟨A2', c2', rfl, HR1.set_box X4.out (by decide), T2.setCell (show w.heap.size ≤ b2 from hb2) _⟩

set_option maxRecDepth 100000 in
set_option maxHeartbeats 4000000 in
theorem impl_ErodeRegion_eq {hs ws out : List H3} {ok : Bool} {A Am : Option Addr} {c cm : Nat} {w : World} (R : R3 36 w A c hs) (hl : hs.length ≤ 1000000000) (RW : R3 36 w Am cm ws) (hlw : ws.length ≤ 1000000000) (hr : Hid (erodeR hs ws = (out, ok))) :
    Calls Try.prog 29 #[.agg #[.slice A hs.length c], .agg #[.slice Am ws.length cm]] w (RegPost w out ok) := by
  have hr' := hr.out
  clear hr
  obtain ⟨rk, hrk⟩ : ∃ v, regionOk hs = v := ⟨_, rfl⟩
  obtain ⟨wk, hwk⟩ : ∃ v, regionOk ws = v := ⟨_, rfl⟩
  obtain ⟨vk, hvk⟩ : ∃ v, decide (ws.length = 0) = v := ⟨_, rfl⟩
  have HRK := Lib.hid hrk
  have HWK := Lib.hid hwk
  have HVK := Lib.hid hvk
  have hne : vk = false ↔ ws ≠ [] := by rw [← hvk, decide_eq_false_iff_not]; exact ⟨fun h e => h (by rw [e]; rfl), fun h e => h (List.length_eq_zero_iff.1 e)⟩
  unfold erodeR at hr'
  rw [hrk, hwk] at hr'
  by_cases hall : vk = false ∧ rk = true ∧ wk = true
  · obtain ⟨rfl, rfl, rfl⟩ := hall
    have hw := hne.1 rfl
    rw [if_pos ⟨hw, rfl, rfl⟩] at hr'
    have HR := Lib.hid hr'
    clear hr' hrk hne hvk
    go_enter Try.func29, Try.ntmps29
    go_wp2_with (first | (go_at_call 13; (first | (with_reducible refine (calls_ov2 (IsVoid_eq HVK)).mono ?_) | refine (calls_ov (IsVoid_eq HVK)).mono ?_); rintro e w' ⟨rfl, x, rfl⟩) | (go_at_call 30; (first | (with_reducible refine (calls_ov2 (impl_RegionOk_eq (by first | exact R.below (by repeat (first | exact bR | refine bO ?_ | refine bA ?_ | refine bS ?_ | refine bD ?_ | refine bN ?_)) | exact RW.below (by repeat (first | exact bR | refine bO ?_ | refine bA ?_ | refine bS ?_ | refine bD ?_ | refine bN ?_))) (by omega) (by first | exact HRK | exact HWK))).mono ?_) | refine (calls_ov (impl_RegionOk_eq (by first | exact R.below (by repeat (first | exact bR | refine bO ?_ | refine bA ?_ | refine bS ?_ | refine bD ?_ | refine bN ?_)) | exact RW.below (by repeat (first | exact bR | refine bO ?_ | refine bA ?_ | refine bS ?_ | refine bD ?_ | refine bN ?_))) (by omega) (by first | exact HRK | exact HWK))).mono ?_); rintro e w' ⟨rfl, x, rfl⟩))
    refine (erode_eq HWK.out hw (RW.below (by repeat (first | exact bR | refine bO ?_ | refine bA ?_ | refine bS ?_ | refine bD ?_ | refine bN ?_))) (R.below (by repeat (first | exact bR | refine bO ?_ | refine bA ?_ | refine bS ?_ | refine bD ?_ | refine bN ?_))) HRK.out HR).mono ?_
    rintro en w2 ⟨A2', c2', rfl, R2', hb2'⟩
    have T2 : Below w.heap.size w w2 := Below.trans (by repeat (first | exact bR | refine bO ?_ | refine bA ?_ | refine bS ?_ | refine bD ?_ | refine bN ?_)) (hb2'.mono (by simp [ov_size]; omega))
    have X4 := Lib.hid ((hb2'.block (w.heap.size + 1 + 1) (by simp [ov_size]; omega)).trans (ov_blk (heap_new_at (r := some (.cells #[.slice none 0 0] 25 (0, 0))) (by simp) rfl)))
    have HR1 := R2'.weak (B' := w.heap.size) (by simp [ov_size]; omega)
    have hb2 : w.heap.size ≤ w.heap.size + 1 + 1 := by omega
    clear hb2' R2'
    generalize w.heap.size + 1 + 1 = b2 at X4 hb2 ⊢
    have x2 := cell_blk (j := 0) (v := .slice none 0 0) X4.out rfl
    have f2 := frozen_blk (j := 0) X4.out
    have l2 := (Array.getElem?_eq_some_iff.1 X4.out).1
    go_wp2
    refine bodyPost_ret (v := .tuple #[.agg #[.slice A2' out.length c2'], .bool ok]) (by simp [results, Try.results29, go_sem, x2, l2]) rfl ⟨A2', c2', rfl, HR1.set_box X4.out (by decide), T2.setCell (show w.heap.size ≤ b2 from hb2) _⟩
  · have hno : ¬ (ws ≠ [] ∧ rk = true ∧ wk = true) := fun h => hall ⟨hne.2 h.1, h.2⟩
    rw [if_neg hno] at hr'
    simp at hr'
    obtain ⟨rfl, rfl⟩ := hr'
    have hc : vk = true ∨ (vk = false ∧ rk = false) ∨ (vk = false ∧ rk = true ∧ wk = false) := by cases vk <;> cases rk <;> cases wk <;> simp at hall ⊢
    clear hall hno hrk hwk hvk hne
    rcases hc with rfl | ⟨rfl, rfl⟩ | ⟨rfl, rfl, rfl⟩
    all_goals
      go_enter Try.func29, Try.ntmps29
      go_wp2_with (first | (go_at_call 13; (first | (with_reducible refine (calls_ov2 (IsVoid_eq HVK)).mono ?_) | refine (calls_ov (IsVoid_eq HVK)).mono ?_); rintro e w' ⟨rfl, x, rfl⟩) | (go_at_call 30; (first | (with_reducible refine (calls_ov2 (impl_RegionOk_eq (by first | exact R.below (by repeat (first | exact bR | refine bO ?_ | refine bA ?_ | refine bS ?_ | refine bD ?_ | refine bN ?_)) | exact RW.below (by repeat (first | exact bR | refine bO ?_ | refine bA ?_ | refine bS ?_ | refine bD ?_ | refine bN ?_))) (by omega) (by first | exact HRK | exact HWK))).mono ?_) | refine (calls_ov (impl_RegionOk_eq (by first | exact R.below (by repeat (first | exact bR | refine bO ?_ | refine bA ?_ | refine bS ?_ | refine bD ?_ | refine bN ?_)) | exact RW.below (by repeat (first | exact bR | refine bO ?_ | refine bA ?_ | refine bS ?_ | refine bD ?_ | refine bN ?_))) (by omega) (by first | exact HRK | exact HWK))).mono ?_); rintro e w' ⟨rfl, x, rfl⟩))
      refine bodyPost_ret (v := .tuple #[.agg #[.slice none 0 0], .bool false]) (by simp [results, Try.results29, go_sem]) rfl ⟨none, 0, rfl, RB.nil _ _ _, (by repeat (first | exact bR | refine bO ?_ | refine bA ?_ | refine bS ?_ | refine bD ?_ | refine bN ?_))⟩
end Go.Proofs.Ytabmfaamadbefaa
