/- Contracts of ShiftRegion, of the program and of the reference. Condition: the steps are ints. -/
import Derived.Test.YtnenlgaafiifpaaMv
set_option linter.unusedSimpArgs false
set_option linter.unusedVariables false
set_option linter.unusedSectionVars false
namespace Go.Proofs.Ytnenlgaafiifpaa
open Go.RowKit

def movedF (F : H3 → H3 × Bool) (hs : List H3) : List H3 × Bool := if hs = [] then ([], true) else if hs.all (fun g => (F g).2) = true then meetR (hs.map fun g => (F g).1) else ([], false)
theorem movedF_short {F : H3 → H3 × Bool} {hs out : List H3} {ok : Bool} (h : movedF F hs = (out, ok)) : out.length ≤ 40 := by
  unfold movedF at h
  split at h
  · simp at h; rw [h.1]; simp
  · split at h
    · exact meetR_short h
    · simp at h; rw [h.1]; simp
theorem halfOf_ok {a b c : Int} {h : H3} {v : Bool} (e : halfOf a b c = (h, v)) (hv : v = true) : HOk h := by
  subst hv
  unfold halfOf at e
  split at e
  · simp at e
  · split at e
    · rename_i hk
      injection e with e _
      rw [← e]
      exact (halfOk_iff _).1 hk
    · simp at e
def shiftF (dx dy : Int) (g : H3) : H3 × Bool := halfOf g.a g.b (g.c + g.a * dx + g.b * dy)
structure StepBd (dx dy : Int) : Prop where
  bx : -2000 ≤ dx ∧ dx ≤ 2000
  bY : -2000 ≤ dy ∧ dy ≤ 2000
theorem shift_step {g m : H3} {b : Bool} {dx dy : Int} {b4 b5 : Nat} {W : World} (k : HOk g) (e : Hid (shiftF dx dy g = (m, b))) (B : StepBd dx dy) (c4 : W.cell? ⟨b4, 0, none⟩ = some (.int .i64 dx)) (c5 : W.cell? ⟨b5, 0, none⟩ = some (.int .i64 dy)) (l4 : b4 < W.heap.size) (l5 : b5 < W.heap.size) :
    Calls Try.prog 83 #[.agg #[.int .i64 g.a, .int .i64 g.b, .int .i64 g.c], .pointer (some ⟨b4, 0, none⟩), .pointer (some ⟨b5, 0, none⟩)] W fun e w' => e = .returned (.tuple #[.agg #[.int .i64 m.a, .int .i64 m.b, .int .i64 m.c], .bool b]) ∧ Below W.heap.size W w' := by
  have h1 := k.ba
  have h2 := k.bb
  have h3 := k.bc
  have p1 := mul_bd (x := g.a) (y := dx) h1 B.bx
  have p2 := mul_bd (x := g.b) (y := dy) h2 B.bY
  have HM : Hid (halfOf g.a g.b (g.c + g.a * dx + g.b * dy) = (m, b)) := e
  go_enter Try.func83, Try.ntmps83
  go_wp2_with ((go_at_call 78; (first | (with_reducible refine (calls_ov2 (impl_HalfOf_eq HM (by omega) (by omega) (by omega))).mono ?_) | refine (calls_ov (impl_HalfOf_eq HM (by omega) (by omega) (by omega))).mono ?_); rintro e w' ⟨rfl, x, rfl⟩))
  refine bodyPost_ret (v := .tuple #[.agg #[.int .i64 m.a, .int .i64 m.b, .int .i64 m.c], .bool b]) (by simp [results, Try.results83, go_sem]) rfl ⟨rfl, ?_⟩
  (repeat (first | exact Below.refl _ _ | refine below_ov _ _ ?_ (by first | omega | (simp [ov_size] <;> omega)) | refine Below.alloc ?_ (by first | omega | (simp [ov_size] <;> omega)) _ | refine Below.setCell ?_ (by first | omega | (simp [ov_size] <;> omega)) _ | refine Below.drew ?_ | refine below_drewN ?_ _))

set_option maxRecDepth 100000 in
set_option maxHeartbeats 4000000 in
theorem moved_shift {hs out : List H3} {ok : Bool} {A : Option Addr} {c : Nat} {w : World} {dx dy : Int} {b4 b5 : Nat} (SB : StepBd dx dy) (c4 : w.cell? ⟨b4, 0, none⟩ = some (.int .i64 dx)) (c5 : w.cell? ⟨b5, 0, none⟩ = some (.int .i64 dy)) (l4 : b4 < w.heap.size) (l5 : b5 < w.heap.size) (G : ∀ g ∈ hs, HOk g) (R : R3 38 w A c hs) (hl : 0 < hs.length ∧ hs.length ≤ 300) (hr : Hid (movedF (shiftF dx dy) hs = (out, ok))) :
    Calls Try.prog 76 #[.agg #[.slice A hs.length c], .func (.func 83) #[] #[.pointer (some ⟨b4, 0, none⟩), .pointer (some ⟨b5, 0, none⟩)]] w (RegPost w out ok) := by
  obtain ⟨i0, hi, hz0, hz1, hz2⟩ := info_parts info_half
  have hl0 := hl.1
  have hl1 := hl.2
  have hne : hs ≠ [] := List.length_pos_iff.1 hl.1
  obtain ⟨FX, hFX⟩ : ∃ FX, FX = (shiftF dx dy) := ⟨_, rfl⟩
  rw [← hFX] at hr
  obtain ⟨ms, hms⟩ : ∃ ms, hs.map (fun g => (FX g).1) = ms := ⟨_, rfl⟩
  have hml : ms.length = hs.length := by rw [← hms]; simp
  have hmk : ∀ k (h : k < hs.length), ms[k]? = some (FX hs[k]).1 := fun k h => by rw [← hms, List.getElem?_map, List.getElem?_eq_getElem h]; rfl
  have HR := hr.out
  unfold movedF at HR
  rw [if_neg hne, hms] at HR
  have HM := Lib.hid HR
  have HML := Lib.hid hml
  have HMK := Lib.hid hmk
  have HMS := Lib.hid hms
  have HF := Lib.hid hFX
  have HV : Hid (decide (hs.length = 0) = false) := Lib.hid (decide_eq_false (by omega))
  clear hr HR hms hml hmk hne hFX
  go_enter Try.func76, Try.ntmps76
  go_wp2_with ((go_at_call 62; (first | (with_reducible refine (calls_ov2 (IsVoid_eq HV)).mono ?_) | refine (calls_ov (IsVoid_eq HV)).mono ?_); rintro e w' ⟨rfl, x, rfl⟩))
  obtain ⟨W0, hW⟩ : ∃ W0, W0 = ov ((w.alloc (.cells #[.slice A hs.length c] 28)).alloc (.cells #[.slice none 0 0] 28)) x := ⟨_, rfl⟩
  rw [← hW]
  have T0 : Below w.heap.size w W0 := by rw [hW]; exact (by repeat (first | exact Below.refl _ _ | refine below_ov _ _ ?_ (by first | omega | (simp [ov_size] <;> omega)) | refine Below.alloc ?_ (by first | omega | (simp [ov_size] <;> omega)) _ | refine Below.setCell ?_ (by first | omega | (simp [ov_size] <;> omega)) _ | refine Below.drew ?_ | refine below_drewN ?_ _))
  have X2 := Lib.hid (show W0.heap[w.heap.size + 1]? = some (.cells #[.slice none 0 0] 28 (0, 0)) by rw [hW]; exact ov_blk (heap_new_at (by simp) rfl))
  clear hW
  have t0 := T0.size
  have hb2 : w.heap.size ≤ w.heap.size + 1 := by omega
  generalize w.heap.size + 1 = b2 at X2 hb2 ⊢
  have RW := R.below T0
  go_loopw [6, 17] (fun o i wr => ∃ (k : Nat) (A' : Option Addr) (c' : Nat), k ≤ hs.length ∧ i = .int .i64 k ∧ o = .slice A' k c' ∧ Hid ((hs.take k).all (fun g => (FX g).2) = true) ∧ RB W0.heap.size 38 wr A' c' (ms.take k) ∧ Below W0.heap.size W0 wr) (fun _ i _ => hs.length - (intOf i).toNat)
  case atStart => exact ⟨0, none, 0, Nat.zero_le _, rfl, rfl, Lib.hid rfl, RB.nil _ _ _, Below.refl _ _⟩
  case round =>
    obtain ⟨k, A', c', hk, rfl, rfl, HA, RO, hb⟩ := hrel
    have hbs := hb.size
    have htl : (ms.take k).length = k := by have := HML.out; simp; omega
    have T1 := T0.trans (hb.mono t0)
    have X3 := box_below X2 hb
    have hX2 := (Array.getElem?_eq_some_iff.1 X3.out).1
    by_cases hlt : k < hs.length
    · obtain ⟨g0, rfl, hg0, z0, z1, z2⟩ := (RW.below hb).at_ hlt
      have kg := G _ (List.getElem_mem hlt)
      have HE := Lib.hid (HMK.out k hlt)
      have HT := Lib.hid (all_take_succ (fun g => (FX g).2) hs k hlt)
      obtain ⟨⟨m, b⟩, hmb⟩ : ∃ m, FX hs[k] = m := ⟨_, rfl⟩
      have hmb' := hmb
      rw [HF.out] at hmb'
      have HS : ∀ W, Below wr.heap.size wr W → _ := fun W hW => shift_step (W := W) kg (Lib.hid hmb') SB ((hW.cell (p := ⟨b4, 0, none⟩) (by have := T1.size; show b4 < wr.heap.size; omega)).trans ((T1.cell (p := ⟨b4, 0, none⟩) l4).trans c4)) ((hW.cell (p := ⟨b5, 0, none⟩) (by have := T1.size; show b5 < wr.heap.size; omega)).trans ((T1.cell (p := ⟨b5, 0, none⟩) l5).trans c5)) (by have := T1.size; have := hW.size; omega) (by have := T1.size; have := hW.size; omega)
      have HN := Lib.hid (show ms.take (k + 1) = ms.take k ++ [m] by
        obtain ⟨h1, h2⟩ := List.getElem?_eq_some_iff.1 HE.out
        rw [List.take_succ_eq_append_getElem h1, h2, hmb])
      have HB := Lib.hid (show (FX hs[k]).2 = b by rw [hmb])
      clear hmb hmb' HE
      have OV : wr.ownsRow W0.heap.size 38 3 (.slice A' k c') k (cells3 (ms.take k)) := by unfold RB at RO; rw [htl] at RO; exact RO
      cases b with
      | true =>
        go_wp2_with (first | (go_at_call 83; (first | (with_reducible refine (calls_ov2 (HS _ (by repeat (first | exact Below.refl _ _ | refine below_ov _ _ ?_ (by first | omega | (simp [ov_size] <;> omega)) | refine Below.alloc ?_ (by first | omega | (simp [ov_size] <;> omega)) _ | refine Below.setCell ?_ (by first | omega | (simp [ov_size] <;> omega)) _ | refine Below.drew ?_ | refine below_drewN ?_ _)))).mono ?_) | refine (calls_ov (HS _ (by repeat (first | exact Below.refl _ _ | refine below_ov _ _ ?_ (by first | omega | (simp [ov_size] <;> omega)) | refine Below.alloc ?_ (by first | omega | (simp [ov_size] <;> omega)) _ | refine Below.setCell ?_ (by first | omega | (simp [ov_size] <;> omega)) _ | refine Below.drew ?_ | refine below_drewN ?_ _)))).mono ?_); rintro e w' ⟨rfl, x, rfl⟩) | (at_builtin; refine wpList_append_own _ rfl _ _ 26 rfl W0.heap.size 38 i0 (.agg #[.int .i64 0, .int .i64 0, .int .i64 0]) 3 24 Try.underlying26 hi hz0 hz1 hz2 rfl (by decide) _ _ _ rfl (OV.below' (by repeat (first | exact Below.refl _ _ | refine below_ov _ _ ?_ (by first | omega | (simp [ov_size] <;> omega)) | refine Below.alloc ?_ (by first | omega | (simp [ov_size] <;> omega)) _ | refine Below.setCell ?_ (by first | omega | (simp [ov_size] <;> omega)) _ | refine Below.drew ?_ | refine below_drewN ?_ _))) ⟨_, 0, none⟩ 1 1 (cells3 [m]) rfl rfl (news_at (heap_new_at (by simp) rfl)) (cells3_one _) (by unfold maxLen; omega) (by omega) (by simp [ov_size]; omega) ?_; intro v2 w2 O2 hg2 _; obtain ⟨A5, c5, rfl, RO5⟩ := own_slice2 HN.out htl O2; have HG := Lib.hid hg2; clear hg2 O2))
        go_roundw
        case rel => exact ⟨k + 1, A5, c5, by omega, by go_num, by go_num, Lib.hid (by rw [HT.out, HA.out, HB.out]; rfl), RO5, grown_below (B := W0.heap.size) (by repeat (first | exact hb | refine below_ov _ _ ?_ (by first | omega | (simp [ov_size] <;> omega)) | refine Below.alloc ?_ (by first | omega | (simp [ov_size] <;> omega)) _ | refine Below.setCell ?_ (by first | omega | (simp [ov_size] <;> omega)) _ | refine Below.drew ?_ | refine below_drewN ?_ _)) HG.out (fun k' hk' => (OV.lt k' hk').1) (Nat.le_refl _)⟩
        case measure => simp [intOf] <;> omega
      | false =>
        have hr0 := HM.out
        have hall : hs.all (fun g => (FX g).2) = false := by
          rw [List.all_eq_false]
          exact ⟨hs[k], List.getElem_mem hlt, by rw [HB.out]; simp⟩
        rw [if_neg (by rw [hall]; simp)] at hr0
        simp at hr0
        obtain ⟨rfl, rfl⟩ := hr0
        clear hall
        have x2 := cell_blk (j := 0) (v := .slice none 0 0) X3.out rfl
        have f2 := frozen_blk (j := 0) X3.out
        go_wp2_with (first | (go_at_call 83; (first | (with_reducible refine (calls_ov2 (HS _ (by repeat (first | exact Below.refl _ _ | refine below_ov _ _ ?_ (by first | omega | (simp [ov_size] <;> omega)) | refine Below.alloc ?_ (by first | omega | (simp [ov_size] <;> omega)) _ | refine Below.setCell ?_ (by first | omega | (simp [ov_size] <;> omega)) _ | refine Below.drew ?_ | refine below_drewN ?_ _)))).mono ?_) | refine (calls_ov (HS _ (by repeat (first | exact Below.refl _ _ | refine below_ov _ _ ?_ (by first | omega | (simp [ov_size] <;> omega)) | refine Below.alloc ?_ (by first | omega | (simp [ov_size] <;> omega)) _ | refine Below.setCell ?_ (by first | omega | (simp [ov_size] <;> omega)) _ | refine Below.drew ?_ | refine below_drewN ?_ _)))).mono ?_); rintro e w' ⟨rfl, x, rfl⟩))
        refine bodyPost_ret (v := .tuple #[.agg #[.slice none 0 0], .bool false]) (by simp [results, Try.results76, go_sem, x2, hX2]) rfl ⟨none, 0, rfl, RB.nil _ _ _, ?_⟩
        exact (by repeat (first | exact T1 | refine below_ov _ _ ?_ (by first | omega | (simp [ov_size] <;> omega)) | refine Below.alloc ?_ (by first | omega | (simp [ov_size] <;> omega)) _ | refine Below.setCell ?_ (by first | omega | (simp [ov_size] <;> omega)) _ | refine Below.drew ?_ | refine below_drewN ?_ _))
    · obtain rfl : k = hs.length := by omega
      have hfull : ms.take hs.length = ms := by rw [← HML.out, List.take_length]
      rw [hfull] at RO
      have hall := HA.out
      rw [List.take_length] at hall
      have HL := HML.out
      have hr0 := HM.out
      rw [if_pos hall] at hr0
      have HM2 := Lib.hid hr0
      have GM : ∀ g ∈ ms, HOk g := fun g hg => by
        rw [← HMS.out] at hg
        obtain ⟨y, hy, rfl⟩ := List.mem_map.1 hg
        have h2 := List.all_eq_true.1 hall y hy
        rw [HF.out] at h2 ⊢
        exact halfOf_ok rfl h2
      clear hr0 hall
      go_wp2_with fail
      refine (meetAll_eqn (n := hs.length) HL GM RO.r3 (by omega) HM2).mono ?_
      rintro e w2 ⟨A2', c2', rfl, R2', hb2'⟩
      have T2 : Below w.heap.size w w2 := T1.trans (hb2'.mono T1.size)
      have X4 := box_below X3 hb2'
      have HR1 := R2'.weak (B' := w.heap.size) T1.size
      clear X3 X2 hb2' R2' RO hX2
      have x2 := cell_blk (j := 0) (v := .slice none 0 0) X4.out rfl
      have f2 := frozen_blk (j := 0) X4.out
      have l2 := (Array.getElem?_eq_some_iff.1 X4.out).1
      go_wp2
      refine bodyPost_ret (v := .tuple #[.agg #[.slice A2' out.length c2'], .bool ok]) (by simp [results, Try.results76, go_sem, x2, l2]) rfl ⟨A2', c2', rfl, HR1.set_box X4.out (by decide), T2.setCell (show w.heap.size ≤ b2 from hb2) _⟩

def shiftR (dx dy : Int) (hs : List H3) : List H3 × Bool := if regionOk hs = true ∧ inR dx (-2000) 2000 = true ∧ inR dy (-2000) 2000 = true then movedF (shiftF dx dy) hs else ([], false)
theorem shiftR_short {dx dy : Int} {hs out : List H3} {ok : Bool} (h : shiftR dx dy hs = (out, ok)) : out.length ≤ 1000 := by
  unfold shiftR at h
  split at h
  · have := movedF_short h; omega
  · simp at h; rw [h.1]; simp
theorem isStep_eq {n : Int} {v : Bool} {w : World} (h : inR n (-2000) 2000 = v) : Calls Try.prog 82 #[.int .i64 n] w fun e w' => e = .returned (.bool v) ∧ w = w' := by
  go_enter Try.func82, Try.ntmps82
  go_wp2_with ((go_at_call 115; refine (inRange_eq h).mono ?_; rintro e w' ⟨rfl, rfl⟩))
  go_ret
  exact ⟨rfl, rfl⟩

set_option maxRecDepth 100000 in
set_option maxHeartbeats 4000000 in
theorem impl_ShiftRegion_eq {hs out : List H3} {ok : Bool} {dx dy : Int} {A : Option Addr} {c : Nat} {w : World} (R : R3 38 w A c hs) (hl : hs.length ≤ 1000000000) (hdx : -9223372036854775808 ≤ dx ∧ dx ≤ 9223372036854775807) (hdy : -9223372036854775808 ≤ dy ∧ dy ≤ 9223372036854775807) (hr : Hid (shiftR dx dy hs = (out, ok))) :
    Calls Try.prog 34 #[.agg #[.slice A hs.length c], .int .i64 dx, .int .i64 dy] w (RegPost w out ok) := by
  have hr' := hr.out
  clear hr
  obtain ⟨rk, hrk⟩ : ∃ v, regionOk hs = v := ⟨_, rfl⟩
  obtain ⟨sx, hsx⟩ : ∃ v, inR dx (-2000) 2000 = v := ⟨_, rfl⟩
  obtain ⟨sy, hsy⟩ : ∃ v, inR dy (-2000) 2000 = v := ⟨_, rfl⟩
  have HRK := Lib.hid hrk
  unfold shiftR at hr'
  rw [hrk, hsx, hsy] at hr'
  by_cases hall : rk = true ∧ sx = true ∧ sy = true
  · obtain ⟨rfl, rfl, rfl⟩ := hall
    rw [if_pos ⟨rfl, rfl, rfl⟩] at hr'
    have SB : StepBd dx dy := ⟨inR_iff.1 hsx, inR_iff.1 hsy⟩
    have key : ∀ W b4 b5, Below w.heap.size w W → W.cell? ⟨b4, 0, none⟩ = some (.int .i64 dx) → W.cell? ⟨b5, 0, none⟩ = some (.int .i64 dy) → b4 < W.heap.size → b5 < W.heap.size → Calls Try.prog 76 #[.agg #[.slice A hs.length c], .func (.func 83) #[] #[.pointer (some ⟨b4, 0, none⟩), .pointer (some ⟨b5, 0, none⟩)]] W (RegPost W out ok) := fun W b4 b5 T c4 c5 l4 l5 => by
      by_cases h0 : hs = []
      · unfold movedF at hr'
        rw [if_pos h0] at hr'
        simp at hr'
        obtain ⟨rfl, rfl⟩ := hr'
        exact moved_void (Lib.hid (by rw [h0]; rfl))
      · obtain ⟨G, _, h40⟩ := regionOk_parts hrk h0
        exact moved_shift SB c4 c5 l4 l5 G (R.below T) ⟨List.length_pos_iff.2 h0, by omega⟩ (Lib.hid hr')
    have KEY := Lib.hid key
    clear hr' hrk key
    go_enter Try.func34, Try.ntmps34
    go_wp2_with (first | (go_at_call 61; (first | (with_reducible refine (calls_ov2 (impl_RegionOk_eq (by repeat (first | assumption | refine R3.ov ?_ _ | refine R3.alloc ?_ _)) hl HRK)).mono ?_) | refine (calls_ov (impl_RegionOk_eq (by repeat (first | assumption | refine R3.ov ?_ _ | refine R3.alloc ?_ _)) hl HRK)).mono ?_); rintro e w' ⟨rfl, x, rfl⟩) | (go_at_call 82; refine (isStep_eq (by assumption)).mono ?_; rintro e w' ⟨rfl, rfl⟩))
    obtain ⟨W0, hW⟩ : ∃ W0, W0 = ov ((((w.alloc (.cells #[.slice A hs.length c] 28)).alloc (.cells #[.int .i64 dx] 3)).alloc (.cells #[.int .i64 dy] 3)).alloc (.cells #[.slice none 0 0] 28)) x := ⟨_, rfl⟩
    rw [← hW]
    have T0 : Below w.heap.size w W0 := by rw [hW]; exact (by repeat (first | exact Below.refl _ _ | refine below_ov _ _ ?_ (by first | omega | (simp [ov_size] <;> omega)) | refine Below.alloc ?_ (by first | omega | (simp [ov_size] <;> omega)) _ | refine Below.setCell ?_ (by first | omega | (simp [ov_size] <;> omega)) _ | refine Below.drew ?_ | refine below_drewN ?_ _))
    have X1 : W0.heap[w.heap.size + 1]? = some (.cells #[.int .i64 dx] 3 (0, 0)) := by rw [hW]; exact ov_blk ((heap_old_at (by simp)).trans ((heap_old_at (by simp)).trans (heap_new_at (by simp) rfl)))
    have X2 : W0.heap[w.heap.size + 1 + 1]? = some (.cells #[.int .i64 dy] 3 (0, 0)) := by rw [hW]; exact ov_blk ((heap_old_at (by simp)).trans (heap_new_at (by simp) rfl))
    have X3 := Lib.hid (show W0.heap[w.heap.size + 1 + 1 + 1]? = some (.cells #[.slice none 0 0] 28 (0, 0)) by rw [hW]; exact ov_blk (heap_new_at (by simp) rfl))
    refine (KEY.out W0 _ _ T0 (cell_blk (j := 0) X1 rfl) (cell_blk (j := 0) X2 rfl) (Array.getElem?_eq_some_iff.1 X1).1 (Array.getElem?_eq_some_iff.1 X2).1).mono ?_
    rintro e w2 ⟨A2', c2', rfl, R2', hb2'⟩
    have T2 : Below w.heap.size w w2 := T0.trans (hb2'.mono T0.size)
    have X4 := box_below X3 hb2'
    have HR1 := R2'.weak (B' := w.heap.size) T0.size
    have hb2 : w.heap.size ≤ w.heap.size + 1 + 1 + 1 := by omega
    clear hb2' R2' X1 X2 X3 hW T0
    generalize w.heap.size + 1 + 1 + 1 = b2 at X4 hb2 ⊢
    have x2 := cell_blk (j := 0) (v := .slice none 0 0) X4.out rfl
    have f2 := frozen_blk (j := 0) X4.out
    have l2 := (Array.getElem?_eq_some_iff.1 X4.out).1
    go_wp2
    refine bodyPost_ret (v := .tuple #[.agg #[.slice A2' out.length c2'], .bool ok]) (by simp [results, Try.results34, go_sem, x2, l2]) rfl ⟨A2', c2', rfl, HR1.set_box X4.out (by decide), T2.setCell (show w.heap.size ≤ b2 from hb2) _⟩
  · rw [if_neg hall] at hr'
    simp at hr'
    obtain ⟨rfl, rfl⟩ := hr'
    have hc : rk = false ∨ (rk = true ∧ sx = false) ∨ (rk = true ∧ sx = true ∧ sy = false) := by cases rk <;> cases sx <;> cases sy <;> simp at hall ⊢
    clear hall hrk
    rcases hc with rfl | ⟨rfl, rfl⟩ | ⟨rfl, rfl, rfl⟩
    all_goals
      go_enter Try.func34, Try.ntmps34
      go_wp2_with (first | (go_at_call 61; (first | (with_reducible refine (calls_ov2 (impl_RegionOk_eq (by repeat (first | assumption | refine R3.ov ?_ _ | refine R3.alloc ?_ _)) hl HRK)).mono ?_) | refine (calls_ov (impl_RegionOk_eq (by repeat (first | assumption | refine R3.ov ?_ _ | refine R3.alloc ?_ _)) hl HRK)).mono ?_); rintro e w' ⟨rfl, x, rfl⟩) | (go_at_call 82; refine (isStep_eq (by assumption)).mono ?_; rintro e w' ⟨rfl, rfl⟩))
      refine bodyPost_ret (v := .tuple #[.agg #[.slice none 0 0], .bool false]) (by simp [results, Try.results34, go_sem]) rfl ⟨none, 0, rfl, RB.nil _ _ _, (by repeat (first | exact Below.refl _ _ | refine below_ov _ _ ?_ (by first | omega | (simp [ov_size] <;> omega)) | refine Below.alloc ?_ (by first | omega | (simp [ov_size] <;> omega)) _ | refine Below.setCell ?_ (by first | omega | (simp [ov_size] <;> omega)) _ | refine Below.drew ?_ | refine below_drewN ?_ _))⟩

set_option maxRecDepth 100000 in
set_option maxHeartbeats 4000000 in
theorem l07Moved_eq {hs out : List H3} {ok : Bool} {dx dy : Int} {A : Option Addr} {c : Nat} {w : World} (SB : StepBd dx dy) (G : ∀ g ∈ hs, HOk g) (R : R3 38 w A c hs) (hl : hs.length ≤ 300) (hr : Hid (movedF (shiftF dx dy) hs = (out, ok))) :
    Calls Try.prog 81 #[.agg #[.slice A hs.length c], .int .i64 dx, .int .i64 dy] w (RegPost w out ok) := by
  obtain ⟨i0, hi, hz0, hz1, hz2⟩ := info_parts info_half
  obtain ⟨FX, hFX⟩ : ∃ FX, FX = shiftF dx dy := ⟨_, rfl⟩
  rw [← hFX] at hr
  obtain ⟨ms, hms⟩ : ∃ ms, hs.map (fun g => (FX g).1) = ms := ⟨_, rfl⟩
  have hml : ms.length = hs.length := by rw [← hms]; simp
  have hmk : ∀ k (h : k < hs.length), ms[k]? = some (FX hs[k]).1 := fun k h => by rw [← hms, List.getElem?_map, List.getElem?_eq_getElem h]; rfl
  have HR := hr.out
  unfold movedF at HR
  rw [hms] at HR
  have HM := Lib.hid HR
  have HML := Lib.hid hml
  have HMK := Lib.hid hmk
  have HMS := Lib.hid hms
  have HF := Lib.hid hFX
  clear hr HR hms hml hmk hFX
  go_enter Try.func81, Try.ntmps81
  go_wp2
  obtain ⟨W0, hW⟩ : ∃ W0, W0 = (w.alloc (.cells #[.slice A hs.length c] 28)).alloc (.cells #[.slice none 0 0] 28) := ⟨_, rfl⟩
  rw [← hW]
  have T0 : Below w.heap.size w W0 := by rw [hW]; exact (by repeat (first | exact Below.refl _ _ | refine below_ov _ _ ?_ (by first | omega | (simp [ov_size] <;> omega)) | refine Below.alloc ?_ (by first | omega | (simp [ov_size] <;> omega)) _ | refine Below.setCell ?_ (by first | omega | (simp [ov_size] <;> omega)) _ | refine Below.drew ?_ | refine below_drewN ?_ _))
  have X2 := Lib.hid (show W0.heap[w.heap.size + 1]? = some (.cells #[.slice none 0 0] 28 (0, 0)) by rw [hW]; exact heap_new_at (by simp) rfl)
  have s0 : W0.heap.size = w.heap.size + 1 + 1 := by rw [hW]; simp
  rw [← s0]
  clear hW s0
  have t0 := T0.size
  have hb2 : w.heap.size ≤ w.heap.size + 1 := by omega
  generalize w.heap.size + 1 = b2 at X2 hb2 ⊢
  have RW := R.below T0
  go_loopw [8, 17] (fun o i wr => ∃ (k : Nat) (A' : Option Addr) (c' : Nat), k ≤ hs.length ∧ i = .int .i64 k ∧ o = .slice A' k c' ∧ Hid ((hs.take k).all (fun g => (FX g).2) = true) ∧ RB W0.heap.size 38 wr A' c' (ms.take k) ∧ Below W0.heap.size W0 wr) (fun _ i _ => hs.length - (intOf i).toNat)
  case atStart => exact ⟨0, some ⟨W0.heap.size, 0, none⟩, 0, Nat.zero_le _, rfl, rfl, Lib.hid rfl, RB.new0 rfl (Nat.le_refl _) rfl, (Below.refl _ _).alloc (Nat.le_refl _) _⟩
  case round =>
    obtain ⟨k, A', c', hk, rfl, rfl, HA, RO, hb⟩ := hrel
    have hbs := hb.size
    have htl : (ms.take k).length = k := by have := HML.out; simp; omega
    have T1 := T0.trans (hb.mono t0)
    have t1 := T1.size
    have X3 := box_below X2 hb
    have hX2 := (Array.getElem?_eq_some_iff.1 X3.out).1
    by_cases hlt : k < hs.length
    · obtain ⟨g0, rfl, hg0, z0, z1, z2⟩ := (RW.below hb).at_ hlt
      have kg := G _ (List.getElem_mem hlt)
      have h1 := kg.ba
      have h2 := kg.bb
      have h3 := kg.bc
      have p1 := mul_bd (x := hs[k].a) (y := dx) h1 SB.bx
      have p2 := mul_bd (x := hs[k].b) (y := dy) h2 SB.bY
      have HE := Lib.hid (HMK.out k hlt)
      have HT := Lib.hid (all_take_succ (fun g => (FX g).2) hs k hlt)
      obtain ⟨⟨m, b⟩, hmb⟩ : ∃ m, FX hs[k] = m := ⟨_, rfl⟩
      have hmb' := hmb
      rw [HF.out] at hmb'
      have HS : Hid (halfOf hs[k].a hs[k].b (hs[k].c + hs[k].a * dx + hs[k].b * dy) = (m, b)) := Lib.hid hmb'
      have HN := Lib.hid (show ms.take (k + 1) = ms.take k ++ [m] by
        obtain ⟨h1, h2⟩ := List.getElem?_eq_some_iff.1 HE.out
        rw [List.take_succ_eq_append_getElem h1, h2, hmb])
      have HB := Lib.hid (show (FX hs[k]).2 = b by rw [hmb])
      clear hmb hmb' HE
      have OV : wr.ownsRow W0.heap.size 38 3 (.slice A' k c') k (cells3 (ms.take k)) := by unfold RB at RO; rw [htl] at RO; exact RO
      cases b with
      | true =>
        go_wp2_with (first | (go_at_call 93; (first | (with_reducible refine (calls_ov2 (spec_HalfOf_eq HS (by omega) (by omega) (by omega))).mono ?_) | refine (calls_ov (spec_HalfOf_eq HS (by omega) (by omega) (by omega))).mono ?_); rintro e w' ⟨rfl, x, rfl⟩) | (at_builtin; refine wpList_append_own _ rfl _ _ 26 rfl W0.heap.size 38 i0 (.agg #[.int .i64 0, .int .i64 0, .int .i64 0]) 3 24 Try.underlying26 hi hz0 hz1 hz2 rfl (by decide) _ _ _ rfl (OV.below' (by repeat (first | exact Below.refl _ _ | refine below_ov _ _ ?_ (by first | omega | (simp [ov_size] <;> omega)) | refine Below.alloc ?_ (by first | omega | (simp [ov_size] <;> omega)) _ | refine Below.setCell ?_ (by first | omega | (simp [ov_size] <;> omega)) _ | refine Below.drew ?_ | refine below_drewN ?_ _))) ⟨_, 0, none⟩ 1 1 (cells3 [m]) rfl rfl (news_at (heap_new_at (by simp) rfl)) (cells3_one _) (by unfold maxLen; omega) (by omega) (by simp [ov_size]; omega) ?_; intro v2 w2 O2 hg2 _; obtain ⟨A5, c5, rfl, RO5⟩ := own_slice2 HN.out htl O2; have HG := Lib.hid hg2; clear hg2 O2))
        go_roundw
        case rel => exact ⟨k + 1, A5, c5, by omega, by go_num, by go_num, Lib.hid (by rw [HT.out, HA.out, HB.out]; rfl), RO5, grown_below (B := W0.heap.size) (by repeat (first | exact hb | refine below_ov _ _ ?_ (by first | omega | (simp [ov_size] <;> omega)) | refine Below.alloc ?_ (by first | omega | (simp [ov_size] <;> omega)) _ | refine Below.setCell ?_ (by first | omega | (simp [ov_size] <;> omega)) _ | refine Below.drew ?_ | refine below_drewN ?_ _)) HG.out (fun k' hk' => (OV.lt k' hk').1) (Nat.le_refl _)⟩
        case measure => simp [intOf] <;> omega
      | false =>
        have hr0 := HM.out
        have hne : hs ≠ [] := fun e => by rw [e] at hlt; cases hlt
        have hall : hs.all (fun g => (FX g).2) = false := by
          rw [List.all_eq_false]
          exact ⟨hs[k], List.getElem_mem hlt, by rw [HB.out]; simp⟩
        rw [if_neg hne, if_neg (by rw [hall]; simp)] at hr0
        simp at hr0
        obtain ⟨rfl, rfl⟩ := hr0
        clear hall hne
        have x2 := cell_blk (j := 0) (v := .slice none 0 0) X3.out rfl
        have f2 := frozen_blk (j := 0) X3.out
        go_wp2_with (first | (go_at_call 93; (first | (with_reducible refine (calls_ov2 (spec_HalfOf_eq HS (by omega) (by omega) (by omega))).mono ?_) | refine (calls_ov (spec_HalfOf_eq HS (by omega) (by omega) (by omega))).mono ?_); rintro e w' ⟨rfl, x, rfl⟩))
        refine bodyPost_ret (v := .tuple #[.agg #[.slice none 0 0], .bool false]) (by simp [results, Try.results81, go_sem, x2, hX2]) rfl ⟨none, 0, rfl, RB.nil _ _ _, ?_⟩
        exact (by repeat (first | exact T1 | refine below_ov _ _ ?_ (by first | omega | (simp [ov_size] <;> omega)) | refine Below.alloc ?_ (by first | omega | (simp [ov_size] <;> omega)) _ | refine Below.setCell ?_ (by first | omega | (simp [ov_size] <;> omega)) _ | refine Below.drew ?_ | refine below_drewN ?_ _))
    · obtain rfl : k = hs.length := by omega
      have hfull : ms.take hs.length = ms := by rw [← HML.out, List.take_length]
      rw [hfull] at RO
      have hall := HA.out
      rw [List.take_length] at hall
      have HL := HML.out
      by_cases h0 : hs.length = 0
      · have hr0 := HM.out
        rw [if_pos (List.length_eq_zero_iff.1 h0)] at hr0
        simp at hr0
        obtain ⟨rfl, rfl⟩ := hr0
        have hz : ((hs.length : Int) == 0) = true := by rw [h0]; rfl
        have x2 := cell_blk (j := 0) (v := .slice none 0 0) X3.out rfl
        have f2 := frozen_blk (j := 0) X3.out
        clear h0 HL hall
        go_wp2
        refine bodyPost_ret (v := .tuple #[.agg #[.slice none 0 0], .bool true]) (by simp [results, Try.results81, go_sem, x2, hX2]) rfl ⟨none, 0, rfl, RB.nil _ _ _, ?_⟩
        exact (by repeat (first | exact T1 | refine below_ov _ _ ?_ (by first | omega | (simp [ov_size] <;> omega)) | refine Below.alloc ?_ (by first | omega | (simp [ov_size] <;> omega)) _ | refine Below.setCell ?_ (by first | omega | (simp [ov_size] <;> omega)) _ | refine Below.drew ?_ | refine below_drewN ?_ _))
      · have hr0 := HM.out
        rw [if_neg (fun e => h0 (by rw [e]; rfl)), if_pos hall] at hr0
        have HM2 := Lib.hid hr0
        have GM : ∀ g ∈ ms, HOk g := fun g hg => by
          rw [← HMS.out] at hg
          obtain ⟨y, hy, rfl⟩ := List.mem_map.1 hg
          have h2 := List.all_eq_true.1 hall y hy
          rw [HF.out] at h2 ⊢
          exact halfOf_ok rfl h2
        have hz : ((hs.length : Int) == 0) = false := beq_eq_false_iff_ne.2 (by omega)
        have hz' : ¬ ((hs.length : Int) = 0) := by omega
        clear hr0 hall
        go_wp2_with fail
        refine (l05Fit_eqn (n := hs.length) HL GM RO.r3 (by omega) HM2).mono ?_
        rintro e w2 ⟨A2', c2', rfl, R2', hb2'⟩
        have T2 : Below w.heap.size w w2 := T1.trans (hb2'.mono T1.size)
        have X4 := box_below X3 hb2'
        have HR1 := R2'.weak (B' := w.heap.size) T1.size
        clear X3 X2 hb2' R2' RO hX2
        have x2 := cell_blk (j := 0) (v := .slice none 0 0) X4.out rfl
        have f2 := frozen_blk (j := 0) X4.out
        have l2 := (Array.getElem?_eq_some_iff.1 X4.out).1
        go_wp2
        refine bodyPost_ret (v := .tuple #[.agg #[.slice A2' out.length c2'], .bool ok]) (by simp [results, Try.results81, go_sem, x2, l2]) rfl ⟨A2', c2', rfl, HR1.set_box X4.out (by decide), T2.setCell (show w.heap.size ≤ b2 from hb2) _⟩

set_option maxRecDepth 100000 in
set_option maxHeartbeats 4000000 in
theorem spec_ShiftRegion_eq {hs out : List H3} {ok : Bool} {dx dy : Int} {A : Option Addr} {c : Nat} {w : World} (R : R3 38 w A c hs) (hl : hs.length ≤ 1000000000) (hdx : -9223372036854775808 ≤ dx ∧ dx ≤ 9223372036854775807) (hdy : -9223372036854775808 ≤ dy ∧ dy ≤ 9223372036854775807) (hr : Hid (shiftR dx dy hs = (out, ok))) :
    Calls Try.prog 33 #[.agg #[.slice A hs.length c], .int .i64 dx, .int .i64 dy] w (RegPost w out ok) := by
  have hr' := hr.out
  clear hr
  obtain ⟨rk, hrk⟩ : ∃ v, regionOk hs = v := ⟨_, rfl⟩
  obtain ⟨sx, hsx⟩ : ∃ v, inR dx (-2000) 2000 = v := ⟨_, rfl⟩
  obtain ⟨sy, hsy⟩ : ∃ v, inR dy (-2000) 2000 = v := ⟨_, rfl⟩
  have HRK := Lib.hid hrk
  unfold shiftR at hr'
  rw [hrk, hsx, hsy] at hr'
  by_cases hall : rk = true ∧ sx = true ∧ sy = true
  · obtain ⟨rfl, rfl, rfl⟩ := hall
    rw [if_pos ⟨rfl, rfl, rfl⟩] at hr'
    have SB : StepBd dx dy := ⟨inR_iff.1 hsx, inR_iff.1 hsy⟩
    have hG : (∀ g ∈ hs, HOk g) ∧ hs.length ≤ 40 := by
      by_cases h0 : hs = []
      · subst h0; exact ⟨(fun g hg => nomatch hg), by simp⟩
      · obtain ⟨G, _, h40⟩ := regionOk_parts hrk h0; exact ⟨G, h40⟩
    obtain ⟨G, h40⟩ := hG
    have HM := Lib.hid hr'
    clear hr' hrk
    go_enter Try.func33, Try.ntmps33
    go_wp2_with (first | (go_at_call 58; (first | (with_reducible refine (calls_ov2 (spec_RegionOk_eq (by repeat (first | assumption | refine R3.ov ?_ _ | refine R3.alloc ?_ _)) hl HRK)).mono ?_) | refine (calls_ov (spec_RegionOk_eq (by repeat (first | assumption | refine R3.ov ?_ _ | refine R3.alloc ?_ _)) hl HRK)).mono ?_); rintro e w' ⟨rfl, x, rfl⟩) | (go_at_call 80; refine (l01In_eq (by assumption)).mono ?_; rintro e w' ⟨rfl, rfl⟩))
    refine (l07Moved_eq SB G (R.below (by repeat (first | exact Below.refl _ _ | refine below_ov _ _ ?_ (by first | omega | (simp [ov_size] <;> omega)) | refine Below.alloc ?_ (by first | omega | (simp [ov_size] <;> omega)) _ | refine Below.setCell ?_ (by first | omega | (simp [ov_size] <;> omega)) _ | refine Below.drew ?_ | refine below_drewN ?_ _))) (by omega) HM).mono ?_
    rintro e w2 ⟨A2', c2', rfl, R2', hb2'⟩
    have T2 : Below w.heap.size w w2 := Below.trans (by repeat (first | exact Below.refl _ _ | refine below_ov _ _ ?_ (by first | omega | (simp [ov_size] <;> omega)) | refine Below.alloc ?_ (by first | omega | (simp [ov_size] <;> omega)) _ | refine Below.setCell ?_ (by first | omega | (simp [ov_size] <;> omega)) _ | refine Below.drew ?_ | refine below_drewN ?_ _)) (hb2'.mono (by simp [ov_size]; omega))
    have X4 := Lib.hid ((hb2'.block (w.heap.size + 1) (by simp [ov_size]; omega)).trans (ov_blk (heap_new_at (r := some (.cells #[.slice none 0 0] 28 (0, 0))) (by simp) rfl)))
    have HR1 := R2'.weak (B' := w.heap.size) (by simp [ov_size]; omega)
    have hb2 : w.heap.size ≤ w.heap.size + 1 := by omega
    clear hb2' R2'
    generalize w.heap.size + 1 = b2 at X4 hb2 ⊢
    have x2 := cell_blk (j := 0) (v := .slice none 0 0) X4.out rfl
    have f2 := frozen_blk (j := 0) X4.out
    have l2 := (Array.getElem?_eq_some_iff.1 X4.out).1
    go_wp2
    refine bodyPost_ret (v := .tuple #[.agg #[.slice A2' out.length c2'], .bool ok]) (by simp [results, Try.results33, go_sem, x2, l2]) rfl ⟨A2', c2', rfl, HR1.set_box X4.out (by decide), T2.setCell (show w.heap.size ≤ b2 from hb2) _⟩
  · rw [if_neg hall] at hr'
    simp at hr'
    obtain ⟨rfl, rfl⟩ := hr'
    have hc : rk = false ∨ (rk = true ∧ sx = false) ∨ (rk = true ∧ sx = true ∧ sy = false) := by cases rk <;> cases sx <;> cases sy <;> simp at hall ⊢
    clear hall hrk
    rcases hc with rfl | ⟨rfl, rfl⟩ | ⟨rfl, rfl, rfl⟩
    all_goals
      go_enter Try.func33, Try.ntmps33
      go_wp2_with (first | (go_at_call 58; (first | (with_reducible refine (calls_ov2 (spec_RegionOk_eq (by repeat (first | assumption | refine R3.ov ?_ _ | refine R3.alloc ?_ _)) hl HRK)).mono ?_) | refine (calls_ov (spec_RegionOk_eq (by repeat (first | assumption | refine R3.ov ?_ _ | refine R3.alloc ?_ _)) hl HRK)).mono ?_); rintro e w' ⟨rfl, x, rfl⟩) | (go_at_call 80; refine (l01In_eq (by assumption)).mono ?_; rintro e w' ⟨rfl, rfl⟩))
      refine bodyPost_ret (v := .tuple #[.agg #[.slice none 0 0], .bool false]) (by simp [results, Try.results33, go_sem]) rfl ⟨none, 0, rfl, RB.nil _ _ _, (by repeat (first | exact Below.refl _ _ | refine below_ov _ _ ?_ (by first | omega | (simp [ov_size] <;> omega)) | refine Below.alloc ?_ (by first | omega | (simp [ov_size] <;> omega)) _ | refine Below.setCell ?_ (by first | omega | (simp [ov_size] <;> omega)) _ | refine Below.drew ?_ | refine below_drewN ?_ _))⟩
end Go.Proofs.Ytnenlgaafiifpaa
