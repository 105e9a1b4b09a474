/- Contracts of MirrorRegion, of the program and of the reference. No condition but that lengths are ints. -/
import Derived.Test.YtnenlgaafiifpaaHf
import Derived.Test.YtnenlgaafiifpaaCu
set_option linter.unusedSimpArgs false
set_option linter.unusedVariables false
set_option linter.unusedSectionVars false
namespace Go.Proofs.Ytnenlgaafiifpaa
open Go.RowKit

def mirH (g : H3) : H3 := ⟨-g.a, -g.b, g.c⟩
theorem mirH_ok {g : H3} (k : HOk g) : HOk (mirH g) := by
  have h1 := k.ba
  have h2 := k.bb
  refine ⟨?_, ?_, k.bc, ?_, ?_⟩
  · show -50000 ≤ -g.a ∧ -g.a ≤ 50000; omega
  · show -50000 ≤ -g.b ∧ -g.b ≤ 50000; omega
  · have := k.nz
    unfold NZ at *
    show -g.a ≠ 0 ∨ -g.b ≠ 0
    omega
  · have := k.prim
    unfold Prim at *
    rw [gcdL3] at *
    show Nat.gcd (Nat.gcd (-g.a).natAbs (-g.b).natAbs) g.c.natAbs = 1
    rw [Int.natAbs_neg, Int.natAbs_neg]; exact this
theorem halfOf_mir {g : H3} (k : HOk g) : halfOf (-g.a) (-g.b) g.c = (mirH g, true) := by
  have h1 := k.ba
  have h2 := k.bb
  have h3 := k.bc
  have hn := k.nz
  have hp := (mirH_ok k).prim
  unfold Prim at hp
  have e : gcdL [-g.a, -g.b, g.c] = 1 := hp
  rw [halfOf_red (g := 1) (x := -g.a) (y := -g.b) (z := g.c) (by unfold halfBad NZ at *; omega) e (by simp) (by simp) (by simp)]
  exact if_pos ((halfOk_iff _).2 (mirH_ok k))
theorem mirror_step {g : H3} {w : World} (k : HOk g) : Calls Try.prog 77 #[.agg #[.int .i64 g.a, .int .i64 g.b, .int .i64 g.c]] w fun e w' => e = .returned (.tuple #[.agg #[.int .i64 (mirH g).a, .int .i64 (mirH g).b, .int .i64 (mirH g).c], .bool true]) ∧ Below w.heap.size w w' := by
  have h1 := k.ba
  have h2 := k.bb
  have h3 := k.bc
  have HM := Lib.hid (halfOf_mir k)
  obtain ⟨m, hm⟩ : ∃ m, mirH g = m := ⟨_, rfl⟩
  rw [hm] at HM ⊢
  clear hm
  go_enter Try.func77, Try.ntmps77
  go_wp2_with ((go_at_call 78; (first | (with_reducible refine (calls_ov2 (impl_HalfOf_eq HM (by omega) (by omega) (by omega))).mono ?_) | refine (calls_ov (impl_HalfOf_eq HM (by omega) (by omega) (by omega))).mono ?_); rintro e w' ⟨rfl, x, rfl⟩))
  refine bodyPost_ret (v := .tuple #[.agg #[.int .i64 m.a, .int .i64 m.b, .int .i64 m.c], .bool true]) (by simp [results, Try.results77, go_sem]) rfl ⟨rfl, ?_⟩
  (repeat (first | exact Below.refl _ _ | refine below_ov _ _ ?_ (by first | omega | (simp [ov_size] <;> omega)) | refine Below.alloc ?_ (by first | omega | (simp [ov_size] <;> omega)) _ | refine Below.setCell ?_ (by first | omega | (simp [ov_size] <;> omega)) _ | refine Below.drew ?_ | refine below_drewN ?_ _))
theorem own_slice2 {B k : Nat} {E : TypeId} {w : World} {v : Value} {o l : List H3} {x : H3} (hl : l = o ++ [x]) (ho : o.length = k) (h : w.ownsRow B E 3 v (k + 1) (cells3 o ++ cells3 [x])) : ∃ A c, v = .slice A (k + 1) c ∧ RB B E w A c l := by
  subst ho
  obtain ⟨A, c, e, R⟩ := own_slice1 h
  exact ⟨A, c, e, by rw [hl]; exact R⟩
theorem _root_.Go.World.ownsRow.below' {B n : Nat} {E : TypeId} {w w' : World} {v : Value} {xs : List Value} (h : w.ownsRow B E 3 v n xs) (hb : Below w.heap.size w w') : w'.ownsRow B E 3 v n xs :=
  h.kept (grownBy_of_below (o := none) hb) (by cases hv : v.ownBlock <;> simp)
theorem meetAll_eqn {hs out : List H3} {ok : Bool} {A : Option Addr} {c n : Nat} {w : World} (hn : hs.length = n) (G : ∀ g ∈ hs, HOk g) (R : R3 38 w A c hs) (hl : 0 < n ∧ n ≤ 300) (hr : Hid (meetR hs = (out, ok))) :
    Calls Try.prog 63 #[.slice A n c] w (RegPost w out ok) := by
  subst hn; exact meetAll_any G R hl hr
def movedM (hs : List H3) : List H3 × Bool := if hs = [] then ([], true) else meetR (hs.map mirH)
def mirrorR (hs : List H3) : List H3 × Bool := if regionOk hs = true then movedM hs else ([], false)
theorem map_ok {hs : List H3} (G : ∀ g ∈ hs, HOk g) : ∀ g ∈ hs.map mirH, HOk g := fun g hg => by
  obtain ⟨x, hx, rfl⟩ := List.mem_map.1 hg
  exact mirH_ok (G x hx)

set_option maxRecDepth 100000 in
set_option maxHeartbeats 4000000 in
theorem moved_mirror {hs out : List H3} {ok : Bool} {A : Option Addr} {c : Nat} {w : World} (G : ∀ g ∈ hs, HOk g) (R : R3 38 w A c hs) (hl : 0 < hs.length ∧ hs.length ≤ 300) (hr : Hid (meetR (hs.map mirH) = (out, ok))) :
    Calls Try.prog 76 #[.agg #[.slice A hs.length c], .func (.func 77) #[] #[]] w (RegPost w out ok) := by
  obtain ⟨i0, hi, hz0, hz1, hz2⟩ := info_parts info_half
  have hl0 := hl.1
  have hl1 := hl.2
  obtain ⟨ms, hms⟩ : ∃ ms, hs.map mirH = ms := ⟨_, rfl⟩
  have GM := map_ok G
  have hml : ms.length = hs.length := by rw [← hms]; simp
  have hmk : ∀ k (h : k < hs.length), ms[k]? = some (mirH hs[k]) := fun k h => by rw [← hms, List.getElem?_map, List.getElem?_eq_getElem h]; rfl
  have HR := hr.out
  rw [hms] at GM HR
  have HM := Lib.hid HR
  have HML := Lib.hid hml
  have HMK := Lib.hid hmk
  have HV : Hid (decide (hs.length = 0) = false) := Lib.hid (decide_eq_false (by omega))
  clear hr HR hms hml hmk
  go_enter Try.func76, Try.ntmps76
  go_wp2_with ((go_at_call 62; (first | (with_reducible refine (calls_ov2 (IsVoid_eq HV)).mono ?_) | refine (calls_ov (IsVoid_eq HV)).mono ?_); rintro e w' ⟨rfl, x, rfl⟩))
  obtain ⟨W0, hW⟩ : ∃ W0, W0 = ov ((w.alloc (.cells #[.slice A hs.length c] 28)).alloc (.cells #[.slice none 0 0] 28)) x := ⟨_, rfl⟩
  rw [← hW]
  have T0 : Below w.heap.size w W0 := by rw [hW]; exact (by repeat (first | exact Below.refl _ _ | refine below_ov _ _ ?_ (by first | omega | (simp [ov_size] <;> omega)) | refine Below.alloc ?_ (by first | omega | (simp [ov_size] <;> omega)) _ | refine Below.setCell ?_ (by first | omega | (simp [ov_size] <;> omega)) _ | refine Below.drew ?_ | refine below_drewN ?_ _))
  have X2 := Lib.hid (show W0.heap[w.heap.size + 1]? = some (.cells #[.slice none 0 0] 28 (0, 0)) by rw [hW]; exact ov_blk (heap_new_at (by simp) rfl))
  clear hW
  have t0 := T0.size
  have hb2 : w.heap.size ≤ w.heap.size + 1 := by omega
  generalize w.heap.size + 1 = b2 at X2 hb2 ⊢
  have RW := R.below T0
  go_loopw [6, 17] (fun o i wr => ∃ (k : Nat) (A' : Option Addr) (c' : Nat), k ≤ hs.length ∧ i = .int .i64 k ∧ o = .slice A' k c' ∧ RB W0.heap.size 38 wr A' c' (ms.take k) ∧ Below W0.heap.size W0 wr) (fun _ i _ => hs.length - (intOf i).toNat)
  case atStart => exact ⟨0, none, 0, Nat.zero_le _, rfl, rfl, RB.nil _ _ _, Below.refl _ _⟩
  case round =>
    obtain ⟨k, A', c', hk, rfl, rfl, RO, hb⟩ := hrel
    have hbs := hb.size
    have htl : (ms.take k).length = k := by have := HML.out; simp; omega
    by_cases hlt : k < hs.length
    · obtain ⟨g0, rfl, hg0, z0, z1, z2⟩ := (RW.below hb).at_ hlt
      have kg := G _ (List.getElem_mem hlt)
      have HE := Lib.hid (HMK.out k hlt)
      obtain ⟨m, hm⟩ : ∃ m, mirH hs[k] = m := ⟨_, rfl⟩
      have HS : ∀ w, _ := fun w => mirror_step (w := w) kg
      rw [hm] at HS HE
      have HN := Lib.hid (show ms.take (k + 1) = ms.take k ++ [m] by
        obtain ⟨h1, h2⟩ := List.getElem?_eq_some_iff.1 HE.out
        rw [List.take_succ_eq_append_getElem h1, h2])
      clear hm
      have RO' : RB W0.heap.size 38 wr A' c' (ms.take k) := RO
      have OV : wr.ownsRow W0.heap.size 38 3 (.slice A' k c') k (cells3 (ms.take k)) := by unfold RB at RO; rw [htl] at RO; exact RO
      go_wp2_with (first | (go_at_call 77; (first | (with_reducible refine (calls_ov2 (HS _)).mono ?_) | refine (calls_ov (HS _)).mono ?_); rintro e w' ⟨rfl, x, rfl⟩) | (at_builtin; refine wpList_append_own _ rfl _ _ 26 rfl W0.heap.size 38 i0 (.agg #[.int .i64 0, .int .i64 0, .int .i64 0]) 3 24 Try.underlying26 hi hz0 hz1 hz2 rfl (by decide) _ _ _ rfl (OV.below' (by repeat (first | exact Below.refl _ _ | refine below_ov _ _ ?_ (by first | omega | (simp [ov_size] <;> omega)) | refine Below.alloc ?_ (by first | omega | (simp [ov_size] <;> omega)) _ | refine Below.setCell ?_ (by first | omega | (simp [ov_size] <;> omega)) _ | refine Below.drew ?_ | refine below_drewN ?_ _))) ⟨_, 0, none⟩ 1 1 (cells3 [m]) rfl rfl (news_at (heap_new_at (by simp) rfl)) (cells3_one _) (by unfold maxLen; omega) (by omega) (by simp [ov_size]; omega) ?_; intro v2 w2 O2 hg2 _; obtain ⟨A5, c5, rfl, RO5⟩ := own_slice2 HN.out htl O2; have HG := Lib.hid hg2; clear hg2 O2))
      go_roundw
      case rel => exact ⟨k + 1, A5, c5, by omega, by go_num, by go_num, RO5, grown_below (B := W0.heap.size) (by repeat (first | exact hb | refine below_ov _ _ ?_ (by first | omega | (simp [ov_size] <;> omega)) | refine Below.alloc ?_ (by first | omega | (simp [ov_size] <;> omega)) _ | refine Below.setCell ?_ (by first | omega | (simp [ov_size] <;> omega)) _ | refine Below.drew ?_ | refine below_drewN ?_ _)) HG.out (fun k' hk' => (OV.lt k' hk').1) (Nat.le_refl _)⟩
      case measure => simp [intOf] <;> omega
    · obtain rfl : k = hs.length := by omega
      have hfull : ms.take hs.length = ms := by rw [← HML.out, List.take_length]
      rw [hfull] at RO
      have T1 := T0.trans (hb.mono t0)
      have X3 := box_below X2 hb
      have HL := HML.out
      go_wp2_with fail
      refine (meetAll_eqn (n := hs.length) HL GM RO.r3 (by omega) HM).mono ?_
      rintro e w2 ⟨A2', c2', rfl, R2', hb2'⟩
      have T2 : Below w.heap.size w w2 := T1.trans (hb2'.mono T1.size)
      have X4 := box_below X3 hb2'
      have HR1 := R2'.weak (B' := w.heap.size) T1.size
      clear X3 X2 hb2' R2' RO
      have x2 := cell_blk (j := 0) (v := .slice none 0 0) X4.out rfl
      have f2 := frozen_blk (j := 0) X4.out
      have l2 := (Array.getElem?_eq_some_iff.1 X4.out).1
      go_wp2
      refine bodyPost_ret (v := .tuple #[.agg #[.slice A2' out.length c2'], .bool ok]) (by simp [results, Try.results76, go_sem, x2, l2]) rfl ⟨A2', c2', rfl, HR1.set_box X4.out (by decide), T2.setCell (show w.heap.size ≤ b2 from hb2) _⟩

theorem moved_void {n c : Nat} {A : Option Addr} {fv : Value} {w : World} (h : Hid (decide (n = 0) = true)) :
    Calls Try.prog 76 #[.agg #[.slice A n c], fv] w (RegPost w [] true) := by
  go_enter Try.func76, Try.ntmps76
  go_wp2_with ((go_at_call 62; (first | (with_reducible refine (calls_ov2 (IsVoid_eq h)).mono ?_) | refine (calls_ov (IsVoid_eq h)).mono ?_); rintro e w' ⟨rfl, x, rfl⟩))
  refine bodyPost_ret (v := .tuple #[.agg #[.slice none 0 0], .bool true]) (by simp [results, Try.results76, go_sem]) rfl ⟨none, 0, rfl, RB.nil _ _ _, (by repeat (first | exact Below.refl _ _ | refine below_ov _ _ ?_ (by first | omega | (simp [ov_size] <;> omega)) | refine Below.alloc ?_ (by first | omega | (simp [ov_size] <;> omega)) _ | refine Below.setCell ?_ (by first | omega | (simp [ov_size] <;> omega)) _ | refine Below.drew ?_ | refine below_drewN ?_ _))⟩

set_option maxRecDepth 100000 in
set_option maxHeartbeats 4000000 in
theorem impl_MirrorRegion_eq {hs out : List H3} {ok : Bool} {A : Option Addr} {c : Nat} {w : World} (R : R3 38 w A c hs) (hl : hs.length ≤ 1000000000) (hr : Hid (mirrorR hs = (out, ok))) :
    Calls Try.prog 29 #[.agg #[.slice A hs.length c]] w (RegPost w out ok) := by
  have hr' := hr.out
  clear hr
  obtain ⟨rk, hrk⟩ : ∃ v, regionOk hs = v := ⟨_, rfl⟩
  have HRK := Lib.hid hrk
  unfold mirrorR at hr'
  rw [hrk] at hr'
  cases rk with
  | false =>
    simp at hr'
    obtain ⟨rfl, rfl⟩ := hr'
    clear hrk
    go_enter Try.func29, Try.ntmps29
    go_wp2_with (first | (go_at_call 61; (first | (with_reducible refine (calls_ov2 (impl_RegionOk_eq (by repeat (first | assumption | refine R3.ov ?_ _ | refine R3.alloc ?_ _)) hl HRK)).mono ?_) | refine (calls_ov (impl_RegionOk_eq (by repeat (first | assumption | refine R3.ov ?_ _ | refine R3.alloc ?_ _)) hl HRK)).mono ?_); rintro e w' ⟨rfl, x, rfl⟩))
    refine bodyPost_ret (v := .tuple #[.agg #[.slice none 0 0], .bool false]) (by simp [results, Try.results29, go_sem]) rfl ⟨none, 0, rfl, RB.nil _ _ _, (by repeat (first | exact Below.refl _ _ | refine below_ov _ _ ?_ (by first | omega | (simp [ov_size] <;> omega)) | refine Below.alloc ?_ (by first | omega | (simp [ov_size] <;> omega)) _ | refine Below.setCell ?_ (by first | omega | (simp [ov_size] <;> omega)) _ | refine Below.drew ?_ | refine below_drewN ?_ _))⟩
  | true =>
    rw [if_pos rfl] at hr'
    unfold movedM at hr'
    have key : ∀ W, Below w.heap.size w W → Calls Try.prog 76 #[.agg #[.slice A hs.length c], .func (.func 77) #[] #[]] W (RegPost W out ok) := fun W T => by
      by_cases h0 : hs = []
      · rw [if_pos h0] at hr'
        simp at hr'
        obtain ⟨rfl, rfl⟩ := hr'
        exact moved_void (Lib.hid (by rw [h0]; rfl))
      · rw [if_neg h0] at hr'
        obtain ⟨G, _, h40⟩ := regionOk_parts hrk h0
        exact moved_mirror G (R.below T) ⟨List.length_pos_iff.2 h0, by omega⟩ (Lib.hid hr')
    have KEY := Lib.hid key
    clear hr' hrk key
    go_enter Try.func29, Try.ntmps29
    go_wp2_with (first | (go_at_call 61; (first | (with_reducible refine (calls_ov2 (impl_RegionOk_eq (by repeat (first | assumption | refine R3.ov ?_ _ | refine R3.alloc ?_ _)) hl HRK)).mono ?_) | refine (calls_ov (impl_RegionOk_eq (by repeat (first | assumption | refine R3.ov ?_ _ | refine R3.alloc ?_ _)) hl HRK)).mono ?_); rintro e w' ⟨rfl, x, rfl⟩))
    refine (KEY.out _ (by repeat (first | exact Below.refl _ _ | refine below_ov _ _ ?_ (by first | omega | (simp [ov_size] <;> omega)) | refine Below.alloc ?_ (by first | omega | (simp [ov_size] <;> omega)) _ | refine Below.setCell ?_ (by first | omega | (simp [ov_size] <;> omega)) _ | refine Below.drew ?_ | refine below_drewN ?_ _))).mono ?_
    rintro e w2 ⟨A2', c2', rfl, R2', hb2'⟩
    have T2 : Below w.heap.size w w2 := Below.trans (by repeat (first | exact Below.refl _ _ | refine below_ov _ _ ?_ (by first | omega | (simp [ov_size] <;> omega)) | refine Below.alloc ?_ (by first | omega | (simp [ov_size] <;> omega)) _ | refine Below.setCell ?_ (by first | omega | (simp [ov_size] <;> omega)) _ | refine Below.drew ?_ | refine below_drewN ?_ _)) (hb2'.mono (by simp [ov_size]; omega))
    have X4 := Lib.hid ((hb2'.block (w.heap.size + 1) (by simp [ov_size]; omega)).trans (ov_blk (heap_new_at (r := some (.cells #[.slice none 0 0] 28 (0, 0))) (by simp) rfl)))
    have HR1 := R2'.weak (B' := w.heap.size) (by simp [ov_size]; omega)
    have hb2 : w.heap.size ≤ w.heap.size + 1 := by omega
    clear hb2' R2'
    generalize w.heap.size + 1 = b2 at X4 hb2 ⊢
    have x2 := cell_blk (j := 0) (v := .slice none 0 0) X4.out rfl
    have f2 := frozen_blk (j := 0) X4.out
    have l2 := (Array.getElem?_eq_some_iff.1 X4.out).1
    go_wp2
    refine bodyPost_ret (v := .tuple #[.agg #[.slice A2' out.length c2'], .bool ok]) (by simp [results, Try.results29, go_sem, x2, l2]) rfl ⟨A2', c2', rfl, HR1.set_box X4.out (by decide), T2.setCell (show w.heap.size ≤ b2 from hb2) _⟩

theorem l05Fit_eqn {hs out : List H3} {ok : Bool} {A : Option Addr} {c n : Nat} {w : World} (hn : hs.length = n) (G : ∀ g ∈ hs, HOk g) (R : R3 38 w A c hs) (hl : n ≤ 300) (hr : Hid (meetR hs = (out, ok))) :
    Calls Try.prog 75 #[.slice A n c] w (RegPost w out ok) := by
  subst hn; exact l05Fit_eq G R hl hr
set_option maxRecDepth 100000 in
set_option maxHeartbeats 4000000 in
theorem spec_MirrorRegion_eq {hs out : List H3} {ok : Bool} {A : Option Addr} {c : Nat} {w : World} (R : R3 38 w A c hs) (hl : hs.length ≤ 1000000000) (hr : Hid (mirrorR hs = (out, ok))) :
    Calls Try.prog 28 #[.agg #[.slice A hs.length c]] w (RegPost w out ok) := by
  obtain ⟨i0, hi, hz0, hz1, hz2⟩ := info_parts info_half
  have hr' := hr.out
  clear hr
  obtain ⟨rk, hrk⟩ : ∃ v, regionOk hs = v := ⟨_, rfl⟩
  have HRK := Lib.hid hrk
  unfold mirrorR at hr'
  rw [hrk] at hr'
  cases rk with
  | false =>
    simp at hr'
    obtain ⟨rfl, rfl⟩ := hr'
    clear hrk
    go_enter Try.func28, Try.ntmps28
    go_wp2_with (first | (go_at_call 58; (first | (with_reducible refine (calls_ov2 (spec_RegionOk_eq (by repeat (first | assumption | refine R3.ov ?_ _ | refine R3.alloc ?_ _)) hl HRK)).mono ?_) | refine (calls_ov (spec_RegionOk_eq (by repeat (first | assumption | refine R3.ov ?_ _ | refine R3.alloc ?_ _)) hl HRK)).mono ?_); rintro e w' ⟨rfl, x, rfl⟩))
    refine bodyPost_ret (v := .tuple #[.agg #[.slice none 0 0], .bool false]) (by simp [results, Try.results28, go_sem]) rfl ⟨none, 0, rfl, RB.nil _ _ _, (by repeat (first | exact Below.refl _ _ | refine below_ov _ _ ?_ (by first | omega | (simp [ov_size] <;> omega)) | refine Below.alloc ?_ (by first | omega | (simp [ov_size] <;> omega)) _ | refine Below.setCell ?_ (by first | omega | (simp [ov_size] <;> omega)) _ | refine Below.drew ?_ | refine below_drewN ?_ _))⟩
  | true =>
    rw [if_pos rfl] at hr'
    unfold movedM at hr'
    have hG : (∀ g ∈ hs, HOk g) ∧ hs.length ≤ 40 := by
      by_cases h0 : hs = []
      · subst h0; exact ⟨(fun g hg => nomatch hg), by simp⟩
      · obtain ⟨G, _, h40⟩ := regionOk_parts hrk h0; exact ⟨G, h40⟩
    obtain ⟨G, h40⟩ := hG
    obtain ⟨ms, hms⟩ : ∃ ms, hs.map mirH = ms := ⟨_, rfl⟩
    have GM := map_ok G
    have hml : ms.length = hs.length := by rw [← hms]; simp
    have hmk : ∀ k (h : k < hs.length), ms[k]? = some (mirH hs[k]) := fun k h => by rw [← hms, List.getElem?_map, List.getElem?_eq_getElem h]; rfl
    rw [hms] at GM hr'
    have HM := Lib.hid hr'
    have HML := Lib.hid hml
    have HMK := Lib.hid hmk
    clear hms hml hmk hrk hr'
    go_enter Try.func28, Try.ntmps28
    go_wp2_with (first | (go_at_call 58; (first | (with_reducible refine (calls_ov2 (spec_RegionOk_eq (by repeat (first | assumption | refine R3.ov ?_ _ | refine R3.alloc ?_ _)) hl HRK)).mono ?_) | refine (calls_ov (spec_RegionOk_eq (by repeat (first | assumption | refine R3.ov ?_ _ | refine R3.alloc ?_ _)) hl HRK)).mono ?_); rintro e w' ⟨rfl, x, rfl⟩))
    obtain ⟨W0, hW⟩ : ∃ W0, W0 = ov ((w.alloc (.cells #[.slice A hs.length c] 28)).alloc (.cells #[.slice none 0 0] 28)) x := ⟨_, rfl⟩
    rw [← hW]
    have T0 : Below w.heap.size w W0 := by rw [hW]; exact (by repeat (first | exact Below.refl _ _ | refine below_ov _ _ ?_ (by first | omega | (simp [ov_size] <;> omega)) | refine Below.alloc ?_ (by first | omega | (simp [ov_size] <;> omega)) _ | refine Below.setCell ?_ (by first | omega | (simp [ov_size] <;> omega)) _ | refine Below.drew ?_ | refine below_drewN ?_ _))
    have X2 := Lib.hid (show W0.heap[w.heap.size + 1]? = some (.cells #[.slice none 0 0] 28 (0, 0)) by rw [hW]; exact ov_blk (heap_new_at (by simp) rfl))
    clear hW
    have t0 := T0.size
    have hb2 : w.heap.size ≤ w.heap.size + 1 := by omega
    generalize w.heap.size + 1 = b2 at X2 hb2 ⊢
    have RW := R.below T0
    go_loopw [4, 15] (fun o i wr => ∃ (k : Nat) (A' : Option Addr) (c' : Nat), k ≤ hs.length ∧ i = .int .i64 k ∧ o = .slice A' k c' ∧ RB W0.heap.size 38 wr A' c' (ms.take k) ∧ Below W0.heap.size W0 wr) (fun _ i _ => hs.length - (intOf i).toNat)
    case atStart => exact ⟨0, some ⟨W0.heap.size, 0, none⟩, 0, Nat.zero_le _, rfl, rfl, RB.new0 rfl (Nat.le_refl _) rfl, (Below.refl _ _).alloc (Nat.le_refl _) _⟩
    case round =>
      obtain ⟨k, A', c', hk, rfl, rfl, RO, hb⟩ := hrel
      have hbs := hb.size
      have htl : (ms.take k).length = k := by have := HML.out; simp; omega
      by_cases hlt : k < hs.length
      · obtain ⟨g0, rfl, hg0, z0, z1, z2⟩ := (RW.below hb).at_ hlt
        have kg := G _ (List.getElem_mem hlt)
        have k1 := kg.ba
        have k2 := kg.bb
        have HE := Lib.hid (HMK.out k hlt)
        have HN := Lib.hid (show ms.take (k + 1) = ms.take k ++ [mirH hs[k]] by
          obtain ⟨h1, h2⟩ := List.getElem?_eq_some_iff.1 HE.out
          rw [List.take_succ_eq_append_getElem h1, h2])
        have OV : wr.ownsRow W0.heap.size 38 3 (.slice A' k c') k (cells3 (ms.take k)) := by unfold RB at RO; rw [htl] at RO; exact RO
        go_wp2_with (first | (at_builtin; refine wpList_append_own _ rfl _ _ 26 rfl W0.heap.size 38 i0 (.agg #[.int .i64 0, .int .i64 0, .int .i64 0]) 3 24 Try.underlying26 hi hz0 hz1 hz2 rfl (by decide) _ _ _ rfl (OV.below' (by repeat (first | exact Below.refl _ _ | refine below_ov _ _ ?_ (by first | omega | (simp [ov_size] <;> omega)) | refine Below.alloc ?_ (by first | omega | (simp [ov_size] <;> omega)) _ | refine Below.setCell ?_ (by first | omega | (simp [ov_size] <;> omega)) _ | refine Below.drew ?_ | refine below_drewN ?_ _))) ⟨_, 0, none⟩ 1 1 (cells3 [mirH hs[k]]) rfl rfl (news_at (x := mirH hs[k]) (heap_new_at (by simp) rfl)) (cells3_one _) (by unfold maxLen; omega) (by omega) (by simp [ov_size]; omega) ?_; intro v2 w2 O2 hg2 _; obtain ⟨A5, c5, rfl, RO5⟩ := own_slice2 HN.out htl O2; have HG := Lib.hid hg2; clear hg2 O2))
        go_roundw
        case rel => exact ⟨k + 1, A5, c5, by omega, by go_num, by go_num, RO5, grown_below (B := W0.heap.size) (by repeat (first | exact hb | refine below_ov _ _ ?_ (by first | omega | (simp [ov_size] <;> omega)) | refine Below.alloc ?_ (by first | omega | (simp [ov_size] <;> omega)) _ | refine Below.setCell ?_ (by first | omega | (simp [ov_size] <;> omega)) _ | refine Below.drew ?_ | refine below_drewN ?_ _)) HG.out (fun k' hk' => (OV.lt k' hk').1) (Nat.le_refl _)⟩
        case measure => simp [intOf] <;> omega
      · obtain rfl : k = hs.length := by omega
        have hfull : ms.take hs.length = ms := by rw [← HML.out, List.take_length]
        rw [hfull] at RO
        have T1 := T0.trans (hb.mono t0)
        have t1 := T1.size
        have X3 := box_below X2 hb
        have HL := HML.out
        by_cases h0 : hs.length = 0
        · have hr0 := HM.out
          rw [if_pos (List.length_eq_zero_iff.1 h0)] at hr0
          simp at hr0
          obtain ⟨rfl, rfl⟩ := hr0
          have hz : ((hs.length : Int) == 0) = true := by rw [h0]; rfl
          have x2 := cell_blk (j := 0) (v := .slice none 0 0) X3.out rfl
          have f2 := frozen_blk (j := 0) X3.out
          have l2 := (Array.getElem?_eq_some_iff.1 X3.out).1
          clear h0 HL
          go_wp2
          refine bodyPost_ret (v := .tuple #[.agg #[.slice none 0 0], .bool true]) (by simp [results, Try.results28, go_sem, x2, l2]) rfl ⟨none, 0, rfl, RB.nil _ _ _, ?_⟩
          exact (by repeat (first | exact T1 | refine below_ov _ _ ?_ (by first | omega | (simp [ov_size] <;> omega)) | refine Below.alloc ?_ (by first | omega | (simp [ov_size] <;> omega)) _ | refine Below.setCell ?_ (by first | omega | (simp [ov_size] <;> omega)) _ | refine Below.drew ?_ | refine below_drewN ?_ _))
        · have hr0 := HM.out
          rw [if_neg (fun e => h0 (by rw [e]; rfl))] at hr0
          have HM2 := Lib.hid hr0
          have hz : ((hs.length : Int) == 0) = false := beq_eq_false_iff_ne.2 (by omega)
          have hz' : ¬ ((hs.length : Int) = 0) := by omega
          clear hr0
          go_wp2_with fail
          refine (l05Fit_eqn (n := hs.length) HL GM RO.r3 (by omega) HM2).mono ?_
          rintro e w2 ⟨A2', c2', rfl, R2', hb2'⟩
          have T2 : Below w.heap.size w w2 := T1.trans (hb2'.mono T1.size)
          have X4 := box_below X3 hb2'
          have HR1 := R2'.weak (B' := w.heap.size) T1.size
          clear X3 X2 hb2' R2' RO
          have x2 := cell_blk (j := 0) (v := .slice none 0 0) X4.out rfl
          have f2 := frozen_blk (j := 0) X4.out
          have l2 := (Array.getElem?_eq_some_iff.1 X4.out).1
          go_wp2
          refine bodyPost_ret (v := .tuple #[.agg #[.slice A2' out.length c2'], .bool ok]) (by simp [results, Try.results28, go_sem, x2, l2]) rfl ⟨A2', c2', rfl, HR1.set_box X4.out (by decide), T2.setCell (show w.heap.size ≤ b2 from hb2) _⟩
theorem meetR_short {hs out : List H3} {ok : Bool} (h : meetR hs = (out, ok)) : out.length ≤ 40 := by
  unfold meetR at h
  split at h
  · simp at h; rw [h.1]; simp
  · simp at h; rw [← h.1]; omega
theorem mirrorR_short {hs out : List H3} {ok : Bool} (h : mirrorR hs = (out, ok)) : out.length ≤ 1000 := by
  unfold mirrorR movedM at h
  split at h
  · split at h
    · simp at h; rw [h.1]; simp
    · have := meetR_short h; omega
  · simp at h; rw [h.1]; simp
end Go.Proofs.Ytnenlgaafiifpaa
