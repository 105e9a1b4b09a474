/- Several texts in one: Mv, Sf, Mj. Each says its own conditions. -/
import Derived.Test.YtabmfaamadbefaaHf
import Derived.Test.YtabmfaamadbefaaCg
import Derived.OwnWalk
import Derived.Deep.Slices
import Derived.Deep.Fields
import Derived.ChangeSame
/- Contracts of MirrorRegion, of the program and of the reference. No condition but that lengths are ints. -/
set_option linter.unusedSimpArgs false
set_option linter.unusedVariables false
set_option linter.unusedSectionVars false
namespace Go.Proofs.Ytabmfaamadbefaa
open Go.RowKit

def mirH (g : H3) : H3 := ⟨-g.a, -g.b, g.c⟩
theorem mirH_ok {g : H3} (k : HOk g) : HOk (mirH g) := by
  have h1 := k.ba
  have h2 := k.bb
  refine ⟨?_, ?_, k.bc, ?_, ?_⟩
  · show -50000 ≤ -g.a ∧ -g.a ≤ 50000; omega
  · show -50000 ≤ -g.b ∧ -g.b ≤ 50000; omega
  · have := k.nz
    unfold NZ at *
    show -g.a ≠ 0 ∨ -g.b ≠ 0
    omega
  · have := k.prim
    unfold Prim at *
    rw [gcdL3] at *
    show Nat.gcd (Nat.gcd (-g.a).natAbs (-g.b).natAbs) g.c.natAbs = 1
    rw [Int.natAbs_neg, Int.natAbs_neg]; exact this
theorem halfOf_mir {g : H3} (k : HOk g) : halfOf (-g.a) (-g.b) g.c = (mirH g, true) := by
  have h1 := k.ba
  have h2 := k.bb
  have h3 := k.bc
  have hn := k.nz
  have hp := (mirH_ok k).prim
  unfold Prim at hp
  have e : gcdL [-g.a, -g.b, g.c] = 1 := hp
  rw [halfOf_red (g := 1) (x := -g.a) (y := -g.b) (z := g.c) (by unfold halfBad NZ at *; omega) e (by simp) (by simp) (by simp)]
  exact if_pos ((halfOk_iff _).2 (mirH_ok k))
theorem mirror_step {g : H3} {w : World} (k : HOk g) : Calls Try.prog 47 #[.agg #[.int .i64 g.a, .int .i64 g.b, .int .i64 g.c]] w fun e w' => e = .returned (.tuple #[.agg #[.int .i64 (mirH g).a, .int .i64 (mirH g).b, .int .i64 (mirH g).c], .bool true]) ∧ Below w.heap.size w w' := by
  have h1 := k.ba
  have h2 := k.bb
  have h3 := k.bc
  have HM := Lib.hid (halfOf_mir k)
  obtain ⟨m, hm⟩ : ∃ m, mirH g = m := ⟨_, rfl⟩
  rw [hm] at HM ⊢
  clear hm
  go_enter Try.func47, Try.ntmps47
  go_wp2_with ((go_at_call 48; (first | (with_reducible refine (calls_ov2 (impl_HalfOf_eq HM (by omega) (by omega) (by omega))).mono ?_) | refine (calls_ov (impl_HalfOf_eq HM (by omega) (by omega) (by omega))).mono ?_); rintro e w' ⟨rfl, x, rfl⟩))
  refine bodyPost_ret (v := .tuple #[.agg #[.int .i64 m.a, .int .i64 m.b, .int .i64 m.c], .bool true]) (by simp [results, Try.results47, go_sem]) rfl ⟨rfl, ?_⟩
  (repeat (first | exact bR | refine bO ?_ | refine bA ?_ | refine bS ?_ | refine bD ?_ | refine bN ?_))
theorem own_slice2 {B k : Nat} {E : TypeId} {w : World} {v : Value} {o l : List H3} {x : H3} (hl : l = o ++ [x]) (ho : o.length = k) (h : w.ownsRow B E 3 v (k + 1) (cells3 o ++ cells3 [x])) : ∃ A c, v = .slice A (k + 1) c ∧ RB B E w A c l := by
  subst ho
  obtain ⟨A, c, e, R⟩ := own_slice1 h
  exact ⟨A, c, e, by rw [hl]; exact R⟩
theorem _root_.Go.World.ownsRow.below' {B n : Nat} {E : TypeId} {w w' : World} {v : Value} {xs : List Value} (h : w.ownsRow B E 3 v n xs) (hb : Below w.heap.size w w') : w'.ownsRow B E 3 v n xs :=
  h.kept (grownBy_of_below (o := none) hb) (by cases hv : v.ownBlock <;> simp)
theorem meetAll_eqn {hs out : List H3} {ok : Bool} {A : Option Addr} {c n : Nat} {w : World} (hn : hs.length = n) (G : ∀ g ∈ hs, HOk g) (R : R3 36 w A c hs) (hl : 0 < n ∧ n ≤ 300) (hr : Hid (meetR hs = (out, ok))) :
    Calls Try.prog 35 #[.slice A n c] w (RegPost w out ok) := by
  subst hn; exact meetAll_any G R hl hr
def movedM (hs : List H3) : List H3 × Bool := if hs = [] then ([], true) else meetR (hs.map mirH)
def mirrorR (hs : List H3) : List H3 × Bool := if regionOk hs = true then movedM hs else ([], false)
theorem map_ok {hs : List H3} (G : ∀ g ∈ hs, HOk g) : ∀ g ∈ hs.map mirH, HOk g := fun g hg => by
  obtain ⟨x, hx, rfl⟩ := List.mem_map.1 hg
  exact mirH_ok (G x hx)

set_option maxRecDepth 100000 in
set_option maxHeartbeats 4000000 in
theorem moved_mirror {hs out : List H3} {ok : Bool} {A : Option Addr} {c : Nat} {w : World} (G : ∀ g ∈ hs, HOk g) (R : R3 36 w A c hs) (hl : 0 < hs.length ∧ hs.length ≤ 300) (hr : Hid (meetR (hs.map mirH) = (out, ok))) :
    Calls Try.prog 46 #[.agg #[.slice A hs.length c], .func (.func 47) #[] #[]] w (RegPost w out ok) := by
  obtain ⟨i0, hi, hz0, hz1, hz2⟩ := info_parts info_half
  have hl0 := hl.1
  have hl1 := hl.2
  obtain ⟨ms, hms⟩ : ∃ ms, hs.map mirH = ms := ⟨_, rfl⟩
  have GM := map_ok G
  have hml : ms.length = hs.length := by rw [← hms]; simp
  have hmk : ∀ k (h : k < hs.length), ms[k]? = some (mirH hs[k]) := fun k h => by rw [← hms, List.getElem?_map, List.getElem?_eq_getElem h]; rfl
  have HR := hr.out
  rw [hms] at GM HR
  have HM := Lib.hid HR
  have HML := Lib.hid hml
  have HMK := Lib.hid hmk
  have HV : Hid (decide (hs.length = 0) = false) := Lib.hid (decide_eq_false (by omega))
  clear hr HR hms hml hmk
  go_enter Try.func46, Try.ntmps46
  go_wp2_with ((go_at_call 13; (first | (with_reducible refine (calls_ov2 (IsVoid_eq HV)).mono ?_) | refine (calls_ov (IsVoid_eq HV)).mono ?_); rintro e w' ⟨rfl, x, rfl⟩))
  obtain ⟨W0, hW⟩ : ∃ W0, W0 = ov ((w.alloc (.cells #[.slice A hs.length c] 25)).alloc (.cells #[.slice none 0 0] 25)) x := ⟨_, rfl⟩
  rw [← hW]
  have T0 : Below w.heap.size w W0 := by rw [hW]; exact (by repeat (first | exact bR | refine bO ?_ | refine bA ?_ | refine bS ?_ | refine bD ?_ | refine bN ?_))
  have X2 := Lib.hid (show W0.heap[w.heap.size + 1]? = some (.cells #[.slice none 0 0] 25 (0, 0)) by rw [hW]; exact ov_blk (heap_new_at (by simp) rfl))
  clear hW
  have t0 := T0.size
  have hb2 : w.heap.size ≤ w.heap.size + 1 := by omega
  generalize w.heap.size + 1 = b2 at X2 hb2 ⊢
  have RW := R.below T0
  go_loopw [6, 17] (fun o i wr => ∃ (k : Nat) (A' : Option Addr) (c' : Nat), k ≤ hs.length ∧ i = .int .i64 k ∧ o = .slice A' k c' ∧ RB W0.heap.size 36 wr A' c' (ms.take k) ∧ Below W0.heap.size W0 wr) (fun _ i _ => hs.length - (intOf i).toNat)
  case atStart => exact ⟨0, none, 0, Nat.zero_le _, rfl, rfl, RB.nil _ _ _, Below.refl _ _⟩
  case round =>
    obtain ⟨k, A', c', hk, rfl, rfl, RO, hb⟩ := hrel
    have hbs := hb.size
    have htl : (ms.take k).length = k := by have := HML.out; simp; omega
    by_cases hlt : k < hs.length
    · obtain ⟨g0, rfl, hg0, z0, z1, z2⟩ := (RW.below hb).at_ hlt
      have kg := G _ (List.getElem_mem hlt)
      have HE := Lib.hid (HMK.out k hlt)
      obtain ⟨m, hm⟩ : ∃ m, mirH hs[k] = m := ⟨_, rfl⟩
      have HS : ∀ w, _ := fun w => mirror_step (w := w) kg
      rw [hm] at HS HE
      have HN := Lib.hid (show ms.take (k + 1) = ms.take k ++ [m] by
        obtain ⟨h1, h2⟩ := List.getElem?_eq_some_iff.1 HE.out
        rw [List.take_succ_eq_append_getElem h1, h2])
      clear hm
      have RO' : RB W0.heap.size 36 wr A' c' (ms.take k) := RO
      have OV : wr.ownsRow W0.heap.size 36 3 (.slice A' k c') k (cells3 (ms.take k)) := by unfold RB at RO; rw [htl] at RO; exact RO
      go_wp2_with (first | (go_at_call 47; (first | (with_reducible refine (calls_ov2 (HS _)).mono ?_) | refine (calls_ov (HS _)).mono ?_); rintro e w' ⟨rfl, x, rfl⟩) | (at_builtin; refine wpList_append_own _ rfl _ _ 23 rfl W0.heap.size 36 i0 (.agg #[.int .i64 0, .int .i64 0, .int .i64 0]) 3 24 Try.underlying23 hi hz0 hz1 hz2 rfl (by decide) _ _ _ rfl (OV.below' (by repeat (first | exact bR | refine bO ?_ | refine bA ?_ | refine bS ?_ | refine bD ?_ | refine bN ?_))) ⟨_, 0, none⟩ 1 1 (cells3 [m]) rfl rfl (news_at (heap_new_at (by simp) rfl)) (cells3_one _) (by unfold maxLen; omega) (by omega) (by simp [ov_size]; omega) ?_; intro v2 w2 O2 hg2 _; obtain ⟨A5, c5, rfl, RO5⟩ := own_slice2 HN.out htl O2; have HG := Lib.hid hg2; clear hg2 O2))
      go_roundw
      case rel => exact ⟨k + 1, A5, c5, by omega, by go_num, by go_num, RO5, grown_below (B := W0.heap.size) (by repeat (first | exact hb | refine bO ?_ | refine bA ?_ | refine bS ?_ | refine bD ?_ | refine bN ?_)) HG.out (fun k' hk' => (OV.lt k' hk').1) (Nat.le_refl _)⟩
      case measure => simp [intOf] <;> omega
    · obtain rfl : k = hs.length := by omega
      have hfull : ms.take hs.length = ms := by rw [← HML.out, List.take_length]
      rw [hfull] at RO
      have T1 := T0.trans (hb.mono t0)
      have X3 := box_below X2 hb
      have HL := HML.out
      go_wp2_with fail
      refine (meetAll_eqn (n := hs.length) HL GM RO.r3 (by omega) HM).mono ?_
      rintro e w2 ⟨A2', c2', rfl, R2', hb2'⟩
      have T2 : Below w.heap.size w w2 := T1.trans (hb2'.mono T1.size)
      have X4 := box_below X3 hb2'
      have HR1 := R2'.weak (B' := w.heap.size) T1.size
      clear X3 X2 hb2' R2' RO
      have x2 := cell_blk (j := 0) (v := .slice none 0 0) X4.out rfl
      have f2 := frozen_blk (j := 0) X4.out
      have l2 := (Array.getElem?_eq_some_iff.1 X4.out).1
      go_wp2
      refine bodyPost_ret (v := .tuple #[.agg #[.slice A2' out.length c2'], .bool ok]) (by simp [results, Try.results46, go_sem, x2, l2]) rfl ⟨A2', c2', rfl, HR1.set_box X4.out (by decide), T2.setCell (show w.heap.size ≤ b2 from hb2) _⟩

theorem moved_void {n c : Nat} {A : Option Addr} {fv : Value} {w : World} (h : Hid (decide (n = 0) = true)) :
    Calls Try.prog 46 #[.agg #[.slice A n c], fv] w (RegPost w [] true) := by
  go_enter Try.func46, Try.ntmps46
  go_wp2_with ((go_at_call 13; (first | (with_reducible refine (calls_ov2 (IsVoid_eq h)).mono ?_) | refine (calls_ov (IsVoid_eq h)).mono ?_); rintro e w' ⟨rfl, x, rfl⟩))
  refine bodyPost_ret (v := .tuple #[.agg #[.slice none 0 0], .bool true]) (by simp [results, Try.results46, go_sem]) rfl ⟨none, 0, rfl, RB.nil _ _ _, (by repeat (first | exact bR | refine bO ?_ | refine bA ?_ | refine bS ?_ | refine bD ?_ | refine bN ?_))⟩

set_option maxRecDepth 100000 in
set_option maxHeartbeats 4000000 in
theorem impl_MirrorRegion_eq {hs out : List H3} {ok : Bool} {A : Option Addr} {c : Nat} {w : World} (R : R3 36 w A c hs) (hl : hs.length ≤ 1000000000) (hr : Hid (mirrorR hs = (out, ok))) :
    Calls Try.prog 18 #[.agg #[.slice A hs.length c]] w (RegPost w out ok) := by
  have hr' := hr.out
  clear hr
  obtain ⟨rk, hrk⟩ : ∃ v, regionOk hs = v := ⟨_, rfl⟩
  have HRK := Lib.hid hrk
  unfold mirrorR at hr'
  rw [hrk] at hr'
  cases rk with
  | false =>
    simp at hr'
    obtain ⟨rfl, rfl⟩ := hr'
    clear hrk
    go_enter Try.func18, Try.ntmps18
    go_wp2_with (first | (go_at_call 30; (first | (with_reducible refine (calls_ov2 (impl_RegionOk_eq (by repeat (first | assumption | refine R3.ov ?_ _ | refine R3.alloc ?_ _)) hl HRK)).mono ?_) | refine (calls_ov (impl_RegionOk_eq (by repeat (first | assumption | refine R3.ov ?_ _ | refine R3.alloc ?_ _)) hl HRK)).mono ?_); rintro e w' ⟨rfl, x, rfl⟩))
    refine bodyPost_ret (v := .tuple #[.agg #[.slice none 0 0], .bool false]) (by simp [results, Try.results18, go_sem]) rfl ⟨none, 0, rfl, RB.nil _ _ _, (by repeat (first | exact bR | refine bO ?_ | refine bA ?_ | refine bS ?_ | refine bD ?_ | refine bN ?_))⟩
  | true =>
    rw [if_pos rfl] at hr'
    unfold movedM at hr'
    have key : ∀ W, Below w.heap.size w W → Calls Try.prog 46 #[.agg #[.slice A hs.length c], .func (.func 47) #[] #[]] W (RegPost W out ok) := fun W T => by
      by_cases h0 : hs = []
      · rw [if_pos h0] at hr'
        simp at hr'
        obtain ⟨rfl, rfl⟩ := hr'
        exact moved_void (Lib.hid (by rw [h0]; rfl))
      · rw [if_neg h0] at hr'
        obtain ⟨G, _, h40⟩ := regionOk_parts hrk h0
        exact moved_mirror G (R.below T) ⟨List.length_pos_iff.2 h0, by omega⟩ (Lib.hid hr')
    have KEY := Lib.hid key
    clear hr' hrk key
    go_enter Try.func18, Try.ntmps18
    go_wp2_with (first | (go_at_call 30; (first | (with_reducible refine (calls_ov2 (impl_RegionOk_eq (by repeat (first | assumption | refine R3.ov ?_ _ | refine R3.alloc ?_ _)) hl HRK)).mono ?_) | refine (calls_ov (impl_RegionOk_eq (by repeat (first | assumption | refine R3.ov ?_ _ | refine R3.alloc ?_ _)) hl HRK)).mono ?_); rintro e w' ⟨rfl, x, rfl⟩))
    refine (KEY.out _ (by repeat (first | exact bR | refine bO ?_ | refine bA ?_ | refine bS ?_ | refine bD ?_ | refine bN ?_))).mono ?_
    rintro e w2 ⟨A2', c2', rfl, R2', hb2'⟩
    have T2 : Below w.heap.size w w2 := Below.trans (by repeat (first | exact bR | refine bO ?_ | refine bA ?_ | refine bS ?_ | refine bD ?_ | refine bN ?_)) (hb2'.mono (by simp [ov_size]; omega))
    have X4 := Lib.hid ((hb2'.block (w.heap.size + 1) (by simp [ov_size]; omega)).trans (ov_blk (heap_new_at (r := some (.cells #[.slice none 0 0] 25 (0, 0))) (by simp) rfl)))
    have HR1 := R2'.weak (B' := w.heap.size) (by simp [ov_size]; omega)
    have hb2 : w.heap.size ≤ w.heap.size + 1 := by omega
    clear hb2' R2'
    generalize w.heap.size + 1 = b2 at X4 hb2 ⊢
    have x2 := cell_blk (j := 0) (v := .slice none 0 0) X4.out rfl
    have f2 := frozen_blk (j := 0) X4.out
    have l2 := (Array.getElem?_eq_some_iff.1 X4.out).1
    go_wp2
    refine bodyPost_ret (v := .tuple #[.agg #[.slice A2' out.length c2'], .bool ok]) (by simp [results, Try.results18, go_sem, x2, l2]) rfl ⟨A2', c2', rfl, HR1.set_box X4.out (by decide), T2.setCell (show w.heap.size ≤ b2 from hb2) _⟩

theorem meetR_short {hs out : List H3} {ok : Bool} (h : meetR hs = (out, ok)) : out.length ≤ 40 := by
  unfold meetR at h
  split at h
  · simp at h; rw [h.1]; simp
  · simp at h; rw [← h.1]; omega
theorem mirrorR_short {hs out : List H3} {ok : Bool} (h : mirrorR hs = (out, ok)) : out.length ≤ 1000 := by
  unfold mirrorR movedM at h
  split at h
  · split at h
    · simp at h; rw [h.1]; simp
    · have := meetR_short h; omega
  · simp at h; rw [h.1]; simp
end Go.Proofs.Ytabmfaamadbefaa

/- Contracts of ShiftRegion, of the program and of the reference. Condition: the steps are ints. -/
set_option linter.unusedSimpArgs false
set_option linter.unusedVariables false
set_option linter.unusedSectionVars false
namespace Go.Proofs.Ytabmfaamadbefaa
open Go.RowKit

def movedF (F : H3 → H3 × Bool) (hs : List H3) : List H3 × Bool := if hs = [] then ([], true) else if hs.all (fun g => (F g).2) = true then meetR (hs.map fun g => (F g).1) else ([], false)
theorem movedF_short {F : H3 → H3 × Bool} {hs out : List H3} {ok : Bool} (h : movedF F hs = (out, ok)) : out.length ≤ 40 := by
  unfold movedF at h
  split at h
  · simp at h; rw [h.1]; simp
  · split at h
    · exact meetR_short h
    · simp at h; rw [h.1]; simp
theorem halfOf_ok {a b c : Int} {h : H3} {v : Bool} (e : halfOf a b c = (h, v)) (hv : v = true) : HOk h := by
  subst hv
  unfold halfOf at e
  split at e
  · simp at e
  · split at e
    · rename_i hk
      injection e with e _
      rw [← e]
      exact (halfOk_iff _).1 hk
    · simp at e
def shiftF (dx dy : Int) (g : H3) : H3 × Bool := halfOf g.a g.b (g.c + g.a * dx + g.b * dy)
structure StepBd (dx dy : Int) : Prop where
  bx : -2000 ≤ dx ∧ dx ≤ 2000
  bY : -2000 ≤ dy ∧ dy ≤ 2000
theorem shift_step {g m : H3} {b : Bool} {dx dy : Int} {b4 b5 : Nat} {W : World} (k : HOk g) (e : Hid (shiftF dx dy g = (m, b))) (B : StepBd dx dy) (c4 : W.cell? ⟨b4, 0, none⟩ = some (.int .i64 dx)) (c5 : W.cell? ⟨b5, 0, none⟩ = some (.int .i64 dy)) (l4 : b4 < W.heap.size) (l5 : b5 < W.heap.size) :
    Calls Try.prog 50 #[.agg #[.int .i64 g.a, .int .i64 g.b, .int .i64 g.c], .pointer (some ⟨b4, 0, none⟩), .pointer (some ⟨b5, 0, none⟩)] W fun e w' => e = .returned (.tuple #[.agg #[.int .i64 m.a, .int .i64 m.b, .int .i64 m.c], .bool b]) ∧ Below W.heap.size W w' := by
  have h1 := k.ba
  have h2 := k.bb
  have h3 := k.bc
  have p1 := mul_bd (x := g.a) (y := dx) h1 B.bx
  have p2 := mul_bd (x := g.b) (y := dy) h2 B.bY
  have HM : Hid (halfOf g.a g.b (g.c + g.a * dx + g.b * dy) = (m, b)) := e
  go_enter Try.func50, Try.ntmps50
  go_wp2_with ((go_at_call 48; (first | (with_reducible refine (calls_ov2 (impl_HalfOf_eq HM (by omega) (by omega) (by omega))).mono ?_) | refine (calls_ov (impl_HalfOf_eq HM (by omega) (by omega) (by omega))).mono ?_); rintro e w' ⟨rfl, x, rfl⟩))
  refine bodyPost_ret (v := .tuple #[.agg #[.int .i64 m.a, .int .i64 m.b, .int .i64 m.c], .bool b]) (by simp [results, Try.results50, go_sem]) rfl ⟨rfl, ?_⟩
  (repeat (first | exact bR | refine bO ?_ | refine bA ?_ | refine bS ?_ | refine bD ?_ | refine bN ?_))

set_option maxRecDepth 100000 in
set_option maxHeartbeats 4000000 in
theorem moved_shift {hs out : List H3} {ok : Bool} {A : Option Addr} {c : Nat} {w : World} {dx dy : Int} {b4 b5 : Nat} (SB : StepBd dx dy) (c4 : w.cell? ⟨b4, 0, none⟩ = some (.int .i64 dx)) (c5 : w.cell? ⟨b5, 0, none⟩ = some (.int .i64 dy)) (l4 : b4 < w.heap.size) (l5 : b5 < w.heap.size) (G : ∀ g ∈ hs, HOk g) (R : R3 36 w A c hs) (hl : 0 < hs.length ∧ hs.length ≤ 300) (hr : Hid (movedF (shiftF dx dy) hs = (out, ok))) :
    Calls Try.prog 46 #[.agg #[.slice A hs.length c], .func (.func 50) #[] #[.pointer (some ⟨b4, 0, none⟩), .pointer (some ⟨b5, 0, none⟩)]] w (RegPost w out ok) := by
  obtain ⟨i0, hi, hz0, hz1, hz2⟩ := info_parts info_half
  have hl0 := hl.1
  have hl1 := hl.2
  have hne : hs ≠ [] := List.length_pos_iff.1 hl.1
  obtain ⟨FX, hFX⟩ : ∃ FX, FX = (shiftF dx dy) := ⟨_, rfl⟩
  rw [← hFX] at hr
  obtain ⟨ms, hms⟩ : ∃ ms, hs.map (fun g => (FX g).1) = ms := ⟨_, rfl⟩
  have hml : ms.length = hs.length := by rw [← hms]; simp
  have hmk : ∀ k (h : k < hs.length), ms[k]? = some (FX hs[k]).1 := fun k h => by rw [← hms, List.getElem?_map, List.getElem?_eq_getElem h]; rfl
  have HR := hr.out
  unfold movedF at HR
  rw [if_neg hne, hms] at HR
  have HM := Lib.hid HR
  have HML := Lib.hid hml
  have HMK := Lib.hid hmk
  have HMS := Lib.hid hms
  have HF := Lib.hid hFX
  have HV : Hid (decide (hs.length = 0) = false) := Lib.hid (decide_eq_false (by omega))
  clear hr HR hms hml hmk hne hFX
  go_enter Try.func46, Try.ntmps46
  go_wp2_with ((go_at_call 13; (first | (with_reducible refine (calls_ov2 (IsVoid_eq HV)).mono ?_) | refine (calls_ov (IsVoid_eq HV)).mono ?_); rintro e w' ⟨rfl, x, rfl⟩))
  obtain ⟨W0, hW⟩ : ∃ W0, W0 = ov ((w.alloc (.cells #[.slice A hs.length c] 25)).alloc (.cells #[.slice none 0 0] 25)) x := ⟨_, rfl⟩
  rw [← hW]
  have T0 : Below w.heap.size w W0 := by rw [hW]; exact (by repeat (first | exact bR | refine bO ?_ | refine bA ?_ | refine bS ?_ | refine bD ?_ | refine bN ?_))
  have X2 := Lib.hid (show W0.heap[w.heap.size + 1]? = some (.cells #[.slice none 0 0] 25 (0, 0)) by rw [hW]; exact ov_blk (heap_new_at (by simp) rfl))
  clear hW
  have t0 := T0.size
  have hb2 : w.heap.size ≤ w.heap.size + 1 := by omega
  generalize w.heap.size + 1 = b2 at X2 hb2 ⊢
  have RW := R.below T0
  go_loopw [6, 17] (fun o i wr => ∃ (k : Nat) (A' : Option Addr) (c' : Nat), k ≤ hs.length ∧ i = .int .i64 k ∧ o = .slice A' k c' ∧ Hid ((hs.take k).all (fun g => (FX g).2) = true) ∧ RB W0.heap.size 36 wr A' c' (ms.take k) ∧ Below W0.heap.size W0 wr) (fun _ i _ => hs.length - (intOf i).toNat)
  case atStart => exact ⟨0, none, 0, Nat.zero_le _, rfl, rfl, Lib.hid rfl, RB.nil _ _ _, Below.refl _ _⟩
  case round =>
    obtain ⟨k, A', c', hk, rfl, rfl, HA, RO, hb⟩ := hrel
    have hbs := hb.size
    have htl : (ms.take k).length = k := by have := HML.out; simp; omega
    have T1 := T0.trans (hb.mono t0)
    have X3 := box_below X2 hb
    have hX2 := (Array.getElem?_eq_some_iff.1 X3.out).1
    by_cases hlt : k < hs.length
    · obtain ⟨g0, rfl, hg0, z0, z1, z2⟩ := (RW.below hb).at_ hlt
      have kg := G _ (List.getElem_mem hlt)
      have HE := Lib.hid (HMK.out k hlt)
      have HT := Lib.hid (all_take_succ (fun g => (FX g).2) hs k hlt)
      obtain ⟨⟨m, b⟩, hmb⟩ : ∃ m, FX hs[k] = m := ⟨_, rfl⟩
      have hmb' := hmb
      rw [HF.out] at hmb'
      have HS : ∀ W, Below wr.heap.size wr W → _ := fun W hW => shift_step (W := W) kg (Lib.hid hmb') SB ((hW.cell (p := ⟨b4, 0, none⟩) (by have := T1.size; show b4 < wr.heap.size; omega)).trans ((T1.cell (p := ⟨b4, 0, none⟩) l4).trans c4)) ((hW.cell (p := ⟨b5, 0, none⟩) (by have := T1.size; show b5 < wr.heap.size; omega)).trans ((T1.cell (p := ⟨b5, 0, none⟩) l5).trans c5)) (by have := T1.size; have := hW.size; omega) (by have := T1.size; have := hW.size; omega)
      have HN := Lib.hid (show ms.take (k + 1) = ms.take k ++ [m] by
        obtain ⟨h1, h2⟩ := List.getElem?_eq_some_iff.1 HE.out
        rw [List.take_succ_eq_append_getElem h1, h2, hmb])
      have HB := Lib.hid (show (FX hs[k]).2 = b by rw [hmb])
      clear hmb hmb' HE
      have OV : wr.ownsRow W0.heap.size 36 3 (.slice A' k c') k (cells3 (ms.take k)) := by unfold RB at RO; rw [htl] at RO; exact RO
      cases b with
      | true =>
        go_wp2_with (first | (go_at_call 50; (first | (with_reducible refine (calls_ov2 (HS _ (by repeat (first | exact bR | refine bO ?_ | refine bA ?_ | refine bS ?_ | refine bD ?_ | refine bN ?_)))).mono ?_) | refine (calls_ov (HS _ (by repeat (first | exact bR | refine bO ?_ | refine bA ?_ | refine bS ?_ | refine bD ?_ | refine bN ?_)))).mono ?_); rintro e w' ⟨rfl, x, rfl⟩) | (at_builtin; refine wpList_append_own _ rfl _ _ 23 rfl W0.heap.size 36 i0 (.agg #[.int .i64 0, .int .i64 0, .int .i64 0]) 3 24 Try.underlying23 hi hz0 hz1 hz2 rfl (by decide) _ _ _ rfl (OV.below' (by repeat (first | exact bR | refine bO ?_ | refine bA ?_ | refine bS ?_ | refine bD ?_ | refine bN ?_))) ⟨_, 0, none⟩ 1 1 (cells3 [m]) rfl rfl (news_at (heap_new_at (by simp) rfl)) (cells3_one _) (by unfold maxLen; omega) (by omega) (by simp [ov_size]; omega) ?_; intro v2 w2 O2 hg2 _; obtain ⟨A5, c5, rfl, RO5⟩ := own_slice2 HN.out htl O2; have HG := Lib.hid hg2; clear hg2 O2))
        go_roundw
        case rel => exact ⟨k + 1, A5, c5, by omega, by go_num, by go_num, Lib.hid (by rw [HT.out, HA.out, HB.out]; rfl), RO5, grown_below (B := W0.heap.size) (by repeat (first | exact hb | refine bO ?_ | refine bA ?_ | refine bS ?_ | refine bD ?_ | refine bN ?_)) HG.out (fun k' hk' => (OV.lt k' hk').1) (Nat.le_refl _)⟩
        case measure => simp [intOf] <;> omega
      | false =>
        have hr0 := HM.out
        have hall : hs.all (fun g => (FX g).2) = false := by
          rw [List.all_eq_false]
          exact ⟨hs[k], List.getElem_mem hlt, by rw [HB.out]; simp⟩
        rw [if_neg (by rw [hall]; simp)] at hr0
        simp at hr0
        obtain ⟨rfl, rfl⟩ := hr0
        clear hall
        have x2 := cell_blk (j := 0) (v := .slice none 0 0) X3.out rfl
        have f2 := frozen_blk (j := 0) X3.out
        go_wp2_with (first | (go_at_call 50; (first | (with_reducible refine (calls_ov2 (HS _ (by repeat (first | exact bR | refine bO ?_ | refine bA ?_ | refine bS ?_ | refine bD ?_ | refine bN ?_)))).mono ?_) | refine (calls_ov (HS _ (by repeat (first | exact bR | refine bO ?_ | refine bA ?_ | refine bS ?_ | refine bD ?_ | refine bN ?_)))).mono ?_); rintro e w' ⟨rfl, x, rfl⟩))
        refine bodyPost_ret (v := .tuple #[.agg #[.slice none 0 0], .bool false]) (by simp [results, Try.results46, go_sem, x2, hX2]) rfl ⟨none, 0, rfl, RB.nil _ _ _, ?_⟩
        exact (by repeat (first | exact T1 | refine bO ?_ | refine bA ?_ | refine bS ?_ | refine bD ?_ | refine bN ?_))
    · obtain rfl : k = hs.length := by omega
      have hfull : ms.take hs.length = ms := by rw [← HML.out, List.take_length]
      rw [hfull] at RO
      have hall := HA.out
      rw [List.take_length] at hall
      have HL := HML.out
      have hr0 := HM.out
      rw [if_pos hall] at hr0
      have HM2 := Lib.hid hr0
      have GM : ∀ g ∈ ms, HOk g := fun g hg => by
        rw [← HMS.out] at hg
        obtain ⟨y, hy, rfl⟩ := List.mem_map.1 hg
        have h2 := List.all_eq_true.1 hall y hy
        rw [HF.out] at h2 ⊢
        exact halfOf_ok rfl h2
      clear hr0 hall
      go_wp2_with fail
      refine (meetAll_eqn (n := hs.length) HL GM RO.r3 (by omega) HM2).mono ?_
      rintro e w2 ⟨A2', c2', rfl, R2', hb2'⟩
      have T2 : Below w.heap.size w w2 := T1.trans (hb2'.mono T1.size)
      have X4 := box_below X3 hb2'
      have HR1 := R2'.weak (B' := w.heap.size) T1.size
      clear X3 X2 hb2' R2' RO hX2
      have x2 := cell_blk (j := 0) (v := .slice none 0 0) X4.out rfl
      have f2 := frozen_blk (j := 0) X4.out
      have l2 := (Array.getElem?_eq_some_iff.1 X4.out).1
      go_wp2
      refine bodyPost_ret (v := .tuple #[.agg #[.slice A2' out.length c2'], .bool ok]) (by simp [results, Try.results46, go_sem, x2, l2]) rfl ⟨A2', c2', rfl, HR1.set_box X4.out (by decide), T2.setCell (show w.heap.size ≤ b2 from hb2) _⟩

def shiftR (dx dy : Int) (hs : List H3) : List H3 × Bool := if regionOk hs = true ∧ inR dx (-2000) 2000 = true ∧ inR dy (-2000) 2000 = true then movedF (shiftF dx dy) hs else ([], false)
theorem shiftR_short {dx dy : Int} {hs out : List H3} {ok : Bool} (h : shiftR dx dy hs = (out, ok)) : out.length ≤ 1000 := by
  unfold shiftR at h
  split at h
  · have := movedF_short h; omega
  · simp at h; rw [h.1]; simp
theorem isStep_eq {n : Int} {v : Bool} {w : World} (h : inR n (-2000) 2000 = v) : Calls Try.prog 49 #[.int .i64 n] w fun e w' => e = .returned (.bool v) ∧ w = w' := by
  go_enter Try.func49, Try.ntmps49
  go_wp2_with ((go_at_call 69; refine (inRange_eq h).mono ?_; rintro e w' ⟨rfl, rfl⟩))
  go_ret
  exact ⟨rfl, rfl⟩

set_option maxRecDepth 100000 in
set_option maxHeartbeats 4000000 in
theorem impl_ShiftRegion_eq {hs out : List H3} {ok : Bool} {dx dy : Int} {A : Option Addr} {c : Nat} {w : World} (R : R3 36 w A c hs) (hl : hs.length ≤ 1000000000) (hdx : -9223372036854775808 ≤ dx ∧ dx ≤ 9223372036854775807) (hdy : -9223372036854775808 ≤ dy ∧ dy ≤ 9223372036854775807) (hr : Hid (shiftR dx dy hs = (out, ok))) :
    Calls Try.prog 19 #[.agg #[.slice A hs.length c], .int .i64 dx, .int .i64 dy] w (RegPost w out ok) := by
  have hr' := hr.out
  clear hr
  obtain ⟨rk, hrk⟩ : ∃ v, regionOk hs = v := ⟨_, rfl⟩
  obtain ⟨sx, hsx⟩ : ∃ v, inR dx (-2000) 2000 = v := ⟨_, rfl⟩
  obtain ⟨sy, hsy⟩ : ∃ v, inR dy (-2000) 2000 = v := ⟨_, rfl⟩
  have HRK := Lib.hid hrk
  unfold shiftR at hr'
  rw [hrk, hsx, hsy] at hr'
  by_cases hall : rk = true ∧ sx = true ∧ sy = true
  · obtain ⟨rfl, rfl, rfl⟩ := hall
    rw [if_pos ⟨rfl, rfl, rfl⟩] at hr'
    have SB : StepBd dx dy := ⟨inR_iff.1 hsx, inR_iff.1 hsy⟩
    have key : ∀ W b4 b5, Below w.heap.size w W → W.cell? ⟨b4, 0, none⟩ = some (.int .i64 dx) → W.cell? ⟨b5, 0, none⟩ = some (.int .i64 dy) → b4 < W.heap.size → b5 < W.heap.size → Calls Try.prog 46 #[.agg #[.slice A hs.length c], .func (.func 50) #[] #[.pointer (some ⟨b4, 0, none⟩), .pointer (some ⟨b5, 0, none⟩)]] W (RegPost W out ok) := fun W b4 b5 T c4 c5 l4 l5 => by
      by_cases h0 : hs = []
      · unfold movedF at hr'
        rw [if_pos h0] at hr'
        simp at hr'
        obtain ⟨rfl, rfl⟩ := hr'
        exact moved_void (Lib.hid (by rw [h0]; rfl))
      · obtain ⟨G, _, h40⟩ := regionOk_parts hrk h0
        exact moved_shift SB c4 c5 l4 l5 G (R.below T) ⟨List.length_pos_iff.2 h0, by omega⟩ (Lib.hid hr')
    have KEY := Lib.hid key
    clear hr' hrk key
    go_enter Try.func19, Try.ntmps19
    go_wp2_with (first | (go_at_call 30; (first | (with_reducible refine (calls_ov2 (impl_RegionOk_eq (by repeat (first | assumption | refine R3.ov ?_ _ | refine R3.alloc ?_ _)) hl HRK)).mono ?_) | refine (calls_ov (impl_RegionOk_eq (by repeat (first | assumption | refine R3.ov ?_ _ | refine R3.alloc ?_ _)) hl HRK)).mono ?_); rintro e w' ⟨rfl, x, rfl⟩) | (go_at_call 49; refine (isStep_eq (by assumption)).mono ?_; rintro e w' ⟨rfl, rfl⟩))
    obtain ⟨W0, hW⟩ : ∃ W0, W0 = ov ((((w.alloc (.cells #[.slice A hs.length c] 25)).alloc (.cells #[.int .i64 dx] 3)).alloc (.cells #[.int .i64 dy] 3)).alloc (.cells #[.slice none 0 0] 25)) x := ⟨_, rfl⟩
    rw [← hW]
    have T0 : Below w.heap.size w W0 := by rw [hW]; exact (by repeat (first | exact bR | refine bO ?_ | refine bA ?_ | refine bS ?_ | refine bD ?_ | refine bN ?_))
    have X1 : W0.heap[w.heap.size + 1]? = some (.cells #[.int .i64 dx] 3 (0, 0)) := by rw [hW]; exact ov_blk ((heap_old_at (by simp)).trans ((heap_old_at (by simp)).trans (heap_new_at (by simp) rfl)))
    have X2 : W0.heap[w.heap.size + 1 + 1]? = some (.cells #[.int .i64 dy] 3 (0, 0)) := by rw [hW]; exact ov_blk ((heap_old_at (by simp)).trans (heap_new_at (by simp) rfl))
    have X3 := Lib.hid (show W0.heap[w.heap.size + 1 + 1 + 1]? = some (.cells #[.slice none 0 0] 25 (0, 0)) by rw [hW]; exact ov_blk (heap_new_at (by simp) rfl))
    refine (KEY.out W0 _ _ T0 (cell_blk (j := 0) X1 rfl) (cell_blk (j := 0) X2 rfl) (Array.getElem?_eq_some_iff.1 X1).1 (Array.getElem?_eq_some_iff.1 X2).1).mono ?_
    rintro e w2 ⟨A2', c2', rfl, R2', hb2'⟩
    have T2 : Below w.heap.size w w2 := T0.trans (hb2'.mono T0.size)
    have X4 := box_below X3 hb2'
    have HR1 := R2'.weak (B' := w.heap.size) T0.size
    have hb2 : w.heap.size ≤ w.heap.size + 1 + 1 + 1 := by omega
    clear hb2' R2' X1 X2 X3 hW T0
    generalize w.heap.size + 1 + 1 + 1 = b2 at X4 hb2 ⊢
    have x2 := cell_blk (j := 0) (v := .slice none 0 0) X4.out rfl
    have f2 := frozen_blk (j := 0) X4.out
    have l2 := (Array.getElem?_eq_some_iff.1 X4.out).1
    go_wp2
    refine bodyPost_ret (v := .tuple #[.agg #[.slice A2' out.length c2'], .bool ok]) (by simp [results, Try.results19, go_sem, x2, l2]) rfl ⟨A2', c2', rfl, HR1.set_box X4.out (by decide), T2.setCell (show w.heap.size ≤ b2 from hb2) _⟩
  · rw [if_neg hall] at hr'
    simp at hr'
    obtain ⟨rfl, rfl⟩ := hr'
    have hc : rk = false ∨ (rk = true ∧ sx = false) ∨ (rk = true ∧ sx = true ∧ sy = false) := by cases rk <;> cases sx <;> cases sy <;> simp at hall ⊢
    clear hall hrk
    rcases hc with rfl | ⟨rfl, rfl⟩ | ⟨rfl, rfl, rfl⟩
    all_goals
      go_enter Try.func19, Try.ntmps19
      go_wp2_with (first | (go_at_call 30; (first | (with_reducible refine (calls_ov2 (impl_RegionOk_eq (by repeat (first | assumption | refine R3.ov ?_ _ | refine R3.alloc ?_ _)) hl HRK)).mono ?_) | refine (calls_ov (impl_RegionOk_eq (by repeat (first | assumption | refine R3.ov ?_ _ | refine R3.alloc ?_ _)) hl HRK)).mono ?_); rintro e w' ⟨rfl, x, rfl⟩) | (go_at_call 49; refine (isStep_eq (by assumption)).mono ?_; rintro e w' ⟨rfl, rfl⟩))
      refine bodyPost_ret (v := .tuple #[.agg #[.slice none 0 0], .bool false]) (by simp [results, Try.results19, go_sem]) rfl ⟨none, 0, rfl, RB.nil _ _ _, (by repeat (first | exact bR | refine bO ?_ | refine bA ?_ | refine bS ?_ | refine bD ?_ | refine bN ?_))⟩

end Go.Proofs.Ytabmfaamadbefaa

/- Rows of ints in the laws: the argument opened, the copy, the comparison. Condition: at most 2^20 ints where said. -/
set_option linter.unusedSimpArgs false
set_option linter.unusedVariables false
set_option linter.unusedSectionVars false
namespace Go.Proofs.Ytabmfaamadbefaa
open Go.ChangeShapes Go.WideShapes Go.ChangeAt Go.RowKit Go.Joins Go.Deep

/-- A row of ints: any address. -/
def RI (w : World) (A : Option Addr) (xs : List Int) : Prop := ∀ k (hk : k < xs.length), ∃ g o, A = some ⟨g, o, none⟩ ∧ g < w.heap.size ∧ w.cell? ⟨g, o + k, none⟩ = some (.int .i64 xs[k])
theorem RI.below {w w' : World} {A : Option Addr} {xs : List Int} (h : RI w A xs) (hb : Below w.heap.size w w') : RI w' A xs := fun k hk => by
  obtain ⟨g, o, h1, h2, h3⟩ := h k hk
  have := hb.size
  exact ⟨g, o, h1, by omega, (hb.cell (p := ⟨g, o + k, none⟩) h2).trans h3⟩
section
variable {H : Type} {enc : TypeId × Value → H} {w : World} {base : Nat} {spare : Nat → Bool} {held : Bool} {n : Nat}
theorem ints_of_trod {cs : List Value} {y : DataW H × List MemPlace} (h : DataW.trod enc Try.prog w base spare held n 108 cs = some y) : ∃ (A : Option Addr) (c : Nat) (xs : List Int), cs = [.slice A xs.length c] ∧ RI w A xs ∧ xs.length ≤ c ∧ c ≤ maxLen ∧ ∀ x ∈ xs, -9223372036854775808 ≤ x ∧ x ≤ 9223372036854775807 := by
  rcases open_slice Try.underlying108 h with ⟨rfl, _⟩ | ⟨a, len, cap, m, n', D, Pl, rfl, hb, hl, hm, hmm, _, hi⟩
  · exact ⟨none, 0, [], rfl, fun k hk => by simp at hk, Nat.le_refl _, by unfold maxLen; omega, fun x hx => by cases hx⟩
  · have hlm : len ≤ m := by rw [hmm]; split <;> omega
    have cell0 : ∀ i, i < len → ∃ x : Int, w.cell? (a.add i) = some (.int .i64 x) ∧ -9223372036854775808 ≤ x ∧ x ≤ 9223372036854775807 := by
      intro i hi'
      obtain ⟨cs', hc, ht⟩ := hi i (by omega)
      rw [cells_int] at hc
      obtain ⟨_, hcl, hat⟩ := World.cells?_some hc
      match cs', hcl with
      | [c0], _ =>
        obtain ⟨x, rfl, hx⟩ := int_of_trod ht
        have c0 := hat 0 (by omega)
        rw [Go.Deep.add_add, Nat.mul_one, Nat.add_zero] at c0
        exact ⟨x, c0, hx⟩
    have hall : ∀ i, i < len → ∃ x : Int, (∃ g o, (some a : Option Addr) = some ⟨g, o, none⟩ ∧ g < w.heap.size ∧ w.cell? ⟨g, o + i, none⟩ = some (.int .i64 x)) ∧ -9223372036854775808 ≤ x ∧ x ≤ 9223372036854775807 := by
      intro i hi'
      obtain ⟨x0, h0, _⟩ := cell0 0 (by omega)
      obtain ⟨x, c0, hx⟩ := cell0 i hi'
      rw [show a.add 0 = a by simp [Addr.add]] at h0
      obtain ⟨sp, hbk⟩ := cell?_addr h0
      obtain ⟨g, o, sp'⟩ := a
      simp only at sp hbk
      subst sp
      rw [Addr.add_lit] at c0
      exact ⟨x, ⟨g, o, rfl, hbk, c0⟩, hx⟩
    obtain ⟨xs, hxl, hx⟩ := list_of len hall
    subst hxl
    refine ⟨some a, cap, xs, rfl, fun k hk => (hx k hk).1, hl, hm, fun x hxm => ?_⟩
    obtain ⟨i, hi', rfl⟩ := List.mem_iff_getElem.1 hxm
    exact (hx i hi').2
set_option maxRecDepth 100000 in
theorem open_ints {v : Value} {d : DataW H} {p : List MemPlace} {r : Reach} {b0 : Nat} (hv : Value.okWide Try.prog w r b0 108 v) (h : DataW.Trod enc Try.prog w base spare held 108 v d p) :
    ∃ (A : Option Addr) (c : Nat) (xs : List Int), v = .slice A xs.length c ∧ RI w A xs ∧ xs.length ≤ 9223372036854775807 ∧ ∀ x ∈ xs, -9223372036854775808 ≤ x ∧ x ≤ 9223372036854775807 := by
  obtain ⟨fuel, hf⟩ := h
  obtain ⟨A, c, xs, e, h1, h2, h3, h4⟩ := ints_of_trod hf
  obtain ⟨a, l, k, rfl⟩ := okWide_slice Try.underlying108 hv
  simp [Value.cells] at e
  exact ⟨A, c, xs, by rw [e.1, e.2.1, e.2.2], h1, by unfold maxLen at h3; omega, h4⟩
end

/-- A block of ints. -/
def IB (g : Nat) (w : World) (xs : List Int) : Prop := ∃ cur : Array Value, w.heap[g]? = some (.cells cur 3 (0, 0)) ∧ cur.size = xs.length ∧ ∀ j (hj : j < xs.length), cur[j]? = some (.int .i64 xs[j])
theorem IB.lt {g : Nat} {w : World} {xs : List Int} (h : IB g w xs) : g < w.heap.size := by
  obtain ⟨cur, h1, _⟩ := h
  exact (Array.getElem?_eq_some_iff.1 h1).1
theorem IB.below {g : Nat} {w w' : World} {xs : List Int} (h : IB g w xs) (hb : Below w.heap.size w w') : IB g w' xs := by
  have hl := h.lt
  obtain ⟨cur, h1, h2⟩ := h
  exact ⟨cur, (hb.block g hl).trans h1, h2⟩
theorem IB.ri {g : Nat} {w : World} {xs : List Int} (h : IB g w xs) : RI w (some ⟨g, 0, none⟩) xs := fun k hk => by
  have hl := h.lt
  obtain ⟨cur, h1, _, h3⟩ := h
  exact ⟨g, 0, rfl, hl, by rw [Nat.zero_add]; exact cell_blk h1 (h3 k hk)⟩
theorem IB.ne {g b : Nat} {w : World} {xs : List Int} {arr : Array Value} {T : TypeId} {fr : Nat × Nat} (h : IB g w xs) (hb : w.heap[b]? = some (.cells arr T fr)) (hT : T ≠ 3) : some b ≠ some g := by
  obtain ⟨cur, h1, _⟩ := h
  intro e
  injection e with e
  subst e
  rw [h1] at hb
  injection hb with hb; injection hb with _ hb; exact hT hb.symm
theorem IB.apart {g : Nat} {w : World} {xs : List Int} {B : Nat} {E : TypeId} {A : Option Addr} {c : Nat} {ys : List H3} (h : IB g w xs) (R : RB B E w A c ys) (hT : E ≠ 3) : A ≠ some ⟨g, 0, none⟩ := by
  rintro rfl
  rcases R.2 with ⟨e, _⟩ | ⟨g', cap, cu, e1, _, hh, _⟩
  · cases e
  · injection e1 with e1; injection e1 with e1; injection e1 with e1
    subst e1
    exact h.ne hh hT rfl
theorem RB.grown_i {B g : Nat} {E : TypeId} {w w' : World} {A : Option Addr} {c : Nat} {xs : List H3} (h : RB B E w A c xs) (hg : w.grownBy w' (some g)) (hne : A ≠ some ⟨g, 0, none⟩) : RB B E w' A c xs := by
  refine ⟨h.1, ?_⟩
  rcases h.2 with e | ⟨g', cap, cu, e1, hgB, hh, hr⟩
  · exact .inl e
  · refine .inr ⟨g', cap, cu, e1, hgB, ?_, hr⟩
    refine (hg.block g' (Array.getElem?_eq_some_iff.1 hh).1 fun e => ?_).trans hh
    injection e with e
    subst e
    injection e1 with e1
    exact hne e1
theorem box_grown_i {W W' : World} {b g : Nat} {o : Obj} (h : Hid (W.heap[b]? = some o)) (K : W.grownBy W' (some g)) (hne : some b ≠ some g) : Hid (W'.heap[b]? = some o) := Lib.hid ((K.block b (Array.getElem?_eq_some_iff.1 h.out).1 hne).trans h.out)
theorem IB.grown {g : Nat} {w w' : World} {xs : List Int} {o : Option Nat} (h : IB g w xs) (hg : w.grownBy w' o) (hne : some g ≠ o) : IB g w' xs := by
  have hl := h.lt
  obtain ⟨cur, h1, h2⟩ := h
  exact ⟨cur, (hg.block g hl hne).trans h1, h2⟩
theorem RB.ne_i {B g n : Nat} {E : TypeId} {w : World} {A : Option Addr} {c : Nat} {ys : List H3} {xs : List Int} (R : RB B E w A c ys) (h : IB g w xs) (hT : E ≠ 3) : some g ≠ (Value.slice A n c).ownBlock := by
  obtain ⟨cur, h1, _⟩ := h
  exact R.ne_box h1 (fun e => hT e.symm)
/-- What a call that copies a row of ints leaves: a new block. -/
def IntsOut (w : World) (xs : List Int) (e : Ending) (w' : World) : Prop := ∃ g c, e = .returned (.slice (some ⟨g, 0, none⟩) xs.length c) ∧ w.heap.size ≤ g ∧ IB g w' xs ∧ Below w.heap.size w w'

theorem info_int : (Try.prog.info? 3).map (fun i => (i.zero, i.size, i.bytes)) = some (some (.int .i64 0), 1, 8) := by kernel_rfl
theorem info_int_parts : ∃ i, Try.prog.info? 3 = some i ∧ i.zero = some (.int .i64 0) ∧ i.size = 1 ∧ i.bytes = 8 := by
  have h := info_int
  cases hq : Try.prog.info? 3 with
  | none => rw [hq] at h; cases h
  | some i => rw [hq] at h; simp at h; exact ⟨i, rfl, h.1, h.2.1, h.2.2⟩

def smallI (n : Int) : Bool := inR n (-20) 20
def mapOk (m : List Int) (q : Int) : Bool := decide (m.length = 4) && inR q 1 20 && m.all smallI
theorem RI.four {w : World} {A : Option Addr} {a b e f : Int} (R : RI w A [a, b, e, f]) : ∃ g o, A = some ⟨g, o, none⟩ ∧ g < w.heap.size ∧ w.cell? ⟨g, o, none⟩ = some (.int .i64 a) ∧ w.cell? ⟨g, o + 1, none⟩ = some (.int .i64 b) ∧ w.cell? ⟨g, o + 2, none⟩ = some (.int .i64 e) ∧ w.cell? ⟨g, o + 3, none⟩ = some (.int .i64 f) := by
  obtain ⟨g, o, rfl, h1, c0⟩ := R 0 (by simp)
  obtain ⟨g1, o1, e1, _, c1⟩ := R 1 (by simp)
  obtain ⟨g2, o2, e2, _, c2⟩ := R 2 (by simp)
  obtain ⟨g3, o3, e3, _, c3⟩ := R 3 (by simp)
  injection e1 with e1; injection e1 with e1 f1; subst e1 f1
  injection e2 with e2; injection e2 with e2 f2; subst e2 f2
  injection e3 with e3; injection e3 with e3 f3; subst e3 f3
  exact ⟨g, o, rfl, h1, c0, c1, c2, c3⟩
theorem isStB_pur {w0 w : World} {Rs : List RD} {vs : Nat → Value} {T : TypeId} {m j b : Nat} {nj nm : List Nat} {wm : Bool} {u : Value} (h : holds w0 Rs vs m w) (hr : Rs[m]? = some (.rel nm [j] wm (IsStB b T))) (hj : Rs[j]? = some (.pur nj u)) :
    w.heap[b]? = some (.cells u.cells T (0, 0)) := by
  unfold holds at h
  rw [hr] at h
  obtain ⟨u', e, h1⟩ := h
  simp only [List.map_cons, List.map_nil, vv_pur hj, List.cons.injEq, and_true] at e
  subst e
  exact h1

end Go.Proofs.Ytabmfaamadbefaa
