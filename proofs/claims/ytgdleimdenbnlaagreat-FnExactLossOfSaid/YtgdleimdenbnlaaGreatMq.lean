/- Contracts of MeetRegions, of the program and of the reference. No condition but that lengths are ints. -/
import Derived.Test.YtgdleimdenbnlaaGreatCg
set_option linter.unusedSimpArgs false
set_option linter.unusedVariables false
set_option linter.unusedSectionVars false
namespace Go.Proofs.YtgdleimdenbnlaaGreat
open Go.RowKit

/-- What MeetRegions returns. -/
def meetQ (p q : List H3) : List H3 × Bool := if regionOk p = true ∧ regionOk q = true ∧ p.length + q.length ≤ 40 then (if p = [] ∨ q = [] then ([], true) else (makeR (p ++ q), true)) else ([], false)
theorem meetq_few {p q : List H3} (okp : regionOk p = true) (okq : regionOk q = true) (hp : p ≠ []) (hq : q ≠ []) (hl : p.length + q.length ≤ 40) : (∀ g ∈ p ++ q, HOk g) ∧ (makeR (p ++ q)).length ≤ 40 ∧ meetR (p ++ q) = (makeR (p ++ q), true) := by
  obtain ⟨G1, e1, _⟩ := regionOk_parts okp hp
  obtain ⟨G2, e2, _⟩ := regionOk_parts okq hq
  have G : ∀ g ∈ p ++ q, HOk g := fun g hg => by
    rcases List.mem_append.1 hg with h1 | h1
    · exact G1 g h1
    · exact G2 g h1
  have hf := meet_few G1 G2 e1 hp
  refine ⟨G, by omega, ?_⟩
  rw [meetR_makeR G, if_neg (by omega)]

set_option maxRecDepth 100000 in
set_option maxHeartbeats 1000000 in
theorem l06Meet_eq {p q out : List H3} {A A2 : Option Addr} {c c2 : Nat} {w : World} (R1 : R3 99 w A c p) (R2 : R3 99 w A2 c2 q) (hl : p.length ≤ 40 ∧ q.length ≤ 40) (Gm : p ≠ [] → q ≠ [] → ∀ g ∈ p ++ q, HOk g) (hr : Hid ((if p = [] ∨ q = [] then [] else makeR (p ++ q)) = out)) :
    Calls Tryz.prog 144 #[.agg #[.slice A p.length c], .agg #[.slice A2 q.length c2]] w (RegOut w out) := by
  have hr' := hr.out
  clear hr
  by_cases h1 : p = []
  · rw [if_pos (.inl h1)] at hr'
    subst hr'
    have HV : Hid (decide (p.length = 0) = true) := Lib.hid (by rw [h1]; rfl)
    clear h1
    go_enter Tryz.func144, Tryz.ntmps144
    go_wp2_with (first | (go_at_call 77; (first | (with_reducible refine (calls_ov2 (spec_IsVoid_eq (by exact HV))).mono ?_) | refine (calls_ov (spec_IsVoid_eq (by exact HV))).mono ?_); rintro e w' ⟨rfl, x, rfl⟩))
    refine bodyPost_ret (v := .agg #[.slice none 0 0]) (by simp [results, Tryz.results144, go_sem]) rfl ⟨none, 0, rfl, RB.nil _ _ _, (by repeat (first | exact bR | refine bO ?_ | refine bA ?_ | refine bS ?_ | refine bD ?_ | refine bN ?_))⟩
  · have hp0 : 0 < p.length := List.length_pos_iff.2 h1
    have HV : Hid (decide (p.length = 0) = false) := Lib.hid (decide_eq_false (by omega))
    by_cases h2 : q = []
    · rw [if_pos (.inr h2)] at hr'
      subst hr'
      have HW : Hid (decide (q.length = 0) = true) := Lib.hid (by rw [h2]; rfl)
      clear h1 h2
      go_enter Tryz.func144, Tryz.ntmps144
      go_wp2_with (first | (go_at_call 77; (first | (with_reducible refine (calls_ov2 (spec_IsVoid_eq (by first | exact HV | exact HW))).mono ?_) | refine (calls_ov (spec_IsVoid_eq (by first | exact HV | exact HW))).mono ?_); rintro e w' ⟨rfl, x, rfl⟩))
      refine bodyPost_ret (v := .agg #[.slice none 0 0]) (by simp [results, Tryz.results144, go_sem]) rfl ⟨none, 0, rfl, RB.nil _ _ _, (by repeat (first | exact bR | refine bO ?_ | refine bA ?_ | refine bS ?_ | refine bD ?_ | refine bN ?_))⟩
    · have hq0 : 0 < q.length := List.length_pos_iff.2 h2
      have HW : Hid (decide (q.length = 0) = false) := Lib.hid (decide_eq_false (by omega))
      rw [if_neg (by simp [h1, h2])] at hr'
      have G2 := Gm h1 h2
      obtain ⟨ys, hys⟩ : ∃ ys, p ++ q = ys := ⟨_, rfl⟩
      have HYL := Lib.hid (show ys.length = p.length + q.length by rw [← hys]; simp)
      have HYS := Lib.hid hys
      rw [hys] at G2 hr'
      have HM := Lib.hid hr'
      have hl1 := hl.1
      have hl2 := hl.2
      clear hys hr' h1 h2 Gm
      go_enter Tryz.func144, Tryz.ntmps144
      go_wp2_with (first | (go_at_call 77; (first | (with_reducible refine (calls_ov2 (spec_IsVoid_eq (by first | exact HV | exact HW))).mono ?_) | refine (calls_ov (spec_IsVoid_eq (by first | exact HV | exact HW))).mono ?_); rintro e w' ⟨rfl, x, rfl⟩))
      obtain ⟨w0, hw0⟩ : ∃ w0, (w.alloc (.cells #[.slice A p.length c] 37)).alloc (.cells #[.slice A2 q.length c2] 37) = w0 := ⟨_, rfl⟩
      have s0 : w0.heap.size = w.heap.size + 1 + 1 := by rw [← hw0]; simp
      have T0 : Below w.heap.size w w0 := by rw [← hw0]; exact (by repeat (first | exact bR | refine bO ?_ | refine bA ?_ | refine bS ?_ | refine bD ?_ | refine bN ?_))
      have X2 : w0.heap[w.heap.size]? = some (.cells #[.slice A p.length c] 37 (0, 0)) := by rw [← hw0]; exact (heap_old_at (by simp)).trans (heap_alloc_new _ _)
      have X3 : w0.heap[w.heap.size + 1]? = some (.cells #[.slice A2 q.length c2] 37 (0, 0)) := by rw [← hw0]; exact heap_new_at (by simp) rfl
      rw [hw0, ← s0]
      have s1 : w.heap.size ≤ w0.heap.size := T0.size
      clear hw0 s0
      generalize w.heap.size + 1 = b3 at X3 ⊢
      have q2 := cell_blk (j := 0) (v := .slice A p.length c) X2 rfl
      have y0 := cell_blk (j := 0) (v := .slice A2 q.length c2) X3 rfl
      have l2 := (Array.getElem?_eq_some_iff.1 X2).1
      have l3 := (Array.getElem?_eq_some_iff.1 X3).1
      have Ra := R1.below T0
      have Rb := R2.below T0
      have O0 := owned_row0
      have O3 := owned_row p
      have O6 := owned_row ys
      have O7 := owned_reg out
      clear X2 X3 R1 R2
      refine wp_region_relE (IsOld w0.heap.size 37 1) ([(0, 6), (3, 6)], [(7, 6), (8, 6)]) (w := w0) [.rel [] [0] false (IsOw GRow0), .pur [] ?c1, .pur [] ?c2, .rel [0] [3] false (IsOw (GRow p)), .pur [] ?c4, .pur [] ?c5, .rel [3] [6] true (IsOw (GRow ys)), .rel [6] [7] false (IsOw (GReg out)), .rel [7] [7] true (IsStB w0.heap.size 37)] _ rfl rfl (by kernel_rfl) (by kernel_rfl) (by kernel_rfl) (by kernel_rfl) ?hst isOld_ov (ov_of_below (by repeat (first | exact bR | refine bO ?_ | refine bA ?_ | refine bS ?_ | refine bD ?_ | refine bN ?_))) ⟨#[.slice none 0 0], rfl, ov_blk (heap_new_at rfl rfl)⟩ (fun vs => ?walk)
      case' walk =>
        refine wpRelE_own rfl rfl rfl (fun x hh => ?_) ?_
        · go_wp2
          refine relEndE_own rfl rfl ?_ (by repeat (first | exact bR | refine bO ?_ | refine bA ?_ | refine bS ?_ | refine bD ?_ | refine bN ?_)) ⟨_, rfl, RB.new0 rfl (by rw [ov_size]; omega) rfl⟩
          (simp only [Act.put, List.setIfInBounds_toArray, List.set_cons_succ, List.set_cons_zero] <;> rfl)
        simp only [Act.put, List.setIfInBounds_toArray, List.set_cons_succ, List.set_cons_zero]
        (refine wpRelE_pur rfl rfl (fun x hh => by ((skip); (go_wp2); refine relEndE_pur rfl ?_ (by repeat (first | exact bR | refine bO ?_ | refine bA ?_ | refine bS ?_ | refine bD ?_ | refine bN ?_)); simp only [Act.put, List.setIfInBounds_toArray, List.set_cons_succ, List.set_cons_zero]; rfl)) ?_; simp only [Act.put, List.setIfInBounds_toArray, List.set_cons_succ, List.set_cons_zero])
        (refine wpRelE_pur rfl rfl (fun x hh => by ((skip); (go_wp2); refine relEndE_pur rfl ?_ (by repeat (first | exact bR | refine bO ?_ | refine bA ?_ | refine bS ?_ | refine bD ?_ | refine bN ?_)); simp only [Act.put, List.setIfInBounds_toArray, List.set_cons_succ, List.set_cons_zero]; rfl)) ?_; simp only [Act.put, List.setIfInBounds_toArray, List.set_cons_succ, List.set_cons_zero])
        refine wpRelE_own rfl rfl rfl (fun x hh => ?_) ?_
        · obtain ⟨b, e, _⟩ := isOw_at (hh 0 (by simp)) rfl
          simp only [e]
          go_wp2_with (at_builtin; refine wpList_append_fresh rfl _ _ rfl rfl rfl (Ra.ov _) ⟨hp0, by omega⟩ ?_; intro A1 c1 w1 R1 hb1)
          refine relEndE_own rfl rfl ?_ hb1 ⟨A1, c1, rfl, R1.weak (by rw [ov_size]; omega)⟩
          (simp only [Act.put, List.setIfInBounds_toArray, List.set_cons_succ, List.set_cons_zero] <;> rfl)
        simp only [Act.put, List.setIfInBounds_toArray, List.set_cons_succ, List.set_cons_zero]
        (refine wpRelE_pur rfl rfl (fun x hh => by ((skip); (go_wp2); refine relEndE_pur rfl ?_ (by repeat (first | exact bR | refine bO ?_ | refine bA ?_ | refine bS ?_ | refine bD ?_ | refine bN ?_)); simp only [Act.put, List.setIfInBounds_toArray, List.set_cons_succ, List.set_cons_zero]; rfl)) ?_; simp only [Act.put, List.setIfInBounds_toArray, List.set_cons_succ, List.set_cons_zero])
        (refine wpRelE_pur rfl rfl (fun x hh => by ((skip); (go_wp2); refine relEndE_pur rfl ?_ (by repeat (first | exact bR | refine bO ?_ | refine bA ?_ | refine bS ?_ | refine bD ?_ | refine bN ?_)); simp only [Act.put, List.setIfInBounds_toArray, List.set_cons_succ, List.set_cons_zero]; rfl)) ?_; simp only [Act.put, List.setIfInBounds_toArray, List.set_cons_succ, List.set_cons_zero])
        refine wpRelE_app rfl rfl rfl (fun x he hh => ?_) ?_
        · obtain ⟨A3, c3, e3, R3'⟩ := isOw_at (hh 3 (by simp)) rfl
          simp only [e3]
          go_wp2_with (at_builtin; refine wpList_append_rowsG (os := p) (xs := q) rfl _ _ rfl w0.heap.size HYS.out rfl R3' rfl (Rb.ov _) (by omega) (by rw [ov_size]; omega) ?_; intro A6 c6 w6 R6 hg6)
          refine relEndE_app rfl rfl ?_ (by repeat (first | exact bR | refine bO ?_ | refine bA ?_ | refine bS ?_ | refine bD ?_ | refine bN ?_)) he (by decide) R3' hg6 ⟨A6, c6, rfl, R6⟩ rfl
          (simp only [Act.put, List.setIfInBounds_toArray, List.set_cons_succ, List.set_cons_zero] <;> rfl)
        simp only [Act.put, List.setIfInBounds_toArray, List.set_cons_succ, List.set_cons_zero]
        refine wpRelE_own rfl rfl rfl (fun x hh => ?_) ?_
        · obtain ⟨A6, c6, e6, R6⟩ := isOw_at (hh 6 (by simp)) rfl
          simp only [e6]
          go_wp2_with fail
          refine (l05Make_eq G2 R6.r3 (by have := HYL.out; omega) HM).mono ?_
          rintro e w7 ⟨A7, c7, rfl, R7, hb7⟩
          go_wp2
          refine relEndE_own rfl rfl ?_ hb7 ⟨A7, c7, rfl, R7.weak (by rw [ov_size]; omega)⟩
          (simp only [Act.put, List.setIfInBounds_toArray, List.set_cons_succ, List.set_cons_zero] <;> rfl)
        simp only [Act.put, List.setIfInBounds_toArray, List.set_cons_succ, List.set_cons_zero]
        refine wpRelE_old rfl rfl rfl rfl (by decide) rfl (Nat.le_refl _) (vv_rel rfl) rfl (by kernel_rfl) (fun w hw => by obtain ⟨A, c, e, _⟩ := isOw_at hw rfl; rw [e]; exact reg_cells _ _ _) (by repeat (first | exact all_nil | refine all_cons trivial ?_ | refine all_cons isAl_steady ?_ | refine all_cons (isOw_steady (by assumption)) ?_)) ?_
        refine wpRelE_nil (fun wp hbp hEp hh => ?_)
        obtain ⟨A7, c7, e7, R7⟩ := isOw_at (hh 7 (by intro k hk; simp at hk)) rfl
        have hX := isStB_own (hh 8 (by intro k hk; simp at hk)) rfl rfl
        rw [e7] at hX
        have x4 := cell_blk (j := 0) (v := .slice A7 out.length c7) hX rfl
        have l4 := (Array.getElem?_eq_some_iff.1 hX).1
        have hbw : Below w.heap.size w wp := T0.trans (hbp.mono s1)
        have R8 := R7.weak s1
        clear hX hh R7 e7
        go_wp2
        refine bodyPost_ret (v := .agg #[.slice A7 out.length c7]) (by simp [results, Tryz.results144, go_sem, x4, l4]) rfl ⟨A7, c7, rfl, R8, hbw⟩
      case' hst => exact (by repeat (first | exact all_nil | refine all_cons trivial ?_ | refine all_cons isAl_stable ?_ | refine all_cons isSt_stable ?_ | refine all_cons isStB_stable ?_ | refine all_cons (isOw_stable (by assumption)) ?_))

set_option maxRecDepth 100000 in
set_option maxHeartbeats 1000000 in
theorem spec_MeetRegions_eq {p q out : List H3} {ok : Bool} {A A2 : Option Addr} {c c2 : Nat} {w : World} (R1 : R3 99 w A c p) (R2 : R3 99 w A2 c2 q) (hlp : p.length ≤ 1000000000) (hlq : q.length ≤ 1000000000) (hr : Hid (meetQ p q = (out, ok))) :
    Calls Tryz.prog 86 #[.agg #[.slice A p.length c], .agg #[.slice A2 q.length c2]] w (RegPost w out ok) := by
  have hr' := hr.out
  clear hr
  obtain ⟨rp, hrp⟩ : ∃ v, regionOk p = v := ⟨_, rfl⟩
  obtain ⟨rq, hrq⟩ : ∃ v, regionOk q = v := ⟨_, rfl⟩
  have HP := Lib.hid hrp
  have HQ := Lib.hid hrq
  unfold meetQ at hr'
  rw [hrp, hrq] at hr'
  cases rp with
  | false =>
    rw [if_neg (by simp)] at hr'
    simp at hr'
    obtain ⟨rfl, rfl⟩ := hr'
    clear hrp hrq
    go_enter Tryz.func86, Tryz.ntmps86
    go_wp2_with (first | (go_at_call 56; (first | (with_reducible refine (calls_ov2 (spec_RegionOk_eq (by repeat (first | assumption | refine R3.ov ?_ _ | refine R3.alloc ?_ _)) (by first | exact hlp | exact hlq) (by first | exact HP | exact HQ))).mono ?_) | refine (calls_ov (spec_RegionOk_eq (by repeat (first | assumption | refine R3.ov ?_ _ | refine R3.alloc ?_ _)) (by first | exact hlp | exact hlq) (by first | exact HP | exact HQ))).mono ?_); rintro e w' ⟨rfl, x, rfl⟩))
    refine bodyPost_ret (v := .tuple #[.agg #[.slice none 0 0], .bool false]) (by simp [results, Tryz.results86, go_sem]) rfl ⟨none, 0, rfl, RB.nil _ _ _, (by repeat (first | exact bR | refine bO ?_ | refine bA ?_ | refine bS ?_ | refine bD ?_ | refine bN ?_))⟩
  | true =>
   cases rq with
   | false =>
    rw [if_neg (by simp)] at hr'
    simp at hr'
    obtain ⟨rfl, rfl⟩ := hr'
    clear hrp hrq
    go_enter Tryz.func86, Tryz.ntmps86
    go_wp2_with (first | (go_at_call 56; (first | (with_reducible refine (calls_ov2 (spec_RegionOk_eq (by repeat (first | assumption | refine R3.ov ?_ _ | refine R3.alloc ?_ _)) (by first | exact hlp | exact hlq) (by first | exact HP | exact HQ))).mono ?_) | refine (calls_ov (spec_RegionOk_eq (by repeat (first | assumption | refine R3.ov ?_ _ | refine R3.alloc ?_ _)) (by first | exact hlp | exact hlq) (by first | exact HP | exact HQ))).mono ?_); rintro e w' ⟨rfl, x, rfl⟩))
    refine bodyPost_ret (v := .tuple #[.agg #[.slice none 0 0], .bool false]) (by simp [results, Tryz.results86, go_sem]) rfl ⟨none, 0, rfl, RB.nil _ _ _, (by repeat (first | exact bR | refine bO ?_ | refine bA ?_ | refine bS ?_ | refine bD ?_ | refine bN ?_))⟩
   | true =>
    by_cases h40 : p.length + q.length ≤ 40
    case' neg =>
     rw [if_neg (by omega)] at hr'
     simp at hr'
     obtain ⟨rfl, rfl⟩ := hr'
     clear hrp hrq
     have h41 : (40 : Int) < (p.length : Int) + (q.length : Int) := by omega
     go_enter Tryz.func86, Tryz.ntmps86
     go_wp2_with (first | (go_at_call 56; (first | (with_reducible refine (calls_ov2 (spec_RegionOk_eq (by repeat (first | assumption | refine R3.ov ?_ _ | refine R3.alloc ?_ _)) (by first | exact hlp | exact hlq) (by first | exact HP | exact HQ))).mono ?_) | refine (calls_ov (spec_RegionOk_eq (by repeat (first | assumption | refine R3.ov ?_ _ | refine R3.alloc ?_ _)) (by first | exact hlp | exact hlq) (by first | exact HP | exact HQ))).mono ?_); rintro e w' ⟨rfl, x, rfl⟩))
     refine bodyPost_ret (v := .tuple #[.agg #[.slice none 0 0], .bool false]) (by simp [results, Tryz.results86, go_sem]) rfl ⟨none, 0, rfl, RB.nil _ _ _, (by repeat (first | exact bR | refine bO ?_ | refine bA ?_ | refine bS ?_ | refine bD ?_ | refine bN ?_))⟩
    rw [if_pos ⟨rfl, rfl, h40⟩] at hr'
    have h41 : ¬ (40 : Int) < (p.length : Int) + (q.length : Int) := by omega
    have Gm : p ≠ [] → q ≠ [] → ∀ g ∈ p ++ q, HOk g := fun h1 h2 => (meetq_few hrp hrq h1 h2 h40).1
    obtain ⟨m, hm⟩ : ∃ m, (if p = [] ∨ q = [] then [] else makeR (p ++ q)) = m := ⟨_, rfl⟩
    have hmo : m = out ∧ ok = true := by
      by_cases hpq : p = [] ∨ q = []
      · rw [if_pos hpq] at hr' hm; simp at hr'; exact ⟨hm.symm.trans hr'.1.symm, hr'.2⟩
      · rw [if_neg hpq] at hr' hm; simp at hr'; exact ⟨hm.symm.trans hr'.1, hr'.2⟩
    obtain ⟨rfl, rfl⟩ := hmo
    have HM := Lib.hid hm
    clear hrp hrq hm hr'
    go_enter Tryz.func86, Tryz.ntmps86
    go_wp2_with (first | (go_at_call 56; (first | (with_reducible refine (calls_ov2 (spec_RegionOk_eq (by repeat (first | assumption | refine R3.ov ?_ _ | refine R3.alloc ?_ _)) (by first | exact hlp | exact hlq) (by first | exact HP | exact HQ))).mono ?_) | refine (calls_ov (spec_RegionOk_eq (by repeat (first | assumption | refine R3.ov ?_ _ | refine R3.alloc ?_ _)) (by first | exact hlp | exact hlq) (by first | exact HP | exact HQ))).mono ?_); rintro e w' ⟨rfl, x, rfl⟩))
    refine (l06Meet_eq (by repeat (first | assumption | refine R3.ov ?_ _ | refine R3.alloc ?_ _)) (by repeat (first | assumption | refine R3.ov ?_ _ | refine R3.alloc ?_ _)) ⟨by omega, by omega⟩ Gm HM).mono ?_
    rintro e w1 ⟨A1, c1, rfl, R1', hb1⟩
    have hbw : Below w.heap.size w w1 := Below.trans (by repeat (first | exact bR | refine bO ?_ | refine bA ?_ | refine bS ?_ | refine bD ?_ | refine bN ?_)) (hb1.mono (by simp [ov_size]; omega))
    have HX := Lib.hid ((hb1.block (w.heap.size + 1 + 1) (by simp [ov_size]; omega)).trans (ov_blk (heap_new_at (r := some (.cells #[.slice none 0 0] 37 (0, 0))) (by simp) rfl)))
    have HR1 := R1'.weak (B' := w.heap.size) (by simp [ov_size]; omega)
    clear R1' hb1
    generalize hb4 : w.heap.size + 1 + 1 = b4 at HX ⊢
    have x2 := cell_blk (j := 0) (v := .slice none 0 0) HX.out rfl
    have f2 := frozen_blk (j := 0) HX.out
    have l2 := (Array.getElem?_eq_some_iff.1 HX.out).1
    go_wp2
    refine bodyPost_ret (v := .tuple #[.agg #[.slice A1 m.length c1], .bool true]) (by simp [results, Tryz.results86, go_sem, x2, l2]) rfl ⟨A1, c1, rfl, HR1.set_box HX.out (by decide), hbw.setCell (show w.heap.size ≤ b4 by omega) _⟩

set_option maxRecDepth 100000 in
set_option maxHeartbeats 1000000 in
theorem impl_MeetRegions_eq {p q out : List H3} {ok : Bool} {A A2 : Option Addr} {c c2 : Nat} {w : World} (R1 : R3 99 w A c p) (R2 : R3 99 w A2 c2 q) (hlp : p.length ≤ 1000000000) (hlq : q.length ≤ 1000000000) (hr : Hid (meetQ p q = (out, ok))) :
    Calls Tryz.prog 145 #[.agg #[.slice A p.length c], .agg #[.slice A2 q.length c2]] w (RegPost w out ok) := by
  have hr' := hr.out
  clear hr
  obtain ⟨rp, hrp⟩ : ∃ v, regionOk p = v := ⟨_, rfl⟩
  obtain ⟨rq, hrq⟩ : ∃ v, regionOk q = v := ⟨_, rfl⟩
  have HP := Lib.hid hrp
  have HQ := Lib.hid hrq
  unfold meetQ at hr'
  rw [hrp, hrq] at hr'
  cases rp with
  | false =>
    rw [if_neg (by simp)] at hr'
    simp at hr'
    obtain ⟨rfl, rfl⟩ := hr'
    clear hrp hrq
    go_enter Tryz.func145, Tryz.ntmps145
    go_wp2_with (first | (go_at_call 64; (first | (with_reducible refine (calls_ov2 (impl_RegionOk_eq (by repeat (first | assumption | refine R3.ov ?_ _ | refine R3.alloc ?_ _)) (by first | exact hlp | exact hlq) (by first | exact HP | exact HQ))).mono ?_) | refine (calls_ov (impl_RegionOk_eq (by repeat (first | assumption | refine R3.ov ?_ _ | refine R3.alloc ?_ _)) (by first | exact hlp | exact hlq) (by first | exact HP | exact HQ))).mono ?_); rintro e w' ⟨rfl, x, rfl⟩))
    refine bodyPost_ret (v := .tuple #[.agg #[.slice none 0 0], .bool false]) (by simp [results, Tryz.results145, go_sem]) rfl ⟨none, 0, rfl, RB.nil _ _ _, (by repeat (first | exact bR | refine bO ?_ | refine bA ?_ | refine bS ?_ | refine bD ?_ | refine bN ?_))⟩
  | true =>
   cases rq with
   | false =>
    rw [if_neg (by simp)] at hr'
    simp at hr'
    obtain ⟨rfl, rfl⟩ := hr'
    clear hrp hrq
    go_enter Tryz.func145, Tryz.ntmps145
    go_wp2_with (first | (go_at_call 64; (first | (with_reducible refine (calls_ov2 (impl_RegionOk_eq (by repeat (first | assumption | refine R3.ov ?_ _ | refine R3.alloc ?_ _)) (by first | exact hlp | exact hlq) (by first | exact HP | exact HQ))).mono ?_) | refine (calls_ov (impl_RegionOk_eq (by repeat (first | assumption | refine R3.ov ?_ _ | refine R3.alloc ?_ _)) (by first | exact hlp | exact hlq) (by first | exact HP | exact HQ))).mono ?_); rintro e w' ⟨rfl, x, rfl⟩))
    refine bodyPost_ret (v := .tuple #[.agg #[.slice none 0 0], .bool false]) (by simp [results, Tryz.results145, go_sem]) rfl ⟨none, 0, rfl, RB.nil _ _ _, (by repeat (first | exact bR | refine bO ?_ | refine bA ?_ | refine bS ?_ | refine bD ?_ | refine bN ?_))⟩
   | true =>
    by_cases h40 : p.length + q.length ≤ 40
    case' neg =>
     rw [if_neg (by omega)] at hr'
     simp at hr'
     obtain ⟨rfl, rfl⟩ := hr'
     clear hrp hrq
     have h41 : (40 : Int) < (p.length : Int) + (q.length : Int) := by omega
     go_enter Tryz.func145, Tryz.ntmps145
     go_wp2_with (first | (go_at_call 64; (first | (with_reducible refine (calls_ov2 (impl_RegionOk_eq (by repeat (first | assumption | refine R3.ov ?_ _ | refine R3.alloc ?_ _)) (by first | exact hlp | exact hlq) (by first | exact HP | exact HQ))).mono ?_) | refine (calls_ov (impl_RegionOk_eq (by repeat (first | assumption | refine R3.ov ?_ _ | refine R3.alloc ?_ _)) (by first | exact hlp | exact hlq) (by first | exact HP | exact HQ))).mono ?_); rintro e w' ⟨rfl, x, rfl⟩))
     refine bodyPost_ret (v := .tuple #[.agg #[.slice none 0 0], .bool false]) (by simp [results, Tryz.results145, go_sem]) rfl ⟨none, 0, rfl, RB.nil _ _ _, (by repeat (first | exact bR | refine bO ?_ | refine bA ?_ | refine bS ?_ | refine bD ?_ | refine bN ?_))⟩
    rw [if_pos ⟨rfl, rfl, h40⟩] at hr'
    have h41 : ¬ (40 : Int) < (p.length : Int) + (q.length : Int) := by omega
    by_cases h1 : p = [] ∨ q = []
    case' pos =>
     rw [if_pos h1] at hr'
     simp at hr'
     obtain ⟨rfl, rfl⟩ := hr'
     obtain ⟨vp, hvp⟩ : ∃ v, decide (p.length = 0) = v := ⟨_, rfl⟩
     obtain ⟨vq, hvq⟩ : ∃ v, decide (q.length = 0) = v := ⟨_, rfl⟩
     have HVP := Lib.hid hvp
     have HVQ := Lib.hid hvq
     have hv : vp = true ∨ (vp = false ∧ vq = true) := by
       rw [← hvp, ← hvq]
       rcases h1 with h1 | h1
       · left; rw [h1]; rfl
       · by_cases hp : p.length = 0
         · left; simp [hp]
         · right; rw [h1]; simp [hp]
     clear hrp hrq hvp hvq h1
     rcases hv with rfl | ⟨rfl, rfl⟩
     all_goals
      go_enter Tryz.func145, Tryz.ntmps145
      go_wp2_with (first | (go_at_call 64; (first | (with_reducible refine (calls_ov2 (impl_RegionOk_eq (by repeat (first | assumption | refine R3.ov ?_ _ | refine R3.alloc ?_ _)) (by first | exact hlp | exact hlq) (by first | exact HP | exact HQ))).mono ?_) | refine (calls_ov (impl_RegionOk_eq (by repeat (first | assumption | refine R3.ov ?_ _ | refine R3.alloc ?_ _)) (by first | exact hlp | exact hlq) (by first | exact HP | exact HQ))).mono ?_); rintro e w' ⟨rfl, x, rfl⟩) | (go_at_call 101; (first | (with_reducible refine (calls_ov2 (IsVoid_eq (by first | exact HVP | exact HVQ))).mono ?_) | refine (calls_ov (IsVoid_eq (by first | exact HVP | exact HVQ))).mono ?_); rintro e w' ⟨rfl, x, rfl⟩))
      refine bodyPost_ret (v := .tuple #[.agg #[.slice none 0 0], .bool true]) (by simp [results, Tryz.results145, go_sem]) rfl ⟨none, 0, rfl, RB.nil _ _ _, (by repeat (first | exact bR | refine bO ?_ | refine bA ?_ | refine bS ?_ | refine bD ?_ | refine bN ?_))⟩
    rw [if_neg h1] at hr'
    simp at hr'
    obtain ⟨hm, rfl⟩ := hr'
    subst hm
    have h2 : p ≠ [] ∧ q ≠ [] := by simpa [not_or] using h1
    obtain ⟨Gm, _, hmr⟩ := meetq_few hrp hrq h2.1 h2.2 h40
    have hp0 : 0 < p.length := List.length_pos_iff.2 h2.1
    have hq0 : 0 < q.length := List.length_pos_iff.2 h2.2
    have HVP : Hid (decide (p.length = 0) = false) := Lib.hid (decide_eq_false (by omega))
    have HVQ : Hid (decide (q.length = 0) = false) := Lib.hid (decide_eq_false (by omega))
    obtain ⟨ys, hys⟩ : ∃ ys, p ++ q = ys := ⟨_, rfl⟩
    have HYL := Lib.hid (show ys.length = p.length + q.length by rw [← hys]; simp)
    rw [hys] at Gm hmr ⊢
    have HYS := Lib.hid hys
    obtain ⟨out, hout⟩ : ∃ out, makeR ys = out := ⟨_, rfl⟩
    rw [hout] at hmr ⊢
    have HM := Lib.hid hmr
    clear hrp hrq h1 h2 hys hout hmr
    go_enter Tryz.func145, Tryz.ntmps145
    go_wp2_with (first | (go_at_call 64; (first | (with_reducible refine (calls_ov2 (impl_RegionOk_eq (by repeat (first | assumption | refine R3.ov ?_ _ | refine R3.alloc ?_ _)) (by first | exact hlp | exact hlq) (by first | exact HP | exact HQ))).mono ?_) | refine (calls_ov (impl_RegionOk_eq (by repeat (first | assumption | refine R3.ov ?_ _ | refine R3.alloc ?_ _)) (by first | exact hlp | exact hlq) (by first | exact HP | exact HQ))).mono ?_); rintro e w' ⟨rfl, x, rfl⟩) | (go_at_call 101; (first | (with_reducible refine (calls_ov2 (IsVoid_eq (by first | exact HVP | exact HVQ))).mono ?_) | refine (calls_ov (IsVoid_eq (by first | exact HVP | exact HVQ))).mono ?_); rintro e w' ⟨rfl, x, rfl⟩))
    refine (Concat2_eq HYS.out (by repeat (first | assumption | refine R3.ov ?_ _ | refine R3.alloc ?_ _)) (by repeat (first | assumption | refine R3.ov ?_ _ | refine R3.alloc ?_ _)) ⟨hp0, by omega⟩ ⟨hq0, by omega⟩ (heap_new_at (by simp [ov_size]) rfl)).mono ?_
    rintro e w1 ⟨A1, c1, rfl, R1', hb1⟩
    have hbw : Below w.heap.size w w1 := Below.trans (by repeat (first | exact bR | refine bO ?_ | refine bA ?_ | refine bS ?_ | refine bD ?_ | refine bN ?_)) (hb1.mono (by simp [ov_size]; omega))
    have HX := Lib.hid ((hb1.block (w.heap.size + 1 + 1) (by simp [ov_size]; omega)).trans ((heap_old_at (by simp [ov_size]; omega)).trans (ov_blk (heap_new_at (r := some (.cells #[.slice none 0 0] 37 (0, 0))) (by simp) rfl))))
    generalize hb4 : w.heap.size + 1 + 1 = b4 at HX ⊢
    go_wp2_with fail
    refine (meetAll_any Gm R1'.r3 ⟨by have := HYL.out; omega, by have := HYL.out; omega⟩ HM).mono ?_
    rintro e w2 ⟨A2', c2', rfl, R2', hb2⟩
    have hbw2 : Below w.heap.size w w2 := hbw.trans (hb2.mono hbw.size)
    replace HX := box_below HX hb2
    have HR1 := R2'.weak (B' := w.heap.size) hbw.size
    clear R1' hb1 R2' hb2
    have x2 := cell_blk (j := 0) (v := .slice none 0 0) HX.out rfl
    have f2 := frozen_blk (j := 0) HX.out
    have l2 := (Array.getElem?_eq_some_iff.1 HX.out).1
    go_wp2
    refine bodyPost_ret (v := .tuple #[.agg #[.slice A2' out.length c2'], .bool true]) (by simp [results, Tryz.results145, go_sem, x2, l2]) rfl ⟨A2', c2', rfl, HR1.set_box HX.out (by decide), hbw2.setCell (show w.heap.size ≤ b4 by omega) _⟩
end Go.Proofs.YtgdleimdenbnlaaGreat
