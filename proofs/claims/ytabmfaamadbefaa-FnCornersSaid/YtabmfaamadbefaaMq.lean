/- Contracts of MeetRegions, of the program and of the reference. No condition but that lengths are ints. -/
import Derived.Test.YtabmfaamadbefaaCg
set_option linter.unusedSimpArgs false
set_option linter.unusedVariables false
set_option linter.unusedSectionVars false
namespace Go.Proofs.Ytabmfaamadbefaa
open Go.RowKit

/-- What MeetRegions returns. -/
def meetQ (p q : List H3) : List H3 × Bool := if regionOk p = true ∧ regionOk q = true ∧ p.length + q.length ≤ 40 then (if p = [] ∨ q = [] then ([], true) else (makeR (p ++ q), true)) else ([], false)
theorem meetq_few {p q : List H3} (okp : regionOk p = true) (okq : regionOk q = true) (hp : p ≠ []) (hq : q ≠ []) (hl : p.length + q.length ≤ 40) : (∀ g ∈ p ++ q, HOk g) ∧ (makeR (p ++ q)).length ≤ 40 ∧ meetR (p ++ q) = (makeR (p ++ q), true) := by
  obtain ⟨G1, e1, _⟩ := regionOk_parts okp hp
  obtain ⟨G2, e2, _⟩ := regionOk_parts okq hq
  have G : ∀ g ∈ p ++ q, HOk g := fun g hg => by
    rcases List.mem_append.1 hg with h1 | h1
    · exact G1 g h1
    · exact G2 g h1
  have hf := meet_few G1 G2 e1 hp
  refine ⟨G, by omega, ?_⟩
  rw [meetR_makeR G, if_neg (by omega)]

set_option maxRecDepth 100000 in
set_option maxHeartbeats 1000000 in
theorem impl_MeetRegions_eq {p q out : List H3} {ok : Bool} {A A2 : Option Addr} {c c2 : Nat} {w : World} (R1 : R3 36 w A c p) (R2 : R3 36 w A2 c2 q) (hlp : p.length ≤ 1000000000) (hlq : q.length ≤ 1000000000) (hr : Hid (meetQ p q = (out, ok))) :
    Calls Try.prog 9 #[.agg #[.slice A p.length c], .agg #[.slice A2 q.length c2]] w (RegPost w out ok) := by
  have hr' := hr.out
  clear hr
  obtain ⟨rp, hrp⟩ : ∃ v, regionOk p = v := ⟨_, rfl⟩
  obtain ⟨rq, hrq⟩ : ∃ v, regionOk q = v := ⟨_, rfl⟩
  have HP := Lib.hid hrp
  have HQ := Lib.hid hrq
  unfold meetQ at hr'
  rw [hrp, hrq] at hr'
  cases rp with
  | false =>
    rw [if_neg (by simp)] at hr'
    simp at hr'
    obtain ⟨rfl, rfl⟩ := hr'
    clear hrp hrq
    go_enter Try.func9, Try.ntmps9
    go_wp2_with (first | (go_at_call 30; (first | (with_reducible refine (calls_ov2 (impl_RegionOk_eq (by repeat (first | assumption | refine R3.ov ?_ _ | refine R3.alloc ?_ _)) (by first | exact hlp | exact hlq) (by first | exact HP | exact HQ))).mono ?_) | refine (calls_ov (impl_RegionOk_eq (by repeat (first | assumption | refine R3.ov ?_ _ | refine R3.alloc ?_ _)) (by first | exact hlp | exact hlq) (by first | exact HP | exact HQ))).mono ?_); rintro e w' ⟨rfl, x, rfl⟩))
    refine bodyPost_ret (v := .tuple #[.agg #[.slice none 0 0], .bool false]) (by simp [results, Try.results9, go_sem]) rfl ⟨none, 0, rfl, RB.nil _ _ _, (by repeat (first | exact bR | refine bO ?_ | refine bA ?_ | refine bS ?_ | refine bD ?_ | refine bN ?_))⟩
  | true =>
   cases rq with
   | false =>
    rw [if_neg (by simp)] at hr'
    simp at hr'
    obtain ⟨rfl, rfl⟩ := hr'
    clear hrp hrq
    go_enter Try.func9, Try.ntmps9
    go_wp2_with (first | (go_at_call 30; (first | (with_reducible refine (calls_ov2 (impl_RegionOk_eq (by repeat (first | assumption | refine R3.ov ?_ _ | refine R3.alloc ?_ _)) (by first | exact hlp | exact hlq) (by first | exact HP | exact HQ))).mono ?_) | refine (calls_ov (impl_RegionOk_eq (by repeat (first | assumption | refine R3.ov ?_ _ | refine R3.alloc ?_ _)) (by first | exact hlp | exact hlq) (by first | exact HP | exact HQ))).mono ?_); rintro e w' ⟨rfl, x, rfl⟩))
    refine bodyPost_ret (v := .tuple #[.agg #[.slice none 0 0], .bool false]) (by simp [results, Try.results9, go_sem]) rfl ⟨none, 0, rfl, RB.nil _ _ _, (by repeat (first | exact bR | refine bO ?_ | refine bA ?_ | refine bS ?_ | refine bD ?_ | refine bN ?_))⟩
   | true =>
    by_cases h40 : p.length + q.length ≤ 40
    case' neg =>
     rw [if_neg (by omega)] at hr'
     simp at hr'
     obtain ⟨rfl, rfl⟩ := hr'
     clear hrp hrq
     have h41 : (40 : Int) < (p.length : Int) + (q.length : Int) := by omega
     go_enter Try.func9, Try.ntmps9
     go_wp2_with (first | (go_at_call 30; (first | (with_reducible refine (calls_ov2 (impl_RegionOk_eq (by repeat (first | assumption | refine R3.ov ?_ _ | refine R3.alloc ?_ _)) (by first | exact hlp | exact hlq) (by first | exact HP | exact HQ))).mono ?_) | refine (calls_ov (impl_RegionOk_eq (by repeat (first | assumption | refine R3.ov ?_ _ | refine R3.alloc ?_ _)) (by first | exact hlp | exact hlq) (by first | exact HP | exact HQ))).mono ?_); rintro e w' ⟨rfl, x, rfl⟩))
     refine bodyPost_ret (v := .tuple #[.agg #[.slice none 0 0], .bool false]) (by simp [results, Try.results9, go_sem]) rfl ⟨none, 0, rfl, RB.nil _ _ _, (by repeat (first | exact bR | refine bO ?_ | refine bA ?_ | refine bS ?_ | refine bD ?_ | refine bN ?_))⟩
    rw [if_pos ⟨rfl, rfl, h40⟩] at hr'
    have h41 : ¬ (40 : Int) < (p.length : Int) + (q.length : Int) := by omega
    by_cases h1 : p = [] ∨ q = []
    case' pos =>
     rw [if_pos h1] at hr'
     simp at hr'
     obtain ⟨rfl, rfl⟩ := hr'
     obtain ⟨vp, hvp⟩ : ∃ v, decide (p.length = 0) = v := ⟨_, rfl⟩
     obtain ⟨vq, hvq⟩ : ∃ v, decide (q.length = 0) = v := ⟨_, rfl⟩
     have HVP := Lib.hid hvp
     have HVQ := Lib.hid hvq
     have hv : vp = true ∨ (vp = false ∧ vq = true) := by
       rw [← hvp, ← hvq]
       rcases h1 with h1 | h1
       · left; rw [h1]; rfl
       · by_cases hp : p.length = 0
         · left; simp [hp]
         · right; rw [h1]; simp [hp]
     clear hrp hrq hvp hvq h1
     rcases hv with rfl | ⟨rfl, rfl⟩
     all_goals
      go_enter Try.func9, Try.ntmps9
      go_wp2_with (first | (go_at_call 30; (first | (with_reducible refine (calls_ov2 (impl_RegionOk_eq (by repeat (first | assumption | refine R3.ov ?_ _ | refine R3.alloc ?_ _)) (by first | exact hlp | exact hlq) (by first | exact HP | exact HQ))).mono ?_) | refine (calls_ov (impl_RegionOk_eq (by repeat (first | assumption | refine R3.ov ?_ _ | refine R3.alloc ?_ _)) (by first | exact hlp | exact hlq) (by first | exact HP | exact HQ))).mono ?_); rintro e w' ⟨rfl, x, rfl⟩) | (go_at_call 13; (first | (with_reducible refine (calls_ov2 (IsVoid_eq (by first | exact HVP | exact HVQ))).mono ?_) | refine (calls_ov (IsVoid_eq (by first | exact HVP | exact HVQ))).mono ?_); rintro e w' ⟨rfl, x, rfl⟩))
      refine bodyPost_ret (v := .tuple #[.agg #[.slice none 0 0], .bool true]) (by simp [results, Try.results9, go_sem]) rfl ⟨none, 0, rfl, RB.nil _ _ _, (by repeat (first | exact bR | refine bO ?_ | refine bA ?_ | refine bS ?_ | refine bD ?_ | refine bN ?_))⟩
    rw [if_neg h1] at hr'
    simp at hr'
    obtain ⟨hm, rfl⟩ := hr'
    subst hm
    have h2 : p ≠ [] ∧ q ≠ [] := by simpa [not_or] using h1
    obtain ⟨Gm, _, hmr⟩ := meetq_few hrp hrq h2.1 h2.2 h40
    have hp0 : 0 < p.length := List.length_pos_iff.2 h2.1
    have hq0 : 0 < q.length := List.length_pos_iff.2 h2.2
    have HVP : Hid (decide (p.length = 0) = false) := Lib.hid (decide_eq_false (by omega))
    have HVQ : Hid (decide (q.length = 0) = false) := Lib.hid (decide_eq_false (by omega))
    obtain ⟨ys, hys⟩ : ∃ ys, p ++ q = ys := ⟨_, rfl⟩
    have HYL := Lib.hid (show ys.length = p.length + q.length by rw [← hys]; simp)
    rw [hys] at Gm hmr ⊢
    have HYS := Lib.hid hys
    obtain ⟨out, hout⟩ : ∃ out, makeR ys = out := ⟨_, rfl⟩
    rw [hout] at hmr ⊢
    have HM := Lib.hid hmr
    clear hrp hrq h1 h2 hys hout hmr
    go_enter Try.func9, Try.ntmps9
    go_wp2_with (first | (go_at_call 30; (first | (with_reducible refine (calls_ov2 (impl_RegionOk_eq (by repeat (first | assumption | refine R3.ov ?_ _ | refine R3.alloc ?_ _)) (by first | exact hlp | exact hlq) (by first | exact HP | exact HQ))).mono ?_) | refine (calls_ov (impl_RegionOk_eq (by repeat (first | assumption | refine R3.ov ?_ _ | refine R3.alloc ?_ _)) (by first | exact hlp | exact hlq) (by first | exact HP | exact HQ))).mono ?_); rintro e w' ⟨rfl, x, rfl⟩) | (go_at_call 13; (first | (with_reducible refine (calls_ov2 (IsVoid_eq (by first | exact HVP | exact HVQ))).mono ?_) | refine (calls_ov (IsVoid_eq (by first | exact HVP | exact HVQ))).mono ?_); rintro e w' ⟨rfl, x, rfl⟩))
    refine (Concat2_eq HYS.out (by repeat (first | assumption | refine R3.ov ?_ _ | refine R3.alloc ?_ _)) (by repeat (first | assumption | refine R3.ov ?_ _ | refine R3.alloc ?_ _)) ⟨hp0, by omega⟩ ⟨hq0, by omega⟩ (heap_new_at (by simp [ov_size]) rfl)).mono ?_
    rintro e w1 ⟨A1, c1, rfl, R1', hb1⟩
    have hbw : Below w.heap.size w w1 := Below.trans (by repeat (first | exact bR | refine bO ?_ | refine bA ?_ | refine bS ?_ | refine bD ?_ | refine bN ?_)) (hb1.mono (by simp [ov_size]; omega))
    have HX := Lib.hid ((hb1.block (w.heap.size + 1 + 1) (by simp [ov_size]; omega)).trans ((heap_old_at (by simp [ov_size]; omega)).trans (ov_blk (heap_new_at (r := some (.cells #[.slice none 0 0] 25 (0, 0))) (by simp) rfl))))
    generalize hb4 : w.heap.size + 1 + 1 = b4 at HX ⊢
    go_wp2_with fail
    refine (meetAll_any Gm R1'.r3 ⟨by have := HYL.out; omega, by have := HYL.out; omega⟩ HM).mono ?_
    rintro e w2 ⟨A2', c2', rfl, R2', hb2⟩
    have hbw2 : Below w.heap.size w w2 := hbw.trans (hb2.mono hbw.size)
    replace HX := box_below HX hb2
    have HR1 := R2'.weak (B' := w.heap.size) hbw.size
    clear R1' hb1 R2' hb2
    have x2 := cell_blk (j := 0) (v := .slice none 0 0) HX.out rfl
    have f2 := frozen_blk (j := 0) HX.out
    have l2 := (Array.getElem?_eq_some_iff.1 HX.out).1
    go_wp2
    refine bodyPost_ret (v := .tuple #[.agg #[.slice A2' out.length c2'], .bool true]) (by simp [results, Try.results9, go_sem, x2, l2]) rfl ⟨A2', c2', rfl, HR1.set_box HX.out (by decide), hbw2.setCell (show w.heap.size ≤ b4 by omega) _⟩
end Go.Proofs.Ytabmfaamadbefaa
