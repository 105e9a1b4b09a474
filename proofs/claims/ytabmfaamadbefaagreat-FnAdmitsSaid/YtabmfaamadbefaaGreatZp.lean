/- Plain: the states from which a period can be kept are those at which an input is admitted. No program. -/
import Derived.Test.YtabmfaamadbefaaGreatZy
import Derived.Test.YtabmfaamadbefaaGreatZm
import Derived.Test.YtabmfaamadbefaaGreatHsp
set_option linter.unusedSimpArgs false
set_option linter.unusedVariables false
set_option linter.unusedSectionVars false
namespace Go.Proofs.YtabmfaamadbefaaGreat
open Go.RowKit
theorem growM_len {ps o : List H3} {bx bY lo hi : Int} (h : growM ps bx bY lo hi = (o, true)) : o.length ≤ ps.length + 6 := by
  unfold growM at h
  split at h
  · injection h with q _; rw [← q]; omega
  · split at h
    · rename_i hk
      obtain ⟨s1, s2, hall⟩ := hk
      simp only [List.all_eq_true] at hall
      have okL : ∀ g ∈ (sideF ps (dirA bx bY) (dirB bx bY)).1 :: (sideF ps (-dirA bx bY) (-dirB bx bY)).1 :: ps.map (fun g => (growF bx bY lo hi g).1), HOk g := fun g hg => by
        rcases List.mem_cons.1 hg with rfl | hg
        · exact sideF_ok s1
        rcases List.mem_cons.1 hg with rfl | hg
        · exact sideF_ok s2
        obtain ⟨g0, hg0, rfl⟩ := List.mem_map.1 hg
        exact growF_ok (hall g0 hg0)
      rw [meetR_makeR okL] at h
      split at h
      · injection h with _ q; cases q
      · injection h with q _
        rw [← q]
        have := made_len okL
        simp only [List.length_cons, List.length_map] at this
        omega
    · injection h with _ q; cases q
theorem keep_fine {r : RoomV} {q : List H3} (D : RoomD r) (h : preR r r.ls = (q, true)) : ∃ k, keepR r r.ls = (k, true) ∧ isWithinR k r.ls = true ∧ isWithinR k q = true := by
  obtain ⟨P, kp, e, g, Q⟩ := pre_parts h
  have L := limits D
  have l1 := movedF_len (fun g hg q => erF_ok q) Q.he
  have l2 := growM_len Q.hg
  have l3 : q.length ≤ g.length + 4 := by
    have h' := h
    unfold preR at h'
    rw [if_pos ⟨room_ok D, kp⟩] at h'
    unfold preM at h'
    obtain ⟨g', hg', ho⟩ := thenL_ok h'
    obtain ⟨e', he', hg'⟩ := thenL_ok hg'
    have ee : e' = e := by have := he'.symm.trans Q.he; injection this
    subst ee
    have eg : g' = g := by
      unfold growP at hg'
      split at hg'
      · have := hg'.symm.trans Q.hg; injection this
      · injection hg' with _ q; cases q
    subst eg
    unfold pullM at ho
    exact movedF_len (fun g hg q => by unfold pullF at q ⊢; exact halfOf_ok (v := _) rfl q) ho
  have ll := L.len
  have hk : ∃ k, keepR r r.ls = (k, true) := by
    rw [keepR_chain, thenL_true (by rw [h]), h]
    unfold meetQ
    rw [if_pos ⟨kp, Q.ko, by simp only; omega⟩]
    split
    · exact ⟨_, rfl⟩
    · exact ⟨_, rfl⟩
  obtain ⟨k, hk⟩ := hk
  obtain ⟨_, q', K⟩ := keep_parts hk
  have eq : q' = q := by have := K.hp.symm.trans h; injection this
  subst eq
  exact ⟨k, hk, within_iff.2 ⟨K.ko, kp, fun x hx => ((K.so x).1 hx).2.1⟩, within_iff.2 ⟨K.ko, Q.ko, fun x hx => ((K.so x).1 hx).2.2⟩⟩
theorem lin_base {a b e f q x y : Int} : linP a b e f q (ptOf (x, y, 1)) = baseP (a * x + b * y) (e * x + f * y) (q * 1) := by
  rw [ptOf_whole]
  unfold linP baseP
  simp only [Int.mul_one]
  push_cast
  rfl
/-- A spot lies in PreRegion exactly if an input leads into the robust part. -/
theorem pre_spot {r : RoomV} {p e g q : List H3} {x y : Int} (D : RoomD r) (hx : -15 ≤ x ∧ x < 15) (hy : -15 ≤ y ∧ y < 15) (Q : PreP r p e g q) (hne : q ≠ []) : setR q (ptOf (x, y, 1)) ↔ ∃ u : Rat, (r.lo : Rat) ≤ u ∧ u ≤ (r.hi : Rat) ∧ setR e (movP (stateP r x y) u r.bx r.by_) := by
  obtain ⟨z, hz⟩ := (set_fat Q.ko hne).some
  obtain ⟨f1, _, hg⟩ := (Q.so z).1 hz
  obtain ⟨f2, _⟩ := (Q.sg _).1 hg
  obtain ⟨m1, m2⟩ := map_small D hx hy
  have hq := D.q
  have el : linP (r.m.getD 0 0) (r.m.getD 1 0) (r.m.getD 2 0) (r.m.getD 3 0) r.q (ptOf (x, y, 1)) = stateP r x y := lin_base
  rw [Q.so]
  constructor
  · rintro ⟨_, _, h⟩
    rw [el] at h
    exact ((Q.sg _).1 h).2.2
  · intro h
    have hb : Inside frameH (ptOf (x, y, 1)) := by
      rw [ptOf_whole]
      have c1 := le_cast hx.1; have c2 := le_cast (Int.le_of_lt hx.2); have c3 := le_cast hy.1; have c4 := le_cast (Int.le_of_lt hy.2)
      push_cast at c1 c2 c3 c4
      exact frame_pt (by simp only; grind)
    refine ⟨f1, hb, ?_⟩
    rw [el]
    exact (Q.sg _).2 ⟨f2, base_frame m1 m2 (by omega), h⟩
theorem pre_law {r : RoomV} {q e : List H3} {x y : Int} {w : Q4} {ok : Bool} (D : RoomD r) (hx : -15 ≤ x ∧ x < 15) (hy : -15 ≤ y ∧ y < 15) (E : RobP r e) (h : preR r r.ls = (q, true)) (hne : q ≠ []) (ha : admitR r r.ls x y 1 = (w, ok)) : hasSpotR q x y 1 = ok := by
  obtain ⟨P, kp, e', g, Q⟩ := pre_parts h
  have hr : robustR r r.ls = (e', true) := by
    unfold robustR
    rw [if_pos ⟨room_ok D, kp⟩]
    exact Q.he
  have ee : e' = e := by have := hr.symm.trans E.rob; injection this
  subst ee
  obtain ⟨h1, h2⟩ := adm_set D hx hy kp hr E.ne ha
  have hs := pre_spot D hx hy Q hne
  have hh := has_whole (p := q) Q.ko (x := x) (y := y) (by omega) (by omega)
  cases ok with
  | true =>
    obtain ⟨_, _, a3, a4⟩ := h1 rfl
    obtain ⟨⟨u1, u2⟩, u3⟩ := (a4 (fr w.1)).1 ⟨by grind, a3⟩
    exact hh.2 (hs.2 ⟨_, u1, u2, u3⟩)
  | false =>
    rw [Bool.eq_false_iff]
    intro k
    obtain ⟨u, u1, u2, u3⟩ := hs.1 (hh.1 k)
    exact h2 rfl u u1 u2 u3
end Go.Proofs.YtabmfaamadbefaaGreat