/- Plain: what FnKept says of drawn rooms. No program. -/
import Derived.Test.YtabmfaamadbefaaGreatZr
set_option linter.unusedSimpArgs false
set_option linter.unusedVariables false
set_option linter.unusedSectionVars false
namespace Go.Proofs.YtabmfaamadbefaaGreat
open Go.RowKit
theorem kept_law {r : RoomV} {p : List H3} (h : keptR r = (p, true)) : isKeptR r p = true ∧ isWithinR p r.ls = true ∧ ¬ roundsR r < 0 := by
  obtain ⟨hr, hk, hs, hn⟩ := keptR_parts h
  exact ⟨kept_isKept hr (keptR_reg h) (keep_within hk) hs, within_iff.2 ⟨keptR_reg h, (roomOk_parts hr).lk, hs⟩, by omega⟩
/-- The room with other limits. -/
def limX (r : RoomV) (c : List H3) : RoomV := ⟨r.m, r.q, r.bx, r.by_, r.lo, r.hi, r.ns, c⟩
theorem cut_fine {r : RoomV} (D : RoomD r) {k : Int} (hk : 8 ≤ k ∧ k ≤ 27) : ∃ c, cutR r.ls ⟨1, 0, k⟩ = (c, true) ∧ regionOk c = true := by
  have L := limits D
  have ok : HOk ⟨1, 0, k⟩ := unit_ok (.inl ⟨rfl, rfl⟩) ⟨by omega, by omega⟩
  have hc : cutR r.ls ⟨1, 0, k⟩ = (makeR (r.ls ++ [⟨1, 0, k⟩]), true) := by
    unfold cutR
    rw [if_pos ⟨(halfOk_iff _).2 ok, L.reg, by have := L.len; omega⟩, if_neg L.ne]
  exact ⟨_, hc, cutR_ok hc⟩
theorem cut_kept {r : RoomV} {p q c : List H3} {h : H3} (hp : keptR r = (p, true)) (hc : cutR r.ls h = (c, true)) (hq : keptR (limX r c) = (q, true)) : isWithinR q p = true ∧ isKeptR r q = true := by
  obtain ⟨hr, hk, hs, _⟩ := keptR_parts hp
  obtain ⟨hx, hkx, hsx, _⟩ := keptR_parts hq
  have L : RoomLe (limX r c) r := ⟨rfl, rfl, rfl, rfl, rfl, Int.le_refl _, Int.le_refl _⟩
  have hsub : ∀ z, setR q z → setR r.ls z := fun z hz => ((set_cut hc).1 (hsx z hz)).2.1
  refine ⟨within_iff.2 ⟨keptR_reg hq, keptR_reg hp, kept_super L hkx hsub hp⟩, kept_isKept hr (keptR_reg hq) ?_ hsub⟩
  obtain ⟨o, ho, ko, hw⟩ := keep_within hkx
  exact ⟨o, by rw [pre_same hx hr L rfl rfl]; exact ho, ko, hw⟩
end Go.Proofs.YtabmfaamadbefaaGreat