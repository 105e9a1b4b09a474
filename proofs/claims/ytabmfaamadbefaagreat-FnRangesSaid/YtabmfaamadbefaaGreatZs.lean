/- Plain: what FnRanges says of drawn rooms. No program. -/
import Derived.Test.YtabmfaamadbefaaGreatZr
import Derived.Test.YtabmfaamadbefaaGreatWr
import Derived.Test.YtabmfaamadbefaaGreatKz
set_option linter.unusedSimpArgs false
set_option linter.unusedVariables false
set_option linter.unusedSectionVars false
namespace Go.Proofs.YtabmfaamadbefaaGreat
open Go.RowKit
theorem room_range {r : RoomV} (D : RoomD r) : roomOk (rangeX r (r.lo - 2) (r.hi + 3)) = true := by
  have k := room_ok D
  have lo := D.lo; have hi := D.hi
  have h2 : rangeB (r.lo - 2) (r.hi + 3) = true := by
    unfold rangeB
    simp only [Bool.and_eq_true, inR_iff]
    omega
  have h1 : rangeB r.lo r.hi = true := by
    unfold rangeB
    simp only [Bool.and_eq_true, inR_iff]
    omega
  unfold roomOk rangeX at *
  simp only at *
  rw [h2]
  rw [h1] at k
  exact k
theorem range_with {r : RoomV} (D : RoomD r) : withR r (rangeX r (r.lo - 2) (r.hi + 3)) = (rangeX r (r.lo - 2) (r.hi + 3), true) := by
  unfold withR
  rw [if_pos ⟨room_ok D, room_range D⟩]
theorem noise_with {r : RoomV} (D : RoomD r) : withR r (noiseX r r.ns) = (noiseX r r.ns, true) := by
  have e : noiseX r r.ns = r := by cases r; rfl
  unfold withR
  rw [e, if_pos ⟨room_ok D, room_ok D⟩]
theorem noise_same (r : RoomV) : sameRoomR (noiseX r r.ns) r = true := by
  unfold sameRoomR noiseX
  simp
theorem ranges_within {r : RoomV} {p q : List H3} (h1 : keptR r = (p, true)) (h2 : keptR (rangeX r (r.lo - 2) (r.hi + 3)) = (q, true)) : isWithinR p q = true := by
  obtain ⟨_, hk, hs, _⟩ := keptR_parts h1
  have L : RoomLe r (rangeX r (r.lo - 2) (r.hi + 3)) := ⟨rfl, rfl, rfl, rfl, rfl, by simp only [rangeX]; omega, by simp only [rangeX]; omega⟩
  exact within_iff.2 ⟨keptR_reg h1, keptR_reg h2, kept_super L hk hs h2⟩
end Go.Proofs.YtabmfaamadbefaaGreat