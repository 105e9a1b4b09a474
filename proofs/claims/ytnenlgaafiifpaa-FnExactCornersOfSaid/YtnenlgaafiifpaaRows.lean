/-
  No cell of these rows narrows 'for every input' (looked for: loops, veiled, ifaces, maps, wideKeys, modest, calm, conditions, laid).
  DERIVED. THE GIVEN ROWS OF THIS SEAT. 12 by the template 'for every input the law returns true; each argument reads behind the call as it read before'; 0 by the template 'total and deterministic' (their statements: YtnenlgaafiifpaaTotals.lean).
  GIVEN WITH THE SEED: the statements are not yours to turn. If you find one false, say at which input.
  Laid BY PROGRAM, IN A SANDBOX (cutbox-rows.mjs): the forced cells as the released guide's own fill.sh prints them over the translation 6588143a91d91bee… (all of the seat's roots in one cut). By AI agents, Wed Nov 11 2026. No macro, syntax, notation, axiom, sorry.
-/
import Derived.Test.YtnenlgaafiifpaaChecked
import GoSem.Claim
import GoSem.ClaimJoined
import GoSem.ClaimMapViews
import Derived.JoinedTies
import Derived.KernelRfl
namespace Go.Proofs.Ytnenlgaafiifpaa
/- THE CELL 'sum', in the pinned program and in every row, IS THE sha256 OF THE DUMP (.gsa) THAT YtnenlgaafiifpaaProg.lean LOADS. Nothing in Lean hashes anything: it is a label: what it is worth is what the hold of that sum in a sandbox is worth. -/
noncomputable def Try.pinned : Pinned := { name := "ytnenlgaafiifpaa", sum := "6588143a91d91bee7c8127cc2265d88713ad7d5b49384a5f672e35cc6b1f1c25", checked := Try.checked }
namespace Rows
def none {H : Type} : Left H := { results := [], args := [] }

/-- 'laws.FnExactMeetRegions': WHATEVER THE INPUT: true; the input reads as it did. -/
def fnExactMeetRegionsSpec : ChangeSpec := { name := "fnExactMeetRegions", fn := fun _ => fun
  | [d1, d2] => { results := [.lit (.bool true)], args := [d1, d2] }
  | _ => none }
def fnExactMeetRegionsRow : OpenClaim := { program := "ytnenlgaafiifpaa", sum := "6588143a91d91bee7c8127cc2265d88713ad7d5b49384a5f672e35cc6b1f1c25", func := "loop.example/g00832/laws.FnExactMeetRegions", spec := "fnExactMeetRegions", inPlace := ["slices.overlaps[loop.example/g00832/impl.Half]"], apart := false }
def FnExactMeetRegionsSaid : Prop := fnExactMeetRegionsRow.holds Try.pinned (OpenSpec.ofChange fnExactMeetRegionsSpec)

/-- ITS FALSE NEIGHBOUR: 'it returns false'. Refute it at one input. -/
def fnExactMeetRegionsWrong : ChangeSpec := { name := "fnExactMeetRegions", fn := fun _ => fun
  | [d1, d2] => { results := [.lit (.bool false)], args := [d1, d2] }
  | _ => none }
def FnExactMeetRegionsWrongFalsely : Prop := fnExactMeetRegionsRow.holds Try.pinned (OpenSpec.ofChange fnExactMeetRegionsWrong)

/-- 'laws.FnExactCutRegion': WHATEVER THE INPUT: true; the input reads as it did. -/
def fnExactCutRegionSpec : ChangeSpec := { name := "fnExactCutRegion", fn := fun _ => fun
  | [d1, d2] => { results := [.lit (.bool true)], args := [d1, d2] }
  | _ => none }
def fnExactCutRegionRow : OpenClaim := { program := "ytnenlgaafiifpaa", sum := "6588143a91d91bee7c8127cc2265d88713ad7d5b49384a5f672e35cc6b1f1c25", func := "loop.example/g00832/laws.FnExactCutRegion", spec := "fnExactCutRegion", inPlace := ["slices.overlaps[loop.example/g00832/impl.Half]"], apart := false }
def FnExactCutRegionSaid : Prop := fnExactCutRegionRow.holds Try.pinned (OpenSpec.ofChange fnExactCutRegionSpec)

/-- ITS FALSE NEIGHBOUR: 'it returns false'. Refute it at one input. -/
def fnExactCutRegionWrong : ChangeSpec := { name := "fnExactCutRegion", fn := fun _ => fun
  | [d1, d2] => { results := [.lit (.bool false)], args := [d1, d2] }
  | _ => none }
def FnExactCutRegionWrongFalsely : Prop := fnExactCutRegionRow.holds Try.pinned (OpenSpec.ofChange fnExactCutRegionWrong)

/-- 'laws.FnExactInnerSpot': WHATEVER THE INPUT: true; the input reads as it did. -/
def fnExactInnerSpotSpec : ChangeSpec := { name := "fnExactInnerSpot", fn := fun _ => fun
  | [d] => { results := [.lit (.bool true)], args := [d] }
  | _ => none }
def fnExactInnerSpotRow : OpenClaim := { program := "ytnenlgaafiifpaa", sum := "6588143a91d91bee7c8127cc2265d88713ad7d5b49384a5f672e35cc6b1f1c25", func := "loop.example/g00832/laws.FnExactInnerSpot", spec := "fnExactInnerSpot", inPlace := ["slices.overlaps[loop.example/g00832/impl.Half]"], apart := false }
def FnExactInnerSpotSaid : Prop := fnExactInnerSpotRow.holds Try.pinned (OpenSpec.ofChange fnExactInnerSpotSpec)

/-- ITS FALSE NEIGHBOUR: 'it returns false'. Refute it at one input. -/
def fnExactInnerSpotWrong : ChangeSpec := { name := "fnExactInnerSpot", fn := fun _ => fun
  | [d] => { results := [.lit (.bool false)], args := [d] }
  | _ => none }
def FnExactInnerSpotWrongFalsely : Prop := fnExactInnerSpotRow.holds Try.pinned (OpenSpec.ofChange fnExactInnerSpotWrong)

/-- 'laws.FnExactMirrorRegion': WHATEVER THE INPUT: true; the input reads as it did. -/
def fnExactMirrorRegionSpec : ChangeSpec := { name := "fnExactMirrorRegion", fn := fun _ => fun
  | [d] => { results := [.lit (.bool true)], args := [d] }
  | _ => none }
def fnExactMirrorRegionRow : OpenClaim := { program := "ytnenlgaafiifpaa", sum := "6588143a91d91bee7c8127cc2265d88713ad7d5b49384a5f672e35cc6b1f1c25", func := "loop.example/g00832/laws.FnExactMirrorRegion", spec := "fnExactMirrorRegion", inPlace := ["slices.overlaps[loop.example/g00832/impl.Half]"], unfollowed := true, recurses := true, apart := false }
def FnExactMirrorRegionSaid : Prop := fnExactMirrorRegionRow.holds Try.pinned (OpenSpec.ofChange fnExactMirrorRegionSpec)

/-- ITS FALSE NEIGHBOUR: 'it returns false'. Refute it at one input. -/
def fnExactMirrorRegionWrong : ChangeSpec := { name := "fnExactMirrorRegion", fn := fun _ => fun
  | [d] => { results := [.lit (.bool false)], args := [d] }
  | _ => none }
def FnExactMirrorRegionWrongFalsely : Prop := fnExactMirrorRegionRow.holds Try.pinned (OpenSpec.ofChange fnExactMirrorRegionWrong)

/-- 'laws.FnExactIsCorner': WHATEVER THE INPUT: true; the input reads as it did. -/
def fnExactIsCornerSpec : ChangeSpec := { name := "fnExactIsCorner", fn := fun _ => fun
  | [d1, d2] => { results := [.lit (.bool true)], args := [d1, d2] }
  | _ => none }
def fnExactIsCornerRow : OpenClaim := { program := "ytnenlgaafiifpaa", sum := "6588143a91d91bee7c8127cc2265d88713ad7d5b49384a5f672e35cc6b1f1c25", func := "loop.example/g00832/laws.FnExactIsCorner", spec := "fnExactIsCorner", inPlace := ["slices.overlaps[loop.example/g00832/impl.Half]"], apart := false }
def FnExactIsCornerSaid : Prop := fnExactIsCornerRow.holds Try.pinned (OpenSpec.ofChange fnExactIsCornerSpec)

/-- ITS FALSE NEIGHBOUR: 'it returns false'. Refute it at one input. -/
def fnExactIsCornerWrong : ChangeSpec := { name := "fnExactIsCorner", fn := fun _ => fun
  | [d1, d2] => { results := [.lit (.bool false)], args := [d1, d2] }
  | _ => none }
def FnExactIsCornerWrongFalsely : Prop := fnExactIsCornerRow.holds Try.pinned (OpenSpec.ofChange fnExactIsCornerWrong)

/-- 'laws.FnExactShiftRegion': WHATEVER THE INPUT: true; the input reads as it did. -/
def fnExactShiftRegionSpec : ChangeSpec := { name := "fnExactShiftRegion", fn := fun _ => fun
  | [d1, d2, d3] => { results := [.lit (.bool true)], args := [d1, d2, d3] }
  | _ => none }
def fnExactShiftRegionRow : OpenClaim := { program := "ytnenlgaafiifpaa", sum := "6588143a91d91bee7c8127cc2265d88713ad7d5b49384a5f672e35cc6b1f1c25", func := "loop.example/g00832/laws.FnExactShiftRegion", spec := "fnExactShiftRegion", inPlace := ["slices.overlaps[loop.example/g00832/impl.Half]"], unfollowed := true, recurses := true, apart := false }
def FnExactShiftRegionSaid : Prop := fnExactShiftRegionRow.holds Try.pinned (OpenSpec.ofChange fnExactShiftRegionSpec)

/-- ITS FALSE NEIGHBOUR: 'it returns false'. Refute it at one input. -/
def fnExactShiftRegionWrong : ChangeSpec := { name := "fnExactShiftRegion", fn := fun _ => fun
  | [d1, d2, d3] => { results := [.lit (.bool false)], args := [d1, d2, d3] }
  | _ => none }
def FnExactShiftRegionWrongFalsely : Prop := fnExactShiftRegionRow.holds Try.pinned (OpenSpec.ofChange fnExactShiftRegionWrong)

/-- 'laws.FnExactRoomOk': WHATEVER THE INPUT: true; the input reads as it did. -/
def fnExactRoomOkSpec : ChangeSpec := { name := "fnExactRoomOk", fn := fun _ => fun
  | [d] => { results := [.lit (.bool true)], args := [d] }
  | _ => none }
def fnExactRoomOkRow : OpenClaim := { program := "ytnenlgaafiifpaa", sum := "6588143a91d91bee7c8127cc2265d88713ad7d5b49384a5f672e35cc6b1f1c25", func := "loop.example/g00832/laws.FnExactRoomOk", spec := "fnExactRoomOk", inPlace := ["slices.overlaps[loop.example/g00832/impl.Half]"], apart := false }
def FnExactRoomOkSaid : Prop := fnExactRoomOkRow.holds Try.pinned (OpenSpec.ofChange fnExactRoomOkSpec)

/-- ITS FALSE NEIGHBOUR: 'it returns false'. Refute it at one input. -/
def fnExactRoomOkWrong : ChangeSpec := { name := "fnExactRoomOk", fn := fun _ => fun
  | [d] => { results := [.lit (.bool false)], args := [d] }
  | _ => none }
def FnExactRoomOkWrongFalsely : Prop := fnExactRoomOkRow.holds Try.pinned (OpenSpec.ofChange fnExactRoomOkWrong)

/-- 'laws.FnExactIsWithin': WHATEVER THE INPUT: true; the input reads as it did. -/
def fnExactIsWithinSpec : ChangeSpec := { name := "fnExactIsWithin", fn := fun _ => fun
  | [d1, d2] => { results := [.lit (.bool true)], args := [d1, d2] }
  | _ => none }
def fnExactIsWithinRow : OpenClaim := { program := "ytnenlgaafiifpaa", sum := "6588143a91d91bee7c8127cc2265d88713ad7d5b49384a5f672e35cc6b1f1c25", func := "loop.example/g00832/laws.FnExactIsWithin", spec := "fnExactIsWithin", inPlace := ["slices.overlaps[loop.example/g00832/impl.Half]"], apart := false }
def FnExactIsWithinSaid : Prop := fnExactIsWithinRow.holds Try.pinned (OpenSpec.ofChange fnExactIsWithinSpec)

/-- ITS FALSE NEIGHBOUR: 'it returns false'. Refute it at one input. -/
def fnExactIsWithinWrong : ChangeSpec := { name := "fnExactIsWithin", fn := fun _ => fun
  | [d1, d2] => { results := [.lit (.bool false)], args := [d1, d2] }
  | _ => none }
def FnExactIsWithinWrongFalsely : Prop := fnExactIsWithinRow.holds Try.pinned (OpenSpec.ofChange fnExactIsWithinWrong)

/-- 'laws.FnExactCornersOf': WHATEVER THE INPUT: true; the input reads as it did. -/
def fnExactCornersOfSpec : ChangeSpec := { name := "fnExactCornersOf", fn := fun _ => fun
  | [d] => { results := [.lit (.bool true)], args := [d] }
  | _ => none }
def fnExactCornersOfRow : OpenClaim := { program := "ytnenlgaafiifpaa", sum := "6588143a91d91bee7c8127cc2265d88713ad7d5b49384a5f672e35cc6b1f1c25", func := "loop.example/g00832/laws.FnExactCornersOf", spec := "fnExactCornersOf", inPlace := ["slices.overlaps[loop.example/g00832/impl.Half]"], apart := false }
def FnExactCornersOfSaid : Prop := fnExactCornersOfRow.holds Try.pinned (OpenSpec.ofChange fnExactCornersOfSpec)

/-- ITS FALSE NEIGHBOUR: 'it returns false'. Refute it at one input. -/
def fnExactCornersOfWrong : ChangeSpec := { name := "fnExactCornersOf", fn := fun _ => fun
  | [d] => { results := [.lit (.bool false)], args := [d] }
  | _ => none }
def FnExactCornersOfWrongFalsely : Prop := fnExactCornersOfRow.holds Try.pinned (OpenSpec.ofChange fnExactCornersOfWrong)

/-- 'laws.FnExactPullBack': WHATEVER THE INPUT: true; the input reads as it did. -/
def fnExactPullBackSpec : ChangeSpec := { name := "fnExactPullBack", fn := fun _ => fun
  | [d1, d2, d3] => { results := [.lit (.bool true)], args := [d1, d2, d3] }
  | _ => none }
def fnExactPullBackRow : OpenClaim := { program := "ytnenlgaafiifpaa", sum := "6588143a91d91bee7c8127cc2265d88713ad7d5b49384a5f672e35cc6b1f1c25", func := "loop.example/g00832/laws.FnExactPullBack", spec := "fnExactPullBack", inPlace := ["slices.overlaps[loop.example/g00832/impl.Half]"], unfollowed := true, recurses := true, apart := false }
def FnExactPullBackSaid : Prop := fnExactPullBackRow.holds Try.pinned (OpenSpec.ofChange fnExactPullBackSpec)

/-- ITS FALSE NEIGHBOUR: 'it returns false'. Refute it at one input. -/
def fnExactPullBackWrong : ChangeSpec := { name := "fnExactPullBack", fn := fun _ => fun
  | [d1, d2, d3] => { results := [.lit (.bool false)], args := [d1, d2, d3] }
  | _ => none }
def FnExactPullBackWrongFalsely : Prop := fnExactPullBackRow.holds Try.pinned (OpenSpec.ofChange fnExactPullBackWrong)

/-- 'laws.FnExactSupportOf': WHATEVER THE INPUT: true; the input reads as it did. -/
def fnExactSupportOfSpec : ChangeSpec := { name := "fnExactSupportOf", fn := fun _ => fun
  | [d1, d2, d3] => { results := [.lit (.bool true)], args := [d1, d2, d3] }
  | _ => none }
def fnExactSupportOfRow : OpenClaim := { program := "ytnenlgaafiifpaa", sum := "6588143a91d91bee7c8127cc2265d88713ad7d5b49384a5f672e35cc6b1f1c25", func := "loop.example/g00832/laws.FnExactSupportOf", spec := "fnExactSupportOf", inPlace := ["slices.overlaps[loop.example/g00832/impl.Half]"], unfollowed := true, recurses := true, apart := false }
def FnExactSupportOfSaid : Prop := fnExactSupportOfRow.holds Try.pinned (OpenSpec.ofChange fnExactSupportOfSpec)

/-- ITS FALSE NEIGHBOUR: 'it returns false'. Refute it at one input. -/
def fnExactSupportOfWrong : ChangeSpec := { name := "fnExactSupportOf", fn := fun _ => fun
  | [d1, d2, d3] => { results := [.lit (.bool false)], args := [d1, d2, d3] }
  | _ => none }
def FnExactSupportOfWrongFalsely : Prop := fnExactSupportOfRow.holds Try.pinned (OpenSpec.ofChange fnExactSupportOfWrong)

/-- 'laws.FnExactFarthestCorner': WHATEVER THE INPUT: true; the input reads as it did. -/
def fnExactFarthestCornerSpec : ChangeSpec := { name := "fnExactFarthestCorner", fn := fun _ => fun
  | [d1, d2, d3] => { results := [.lit (.bool true)], args := [d1, d2, d3] }
  | _ => none }
def fnExactFarthestCornerRow : OpenClaim := { program := "ytnenlgaafiifpaa", sum := "6588143a91d91bee7c8127cc2265d88713ad7d5b49384a5f672e35cc6b1f1c25", func := "loop.example/g00832/laws.FnExactFarthestCorner", spec := "fnExactFarthestCorner", inPlace := ["slices.overlaps[loop.example/g00832/impl.Half]"], unfollowed := true, recurses := true, apart := false }
def FnExactFarthestCornerSaid : Prop := fnExactFarthestCornerRow.holds Try.pinned (OpenSpec.ofChange fnExactFarthestCornerSpec)

/-- ITS FALSE NEIGHBOUR: 'it returns false'. Refute it at one input. -/
def fnExactFarthestCornerWrong : ChangeSpec := { name := "fnExactFarthestCorner", fn := fun _ => fun
  | [d1, d2, d3] => { results := [.lit (.bool false)], args := [d1, d2, d3] }
  | _ => none }
def FnExactFarthestCornerWrongFalsely : Prop := fnExactFarthestCornerRow.holds Try.pinned (OpenSpec.ofChange fnExactFarthestCornerWrong)

/- THE SECOND FORM. 'bulk': how many values and letters a reading holds, each counted each time it is reached (what is shared counts as often as it is met; a slice's spare places count too). A statement '..UptoSaid' is the law's where the arguments, and the package variables that the reading takes, are together of bulk at most 1048576: NARROWER than '..Said'. Prove '..Said' where nothing that the law and all that it calls make is longer than what came in: it says more and counts as full. Else prove '..UptoSaid'. A law counts once. -/
mutual
def uptoBulk {H : Type} : DataW H → Nat
  | .lit (.string bytes) => bytes.length + 1
  | .lit _ => 1
  | .nil => 1
  | .ptr d => uptoBulk d + 1
  | .slice elems spare => uptoBulkAll elems + uptoBulkAll spare + 1
  | .agg parts => uptoBulkAll parts + 1
  | .iface _ d => uptoBulk d + 1
  | .map entries => uptoBulkEntries entries + 1
  | .held _ => 1
def uptoBulkAll {H : Type} : List (DataW H) → Nat
  | [] => 0
  | d :: r => uptoBulk d + uptoBulkAll r
def uptoBulkEntries {H : Type} : List (Lit × DataW H) → Nat
  | [] => 0
  | x :: r => uptoBulkEntry x + uptoBulkEntries r
def uptoBulkEntry {H : Type} : Lit × DataW H → Nat
  | (.string bytes, d) => bytes.length + uptoBulk d + 1
  | (_, d) => uptoBulk d + 1
 end
def uptoSmall : (H : Type) → List (DataW H) → Bool := fun _ ds => decide (uptoBulkAll ds ≤ 1048576)
def OpenSpec.upto (s : _root_.Go.ChangeSpec) : _root_.Go.OpenSpec := { _root_.Go.OpenSpec.ofChange s with cond := some uptoSmall }

/-- 'laws.FnExactMeetRegions', WHERE WHAT IT READS IS OF BULK AT MOST 1048576: true; the input reads as it did. -/
def fnExactMeetRegionsUptoRow : OpenClaim := { program := "ytnenlgaafiifpaa", sum := "6588143a91d91bee7c8127cc2265d88713ad7d5b49384a5f672e35cc6b1f1c25", func := "loop.example/g00832/laws.FnExactMeetRegions", spec := "fnExactMeetRegions", inPlace := ["slices.overlaps[loop.example/g00832/impl.Half]"], apart := false, narrowed := true }
def FnExactMeetRegionsUptoSaid : Prop := fnExactMeetRegionsUptoRow.holds Try.pinned (OpenSpec.upto fnExactMeetRegionsSpec)

/-- 'laws.FnExactCutRegion', WHERE WHAT IT READS IS OF BULK AT MOST 1048576: true; the input reads as it did. -/
def fnExactCutRegionUptoRow : OpenClaim := { program := "ytnenlgaafiifpaa", sum := "6588143a91d91bee7c8127cc2265d88713ad7d5b49384a5f672e35cc6b1f1c25", func := "loop.example/g00832/laws.FnExactCutRegion", spec := "fnExactCutRegion", inPlace := ["slices.overlaps[loop.example/g00832/impl.Half]"], apart := false, narrowed := true }
def FnExactCutRegionUptoSaid : Prop := fnExactCutRegionUptoRow.holds Try.pinned (OpenSpec.upto fnExactCutRegionSpec)

/-- 'laws.FnExactInnerSpot', WHERE WHAT IT READS IS OF BULK AT MOST 1048576: true; the input reads as it did. -/
def fnExactInnerSpotUptoRow : OpenClaim := { program := "ytnenlgaafiifpaa", sum := "6588143a91d91bee7c8127cc2265d88713ad7d5b49384a5f672e35cc6b1f1c25", func := "loop.example/g00832/laws.FnExactInnerSpot", spec := "fnExactInnerSpot", inPlace := ["slices.overlaps[loop.example/g00832/impl.Half]"], apart := false, narrowed := true }
def FnExactInnerSpotUptoSaid : Prop := fnExactInnerSpotUptoRow.holds Try.pinned (OpenSpec.upto fnExactInnerSpotSpec)

/-- 'laws.FnExactMirrorRegion', WHERE WHAT IT READS IS OF BULK AT MOST 1048576: true; the input reads as it did. -/
def fnExactMirrorRegionUptoRow : OpenClaim := { program := "ytnenlgaafiifpaa", sum := "6588143a91d91bee7c8127cc2265d88713ad7d5b49384a5f672e35cc6b1f1c25", func := "loop.example/g00832/laws.FnExactMirrorRegion", spec := "fnExactMirrorRegion", inPlace := ["slices.overlaps[loop.example/g00832/impl.Half]"], unfollowed := true, recurses := true, apart := false, narrowed := true }
def FnExactMirrorRegionUptoSaid : Prop := fnExactMirrorRegionUptoRow.holds Try.pinned (OpenSpec.upto fnExactMirrorRegionSpec)

/-- 'laws.FnExactIsCorner', WHERE WHAT IT READS IS OF BULK AT MOST 1048576: true; the input reads as it did. -/
def fnExactIsCornerUptoRow : OpenClaim := { program := "ytnenlgaafiifpaa", sum := "6588143a91d91bee7c8127cc2265d88713ad7d5b49384a5f672e35cc6b1f1c25", func := "loop.example/g00832/laws.FnExactIsCorner", spec := "fnExactIsCorner", inPlace := ["slices.overlaps[loop.example/g00832/impl.Half]"], apart := false, narrowed := true }
def FnExactIsCornerUptoSaid : Prop := fnExactIsCornerUptoRow.holds Try.pinned (OpenSpec.upto fnExactIsCornerSpec)

/-- 'laws.FnExactShiftRegion', WHERE WHAT IT READS IS OF BULK AT MOST 1048576: true; the input reads as it did. -/
def fnExactShiftRegionUptoRow : OpenClaim := { program := "ytnenlgaafiifpaa", sum := "6588143a91d91bee7c8127cc2265d88713ad7d5b49384a5f672e35cc6b1f1c25", func := "loop.example/g00832/laws.FnExactShiftRegion", spec := "fnExactShiftRegion", inPlace := ["slices.overlaps[loop.example/g00832/impl.Half]"], unfollowed := true, recurses := true, apart := false, narrowed := true }
def FnExactShiftRegionUptoSaid : Prop := fnExactShiftRegionUptoRow.holds Try.pinned (OpenSpec.upto fnExactShiftRegionSpec)

/-- 'laws.FnExactRoomOk', WHERE WHAT IT READS IS OF BULK AT MOST 1048576: true; the input reads as it did. -/
def fnExactRoomOkUptoRow : OpenClaim := { program := "ytnenlgaafiifpaa", sum := "6588143a91d91bee7c8127cc2265d88713ad7d5b49384a5f672e35cc6b1f1c25", func := "loop.example/g00832/laws.FnExactRoomOk", spec := "fnExactRoomOk", inPlace := ["slices.overlaps[loop.example/g00832/impl.Half]"], apart := false, narrowed := true }
def FnExactRoomOkUptoSaid : Prop := fnExactRoomOkUptoRow.holds Try.pinned (OpenSpec.upto fnExactRoomOkSpec)

/-- 'laws.FnExactIsWithin', WHERE WHAT IT READS IS OF BULK AT MOST 1048576: true; the input reads as it did. -/
def fnExactIsWithinUptoRow : OpenClaim := { program := "ytnenlgaafiifpaa", sum := "6588143a91d91bee7c8127cc2265d88713ad7d5b49384a5f672e35cc6b1f1c25", func := "loop.example/g00832/laws.FnExactIsWithin", spec := "fnExactIsWithin", inPlace := ["slices.overlaps[loop.example/g00832/impl.Half]"], apart := false, narrowed := true }
def FnExactIsWithinUptoSaid : Prop := fnExactIsWithinUptoRow.holds Try.pinned (OpenSpec.upto fnExactIsWithinSpec)

/-- 'laws.FnExactCornersOf', WHERE WHAT IT READS IS OF BULK AT MOST 1048576: true; the input reads as it did. -/
def fnExactCornersOfUptoRow : OpenClaim := { program := "ytnenlgaafiifpaa", sum := "6588143a91d91bee7c8127cc2265d88713ad7d5b49384a5f672e35cc6b1f1c25", func := "loop.example/g00832/laws.FnExactCornersOf", spec := "fnExactCornersOf", inPlace := ["slices.overlaps[loop.example/g00832/impl.Half]"], apart := false, narrowed := true }
def FnExactCornersOfUptoSaid : Prop := fnExactCornersOfUptoRow.holds Try.pinned (OpenSpec.upto fnExactCornersOfSpec)

/-- 'laws.FnExactPullBack', WHERE WHAT IT READS IS OF BULK AT MOST 1048576: true; the input reads as it did. -/
def fnExactPullBackUptoRow : OpenClaim := { program := "ytnenlgaafiifpaa", sum := "6588143a91d91bee7c8127cc2265d88713ad7d5b49384a5f672e35cc6b1f1c25", func := "loop.example/g00832/laws.FnExactPullBack", spec := "fnExactPullBack", inPlace := ["slices.overlaps[loop.example/g00832/impl.Half]"], unfollowed := true, recurses := true, apart := false, narrowed := true }
def FnExactPullBackUptoSaid : Prop := fnExactPullBackUptoRow.holds Try.pinned (OpenSpec.upto fnExactPullBackSpec)

/-- 'laws.FnExactSupportOf', WHERE WHAT IT READS IS OF BULK AT MOST 1048576: true; the input reads as it did. -/
def fnExactSupportOfUptoRow : OpenClaim := { program := "ytnenlgaafiifpaa", sum := "6588143a91d91bee7c8127cc2265d88713ad7d5b49384a5f672e35cc6b1f1c25", func := "loop.example/g00832/laws.FnExactSupportOf", spec := "fnExactSupportOf", inPlace := ["slices.overlaps[loop.example/g00832/impl.Half]"], unfollowed := true, recurses := true, apart := false, narrowed := true }
def FnExactSupportOfUptoSaid : Prop := fnExactSupportOfUptoRow.holds Try.pinned (OpenSpec.upto fnExactSupportOfSpec)

/-- 'laws.FnExactFarthestCorner', WHERE WHAT IT READS IS OF BULK AT MOST 1048576: true; the input reads as it did. -/
def fnExactFarthestCornerUptoRow : OpenClaim := { program := "ytnenlgaafiifpaa", sum := "6588143a91d91bee7c8127cc2265d88713ad7d5b49384a5f672e35cc6b1f1c25", func := "loop.example/g00832/laws.FnExactFarthestCorner", spec := "fnExactFarthestCorner", inPlace := ["slices.overlaps[loop.example/g00832/impl.Half]"], unfollowed := true, recurses := true, apart := false, narrowed := true }
def FnExactFarthestCornerUptoSaid : Prop := fnExactFarthestCornerUptoRow.holds Try.pinned (OpenSpec.upto fnExactFarthestCornerSpec)

end Rows
end Go.Proofs.Ytnenlgaafiifpaa
