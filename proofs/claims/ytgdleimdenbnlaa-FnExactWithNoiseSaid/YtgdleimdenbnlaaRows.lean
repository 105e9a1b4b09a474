/-
  No cell of these rows narrows 'for every input' (looked for: loops, veiled, ifaces, maps, wideKeys, modest, calm, conditions, laid).
  DERIVED. THE GIVEN ROWS OF THIS SEAT. 10 by the template 'for every input the law returns true; each argument reads behind the call as it read before'; 0 by the template 'total and deterministic' (their statements: YtgdleimdenbnlaaTotals.lean).
  GIVEN WITH THE SEED: the statements are not yours to turn. If you find one false, say at which input.
  Laid BY PROGRAM, IN A SANDBOX (cutbox-rows.mjs): the forced cells as the released guide's own fill.sh prints them over the translation d2fae8bbed086afb… (all of the seat's roots in one cut). By AI agents, Wed Nov 11 2026. No macro, syntax, notation, axiom, sorry.
-/
import Derived.Test.YtgdleimdenbnlaaChecked
import GoSem.Claim
import GoSem.ClaimJoined
import GoSem.ClaimMapViews
import Derived.JoinedTies
import Derived.KernelRfl
namespace Go.Proofs.Ytgdleimdenbnlaa
/- THE CELL 'sum', in the pinned program and in every row, IS THE sha256 OF THE DUMP (.gsa) THAT YtgdleimdenbnlaaProg.lean LOADS. Nothing in Lean hashes anything: it is a label: what it is worth is what the hold of that sum in a sandbox is worth. -/
noncomputable def Try.pinned : Pinned := { name := "ytgdleimdenbnlaa", sum := "d2fae8bbed086afb53b0861714f63a43eb0a521ea4385f2b9a02efdcdd5da4df", checked := Try.checked }
namespace Rows
def none {H : Type} : Left H := { results := [], args := [] }

/-- 'laws.FnExactIsInput': WHATEVER THE INPUT: true; the input reads as it did. -/
def fnExactIsInputSpec : ChangeSpec := { name := "fnExactIsInput", fn := fun _ => fun
  | [d1, d2] => { results := [.lit (.bool true)], args := [d1, d2] }
  | _ => none }
def fnExactIsInputRow : OpenClaim := { program := "ytgdleimdenbnlaa", sum := "d2fae8bbed086afb53b0861714f63a43eb0a521ea4385f2b9a02efdcdd5da4df", func := "loop.example/g00832/laws.FnExactIsInput", spec := "fnExactIsInput", inPlace := ["slices.overlaps[loop.example/g00832/impl.Half]"], apart := false }
def FnExactIsInputSaid : Prop := fnExactIsInputRow.holds Try.pinned (OpenSpec.ofChange fnExactIsInputSpec)

/-- ITS FALSE NEIGHBOUR: 'it returns false'. Refute it at one input. -/
def fnExactIsInputWrong : ChangeSpec := { name := "fnExactIsInput", fn := fun _ => fun
  | [d1, d2] => { results := [.lit (.bool false)], args := [d1, d2] }
  | _ => none }
def FnExactIsInputWrongFalsely : Prop := fnExactIsInputRow.holds Try.pinned (OpenSpec.ofChange fnExactIsInputWrong)

/-- 'laws.FnExactCentreInput': WHATEVER THE INPUT: true; the input reads as it did. -/
def fnExactCentreInputSpec : ChangeSpec := { name := "fnExactCentreInput", fn := fun _ => fun
  | [d] => { results := [.lit (.bool true)], args := [d] }
  | _ => none }
def fnExactCentreInputRow : OpenClaim := { program := "ytgdleimdenbnlaa", sum := "d2fae8bbed086afb53b0861714f63a43eb0a521ea4385f2b9a02efdcdd5da4df", func := "loop.example/g00832/laws.FnExactCentreInput", spec := "fnExactCentreInput", inPlace := ["slices.overlaps[loop.example/g00832/impl.Half]"], apart := false }
def FnExactCentreInputSaid : Prop := fnExactCentreInputRow.holds Try.pinned (OpenSpec.ofChange fnExactCentreInputSpec)

/-- ITS FALSE NEIGHBOUR: 'it returns false'. Refute it at one input. -/
def fnExactCentreInputWrong : ChangeSpec := { name := "fnExactCentreInput", fn := fun _ => fun
  | [d] => { results := [.lit (.bool false)], args := [d] }
  | _ => none }
def FnExactCentreInputWrongFalsely : Prop := fnExactCentreInputRow.holds Try.pinned (OpenSpec.ofChange fnExactCentreInputWrong)

/-- 'laws.FnExactAdmitHalf': WHATEVER THE INPUT: true; the input reads as it did. -/
def fnExactAdmitHalfSpec : ChangeSpec := { name := "fnExactAdmitHalf", fn := fun _ => fun
  | [d1, d2] => { results := [.lit (.bool true)], args := [d1, d2] }
  | _ => none }
def fnExactAdmitHalfRow : OpenClaim := { program := "ytgdleimdenbnlaa", sum := "d2fae8bbed086afb53b0861714f63a43eb0a521ea4385f2b9a02efdcdd5da4df", func := "loop.example/g00832/laws.FnExactAdmitHalf", spec := "fnExactAdmitHalf", inPlace := ["slices.overlaps[loop.example/g00832/impl.Half]"], apart := false }
def FnExactAdmitHalfSaid : Prop := fnExactAdmitHalfRow.holds Try.pinned (OpenSpec.ofChange fnExactAdmitHalfSpec)

/-- ITS FALSE NEIGHBOUR: 'it returns false'. Refute it at one input. -/
def fnExactAdmitHalfWrong : ChangeSpec := { name := "fnExactAdmitHalf", fn := fun _ => fun
  | [d1, d2] => { results := [.lit (.bool false)], args := [d1, d2] }
  | _ => none }
def FnExactAdmitHalfWrongFalsely : Prop := fnExactAdmitHalfRow.holds Try.pinned (OpenSpec.ofChange fnExactAdmitHalfWrong)

/-- 'laws.FnExactNextSpot': WHATEVER THE INPUT: true; the input reads as it did. -/
def fnExactNextSpotSpec : ChangeSpec := { name := "fnExactNextSpot", fn := fun _ => fun
  | [d1, d2, d3, d4] => { results := [.lit (.bool true)], args := [d1, d2, d3, d4] }
  | _ => none }
def fnExactNextSpotRow : OpenClaim := { program := "ytgdleimdenbnlaa", sum := "d2fae8bbed086afb53b0861714f63a43eb0a521ea4385f2b9a02efdcdd5da4df", func := "loop.example/g00832/laws.FnExactNextSpot", spec := "fnExactNextSpot", inPlace := ["slices.overlaps[loop.example/g00832/impl.Half]"], apart := false }
def FnExactNextSpotSaid : Prop := fnExactNextSpotRow.holds Try.pinned (OpenSpec.ofChange fnExactNextSpotSpec)

/-- ITS FALSE NEIGHBOUR: 'it returns false'. Refute it at one input. -/
def fnExactNextSpotWrong : ChangeSpec := { name := "fnExactNextSpot", fn := fun _ => fun
  | [d1, d2, d3, d4] => { results := [.lit (.bool false)], args := [d1, d2, d3, d4] }
  | _ => none }
def FnExactNextSpotWrongFalsely : Prop := fnExactNextSpotRow.holds Try.pinned (OpenSpec.ofChange fnExactNextSpotWrong)

/-- 'laws.FnExactWithNoise': WHATEVER THE INPUT: true; the input reads as it did. -/
def fnExactWithNoiseSpec : ChangeSpec := { name := "fnExactWithNoise", fn := fun _ => fun
  | [d1, d2] => { results := [.lit (.bool true)], args := [d1, d2] }
  | _ => none }
def fnExactWithNoiseRow : OpenClaim := { program := "ytgdleimdenbnlaa", sum := "d2fae8bbed086afb53b0861714f63a43eb0a521ea4385f2b9a02efdcdd5da4df", func := "loop.example/g00832/laws.FnExactWithNoise", spec := "fnExactWithNoise", inPlace := ["slices.overlaps[loop.example/g00832/impl.Half]"], apart := false }
def FnExactWithNoiseSaid : Prop := fnExactWithNoiseRow.holds Try.pinned (OpenSpec.ofChange fnExactWithNoiseSpec)

/-- ITS FALSE NEIGHBOUR: 'it returns false'. Refute it at one input. -/
def fnExactWithNoiseWrong : ChangeSpec := { name := "fnExactWithNoise", fn := fun _ => fun
  | [d1, d2] => { results := [.lit (.bool false)], args := [d1, d2] }
  | _ => none }
def FnExactWithNoiseWrongFalsely : Prop := fnExactWithNoiseRow.holds Try.pinned (OpenSpec.ofChange fnExactWithNoiseWrong)

/-- 'laws.FnExactWithRange': WHATEVER THE INPUT: true; the input reads as it did. -/
def fnExactWithRangeSpec : ChangeSpec := { name := "fnExactWithRange", fn := fun _ => fun
  | [d1, d2, d3] => { results := [.lit (.bool true)], args := [d1, d2, d3] }
  | _ => none }
def fnExactWithRangeRow : OpenClaim := { program := "ytgdleimdenbnlaa", sum := "d2fae8bbed086afb53b0861714f63a43eb0a521ea4385f2b9a02efdcdd5da4df", func := "loop.example/g00832/laws.FnExactWithRange", spec := "fnExactWithRange", inPlace := ["slices.overlaps[loop.example/g00832/impl.Half]"], apart := false }
def FnExactWithRangeSaid : Prop := fnExactWithRangeRow.holds Try.pinned (OpenSpec.ofChange fnExactWithRangeSpec)

/-- ITS FALSE NEIGHBOUR: 'it returns false'. Refute it at one input. -/
def fnExactWithRangeWrong : ChangeSpec := { name := "fnExactWithRange", fn := fun _ => fun
  | [d1, d2, d3] => { results := [.lit (.bool false)], args := [d1, d2, d3] }
  | _ => none }
def FnExactWithRangeWrongFalsely : Prop := fnExactWithRangeRow.holds Try.pinned (OpenSpec.ofChange fnExactWithRangeWrong)

/-- 'laws.FnExactErodeRegion': WHATEVER THE INPUT: true; the input reads as it did. -/
def fnExactErodeRegionSpec : ChangeSpec := { name := "fnExactErodeRegion", fn := fun _ => fun
  | [d1, d2] => { results := [.lit (.bool true)], args := [d1, d2] }
  | _ => none }
def fnExactErodeRegionRow : OpenClaim := { program := "ytgdleimdenbnlaa", sum := "d2fae8bbed086afb53b0861714f63a43eb0a521ea4385f2b9a02efdcdd5da4df", func := "loop.example/g00832/laws.FnExactErodeRegion", spec := "fnExactErodeRegion", inPlace := ["slices.overlaps[loop.example/g00832/impl.Half]"], unfollowed := true, recurses := true, apart := false }
def FnExactErodeRegionSaid : Prop := fnExactErodeRegionRow.holds Try.pinned (OpenSpec.ofChange fnExactErodeRegionSpec)

/-- ITS FALSE NEIGHBOUR: 'it returns false'. Refute it at one input. -/
def fnExactErodeRegionWrong : ChangeSpec := { name := "fnExactErodeRegion", fn := fun _ => fun
  | [d1, d2] => { results := [.lit (.bool false)], args := [d1, d2] }
  | _ => none }
def FnExactErodeRegionWrongFalsely : Prop := fnExactErodeRegionRow.holds Try.pinned (OpenSpec.ofChange fnExactErodeRegionWrong)

/-- 'laws.FnExactGrowAlong': WHATEVER THE INPUT: true; the input reads as it did. -/
def fnExactGrowAlongSpec : ChangeSpec := { name := "fnExactGrowAlong", fn := fun _ => fun
  | [d1, d2, d3, d4, d5] => { results := [.lit (.bool true)], args := [d1, d2, d3, d4, d5] }
  | _ => none }
def fnExactGrowAlongRow : OpenClaim := { program := "ytgdleimdenbnlaa", sum := "d2fae8bbed086afb53b0861714f63a43eb0a521ea4385f2b9a02efdcdd5da4df", func := "loop.example/g00832/laws.FnExactGrowAlong", spec := "fnExactGrowAlong", inPlace := ["slices.overlaps[loop.example/g00832/impl.Half]"], unfollowed := true, recurses := true, apart := false }
def FnExactGrowAlongSaid : Prop := fnExactGrowAlongRow.holds Try.pinned (OpenSpec.ofChange fnExactGrowAlongSpec)

/-- ITS FALSE NEIGHBOUR: 'it returns false'. Refute it at one input. -/
def fnExactGrowAlongWrong : ChangeSpec := { name := "fnExactGrowAlong", fn := fun _ => fun
  | [d1, d2, d3, d4, d5] => { results := [.lit (.bool false)], args := [d1, d2, d3, d4, d5] }
  | _ => none }
def FnExactGrowAlongWrongFalsely : Prop := fnExactGrowAlongRow.holds Try.pinned (OpenSpec.ofChange fnExactGrowAlongWrong)

/-- 'laws.FnExactRoomOk': WHATEVER THE INPUT: true; the input reads as it did. -/
def fnExactRoomOkSpec : ChangeSpec := { name := "fnExactRoomOk", fn := fun _ => fun
  | [d] => { results := [.lit (.bool true)], args := [d] }
  | _ => none }
def fnExactRoomOkRow : OpenClaim := { program := "ytgdleimdenbnlaa", sum := "d2fae8bbed086afb53b0861714f63a43eb0a521ea4385f2b9a02efdcdd5da4df", func := "loop.example/g00832/laws.FnExactRoomOk", spec := "fnExactRoomOk", inPlace := ["slices.overlaps[loop.example/g00832/impl.Half]"], apart := false }
def FnExactRoomOkSaid : Prop := fnExactRoomOkRow.holds Try.pinned (OpenSpec.ofChange fnExactRoomOkSpec)

/-- ITS FALSE NEIGHBOUR: 'it returns false'. Refute it at one input. -/
def fnExactRoomOkWrong : ChangeSpec := { name := "fnExactRoomOk", fn := fun _ => fun
  | [d] => { results := [.lit (.bool false)], args := [d] }
  | _ => none }
def FnExactRoomOkWrongFalsely : Prop := fnExactRoomOkRow.holds Try.pinned (OpenSpec.ofChange fnExactRoomOkWrong)

/-- 'laws.FnExactSameRooms': WHATEVER THE INPUT: true; the input reads as it did. -/
def fnExactSameRoomsSpec : ChangeSpec := { name := "fnExactSameRooms", fn := fun _ => fun
  | [d1, d2] => { results := [.lit (.bool true)], args := [d1, d2] }
  | _ => none }
def fnExactSameRoomsRow : OpenClaim := { program := "ytgdleimdenbnlaa", sum := "d2fae8bbed086afb53b0861714f63a43eb0a521ea4385f2b9a02efdcdd5da4df", func := "loop.example/g00832/laws.FnExactSameRooms", spec := "fnExactSameRooms", apart := false }
def FnExactSameRoomsSaid : Prop := fnExactSameRoomsRow.holds Try.pinned (OpenSpec.ofChange fnExactSameRoomsSpec)

/-- ITS FALSE NEIGHBOUR: 'it returns false'. Refute it at one input. -/
def fnExactSameRoomsWrong : ChangeSpec := { name := "fnExactSameRooms", fn := fun _ => fun
  | [d1, d2] => { results := [.lit (.bool false)], args := [d1, d2] }
  | _ => none }
def FnExactSameRoomsWrongFalsely : Prop := fnExactSameRoomsRow.holds Try.pinned (OpenSpec.ofChange fnExactSameRoomsWrong)

/- THE SECOND FORM. 'bulk': how many values and letters a reading holds, each counted each time it is reached (what is shared counts as often as it is met; a slice's spare places count too). A statement '..UptoSaid' is the law's where the arguments, and the package variables that the reading takes, are together of bulk at most 1048576: NARROWER than '..Said'. Prove '..Said' where nothing that the law and all that it calls make is longer than what came in: it says more and counts as full. Else prove '..UptoSaid'. A law counts once. -/
mutual
def uptoBulk {H : Type} : DataW H → Nat
  | .lit (.string bytes) => bytes.length + 1
  | .lit _ => 1
  | .nil => 1
  | .ptr d => uptoBulk d + 1
  | .slice elems spare => uptoBulkAll elems + uptoBulkAll spare + 1
  | .agg parts => uptoBulkAll parts + 1
  | .iface _ d => uptoBulk d + 1
  | .map entries => uptoBulkEntries entries + 1
  | .held _ => 1
def uptoBulkAll {H : Type} : List (DataW H) → Nat
  | [] => 0
  | d :: r => uptoBulk d + uptoBulkAll r
def uptoBulkEntries {H : Type} : List (Lit × DataW H) → Nat
  | [] => 0
  | x :: r => uptoBulkEntry x + uptoBulkEntries r
def uptoBulkEntry {H : Type} : Lit × DataW H → Nat
  | (.string bytes, d) => bytes.length + uptoBulk d + 1
  | (_, d) => uptoBulk d + 1
 end
def uptoSmall : (H : Type) → List (DataW H) → Bool := fun _ ds => decide (uptoBulkAll ds ≤ 1048576)
def OpenSpec.upto (s : _root_.Go.ChangeSpec) : _root_.Go.OpenSpec := { _root_.Go.OpenSpec.ofChange s with cond := some uptoSmall }

/-- 'laws.FnExactIsInput', WHERE WHAT IT READS IS OF BULK AT MOST 1048576: true; the input reads as it did. -/
def fnExactIsInputUptoRow : OpenClaim := { program := "ytgdleimdenbnlaa", sum := "d2fae8bbed086afb53b0861714f63a43eb0a521ea4385f2b9a02efdcdd5da4df", func := "loop.example/g00832/laws.FnExactIsInput", spec := "fnExactIsInput", inPlace := ["slices.overlaps[loop.example/g00832/impl.Half]"], apart := false, narrowed := true }
def FnExactIsInputUptoSaid : Prop := fnExactIsInputUptoRow.holds Try.pinned (OpenSpec.upto fnExactIsInputSpec)

/-- 'laws.FnExactCentreInput', WHERE WHAT IT READS IS OF BULK AT MOST 1048576: true; the input reads as it did. -/
def fnExactCentreInputUptoRow : OpenClaim := { program := "ytgdleimdenbnlaa", sum := "d2fae8bbed086afb53b0861714f63a43eb0a521ea4385f2b9a02efdcdd5da4df", func := "loop.example/g00832/laws.FnExactCentreInput", spec := "fnExactCentreInput", inPlace := ["slices.overlaps[loop.example/g00832/impl.Half]"], apart := false, narrowed := true }
def FnExactCentreInputUptoSaid : Prop := fnExactCentreInputUptoRow.holds Try.pinned (OpenSpec.upto fnExactCentreInputSpec)

/-- 'laws.FnExactAdmitHalf', WHERE WHAT IT READS IS OF BULK AT MOST 1048576: true; the input reads as it did. -/
def fnExactAdmitHalfUptoRow : OpenClaim := { program := "ytgdleimdenbnlaa", sum := "d2fae8bbed086afb53b0861714f63a43eb0a521ea4385f2b9a02efdcdd5da4df", func := "loop.example/g00832/laws.FnExactAdmitHalf", spec := "fnExactAdmitHalf", inPlace := ["slices.overlaps[loop.example/g00832/impl.Half]"], apart := false, narrowed := true }
def FnExactAdmitHalfUptoSaid : Prop := fnExactAdmitHalfUptoRow.holds Try.pinned (OpenSpec.upto fnExactAdmitHalfSpec)

/-- 'laws.FnExactNextSpot', WHERE WHAT IT READS IS OF BULK AT MOST 1048576: true; the input reads as it did. -/
def fnExactNextSpotUptoRow : OpenClaim := { program := "ytgdleimdenbnlaa", sum := "d2fae8bbed086afb53b0861714f63a43eb0a521ea4385f2b9a02efdcdd5da4df", func := "loop.example/g00832/laws.FnExactNextSpot", spec := "fnExactNextSpot", inPlace := ["slices.overlaps[loop.example/g00832/impl.Half]"], apart := false, narrowed := true }
def FnExactNextSpotUptoSaid : Prop := fnExactNextSpotUptoRow.holds Try.pinned (OpenSpec.upto fnExactNextSpotSpec)

/-- 'laws.FnExactWithNoise', WHERE WHAT IT READS IS OF BULK AT MOST 1048576: true; the input reads as it did. -/
def fnExactWithNoiseUptoRow : OpenClaim := { program := "ytgdleimdenbnlaa", sum := "d2fae8bbed086afb53b0861714f63a43eb0a521ea4385f2b9a02efdcdd5da4df", func := "loop.example/g00832/laws.FnExactWithNoise", spec := "fnExactWithNoise", inPlace := ["slices.overlaps[loop.example/g00832/impl.Half]"], apart := false, narrowed := true }
def FnExactWithNoiseUptoSaid : Prop := fnExactWithNoiseUptoRow.holds Try.pinned (OpenSpec.upto fnExactWithNoiseSpec)

/-- 'laws.FnExactWithRange', WHERE WHAT IT READS IS OF BULK AT MOST 1048576: true; the input reads as it did. -/
def fnExactWithRangeUptoRow : OpenClaim := { program := "ytgdleimdenbnlaa", sum := "d2fae8bbed086afb53b0861714f63a43eb0a521ea4385f2b9a02efdcdd5da4df", func := "loop.example/g00832/laws.FnExactWithRange", spec := "fnExactWithRange", inPlace := ["slices.overlaps[loop.example/g00832/impl.Half]"], apart := false, narrowed := true }
def FnExactWithRangeUptoSaid : Prop := fnExactWithRangeUptoRow.holds Try.pinned (OpenSpec.upto fnExactWithRangeSpec)

/-- 'laws.FnExactErodeRegion', WHERE WHAT IT READS IS OF BULK AT MOST 1048576: true; the input reads as it did. -/
def fnExactErodeRegionUptoRow : OpenClaim := { program := "ytgdleimdenbnlaa", sum := "d2fae8bbed086afb53b0861714f63a43eb0a521ea4385f2b9a02efdcdd5da4df", func := "loop.example/g00832/laws.FnExactErodeRegion", spec := "fnExactErodeRegion", inPlace := ["slices.overlaps[loop.example/g00832/impl.Half]"], unfollowed := true, recurses := true, apart := false, narrowed := true }
def FnExactErodeRegionUptoSaid : Prop := fnExactErodeRegionUptoRow.holds Try.pinned (OpenSpec.upto fnExactErodeRegionSpec)

/-- 'laws.FnExactGrowAlong', WHERE WHAT IT READS IS OF BULK AT MOST 1048576: true; the input reads as it did. -/
def fnExactGrowAlongUptoRow : OpenClaim := { program := "ytgdleimdenbnlaa", sum := "d2fae8bbed086afb53b0861714f63a43eb0a521ea4385f2b9a02efdcdd5da4df", func := "loop.example/g00832/laws.FnExactGrowAlong", spec := "fnExactGrowAlong", inPlace := ["slices.overlaps[loop.example/g00832/impl.Half]"], unfollowed := true, recurses := true, apart := false, narrowed := true }
def FnExactGrowAlongUptoSaid : Prop := fnExactGrowAlongUptoRow.holds Try.pinned (OpenSpec.upto fnExactGrowAlongSpec)

/-- 'laws.FnExactRoomOk', WHERE WHAT IT READS IS OF BULK AT MOST 1048576: true; the input reads as it did. -/
def fnExactRoomOkUptoRow : OpenClaim := { program := "ytgdleimdenbnlaa", sum := "d2fae8bbed086afb53b0861714f63a43eb0a521ea4385f2b9a02efdcdd5da4df", func := "loop.example/g00832/laws.FnExactRoomOk", spec := "fnExactRoomOk", inPlace := ["slices.overlaps[loop.example/g00832/impl.Half]"], apart := false, narrowed := true }
def FnExactRoomOkUptoSaid : Prop := fnExactRoomOkUptoRow.holds Try.pinned (OpenSpec.upto fnExactRoomOkSpec)

/-- 'laws.FnExactSameRooms', WHERE WHAT IT READS IS OF BULK AT MOST 1048576: true; the input reads as it did. -/
def fnExactSameRoomsUptoRow : OpenClaim := { program := "ytgdleimdenbnlaa", sum := "d2fae8bbed086afb53b0861714f63a43eb0a521ea4385f2b9a02efdcdd5da4df", func := "loop.example/g00832/laws.FnExactSameRooms", spec := "fnExactSameRooms", apart := false, narrowed := true }
def FnExactSameRoomsUptoSaid : Prop := fnExactSameRoomsUptoRow.holds Try.pinned (OpenSpec.upto fnExactSameRoomsSpec)

end Rows
end Go.Proofs.Ytgdleimdenbnlaa
