/-
  No cell of these rows narrows 'for every input' (looked for: loops, veiled, ifaces, maps, wideKeys, modest, calm, conditions, laid).
  DERIVED. THE GIVEN ROWS OF THIS SEAT. 5 by the template 'for every input the law returns true; each argument reads behind the call as it read before'; 0 by the template 'total and deterministic' (their statements: YtabmfaamadbefaaTotals.lean).
  GIVEN WITH THE SEED: the statements are not yours to turn. If you find one false, say at which input.
  Laid BY PROGRAM, IN A SANDBOX (cutbox-rows.mjs): the forced cells as the released guide's own fill.sh prints them over the translation 8f6ca653251be158… (all of the seat's roots in one cut). By AI agents, Wed Nov 11 2026. No macro, syntax, notation, axiom, sorry.
-/
import Derived.Test.YtabmfaamadbefaaChecked
import GoSem.Claim
import GoSem.ClaimJoined
import GoSem.ClaimMapViews
import Derived.JoinedTies
import Derived.KernelRfl
namespace Go.Proofs.Ytabmfaamadbefaa
/- THE CELL 'sum', in the pinned program and in every row, IS THE sha256 OF THE DUMP (.gsa) THAT YtabmfaamadbefaaProg.lean LOADS. Nothing in Lean hashes anything: it is a label: what it is worth is what the hold of that sum in a sandbox is worth. -/
noncomputable def Try.pinned : Pinned := { name := "ytabmfaamadbefaa", sum := "8f6ca653251be15884e968b3b6cc9dfffc6f0219c1346dd2208e9cc03bf8421b", checked := Try.checked }
namespace Rows
def none {H : Type} : Left H := { results := [], args := [] }

/-- 'laws.FnMeets': WHATEVER THE INPUT: true; the input reads as it did. -/
def fnMeetsSpec : ChangeSpec := { name := "fnMeets", fn := fun _ => fun
  | [d] => { results := [.lit (.bool true)], args := [d] }
  | _ => none }
def fnMeetsRow : OpenClaim := { program := "ytabmfaamadbefaa", sum := "8f6ca653251be15884e968b3b6cc9dfffc6f0219c1346dd2208e9cc03bf8421b", func := "loop.example/g00832/laws.FnMeets", spec := "fnMeets", inPlace := ["slices.overlaps[loop.example/g00832/impl.Half]"], apart := false }
def FnMeetsSaid : Prop := fnMeetsRow.holds Try.pinned (OpenSpec.ofChange fnMeetsSpec)

/-- ITS FALSE NEIGHBOUR: 'it returns false'. Refute it at one input. -/
def fnMeetsWrong : ChangeSpec := { name := "fnMeets", fn := fun _ => fun
  | [d] => { results := [.lit (.bool false)], args := [d] }
  | _ => none }
def FnMeetsWrongFalsely : Prop := fnMeetsRow.holds Try.pinned (OpenSpec.ofChange fnMeetsWrong)

/-- 'laws.FnMirrored': WHATEVER THE INPUT: true; the input reads as it did. -/
def fnMirroredSpec : ChangeSpec := { name := "fnMirrored", fn := fun _ => fun
  | [d] => { results := [.lit (.bool true)], args := [d] }
  | _ => none }
def fnMirroredRow : OpenClaim := { program := "ytabmfaamadbefaa", sum := "8f6ca653251be15884e968b3b6cc9dfffc6f0219c1346dd2208e9cc03bf8421b", func := "loop.example/g00832/laws.FnMirrored", spec := "fnMirrored", inPlace := ["slices.overlaps[loop.example/g00832/impl.Half]"], unfollowed := true, recurses := true, apart := false }
def FnMirroredSaid : Prop := fnMirroredRow.holds Try.pinned (OpenSpec.ofChange fnMirroredSpec)

/-- ITS FALSE NEIGHBOUR: 'it returns false'. Refute it at one input. -/
def fnMirroredWrong : ChangeSpec := { name := "fnMirrored", fn := fun _ => fun
  | [d] => { results := [.lit (.bool false)], args := [d] }
  | _ => none }
def FnMirroredWrongFalsely : Prop := fnMirroredRow.holds Try.pinned (OpenSpec.ofChange fnMirroredWrong)

/-- 'laws.FnCorners': WHATEVER THE INPUT: true; the input reads as it did. -/
def fnCornersSpec : ChangeSpec := { name := "fnCorners", fn := fun _ => fun
  | [d] => { results := [.lit (.bool true)], args := [d] }
  | _ => none }
def fnCornersRow : OpenClaim := { program := "ytabmfaamadbefaa", sum := "8f6ca653251be15884e968b3b6cc9dfffc6f0219c1346dd2208e9cc03bf8421b", func := "loop.example/g00832/laws.FnCorners", spec := "fnCorners", inPlace := ["slices.overlaps[loop.example/g00832/impl.Half]"], apart := false }
def FnCornersSaid : Prop := fnCornersRow.holds Try.pinned (OpenSpec.ofChange fnCornersSpec)

/-- ITS FALSE NEIGHBOUR: 'it returns false'. Refute it at one input. -/
def fnCornersWrong : ChangeSpec := { name := "fnCorners", fn := fun _ => fun
  | [d] => { results := [.lit (.bool false)], args := [d] }
  | _ => none }
def FnCornersWrongFalsely : Prop := fnCornersRow.holds Try.pinned (OpenSpec.ofChange fnCornersWrong)

/-- 'laws.FnEroded': WHATEVER THE INPUT: true; the input reads as it did. -/
def fnErodedSpec : ChangeSpec := { name := "fnEroded", fn := fun _ => fun
  | [d] => { results := [.lit (.bool true)], args := [d] }
  | _ => none }
def fnErodedRow : OpenClaim := { program := "ytabmfaamadbefaa", sum := "8f6ca653251be15884e968b3b6cc9dfffc6f0219c1346dd2208e9cc03bf8421b", func := "loop.example/g00832/laws.FnEroded", spec := "fnEroded", inPlace := ["slices.overlaps[loop.example/g00832/impl.Half]"], unfollowed := true, recurses := true, apart := false }
def FnErodedSaid : Prop := fnErodedRow.holds Try.pinned (OpenSpec.ofChange fnErodedSpec)

/-- ITS FALSE NEIGHBOUR: 'it returns false'. Refute it at one input. -/
def fnErodedWrong : ChangeSpec := { name := "fnEroded", fn := fun _ => fun
  | [d] => { results := [.lit (.bool false)], args := [d] }
  | _ => none }
def FnErodedWrongFalsely : Prop := fnErodedRow.holds Try.pinned (OpenSpec.ofChange fnErodedWrong)

/-- 'laws.FnGrown': WHATEVER THE INPUT: true; the input reads as it did. -/
def fnGrownSpec : ChangeSpec := { name := "fnGrown", fn := fun _ => fun
  | [d] => { results := [.lit (.bool true)], args := [d] }
  | _ => none }
def fnGrownRow : OpenClaim := { program := "ytabmfaamadbefaa", sum := "8f6ca653251be15884e968b3b6cc9dfffc6f0219c1346dd2208e9cc03bf8421b", func := "loop.example/g00832/laws.FnGrown", spec := "fnGrown", inPlace := ["slices.overlaps[loop.example/g00832/impl.Half]"], unfollowed := true, recurses := true, apart := false }
def FnGrownSaid : Prop := fnGrownRow.holds Try.pinned (OpenSpec.ofChange fnGrownSpec)

/-- ITS FALSE NEIGHBOUR: 'it returns false'. Refute it at one input. -/
def fnGrownWrong : ChangeSpec := { name := "fnGrown", fn := fun _ => fun
  | [d] => { results := [.lit (.bool false)], args := [d] }
  | _ => none }
def FnGrownWrongFalsely : Prop := fnGrownRow.holds Try.pinned (OpenSpec.ofChange fnGrownWrong)

/- THE SECOND FORM. 'bulk': how many values and letters a reading holds, each counted each time it is reached (what is shared counts as often as it is met; a slice's spare places count too). A statement '..UptoSaid' is the law's where the arguments, and the package variables that the reading takes, are together of bulk at most 1048576: NARROWER than '..Said'. Prove '..Said' where nothing that the law and all that it calls make is longer than what came in: it says more and counts as full. Else prove '..UptoSaid'. A law counts once. -/
mutual
def uptoBulk {H : Type} : DataW H → Nat
  | .lit (.string bytes) => bytes.length + 1
  | .lit _ => 1
  | .nil => 1
  | .ptr d => uptoBulk d + 1
  | .slice elems spare => uptoBulkAll elems + uptoBulkAll spare + 1
  | .agg parts => uptoBulkAll parts + 1
  | .iface _ d => uptoBulk d + 1
  | .map entries => uptoBulkEntries entries + 1
  | .held _ => 1
def uptoBulkAll {H : Type} : List (DataW H) → Nat
  | [] => 0
  | d :: r => uptoBulk d + uptoBulkAll r
def uptoBulkEntries {H : Type} : List (Lit × DataW H) → Nat
  | [] => 0
  | x :: r => uptoBulkEntry x + uptoBulkEntries r
def uptoBulkEntry {H : Type} : Lit × DataW H → Nat
  | (.string bytes, d) => bytes.length + uptoBulk d + 1
  | (_, d) => uptoBulk d + 1
 end
def uptoSmall : (H : Type) → List (DataW H) → Bool := fun _ ds => decide (uptoBulkAll ds ≤ 1048576)
def OpenSpec.upto (s : _root_.Go.ChangeSpec) : _root_.Go.OpenSpec := { _root_.Go.OpenSpec.ofChange s with cond := some uptoSmall }

/-- 'laws.FnMeets', WHERE WHAT IT READS IS OF BULK AT MOST 1048576: true; the input reads as it did. -/
def fnMeetsUptoRow : OpenClaim := { program := "ytabmfaamadbefaa", sum := "8f6ca653251be15884e968b3b6cc9dfffc6f0219c1346dd2208e9cc03bf8421b", func := "loop.example/g00832/laws.FnMeets", spec := "fnMeets", inPlace := ["slices.overlaps[loop.example/g00832/impl.Half]"], apart := false, narrowed := true }
def FnMeetsUptoSaid : Prop := fnMeetsUptoRow.holds Try.pinned (OpenSpec.upto fnMeetsSpec)

/-- 'laws.FnMirrored', WHERE WHAT IT READS IS OF BULK AT MOST 1048576: true; the input reads as it did. -/
def fnMirroredUptoRow : OpenClaim := { program := "ytabmfaamadbefaa", sum := "8f6ca653251be15884e968b3b6cc9dfffc6f0219c1346dd2208e9cc03bf8421b", func := "loop.example/g00832/laws.FnMirrored", spec := "fnMirrored", inPlace := ["slices.overlaps[loop.example/g00832/impl.Half]"], unfollowed := true, recurses := true, apart := false, narrowed := true }
def FnMirroredUptoSaid : Prop := fnMirroredUptoRow.holds Try.pinned (OpenSpec.upto fnMirroredSpec)

/-- 'laws.FnCorners', WHERE WHAT IT READS IS OF BULK AT MOST 1048576: true; the input reads as it did. -/
def fnCornersUptoRow : OpenClaim := { program := "ytabmfaamadbefaa", sum := "8f6ca653251be15884e968b3b6cc9dfffc6f0219c1346dd2208e9cc03bf8421b", func := "loop.example/g00832/laws.FnCorners", spec := "fnCorners", inPlace := ["slices.overlaps[loop.example/g00832/impl.Half]"], apart := false, narrowed := true }
def FnCornersUptoSaid : Prop := fnCornersUptoRow.holds Try.pinned (OpenSpec.upto fnCornersSpec)

/-- 'laws.FnEroded', WHERE WHAT IT READS IS OF BULK AT MOST 1048576: true; the input reads as it did. -/
def fnErodedUptoRow : OpenClaim := { program := "ytabmfaamadbefaa", sum := "8f6ca653251be15884e968b3b6cc9dfffc6f0219c1346dd2208e9cc03bf8421b", func := "loop.example/g00832/laws.FnEroded", spec := "fnEroded", inPlace := ["slices.overlaps[loop.example/g00832/impl.Half]"], unfollowed := true, recurses := true, apart := false, narrowed := true }
def FnErodedUptoSaid : Prop := fnErodedUptoRow.holds Try.pinned (OpenSpec.upto fnErodedSpec)

/-- 'laws.FnGrown', WHERE WHAT IT READS IS OF BULK AT MOST 1048576: true; the input reads as it did. -/
def fnGrownUptoRow : OpenClaim := { program := "ytabmfaamadbefaa", sum := "8f6ca653251be15884e968b3b6cc9dfffc6f0219c1346dd2208e9cc03bf8421b", func := "loop.example/g00832/laws.FnGrown", spec := "fnGrown", inPlace := ["slices.overlaps[loop.example/g00832/impl.Half]"], unfollowed := true, recurses := true, apart := false, narrowed := true }
def FnGrownUptoSaid : Prop := fnGrownUptoRow.holds Try.pinned (OpenSpec.upto fnGrownSpec)

end Rows
end Go.Proofs.Ytabmfaamadbefaa
