/-
  No cell of these rows narrows 'for every input' (looked for: loops, veiled, ifaces, maps, wideKeys, modest, calm, conditions, laid).
  DERIVED. THE GIVEN ROWS OF THIS SEAT. 11 by the template 'for every input the law returns true; each argument reads behind the call as it read before'; 0 by the template 'total and deterministic' (their statements: YtgdleimdenbnlaaGreatTotals.lean).
  GIVEN WITH THE SEED: the statements are not yours to turn. If you find one false, say at which input.
  Laid BY PROGRAM, IN A SANDBOX (cutbox-rows.mjs): the forced cells as the released guide's own fill.sh prints them over the translation bb5fc98d0a605590… (all of the seat's roots in one cut). By AI agents, Wed Nov 11 2026. No macro, syntax, notation, axiom, sorry.
-/
import Derived.Test.YtgdleimdenbnlaaGreatChecked
import GoSem.Claim
import GoSem.ClaimJoined
import GoSem.ClaimMapViews
import Derived.JoinedTies
import Derived.KernelRfl
namespace Go.Proofs.YtgdleimdenbnlaaGreat
/- THE CELL 'sum', in the pinned program and in every row, IS THE sha256 OF THE DUMP (.gsa) THAT YtgdleimdenbnlaaGreatProg.lean LOADS. Nothing in Lean hashes anything: it is a label: what it is worth is what the hold of that sum in a sandbox is worth. -/
noncomputable def Tryz.pinned : Pinned := { name := "ytgdleimdenbnlaagreat", sum := "bb5fc98d0a60559045b9a607890620a5d3a8bdc5ab15aaf8fa23d982956f7917", checked := Tryz.checked }
namespace Rows
def none {H : Type} : Left H := { results := [], args := [] }

/-- 'laws.FnExactIsHeld': WHATEVER THE INPUT: true; the input reads as it did. -/
def fnExactIsHeldSpec : ChangeSpec := { name := "fnExactIsHeld", fn := fun _ => fun
  | [d1, d2, d3, d4] => { results := [.lit (.bool true)], args := [d1, d2, d3, d4] }
  | _ => none }
def fnExactIsHeldRow : OpenClaim := { program := "ytgdleimdenbnlaagreat", sum := "bb5fc98d0a60559045b9a607890620a5d3a8bdc5ab15aaf8fa23d982956f7917", func := "loop.example/g00832/laws.FnExactIsHeld", spec := "fnExactIsHeld", inPlace := ["slices.overlaps[loop.example/g00832/impl.Half]"], apart := false }
def FnExactIsHeldSaid : Prop := fnExactIsHeldRow.holds Tryz.pinned (OpenSpec.ofChange fnExactIsHeldSpec)

/-- ITS FALSE NEIGHBOUR: 'it returns false'. Refute it at one input. -/
def fnExactIsHeldWrong : ChangeSpec := { name := "fnExactIsHeld", fn := fun _ => fun
  | [d1, d2, d3, d4] => { results := [.lit (.bool false)], args := [d1, d2, d3, d4] }
  | _ => none }
def FnExactIsHeldWrongFalsely : Prop := fnExactIsHeldRow.holds Tryz.pinned (OpenSpec.ofChange fnExactIsHeldWrong)

/-- 'laws.FnExactRobustPart': WHATEVER THE INPUT: true; the input reads as it did. -/
def fnExactRobustPartSpec : ChangeSpec := { name := "fnExactRobustPart", fn := fun _ => fun
  | [d1, d2] => { results := [.lit (.bool true)], args := [d1, d2] }
  | _ => none }
def fnExactRobustPartRow : OpenClaim := { program := "ytgdleimdenbnlaagreat", sum := "bb5fc98d0a60559045b9a607890620a5d3a8bdc5ab15aaf8fa23d982956f7917", func := "loop.example/g00832/laws.FnExactRobustPart", spec := "fnExactRobustPart", inPlace := ["slices.overlaps[loop.example/g00832/impl.Half]"], unfollowed := true, recurses := true, apart := false }
def FnExactRobustPartSaid : Prop := fnExactRobustPartRow.holds Tryz.pinned (OpenSpec.ofChange fnExactRobustPartSpec)

/-- ITS FALSE NEIGHBOUR: 'it returns false'. Refute it at one input. -/
def fnExactRobustPartWrong : ChangeSpec := { name := "fnExactRobustPart", fn := fun _ => fun
  | [d1, d2] => { results := [.lit (.bool false)], args := [d1, d2] }
  | _ => none }
def FnExactRobustPartWrongFalsely : Prop := fnExactRobustPartRow.holds Tryz.pinned (OpenSpec.ofChange fnExactRobustPartWrong)

/-- 'laws.FnExactAdmitAt': WHATEVER THE INPUT: true; the input reads as it did. -/
def fnExactAdmitAtSpec : ChangeSpec := { name := "fnExactAdmitAt", fn := fun _ => fun
  | [d1, d2, d3] => { results := [.lit (.bool true)], args := [d1, d2, d3] }
  | _ => none }
def fnExactAdmitAtRow : OpenClaim := { program := "ytgdleimdenbnlaagreat", sum := "bb5fc98d0a60559045b9a607890620a5d3a8bdc5ab15aaf8fa23d982956f7917", func := "loop.example/g00832/laws.FnExactAdmitAt", spec := "fnExactAdmitAt", inPlace := ["slices.overlaps[loop.example/g00832/impl.Half]"], unfollowed := true, recurses := true, apart := false }
def FnExactAdmitAtSaid : Prop := fnExactAdmitAtRow.holds Tryz.pinned (OpenSpec.ofChange fnExactAdmitAtSpec)

/-- ITS FALSE NEIGHBOUR: 'it returns false'. Refute it at one input. -/
def fnExactAdmitAtWrong : ChangeSpec := { name := "fnExactAdmitAt", fn := fun _ => fun
  | [d1, d2, d3] => { results := [.lit (.bool false)], args := [d1, d2, d3] }
  | _ => none }
def FnExactAdmitAtWrongFalsely : Prop := fnExactAdmitAtRow.holds Tryz.pinned (OpenSpec.ofChange fnExactAdmitAtWrong)

/-- 'laws.FnExactPreRegion': WHATEVER THE INPUT: true; the input reads as it did. -/
def fnExactPreRegionSpec : ChangeSpec := { name := "fnExactPreRegion", fn := fun _ => fun
  | [d1, d2] => { results := [.lit (.bool true)], args := [d1, d2] }
  | _ => none }
def fnExactPreRegionRow : OpenClaim := { program := "ytgdleimdenbnlaagreat", sum := "bb5fc98d0a60559045b9a607890620a5d3a8bdc5ab15aaf8fa23d982956f7917", func := "loop.example/g00832/laws.FnExactPreRegion", spec := "fnExactPreRegion", inPlace := ["slices.overlaps[loop.example/g00832/impl.Half]"], unfollowed := true, recurses := true, apart := false }
def FnExactPreRegionSaid : Prop := fnExactPreRegionRow.holds Tryz.pinned (OpenSpec.ofChange fnExactPreRegionSpec)

/-- ITS FALSE NEIGHBOUR: 'it returns false'. Refute it at one input. -/
def fnExactPreRegionWrong : ChangeSpec := { name := "fnExactPreRegion", fn := fun _ => fun
  | [d1, d2] => { results := [.lit (.bool false)], args := [d1, d2] }
  | _ => none }
def FnExactPreRegionWrongFalsely : Prop := fnExactPreRegionRow.holds Tryz.pinned (OpenSpec.ofChange fnExactPreRegionWrong)

/-- 'laws.FnExactIsKept': WHATEVER THE INPUT: true; the input reads as it did. -/
def fnExactIsKeptSpec : ChangeSpec := { name := "fnExactIsKept", fn := fun _ => fun
  | [d1, d2] => { results := [.lit (.bool true)], args := [d1, d2] }
  | _ => none }
def fnExactIsKeptRow : OpenClaim := { program := "ytgdleimdenbnlaagreat", sum := "bb5fc98d0a60559045b9a607890620a5d3a8bdc5ab15aaf8fa23d982956f7917", func := "loop.example/g00832/laws.FnExactIsKept", spec := "fnExactIsKept", inPlace := ["slices.overlaps[loop.example/g00832/impl.Half]"], unfollowed := true, recurses := true, apart := false }
def FnExactIsKeptSaid : Prop := fnExactIsKeptRow.holds Tryz.pinned (OpenSpec.ofChange fnExactIsKeptSpec)

/-- ITS FALSE NEIGHBOUR: 'it returns false'. Refute it at one input. -/
def fnExactIsKeptWrong : ChangeSpec := { name := "fnExactIsKept", fn := fun _ => fun
  | [d1, d2] => { results := [.lit (.bool false)], args := [d1, d2] }
  | _ => none }
def FnExactIsKeptWrongFalsely : Prop := fnExactIsKeptRow.holds Tryz.pinned (OpenSpec.ofChange fnExactIsKeptWrong)

/-- 'laws.FnExactRoundsOf': WHATEVER THE INPUT: true; the input reads as it did. -/
def fnExactRoundsOfSpec : ChangeSpec := { name := "fnExactRoundsOf", fn := fun _ => fun
  | [d] => { results := [.lit (.bool true)], args := [d] }
  | _ => none }
def fnExactRoundsOfRow : OpenClaim := { program := "ytgdleimdenbnlaagreat", sum := "bb5fc98d0a60559045b9a607890620a5d3a8bdc5ab15aaf8fa23d982956f7917", func := "loop.example/g00832/laws.FnExactRoundsOf", spec := "fnExactRoundsOf", inPlace := ["slices.overlaps[loop.example/g00832/impl.Half]"], unfollowed := true, recurses := true, apart := false }
def FnExactRoundsOfSaid : Prop := fnExactRoundsOfRow.holds Tryz.pinned (OpenSpec.ofChange fnExactRoundsOfSpec)

/-- ITS FALSE NEIGHBOUR: 'it returns false'. Refute it at one input. -/
def fnExactRoundsOfWrong : ChangeSpec := { name := "fnExactRoundsOf", fn := fun _ => fun
  | [d] => { results := [.lit (.bool false)], args := [d] }
  | _ => none }
def FnExactRoundsOfWrongFalsely : Prop := fnExactRoundsOfRow.holds Tryz.pinned (OpenSpec.ofChange fnExactRoundsOfWrong)

/-- 'laws.FnExactKeepRegion': WHATEVER THE INPUT: true; the input reads as it did. -/
def fnExactKeepRegionSpec : ChangeSpec := { name := "fnExactKeepRegion", fn := fun _ => fun
  | [d1, d2] => { results := [.lit (.bool true)], args := [d1, d2] }
  | _ => none }
def fnExactKeepRegionRow : OpenClaim := { program := "ytgdleimdenbnlaagreat", sum := "bb5fc98d0a60559045b9a607890620a5d3a8bdc5ab15aaf8fa23d982956f7917", func := "loop.example/g00832/laws.FnExactKeepRegion", spec := "fnExactKeepRegion", inPlace := ["slices.overlaps[loop.example/g00832/impl.Half]"], unfollowed := true, recurses := true, apart := false }
def FnExactKeepRegionSaid : Prop := fnExactKeepRegionRow.holds Tryz.pinned (OpenSpec.ofChange fnExactKeepRegionSpec)

/-- ITS FALSE NEIGHBOUR: 'it returns false'. Refute it at one input. -/
def fnExactKeepRegionWrong : ChangeSpec := { name := "fnExactKeepRegion", fn := fun _ => fun
  | [d1, d2] => { results := [.lit (.bool false)], args := [d1, d2] }
  | _ => none }
def FnExactKeepRegionWrongFalsely : Prop := fnExactKeepRegionRow.holds Tryz.pinned (OpenSpec.ofChange fnExactKeepRegionWrong)

/-- 'laws.FnExactKeptRegion': WHATEVER THE INPUT: true; the input reads as it did. -/
def fnExactKeptRegionSpec : ChangeSpec := { name := "fnExactKeptRegion", fn := fun _ => fun
  | [d] => { results := [.lit (.bool true)], args := [d] }
  | _ => none }
def fnExactKeptRegionRow : OpenClaim := { program := "ytgdleimdenbnlaagreat", sum := "bb5fc98d0a60559045b9a607890620a5d3a8bdc5ab15aaf8fa23d982956f7917", func := "loop.example/g00832/laws.FnExactKeptRegion", spec := "fnExactKeptRegion", inPlace := ["slices.overlaps[loop.example/g00832/impl.Half]"], unfollowed := true, recurses := true, apart := false }
def FnExactKeptRegionSaid : Prop := fnExactKeptRegionRow.holds Tryz.pinned (OpenSpec.ofChange fnExactKeptRegionSpec)

/-- ITS FALSE NEIGHBOUR: 'it returns false'. Refute it at one input. -/
def fnExactKeptRegionWrong : ChangeSpec := { name := "fnExactKeptRegion", fn := fun _ => fun
  | [d] => { results := [.lit (.bool false)], args := [d] }
  | _ => none }
def FnExactKeptRegionWrongFalsely : Prop := fnExactKeptRegionRow.holds Tryz.pinned (OpenSpec.ofChange fnExactKeptRegionWrong)

/-- 'laws.FnExactCanBeKept': WHATEVER THE INPUT: true; the input reads as it did. -/
def fnExactCanBeKeptSpec : ChangeSpec := { name := "fnExactCanBeKept", fn := fun _ => fun
  | [d1, d2] => { results := [.lit (.bool true)], args := [d1, d2] }
  | _ => none }
def fnExactCanBeKeptRow : OpenClaim := { program := "ytgdleimdenbnlaagreat", sum := "bb5fc98d0a60559045b9a607890620a5d3a8bdc5ab15aaf8fa23d982956f7917", func := "loop.example/g00832/laws.FnExactCanBeKept", spec := "fnExactCanBeKept", inPlace := ["slices.overlaps[loop.example/g00832/impl.Half]"], unfollowed := true, recurses := true, apart := false }
def FnExactCanBeKeptSaid : Prop := fnExactCanBeKeptRow.holds Tryz.pinned (OpenSpec.ofChange fnExactCanBeKeptSpec)

/-- ITS FALSE NEIGHBOUR: 'it returns false'. Refute it at one input. -/
def fnExactCanBeKeptWrong : ChangeSpec := { name := "fnExactCanBeKept", fn := fun _ => fun
  | [d1, d2] => { results := [.lit (.bool false)], args := [d1, d2] }
  | _ => none }
def FnExactCanBeKeptWrongFalsely : Prop := fnExactCanBeKeptRow.holds Tryz.pinned (OpenSpec.ofChange fnExactCanBeKeptWrong)

/-- 'laws.FnExactRunRounds': WHATEVER THE INPUT: true; the input reads as it did. -/
def fnExactRunRoundsSpec : ChangeSpec := { name := "fnExactRunRounds", fn := fun _ => fun
  | [d1, d2] => { results := [.lit (.bool true)], args := [d1, d2] }
  | _ => none }
def fnExactRunRoundsRow : OpenClaim := { program := "ytgdleimdenbnlaagreat", sum := "bb5fc98d0a60559045b9a607890620a5d3a8bdc5ab15aaf8fa23d982956f7917", func := "loop.example/g00832/laws.FnExactRunRounds", spec := "fnExactRunRounds", inPlace := ["slices.overlaps[loop.example/g00832/impl.Half]"], unfollowed := true, recurses := true, apart := false }
def FnExactRunRoundsSaid : Prop := fnExactRunRoundsRow.holds Tryz.pinned (OpenSpec.ofChange fnExactRunRoundsSpec)

/-- ITS FALSE NEIGHBOUR: 'it returns false'. Refute it at one input. -/
def fnExactRunRoundsWrong : ChangeSpec := { name := "fnExactRunRounds", fn := fun _ => fun
  | [d1, d2] => { results := [.lit (.bool false)], args := [d1, d2] }
  | _ => none }
def FnExactRunRoundsWrongFalsely : Prop := fnExactRunRoundsRow.holds Tryz.pinned (OpenSpec.ofChange fnExactRunRoundsWrong)

/-- 'laws.FnExactLossOf': WHATEVER THE INPUT: true; the input reads as it did. -/
def fnExactLossOfSpec : ChangeSpec := { name := "fnExactLossOf", fn := fun _ => fun
  | [d1, d2] => { results := [.lit (.bool true)], args := [d1, d2] }
  | _ => none }
def fnExactLossOfRow : OpenClaim := { program := "ytgdleimdenbnlaagreat", sum := "bb5fc98d0a60559045b9a607890620a5d3a8bdc5ab15aaf8fa23d982956f7917", func := "loop.example/g00832/laws.FnExactLossOf", spec := "fnExactLossOf", inPlace := ["slices.overlaps[loop.example/g00832/impl.Half]"], unfollowed := true, recurses := true, apart := false }
def FnExactLossOfSaid : Prop := fnExactLossOfRow.holds Tryz.pinned (OpenSpec.ofChange fnExactLossOfSpec)

/-- ITS FALSE NEIGHBOUR: 'it returns false'. Refute it at one input. -/
def fnExactLossOfWrong : ChangeSpec := { name := "fnExactLossOf", fn := fun _ => fun
  | [d1, d2] => { results := [.lit (.bool false)], args := [d1, d2] }
  | _ => none }
def FnExactLossOfWrongFalsely : Prop := fnExactLossOfRow.holds Tryz.pinned (OpenSpec.ofChange fnExactLossOfWrong)

/- THE SECOND FORM. 'bulk': how many values and letters a reading holds, each counted each time it is reached (what is shared counts as often as it is met; a slice's spare places count too). A statement '..UptoSaid' is the law's where the arguments, and the package variables that the reading takes, are together of bulk at most 1048576: NARROWER than '..Said'. Prove '..Said' where nothing that the law and all that it calls make is longer than what came in: it says more and counts as full. Else prove '..UptoSaid'. A law counts once. -/
mutual
def uptoBulk {H : Type} : DataW H → Nat
  | .lit (.string bytes) => bytes.length + 1
  | .lit _ => 1
  | .nil => 1
  | .ptr d => uptoBulk d + 1
  | .slice elems spare => uptoBulkAll elems + uptoBulkAll spare + 1
  | .agg parts => uptoBulkAll parts + 1
  | .iface _ d => uptoBulk d + 1
  | .map entries => uptoBulkEntries entries + 1
  | .held _ => 1
def uptoBulkAll {H : Type} : List (DataW H) → Nat
  | [] => 0
  | d :: r => uptoBulk d + uptoBulkAll r
def uptoBulkEntries {H : Type} : List (Lit × DataW H) → Nat
  | [] => 0
  | x :: r => uptoBulkEntry x + uptoBulkEntries r
def uptoBulkEntry {H : Type} : Lit × DataW H → Nat
  | (.string bytes, d) => bytes.length + uptoBulk d + 1
  | (_, d) => uptoBulk d + 1
 end
def uptoSmall : (H : Type) → List (DataW H) → Bool := fun _ ds => decide (uptoBulkAll ds ≤ 1048576)
def OpenSpec.upto (s : _root_.Go.ChangeSpec) : _root_.Go.OpenSpec := { _root_.Go.OpenSpec.ofChange s with cond := some uptoSmall }

/-- 'laws.FnExactIsHeld', WHERE WHAT IT READS IS OF BULK AT MOST 1048576: true; the input reads as it did. -/
def fnExactIsHeldUptoRow : OpenClaim := { program := "ytgdleimdenbnlaagreat", sum := "bb5fc98d0a60559045b9a607890620a5d3a8bdc5ab15aaf8fa23d982956f7917", func := "loop.example/g00832/laws.FnExactIsHeld", spec := "fnExactIsHeld", inPlace := ["slices.overlaps[loop.example/g00832/impl.Half]"], apart := false, narrowed := true }
def FnExactIsHeldUptoSaid : Prop := fnExactIsHeldUptoRow.holds Tryz.pinned (OpenSpec.upto fnExactIsHeldSpec)

/-- 'laws.FnExactRobustPart', WHERE WHAT IT READS IS OF BULK AT MOST 1048576: true; the input reads as it did. -/
def fnExactRobustPartUptoRow : OpenClaim := { program := "ytgdleimdenbnlaagreat", sum := "bb5fc98d0a60559045b9a607890620a5d3a8bdc5ab15aaf8fa23d982956f7917", func := "loop.example/g00832/laws.FnExactRobustPart", spec := "fnExactRobustPart", inPlace := ["slices.overlaps[loop.example/g00832/impl.Half]"], unfollowed := true, recurses := true, apart := false, narrowed := true }
def FnExactRobustPartUptoSaid : Prop := fnExactRobustPartUptoRow.holds Tryz.pinned (OpenSpec.upto fnExactRobustPartSpec)

/-- 'laws.FnExactAdmitAt', WHERE WHAT IT READS IS OF BULK AT MOST 1048576: true; the input reads as it did. -/
def fnExactAdmitAtUptoRow : OpenClaim := { program := "ytgdleimdenbnlaagreat", sum := "bb5fc98d0a60559045b9a607890620a5d3a8bdc5ab15aaf8fa23d982956f7917", func := "loop.example/g00832/laws.FnExactAdmitAt", spec := "fnExactAdmitAt", inPlace := ["slices.overlaps[loop.example/g00832/impl.Half]"], unfollowed := true, recurses := true, apart := false, narrowed := true }
def FnExactAdmitAtUptoSaid : Prop := fnExactAdmitAtUptoRow.holds Tryz.pinned (OpenSpec.upto fnExactAdmitAtSpec)

/-- 'laws.FnExactPreRegion', WHERE WHAT IT READS IS OF BULK AT MOST 1048576: true; the input reads as it did. -/
def fnExactPreRegionUptoRow : OpenClaim := { program := "ytgdleimdenbnlaagreat", sum := "bb5fc98d0a60559045b9a607890620a5d3a8bdc5ab15aaf8fa23d982956f7917", func := "loop.example/g00832/laws.FnExactPreRegion", spec := "fnExactPreRegion", inPlace := ["slices.overlaps[loop.example/g00832/impl.Half]"], unfollowed := true, recurses := true, apart := false, narrowed := true }
def FnExactPreRegionUptoSaid : Prop := fnExactPreRegionUptoRow.holds Tryz.pinned (OpenSpec.upto fnExactPreRegionSpec)

/-- 'laws.FnExactIsKept', WHERE WHAT IT READS IS OF BULK AT MOST 1048576: true; the input reads as it did. -/
def fnExactIsKeptUptoRow : OpenClaim := { program := "ytgdleimdenbnlaagreat", sum := "bb5fc98d0a60559045b9a607890620a5d3a8bdc5ab15aaf8fa23d982956f7917", func := "loop.example/g00832/laws.FnExactIsKept", spec := "fnExactIsKept", inPlace := ["slices.overlaps[loop.example/g00832/impl.Half]"], unfollowed := true, recurses := true, apart := false, narrowed := true }
def FnExactIsKeptUptoSaid : Prop := fnExactIsKeptUptoRow.holds Tryz.pinned (OpenSpec.upto fnExactIsKeptSpec)

/-- 'laws.FnExactRoundsOf', WHERE WHAT IT READS IS OF BULK AT MOST 1048576: true; the input reads as it did. -/
def fnExactRoundsOfUptoRow : OpenClaim := { program := "ytgdleimdenbnlaagreat", sum := "bb5fc98d0a60559045b9a607890620a5d3a8bdc5ab15aaf8fa23d982956f7917", func := "loop.example/g00832/laws.FnExactRoundsOf", spec := "fnExactRoundsOf", inPlace := ["slices.overlaps[loop.example/g00832/impl.Half]"], unfollowed := true, recurses := true, apart := false, narrowed := true }
def FnExactRoundsOfUptoSaid : Prop := fnExactRoundsOfUptoRow.holds Tryz.pinned (OpenSpec.upto fnExactRoundsOfSpec)

/-- 'laws.FnExactKeepRegion', WHERE WHAT IT READS IS OF BULK AT MOST 1048576: true; the input reads as it did. -/
def fnExactKeepRegionUptoRow : OpenClaim := { program := "ytgdleimdenbnlaagreat", sum := "bb5fc98d0a60559045b9a607890620a5d3a8bdc5ab15aaf8fa23d982956f7917", func := "loop.example/g00832/laws.FnExactKeepRegion", spec := "fnExactKeepRegion", inPlace := ["slices.overlaps[loop.example/g00832/impl.Half]"], unfollowed := true, recurses := true, apart := false, narrowed := true }
def FnExactKeepRegionUptoSaid : Prop := fnExactKeepRegionUptoRow.holds Tryz.pinned (OpenSpec.upto fnExactKeepRegionSpec)

/-- 'laws.FnExactKeptRegion', WHERE WHAT IT READS IS OF BULK AT MOST 1048576: true; the input reads as it did. -/
def fnExactKeptRegionUptoRow : OpenClaim := { program := "ytgdleimdenbnlaagreat", sum := "bb5fc98d0a60559045b9a607890620a5d3a8bdc5ab15aaf8fa23d982956f7917", func := "loop.example/g00832/laws.FnExactKeptRegion", spec := "fnExactKeptRegion", inPlace := ["slices.overlaps[loop.example/g00832/impl.Half]"], unfollowed := true, recurses := true, apart := false, narrowed := true }
def FnExactKeptRegionUptoSaid : Prop := fnExactKeptRegionUptoRow.holds Tryz.pinned (OpenSpec.upto fnExactKeptRegionSpec)

/-- 'laws.FnExactCanBeKept', WHERE WHAT IT READS IS OF BULK AT MOST 1048576: true; the input reads as it did. -/
def fnExactCanBeKeptUptoRow : OpenClaim := { program := "ytgdleimdenbnlaagreat", sum := "bb5fc98d0a60559045b9a607890620a5d3a8bdc5ab15aaf8fa23d982956f7917", func := "loop.example/g00832/laws.FnExactCanBeKept", spec := "fnExactCanBeKept", inPlace := ["slices.overlaps[loop.example/g00832/impl.Half]"], unfollowed := true, recurses := true, apart := false, narrowed := true }
def FnExactCanBeKeptUptoSaid : Prop := fnExactCanBeKeptUptoRow.holds Tryz.pinned (OpenSpec.upto fnExactCanBeKeptSpec)

/-- 'laws.FnExactRunRounds', WHERE WHAT IT READS IS OF BULK AT MOST 1048576: true; the input reads as it did. -/
def fnExactRunRoundsUptoRow : OpenClaim := { program := "ytgdleimdenbnlaagreat", sum := "bb5fc98d0a60559045b9a607890620a5d3a8bdc5ab15aaf8fa23d982956f7917", func := "loop.example/g00832/laws.FnExactRunRounds", spec := "fnExactRunRounds", inPlace := ["slices.overlaps[loop.example/g00832/impl.Half]"], unfollowed := true, recurses := true, apart := false, narrowed := true }
def FnExactRunRoundsUptoSaid : Prop := fnExactRunRoundsUptoRow.holds Tryz.pinned (OpenSpec.upto fnExactRunRoundsSpec)

/-- 'laws.FnExactLossOf', WHERE WHAT IT READS IS OF BULK AT MOST 1048576: true; the input reads as it did. -/
def fnExactLossOfUptoRow : OpenClaim := { program := "ytgdleimdenbnlaagreat", sum := "bb5fc98d0a60559045b9a607890620a5d3a8bdc5ab15aaf8fa23d982956f7917", func := "loop.example/g00832/laws.FnExactLossOf", spec := "fnExactLossOf", inPlace := ["slices.overlaps[loop.example/g00832/impl.Half]"], unfollowed := true, recurses := true, apart := false, narrowed := true }
def FnExactLossOfUptoSaid : Prop := fnExactLossOfUptoRow.holds Tryz.pinned (OpenSpec.upto fnExactLossOfSpec)

end Rows
end Go.Proofs.YtgdleimdenbnlaaGreat
