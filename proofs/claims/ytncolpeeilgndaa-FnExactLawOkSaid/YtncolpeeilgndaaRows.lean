/-
  No cell of these rows narrows 'for every input' (looked for: loops, veiled, ifaces, maps, wideKeys, modest, calm, conditions, laid).
  DERIVED. THE GIVEN ROWS OF THIS SEAT. 6 by the template 'for every input the law returns true; each argument reads behind the call as it read before'; 0 by the template 'total and deterministic' (their statements: YtncolpeeilgndaaTotals.lean).
  GIVEN WITH THE SEED: the statements are not yours to turn. If you find one false, say at which input.
  Laid BY PROGRAM, IN A SANDBOX (cutbox-rows.mjs): the forced cells as the released guide's own fill.sh prints them over the translation 291205697b825f00… (all of the seat's roots in one cut). By AI agents, Wed Nov 11 2026. No macro, syntax, notation, axiom, sorry.
-/
import Derived.Test.YtncolpeeilgndaaChecked
import GoSem.Claim
import GoSem.ClaimJoined
import GoSem.ClaimMapViews
import Derived.JoinedTies
import Derived.KernelRfl
namespace Go.Proofs.Ytncolpeeilgndaa
/- THE CELL 'sum', in the pinned program and in every row, IS THE sha256 OF THE DUMP (.gsa) THAT YtncolpeeilgndaaProg.lean LOADS. Nothing in Lean hashes anything: it is a label: what it is worth is what the hold of that sum in a sandbox is worth. -/
noncomputable def Try.pinned : Pinned := { name := "ytncolpeeilgndaa", sum := "291205697b825f005bbddc550fe60313091e73b91b75156019e28d445e81805d", checked := Try.checked }
namespace Rows
def none {H : Type} : Left H := { results := [], args := [] }

/-- 'laws.FnExactPieceOk': WHATEVER THE INPUT: true; the input reads as it did. -/
def fnExactPieceOkSpec : ChangeSpec := { name := "fnExactPieceOk", fn := fun _ => fun
  | [d] => { results := [.lit (.bool true)], args := [d] }
  | _ => none }
def fnExactPieceOkRow : OpenClaim := { program := "ytncolpeeilgndaa", sum := "291205697b825f005bbddc550fe60313091e73b91b75156019e28d445e81805d", func := "loop.example/g00832/laws.FnExactPieceOk", spec := "fnExactPieceOk", apart := false }
def FnExactPieceOkSaid : Prop := fnExactPieceOkRow.holds Try.pinned (OpenSpec.ofChange fnExactPieceOkSpec)

/-- ITS FALSE NEIGHBOUR: 'it returns false'. Refute it at one input. -/
def fnExactPieceOkWrong : ChangeSpec := { name := "fnExactPieceOk", fn := fun _ => fun
  | [d] => { results := [.lit (.bool false)], args := [d] }
  | _ => none }
def FnExactPieceOkWrongFalsely : Prop := fnExactPieceOkRow.holds Try.pinned (OpenSpec.ofChange fnExactPieceOkWrong)

/-- 'laws.FnExactLawOk': WHATEVER THE INPUT: true; the input reads as it did. -/
def fnExactLawOkSpec : ChangeSpec := { name := "fnExactLawOk", fn := fun _ => fun
  | [d] => { results := [.lit (.bool true)], args := [d] }
  | _ => none }
def fnExactLawOkRow : OpenClaim := { program := "ytncolpeeilgndaa", sum := "291205697b825f005bbddc550fe60313091e73b91b75156019e28d445e81805d", func := "loop.example/g00832/laws.FnExactLawOk", spec := "fnExactLawOk", apart := false }
def FnExactLawOkSaid : Prop := fnExactLawOkRow.holds Try.pinned (OpenSpec.ofChange fnExactLawOkSpec)

/-- ITS FALSE NEIGHBOUR: 'it returns false'. Refute it at one input. -/
def fnExactLawOkWrong : ChangeSpec := { name := "fnExactLawOk", fn := fun _ => fun
  | [d] => { results := [.lit (.bool false)], args := [d] }
  | _ => none }
def FnExactLawOkWrongFalsely : Prop := fnExactLawOkRow.holds Try.pinned (OpenSpec.ofChange fnExactLawOkWrong)

/-- 'laws.FnExactSpanOk': WHATEVER THE INPUT: true; the input reads as it did. -/
def fnExactSpanOkSpec : ChangeSpec := { name := "fnExactSpanOk", fn := fun _ => fun
  | [d] => { results := [.lit (.bool true)], args := [d] }
  | _ => none }
def fnExactSpanOkRow : OpenClaim := { program := "ytncolpeeilgndaa", sum := "291205697b825f005bbddc550fe60313091e73b91b75156019e28d445e81805d", func := "loop.example/g00832/laws.FnExactSpanOk", spec := "fnExactSpanOk", apart := false }
def FnExactSpanOkSaid : Prop := fnExactSpanOkRow.holds Try.pinned (OpenSpec.ofChange fnExactSpanOkSpec)

/-- ITS FALSE NEIGHBOUR: 'it returns false'. Refute it at one input. -/
def fnExactSpanOkWrong : ChangeSpec := { name := "fnExactSpanOk", fn := fun _ => fun
  | [d] => { results := [.lit (.bool false)], args := [d] }
  | _ => none }
def FnExactSpanOkWrongFalsely : Prop := fnExactSpanOkRow.holds Try.pinned (OpenSpec.ofChange fnExactSpanOkWrong)

/-- 'laws.FnExactMapSpot': WHATEVER THE INPUT: true; the input reads as it did. -/
def fnExactMapSpotSpec : ChangeSpec := { name := "fnExactMapSpot", fn := fun _ => fun
  | [d1, d2, d3] => { results := [.lit (.bool true)], args := [d1, d2, d3] }
  | _ => none }
def fnExactMapSpotRow : OpenClaim := { program := "ytncolpeeilgndaa", sum := "291205697b825f005bbddc550fe60313091e73b91b75156019e28d445e81805d", func := "loop.example/g00832/laws.FnExactMapSpot", spec := "fnExactMapSpot", apart := false }
def FnExactMapSpotSaid : Prop := fnExactMapSpotRow.holds Try.pinned (OpenSpec.ofChange fnExactMapSpotSpec)

/-- ITS FALSE NEIGHBOUR: 'it returns false'. Refute it at one input. -/
def fnExactMapSpotWrong : ChangeSpec := { name := "fnExactMapSpot", fn := fun _ => fun
  | [d1, d2, d3] => { results := [.lit (.bool false)], args := [d1, d2, d3] }
  | _ => none }
def FnExactMapSpotWrongFalsely : Prop := fnExactMapSpotRow.holds Try.pinned (OpenSpec.ofChange fnExactMapSpotWrong)

/-- 'laws.FnExactInSpan': WHATEVER THE INPUT: true; the input reads as it did. -/
def fnExactInSpanSpec : ChangeSpec := { name := "fnExactInSpan", fn := fun _ => fun
  | [d1, d2] => { results := [.lit (.bool true)], args := [d1, d2] }
  | _ => none }
def fnExactInSpanRow : OpenClaim := { program := "ytncolpeeilgndaa", sum := "291205697b825f005bbddc550fe60313091e73b91b75156019e28d445e81805d", func := "loop.example/g00832/laws.FnExactInSpan", spec := "fnExactInSpan", apart := false }
def FnExactInSpanSaid : Prop := fnExactInSpanRow.holds Try.pinned (OpenSpec.ofChange fnExactInSpanSpec)

/-- ITS FALSE NEIGHBOUR: 'it returns false'. Refute it at one input. -/
def fnExactInSpanWrong : ChangeSpec := { name := "fnExactInSpan", fn := fun _ => fun
  | [d1, d2] => { results := [.lit (.bool false)], args := [d1, d2] }
  | _ => none }
def FnExactInSpanWrongFalsely : Prop := fnExactInSpanRow.holds Try.pinned (OpenSpec.ofChange fnExactInSpanWrong)

/-- 'laws.FnExactSameRooms': WHATEVER THE INPUT: true; the input reads as it did. -/
def fnExactSameRoomsSpec : ChangeSpec := { name := "fnExactSameRooms", fn := fun _ => fun
  | [d1, d2] => { results := [.lit (.bool true)], args := [d1, d2] }
  | _ => none }
def fnExactSameRoomsRow : OpenClaim := { program := "ytncolpeeilgndaa", sum := "291205697b825f005bbddc550fe60313091e73b91b75156019e28d445e81805d", func := "loop.example/g00832/laws.FnExactSameRooms", spec := "fnExactSameRooms", apart := false }
def FnExactSameRoomsSaid : Prop := fnExactSameRoomsRow.holds Try.pinned (OpenSpec.ofChange fnExactSameRoomsSpec)

/-- ITS FALSE NEIGHBOUR: 'it returns false'. Refute it at one input. -/
def fnExactSameRoomsWrong : ChangeSpec := { name := "fnExactSameRooms", fn := fun _ => fun
  | [d1, d2] => { results := [.lit (.bool false)], args := [d1, d2] }
  | _ => none }
def FnExactSameRoomsWrongFalsely : Prop := fnExactSameRoomsRow.holds Try.pinned (OpenSpec.ofChange fnExactSameRoomsWrong)

/- THE SECOND FORM. 'bulk': how many values and letters a reading holds, each counted each time it is reached (what is shared counts as often as it is met; a slice's spare places count too). A statement '..UptoSaid' is the law's where the arguments, and the package variables that the reading takes, are together of bulk at most 1048576: NARROWER than '..Said'. Prove '..Said' where nothing that the law and all that it calls make is longer than what came in: it says more and counts as full. Else prove '..UptoSaid'. A law counts once. -/
mutual
def uptoBulk {H : Type} : DataW H → Nat
  | .lit (.string bytes) => bytes.length + 1
  | .lit _ => 1
  | .nil => 1
  | .ptr d => uptoBulk d + 1
  | .slice elems spare => uptoBulkAll elems + uptoBulkAll spare + 1
  | .agg parts => uptoBulkAll parts + 1
  | .iface _ d => uptoBulk d + 1
  | .map entries => uptoBulkEntries entries + 1
  | .held _ => 1
def uptoBulkAll {H : Type} : List (DataW H) → Nat
  | [] => 0
  | d :: r => uptoBulk d + uptoBulkAll r
def uptoBulkEntries {H : Type} : List (Lit × DataW H) → Nat
  | [] => 0
  | x :: r => uptoBulkEntry x + uptoBulkEntries r
def uptoBulkEntry {H : Type} : Lit × DataW H → Nat
  | (.string bytes, d) => bytes.length + uptoBulk d + 1
  | (_, d) => uptoBulk d + 1
 end
def uptoSmall : (H : Type) → List (DataW H) → Bool := fun _ ds => decide (uptoBulkAll ds ≤ 1048576)
def OpenSpec.upto (s : _root_.Go.ChangeSpec) : _root_.Go.OpenSpec := { _root_.Go.OpenSpec.ofChange s with cond := some uptoSmall }

/-- 'laws.FnExactPieceOk', WHERE WHAT IT READS IS OF BULK AT MOST 1048576: true; the input reads as it did. -/
def fnExactPieceOkUptoRow : OpenClaim := { program := "ytncolpeeilgndaa", sum := "291205697b825f005bbddc550fe60313091e73b91b75156019e28d445e81805d", func := "loop.example/g00832/laws.FnExactPieceOk", spec := "fnExactPieceOk", apart := false, narrowed := true }
def FnExactPieceOkUptoSaid : Prop := fnExactPieceOkUptoRow.holds Try.pinned (OpenSpec.upto fnExactPieceOkSpec)

/-- 'laws.FnExactLawOk', WHERE WHAT IT READS IS OF BULK AT MOST 1048576: true; the input reads as it did. -/
def fnExactLawOkUptoRow : OpenClaim := { program := "ytncolpeeilgndaa", sum := "291205697b825f005bbddc550fe60313091e73b91b75156019e28d445e81805d", func := "loop.example/g00832/laws.FnExactLawOk", spec := "fnExactLawOk", apart := false, narrowed := true }
def FnExactLawOkUptoSaid : Prop := fnExactLawOkUptoRow.holds Try.pinned (OpenSpec.upto fnExactLawOkSpec)

/-- 'laws.FnExactSpanOk', WHERE WHAT IT READS IS OF BULK AT MOST 1048576: true; the input reads as it did. -/
def fnExactSpanOkUptoRow : OpenClaim := { program := "ytncolpeeilgndaa", sum := "291205697b825f005bbddc550fe60313091e73b91b75156019e28d445e81805d", func := "loop.example/g00832/laws.FnExactSpanOk", spec := "fnExactSpanOk", apart := false, narrowed := true }
def FnExactSpanOkUptoSaid : Prop := fnExactSpanOkUptoRow.holds Try.pinned (OpenSpec.upto fnExactSpanOkSpec)

/-- 'laws.FnExactMapSpot', WHERE WHAT IT READS IS OF BULK AT MOST 1048576: true; the input reads as it did. -/
def fnExactMapSpotUptoRow : OpenClaim := { program := "ytncolpeeilgndaa", sum := "291205697b825f005bbddc550fe60313091e73b91b75156019e28d445e81805d", func := "loop.example/g00832/laws.FnExactMapSpot", spec := "fnExactMapSpot", apart := false, narrowed := true }
def FnExactMapSpotUptoSaid : Prop := fnExactMapSpotUptoRow.holds Try.pinned (OpenSpec.upto fnExactMapSpotSpec)

/-- 'laws.FnExactInSpan', WHERE WHAT IT READS IS OF BULK AT MOST 1048576: true; the input reads as it did. -/
def fnExactInSpanUptoRow : OpenClaim := { program := "ytncolpeeilgndaa", sum := "291205697b825f005bbddc550fe60313091e73b91b75156019e28d445e81805d", func := "loop.example/g00832/laws.FnExactInSpan", spec := "fnExactInSpan", apart := false, narrowed := true }
def FnExactInSpanUptoSaid : Prop := fnExactInSpanUptoRow.holds Try.pinned (OpenSpec.upto fnExactInSpanSpec)

/-- 'laws.FnExactSameRooms', WHERE WHAT IT READS IS OF BULK AT MOST 1048576: true; the input reads as it did. -/
def fnExactSameRoomsUptoRow : OpenClaim := { program := "ytncolpeeilgndaa", sum := "291205697b825f005bbddc550fe60313091e73b91b75156019e28d445e81805d", func := "loop.example/g00832/laws.FnExactSameRooms", spec := "fnExactSameRooms", apart := false, narrowed := true }
def FnExactSameRoomsUptoSaid : Prop := fnExactSameRoomsUptoRow.holds Try.pinned (OpenSpec.upto fnExactSameRoomsSpec)

end Rows
end Go.Proofs.Ytncolpeeilgndaa
