/-
  No cell of these rows narrows 'for every input' (looked for: loops, veiled, ifaces, maps, wideKeys, modest, calm, conditions, laid).
  DERIVED. THE GIVEN ROWS OF THIS SEAT. 10 by the template 'for every input the law returns true; each argument reads behind the call as it read before'; 0 by the template 'total and deterministic' (their statements: YtigbmpmhhakklaaTotals.lean).
  GIVEN WITH THE SEED: the statements are not yours to turn. If you find one false, say at which input.
  Laid BY PROGRAM, IN A SANDBOX (cutbox-rows.mjs): the forced cells as the released guide's own fill.sh prints them over the translation 8321a4defb7f68a1… (all of the seat's roots in one cut). By AI agents, Wed Nov 11 2026. No macro, syntax, notation, axiom, sorry.
-/
import Derived.Test.YtigbmpmhhakklaaChecked
import GoSem.Claim
import GoSem.ClaimJoined
import GoSem.ClaimMapViews
import Derived.JoinedTies
import Derived.KernelRfl
namespace Go.Proofs.Ytigbmpmhhakklaa
/- THE CELL 'sum', in the pinned program and in every row, IS THE sha256 OF THE DUMP (.gsa) THAT YtigbmpmhhakklaaProg.lean LOADS. Nothing in Lean hashes anything: it is a label: what it is worth is what the hold of that sum in a sandbox is worth. -/
noncomputable def Try.pinned : Pinned := { name := "ytigbmpmhhakklaa", sum := "8321a4defb7f68a1c970acb0492639b7ef09550af991ff859dad6f39968ef954", checked := Try.checked }
namespace Rows
def none {H : Type} : Left H := { results := [], args := [] }

/-- 'laws.FnExactWaterNext': WHATEVER THE INPUT: true; the input reads as it did. -/
def fnExactWaterNextSpec : ChangeSpec := { name := "fnExactWaterNext", fn := fun _ => fun
  | [d1, d2, d3] => { results := [.lit (.bool true)], args := [d1, d2, d3] }
  | _ => none }
def fnExactWaterNextRow : OpenClaim := { program := "ytigbmpmhhakklaa", sum := "8321a4defb7f68a1c970acb0492639b7ef09550af991ff859dad6f39968ef954", func := "loop.example/reliefmaps/laws.FnExactWaterNext", spec := "fnExactWaterNext", apart := false }
def FnExactWaterNextSaid : Prop := fnExactWaterNextRow.holds Try.pinned (OpenSpec.ofChange fnExactWaterNextSpec)

/-- ITS FALSE NEIGHBOUR: 'it returns false'. Refute it at one input. -/
def fnExactWaterNextWrong : ChangeSpec := { name := "fnExactWaterNext", fn := fun _ => fun
  | [d1, d2, d3] => { results := [.lit (.bool false)], args := [d1, d2, d3] }
  | _ => none }
def FnExactWaterNextWrongFalsely : Prop := fnExactWaterNextRow.holds Try.pinned (OpenSpec.ofChange fnExactWaterNextWrong)

/-- 'laws.FnGridSet': WHATEVER THE INPUT: true; the input reads as it did. -/
def fnGridSetSpec : ChangeSpec := { name := "fnGridSet", fn := fun _ => fun
  | [d] => { results := [.lit (.bool true)], args := [d] }
  | _ => none }
def fnGridSetRow : OpenClaim := { program := "ytigbmpmhhakklaa", sum := "8321a4defb7f68a1c970acb0492639b7ef09550af991ff859dad6f39968ef954", func := "loop.example/reliefmaps/laws.FnGridSet", spec := "fnGridSet", apart := false }
def FnGridSetSaid : Prop := fnGridSetRow.holds Try.pinned (OpenSpec.ofChange fnGridSetSpec)

/-- ITS FALSE NEIGHBOUR: 'it returns false'. Refute it at one input. -/
def fnGridSetWrong : ChangeSpec := { name := "fnGridSet", fn := fun _ => fun
  | [d] => { results := [.lit (.bool false)], args := [d] }
  | _ => none }
def FnGridSetWrongFalsely : Prop := fnGridSetRow.holds Try.pinned (OpenSpec.ofChange fnGridSetWrong)

/-- 'laws.FnExactGridMirror': WHATEVER THE INPUT: true; the input reads as it did. -/
def fnExactGridMirrorSpec : ChangeSpec := { name := "fnExactGridMirror", fn := fun _ => fun
  | [d] => { results := [.lit (.bool true)], args := [d] }
  | _ => none }
def fnExactGridMirrorRow : OpenClaim := { program := "ytigbmpmhhakklaa", sum := "8321a4defb7f68a1c970acb0492639b7ef09550af991ff859dad6f39968ef954", func := "loop.example/reliefmaps/laws.FnExactGridMirror", spec := "fnExactGridMirror", unfollowed := true, recurses := true, apart := false }
def FnExactGridMirrorSaid : Prop := fnExactGridMirrorRow.holds Try.pinned (OpenSpec.ofChange fnExactGridMirrorSpec)

/-- ITS FALSE NEIGHBOUR: 'it returns false'. Refute it at one input. -/
def fnExactGridMirrorWrong : ChangeSpec := { name := "fnExactGridMirror", fn := fun _ => fun
  | [d] => { results := [.lit (.bool false)], args := [d] }
  | _ => none }
def FnExactGridMirrorWrongFalsely : Prop := fnExactGridMirrorRow.holds Try.pinned (OpenSpec.ofChange fnExactGridMirrorWrong)

/-- 'laws.FnExactGridTurn': WHATEVER THE INPUT: true; the input reads as it did. -/
def fnExactGridTurnSpec : ChangeSpec := { name := "fnExactGridTurn", fn := fun _ => fun
  | [d] => { results := [.lit (.bool true)], args := [d] }
  | _ => none }
def fnExactGridTurnRow : OpenClaim := { program := "ytigbmpmhhakklaa", sum := "8321a4defb7f68a1c970acb0492639b7ef09550af991ff859dad6f39968ef954", func := "loop.example/reliefmaps/laws.FnExactGridTurn", spec := "fnExactGridTurn", unfollowed := true, recurses := true, apart := false }
def FnExactGridTurnSaid : Prop := fnExactGridTurnRow.holds Try.pinned (OpenSpec.ofChange fnExactGridTurnSpec)

/-- ITS FALSE NEIGHBOUR: 'it returns false'. Refute it at one input. -/
def fnExactGridTurnWrong : ChangeSpec := { name := "fnExactGridTurn", fn := fun _ => fun
  | [d] => { results := [.lit (.bool false)], args := [d] }
  | _ => none }
def FnExactGridTurnWrongFalsely : Prop := fnExactGridTurnRow.holds Try.pinned (OpenSpec.ofChange fnExactGridTurnWrong)

/-- 'laws.FnExactPeakIs': WHATEVER THE INPUT: true; the input reads as it did. -/
def fnExactPeakIsSpec : ChangeSpec := { name := "fnExactPeakIs", fn := fun _ => fun
  | [d1, d2] => { results := [.lit (.bool true)], args := [d1, d2] }
  | _ => none }
def fnExactPeakIsRow : OpenClaim := { program := "ytigbmpmhhakklaa", sum := "8321a4defb7f68a1c970acb0492639b7ef09550af991ff859dad6f39968ef954", func := "loop.example/reliefmaps/laws.FnExactPeakIs", spec := "fnExactPeakIs", apart := false }
def FnExactPeakIsSaid : Prop := fnExactPeakIsRow.holds Try.pinned (OpenSpec.ofChange fnExactPeakIsSpec)

/-- ITS FALSE NEIGHBOUR: 'it returns false'. Refute it at one input. -/
def fnExactPeakIsWrong : ChangeSpec := { name := "fnExactPeakIs", fn := fun _ => fun
  | [d1, d2] => { results := [.lit (.bool false)], args := [d1, d2] }
  | _ => none }
def FnExactPeakIsWrongFalsely : Prop := fnExactPeakIsRow.holds Try.pinned (OpenSpec.ofChange fnExactPeakIsWrong)

/-- 'laws.FnExactLevelSides': WHATEVER THE INPUT: true; the input reads as it did. -/
def fnExactLevelSidesSpec : ChangeSpec := { name := "fnExactLevelSides", fn := fun _ => fun
  | [d1, d2] => { results := [.lit (.bool true)], args := [d1, d2] }
  | _ => none }
def fnExactLevelSidesRow : OpenClaim := { program := "ytigbmpmhhakklaa", sum := "8321a4defb7f68a1c970acb0492639b7ef09550af991ff859dad6f39968ef954", func := "loop.example/reliefmaps/laws.FnExactLevelSides", spec := "fnExactLevelSides", apart := false }
def FnExactLevelSidesSaid : Prop := fnExactLevelSidesRow.holds Try.pinned (OpenSpec.ofChange fnExactLevelSidesSpec)

/-- ITS FALSE NEIGHBOUR: 'it returns false'. Refute it at one input. -/
def fnExactLevelSidesWrong : ChangeSpec := { name := "fnExactLevelSides", fn := fun _ => fun
  | [d1, d2] => { results := [.lit (.bool false)], args := [d1, d2] }
  | _ => none }
def FnExactLevelSidesWrongFalsely : Prop := fnExactLevelSidesRow.holds Try.pinned (OpenSpec.ofChange fnExactLevelSidesWrong)

/-- 'laws.FnExactGridPart': WHATEVER THE INPUT: true; the input reads as it did. -/
def fnExactGridPartSpec : ChangeSpec := { name := "fnExactGridPart", fn := fun _ => fun
  | [d1, d2, d3, d4, d5] => { results := [.lit (.bool true)], args := [d1, d2, d3, d4, d5] }
  | _ => none }
def fnExactGridPartRow : OpenClaim := { program := "ytigbmpmhhakklaa", sum := "8321a4defb7f68a1c970acb0492639b7ef09550af991ff859dad6f39968ef954", func := "loop.example/reliefmaps/laws.FnExactGridPart", spec := "fnExactGridPart", unfollowed := true, recurses := true, apart := false }
def FnExactGridPartSaid : Prop := fnExactGridPartRow.holds Try.pinned (OpenSpec.ofChange fnExactGridPartSpec)

/-- ITS FALSE NEIGHBOUR: 'it returns false'. Refute it at one input. -/
def fnExactGridPartWrong : ChangeSpec := { name := "fnExactGridPart", fn := fun _ => fun
  | [d1, d2, d3, d4, d5] => { results := [.lit (.bool false)], args := [d1, d2, d3, d4, d5] }
  | _ => none }
def FnExactGridPartWrongFalsely : Prop := fnExactGridPartRow.holds Try.pinned (OpenSpec.ofChange fnExactGridPartWrong)

/-- 'laws.FnExactGridBeside': WHATEVER THE INPUT: true; the input reads as it did. -/
def fnExactGridBesideSpec : ChangeSpec := { name := "fnExactGridBeside", fn := fun _ => fun
  | [d1, d2] => { results := [.lit (.bool true)], args := [d1, d2] }
  | _ => none }
def fnExactGridBesideRow : OpenClaim := { program := "ytigbmpmhhakklaa", sum := "8321a4defb7f68a1c970acb0492639b7ef09550af991ff859dad6f39968ef954", func := "loop.example/reliefmaps/laws.FnExactGridBeside", spec := "fnExactGridBeside", unfollowed := true, recurses := true, apart := false }
def FnExactGridBesideSaid : Prop := fnExactGridBesideRow.holds Try.pinned (OpenSpec.ofChange fnExactGridBesideSpec)

/-- ITS FALSE NEIGHBOUR: 'it returns false'. Refute it at one input. -/
def fnExactGridBesideWrong : ChangeSpec := { name := "fnExactGridBeside", fn := fun _ => fun
  | [d1, d2] => { results := [.lit (.bool false)], args := [d1, d2] }
  | _ => none }
def FnExactGridBesideWrongFalsely : Prop := fnExactGridBesideRow.holds Try.pinned (OpenSpec.ofChange fnExactGridBesideWrong)

/-- 'laws.FnGridAt': WHATEVER THE INPUT: true; the input reads as it did. -/
def fnGridAtSpec : ChangeSpec := { name := "fnGridAt", fn := fun _ => fun
  | [d] => { results := [.lit (.bool true)], args := [d] }
  | _ => none }
def fnGridAtRow : OpenClaim := { program := "ytigbmpmhhakklaa", sum := "8321a4defb7f68a1c970acb0492639b7ef09550af991ff859dad6f39968ef954", func := "loop.example/reliefmaps/laws.FnGridAt", spec := "fnGridAt", unfollowed := true, recurses := true, apart := false }
def FnGridAtSaid : Prop := fnGridAtRow.holds Try.pinned (OpenSpec.ofChange fnGridAtSpec)

/-- ITS FALSE NEIGHBOUR: 'it returns false'. Refute it at one input. -/
def fnGridAtWrong : ChangeSpec := { name := "fnGridAt", fn := fun _ => fun
  | [d] => { results := [.lit (.bool false)], args := [d] }
  | _ => none }
def FnGridAtWrongFalsely : Prop := fnGridAtRow.holds Try.pinned (OpenSpec.ofChange fnGridAtWrong)

/-- 'laws.FnExactGridBelow': WHATEVER THE INPUT: true; the input reads as it did. -/
def fnExactGridBelowSpec : ChangeSpec := { name := "fnExactGridBelow", fn := fun _ => fun
  | [d1, d2] => { results := [.lit (.bool true)], args := [d1, d2] }
  | _ => none }
def fnExactGridBelowRow : OpenClaim := { program := "ytigbmpmhhakklaa", sum := "8321a4defb7f68a1c970acb0492639b7ef09550af991ff859dad6f39968ef954", func := "loop.example/reliefmaps/laws.FnExactGridBelow", spec := "fnExactGridBelow", unfollowed := true, recurses := true, apart := false }
def FnExactGridBelowSaid : Prop := fnExactGridBelowRow.holds Try.pinned (OpenSpec.ofChange fnExactGridBelowSpec)

/-- ITS FALSE NEIGHBOUR: 'it returns false'. Refute it at one input. -/
def fnExactGridBelowWrong : ChangeSpec := { name := "fnExactGridBelow", fn := fun _ => fun
  | [d1, d2] => { results := [.lit (.bool false)], args := [d1, d2] }
  | _ => none }
def FnExactGridBelowWrongFalsely : Prop := fnExactGridBelowRow.holds Try.pinned (OpenSpec.ofChange fnExactGridBelowWrong)

/- THE SECOND FORM. 'bulk': how many values and letters a reading holds, each counted each time it is reached (what is shared counts as often as it is met; a slice's spare places count too). A statement '..UptoSaid' is the law's where the arguments, and the package variables that the reading takes, are together of bulk at most 1048576: NARROWER than '..Said'. Prove '..Said' where nothing that the law and all that it calls make is longer than what came in: it says more and counts as full. Else prove '..UptoSaid'. A law counts once. -/
mutual
def uptoBulk {H : Type} : DataW H → Nat
  | .lit (.string bytes) => bytes.length + 1
  | .lit _ => 1
  | .nil => 1
  | .ptr d => uptoBulk d + 1
  | .slice elems spare => uptoBulkAll elems + uptoBulkAll spare + 1
  | .agg parts => uptoBulkAll parts + 1
  | .iface _ d => uptoBulk d + 1
  | .map entries => uptoBulkEntries entries + 1
  | .held _ => 1
def uptoBulkAll {H : Type} : List (DataW H) → Nat
  | [] => 0
  | d :: r => uptoBulk d + uptoBulkAll r
def uptoBulkEntries {H : Type} : List (Lit × DataW H) → Nat
  | [] => 0
  | x :: r => uptoBulkEntry x + uptoBulkEntries r
def uptoBulkEntry {H : Type} : Lit × DataW H → Nat
  | (.string bytes, d) => bytes.length + uptoBulk d + 1
  | (_, d) => uptoBulk d + 1
 end
def uptoSmall : (H : Type) → List (DataW H) → Bool := fun _ ds => decide (uptoBulkAll ds ≤ 1048576)
def OpenSpec.upto (s : _root_.Go.ChangeSpec) : _root_.Go.OpenSpec := { _root_.Go.OpenSpec.ofChange s with cond := some uptoSmall }

/-- 'laws.FnExactWaterNext', WHERE WHAT IT READS IS OF BULK AT MOST 1048576: true; the input reads as it did. -/
def fnExactWaterNextUptoRow : OpenClaim := { program := "ytigbmpmhhakklaa", sum := "8321a4defb7f68a1c970acb0492639b7ef09550af991ff859dad6f39968ef954", func := "loop.example/reliefmaps/laws.FnExactWaterNext", spec := "fnExactWaterNext", apart := false, narrowed := true }
def FnExactWaterNextUptoSaid : Prop := fnExactWaterNextUptoRow.holds Try.pinned (OpenSpec.upto fnExactWaterNextSpec)

/-- 'laws.FnGridSet', WHERE WHAT IT READS IS OF BULK AT MOST 1048576: true; the input reads as it did. -/
def fnGridSetUptoRow : OpenClaim := { program := "ytigbmpmhhakklaa", sum := "8321a4defb7f68a1c970acb0492639b7ef09550af991ff859dad6f39968ef954", func := "loop.example/reliefmaps/laws.FnGridSet", spec := "fnGridSet", apart := false, narrowed := true }
def FnGridSetUptoSaid : Prop := fnGridSetUptoRow.holds Try.pinned (OpenSpec.upto fnGridSetSpec)

/-- 'laws.FnExactGridMirror', WHERE WHAT IT READS IS OF BULK AT MOST 1048576: true; the input reads as it did. -/
def fnExactGridMirrorUptoRow : OpenClaim := { program := "ytigbmpmhhakklaa", sum := "8321a4defb7f68a1c970acb0492639b7ef09550af991ff859dad6f39968ef954", func := "loop.example/reliefmaps/laws.FnExactGridMirror", spec := "fnExactGridMirror", unfollowed := true, recurses := true, apart := false, narrowed := true }
def FnExactGridMirrorUptoSaid : Prop := fnExactGridMirrorUptoRow.holds Try.pinned (OpenSpec.upto fnExactGridMirrorSpec)

/-- 'laws.FnExactGridTurn', WHERE WHAT IT READS IS OF BULK AT MOST 1048576: true; the input reads as it did. -/
def fnExactGridTurnUptoRow : OpenClaim := { program := "ytigbmpmhhakklaa", sum := "8321a4defb7f68a1c970acb0492639b7ef09550af991ff859dad6f39968ef954", func := "loop.example/reliefmaps/laws.FnExactGridTurn", spec := "fnExactGridTurn", unfollowed := true, recurses := true, apart := false, narrowed := true }
def FnExactGridTurnUptoSaid : Prop := fnExactGridTurnUptoRow.holds Try.pinned (OpenSpec.upto fnExactGridTurnSpec)

/-- 'laws.FnExactPeakIs', WHERE WHAT IT READS IS OF BULK AT MOST 1048576: true; the input reads as it did. -/
def fnExactPeakIsUptoRow : OpenClaim := { program := "ytigbmpmhhakklaa", sum := "8321a4defb7f68a1c970acb0492639b7ef09550af991ff859dad6f39968ef954", func := "loop.example/reliefmaps/laws.FnExactPeakIs", spec := "fnExactPeakIs", apart := false, narrowed := true }
def FnExactPeakIsUptoSaid : Prop := fnExactPeakIsUptoRow.holds Try.pinned (OpenSpec.upto fnExactPeakIsSpec)

/-- 'laws.FnExactLevelSides', WHERE WHAT IT READS IS OF BULK AT MOST 1048576: true; the input reads as it did. -/
def fnExactLevelSidesUptoRow : OpenClaim := { program := "ytigbmpmhhakklaa", sum := "8321a4defb7f68a1c970acb0492639b7ef09550af991ff859dad6f39968ef954", func := "loop.example/reliefmaps/laws.FnExactLevelSides", spec := "fnExactLevelSides", apart := false, narrowed := true }
def FnExactLevelSidesUptoSaid : Prop := fnExactLevelSidesUptoRow.holds Try.pinned (OpenSpec.upto fnExactLevelSidesSpec)

/-- 'laws.FnExactGridPart', WHERE WHAT IT READS IS OF BULK AT MOST 1048576: true; the input reads as it did. -/
def fnExactGridPartUptoRow : OpenClaim := { program := "ytigbmpmhhakklaa", sum := "8321a4defb7f68a1c970acb0492639b7ef09550af991ff859dad6f39968ef954", func := "loop.example/reliefmaps/laws.FnExactGridPart", spec := "fnExactGridPart", unfollowed := true, recurses := true, apart := false, narrowed := true }
def FnExactGridPartUptoSaid : Prop := fnExactGridPartUptoRow.holds Try.pinned (OpenSpec.upto fnExactGridPartSpec)

/-- 'laws.FnExactGridBeside', WHERE WHAT IT READS IS OF BULK AT MOST 1048576: true; the input reads as it did. -/
def fnExactGridBesideUptoRow : OpenClaim := { program := "ytigbmpmhhakklaa", sum := "8321a4defb7f68a1c970acb0492639b7ef09550af991ff859dad6f39968ef954", func := "loop.example/reliefmaps/laws.FnExactGridBeside", spec := "fnExactGridBeside", unfollowed := true, recurses := true, apart := false, narrowed := true }
def FnExactGridBesideUptoSaid : Prop := fnExactGridBesideUptoRow.holds Try.pinned (OpenSpec.upto fnExactGridBesideSpec)

/-- 'laws.FnGridAt', WHERE WHAT IT READS IS OF BULK AT MOST 1048576: true; the input reads as it did. -/
def fnGridAtUptoRow : OpenClaim := { program := "ytigbmpmhhakklaa", sum := "8321a4defb7f68a1c970acb0492639b7ef09550af991ff859dad6f39968ef954", func := "loop.example/reliefmaps/laws.FnGridAt", spec := "fnGridAt", unfollowed := true, recurses := true, apart := false, narrowed := true }
def FnGridAtUptoSaid : Prop := fnGridAtUptoRow.holds Try.pinned (OpenSpec.upto fnGridAtSpec)

/-- 'laws.FnExactGridBelow', WHERE WHAT IT READS IS OF BULK AT MOST 1048576: true; the input reads as it did. -/
def fnExactGridBelowUptoRow : OpenClaim := { program := "ytigbmpmhhakklaa", sum := "8321a4defb7f68a1c970acb0492639b7ef09550af991ff859dad6f39968ef954", func := "loop.example/reliefmaps/laws.FnExactGridBelow", spec := "fnExactGridBelow", unfollowed := true, recurses := true, apart := false, narrowed := true }
def FnExactGridBelowUptoSaid : Prop := fnExactGridBelowUptoRow.holds Try.pinned (OpenSpec.upto fnExactGridBelowSpec)

end Rows
end Go.Proofs.Ytigbmpmhhakklaa
