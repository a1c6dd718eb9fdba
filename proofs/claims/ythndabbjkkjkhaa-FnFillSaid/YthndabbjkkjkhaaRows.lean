/-
  No cell of these rows narrows 'for every input' (looked for: loops, veiled, ifaces, maps, wideKeys, modest, calm, conditions, laid).
  DERIVED. THE GIVEN ROWS OF THIS SEAT. 11 by the template 'for every input the law returns true; each argument reads behind the call as it read before'; 0 by the template 'total and deterministic' (their statements: YthndabbjkkjkhaaTotals.lean).
  GIVEN WITH THE SEED: the statements are not yours to turn. If you find one false, say at which input.
  Laid BY PROGRAM, IN A SANDBOX (cutbox-rows.mjs): the forced cells as the released guide's own fill.sh prints them over the translation 0404d370f23ea463… (all of the seat's roots in one cut). By AI agents, Wed Nov 11 2026. No macro, syntax, notation, axiom, sorry.
-/
import Derived.Test.YthndabbjkkjkhaaChecked
import GoSem.Claim
import GoSem.ClaimJoined
import GoSem.ClaimMapViews
import Derived.JoinedTies
import Derived.KernelRfl
namespace Go.Proofs.Ythndabbjkkjkhaa
/- THE CELL 'sum', in the pinned program and in every row, IS THE sha256 OF THE DUMP (.gsa) THAT YthndabbjkkjkhaaProg.lean LOADS. Nothing in Lean hashes anything: it is a label: what it is worth is what the hold of that sum in a sandbox is worth. -/
noncomputable def Try.pinned : Pinned := { name := "ythndabbjkkjkhaa", sum := "0404d370f23ea4635bdad70b5caffea1fab1b9db3bed4a95cb727f2f23cf1175", checked := Try.checked }
namespace Rows
def none {H : Type} : Left H := { results := [], args := [] }

/-- 'laws.FnGridSet': WHATEVER THE INPUT: true; the input reads as it did. -/
def fnGridSetSpec : ChangeSpec := { name := "fnGridSet", fn := fun _ => fun
  | [d] => { results := [.lit (.bool true)], args := [d] }
  | _ => none }
def fnGridSetRow : OpenClaim := { program := "ythndabbjkkjkhaa", sum := "0404d370f23ea4635bdad70b5caffea1fab1b9db3bed4a95cb727f2f23cf1175", func := "loop.example/reliefmaps/laws.FnGridSet", spec := "fnGridSet", apart := false }
def FnGridSetSaid : Prop := fnGridSetRow.holds Try.pinned (OpenSpec.ofChange fnGridSetSpec)

/-- ITS FALSE NEIGHBOUR: 'it returns false'. Refute it at one input. -/
def fnGridSetWrong : ChangeSpec := { name := "fnGridSet", fn := fun _ => fun
  | [d] => { results := [.lit (.bool false)], args := [d] }
  | _ => none }
def FnGridSetWrongFalsely : Prop := fnGridSetRow.holds Try.pinned (OpenSpec.ofChange fnGridSetWrong)

/-- 'laws.FnExactGridBeside': WHATEVER THE INPUT: true; the input reads as it did. -/
def fnExactGridBesideSpec : ChangeSpec := { name := "fnExactGridBeside", fn := fun _ => fun
  | [d1, d2] => { results := [.lit (.bool true)], args := [d1, d2] }
  | _ => none }
def fnExactGridBesideRow : OpenClaim := { program := "ythndabbjkkjkhaa", sum := "0404d370f23ea4635bdad70b5caffea1fab1b9db3bed4a95cb727f2f23cf1175", func := "loop.example/reliefmaps/laws.FnExactGridBeside", spec := "fnExactGridBeside", unfollowed := true, recurses := true, apart := false }
def FnExactGridBesideSaid : Prop := fnExactGridBesideRow.holds Try.pinned (OpenSpec.ofChange fnExactGridBesideSpec)

/-- ITS FALSE NEIGHBOUR: 'it returns false'. Refute it at one input. -/
def fnExactGridBesideWrong : ChangeSpec := { name := "fnExactGridBeside", fn := fun _ => fun
  | [d1, d2] => { results := [.lit (.bool false)], args := [d1, d2] }
  | _ => none }
def FnExactGridBesideWrongFalsely : Prop := fnExactGridBesideRow.holds Try.pinned (OpenSpec.ofChange fnExactGridBesideWrong)

/-- 'laws.FnExactGridBelow': WHATEVER THE INPUT: true; the input reads as it did. -/
def fnExactGridBelowSpec : ChangeSpec := { name := "fnExactGridBelow", fn := fun _ => fun
  | [d1, d2] => { results := [.lit (.bool true)], args := [d1, d2] }
  | _ => none }
def fnExactGridBelowRow : OpenClaim := { program := "ythndabbjkkjkhaa", sum := "0404d370f23ea4635bdad70b5caffea1fab1b9db3bed4a95cb727f2f23cf1175", func := "loop.example/reliefmaps/laws.FnExactGridBelow", spec := "fnExactGridBelow", unfollowed := true, recurses := true, apart := false }
def FnExactGridBelowSaid : Prop := fnExactGridBelowRow.holds Try.pinned (OpenSpec.ofChange fnExactGridBelowSpec)

/-- ITS FALSE NEIGHBOUR: 'it returns false'. Refute it at one input. -/
def fnExactGridBelowWrong : ChangeSpec := { name := "fnExactGridBelow", fn := fun _ => fun
  | [d1, d2] => { results := [.lit (.bool false)], args := [d1, d2] }
  | _ => none }
def FnExactGridBelowWrongFalsely : Prop := fnExactGridBelowRow.holds Try.pinned (OpenSpec.ofChange fnExactGridBelowWrong)

/-- 'laws.FnGridPart': WHATEVER THE INPUT: true; the input reads as it did. -/
def fnGridPartSpec : ChangeSpec := { name := "fnGridPart", fn := fun _ => fun
  | [d] => { results := [.lit (.bool true)], args := [d] }
  | _ => none }
def fnGridPartRow : OpenClaim := { program := "ythndabbjkkjkhaa", sum := "0404d370f23ea4635bdad70b5caffea1fab1b9db3bed4a95cb727f2f23cf1175", func := "loop.example/reliefmaps/laws.FnGridPart", spec := "fnGridPart", unfollowed := true, recurses := true, apart := false }
def FnGridPartSaid : Prop := fnGridPartRow.holds Try.pinned (OpenSpec.ofChange fnGridPartSpec)

/-- ITS FALSE NEIGHBOUR: 'it returns false'. Refute it at one input. -/
def fnGridPartWrong : ChangeSpec := { name := "fnGridPart", fn := fun _ => fun
  | [d] => { results := [.lit (.bool false)], args := [d] }
  | _ => none }
def FnGridPartWrongFalsely : Prop := fnGridPartRow.holds Try.pinned (OpenSpec.ofChange fnGridPartWrong)

/-- 'laws.FnGridBeside': WHATEVER THE INPUT: true; the input reads as it did. -/
def fnGridBesideSpec : ChangeSpec := { name := "fnGridBeside", fn := fun _ => fun
  | [d] => { results := [.lit (.bool true)], args := [d] }
  | _ => none }
def fnGridBesideRow : OpenClaim := { program := "ythndabbjkkjkhaa", sum := "0404d370f23ea4635bdad70b5caffea1fab1b9db3bed4a95cb727f2f23cf1175", func := "loop.example/reliefmaps/laws.FnGridBeside", spec := "fnGridBeside", unfollowed := true, recurses := true, apart := false }
def FnGridBesideSaid : Prop := fnGridBesideRow.holds Try.pinned (OpenSpec.ofChange fnGridBesideSpec)

/-- ITS FALSE NEIGHBOUR: 'it returns false'. Refute it at one input. -/
def fnGridBesideWrong : ChangeSpec := { name := "fnGridBeside", fn := fun _ => fun
  | [d] => { results := [.lit (.bool false)], args := [d] }
  | _ => none }
def FnGridBesideWrongFalsely : Prop := fnGridBesideRow.holds Try.pinned (OpenSpec.ofChange fnGridBesideWrong)

/-- 'laws.FnGridBelow': WHATEVER THE INPUT: true; the input reads as it did. -/
def fnGridBelowSpec : ChangeSpec := { name := "fnGridBelow", fn := fun _ => fun
  | [d] => { results := [.lit (.bool true)], args := [d] }
  | _ => none }
def fnGridBelowRow : OpenClaim := { program := "ythndabbjkkjkhaa", sum := "0404d370f23ea4635bdad70b5caffea1fab1b9db3bed4a95cb727f2f23cf1175", func := "loop.example/reliefmaps/laws.FnGridBelow", spec := "fnGridBelow", unfollowed := true, recurses := true, apart := false }
def FnGridBelowSaid : Prop := fnGridBelowRow.holds Try.pinned (OpenSpec.ofChange fnGridBelowSpec)

/-- ITS FALSE NEIGHBOUR: 'it returns false'. Refute it at one input. -/
def fnGridBelowWrong : ChangeSpec := { name := "fnGridBelow", fn := fun _ => fun
  | [d] => { results := [.lit (.bool false)], args := [d] }
  | _ => none }
def FnGridBelowWrongFalsely : Prop := fnGridBelowRow.holds Try.pinned (OpenSpec.ofChange fnGridBelowWrong)

/-- 'laws.FnExactWaterLeaves': WHATEVER THE INPUT: true; the input reads as it did. -/
def fnExactWaterLeavesSpec : ChangeSpec := { name := "fnExactWaterLeaves", fn := fun _ => fun
  | [d1, d2, d3] => { results := [.lit (.bool true)], args := [d1, d2, d3] }
  | _ => none }
def fnExactWaterLeavesRow : OpenClaim := { program := "ythndabbjkkjkhaa", sum := "0404d370f23ea4635bdad70b5caffea1fab1b9db3bed4a95cb727f2f23cf1175", func := "loop.example/reliefmaps/laws.FnExactWaterLeaves", spec := "fnExactWaterLeaves", apart := false }
def FnExactWaterLeavesSaid : Prop := fnExactWaterLeavesRow.holds Try.pinned (OpenSpec.ofChange fnExactWaterLeavesSpec)

/-- ITS FALSE NEIGHBOUR: 'it returns false'. Refute it at one input. -/
def fnExactWaterLeavesWrong : ChangeSpec := { name := "fnExactWaterLeaves", fn := fun _ => fun
  | [d1, d2, d3] => { results := [.lit (.bool false)], args := [d1, d2, d3] }
  | _ => none }
def FnExactWaterLeavesWrongFalsely : Prop := fnExactWaterLeavesRow.holds Try.pinned (OpenSpec.ofChange fnExactWaterLeavesWrong)

/-- 'laws.FnSinks': WHATEVER THE INPUT: true; the input reads as it did. -/
def fnSinksSpec : ChangeSpec := { name := "fnSinks", fn := fun _ => fun
  | [d] => { results := [.lit (.bool true)], args := [d] }
  | _ => none }
def fnSinksRow : OpenClaim := { program := "ythndabbjkkjkhaa", sum := "0404d370f23ea4635bdad70b5caffea1fab1b9db3bed4a95cb727f2f23cf1175", func := "loop.example/reliefmaps/laws.FnSinks", spec := "fnSinks", apart := false }
def FnSinksSaid : Prop := fnSinksRow.holds Try.pinned (OpenSpec.ofChange fnSinksSpec)

/-- ITS FALSE NEIGHBOUR: 'it returns false'. Refute it at one input. -/
def fnSinksWrong : ChangeSpec := { name := "fnSinks", fn := fun _ => fun
  | [d] => { results := [.lit (.bool false)], args := [d] }
  | _ => none }
def FnSinksWrongFalsely : Prop := fnSinksRow.holds Try.pinned (OpenSpec.ofChange fnSinksWrong)

/-- 'laws.FnWaterNext': WHATEVER THE INPUT: true; the input reads as it did. -/
def fnWaterNextSpec : ChangeSpec := { name := "fnWaterNext", fn := fun _ => fun
  | [d] => { results := [.lit (.bool true)], args := [d] }
  | _ => none }
def fnWaterNextRow : OpenClaim := { program := "ythndabbjkkjkhaa", sum := "0404d370f23ea4635bdad70b5caffea1fab1b9db3bed4a95cb727f2f23cf1175", func := "loop.example/reliefmaps/laws.FnWaterNext", spec := "fnWaterNext", unfollowed := true, recurses := true, apart := false }
def FnWaterNextSaid : Prop := fnWaterNextRow.holds Try.pinned (OpenSpec.ofChange fnWaterNextSpec)

/-- ITS FALSE NEIGHBOUR: 'it returns false'. Refute it at one input. -/
def fnWaterNextWrong : ChangeSpec := { name := "fnWaterNext", fn := fun _ => fun
  | [d] => { results := [.lit (.bool false)], args := [d] }
  | _ => none }
def FnWaterNextWrongFalsely : Prop := fnWaterNextRow.holds Try.pinned (OpenSpec.ofChange fnWaterNextWrong)

/-- 'laws.FnLeaves': WHATEVER THE INPUT: true; the input reads as it did. -/
def fnLeavesSpec : ChangeSpec := { name := "fnLeaves", fn := fun _ => fun
  | [d] => { results := [.lit (.bool true)], args := [d] }
  | _ => none }
def fnLeavesRow : OpenClaim := { program := "ythndabbjkkjkhaa", sum := "0404d370f23ea4635bdad70b5caffea1fab1b9db3bed4a95cb727f2f23cf1175", func := "loop.example/reliefmaps/laws.FnLeaves", spec := "fnLeaves", unfollowed := true, recurses := true, apart := false }
def FnLeavesSaid : Prop := fnLeavesRow.holds Try.pinned (OpenSpec.ofChange fnLeavesSpec)

/-- ITS FALSE NEIGHBOUR: 'it returns false'. Refute it at one input. -/
def fnLeavesWrong : ChangeSpec := { name := "fnLeaves", fn := fun _ => fun
  | [d] => { results := [.lit (.bool false)], args := [d] }
  | _ => none }
def FnLeavesWrongFalsely : Prop := fnLeavesRow.holds Try.pinned (OpenSpec.ofChange fnLeavesWrong)

/-- 'laws.FnFill': WHATEVER THE INPUT: true; the input reads as it did. -/
def fnFillSpec : ChangeSpec := { name := "fnFill", fn := fun _ => fun
  | [d] => { results := [.lit (.bool true)], args := [d] }
  | _ => none }
def fnFillRow : OpenClaim := { program := "ythndabbjkkjkhaa", sum := "0404d370f23ea4635bdad70b5caffea1fab1b9db3bed4a95cb727f2f23cf1175", func := "loop.example/reliefmaps/laws.FnFill", spec := "fnFill", apart := false }
def FnFillSaid : Prop := fnFillRow.holds Try.pinned (OpenSpec.ofChange fnFillSpec)

/-- ITS FALSE NEIGHBOUR: 'it returns false'. Refute it at one input. -/
def fnFillWrong : ChangeSpec := { name := "fnFill", fn := fun _ => fun
  | [d] => { results := [.lit (.bool false)], args := [d] }
  | _ => none }
def FnFillWrongFalsely : Prop := fnFillRow.holds Try.pinned (OpenSpec.ofChange fnFillWrong)

/- THE SECOND FORM. 'bulk': how many values and letters a reading holds, each counted each time it is reached (what is shared counts as often as it is met; a slice's spare places count too). A statement '..UptoSaid' is the law's where the arguments, and the package variables that the reading takes, are together of bulk at most 1048576: NARROWER than '..Said'. Prove '..Said' where nothing that the law and all that it calls make is longer than what came in: it says more and counts as full. Else prove '..UptoSaid'. A law counts once. -/
mutual
def uptoBulk {H : Type} : DataW H → Nat
  | .lit (.string bytes) => bytes.length + 1
  | .lit _ => 1
  | .nil => 1
  | .ptr d => uptoBulk d + 1
  | .slice elems spare => uptoBulkAll elems + uptoBulkAll spare + 1
  | .agg parts => uptoBulkAll parts + 1
  | .iface _ d => uptoBulk d + 1
  | .map entries => uptoBulkEntries entries + 1
  | .held _ => 1
def uptoBulkAll {H : Type} : List (DataW H) → Nat
  | [] => 0
  | d :: r => uptoBulk d + uptoBulkAll r
def uptoBulkEntries {H : Type} : List (Lit × DataW H) → Nat
  | [] => 0
  | x :: r => uptoBulkEntry x + uptoBulkEntries r
def uptoBulkEntry {H : Type} : Lit × DataW H → Nat
  | (.string bytes, d) => bytes.length + uptoBulk d + 1
  | (_, d) => uptoBulk d + 1
 end
def uptoSmall : (H : Type) → List (DataW H) → Bool := fun _ ds => decide (uptoBulkAll ds ≤ 1048576)
def OpenSpec.upto (s : _root_.Go.ChangeSpec) : _root_.Go.OpenSpec := { _root_.Go.OpenSpec.ofChange s with cond := some uptoSmall }

/-- 'laws.FnGridSet', WHERE WHAT IT READS IS OF BULK AT MOST 1048576: true; the input reads as it did. -/
def fnGridSetUptoRow : OpenClaim := { program := "ythndabbjkkjkhaa", sum := "0404d370f23ea4635bdad70b5caffea1fab1b9db3bed4a95cb727f2f23cf1175", func := "loop.example/reliefmaps/laws.FnGridSet", spec := "fnGridSet", apart := false, narrowed := true }
def FnGridSetUptoSaid : Prop := fnGridSetUptoRow.holds Try.pinned (OpenSpec.upto fnGridSetSpec)

/-- 'laws.FnExactGridBeside', WHERE WHAT IT READS IS OF BULK AT MOST 1048576: true; the input reads as it did. -/
def fnExactGridBesideUptoRow : OpenClaim := { program := "ythndabbjkkjkhaa", sum := "0404d370f23ea4635bdad70b5caffea1fab1b9db3bed4a95cb727f2f23cf1175", func := "loop.example/reliefmaps/laws.FnExactGridBeside", spec := "fnExactGridBeside", unfollowed := true, recurses := true, apart := false, narrowed := true }
def FnExactGridBesideUptoSaid : Prop := fnExactGridBesideUptoRow.holds Try.pinned (OpenSpec.upto fnExactGridBesideSpec)

/-- 'laws.FnExactGridBelow', WHERE WHAT IT READS IS OF BULK AT MOST 1048576: true; the input reads as it did. -/
def fnExactGridBelowUptoRow : OpenClaim := { program := "ythndabbjkkjkhaa", sum := "0404d370f23ea4635bdad70b5caffea1fab1b9db3bed4a95cb727f2f23cf1175", func := "loop.example/reliefmaps/laws.FnExactGridBelow", spec := "fnExactGridBelow", unfollowed := true, recurses := true, apart := false, narrowed := true }
def FnExactGridBelowUptoSaid : Prop := fnExactGridBelowUptoRow.holds Try.pinned (OpenSpec.upto fnExactGridBelowSpec)

/-- 'laws.FnGridPart', WHERE WHAT IT READS IS OF BULK AT MOST 1048576: true; the input reads as it did. -/
def fnGridPartUptoRow : OpenClaim := { program := "ythndabbjkkjkhaa", sum := "0404d370f23ea4635bdad70b5caffea1fab1b9db3bed4a95cb727f2f23cf1175", func := "loop.example/reliefmaps/laws.FnGridPart", spec := "fnGridPart", unfollowed := true, recurses := true, apart := false, narrowed := true }
def FnGridPartUptoSaid : Prop := fnGridPartUptoRow.holds Try.pinned (OpenSpec.upto fnGridPartSpec)

/-- 'laws.FnGridBeside', WHERE WHAT IT READS IS OF BULK AT MOST 1048576: true; the input reads as it did. -/
def fnGridBesideUptoRow : OpenClaim := { program := "ythndabbjkkjkhaa", sum := "0404d370f23ea4635bdad70b5caffea1fab1b9db3bed4a95cb727f2f23cf1175", func := "loop.example/reliefmaps/laws.FnGridBeside", spec := "fnGridBeside", unfollowed := true, recurses := true, apart := false, narrowed := true }
def FnGridBesideUptoSaid : Prop := fnGridBesideUptoRow.holds Try.pinned (OpenSpec.upto fnGridBesideSpec)

/-- 'laws.FnGridBelow', WHERE WHAT IT READS IS OF BULK AT MOST 1048576: true; the input reads as it did. -/
def fnGridBelowUptoRow : OpenClaim := { program := "ythndabbjkkjkhaa", sum := "0404d370f23ea4635bdad70b5caffea1fab1b9db3bed4a95cb727f2f23cf1175", func := "loop.example/reliefmaps/laws.FnGridBelow", spec := "fnGridBelow", unfollowed := true, recurses := true, apart := false, narrowed := true }
def FnGridBelowUptoSaid : Prop := fnGridBelowUptoRow.holds Try.pinned (OpenSpec.upto fnGridBelowSpec)

/-- 'laws.FnExactWaterLeaves', WHERE WHAT IT READS IS OF BULK AT MOST 1048576: true; the input reads as it did. -/
def fnExactWaterLeavesUptoRow : OpenClaim := { program := "ythndabbjkkjkhaa", sum := "0404d370f23ea4635bdad70b5caffea1fab1b9db3bed4a95cb727f2f23cf1175", func := "loop.example/reliefmaps/laws.FnExactWaterLeaves", spec := "fnExactWaterLeaves", apart := false, narrowed := true }
def FnExactWaterLeavesUptoSaid : Prop := fnExactWaterLeavesUptoRow.holds Try.pinned (OpenSpec.upto fnExactWaterLeavesSpec)

/-- 'laws.FnSinks', WHERE WHAT IT READS IS OF BULK AT MOST 1048576: true; the input reads as it did. -/
def fnSinksUptoRow : OpenClaim := { program := "ythndabbjkkjkhaa", sum := "0404d370f23ea4635bdad70b5caffea1fab1b9db3bed4a95cb727f2f23cf1175", func := "loop.example/reliefmaps/laws.FnSinks", spec := "fnSinks", apart := false, narrowed := true }
def FnSinksUptoSaid : Prop := fnSinksUptoRow.holds Try.pinned (OpenSpec.upto fnSinksSpec)

/-- 'laws.FnWaterNext', WHERE WHAT IT READS IS OF BULK AT MOST 1048576: true; the input reads as it did. -/
def fnWaterNextUptoRow : OpenClaim := { program := "ythndabbjkkjkhaa", sum := "0404d370f23ea4635bdad70b5caffea1fab1b9db3bed4a95cb727f2f23cf1175", func := "loop.example/reliefmaps/laws.FnWaterNext", spec := "fnWaterNext", unfollowed := true, recurses := true, apart := false, narrowed := true }
def FnWaterNextUptoSaid : Prop := fnWaterNextUptoRow.holds Try.pinned (OpenSpec.upto fnWaterNextSpec)

/-- 'laws.FnLeaves', WHERE WHAT IT READS IS OF BULK AT MOST 1048576: true; the input reads as it did. -/
def fnLeavesUptoRow : OpenClaim := { program := "ythndabbjkkjkhaa", sum := "0404d370f23ea4635bdad70b5caffea1fab1b9db3bed4a95cb727f2f23cf1175", func := "loop.example/reliefmaps/laws.FnLeaves", spec := "fnLeaves", unfollowed := true, recurses := true, apart := false, narrowed := true }
def FnLeavesUptoSaid : Prop := fnLeavesUptoRow.holds Try.pinned (OpenSpec.upto fnLeavesSpec)

/-- 'laws.FnFill', WHERE WHAT IT READS IS OF BULK AT MOST 1048576: true; the input reads as it did. -/
def fnFillUptoRow : OpenClaim := { program := "ythndabbjkkjkhaa", sum := "0404d370f23ea4635bdad70b5caffea1fab1b9db3bed4a95cb727f2f23cf1175", func := "loop.example/reliefmaps/laws.FnFill", spec := "fnFill", apart := false, narrowed := true }
def FnFillUptoSaid : Prop := fnFillUptoRow.holds Try.pinned (OpenSpec.upto fnFillSpec)

end Rows
end Go.Proofs.Ythndabbjkkjkhaa
