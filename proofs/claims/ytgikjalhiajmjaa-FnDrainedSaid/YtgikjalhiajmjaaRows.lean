/-
  No cell of these rows narrows 'for every input' (looked for: loops, veiled, ifaces, maps, wideKeys, modest, calm, conditions, laid).
  DERIVED. THE GIVEN ROWS OF THIS SEAT. 11 by the template 'for every input the law returns true; each argument reads behind the call as it read before'; 0 by the template 'total and deterministic' (their statements: YtgikjalhiajmjaaTotals.lean).
  GIVEN WITH THE SEED: the statements are not yours to turn. If you find one false, say at which input.
  Laid BY PROGRAM, IN A SANDBOX (cutbox-rows.mjs): the forced cells as the released guide's own fill.sh prints them over the translation bdf4d5bacfca783c… (all of the seat's roots in one cut). By AI agents, Wed Nov 11 2026. No macro, syntax, notation, axiom, sorry.
-/
import Derived.Test.YtgikjalhiajmjaaChecked
import GoSem.Claim
import GoSem.ClaimJoined
import GoSem.ClaimMapViews
import Derived.JoinedTies
import Derived.KernelRfl
namespace Go.Proofs.Ytgikjalhiajmjaa
/- THE CELL 'sum', in the pinned program and in every row, IS THE sha256 OF THE DUMP (.gsa) THAT YtgikjalhiajmjaaProg.lean LOADS. Nothing in Lean hashes anything: it is a label: what it is worth is what the hold of that sum in a sandbox is worth. -/
noncomputable def Try.pinned : Pinned := { name := "ytgikjalhiajmjaa", sum := "bdf4d5bacfca783c3f27a1b2527e96ae46a83a7b511d08ffb096babc2eaecbfb", checked := Try.checked }
namespace Rows
def none {H : Type} : Left H := { results := [], args := [] }

/-- 'laws.FnExactWaterLeaves': WHATEVER THE INPUT: true; the input reads as it did. -/
def fnExactWaterLeavesSpec : ChangeSpec := { name := "fnExactWaterLeaves", fn := fun _ => fun
  | [d1, d2, d3] => { results := [.lit (.bool true)], args := [d1, d2, d3] }
  | _ => none }
def fnExactWaterLeavesRow : OpenClaim := { program := "ytgikjalhiajmjaa", sum := "bdf4d5bacfca783c3f27a1b2527e96ae46a83a7b511d08ffb096babc2eaecbfb", func := "loop.example/reliefmaps/laws.FnExactWaterLeaves", spec := "fnExactWaterLeaves", apart := false }
def FnExactWaterLeavesSaid : Prop := fnExactWaterLeavesRow.holds Try.pinned (OpenSpec.ofChange fnExactWaterLeavesSpec)

/-- ITS FALSE NEIGHBOUR: 'it returns false'. Refute it at one input. -/
def fnExactWaterLeavesWrong : ChangeSpec := { name := "fnExactWaterLeaves", fn := fun _ => fun
  | [d1, d2, d3] => { results := [.lit (.bool false)], args := [d1, d2, d3] }
  | _ => none }
def FnExactWaterLeavesWrongFalsely : Prop := fnExactWaterLeavesRow.holds Try.pinned (OpenSpec.ofChange fnExactWaterLeavesWrong)

/-- 'laws.FnExactWaterSinks': WHATEVER THE INPUT: true; the input reads as it did. -/
def fnExactWaterSinksSpec : ChangeSpec := { name := "fnExactWaterSinks", fn := fun _ => fun
  | [d] => { results := [.lit (.bool true)], args := [d] }
  | _ => none }
def fnExactWaterSinksRow : OpenClaim := { program := "ytgikjalhiajmjaa", sum := "bdf4d5bacfca783c3f27a1b2527e96ae46a83a7b511d08ffb096babc2eaecbfb", func := "loop.example/reliefmaps/laws.FnExactWaterSinks", spec := "fnExactWaterSinks", apart := false }
def FnExactWaterSinksSaid : Prop := fnExactWaterSinksRow.holds Try.pinned (OpenSpec.ofChange fnExactWaterSinksSpec)

/-- ITS FALSE NEIGHBOUR: 'it returns false'. Refute it at one input. -/
def fnExactWaterSinksWrong : ChangeSpec := { name := "fnExactWaterSinks", fn := fun _ => fun
  | [d] => { results := [.lit (.bool false)], args := [d] }
  | _ => none }
def FnExactWaterSinksWrongFalsely : Prop := fnExactWaterSinksRow.holds Try.pinned (OpenSpec.ofChange fnExactWaterSinksWrong)

/-- 'laws.FnExactWaterPool': WHATEVER THE INPUT: true; the input reads as it did. -/
def fnExactWaterPoolSpec : ChangeSpec := { name := "fnExactWaterPool", fn := fun _ => fun
  | [d] => { results := [.lit (.bool true)], args := [d] }
  | _ => none }
def fnExactWaterPoolRow : OpenClaim := { program := "ytgikjalhiajmjaa", sum := "bdf4d5bacfca783c3f27a1b2527e96ae46a83a7b511d08ffb096babc2eaecbfb", func := "loop.example/reliefmaps/laws.FnExactWaterPool", spec := "fnExactWaterPool", apart := false }
def FnExactWaterPoolSaid : Prop := fnExactWaterPoolRow.holds Try.pinned (OpenSpec.ofChange fnExactWaterPoolSpec)

/-- ITS FALSE NEIGHBOUR: 'it returns false'. Refute it at one input. -/
def fnExactWaterPoolWrong : ChangeSpec := { name := "fnExactWaterPool", fn := fun _ => fun
  | [d] => { results := [.lit (.bool false)], args := [d] }
  | _ => none }
def FnExactWaterPoolWrongFalsely : Prop := fnExactWaterPoolRow.holds Try.pinned (OpenSpec.ofChange fnExactWaterPoolWrong)

/-- 'laws.FnExactWaterDrained': WHATEVER THE INPUT: true; the input reads as it did. -/
def fnExactWaterDrainedSpec : ChangeSpec := { name := "fnExactWaterDrained", fn := fun _ => fun
  | [d] => { results := [.lit (.bool true)], args := [d] }
  | _ => none }
def fnExactWaterDrainedRow : OpenClaim := { program := "ytgikjalhiajmjaa", sum := "bdf4d5bacfca783c3f27a1b2527e96ae46a83a7b511d08ffb096babc2eaecbfb", func := "loop.example/reliefmaps/laws.FnExactWaterDrained", spec := "fnExactWaterDrained", apart := false }
def FnExactWaterDrainedSaid : Prop := fnExactWaterDrainedRow.holds Try.pinned (OpenSpec.ofChange fnExactWaterDrainedSpec)

/-- ITS FALSE NEIGHBOUR: 'it returns false'. Refute it at one input. -/
def fnExactWaterDrainedWrong : ChangeSpec := { name := "fnExactWaterDrained", fn := fun _ => fun
  | [d] => { results := [.lit (.bool false)], args := [d] }
  | _ => none }
def FnExactWaterDrainedWrongFalsely : Prop := fnExactWaterDrainedRow.holds Try.pinned (OpenSpec.ofChange fnExactWaterDrainedWrong)

/-- 'laws.FnSinks': WHATEVER THE INPUT: true; the input reads as it did. -/
def fnSinksSpec : ChangeSpec := { name := "fnSinks", fn := fun _ => fun
  | [d] => { results := [.lit (.bool true)], args := [d] }
  | _ => none }
def fnSinksRow : OpenClaim := { program := "ytgikjalhiajmjaa", sum := "bdf4d5bacfca783c3f27a1b2527e96ae46a83a7b511d08ffb096babc2eaecbfb", func := "loop.example/reliefmaps/laws.FnSinks", spec := "fnSinks", apart := false }
def FnSinksSaid : Prop := fnSinksRow.holds Try.pinned (OpenSpec.ofChange fnSinksSpec)

/-- ITS FALSE NEIGHBOUR: 'it returns false'. Refute it at one input. -/
def fnSinksWrong : ChangeSpec := { name := "fnSinks", fn := fun _ => fun
  | [d] => { results := [.lit (.bool false)], args := [d] }
  | _ => none }
def FnSinksWrongFalsely : Prop := fnSinksRow.holds Try.pinned (OpenSpec.ofChange fnSinksWrong)

/-- 'laws.FnWaterNext': WHATEVER THE INPUT: true; the input reads as it did. -/
def fnWaterNextSpec : ChangeSpec := { name := "fnWaterNext", fn := fun _ => fun
  | [d] => { results := [.lit (.bool true)], args := [d] }
  | _ => none }
def fnWaterNextRow : OpenClaim := { program := "ytgikjalhiajmjaa", sum := "bdf4d5bacfca783c3f27a1b2527e96ae46a83a7b511d08ffb096babc2eaecbfb", func := "loop.example/reliefmaps/laws.FnWaterNext", spec := "fnWaterNext", unfollowed := true, recurses := true, apart := false }
def FnWaterNextSaid : Prop := fnWaterNextRow.holds Try.pinned (OpenSpec.ofChange fnWaterNextSpec)

/-- ITS FALSE NEIGHBOUR: 'it returns false'. Refute it at one input. -/
def fnWaterNextWrong : ChangeSpec := { name := "fnWaterNext", fn := fun _ => fun
  | [d] => { results := [.lit (.bool false)], args := [d] }
  | _ => none }
def FnWaterNextWrongFalsely : Prop := fnWaterNextRow.holds Try.pinned (OpenSpec.ofChange fnWaterNextWrong)

/-- 'laws.FnExactWaterFill': WHATEVER THE INPUT: true; the input reads as it did. -/
def fnExactWaterFillSpec : ChangeSpec := { name := "fnExactWaterFill", fn := fun _ => fun
  | [d] => { results := [.lit (.bool true)], args := [d] }
  | _ => none }
def fnExactWaterFillRow : OpenClaim := { program := "ytgikjalhiajmjaa", sum := "bdf4d5bacfca783c3f27a1b2527e96ae46a83a7b511d08ffb096babc2eaecbfb", func := "loop.example/reliefmaps/laws.FnExactWaterFill", spec := "fnExactWaterFill", apart := false }
def FnExactWaterFillSaid : Prop := fnExactWaterFillRow.holds Try.pinned (OpenSpec.ofChange fnExactWaterFillSpec)

/-- ITS FALSE NEIGHBOUR: 'it returns false'. Refute it at one input. -/
def fnExactWaterFillWrong : ChangeSpec := { name := "fnExactWaterFill", fn := fun _ => fun
  | [d] => { results := [.lit (.bool false)], args := [d] }
  | _ => none }
def FnExactWaterFillWrongFalsely : Prop := fnExactWaterFillRow.holds Try.pinned (OpenSpec.ofChange fnExactWaterFillWrong)

/-- 'laws.FnLeaves': WHATEVER THE INPUT: true; the input reads as it did. -/
def fnLeavesSpec : ChangeSpec := { name := "fnLeaves", fn := fun _ => fun
  | [d] => { results := [.lit (.bool true)], args := [d] }
  | _ => none }
def fnLeavesRow : OpenClaim := { program := "ytgikjalhiajmjaa", sum := "bdf4d5bacfca783c3f27a1b2527e96ae46a83a7b511d08ffb096babc2eaecbfb", func := "loop.example/reliefmaps/laws.FnLeaves", spec := "fnLeaves", unfollowed := true, recurses := true, apart := false }
def FnLeavesSaid : Prop := fnLeavesRow.holds Try.pinned (OpenSpec.ofChange fnLeavesSpec)

/-- ITS FALSE NEIGHBOUR: 'it returns false'. Refute it at one input. -/
def fnLeavesWrong : ChangeSpec := { name := "fnLeaves", fn := fun _ => fun
  | [d] => { results := [.lit (.bool false)], args := [d] }
  | _ => none }
def FnLeavesWrongFalsely : Prop := fnLeavesRow.holds Try.pinned (OpenSpec.ofChange fnLeavesWrong)

/-- 'laws.FnPool': WHATEVER THE INPUT: true; the input reads as it did. -/
def fnPoolSpec : ChangeSpec := { name := "fnPool", fn := fun _ => fun
  | [d] => { results := [.lit (.bool true)], args := [d] }
  | _ => none }
def fnPoolRow : OpenClaim := { program := "ytgikjalhiajmjaa", sum := "bdf4d5bacfca783c3f27a1b2527e96ae46a83a7b511d08ffb096babc2eaecbfb", func := "loop.example/reliefmaps/laws.FnPool", spec := "fnPool", unfollowed := true, recurses := true, apart := false }
def FnPoolSaid : Prop := fnPoolRow.holds Try.pinned (OpenSpec.ofChange fnPoolSpec)

/-- ITS FALSE NEIGHBOUR: 'it returns false'. Refute it at one input. -/
def fnPoolWrong : ChangeSpec := { name := "fnPool", fn := fun _ => fun
  | [d] => { results := [.lit (.bool false)], args := [d] }
  | _ => none }
def FnPoolWrongFalsely : Prop := fnPoolRow.holds Try.pinned (OpenSpec.ofChange fnPoolWrong)

/-- 'laws.FnFill': WHATEVER THE INPUT: true; the input reads as it did. -/
def fnFillSpec : ChangeSpec := { name := "fnFill", fn := fun _ => fun
  | [d] => { results := [.lit (.bool true)], args := [d] }
  | _ => none }
def fnFillRow : OpenClaim := { program := "ytgikjalhiajmjaa", sum := "bdf4d5bacfca783c3f27a1b2527e96ae46a83a7b511d08ffb096babc2eaecbfb", func := "loop.example/reliefmaps/laws.FnFill", spec := "fnFill", apart := false }
def FnFillSaid : Prop := fnFillRow.holds Try.pinned (OpenSpec.ofChange fnFillSpec)

/-- ITS FALSE NEIGHBOUR: 'it returns false'. Refute it at one input. -/
def fnFillWrong : ChangeSpec := { name := "fnFill", fn := fun _ => fun
  | [d] => { results := [.lit (.bool false)], args := [d] }
  | _ => none }
def FnFillWrongFalsely : Prop := fnFillRow.holds Try.pinned (OpenSpec.ofChange fnFillWrong)

/-- 'laws.FnDrained': WHATEVER THE INPUT: true; the input reads as it did. -/
def fnDrainedSpec : ChangeSpec := { name := "fnDrained", fn := fun _ => fun
  | [d] => { results := [.lit (.bool true)], args := [d] }
  | _ => none }
def fnDrainedRow : OpenClaim := { program := "ytgikjalhiajmjaa", sum := "bdf4d5bacfca783c3f27a1b2527e96ae46a83a7b511d08ffb096babc2eaecbfb", func := "loop.example/reliefmaps/laws.FnDrained", spec := "fnDrained", unfollowed := true, recurses := true, apart := false }
def FnDrainedSaid : Prop := fnDrainedRow.holds Try.pinned (OpenSpec.ofChange fnDrainedSpec)

/-- ITS FALSE NEIGHBOUR: 'it returns false'. Refute it at one input. -/
def fnDrainedWrong : ChangeSpec := { name := "fnDrained", fn := fun _ => fun
  | [d] => { results := [.lit (.bool false)], args := [d] }
  | _ => none }
def FnDrainedWrongFalsely : Prop := fnDrainedRow.holds Try.pinned (OpenSpec.ofChange fnDrainedWrong)

/- THE SECOND FORM. 'bulk': how many values and letters a reading holds, each counted each time it is reached (what is shared counts as often as it is met; a slice's spare places count too). A statement '..UptoSaid' is the law's where the arguments, and the package variables that the reading takes, are together of bulk at most 1048576: NARROWER than '..Said'. Prove '..Said' where nothing that the law and all that it calls make is longer than what came in: it says more and counts as full. Else prove '..UptoSaid'. A law counts once. -/
mutual
def uptoBulk {H : Type} : DataW H → Nat
  | .lit (.string bytes) => bytes.length + 1
  | .lit _ => 1
  | .nil => 1
  | .ptr d => uptoBulk d + 1
  | .slice elems spare => uptoBulkAll elems + uptoBulkAll spare + 1
  | .agg parts => uptoBulkAll parts + 1
  | .iface _ d => uptoBulk d + 1
  | .map entries => uptoBulkEntries entries + 1
  | .held _ => 1
def uptoBulkAll {H : Type} : List (DataW H) → Nat
  | [] => 0
  | d :: r => uptoBulk d + uptoBulkAll r
def uptoBulkEntries {H : Type} : List (Lit × DataW H) → Nat
  | [] => 0
  | x :: r => uptoBulkEntry x + uptoBulkEntries r
def uptoBulkEntry {H : Type} : Lit × DataW H → Nat
  | (.string bytes, d) => bytes.length + uptoBulk d + 1
  | (_, d) => uptoBulk d + 1
 end
def uptoSmall : (H : Type) → List (DataW H) → Bool := fun _ ds => decide (uptoBulkAll ds ≤ 1048576)
def OpenSpec.upto (s : _root_.Go.ChangeSpec) : _root_.Go.OpenSpec := { _root_.Go.OpenSpec.ofChange s with cond := some uptoSmall }

/-- 'laws.FnExactWaterLeaves', WHERE WHAT IT READS IS OF BULK AT MOST 1048576: true; the input reads as it did. -/
def fnExactWaterLeavesUptoRow : OpenClaim := { program := "ytgikjalhiajmjaa", sum := "bdf4d5bacfca783c3f27a1b2527e96ae46a83a7b511d08ffb096babc2eaecbfb", func := "loop.example/reliefmaps/laws.FnExactWaterLeaves", spec := "fnExactWaterLeaves", apart := false, narrowed := true }
def FnExactWaterLeavesUptoSaid : Prop := fnExactWaterLeavesUptoRow.holds Try.pinned (OpenSpec.upto fnExactWaterLeavesSpec)

/-- 'laws.FnExactWaterSinks', WHERE WHAT IT READS IS OF BULK AT MOST 1048576: true; the input reads as it did. -/
def fnExactWaterSinksUptoRow : OpenClaim := { program := "ytgikjalhiajmjaa", sum := "bdf4d5bacfca783c3f27a1b2527e96ae46a83a7b511d08ffb096babc2eaecbfb", func := "loop.example/reliefmaps/laws.FnExactWaterSinks", spec := "fnExactWaterSinks", apart := false, narrowed := true }
def FnExactWaterSinksUptoSaid : Prop := fnExactWaterSinksUptoRow.holds Try.pinned (OpenSpec.upto fnExactWaterSinksSpec)

/-- 'laws.FnExactWaterPool', WHERE WHAT IT READS IS OF BULK AT MOST 1048576: true; the input reads as it did. -/
def fnExactWaterPoolUptoRow : OpenClaim := { program := "ytgikjalhiajmjaa", sum := "bdf4d5bacfca783c3f27a1b2527e96ae46a83a7b511d08ffb096babc2eaecbfb", func := "loop.example/reliefmaps/laws.FnExactWaterPool", spec := "fnExactWaterPool", apart := false, narrowed := true }
def FnExactWaterPoolUptoSaid : Prop := fnExactWaterPoolUptoRow.holds Try.pinned (OpenSpec.upto fnExactWaterPoolSpec)

/-- 'laws.FnExactWaterDrained', WHERE WHAT IT READS IS OF BULK AT MOST 1048576: true; the input reads as it did. -/
def fnExactWaterDrainedUptoRow : OpenClaim := { program := "ytgikjalhiajmjaa", sum := "bdf4d5bacfca783c3f27a1b2527e96ae46a83a7b511d08ffb096babc2eaecbfb", func := "loop.example/reliefmaps/laws.FnExactWaterDrained", spec := "fnExactWaterDrained", apart := false, narrowed := true }
def FnExactWaterDrainedUptoSaid : Prop := fnExactWaterDrainedUptoRow.holds Try.pinned (OpenSpec.upto fnExactWaterDrainedSpec)

/-- 'laws.FnSinks', WHERE WHAT IT READS IS OF BULK AT MOST 1048576: true; the input reads as it did. -/
def fnSinksUptoRow : OpenClaim := { program := "ytgikjalhiajmjaa", sum := "bdf4d5bacfca783c3f27a1b2527e96ae46a83a7b511d08ffb096babc2eaecbfb", func := "loop.example/reliefmaps/laws.FnSinks", spec := "fnSinks", apart := false, narrowed := true }
def FnSinksUptoSaid : Prop := fnSinksUptoRow.holds Try.pinned (OpenSpec.upto fnSinksSpec)

/-- 'laws.FnWaterNext', WHERE WHAT IT READS IS OF BULK AT MOST 1048576: true; the input reads as it did. -/
def fnWaterNextUptoRow : OpenClaim := { program := "ytgikjalhiajmjaa", sum := "bdf4d5bacfca783c3f27a1b2527e96ae46a83a7b511d08ffb096babc2eaecbfb", func := "loop.example/reliefmaps/laws.FnWaterNext", spec := "fnWaterNext", unfollowed := true, recurses := true, apart := false, narrowed := true }
def FnWaterNextUptoSaid : Prop := fnWaterNextUptoRow.holds Try.pinned (OpenSpec.upto fnWaterNextSpec)

/-- 'laws.FnExactWaterFill', WHERE WHAT IT READS IS OF BULK AT MOST 1048576: true; the input reads as it did. -/
def fnExactWaterFillUptoRow : OpenClaim := { program := "ytgikjalhiajmjaa", sum := "bdf4d5bacfca783c3f27a1b2527e96ae46a83a7b511d08ffb096babc2eaecbfb", func := "loop.example/reliefmaps/laws.FnExactWaterFill", spec := "fnExactWaterFill", apart := false, narrowed := true }
def FnExactWaterFillUptoSaid : Prop := fnExactWaterFillUptoRow.holds Try.pinned (OpenSpec.upto fnExactWaterFillSpec)

/-- 'laws.FnLeaves', WHERE WHAT IT READS IS OF BULK AT MOST 1048576: true; the input reads as it did. -/
def fnLeavesUptoRow : OpenClaim := { program := "ytgikjalhiajmjaa", sum := "bdf4d5bacfca783c3f27a1b2527e96ae46a83a7b511d08ffb096babc2eaecbfb", func := "loop.example/reliefmaps/laws.FnLeaves", spec := "fnLeaves", unfollowed := true, recurses := true, apart := false, narrowed := true }
def FnLeavesUptoSaid : Prop := fnLeavesUptoRow.holds Try.pinned (OpenSpec.upto fnLeavesSpec)

/-- 'laws.FnPool', WHERE WHAT IT READS IS OF BULK AT MOST 1048576: true; the input reads as it did. -/
def fnPoolUptoRow : OpenClaim := { program := "ytgikjalhiajmjaa", sum := "bdf4d5bacfca783c3f27a1b2527e96ae46a83a7b511d08ffb096babc2eaecbfb", func := "loop.example/reliefmaps/laws.FnPool", spec := "fnPool", unfollowed := true, recurses := true, apart := false, narrowed := true }
def FnPoolUptoSaid : Prop := fnPoolUptoRow.holds Try.pinned (OpenSpec.upto fnPoolSpec)

/-- 'laws.FnFill', WHERE WHAT IT READS IS OF BULK AT MOST 1048576: true; the input reads as it did. -/
def fnFillUptoRow : OpenClaim := { program := "ytgikjalhiajmjaa", sum := "bdf4d5bacfca783c3f27a1b2527e96ae46a83a7b511d08ffb096babc2eaecbfb", func := "loop.example/reliefmaps/laws.FnFill", spec := "fnFill", apart := false, narrowed := true }
def FnFillUptoSaid : Prop := fnFillUptoRow.holds Try.pinned (OpenSpec.upto fnFillSpec)

/-- 'laws.FnDrained', WHERE WHAT IT READS IS OF BULK AT MOST 1048576: true; the input reads as it did. -/
def fnDrainedUptoRow : OpenClaim := { program := "ytgikjalhiajmjaa", sum := "bdf4d5bacfca783c3f27a1b2527e96ae46a83a7b511d08ffb096babc2eaecbfb", func := "loop.example/reliefmaps/laws.FnDrained", spec := "fnDrained", unfollowed := true, recurses := true, apart := false, narrowed := true }
def FnDrainedUptoSaid : Prop := fnDrainedUptoRow.holds Try.pinned (OpenSpec.upto fnDrainedSpec)

end Rows
end Go.Proofs.Ytgikjalhiajmjaa
