/-
  No cell of these rows narrows 'for every input' (looked for: loops, veiled, ifaces, maps, wideKeys, modest, calm, conditions, laid).
  DERIVED. THE GIVEN ROWS OF THIS SEAT. 13 by the template 'for every input the law returns true; each argument reads behind the call as it read before'; 0 by the template 'total and deterministic' (their statements: YtgekjhmjjjkibaaTotals.lean).
  GIVEN WITH THE SEED: the statements are not yours to turn. If you find one false, say at which input.
  Laid BY PROGRAM, IN A SANDBOX (cutbox-rows.mjs): the forced cells as the released guide's own fill.sh prints them over the translation c52077469bf5ea85… (all of the seat's roots in one cut). By AI agents, Wed Nov 11 2026. No macro, syntax, notation, axiom, sorry.
-/
import Derived.Test.YtgekjhmjjjkibaaChecked
import GoSem.Claim
import GoSem.ClaimJoined
import GoSem.ClaimMapViews
import Derived.JoinedTies
import Derived.KernelRfl
namespace Go.Proofs.Ytgekjhmjjjkibaa
/- THE CELL 'sum', in the pinned program and in every row, IS THE sha256 OF THE DUMP (.gsa) THAT YtgekjhmjjjkibaaProg.lean LOADS. Nothing in Lean hashes anything: it is a label: what it is worth is what the hold of that sum in a sandbox is worth. -/
noncomputable def Try.pinned : Pinned := { name := "ytgekjhmjjjkibaa", sum := "c52077469bf5ea853d69677715f304d88ee6e5dbfa0098dfe81251cce751a388", checked := Try.checked }
namespace Rows
def none {H : Type} : Left H := { results := [], args := [] }

/-- 'laws.FnExactLevelLakes': WHATEVER THE INPUT: true; the input reads as it did. -/
def fnExactLevelLakesSpec : ChangeSpec := { name := "fnExactLevelLakes", fn := fun _ => fun
  | [d1, d2] => { results := [.lit (.bool true)], args := [d1, d2] }
  | _ => none }
def fnExactLevelLakesRow : OpenClaim := { program := "ytgekjhmjjjkibaa", sum := "c52077469bf5ea853d69677715f304d88ee6e5dbfa0098dfe81251cce751a388", func := "loop.example/reliefmaps/laws.FnExactLevelLakes", spec := "fnExactLevelLakes", apart := false }
def FnExactLevelLakesSaid : Prop := fnExactLevelLakesRow.holds Try.pinned (OpenSpec.ofChange fnExactLevelLakesSpec)

/-- ITS FALSE NEIGHBOUR: 'it returns false'. Refute it at one input. -/
def fnExactLevelLakesWrong : ChangeSpec := { name := "fnExactLevelLakes", fn := fun _ => fun
  | [d1, d2] => { results := [.lit (.bool false)], args := [d1, d2] }
  | _ => none }
def FnExactLevelLakesWrongFalsely : Prop := fnExactLevelLakesRow.holds Try.pinned (OpenSpec.ofChange fnExactLevelLakesWrong)

/-- 'laws.FnExactLevelRegions': WHATEVER THE INPUT: true; the input reads as it did. -/
def fnExactLevelRegionsSpec : ChangeSpec := { name := "fnExactLevelRegions", fn := fun _ => fun
  | [d1, d2] => { results := [.lit (.bool true)], args := [d1, d2] }
  | _ => none }
def fnExactLevelRegionsRow : OpenClaim := { program := "ytgekjhmjjjkibaa", sum := "c52077469bf5ea853d69677715f304d88ee6e5dbfa0098dfe81251cce751a388", func := "loop.example/reliefmaps/laws.FnExactLevelRegions", spec := "fnExactLevelRegions", apart := false }
def FnExactLevelRegionsSaid : Prop := fnExactLevelRegionsRow.holds Try.pinned (OpenSpec.ofChange fnExactLevelRegionsSpec)

/-- ITS FALSE NEIGHBOUR: 'it returns false'. Refute it at one input. -/
def fnExactLevelRegionsWrong : ChangeSpec := { name := "fnExactLevelRegions", fn := fun _ => fun
  | [d1, d2] => { results := [.lit (.bool false)], args := [d1, d2] }
  | _ => none }
def FnExactLevelRegionsWrongFalsely : Prop := fnExactLevelRegionsRow.holds Try.pinned (OpenSpec.ofChange fnExactLevelRegionsWrong)

/-- 'laws.FnExactLevelWhole': WHATEVER THE INPUT: true; the input reads as it did. -/
def fnExactLevelWholeSpec : ChangeSpec := { name := "fnExactLevelWhole", fn := fun _ => fun
  | [d] => { results := [.lit (.bool true)], args := [d] }
  | _ => none }
def fnExactLevelWholeRow : OpenClaim := { program := "ytgekjhmjjjkibaa", sum := "c52077469bf5ea853d69677715f304d88ee6e5dbfa0098dfe81251cce751a388", func := "loop.example/reliefmaps/laws.FnExactLevelWhole", spec := "fnExactLevelWhole", apart := false }
def FnExactLevelWholeSaid : Prop := fnExactLevelWholeRow.holds Try.pinned (OpenSpec.ofChange fnExactLevelWholeSpec)

/-- ITS FALSE NEIGHBOUR: 'it returns false'. Refute it at one input. -/
def fnExactLevelWholeWrong : ChangeSpec := { name := "fnExactLevelWhole", fn := fun _ => fun
  | [d] => { results := [.lit (.bool false)], args := [d] }
  | _ => none }
def FnExactLevelWholeWrongFalsely : Prop := fnExactLevelWholeRow.holds Try.pinned (OpenSpec.ofChange fnExactLevelWholeWrong)

/-- 'laws.FnExactLevelNumbers': WHATEVER THE INPUT: true; the input reads as it did. -/
def fnExactLevelNumbersSpec : ChangeSpec := { name := "fnExactLevelNumbers", fn := fun _ => fun
  | [d1, d2] => { results := [.lit (.bool true)], args := [d1, d2] }
  | _ => none }
def fnExactLevelNumbersRow : OpenClaim := { program := "ytgekjhmjjjkibaa", sum := "c52077469bf5ea853d69677715f304d88ee6e5dbfa0098dfe81251cce751a388", func := "loop.example/reliefmaps/laws.FnExactLevelNumbers", spec := "fnExactLevelNumbers", apart := false }
def FnExactLevelNumbersSaid : Prop := fnExactLevelNumbersRow.holds Try.pinned (OpenSpec.ofChange fnExactLevelNumbersSpec)

/-- ITS FALSE NEIGHBOUR: 'it returns false'. Refute it at one input. -/
def fnExactLevelNumbersWrong : ChangeSpec := { name := "fnExactLevelNumbers", fn := fun _ => fun
  | [d1, d2] => { results := [.lit (.bool false)], args := [d1, d2] }
  | _ => none }
def FnExactLevelNumbersWrongFalsely : Prop := fnExactLevelNumbersRow.holds Try.pinned (OpenSpec.ofChange fnExactLevelNumbersWrong)

/-- 'laws.FnExactLevelArea': WHATEVER THE INPUT: true; the input reads as it did. -/
def fnExactLevelAreaSpec : ChangeSpec := { name := "fnExactLevelArea", fn := fun _ => fun
  | [d1, d2, d3] => { results := [.lit (.bool true)], args := [d1, d2, d3] }
  | _ => none }
def fnExactLevelAreaRow : OpenClaim := { program := "ytgekjhmjjjkibaa", sum := "c52077469bf5ea853d69677715f304d88ee6e5dbfa0098dfe81251cce751a388", func := "loop.example/reliefmaps/laws.FnExactLevelArea", spec := "fnExactLevelArea", apart := false }
def FnExactLevelAreaSaid : Prop := fnExactLevelAreaRow.holds Try.pinned (OpenSpec.ofChange fnExactLevelAreaSpec)

/-- ITS FALSE NEIGHBOUR: 'it returns false'. Refute it at one input. -/
def fnExactLevelAreaWrong : ChangeSpec := { name := "fnExactLevelArea", fn := fun _ => fun
  | [d1, d2, d3] => { results := [.lit (.bool false)], args := [d1, d2, d3] }
  | _ => none }
def FnExactLevelAreaWrongFalsely : Prop := fnExactLevelAreaRow.holds Try.pinned (OpenSpec.ofChange fnExactLevelAreaWrong)

/-- 'laws.FnWhole': WHATEVER THE INPUT: true; the input reads as it did. -/
def fnWholeSpec : ChangeSpec := { name := "fnWhole", fn := fun _ => fun
  | [d] => { results := [.lit (.bool true)], args := [d] }
  | _ => none }
def fnWholeRow : OpenClaim := { program := "ytgekjhmjjjkibaa", sum := "c52077469bf5ea853d69677715f304d88ee6e5dbfa0098dfe81251cce751a388", func := "loop.example/reliefmaps/laws.FnWhole", spec := "fnWhole", apart := false }
def FnWholeSaid : Prop := fnWholeRow.holds Try.pinned (OpenSpec.ofChange fnWholeSpec)

/-- ITS FALSE NEIGHBOUR: 'it returns false'. Refute it at one input. -/
def fnWholeWrong : ChangeSpec := { name := "fnWhole", fn := fun _ => fun
  | [d] => { results := [.lit (.bool false)], args := [d] }
  | _ => none }
def FnWholeWrongFalsely : Prop := fnWholeRow.holds Try.pinned (OpenSpec.ofChange fnWholeWrong)

/-- 'laws.FnExactLevelInside': WHATEVER THE INPUT: true; the input reads as it did. -/
def fnExactLevelInsideSpec : ChangeSpec := { name := "fnExactLevelInside", fn := fun _ => fun
  | [d1, d2, d3] => { results := [.lit (.bool true)], args := [d1, d2, d3] }
  | _ => none }
def fnExactLevelInsideRow : OpenClaim := { program := "ytgekjhmjjjkibaa", sum := "c52077469bf5ea853d69677715f304d88ee6e5dbfa0098dfe81251cce751a388", func := "loop.example/reliefmaps/laws.FnExactLevelInside", spec := "fnExactLevelInside", apart := false }
def FnExactLevelInsideSaid : Prop := fnExactLevelInsideRow.holds Try.pinned (OpenSpec.ofChange fnExactLevelInsideSpec)

/-- ITS FALSE NEIGHBOUR: 'it returns false'. Refute it at one input. -/
def fnExactLevelInsideWrong : ChangeSpec := { name := "fnExactLevelInside", fn := fun _ => fun
  | [d1, d2, d3] => { results := [.lit (.bool false)], args := [d1, d2, d3] }
  | _ => none }
def FnExactLevelInsideWrongFalsely : Prop := fnExactLevelInsideRow.holds Try.pinned (OpenSpec.ofChange fnExactLevelInsideWrong)

/-- 'laws.FnNumbers': WHATEVER THE INPUT: true; the input reads as it did. -/
def fnNumbersSpec : ChangeSpec := { name := "fnNumbers", fn := fun _ => fun
  | [d] => { results := [.lit (.bool true)], args := [d] }
  | _ => none }
def fnNumbersRow : OpenClaim := { program := "ytgekjhmjjjkibaa", sum := "c52077469bf5ea853d69677715f304d88ee6e5dbfa0098dfe81251cce751a388", func := "loop.example/reliefmaps/laws.FnNumbers", spec := "fnNumbers", apart := false }
def FnNumbersSaid : Prop := fnNumbersRow.holds Try.pinned (OpenSpec.ofChange fnNumbersSpec)

/-- ITS FALSE NEIGHBOUR: 'it returns false'. Refute it at one input. -/
def fnNumbersWrong : ChangeSpec := { name := "fnNumbers", fn := fun _ => fun
  | [d] => { results := [.lit (.bool false)], args := [d] }
  | _ => none }
def FnNumbersWrongFalsely : Prop := fnNumbersRow.holds Try.pinned (OpenSpec.ofChange fnNumbersWrong)

/-- 'laws.FnInside': WHATEVER THE INPUT: true; the input reads as it did. -/
def fnInsideSpec : ChangeSpec := { name := "fnInside", fn := fun _ => fun
  | [d] => { results := [.lit (.bool true)], args := [d] }
  | _ => none }
def fnInsideRow : OpenClaim := { program := "ytgekjhmjjjkibaa", sum := "c52077469bf5ea853d69677715f304d88ee6e5dbfa0098dfe81251cce751a388", func := "loop.example/reliefmaps/laws.FnInside", spec := "fnInside", apart := false }
def FnInsideSaid : Prop := fnInsideRow.holds Try.pinned (OpenSpec.ofChange fnInsideSpec)

/-- ITS FALSE NEIGHBOUR: 'it returns false'. Refute it at one input. -/
def fnInsideWrong : ChangeSpec := { name := "fnInside", fn := fun _ => fun
  | [d] => { results := [.lit (.bool false)], args := [d] }
  | _ => none }
def FnInsideWrongFalsely : Prop := fnInsideRow.holds Try.pinned (OpenSpec.ofChange fnInsideWrong)

/-- 'laws.FnExactPassBetween': WHATEVER THE INPUT: true; the input reads as it did. -/
def fnExactPassBetweenSpec : ChangeSpec := { name := "fnExactPassBetween", fn := fun _ => fun
  | [d1, d2, d3] => { results := [.lit (.bool true)], args := [d1, d2, d3] }
  | _ => none }
def fnExactPassBetweenRow : OpenClaim := { program := "ytgekjhmjjjkibaa", sum := "c52077469bf5ea853d69677715f304d88ee6e5dbfa0098dfe81251cce751a388", func := "loop.example/reliefmaps/laws.FnExactPassBetween", spec := "fnExactPassBetween", unfollowed := true, recurses := true, apart := false }
def FnExactPassBetweenSaid : Prop := fnExactPassBetweenRow.holds Try.pinned (OpenSpec.ofChange fnExactPassBetweenSpec)

/-- ITS FALSE NEIGHBOUR: 'it returns false'. Refute it at one input. -/
def fnExactPassBetweenWrong : ChangeSpec := { name := "fnExactPassBetween", fn := fun _ => fun
  | [d1, d2, d3] => { results := [.lit (.bool false)], args := [d1, d2, d3] }
  | _ => none }
def FnExactPassBetweenWrongFalsely : Prop := fnExactPassBetweenRow.holds Try.pinned (OpenSpec.ofChange fnExactPassBetweenWrong)

/-- 'laws.FnPass': WHATEVER THE INPUT: true; the input reads as it did. -/
def fnPassSpec : ChangeSpec := { name := "fnPass", fn := fun _ => fun
  | [d1, d2] => { results := [.lit (.bool true)], args := [d1, d2] }
  | _ => none }
def fnPassRow : OpenClaim := { program := "ytgekjhmjjjkibaa", sum := "c52077469bf5ea853d69677715f304d88ee6e5dbfa0098dfe81251cce751a388", func := "loop.example/reliefmaps/laws.FnPass", spec := "fnPass", unfollowed := true, recurses := true, apart := false }
def FnPassSaid : Prop := fnPassRow.holds Try.pinned (OpenSpec.ofChange fnPassSpec)

/-- ITS FALSE NEIGHBOUR: 'it returns false'. Refute it at one input. -/
def fnPassWrong : ChangeSpec := { name := "fnPass", fn := fun _ => fun
  | [d1, d2] => { results := [.lit (.bool false)], args := [d1, d2] }
  | _ => none }
def FnPassWrongFalsely : Prop := fnPassRow.holds Try.pinned (OpenSpec.ofChange fnPassWrong)

/-- 'laws.FnExactPeakFlood': WHATEVER THE INPUT: true; the input reads as it did. -/
def fnExactPeakFloodSpec : ChangeSpec := { name := "fnExactPeakFlood", fn := fun _ => fun
  | [d1, d2, d3] => { results := [.lit (.bool true)], args := [d1, d2, d3] }
  | _ => none }
def fnExactPeakFloodRow : OpenClaim := { program := "ytgekjhmjjjkibaa", sum := "c52077469bf5ea853d69677715f304d88ee6e5dbfa0098dfe81251cce751a388", func := "loop.example/reliefmaps/laws.FnExactPeakFlood", spec := "fnExactPeakFlood", apart := false }
def FnExactPeakFloodSaid : Prop := fnExactPeakFloodRow.holds Try.pinned (OpenSpec.ofChange fnExactPeakFloodSpec)

/-- ITS FALSE NEIGHBOUR: 'it returns false'. Refute it at one input. -/
def fnExactPeakFloodWrong : ChangeSpec := { name := "fnExactPeakFlood", fn := fun _ => fun
  | [d1, d2, d3] => { results := [.lit (.bool false)], args := [d1, d2, d3] }
  | _ => none }
def FnExactPeakFloodWrongFalsely : Prop := fnExactPeakFloodRow.holds Try.pinned (OpenSpec.ofChange fnExactPeakFloodWrong)

/-- 'laws.FnExactPeakKey': WHATEVER THE INPUT: true; the input reads as it did. -/
def fnExactPeakKeySpec : ChangeSpec := { name := "fnExactPeakKey", fn := fun _ => fun
  | [d1, d2] => { results := [.lit (.bool true)], args := [d1, d2] }
  | _ => none }
def fnExactPeakKeyRow : OpenClaim := { program := "ytgekjhmjjjkibaa", sum := "c52077469bf5ea853d69677715f304d88ee6e5dbfa0098dfe81251cce751a388", func := "loop.example/reliefmaps/laws.FnExactPeakKey", spec := "fnExactPeakKey", unfollowed := true, recurses := true, apart := false }
def FnExactPeakKeySaid : Prop := fnExactPeakKeyRow.holds Try.pinned (OpenSpec.ofChange fnExactPeakKeySpec)

/-- ITS FALSE NEIGHBOUR: 'it returns false'. Refute it at one input. -/
def fnExactPeakKeyWrong : ChangeSpec := { name := "fnExactPeakKey", fn := fun _ => fun
  | [d1, d2] => { results := [.lit (.bool false)], args := [d1, d2] }
  | _ => none }
def FnExactPeakKeyWrongFalsely : Prop := fnExactPeakKeyRow.holds Try.pinned (OpenSpec.ofChange fnExactPeakKeyWrong)

/- THE SECOND FORM. 'bulk': how many values and letters a reading holds, each counted each time it is reached (what is shared counts as often as it is met; a slice's spare places count too). A statement '..UptoSaid' is the law's where the arguments, and the package variables that the reading takes, are together of bulk at most 1048576: NARROWER than '..Said'. Prove '..Said' where nothing that the law and all that it calls make is longer than what came in: it says more and counts as full. Else prove '..UptoSaid'. A law counts once. -/
mutual
def uptoBulk {H : Type} : DataW H → Nat
  | .lit (.string bytes) => bytes.length + 1
  | .lit _ => 1
  | .nil => 1
  | .ptr d => uptoBulk d + 1
  | .slice elems spare => uptoBulkAll elems + uptoBulkAll spare + 1
  | .agg parts => uptoBulkAll parts + 1
  | .iface _ d => uptoBulk d + 1
  | .map entries => uptoBulkEntries entries + 1
  | .held _ => 1
def uptoBulkAll {H : Type} : List (DataW H) → Nat
  | [] => 0
  | d :: r => uptoBulk d + uptoBulkAll r
def uptoBulkEntries {H : Type} : List (Lit × DataW H) → Nat
  | [] => 0
  | x :: r => uptoBulkEntry x + uptoBulkEntries r
def uptoBulkEntry {H : Type} : Lit × DataW H → Nat
  | (.string bytes, d) => bytes.length + uptoBulk d + 1
  | (_, d) => uptoBulk d + 1
 end
def uptoSmall : (H : Type) → List (DataW H) → Bool := fun _ ds => decide (uptoBulkAll ds ≤ 1048576)
def OpenSpec.upto (s : _root_.Go.ChangeSpec) : _root_.Go.OpenSpec := { _root_.Go.OpenSpec.ofChange s with cond := some uptoSmall }

/-- 'laws.FnExactLevelLakes', WHERE WHAT IT READS IS OF BULK AT MOST 1048576: true; the input reads as it did. -/
def fnExactLevelLakesUptoRow : OpenClaim := { program := "ytgekjhmjjjkibaa", sum := "c52077469bf5ea853d69677715f304d88ee6e5dbfa0098dfe81251cce751a388", func := "loop.example/reliefmaps/laws.FnExactLevelLakes", spec := "fnExactLevelLakes", apart := false, narrowed := true }
def FnExactLevelLakesUptoSaid : Prop := fnExactLevelLakesUptoRow.holds Try.pinned (OpenSpec.upto fnExactLevelLakesSpec)

/-- 'laws.FnExactLevelRegions', WHERE WHAT IT READS IS OF BULK AT MOST 1048576: true; the input reads as it did. -/
def fnExactLevelRegionsUptoRow : OpenClaim := { program := "ytgekjhmjjjkibaa", sum := "c52077469bf5ea853d69677715f304d88ee6e5dbfa0098dfe81251cce751a388", func := "loop.example/reliefmaps/laws.FnExactLevelRegions", spec := "fnExactLevelRegions", apart := false, narrowed := true }
def FnExactLevelRegionsUptoSaid : Prop := fnExactLevelRegionsUptoRow.holds Try.pinned (OpenSpec.upto fnExactLevelRegionsSpec)

/-- 'laws.FnExactLevelWhole', WHERE WHAT IT READS IS OF BULK AT MOST 1048576: true; the input reads as it did. -/
def fnExactLevelWholeUptoRow : OpenClaim := { program := "ytgekjhmjjjkibaa", sum := "c52077469bf5ea853d69677715f304d88ee6e5dbfa0098dfe81251cce751a388", func := "loop.example/reliefmaps/laws.FnExactLevelWhole", spec := "fnExactLevelWhole", apart := false, narrowed := true }
def FnExactLevelWholeUptoSaid : Prop := fnExactLevelWholeUptoRow.holds Try.pinned (OpenSpec.upto fnExactLevelWholeSpec)

/-- 'laws.FnExactLevelNumbers', WHERE WHAT IT READS IS OF BULK AT MOST 1048576: true; the input reads as it did. -/
def fnExactLevelNumbersUptoRow : OpenClaim := { program := "ytgekjhmjjjkibaa", sum := "c52077469bf5ea853d69677715f304d88ee6e5dbfa0098dfe81251cce751a388", func := "loop.example/reliefmaps/laws.FnExactLevelNumbers", spec := "fnExactLevelNumbers", apart := false, narrowed := true }
def FnExactLevelNumbersUptoSaid : Prop := fnExactLevelNumbersUptoRow.holds Try.pinned (OpenSpec.upto fnExactLevelNumbersSpec)

/-- 'laws.FnExactLevelArea', WHERE WHAT IT READS IS OF BULK AT MOST 1048576: true; the input reads as it did. -/
def fnExactLevelAreaUptoRow : OpenClaim := { program := "ytgekjhmjjjkibaa", sum := "c52077469bf5ea853d69677715f304d88ee6e5dbfa0098dfe81251cce751a388", func := "loop.example/reliefmaps/laws.FnExactLevelArea", spec := "fnExactLevelArea", apart := false, narrowed := true }
def FnExactLevelAreaUptoSaid : Prop := fnExactLevelAreaUptoRow.holds Try.pinned (OpenSpec.upto fnExactLevelAreaSpec)

/-- 'laws.FnWhole', WHERE WHAT IT READS IS OF BULK AT MOST 1048576: true; the input reads as it did. -/
def fnWholeUptoRow : OpenClaim := { program := "ytgekjhmjjjkibaa", sum := "c52077469bf5ea853d69677715f304d88ee6e5dbfa0098dfe81251cce751a388", func := "loop.example/reliefmaps/laws.FnWhole", spec := "fnWhole", apart := false, narrowed := true }
def FnWholeUptoSaid : Prop := fnWholeUptoRow.holds Try.pinned (OpenSpec.upto fnWholeSpec)

/-- 'laws.FnExactLevelInside', WHERE WHAT IT READS IS OF BULK AT MOST 1048576: true; the input reads as it did. -/
def fnExactLevelInsideUptoRow : OpenClaim := { program := "ytgekjhmjjjkibaa", sum := "c52077469bf5ea853d69677715f304d88ee6e5dbfa0098dfe81251cce751a388", func := "loop.example/reliefmaps/laws.FnExactLevelInside", spec := "fnExactLevelInside", apart := false, narrowed := true }
def FnExactLevelInsideUptoSaid : Prop := fnExactLevelInsideUptoRow.holds Try.pinned (OpenSpec.upto fnExactLevelInsideSpec)

/-- 'laws.FnNumbers', WHERE WHAT IT READS IS OF BULK AT MOST 1048576: true; the input reads as it did. -/
def fnNumbersUptoRow : OpenClaim := { program := "ytgekjhmjjjkibaa", sum := "c52077469bf5ea853d69677715f304d88ee6e5dbfa0098dfe81251cce751a388", func := "loop.example/reliefmaps/laws.FnNumbers", spec := "fnNumbers", apart := false, narrowed := true }
def FnNumbersUptoSaid : Prop := fnNumbersUptoRow.holds Try.pinned (OpenSpec.upto fnNumbersSpec)

/-- 'laws.FnInside', WHERE WHAT IT READS IS OF BULK AT MOST 1048576: true; the input reads as it did. -/
def fnInsideUptoRow : OpenClaim := { program := "ytgekjhmjjjkibaa", sum := "c52077469bf5ea853d69677715f304d88ee6e5dbfa0098dfe81251cce751a388", func := "loop.example/reliefmaps/laws.FnInside", spec := "fnInside", apart := false, narrowed := true }
def FnInsideUptoSaid : Prop := fnInsideUptoRow.holds Try.pinned (OpenSpec.upto fnInsideSpec)

/-- 'laws.FnExactPassBetween', WHERE WHAT IT READS IS OF BULK AT MOST 1048576: true; the input reads as it did. -/
def fnExactPassBetweenUptoRow : OpenClaim := { program := "ytgekjhmjjjkibaa", sum := "c52077469bf5ea853d69677715f304d88ee6e5dbfa0098dfe81251cce751a388", func := "loop.example/reliefmaps/laws.FnExactPassBetween", spec := "fnExactPassBetween", unfollowed := true, recurses := true, apart := false, narrowed := true }
def FnExactPassBetweenUptoSaid : Prop := fnExactPassBetweenUptoRow.holds Try.pinned (OpenSpec.upto fnExactPassBetweenSpec)

/-- 'laws.FnPass', WHERE WHAT IT READS IS OF BULK AT MOST 1048576: true; the input reads as it did. -/
def fnPassUptoRow : OpenClaim := { program := "ytgekjhmjjjkibaa", sum := "c52077469bf5ea853d69677715f304d88ee6e5dbfa0098dfe81251cce751a388", func := "loop.example/reliefmaps/laws.FnPass", spec := "fnPass", unfollowed := true, recurses := true, apart := false, narrowed := true }
def FnPassUptoSaid : Prop := fnPassUptoRow.holds Try.pinned (OpenSpec.upto fnPassSpec)

/-- 'laws.FnExactPeakFlood', WHERE WHAT IT READS IS OF BULK AT MOST 1048576: true; the input reads as it did. -/
def fnExactPeakFloodUptoRow : OpenClaim := { program := "ytgekjhmjjjkibaa", sum := "c52077469bf5ea853d69677715f304d88ee6e5dbfa0098dfe81251cce751a388", func := "loop.example/reliefmaps/laws.FnExactPeakFlood", spec := "fnExactPeakFlood", apart := false, narrowed := true }
def FnExactPeakFloodUptoSaid : Prop := fnExactPeakFloodUptoRow.holds Try.pinned (OpenSpec.upto fnExactPeakFloodSpec)

/-- 'laws.FnExactPeakKey', WHERE WHAT IT READS IS OF BULK AT MOST 1048576: true; the input reads as it did. -/
def fnExactPeakKeyUptoRow : OpenClaim := { program := "ytgekjhmjjjkibaa", sum := "c52077469bf5ea853d69677715f304d88ee6e5dbfa0098dfe81251cce751a388", func := "loop.example/reliefmaps/laws.FnExactPeakKey", spec := "fnExactPeakKey", unfollowed := true, recurses := true, apart := false, narrowed := true }
def FnExactPeakKeyUptoSaid : Prop := fnExactPeakKeyUptoRow.holds Try.pinned (OpenSpec.upto fnExactPeakKeySpec)

end Rows
end Go.Proofs.Ytgekjhmjjjkibaa
