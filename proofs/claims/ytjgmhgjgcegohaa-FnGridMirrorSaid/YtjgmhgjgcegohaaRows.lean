/-
  No cell of these rows narrows 'for every input' (looked for: loops, veiled, ifaces, maps, wideKeys, modest, calm, conditions, laid).
  DERIVED. THE GIVEN ROWS OF THIS SEAT. 11 by the template 'for every input the law returns true; each argument reads behind the call as it read before'; 0 by the template 'total and deterministic' (their statements: YtjgmhgjgcegohaaTotals.lean).
  GIVEN WITH THE SEED: the statements are not yours to turn. If you find one false, say at which input.
  Laid BY PROGRAM, IN A SANDBOX (cutbox-rows.mjs): the forced cells as the released guide's own fill.sh prints them over the translation e9460fe15072b78f… (all of the seat's roots in one cut). By AI agents, Wed Nov 11 2026. No macro, syntax, notation, axiom, sorry.
-/
import Derived.Test.YtjgmhgjgcegohaaChecked
import GoSem.Claim
import GoSem.ClaimJoined
import GoSem.ClaimMapViews
import Derived.JoinedTies
import Derived.KernelRfl
namespace Go.Proofs.Ytjgmhgjgcegohaa
/- THE CELL 'sum', in the pinned program and in every row, IS THE sha256 OF THE DUMP (.gsa) THAT YtjgmhgjgcegohaaProg.lean LOADS. Nothing in Lean hashes anything: it is a label: what it is worth is what the hold of that sum in a sandbox is worth. -/
noncomputable def Try.pinned : Pinned := { name := "ytjgmhgjgcegohaa", sum := "e9460fe15072b78f62d1ba946ef240a91194d2959b757ea58f0cff443b8494c9", checked := Try.checked }
namespace Rows
def none {H : Type} : Left H := { results := [], args := [] }

/-- 'laws.FnExactConstants': WHATEVER THE INPUT: true; the input reads as it did. -/
def fnExactConstantsSpec : ChangeSpec := { name := "fnExactConstants", fn := fun _ => fun
  | [] => { results := [.lit (.bool true)], args := [] }
  | _ => none }
def fnExactConstantsRow : OpenClaim := { program := "ytjgmhgjgcegohaa", sum := "e9460fe15072b78f62d1ba946ef240a91194d2959b757ea58f0cff443b8494c9", func := "loop.example/reliefmaps/laws.FnExactConstants", spec := "fnExactConstants", apart := false }
def FnExactConstantsSaid : Prop := fnExactConstantsRow.holds Try.pinned (OpenSpec.ofChange fnExactConstantsSpec)

/-- ITS FALSE NEIGHBOUR: 'it returns false'. Refute it at one input. -/
def fnExactConstantsWrong : ChangeSpec := { name := "fnExactConstants", fn := fun _ => fun
  | [] => { results := [.lit (.bool false)], args := [] }
  | _ => none }
def FnExactConstantsWrongFalsely : Prop := fnExactConstantsRow.holds Try.pinned (OpenSpec.ofChange fnExactConstantsWrong)

/-- 'laws.FnExactGridValid': WHATEVER THE INPUT: true; the input reads as it did. -/
def fnExactGridValidSpec : ChangeSpec := { name := "fnExactGridValid", fn := fun _ => fun
  | [d] => { results := [.lit (.bool true)], args := [d] }
  | _ => none }
def fnExactGridValidRow : OpenClaim := { program := "ytjgmhgjgcegohaa", sum := "e9460fe15072b78f62d1ba946ef240a91194d2959b757ea58f0cff443b8494c9", func := "loop.example/reliefmaps/laws.FnExactGridValid", spec := "fnExactGridValid", apart := false }
def FnExactGridValidSaid : Prop := fnExactGridValidRow.holds Try.pinned (OpenSpec.ofChange fnExactGridValidSpec)

/-- ITS FALSE NEIGHBOUR: 'it returns false'. Refute it at one input. -/
def fnExactGridValidWrong : ChangeSpec := { name := "fnExactGridValid", fn := fun _ => fun
  | [d] => { results := [.lit (.bool false)], args := [d] }
  | _ => none }
def FnExactGridValidWrongFalsely : Prop := fnExactGridValidRow.holds Try.pinned (OpenSpec.ofChange fnExactGridValidWrong)

/-- 'laws.FnExactGridAt': WHATEVER THE INPUT: true; the input reads as it did. -/
def fnExactGridAtSpec : ChangeSpec := { name := "fnExactGridAt", fn := fun _ => fun
  | [d1, d2, d3] => { results := [.lit (.bool true)], args := [d1, d2, d3] }
  | _ => none }
def fnExactGridAtRow : OpenClaim := { program := "ytjgmhgjgcegohaa", sum := "e9460fe15072b78f62d1ba946ef240a91194d2959b757ea58f0cff443b8494c9", func := "loop.example/reliefmaps/laws.FnExactGridAt", spec := "fnExactGridAt", apart := false }
def FnExactGridAtSaid : Prop := fnExactGridAtRow.holds Try.pinned (OpenSpec.ofChange fnExactGridAtSpec)

/-- ITS FALSE NEIGHBOUR: 'it returns false'. Refute it at one input. -/
def fnExactGridAtWrong : ChangeSpec := { name := "fnExactGridAt", fn := fun _ => fun
  | [d1, d2, d3] => { results := [.lit (.bool false)], args := [d1, d2, d3] }
  | _ => none }
def FnExactGridAtWrongFalsely : Prop := fnExactGridAtRow.holds Try.pinned (OpenSpec.ofChange fnExactGridAtWrong)

/-- 'laws.FnGridRange': WHATEVER THE INPUT: true; the input reads as it did. -/
def fnGridRangeSpec : ChangeSpec := { name := "fnGridRange", fn := fun _ => fun
  | [d] => { results := [.lit (.bool true)], args := [d] }
  | _ => none }
def fnGridRangeRow : OpenClaim := { program := "ytjgmhgjgcegohaa", sum := "e9460fe15072b78f62d1ba946ef240a91194d2959b757ea58f0cff443b8494c9", func := "loop.example/reliefmaps/laws.FnGridRange", spec := "fnGridRange", apart := false }
def FnGridRangeSaid : Prop := fnGridRangeRow.holds Try.pinned (OpenSpec.ofChange fnGridRangeSpec)

/-- ITS FALSE NEIGHBOUR: 'it returns false'. Refute it at one input. -/
def fnGridRangeWrong : ChangeSpec := { name := "fnGridRange", fn := fun _ => fun
  | [d] => { results := [.lit (.bool false)], args := [d] }
  | _ => none }
def FnGridRangeWrongFalsely : Prop := fnGridRangeRow.holds Try.pinned (OpenSpec.ofChange fnGridRangeWrong)

/-- 'laws.FnExactGridRange': WHATEVER THE INPUT: true; the input reads as it did. -/
def fnExactGridRangeSpec : ChangeSpec := { name := "fnExactGridRange", fn := fun _ => fun
  | [d] => { results := [.lit (.bool true)], args := [d] }
  | _ => none }
def fnExactGridRangeRow : OpenClaim := { program := "ytjgmhgjgcegohaa", sum := "e9460fe15072b78f62d1ba946ef240a91194d2959b757ea58f0cff443b8494c9", func := "loop.example/reliefmaps/laws.FnExactGridRange", spec := "fnExactGridRange", apart := false }
def FnExactGridRangeSaid : Prop := fnExactGridRangeRow.holds Try.pinned (OpenSpec.ofChange fnExactGridRangeSpec)

/-- ITS FALSE NEIGHBOUR: 'it returns false'. Refute it at one input. -/
def fnExactGridRangeWrong : ChangeSpec := { name := "fnExactGridRange", fn := fun _ => fun
  | [d] => { results := [.lit (.bool false)], args := [d] }
  | _ => none }
def FnExactGridRangeWrongFalsely : Prop := fnExactGridRangeRow.holds Try.pinned (OpenSpec.ofChange fnExactGridRangeWrong)

/-- 'laws.FnExactLevelGreatest': WHATEVER THE INPUT: true; the input reads as it did. -/
def fnExactLevelGreatestSpec : ChangeSpec := { name := "fnExactLevelGreatest", fn := fun _ => fun
  | [d] => { results := [.lit (.bool true)], args := [d] }
  | _ => none }
def fnExactLevelGreatestRow : OpenClaim := { program := "ytjgmhgjgcegohaa", sum := "e9460fe15072b78f62d1ba946ef240a91194d2959b757ea58f0cff443b8494c9", func := "loop.example/reliefmaps/laws.FnExactLevelGreatest", spec := "fnExactLevelGreatest", apart := false }
def FnExactLevelGreatestSaid : Prop := fnExactLevelGreatestRow.holds Try.pinned (OpenSpec.ofChange fnExactLevelGreatestSpec)

/-- ITS FALSE NEIGHBOUR: 'it returns false'. Refute it at one input. -/
def fnExactLevelGreatestWrong : ChangeSpec := { name := "fnExactLevelGreatest", fn := fun _ => fun
  | [d] => { results := [.lit (.bool false)], args := [d] }
  | _ => none }
def FnExactLevelGreatestWrongFalsely : Prop := fnExactLevelGreatestRow.holds Try.pinned (OpenSpec.ofChange fnExactLevelGreatestWrong)

/-- 'laws.FnExactLevelCorners': WHATEVER THE INPUT: true; the input reads as it did. -/
def fnExactLevelCornersSpec : ChangeSpec := { name := "fnExactLevelCorners", fn := fun _ => fun
  | [d1, d2] => { results := [.lit (.bool true)], args := [d1, d2] }
  | _ => none }
def fnExactLevelCornersRow : OpenClaim := { program := "ytjgmhgjgcegohaa", sum := "e9460fe15072b78f62d1ba946ef240a91194d2959b757ea58f0cff443b8494c9", func := "loop.example/reliefmaps/laws.FnExactLevelCorners", spec := "fnExactLevelCorners", apart := false }
def FnExactLevelCornersSaid : Prop := fnExactLevelCornersRow.holds Try.pinned (OpenSpec.ofChange fnExactLevelCornersSpec)

/-- ITS FALSE NEIGHBOUR: 'it returns false'. Refute it at one input. -/
def fnExactLevelCornersWrong : ChangeSpec := { name := "fnExactLevelCorners", fn := fun _ => fun
  | [d1, d2] => { results := [.lit (.bool false)], args := [d1, d2] }
  | _ => none }
def FnExactLevelCornersWrongFalsely : Prop := fnExactLevelCornersRow.holds Try.pinned (OpenSpec.ofChange fnExactLevelCornersWrong)

/-- 'laws.FnExactGridSet': WHATEVER THE INPUT: true; the input reads as it did. -/
def fnExactGridSetSpec : ChangeSpec := { name := "fnExactGridSet", fn := fun _ => fun
  | [d1, d2, d3, d4] => { results := [.lit (.bool true)], args := [d1, d2, d3, d4] }
  | _ => none }
def fnExactGridSetRow : OpenClaim := { program := "ytjgmhgjgcegohaa", sum := "e9460fe15072b78f62d1ba946ef240a91194d2959b757ea58f0cff443b8494c9", func := "loop.example/reliefmaps/laws.FnExactGridSet", spec := "fnExactGridSet", apart := false }
def FnExactGridSetSaid : Prop := fnExactGridSetRow.holds Try.pinned (OpenSpec.ofChange fnExactGridSetSpec)

/-- ITS FALSE NEIGHBOUR: 'it returns false'. Refute it at one input. -/
def fnExactGridSetWrong : ChangeSpec := { name := "fnExactGridSet", fn := fun _ => fun
  | [d1, d2, d3, d4] => { results := [.lit (.bool false)], args := [d1, d2, d3, d4] }
  | _ => none }
def FnExactGridSetWrongFalsely : Prop := fnExactGridSetRow.holds Try.pinned (OpenSpec.ofChange fnExactGridSetWrong)

/-- 'laws.FnGridMirror': WHATEVER THE INPUT: true; the input reads as it did. -/
def fnGridMirrorSpec : ChangeSpec := { name := "fnGridMirror", fn := fun _ => fun
  | [d] => { results := [.lit (.bool true)], args := [d] }
  | _ => none }
def fnGridMirrorRow : OpenClaim := { program := "ytjgmhgjgcegohaa", sum := "e9460fe15072b78f62d1ba946ef240a91194d2959b757ea58f0cff443b8494c9", func := "loop.example/reliefmaps/laws.FnGridMirror", spec := "fnGridMirror", unfollowed := true, recurses := true, apart := false }
def FnGridMirrorSaid : Prop := fnGridMirrorRow.holds Try.pinned (OpenSpec.ofChange fnGridMirrorSpec)

/-- ITS FALSE NEIGHBOUR: 'it returns false'. Refute it at one input. -/
def fnGridMirrorWrong : ChangeSpec := { name := "fnGridMirror", fn := fun _ => fun
  | [d] => { results := [.lit (.bool false)], args := [d] }
  | _ => none }
def FnGridMirrorWrongFalsely : Prop := fnGridMirrorRow.holds Try.pinned (OpenSpec.ofChange fnGridMirrorWrong)

/-- 'laws.FnGridTurn': WHATEVER THE INPUT: true; the input reads as it did. -/
def fnGridTurnSpec : ChangeSpec := { name := "fnGridTurn", fn := fun _ => fun
  | [d] => { results := [.lit (.bool true)], args := [d] }
  | _ => none }
def fnGridTurnRow : OpenClaim := { program := "ytjgmhgjgcegohaa", sum := "e9460fe15072b78f62d1ba946ef240a91194d2959b757ea58f0cff443b8494c9", func := "loop.example/reliefmaps/laws.FnGridTurn", spec := "fnGridTurn", unfollowed := true, recurses := true, apart := false }
def FnGridTurnSaid : Prop := fnGridTurnRow.holds Try.pinned (OpenSpec.ofChange fnGridTurnSpec)

/-- ITS FALSE NEIGHBOUR: 'it returns false'. Refute it at one input. -/
def fnGridTurnWrong : ChangeSpec := { name := "fnGridTurn", fn := fun _ => fun
  | [d] => { results := [.lit (.bool false)], args := [d] }
  | _ => none }
def FnGridTurnWrongFalsely : Prop := fnGridTurnRow.holds Try.pinned (OpenSpec.ofChange fnGridTurnWrong)

/-- 'laws.FnExactGridText': WHATEVER THE INPUT: true; the input reads as it did. -/
def fnExactGridTextSpec : ChangeSpec := { name := "fnExactGridText", fn := fun _ => fun
  | [d] => { results := [.lit (.bool true)], args := [d] }
  | _ => none }
def fnExactGridTextRow : OpenClaim := { program := "ytjgmhgjgcegohaa", sum := "e9460fe15072b78f62d1ba946ef240a91194d2959b757ea58f0cff443b8494c9", func := "loop.example/reliefmaps/laws.FnExactGridText", spec := "fnExactGridText", inPlace := ["internal/abi.NoEscape"], recurses := true, apart := false }
def FnExactGridTextSaid : Prop := fnExactGridTextRow.holds Try.pinned (OpenSpec.ofChange fnExactGridTextSpec)

/-- ITS FALSE NEIGHBOUR: 'it returns false'. Refute it at one input. -/
def fnExactGridTextWrong : ChangeSpec := { name := "fnExactGridText", fn := fun _ => fun
  | [d] => { results := [.lit (.bool false)], args := [d] }
  | _ => none }
def FnExactGridTextWrongFalsely : Prop := fnExactGridTextRow.holds Try.pinned (OpenSpec.ofChange fnExactGridTextWrong)

/- THE SECOND FORM. 'bulk': how many values and letters a reading holds, each counted each time it is reached (what is shared counts as often as it is met; a slice's spare places count too). A statement '..UptoSaid' is the law's where the arguments, and the package variables that the reading takes, are together of bulk at most 1048576: NARROWER than '..Said'. Prove '..Said' where nothing that the law and all that it calls make is longer than what came in: it says more and counts as full. Else prove '..UptoSaid'. A law counts once. -/
mutual
def uptoBulk {H : Type} : DataW H → Nat
  | .lit (.string bytes) => bytes.length + 1
  | .lit _ => 1
  | .nil => 1
  | .ptr d => uptoBulk d + 1
  | .slice elems spare => uptoBulkAll elems + uptoBulkAll spare + 1
  | .agg parts => uptoBulkAll parts + 1
  | .iface _ d => uptoBulk d + 1
  | .map entries => uptoBulkEntries entries + 1
  | .held _ => 1
def uptoBulkAll {H : Type} : List (DataW H) → Nat
  | [] => 0
  | d :: r => uptoBulk d + uptoBulkAll r
def uptoBulkEntries {H : Type} : List (Lit × DataW H) → Nat
  | [] => 0
  | x :: r => uptoBulkEntry x + uptoBulkEntries r
def uptoBulkEntry {H : Type} : Lit × DataW H → Nat
  | (.string bytes, d) => bytes.length + uptoBulk d + 1
  | (_, d) => uptoBulk d + 1
 end
def uptoSmall : (H : Type) → List (DataW H) → Bool := fun _ ds => decide (uptoBulkAll ds ≤ 1048576)
def OpenSpec.upto (s : _root_.Go.ChangeSpec) : _root_.Go.OpenSpec := { _root_.Go.OpenSpec.ofChange s with cond := some uptoSmall }

/-- 'laws.FnExactConstants', WHERE WHAT IT READS IS OF BULK AT MOST 1048576: true; the input reads as it did. -/
def fnExactConstantsUptoRow : OpenClaim := { program := "ytjgmhgjgcegohaa", sum := "e9460fe15072b78f62d1ba946ef240a91194d2959b757ea58f0cff443b8494c9", func := "loop.example/reliefmaps/laws.FnExactConstants", spec := "fnExactConstants", apart := false, narrowed := true }
def FnExactConstantsUptoSaid : Prop := fnExactConstantsUptoRow.holds Try.pinned (OpenSpec.upto fnExactConstantsSpec)

/-- 'laws.FnExactGridValid', WHERE WHAT IT READS IS OF BULK AT MOST 1048576: true; the input reads as it did. -/
def fnExactGridValidUptoRow : OpenClaim := { program := "ytjgmhgjgcegohaa", sum := "e9460fe15072b78f62d1ba946ef240a91194d2959b757ea58f0cff443b8494c9", func := "loop.example/reliefmaps/laws.FnExactGridValid", spec := "fnExactGridValid", apart := false, narrowed := true }
def FnExactGridValidUptoSaid : Prop := fnExactGridValidUptoRow.holds Try.pinned (OpenSpec.upto fnExactGridValidSpec)

/-- 'laws.FnExactGridAt', WHERE WHAT IT READS IS OF BULK AT MOST 1048576: true; the input reads as it did. -/
def fnExactGridAtUptoRow : OpenClaim := { program := "ytjgmhgjgcegohaa", sum := "e9460fe15072b78f62d1ba946ef240a91194d2959b757ea58f0cff443b8494c9", func := "loop.example/reliefmaps/laws.FnExactGridAt", spec := "fnExactGridAt", apart := false, narrowed := true }
def FnExactGridAtUptoSaid : Prop := fnExactGridAtUptoRow.holds Try.pinned (OpenSpec.upto fnExactGridAtSpec)

/-- 'laws.FnGridRange', WHERE WHAT IT READS IS OF BULK AT MOST 1048576: true; the input reads as it did. -/
def fnGridRangeUptoRow : OpenClaim := { program := "ytjgmhgjgcegohaa", sum := "e9460fe15072b78f62d1ba946ef240a91194d2959b757ea58f0cff443b8494c9", func := "loop.example/reliefmaps/laws.FnGridRange", spec := "fnGridRange", apart := false, narrowed := true }
def FnGridRangeUptoSaid : Prop := fnGridRangeUptoRow.holds Try.pinned (OpenSpec.upto fnGridRangeSpec)

/-- 'laws.FnExactGridRange', WHERE WHAT IT READS IS OF BULK AT MOST 1048576: true; the input reads as it did. -/
def fnExactGridRangeUptoRow : OpenClaim := { program := "ytjgmhgjgcegohaa", sum := "e9460fe15072b78f62d1ba946ef240a91194d2959b757ea58f0cff443b8494c9", func := "loop.example/reliefmaps/laws.FnExactGridRange", spec := "fnExactGridRange", apart := false, narrowed := true }
def FnExactGridRangeUptoSaid : Prop := fnExactGridRangeUptoRow.holds Try.pinned (OpenSpec.upto fnExactGridRangeSpec)

/-- 'laws.FnExactLevelGreatest', WHERE WHAT IT READS IS OF BULK AT MOST 1048576: true; the input reads as it did. -/
def fnExactLevelGreatestUptoRow : OpenClaim := { program := "ytjgmhgjgcegohaa", sum := "e9460fe15072b78f62d1ba946ef240a91194d2959b757ea58f0cff443b8494c9", func := "loop.example/reliefmaps/laws.FnExactLevelGreatest", spec := "fnExactLevelGreatest", apart := false, narrowed := true }
def FnExactLevelGreatestUptoSaid : Prop := fnExactLevelGreatestUptoRow.holds Try.pinned (OpenSpec.upto fnExactLevelGreatestSpec)

/-- 'laws.FnExactLevelCorners', WHERE WHAT IT READS IS OF BULK AT MOST 1048576: true; the input reads as it did. -/
def fnExactLevelCornersUptoRow : OpenClaim := { program := "ytjgmhgjgcegohaa", sum := "e9460fe15072b78f62d1ba946ef240a91194d2959b757ea58f0cff443b8494c9", func := "loop.example/reliefmaps/laws.FnExactLevelCorners", spec := "fnExactLevelCorners", apart := false, narrowed := true }
def FnExactLevelCornersUptoSaid : Prop := fnExactLevelCornersUptoRow.holds Try.pinned (OpenSpec.upto fnExactLevelCornersSpec)

/-- 'laws.FnExactGridSet', WHERE WHAT IT READS IS OF BULK AT MOST 1048576: true; the input reads as it did. -/
def fnExactGridSetUptoRow : OpenClaim := { program := "ytjgmhgjgcegohaa", sum := "e9460fe15072b78f62d1ba946ef240a91194d2959b757ea58f0cff443b8494c9", func := "loop.example/reliefmaps/laws.FnExactGridSet", spec := "fnExactGridSet", apart := false, narrowed := true }
def FnExactGridSetUptoSaid : Prop := fnExactGridSetUptoRow.holds Try.pinned (OpenSpec.upto fnExactGridSetSpec)

/-- 'laws.FnGridMirror', WHERE WHAT IT READS IS OF BULK AT MOST 1048576: true; the input reads as it did. -/
def fnGridMirrorUptoRow : OpenClaim := { program := "ytjgmhgjgcegohaa", sum := "e9460fe15072b78f62d1ba946ef240a91194d2959b757ea58f0cff443b8494c9", func := "loop.example/reliefmaps/laws.FnGridMirror", spec := "fnGridMirror", unfollowed := true, recurses := true, apart := false, narrowed := true }
def FnGridMirrorUptoSaid : Prop := fnGridMirrorUptoRow.holds Try.pinned (OpenSpec.upto fnGridMirrorSpec)

/-- 'laws.FnGridTurn', WHERE WHAT IT READS IS OF BULK AT MOST 1048576: true; the input reads as it did. -/
def fnGridTurnUptoRow : OpenClaim := { program := "ytjgmhgjgcegohaa", sum := "e9460fe15072b78f62d1ba946ef240a91194d2959b757ea58f0cff443b8494c9", func := "loop.example/reliefmaps/laws.FnGridTurn", spec := "fnGridTurn", unfollowed := true, recurses := true, apart := false, narrowed := true }
def FnGridTurnUptoSaid : Prop := fnGridTurnUptoRow.holds Try.pinned (OpenSpec.upto fnGridTurnSpec)

/-- 'laws.FnExactGridText', WHERE WHAT IT READS IS OF BULK AT MOST 1048576: true; the input reads as it did. -/
def fnExactGridTextUptoRow : OpenClaim := { program := "ytjgmhgjgcegohaa", sum := "e9460fe15072b78f62d1ba946ef240a91194d2959b757ea58f0cff443b8494c9", func := "loop.example/reliefmaps/laws.FnExactGridText", spec := "fnExactGridText", inPlace := ["internal/abi.NoEscape"], recurses := true, apart := false, narrowed := true }
def FnExactGridTextUptoSaid : Prop := fnExactGridTextUptoRow.holds Try.pinned (OpenSpec.upto fnExactGridTextSpec)

end Rows
end Go.Proofs.Ytjgmhgjgcegohaa
