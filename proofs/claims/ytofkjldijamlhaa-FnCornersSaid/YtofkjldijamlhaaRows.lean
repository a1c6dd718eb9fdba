/-
  No cell of these rows narrows 'for every input' (looked for: loops, veiled, ifaces, maps, wideKeys, modest, calm, conditions, laid).
  DERIVED. THE GIVEN ROWS OF THIS SEAT. 9 by the template 'for every input the law returns true; each argument reads behind the call as it read before'; 0 by the template 'total and deterministic' (their statements: YtofkjldijamlhaaTotals.lean).
  GIVEN WITH THE SEED: the statements are not yours to turn. If you find one false, say at which input.
  Laid BY PROGRAM, IN A SANDBOX (cutbox-rows.mjs): the forced cells as the released guide's own fill.sh prints them over the translation ea44ab43dd44b3f4… (all of the seat's roots in one cut). By AI agents, Wed Nov 11 2026. No macro, syntax, notation, axiom, sorry.
-/
import Derived.Test.YtofkjldijamlhaaChecked
import GoSem.Claim
import GoSem.ClaimJoined
import GoSem.ClaimMapViews
import Derived.JoinedTies
import Derived.KernelRfl
namespace Go.Proofs.Ytofkjldijamlhaa
/- THE CELL 'sum', in the pinned program and in every row, IS THE sha256 OF THE DUMP (.gsa) THAT YtofkjldijamlhaaProg.lean LOADS. Nothing in Lean hashes anything: it is a label: what it is worth is what the hold of that sum in a sandbox is worth. -/
noncomputable def Try.pinned : Pinned := { name := "ytofkjldijamlhaa", sum := "ea44ab43dd44b3f4c615ce4bf9134de3e6339ad3dec9cdc47f843bb37e8828d5", checked := Try.checked }
namespace Rows
def none {H : Type} : Left H := { results := [], args := [] }

/-- 'laws.FnGridInvert': WHATEVER THE INPUT: true; the input reads as it did. -/
def fnGridInvertSpec : ChangeSpec := { name := "fnGridInvert", fn := fun _ => fun
  | [d] => { results := [.lit (.bool true)], args := [d] }
  | _ => none }
def fnGridInvertRow : OpenClaim := { program := "ytofkjldijamlhaa", sum := "ea44ab43dd44b3f4c615ce4bf9134de3e6339ad3dec9cdc47f843bb37e8828d5", func := "loop.example/reliefmaps/laws.FnGridInvert", spec := "fnGridInvert", unfollowed := true, recurses := true, apart := false }
def FnGridInvertSaid : Prop := fnGridInvertRow.holds Try.pinned (OpenSpec.ofChange fnGridInvertSpec)

/-- ITS FALSE NEIGHBOUR: 'it returns false'. Refute it at one input. -/
def fnGridInvertWrong : ChangeSpec := { name := "fnGridInvert", fn := fun _ => fun
  | [d] => { results := [.lit (.bool false)], args := [d] }
  | _ => none }
def FnGridInvertWrongFalsely : Prop := fnGridInvertRow.holds Try.pinned (OpenSpec.ofChange fnGridInvertWrong)

/-- 'laws.FnGridRaise': WHATEVER THE INPUT: true; the input reads as it did. -/
def fnGridRaiseSpec : ChangeSpec := { name := "fnGridRaise", fn := fun _ => fun
  | [d] => { results := [.lit (.bool true)], args := [d] }
  | _ => none }
def fnGridRaiseRow : OpenClaim := { program := "ytofkjldijamlhaa", sum := "ea44ab43dd44b3f4c615ce4bf9134de3e6339ad3dec9cdc47f843bb37e8828d5", func := "loop.example/reliefmaps/laws.FnGridRaise", spec := "fnGridRaise", unfollowed := true, recurses := true, apart := false }
def FnGridRaiseSaid : Prop := fnGridRaiseRow.holds Try.pinned (OpenSpec.ofChange fnGridRaiseSpec)

/-- ITS FALSE NEIGHBOUR: 'it returns false'. Refute it at one input. -/
def fnGridRaiseWrong : ChangeSpec := { name := "fnGridRaise", fn := fun _ => fun
  | [d] => { results := [.lit (.bool false)], args := [d] }
  | _ => none }
def FnGridRaiseWrongFalsely : Prop := fnGridRaiseRow.holds Try.pinned (OpenSpec.ofChange fnGridRaiseWrong)

/-- 'laws.FnGridPart': WHATEVER THE INPUT: true; the input reads as it did. -/
def fnGridPartSpec : ChangeSpec := { name := "fnGridPart", fn := fun _ => fun
  | [d] => { results := [.lit (.bool true)], args := [d] }
  | _ => none }
def fnGridPartRow : OpenClaim := { program := "ytofkjldijamlhaa", sum := "ea44ab43dd44b3f4c615ce4bf9134de3e6339ad3dec9cdc47f843bb37e8828d5", func := "loop.example/reliefmaps/laws.FnGridPart", spec := "fnGridPart", unfollowed := true, recurses := true, apart := false }
def FnGridPartSaid : Prop := fnGridPartRow.holds Try.pinned (OpenSpec.ofChange fnGridPartSpec)

/-- ITS FALSE NEIGHBOUR: 'it returns false'. Refute it at one input. -/
def fnGridPartWrong : ChangeSpec := { name := "fnGridPart", fn := fun _ => fun
  | [d] => { results := [.lit (.bool false)], args := [d] }
  | _ => none }
def FnGridPartWrongFalsely : Prop := fnGridPartRow.holds Try.pinned (OpenSpec.ofChange fnGridPartWrong)

/-- 'laws.FnExactGridInvert': WHATEVER THE INPUT: true; the input reads as it did. -/
def fnExactGridInvertSpec : ChangeSpec := { name := "fnExactGridInvert", fn := fun _ => fun
  | [d] => { results := [.lit (.bool true)], args := [d] }
  | _ => none }
def fnExactGridInvertRow : OpenClaim := { program := "ytofkjldijamlhaa", sum := "ea44ab43dd44b3f4c615ce4bf9134de3e6339ad3dec9cdc47f843bb37e8828d5", func := "loop.example/reliefmaps/laws.FnExactGridInvert", spec := "fnExactGridInvert", unfollowed := true, recurses := true, apart := false }
def FnExactGridInvertSaid : Prop := fnExactGridInvertRow.holds Try.pinned (OpenSpec.ofChange fnExactGridInvertSpec)

/-- ITS FALSE NEIGHBOUR: 'it returns false'. Refute it at one input. -/
def fnExactGridInvertWrong : ChangeSpec := { name := "fnExactGridInvert", fn := fun _ => fun
  | [d] => { results := [.lit (.bool false)], args := [d] }
  | _ => none }
def FnExactGridInvertWrongFalsely : Prop := fnExactGridInvertRow.holds Try.pinned (OpenSpec.ofChange fnExactGridInvertWrong)

/-- 'laws.FnExactGridRaise': WHATEVER THE INPUT: true; the input reads as it did. -/
def fnExactGridRaiseSpec : ChangeSpec := { name := "fnExactGridRaise", fn := fun _ => fun
  | [d1, d2] => { results := [.lit (.bool true)], args := [d1, d2] }
  | _ => none }
def fnExactGridRaiseRow : OpenClaim := { program := "ytofkjldijamlhaa", sum := "ea44ab43dd44b3f4c615ce4bf9134de3e6339ad3dec9cdc47f843bb37e8828d5", func := "loop.example/reliefmaps/laws.FnExactGridRaise", spec := "fnExactGridRaise", unfollowed := true, recurses := true, apart := false }
def FnExactGridRaiseSaid : Prop := fnExactGridRaiseRow.holds Try.pinned (OpenSpec.ofChange fnExactGridRaiseSpec)

/-- ITS FALSE NEIGHBOUR: 'it returns false'. Refute it at one input. -/
def fnExactGridRaiseWrong : ChangeSpec := { name := "fnExactGridRaise", fn := fun _ => fun
  | [d1, d2] => { results := [.lit (.bool false)], args := [d1, d2] }
  | _ => none }
def FnExactGridRaiseWrongFalsely : Prop := fnExactGridRaiseRow.holds Try.pinned (OpenSpec.ofChange fnExactGridRaiseWrong)

/-- 'laws.FnGridBeside': WHATEVER THE INPUT: true; the input reads as it did. -/
def fnGridBesideSpec : ChangeSpec := { name := "fnGridBeside", fn := fun _ => fun
  | [d] => { results := [.lit (.bool true)], args := [d] }
  | _ => none }
def fnGridBesideRow : OpenClaim := { program := "ytofkjldijamlhaa", sum := "ea44ab43dd44b3f4c615ce4bf9134de3e6339ad3dec9cdc47f843bb37e8828d5", func := "loop.example/reliefmaps/laws.FnGridBeside", spec := "fnGridBeside", unfollowed := true, recurses := true, apart := false }
def FnGridBesideSaid : Prop := fnGridBesideRow.holds Try.pinned (OpenSpec.ofChange fnGridBesideSpec)

/-- ITS FALSE NEIGHBOUR: 'it returns false'. Refute it at one input. -/
def fnGridBesideWrong : ChangeSpec := { name := "fnGridBeside", fn := fun _ => fun
  | [d] => { results := [.lit (.bool false)], args := [d] }
  | _ => none }
def FnGridBesideWrongFalsely : Prop := fnGridBesideRow.holds Try.pinned (OpenSpec.ofChange fnGridBesideWrong)

/-- 'laws.FnGridBelow': WHATEVER THE INPUT: true; the input reads as it did. -/
def fnGridBelowSpec : ChangeSpec := { name := "fnGridBelow", fn := fun _ => fun
  | [d] => { results := [.lit (.bool true)], args := [d] }
  | _ => none }
def fnGridBelowRow : OpenClaim := { program := "ytofkjldijamlhaa", sum := "ea44ab43dd44b3f4c615ce4bf9134de3e6339ad3dec9cdc47f843bb37e8828d5", func := "loop.example/reliefmaps/laws.FnGridBelow", spec := "fnGridBelow", unfollowed := true, recurses := true, apart := false }
def FnGridBelowSaid : Prop := fnGridBelowRow.holds Try.pinned (OpenSpec.ofChange fnGridBelowSpec)

/-- ITS FALSE NEIGHBOUR: 'it returns false'. Refute it at one input. -/
def fnGridBelowWrong : ChangeSpec := { name := "fnGridBelow", fn := fun _ => fun
  | [d] => { results := [.lit (.bool false)], args := [d] }
  | _ => none }
def FnGridBelowWrongFalsely : Prop := fnGridBelowRow.holds Try.pinned (OpenSpec.ofChange fnGridBelowWrong)

/-- 'laws.FnCorners': WHATEVER THE INPUT: true; the input reads as it did. -/
def fnCornersSpec : ChangeSpec := { name := "fnCorners", fn := fun _ => fun
  | [d] => { results := [.lit (.bool true)], args := [d] }
  | _ => none }
def fnCornersRow : OpenClaim := { program := "ytofkjldijamlhaa", sum := "ea44ab43dd44b3f4c615ce4bf9134de3e6339ad3dec9cdc47f843bb37e8828d5", func := "loop.example/reliefmaps/laws.FnCorners", spec := "fnCorners", unfollowed := true, recurses := true, apart := false }
def FnCornersSaid : Prop := fnCornersRow.holds Try.pinned (OpenSpec.ofChange fnCornersSpec)

/-- ITS FALSE NEIGHBOUR: 'it returns false'. Refute it at one input. -/
def fnCornersWrong : ChangeSpec := { name := "fnCorners", fn := fun _ => fun
  | [d] => { results := [.lit (.bool false)], args := [d] }
  | _ => none }
def FnCornersWrongFalsely : Prop := fnCornersRow.holds Try.pinned (OpenSpec.ofChange fnCornersWrong)

/-- 'laws.FnExactLevelShore': WHATEVER THE INPUT: true; the input reads as it did. -/
def fnExactLevelShoreSpec : ChangeSpec := { name := "fnExactLevelShore", fn := fun _ => fun
  | [d1, d2] => { results := [.lit (.bool true)], args := [d1, d2] }
  | _ => none }
def fnExactLevelShoreRow : OpenClaim := { program := "ytofkjldijamlhaa", sum := "ea44ab43dd44b3f4c615ce4bf9134de3e6339ad3dec9cdc47f843bb37e8828d5", func := "loop.example/reliefmaps/laws.FnExactLevelShore", spec := "fnExactLevelShore", apart := false }
def FnExactLevelShoreSaid : Prop := fnExactLevelShoreRow.holds Try.pinned (OpenSpec.ofChange fnExactLevelShoreSpec)

/-- ITS FALSE NEIGHBOUR: 'it returns false'. Refute it at one input. -/
def fnExactLevelShoreWrong : ChangeSpec := { name := "fnExactLevelShore", fn := fun _ => fun
  | [d1, d2] => { results := [.lit (.bool false)], args := [d1, d2] }
  | _ => none }
def FnExactLevelShoreWrongFalsely : Prop := fnExactLevelShoreRow.holds Try.pinned (OpenSpec.ofChange fnExactLevelShoreWrong)

/- THE SECOND FORM. 'bulk': how many values and letters a reading holds, each counted each time it is reached (what is shared counts as often as it is met; a slice's spare places count too). A statement '..UptoSaid' is the law's where the arguments, and the package variables that the reading takes, are together of bulk at most 1048576: NARROWER than '..Said'. Prove '..Said' where nothing that the law and all that it calls make is longer than what came in: it says more and counts as full. Else prove '..UptoSaid'. A law counts once. -/
mutual
def uptoBulk {H : Type} : DataW H → Nat
  | .lit (.string bytes) => bytes.length + 1
  | .lit _ => 1
  | .nil => 1
  | .ptr d => uptoBulk d + 1
  | .slice elems spare => uptoBulkAll elems + uptoBulkAll spare + 1
  | .agg parts => uptoBulkAll parts + 1
  | .iface _ d => uptoBulk d + 1
  | .map entries => uptoBulkEntries entries + 1
  | .held _ => 1
def uptoBulkAll {H : Type} : List (DataW H) → Nat
  | [] => 0
  | d :: r => uptoBulk d + uptoBulkAll r
def uptoBulkEntries {H : Type} : List (Lit × DataW H) → Nat
  | [] => 0
  | x :: r => uptoBulkEntry x + uptoBulkEntries r
def uptoBulkEntry {H : Type} : Lit × DataW H → Nat
  | (.string bytes, d) => bytes.length + uptoBulk d + 1
  | (_, d) => uptoBulk d + 1
 end
def uptoSmall : (H : Type) → List (DataW H) → Bool := fun _ ds => decide (uptoBulkAll ds ≤ 1048576)
def OpenSpec.upto (s : _root_.Go.ChangeSpec) : _root_.Go.OpenSpec := { _root_.Go.OpenSpec.ofChange s with cond := some uptoSmall }

/-- 'laws.FnGridInvert', WHERE WHAT IT READS IS OF BULK AT MOST 1048576: true; the input reads as it did. -/
def fnGridInvertUptoRow : OpenClaim := { program := "ytofkjldijamlhaa", sum := "ea44ab43dd44b3f4c615ce4bf9134de3e6339ad3dec9cdc47f843bb37e8828d5", func := "loop.example/reliefmaps/laws.FnGridInvert", spec := "fnGridInvert", unfollowed := true, recurses := true, apart := false, narrowed := true }
def FnGridInvertUptoSaid : Prop := fnGridInvertUptoRow.holds Try.pinned (OpenSpec.upto fnGridInvertSpec)

/-- 'laws.FnGridRaise', WHERE WHAT IT READS IS OF BULK AT MOST 1048576: true; the input reads as it did. -/
def fnGridRaiseUptoRow : OpenClaim := { program := "ytofkjldijamlhaa", sum := "ea44ab43dd44b3f4c615ce4bf9134de3e6339ad3dec9cdc47f843bb37e8828d5", func := "loop.example/reliefmaps/laws.FnGridRaise", spec := "fnGridRaise", unfollowed := true, recurses := true, apart := false, narrowed := true }
def FnGridRaiseUptoSaid : Prop := fnGridRaiseUptoRow.holds Try.pinned (OpenSpec.upto fnGridRaiseSpec)

/-- 'laws.FnGridPart', WHERE WHAT IT READS IS OF BULK AT MOST 1048576: true; the input reads as it did. -/
def fnGridPartUptoRow : OpenClaim := { program := "ytofkjldijamlhaa", sum := "ea44ab43dd44b3f4c615ce4bf9134de3e6339ad3dec9cdc47f843bb37e8828d5", func := "loop.example/reliefmaps/laws.FnGridPart", spec := "fnGridPart", unfollowed := true, recurses := true, apart := false, narrowed := true }
def FnGridPartUptoSaid : Prop := fnGridPartUptoRow.holds Try.pinned (OpenSpec.upto fnGridPartSpec)

/-- 'laws.FnExactGridInvert', WHERE WHAT IT READS IS OF BULK AT MOST 1048576: true; the input reads as it did. -/
def fnExactGridInvertUptoRow : OpenClaim := { program := "ytofkjldijamlhaa", sum := "ea44ab43dd44b3f4c615ce4bf9134de3e6339ad3dec9cdc47f843bb37e8828d5", func := "loop.example/reliefmaps/laws.FnExactGridInvert", spec := "fnExactGridInvert", unfollowed := true, recurses := true, apart := false, narrowed := true }
def FnExactGridInvertUptoSaid : Prop := fnExactGridInvertUptoRow.holds Try.pinned (OpenSpec.upto fnExactGridInvertSpec)

/-- 'laws.FnExactGridRaise', WHERE WHAT IT READS IS OF BULK AT MOST 1048576: true; the input reads as it did. -/
def fnExactGridRaiseUptoRow : OpenClaim := { program := "ytofkjldijamlhaa", sum := "ea44ab43dd44b3f4c615ce4bf9134de3e6339ad3dec9cdc47f843bb37e8828d5", func := "loop.example/reliefmaps/laws.FnExactGridRaise", spec := "fnExactGridRaise", unfollowed := true, recurses := true, apart := false, narrowed := true }
def FnExactGridRaiseUptoSaid : Prop := fnExactGridRaiseUptoRow.holds Try.pinned (OpenSpec.upto fnExactGridRaiseSpec)

/-- 'laws.FnGridBeside', WHERE WHAT IT READS IS OF BULK AT MOST 1048576: true; the input reads as it did. -/
def fnGridBesideUptoRow : OpenClaim := { program := "ytofkjldijamlhaa", sum := "ea44ab43dd44b3f4c615ce4bf9134de3e6339ad3dec9cdc47f843bb37e8828d5", func := "loop.example/reliefmaps/laws.FnGridBeside", spec := "fnGridBeside", unfollowed := true, recurses := true, apart := false, narrowed := true }
def FnGridBesideUptoSaid : Prop := fnGridBesideUptoRow.holds Try.pinned (OpenSpec.upto fnGridBesideSpec)

/-- 'laws.FnGridBelow', WHERE WHAT IT READS IS OF BULK AT MOST 1048576: true; the input reads as it did. -/
def fnGridBelowUptoRow : OpenClaim := { program := "ytofkjldijamlhaa", sum := "ea44ab43dd44b3f4c615ce4bf9134de3e6339ad3dec9cdc47f843bb37e8828d5", func := "loop.example/reliefmaps/laws.FnGridBelow", spec := "fnGridBelow", unfollowed := true, recurses := true, apart := false, narrowed := true }
def FnGridBelowUptoSaid : Prop := fnGridBelowUptoRow.holds Try.pinned (OpenSpec.upto fnGridBelowSpec)

/-- 'laws.FnCorners', WHERE WHAT IT READS IS OF BULK AT MOST 1048576: true; the input reads as it did. -/
def fnCornersUptoRow : OpenClaim := { program := "ytofkjldijamlhaa", sum := "ea44ab43dd44b3f4c615ce4bf9134de3e6339ad3dec9cdc47f843bb37e8828d5", func := "loop.example/reliefmaps/laws.FnCorners", spec := "fnCorners", unfollowed := true, recurses := true, apart := false, narrowed := true }
def FnCornersUptoSaid : Prop := fnCornersUptoRow.holds Try.pinned (OpenSpec.upto fnCornersSpec)

/-- 'laws.FnExactLevelShore', WHERE WHAT IT READS IS OF BULK AT MOST 1048576: true; the input reads as it did. -/
def fnExactLevelShoreUptoRow : OpenClaim := { program := "ytofkjldijamlhaa", sum := "ea44ab43dd44b3f4c615ce4bf9134de3e6339ad3dec9cdc47f843bb37e8828d5", func := "loop.example/reliefmaps/laws.FnExactLevelShore", spec := "fnExactLevelShore", apart := false, narrowed := true }
def FnExactLevelShoreUptoSaid : Prop := fnExactLevelShoreUptoRow.holds Try.pinned (OpenSpec.upto fnExactLevelShoreSpec)

end Rows
end Go.Proofs.Ytofkjldijamlhaa
