/- GridTurn and GridMirror: what the reference's functions return. -/
import Derived.Test.YtkkkkgcijkjeoaaDoorGSet
namespace Go.Proofs.YtkkkkgcijkjeoaaDoor
set_option linter.unusedVariables false
set_option linter.unusedSimpArgs false
open Go.RowKit

def turnG (n : Nat) (g : Nat → Nat → Int) : Nat → Nat → Int := fun r c => g (n - 1 - c) r
def mirrorG (C : Nat) (g : Nat → Nat → Int) : Nat → Nat → Int := fun r c => g r (C - 1 - c)

/-- Onto a row of the call's own an integer is appended. -/
theorem own_snoc {w : World} {lo : Nat} {v : Value} {j : Nat} {f : Nat → Int} {x : Int} (h : OwnS w lo 3 v (j + 1) (fun i => if i < j then .int .i64 (f i) else .int .i64 x)) (hx : x = f j) : OwnS w lo 3 v (j + 1) (fun i => .int .i64 (f i)) := by
  refine h.congr fun i hi => ?_
  by_cases e : i < j
  · rw [if_pos e]
  · rw [if_neg e, hx, show i = j by omega]



end Go.Proofs.YtkkkkgcijkjeoaaDoor
