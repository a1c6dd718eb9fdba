/- A grid and a level: l3Ok, leveled; the greatest level. -/
import Derived.Test.YtkkkkgcijkjeoaaDoorRng
namespace Go.Proofs.YtkkkkgcijkjeoaaDoor
set_option linter.unusedVariables false
set_option linter.unusedSimpArgs false
open Go.RowKit

/-- A grid, and a level. -/
def Lvl (n : Nat) (L : Nat → Nat) (g : Nat → Nat → Int) (l : Int) : Prop := Valid n L g ∧ 0 ≤ l ∧ l ≤ 99
instance (n : Nat) (L : Nat → Nat) (g : Nat → Nat → Int) (l : Int) : Decidable (Lvl n L g l) := by unfold Lvl; infer_instance




end Go.Proofs.YtkkkkgcijkjeoaaDoor
