/- GridRange: what the program's and the reference's functions return. -/
import Derived.Test.YtkkkkgcijkjeoaaDoorA4
import Derived.Test.YtkkkkgcijkjeoaaDoorPl1
namespace Go.Proofs.YtkkkkgcijkjeoaaDoor
set_option linter.unusedVariables false
set_option linter.unusedSimpArgs false
open Go.RowKit

def rngV (n : Nat) (L : Nat → Nat) (g : Nat → Nat → Int) : Value :=
  if Valid n L g then .tuple #[.int .i64 (minTo (flat (L 0) g) (n * L 0)), .int .i64 (maxTo (flat (L 0) g) (n * L 0)), .bool true] else .tuple #[.int .i64 0, .int .i64 0, .bool false]
theorem rngV_yes {n : Nat} {L : Nat → Nat} {g : Nat → Nat → Int} (h : Valid n L g) : rngV n L g = .tuple #[.int .i64 (minTo (flat (L 0) g) (n * L 0)), .int .i64 (maxTo (flat (L 0) g) (n * L 0)), .bool true] := if_pos h
theorem rngV_no {n : Nat} {L : Nat → Nat} {g : Nat → Nat → Int} (h : ¬ Valid n L g) : rngV n L g = .tuple #[.int .i64 0, .int .i64 0, .bool false] := if_neg h



end Go.Proofs.YtkkkkgcijkjeoaaDoor
