/- Corners of land: what the program's and the reference's functions return. -/
import Derived.Test.YtgekjhmjjjkibaaLev
import Derived.Test.YtgekjhmjjjkibaaCnt
namespace Go.Proofs.Ytgekjhmjjjkibaa
set_option linter.unusedVariables false
set_option linter.unusedSimpArgs false
open Go.RowKit


def min4 (a b c d : Int) : Int := min (min (min a b) c) d
theorem run_min4 {P : Program} (w : World) (ts : Array TypeId) (t : TypeId) (a b c d : Int) :
    (Builtin.min_ ts t #[.int .i64 a, .int .i64 b, .int .i64 c, .int .i64 d]).run P w = .ok (.int .i64 (min4 a b c d)) w := by
  have : min4 a b c d = (if d < (if c < (if b < a then b else a) then c else (if b < a then b else a)) then d else (if c < (if b < a then b else a) then c else (if b < a then b else a))) := by
    unfold min4; repeat' split
    all_goals omega
  simp [Builtin.min_, Builtin.min2, this]
theorem le_min4 {l a b c d : Int} : l ≤ min4 a b c d ↔ l ≤ a ∧ l ≤ b ∧ l ≤ c ∧ l ≤ d := by unfold min4; omega

theorem le_min22 {l x1 x2 x3 x4 : Int} : l ≤ (if (if x4 < x3 then x4 else x3) < (if x2 < x1 then x2 else x1) then (if x4 < x3 then x4 else x3) else (if x2 < x1 then x2 else x1)) ↔ l ≤ x4 ∧ l ≤ x2 ∧ l ≤ x3 ∧ l ≤ x1 := by
  repeat' split
  all_goals omega

theorem sq_of (C : Nat) (h : Nat → Int) (l : Int) (r c : Nat) (b : Bool) (hb : b = decide (l ≤ h (r * C + c) ∧ l ≤ h (r * C + (c + 1)) ∧ l ≤ h ((r + 1) * C + c) ∧ l ≤ h ((r + 1) * C + (c + 1)))) : sq C h l r c = b := hb.symm



end Go.Proofs.Ytgekjhmjjjkibaa
