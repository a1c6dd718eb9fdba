/- Corners of land: what the program's and the reference's functions return. -/
import Derived.Test.YtkkkkgcijkjeoaaDoorLev
import Derived.Test.YtkkkkgcijkjeoaaDoorCnt
namespace Go.Proofs.YtkkkkgcijkjeoaaDoor
set_option linter.unusedVariables false
set_option linter.unusedSimpArgs false
open Go.RowKit

theorem at_int (R C b N : Nat) (r c : Int) (h : Nat → Int) (w : World) (hr0 : 0 ≤ r) (hr : r < R) (hc0 : 0 ≤ c) (hc : c < C) (hR : R ≤ 1000) (hC : C ≤ 1000) (hN : Hid (N = R * C)) (hrow : Hid (w.rowIs b 3 N (fun i => .int .i64 (h i)))) :
    Calls Tryd.prog 22 #[.agg #[.int .i64 R, .int .i64 C, .slice (some ⟨b, 0, none⟩) N N], .int .i64 r, .int .i64 c] w (RetV (.int .i64 (h (r.toNat * C + c.toNat))) w) := by
  obtain ⟨r, rfl⟩ := Int.eq_ofNat_of_zero_le hr0
  obtain ⟨c, rfl⟩ := Int.eq_ofNat_of_zero_le hc0
  simp only [Int.toNat_natCast]
  exact at_any R C b N r c h w (by omega) (by omega) hR hC hN hrow

def min4 (a b c d : Int) : Int := min (min (min a b) c) d
theorem run_min4 {P : Program} (w : World) (ts : Array TypeId) (t : TypeId) (a b c d : Int) :
    (Builtin.min_ ts t #[.int .i64 a, .int .i64 b, .int .i64 c, .int .i64 d]).run P w = .ok (.int .i64 (min4 a b c d)) w := by
  have : min4 a b c d = (if d < (if c < (if b < a then b else a) then c else (if b < a then b else a)) then d else (if c < (if b < a then b else a) then c else (if b < a then b else a))) := by
    unfold min4; repeat' split
    all_goals omega
  simp [Builtin.min_, Builtin.min2, this]
theorem le_min4 {l a b c d : Int} : l ≤ min4 a b c d ↔ l ≤ a ∧ l ≤ b ∧ l ≤ c ∧ l ≤ d := by unfold min4; omega

theorem le_min22 {l x1 x2 x3 x4 : Int} : l ≤ (if (if x4 < x3 then x4 else x3) < (if x2 < x1 then x2 else x1) then (if x4 < x3 then x4 else x3) else (if x2 < x1 then x2 else x1)) ↔ l ≤ x4 ∧ l ≤ x2 ∧ l ≤ x3 ∧ l ≤ x1 := by
  repeat' split
  all_goals omega

theorem sq_of (C : Nat) (h : Nat → Int) (l : Int) (r c : Nat) (b : Bool) (hb : b = decide (l ≤ h (r * C + c) ∧ l ≤ h (r * C + (c + 1)) ∧ l ≤ h ((r + 1) * C + c) ∧ l ≤ h ((r + 1) * C + (c + 1)))) : sq C h l r c = b := hb.symm



end Go.Proofs.YtkkkkgcijkjeoaaDoor
