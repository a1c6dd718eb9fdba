/- The pass between two cells: what the reference's function returns; the order of the program's heap. -/
import Derived.Test.YtgekjhmjjjkibaaPFld
namespace Go.Proofs.Ytgekjhmjjjkibaa
set_option linter.unusedVariables false
set_option linter.unusedSimpArgs false
open Go.RowKit

noncomputable def passBetweenV (n : Nat) (L : Nat → Nat) (g : Nat → Nat → Int) (a b : Int) : Int := if HasIdx n L g a ∧ HasIdx n L g b then passV n (L 0) (flat (L 0) g) a.toNat b.toNat else -1

theorem specPassBetween_any (A : Option Addr) (n cp : Nat) (L : Nat → Nat) (g : Nat → Nat → Int) (a b : Int) (w : World) (hg : GridF w A n L g) (hn : n ≤ 1048576) (hL : ∀ r, r < n → L r ≤ 1048576) (_h1 : -9223372036854775808 ≤ a) (_h2 : a ≤ 9223372036854775807) (_h3 : -9223372036854775808 ≤ b) (_h4 : b ≤ 9223372036854775807) :
    Calls Try.prog 43 #[.slice A n cp, .int .i64 a, .int .i64 b] w (RetV (.int .i64 (passBetweenV n L g a b)) w) := by
  by_cases hv : HasIdx n L g a ∧ HasIdx n L g b
  · rw [show passBetweenV n L g a b = _ from if_pos hv]
    obtain ⟨⟨hv, ha1, ha2⟩, _, hb1, hb2⟩ := hv
    obtain ⟨a, rfl⟩ := Int.eq_ofNat_of_zero_le ha1
    obtain ⟨b, rfl⟩ := Int.eq_ofNat_of_zero_le hb1
    exact (specPass_yes A n cp a b L g w hg hv (by omega) (by omega)).mono fun _ _ h => h.1
  · rw [show passBetweenV n L g a b = _ from if_neg hv]
    exact specPass_no A n cp a b L g w hg hn hL hv

end Go.Proofs.Ytgekjhmjjjkibaa
