/- The law FnSinks: its walk. -/
import Derived.Test.YtgekjhmjjjkibaaLawH
import Derived.Test.YtgekjhmjjjkibaaRng
import Derived.Test.YtgekjhmjjjkibaaPlW
namespace Go.Proofs.Ytgekjhmjjjkibaa
set_option linter.unusedVariables false
set_option linter.unusedSimpArgs false
open Go.RowKit

def lowP (h : Nat → Int) (k : Nat) : Nat → Bool := fun j => decide (h j < h k)
theorem snk_lower {R C : Nat} {h : Nat → Int} {k : Nat} (hk : k < R * C) : decide (k ∈ snkL R C h (R * C)) = !anyL (lowP h k) (nearL R C k) (nearL R C k).length := by
  rw [Bool.eq_iff_iff, decide_eq_true_iff, Bool.not_eq_true', ← Bool.not_eq_true, anyL_all, mem_snkL, sink_iff]
  constructor
  · rintro ⟨_, hall⟩ ⟨j, hj, e⟩
    have h1 := hall j hj
    have h2 := of_decide_eq_true e
    omega
  · intro hno
    refine ⟨hk, fun j hj => ?_⟩
    refine Int.not_lt.1 fun hlt => hno ⟨j, hj, decide_eq_true hlt⟩
theorem low_min {R C : Nat} {h : Nat → Int} {k : Nat} (hk : k < R * C) (hl : anyL (lowP h k) (nearL R C k) (nearL R C k).length = true) : minTo h (R * C) < h k := by
  obtain ⟨j, hj, e⟩ := anyL_all.1 hl
  have h1 := minTo_le (h := h) (nearL_lt hk hj)
  have h2 := of_decide_eq_true e
  omega

theorem heightOf_h (A : Option Addr) (n c i : Nat) (L : Nat → Nat) (g : Nat → Nat → Int) (h : Nat → Int) (w : World) (hg : GridF w A n L g) (hv : Valid n L g) (hh : Hid (h = flat (L 0) g)) (hi : i < n * L 0) :
    Calls Try.prog 39 #[.slice A n c, .int .i64 i] w (RetV (.int .i64 (h i)) w) := by
  rw [hh.out]
  exact heightOf_any A n c i L g w hg hv hi


end Go.Proofs.Ytgekjhmjjjkibaa
