/- Parts of grids, grids beside and below each other, raised and inverted grids: what the program's functions return. -/
import Derived.Test.YtgikjalhiajmjaaITurn
namespace Go.Proofs.Ytgikjalhiajmjaa
set_option linter.unusedVariables false
set_option linter.unusedSimpArgs false
open Go.RowKit

def partG (t l : Nat) (g : Nat → Nat → Int) : Nat → Nat → Int := fun r c => g (t + r) (l + c)
def besideG (C : Nat) (g g' : Nat → Nat → Int) : Nat → Nat → Int := fun r c => if c < C then g r c else g' r (c - C)
def belowG (n : Nat) (g g' : Nat → Nat → Int) : Nat → Nat → Int := fun r c => if r < n then g r c else g' (r - n) c
def raiseG (k : Int) (g : Nat → Nat → Int) : Nat → Nat → Int := fun r c => g r c + k
def invG (g : Nat → Nat → Int) : Nat → Nat → Int := fun r c => 99 - g r c

/-- Rows and columns of a grid. -/
def Prt (n : Nat) (L : Nat → Nat) (g : Nat → Nat → Int) (tp bt lf rt : Int) : Prop := Valid n L g ∧ 0 ≤ tp ∧ tp ≤ bt ∧ bt < n ∧ 0 ≤ lf ∧ lf ≤ rt ∧ rt < L 0
instance (n : Nat) (L : Nat → Nat) (g : Nat → Nat → Int) (tp bt lf rt : Int) : Decidable (Prt n L g tp bt lf rt) := by unfold Prt; infer_instance
def Bes (na : Nat) (La : Nat → Nat) (ga : Nat → Nat → Int) (nb : Nat) (Lb : Nat → Nat) (gb : Nat → Nat → Int) : Prop := Valid na La ga ∧ Valid nb Lb gb ∧ na = nb ∧ La 0 + Lb 0 ≤ 7
instance (na : Nat) (La : Nat → Nat) (ga : Nat → Nat → Int) (nb : Nat) (Lb : Nat → Nat) (gb : Nat → Nat → Int) : Decidable (Bes na La ga nb Lb gb) := by unfold Bes; infer_instance
def Blw (na : Nat) (La : Nat → Nat) (ga : Nat → Nat → Int) (nb : Nat) (Lb : Nat → Nat) (gb : Nat → Nat → Int) : Prop := Valid na La ga ∧ Valid nb Lb gb ∧ La 0 = Lb 0 ∧ na + nb ≤ 7
instance (na : Nat) (La : Nat → Nat) (ga : Nat → Nat → Int) (nb : Nat) (Lb : Nat → Nat) (gb : Nat → Nat → Int) : Decidable (Blw na La ga nb Lb gb) := by unfold Blw; infer_instance
def Rai (n : Nat) (L : Nat → Nat) (g : Nat → Nat → Int) (k : Int) : Prop := Valid n L g ∧ -99 ≤ k ∧ k ≤ 99 ∧ Valid n L (raiseG k g)
instance (n : Nat) (L : Nat → Nat) (g : Nat → Nat → Int) (k : Int) : Decidable (Rai n L g k) := by unfold Rai; infer_instance

theorem Valid.inv {n : Nat} {L : Nat → Nat} {g : Nat → Nat → Int} (h : Valid n L g) : Valid n L (invG g) :=
  ⟨h.1, h.2.1, h.2.2.1, h.2.2.2.1, fun r hr => ⟨h.len r hr, fun c hc => by have := h.rng hr hc; unfold invG; omega⟩⟩
theorem Valid.raise {n : Nat} {L : Nat → Nat} {g : Nat → Nat → Int} {k : Int} (h : Valid n L g) (hk : ∀ r c, r < n → c < L 0 → 0 ≤ g r c + k ∧ g r c + k ≤ 99) : Valid n L (raiseG k g) :=
  ⟨h.1, h.2.1, h.2.2.1, h.2.2.2.1, fun r hr => ⟨h.len r hr, fun c hc => hk r c hr hc⟩⟩

theorem cell_one {w : World} {b : Nat} {v : Value} {t : TypeId} (h : w.heap[b]? = some (.cells #[v] t (0, 0))) : w.cell? ⟨b, 0, none⟩ = some v := by simp [World.cell?, h]


end Go.Proofs.Ytgikjalhiajmjaa
