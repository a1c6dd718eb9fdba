/- The law FnGridAt: its walk. -/
import Derived.Test.YthndabbjkkjkhaaLawH
import Derived.Test.YthndabbjkkjkhaaCell
import Derived.Test.YthndabbjkkjkhaaGSet
import Derived.Test.YthndabbjkkjkhaaITurn
namespace Go.Proofs.Ythndabbjkkjkhaa
set_option linter.unusedVariables false
set_option linter.unusedSimpArgs false
open Go.RowKit

theorem gset_same (g : Nat → Nat → Int) (R Q : Nat) : ∀ r c, gset g R Q (g R Q) r c = g r c := fun r c => by
  unfold gset
  split
  · rename_i h; rw [h.1, h.2]
  · rfl
theorem HasCell.turned {n : Nat} {L : Nat → Nat} {g : Nat → Nat → Int} {R Q : Nat} (h : HasCell n L g R Q) : HasCell (L 0) (fun _ => n) (turnG n g) (Q : Int) ((n : Int) - 1 - R) := by
  obtain ⟨hv, h1, h2, h3, h4⟩ := h
  refine ⟨⟨hv.2.2.1, hv.2.2.2.1, hv.1, hv.2.1, fun r hr => ⟨rfl, fun c hc => ?_⟩⟩, by omega, by omega, by omega, by show _ < (n : Int); omega⟩
  have hc' : c < n := hc
  exact hv.rng (by omega) hr
theorem at_turned {n : Nat} {L : Nat → Nat} {g : Nat → Nat → Int} {R Q : Nat} (h : HasCell n L g R Q) : gridAtV (L 0) (fun _ => n) (turnG n g) (Q : Int) ((n : Int) - 1 - R) = g R Q := by
  rw [gridAtV_yes h.turned]
  obtain ⟨hv, h1, h2, h3, h4⟩ := h
  unfold turnG
  rw [show n - 1 - ((n : Int) - 1 - R).toNat = R by omega, show ((Q : Nat) : Int).toNat = Q by omega]


end Go.Proofs.Ythndabbjkkjkhaa
