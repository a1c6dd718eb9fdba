/- GridValid and GridAt: what the program's and the reference's functions return. -/
import Derived.Test.YtkkkkgcijkjeoaaDoorA2
import Derived.Test.YtkkkkgcijkjeoaaDoorA3
namespace Go.Proofs.YtkkkkgcijkjeoaaDoor
set_option linter.unusedVariables false
set_option linter.unusedSimpArgs false
open Go.RowKit

theorem implValid_yes (A : Option Addr) (n c : Nat) (L : Nat → Nat) (g : Nat → Nat → Int) (w : World) (hg : GridF w A n L g) (hv : Valid n L g) :
    Calls Tryd.prog 14 #[.slice A n c] w (RetV (.bool true) w) := by
  have HG := Lib.hid hg
  have HV := Lib.hid hv
  clear hg hv
  go_enter Tryd.func14, Tryd.ntmps14
  go_wp2_with (go_at_call 20; refine (fieldOf_yes _ _ _ _ _ _ _ HG.out HV.out rfl).mono ?_; rintro e w1 ⟨b, rfl, hlo, hrow, hb1⟩; clear hrow hlo)
  go_ret
  exact ⟨rfl, hb1.alloc hb1.size _⟩

theorem implValid_no (A : Option Addr) (n c : Nat) (L : Nat → Nat) (g : Nat → Nat → Int) (w : World) (hg : GridF w A n L g) (hn : n ≤ 1048576) (hL : ∀ r, r < n → L r ≤ 1048576) (hv : ¬ Valid n L g) :
    Calls Tryd.prog 14 #[.slice A n c] w (RetV (.bool false) w) := by
  have HG := Lib.hid hg
  have HV := Lib.hid hv
  have HL := Lib.hid hL
  clear hg hv hL
  go_enter Tryd.func14, Tryd.ntmps14
  go_wp2_with (go_at_call 20; refine (fieldOf_no _ _ _ _ _ _ HG.out hn HL.out HV.out).mono ?_; rintro e w1 ⟨rfl, hb1⟩)
  go_ret
  exact ⟨rfl, hb1.alloc hb1.size _⟩


theorem specValid_yes (A : Option Addr) (n c : Nat) (L : Nat → Nat) (g : Nat → Nat → Int) (w : World) (hg : GridF w A n L g) (hv : Valid n L g) :
    Calls Tryd.prog 24 #[.slice A n c] w (RetV (.bool true) w) :=
  specValid_any A n c L g w hg (by have := hv.2.1; omega) (fun r hr => by have := (hv.2.2.2.2 r hr).1; have := hv.2.2.2.1; omega) true (by show true = true ↔ _; simpa using hv)
theorem specValid_no (A : Option Addr) (n c : Nat) (L : Nat → Nat) (g : Nat → Nat → Int) (w : World) (hg : GridF w A n L g) (hn : n ≤ 1048576) (hL : ∀ r, r < n → L r ≤ 1048576) (hv : ¬ Valid n L g) :
    Calls Tryd.prog 24 #[.slice A n c] w (RetV (.bool false) w) :=
  specValid_any A n c L g w hg hn hL false (by show false = true ↔ _; simpa using hv)

instance (n : Nat) (L : Nat → Nat) (g : Nat → Nat → Int) : Decidable (Valid n L g) := by unfold Valid; infer_instance

theorem Valid.len {n : Nat} {L : Nat → Nat} {g : Nat → Nat → Int} (hv : Valid n L g) (r : Nat) (hr : r < n) : L r = L 0 := (hv.2.2.2.2 r hr).1
theorem Valid.n_le {n : Nat} {L : Nat → Nat} {g : Nat → Nat → Int} (hv : Valid n L g) : n ≤ 1048576 := by have := hv.2.1; omega
theorem Valid.L_le {n : Nat} {L : Nat → Nat} {g : Nat → Nat → Int} (hv : Valid n L g) (r : Nat) (hr : r < n) : L r ≤ 1048576 := by have := hv.len r hr; have := hv.2.2.2.1; omega

/-- There is such a cell. -/
def HasCell (n : Nat) (L : Nat → Nat) (g : Nat → Nat → Int) (r c : Int) : Prop := Valid n L g ∧ 0 ≤ r ∧ r < n ∧ 0 ≤ c ∧ c < L 0
instance (n : Nat) (L : Nat → Nat) (g : Nat → Nat → Int) (r c : Int) : Decidable (HasCell n L g r c) := by unfold HasCell; infer_instance



end Go.Proofs.YtkkkkgcijkjeoaaDoor
