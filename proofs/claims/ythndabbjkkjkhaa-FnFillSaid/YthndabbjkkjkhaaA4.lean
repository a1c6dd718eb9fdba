/- GridValid and GridAt: what the program's and the reference's functions return. -/
import Derived.Test.YthndabbjkkjkhaaA2
import Derived.Test.YthndabbjkkjkhaaA3
namespace Go.Proofs.Ythndabbjkkjkhaa
set_option linter.unusedVariables false
set_option linter.unusedSimpArgs false
open Go.RowKit


theorem specValid_yes (A : Option Addr) (n c : Nat) (L : Nat → Nat) (g : Nat → Nat → Int) (w : World) (hg : GridF w A n L g) (hv : Valid n L g) :
    Calls Try.prog 68 #[.slice A n c] w (RetV (.bool true) w) :=
  specValid_any A n c L g w hg (by have := hv.2.1; omega) (fun r hr => by have := (hv.2.2.2.2 r hr).1; have := hv.2.2.2.1; omega) true (by show true = true ↔ _; simpa using hv)
theorem specValid_no (A : Option Addr) (n c : Nat) (L : Nat → Nat) (g : Nat → Nat → Int) (w : World) (hg : GridF w A n L g) (hn : n ≤ 1048576) (hL : ∀ r, r < n → L r ≤ 1048576) (hv : ¬ Valid n L g) :
    Calls Try.prog 68 #[.slice A n c] w (RetV (.bool false) w) :=
  specValid_any A n c L g w hg hn hL false (by show false = true ↔ _; simpa using hv)

instance (n : Nat) (L : Nat → Nat) (g : Nat → Nat → Int) : Decidable (Valid n L g) := by unfold Valid; infer_instance

theorem Valid.len {n : Nat} {L : Nat → Nat} {g : Nat → Nat → Int} (hv : Valid n L g) (r : Nat) (hr : r < n) : L r = L 0 := (hv.2.2.2.2 r hr).1
theorem Valid.n_le {n : Nat} {L : Nat → Nat} {g : Nat → Nat → Int} (hv : Valid n L g) : n ≤ 1048576 := by have := hv.2.1; omega
theorem Valid.L_le {n : Nat} {L : Nat → Nat} {g : Nat → Nat → Int} (hv : Valid n L g) (r : Nat) (hr : r < n) : L r ≤ 1048576 := by have := hv.len r hr; have := hv.2.2.2.1; omega

/-- There is such a cell. -/
def HasCell (n : Nat) (L : Nat → Nat) (g : Nat → Nat → Int) (r c : Int) : Prop := Valid n L g ∧ 0 ≤ r ∧ r < n ∧ 0 ≤ c ∧ c < L 0
instance (n : Nat) (L : Nat → Nat) (g : Nat → Nat → Int) (r c : Int) : Decidable (HasCell n L g r c) := by unfold HasCell; infer_instance

theorem l1Cell_yes (A : Option Addr) (n cp : Nat) (L : Nat → Nat) (g : Nat → Nat → Int) (r c : Int) (w : World) (hg : GridF w A n L g) (h : HasCell n L g r c) :
    Calls Try.prog 63 #[.slice A n cp, .int .i64 r, .int .i64 c] w (RetV (.bool true) w) := by
  obtain ⟨hv, h1, h2, h3, h4⟩ := h
  have hn1 := hv.1
  have hn2 := hv.2.1
  have hl1 := hv.2.2.1
  have hl2 := hv.2.2.2.1
  have HV := Lib.hid hv
  have HG := Lib.hid hg
  clear hg hv
  obtain ⟨B, o, A0, c0, rfl, hc0, _, hr0⟩ := HG.out 0 (by omega)
  rw [Nat.add_zero] at hc0
  clear hr0
  go_enter Try.func63, Try.ntmps63
  go_wp2_with fail
  refine (specValid_yes _ _ _ _ _ _ HG.out HV.out).mono ?_
  rintro e w1 ⟨rfl, hb1⟩
  have hc1 := (hb1.cell (World.block_lt_of_cell? w _ hc0)).trans hc0
  go_wp2_with (go_at_call 64; refine (l6In_yes _ _ _ _ (by omega) (by omega)).mono ?_; rintro e w' ⟨rfl, rfl⟩)
  go_ret
  exact ⟨rfl, hb1⟩

theorem l1Cell_no (A : Option Addr) (n cp : Nat) (L : Nat → Nat) (g : Nat → Nat → Int) (r c : Int) (w : World) (hg : GridF w A n L g) (hn : n ≤ 1048576) (hL : ∀ r, r < n → L r ≤ 1048576) (h : ¬ HasCell n L g r c) :
    Calls Try.prog 63 #[.slice A n cp, .int .i64 r, .int .i64 c] w (RetV (.bool false) w) := by
  have HG := Lib.hid hg
  have HL := Lib.hid hL
  clear hg hL
  by_cases hv : Valid n L g
  · have hn1 := hv.1
    have hn2 := hv.2.1
    have hl1 := hv.2.2.1
    have hl2 := hv.2.2.2.1
    have HV := Lib.hid hv
    obtain ⟨B, o, A0, c0, rfl, hc0, _, hr0⟩ := HG.out 0 (by omega)
    rw [Nat.add_zero] at hc0
    clear hr0
    have h' : ¬ (0 ≤ r ∧ r < n ∧ 0 ≤ c ∧ c < L 0) := fun hh => h ⟨hv, hh⟩
    clear h hv
    by_cases hr : 0 ≤ r ∧ r < n
    · have hc : ¬ (0 ≤ c ∧ c < L 0) := by omega
      clear h'
      go_enter Try.func63, Try.ntmps63
      go_wp2_with fail
      refine (specValid_yes _ _ _ _ _ _ HG.out HV.out).mono ?_
      rintro e w1 ⟨rfl, hb1⟩
      have hc1 := (hb1.cell (World.block_lt_of_cell? w _ hc0)).trans hc0
      go_wp2_with fail
      refine (l6In_yes _ _ _ _ (by omega) (by omega)).mono ?_
      rintro e w' ⟨rfl, rfl⟩
      go_wp2_with fail
      refine (l6In_no _ _ _ _ (by omega)).mono ?_
      rintro e w' ⟨rfl, rfl⟩
      go_wp2_with fail
      go_ret
      exact ⟨rfl, hb1⟩
    · clear h'
      go_enter Try.func63, Try.ntmps63
      go_wp2_with fail
      refine (specValid_yes _ _ _ _ _ _ HG.out HV.out).mono ?_
      rintro e w1 ⟨rfl, hb1⟩
      go_wp2_with fail
      refine (l6In_no _ _ _ _ (by omega)).mono ?_
      rintro e w' ⟨rfl, rfl⟩
      go_wp2_with fail
      go_ret
      exact ⟨rfl, hb1⟩
  · have HV := Lib.hid hv
    clear h hv
    go_enter Try.func63, Try.ntmps63
    go_wp2_with fail
    refine (specValid_no _ _ _ _ _ _ HG.out hn HL.out HV.out).mono ?_
    rintro e w1 ⟨rfl, hb1⟩
    go_wp2_with fail
    go_ret
    exact ⟨rfl, hb1⟩

def gridAtV (n : Nat) (L : Nat → Nat) (g : Nat → Nat → Int) (r c : Int) : Int := if HasCell n L g r c then g r.toNat c.toNat else -1
theorem gridAtV_yes {n : Nat} {L : Nat → Nat} {g : Nat → Nat → Int} {r c : Int} (h : HasCell n L g r c) : gridAtV n L g r c = g r.toNat c.toNat := if_pos h
theorem gridAtV_no {n : Nat} {L : Nat → Nat} {g : Nat → Nat → Int} {r c : Int} (h : ¬ HasCell n L g r c) : gridAtV n L g r c = -1 := if_neg h


end Go.Proofs.Ythndabbjkkjkhaa
