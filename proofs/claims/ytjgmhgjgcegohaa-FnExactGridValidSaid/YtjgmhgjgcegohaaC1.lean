/- GridValid: the program and the reference; the law. -/
import Derived.Test.YtjgmhgjgcegohaaA2
import Derived.Test.YtjgmhgjgcegohaaA3
namespace Go.Proofs.Ytjgmhgjgcegohaa
open Go.RowKit

theorem implValid_yes (A : Option Addr) (n c : Nat) (L : Nat → Nat) (g : Nat → Nat → Int) (w : World) (hg : GridF w A n L g) (hv : Valid n L g) :
    Calls Try.prog 17 #[.slice A n c] w (RetV (.bool true) w) := by
  have HG := Lib.hid hg
  have HV := Lib.hid hv
  clear hg hv
  go_enter Try.func17, Try.ntmps17
  go_wp2_with (go_at_call 46; refine (fieldOf_yes _ _ _ _ _ _ _ HG.out HV.out rfl).mono ?_; rintro e w1 ⟨b, rfl, hlo, hrow, hb1⟩; clear hrow hlo)
  go_ret
  exact ⟨rfl, hb1.alloc hb1.size _⟩

theorem implValid_no (A : Option Addr) (n c : Nat) (L : Nat → Nat) (g : Nat → Nat → Int) (w : World) (hg : GridF w A n L g) (hn : n ≤ 1048576) (hL : ∀ r, r < n → L r ≤ 1048576) (hv : ¬ Valid n L g) :
    Calls Try.prog 17 #[.slice A n c] w (RetV (.bool false) w) := by
  have HG := Lib.hid hg
  have HV := Lib.hid hv
  have HL := Lib.hid hL
  clear hg hv hL
  go_enter Try.func17, Try.ntmps17
  go_wp2_with (go_at_call 46; refine (fieldOf_no _ _ _ _ _ _ HG.out hn HL.out HV.out).mono ?_; rintro e w1 ⟨rfl, hb1⟩)
  go_ret
  exact ⟨rfl, hb1.alloc hb1.size _⟩

theorem specValid_yes (A : Option Addr) (n c : Nat) (L : Nat → Nat) (g : Nat → Nat → Int) (w : World) (hg : GridF w A n L g) (hv : Valid n L g) :
    Calls Try.prog 15 #[.slice A n c] w (RetV (.bool true) w) :=
  specValid_any A n c L g w hg (by have := hv.2.1; omega) (fun r hr => by have := (hv.2.2.2.2 r hr).1; have := hv.2.2.2.1; omega) true (by show true = true ↔ _; simpa using hv)
theorem specValid_no (A : Option Addr) (n c : Nat) (L : Nat → Nat) (g : Nat → Nat → Int) (w : World) (hg : GridF w A n L g) (hn : n ≤ 1048576) (hL : ∀ r, r < n → L r ≤ 1048576) (hv : ¬ Valid n L g) :
    Calls Try.prog 15 #[.slice A n c] w (RetV (.bool false) w) :=
  specValid_any A n c L g w hg hn hL false (by show false = true ↔ _; simpa using hv)

theorem fnExactGridValid_walk (A : Option Addr) (n c : Nat) (L : Nat → Nat) (g : Nat → Nat → Int) (w : World) (hg : GridF w A n L g) (hn : n ≤ 9223372036854775807) (hL : ∀ r, r < n → L r ≤ 9223372036854775807) :
    Calls Try.prog 4 #[.slice A n c] w (RetV (.bool true) w) := by
  have HG := Lib.hid hg
  have HL := Lib.hid hL
  clear hg hL
  by_cases hv : Valid n L g
  all_goals
    have HV := Lib.hid hv
    clear hv
    go_enter Try.func4, Try.ntmps4
    go_wp2_with fail
    refine (szIntSS_any _ _ _ _ _ _ HG.out hn HL.out).mono ?_
    rintro e w' ⟨l, rfl, hl0, hl1, hsz, rfl⟩
    have HSz := Lib.hid hsz
    clear hsz
    by_cases hl : 0 ≤ l
    · obtain ⟨hn1, hL1⟩ := HSz.out hl
      have HL1 := Lib.hid hL1
      clear hL1
      go_wp2_with fail
      refine (toIntSS_any _ _ _ _ _ _ HG.out hn1 HL1.out).mono ?_
      rintro e w1 ⟨A1, rfl, hown1, hb1⟩
      have HO1 := Lib.hid hown1
      clear hown1
      go_wp2_with fail
      first
        | refine (specValid_yes _ _ _ _ _ _ HO1.out.grid HV.out).mono ?_
        | refine (specValid_no _ _ _ _ _ _ HO1.out.grid hn1 HL1.out HV.out).mono ?_
      rintro e w2 ⟨rfl, hb2⟩
      have hB2 : Below w.heap.size w w2 := hb1.trans (hb2.mono hb1.size)
      go_wp2_with fail
      refine (toIntSS_any _ _ _ _ _ _ (HG.out.below hB2) hn1 HL1.out).mono ?_
      rintro e w3 ⟨A3, rfl, hown3, hb3⟩
      have HO3 := Lib.hid hown3
      have hB3 : Below w.heap.size w w3 := hB2.trans (hb3.mono hB2.size)
      clear hown3
      go_wp2_with fail
      first
        | refine (implValid_yes _ _ _ _ _ _ HO3.out.grid HV.out).mono ?_
        | refine (implValid_no _ _ _ _ _ _ HO3.out.grid hn1 HL1.out HV.out).mono ?_
      rintro e w4 ⟨rfl, hb4⟩
      have hB4 : Below w.heap.size w w4 := hB3.trans (hb4.mono hB3.size)
      go_wp2_with fail
      refine (toIntSS_any _ _ _ _ _ _ (HG.out.below hB4) hn1 HL1.out).mono ?_
      rintro e w5 ⟨A5, rfl, hown5, hb5⟩
      have HO5 := Lib.hid hown5
      have hB5 : Below w.heap.size w w5 := hB4.trans (hb5.mono hB4.size)
      clear hown5
      go_wp2_with fail
      refine (eqIntSS_yes _ _ _ _ _ _ _ _ ((HO3.out.below (hb4.trans (hb5.mono hb4.size))).grid) HO5.out.grid hn (fun r hr => by have := HL1.out r hr; omega)).mono ?_
      rintro e w6 ⟨rfl, hb6⟩
      have hB6 : Below w.heap.size w w6 := hB5.trans (hb6.mono hB5.size)
      go_wp2_with fail
      go_ret
      exact ⟨rfl, hB6⟩
    · go_wp2_with fail
      go_ret
      exact ⟨rfl, Below.refl _ _⟩

end Go.Proofs.Ytjgmhgjgcegohaa
