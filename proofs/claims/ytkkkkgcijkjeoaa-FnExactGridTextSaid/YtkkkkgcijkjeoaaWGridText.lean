/- The law FnExactGridText: its walk. -/
import Derived.Test.YtkkkkgcijkjeoaaITxt
import Derived.Test.YtkkkkgcijkjeoaaSTxt
namespace Go.Proofs.Ytkkkkgcijkjeoaa
set_option linter.unusedVariables false
set_option linter.unusedSimpArgs false
open Go.RowKit

set_option maxHeartbeats 400000 in
theorem fnExactGridText_walk (A : Option Addr) (n cp : Nat) (L : Nat → Nat) (g : Nat → Nat → Int) (w : World) (hg : GridF w A n L g) (hn : n ≤ 9223372036854775807) (hL : ∀ r, r < n → L r ≤ 9223372036854775807) :
    Calls Try.prog 3 #[.slice A n cp] w (RetV (.bool true) w) := by
  have HG := Lib.hid hg
  have HL := Lib.hid hL
  clear hg hL
  go_enter Try.func3, Try.ntmps3
  go_wp2_with fail
  refine (szIntSS_any _ _ _ _ _ _ _ HG.out hn HL.out (by omega) (by omega)).mono ?_
  rintro e w' ⟨lz, rfl, hz0, hz1, hsz, rfl⟩
  have HSz := Lib.hid hsz
  clear hsz
  by_cases hlz : 0 ≤ lz
  · obtain ⟨hn1, hL1⟩ := HSz.out hlz
    have HL1 := Lib.hid hL1
    clear hL1
    go_wp2_with fail
    refine (toIntSS_any _ _ _ _ _ _ HG.out hn1 HL1.out).mono ?_
    rintro e w1 ⟨A1, rfl, hown1, hb1⟩
    have HO1 := Lib.hid hown1
    clear hown1
    go_wp2_with fail
    refine (specGridText_any _ _ _ _ _ _ HO1.out.grid hn1 HL1.out ).mono ?_
    rintro e w2 ⟨rfl, hb2⟩
    have hB2 : Below w.heap.size w w2 := hb1.trans (hb2.mono hb1.size)
    go_wp2_with fail
    refine (toIntSS_any _ _ _ _ _ _ (HG.out.below hB2) hn1 HL1.out).mono ?_
    rintro e w3 ⟨A3, rfl, hown3, hb3⟩
    have HO3 := Lib.hid hown3
    have hB3 : Below w.heap.size w w3 := hB2.trans (hb3.mono hB2.size)
    clear hown3
    go_wp2_with fail
    refine (implGridText_any _ _ _ _ _ _ HO3.out.grid hn1 HL1.out ).mono ?_
    rintro e w4 ⟨rfl, hb4⟩
    have hB4 : Below w.heap.size w w4 := hB3.trans (hb4.mono hB3.size)
    go_wp2_with fail
    refine (toIntSS_any _ _ _ _ _ _ (HG.out.below hB4) hn1 HL1.out).mono ?_
    rintro e w5 ⟨A5, rfl, hown5, hb5⟩
    have HO5 := Lib.hid hown5
    have hB5 : Below w.heap.size w w5 := hB4.trans (hb5.mono hB4.size)
    clear hown5
    go_wp2_with fail
    refine (eqIntSS_yes _ _ _ _ _ _ _ _ ((HO3.out.below (hb4.trans (hb5.mono hb4.size))).grid) HO5.out.grid hn (fun r hr => by have := HL1.out r hr; omega)).mono ?_
    rintro e w6 ⟨rfl, hb6⟩
    have hB6 : Below w.heap.size w w6 := hB5.trans (hb6.mono hB5.size)
    go_wp2_with fail
    go_ret
    exact ⟨rfl, hB6⟩
  · go_wp2_with fail
    go_ret
    exact ⟨rfl, Below.refl _ _⟩

end Go.Proofs.Ytkkkkgcijkjeoaa
