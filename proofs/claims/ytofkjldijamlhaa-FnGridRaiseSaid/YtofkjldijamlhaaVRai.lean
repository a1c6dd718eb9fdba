/- The law FnGridRaise: its walk. -/
import Derived.Test.YtofkjldijamlhaaVInv
import Derived.Test.YtofkjldijamlhaaDr2
namespace Go.Proofs.Ytofkjldijamlhaa
set_option linter.unusedVariables false
set_option linter.unusedSimpArgs false
open Go.RowKit

set_option maxHeartbeats 1500000 in
set_option maxRecDepth 100000 in
theorem fnGridRaise_walk (A : Option Addr) (m cp : Nat) (z : Nat → Int) (w : World) (hz : RowB w A m z) (hm : m ≤ 9223372036854775807 ∧ m ≤ cp) :
    Calls Try.prog 4 #[.slice A m cp] w (RetV (.bool true) w) := by
  have HZ := Lib.hid hz
  obtain ⟨hm1, hm2⟩ := hm
  clear hz
  by_cases hbig : 1048576 < m
  · go_enter Try.func4, Try.ntmps4
    go_wp2_with fail
    go_ret
    exact ⟨rfl, Below.refl _ _⟩
  go_enter Try.func4, Try.ntmps4
  go_wp2_with fail
  refine (drawGridRaise_any _ _ _ _ _ HZ.out hm1 hm2).mono ?_
  rintro e w1 ⟨A1, n, c1, L, g, x, rfl, hx1, hx2, hn1, hn2, hL, hgrid, hb1⟩
  have HG := Lib.hid hgrid
  have HL : Hid (∀ r, r < n → L r ≤ 1048576) := fun r hr => by have := hL r hr; omega
  have hB1 := hb1
  clear hgrid hL hb1
  by_cases hv : Rai n L g x
  · have HV := Lib.hid hv
    have hvv := hv.1
    have hk1 := hv.2.1
    have hk2 := hv.2.2.1
    have hvr : Valid n (fun _ => L 0) (raiseG x g) := ⟨hvv.1, hvv.2.1, hvv.2.2.1, hvv.2.2.2.1, fun r hr => ⟨rfl, fun c hc => hv.2.2.2.rng hr hc⟩⟩
    have HVB : Hid (Rai n (fun _ => L 0) (raiseG x g) (-x)) := ⟨hvr, by omega, by omega, ⟨hvv.1, hvv.2.1, hvv.2.2.1, hvv.2.2.2.1, fun r hr => ⟨rfl, fun c hc => by
      have := hvv.rng hr hc
      unfold raiseG
      omega⟩⟩⟩
    have HVV := Lib.hid hvv
    have hvn := hvv.2.1
    have hvl := hvv.2.2.2.1
    have HR := Lib.hid (rngV_yes hvv)
    have HRI := Lib.hid (rngV_raise hvr)
    obtain ⟨q1, q2, q3, q4⟩ := rng_bounds hvv
    generalize minTo (flat (L 0) g) (n * L 0) = mn at *
    generalize maxTo (flat (L 0) g) (n * L 0) = mx at *
    clear hv hvv hvr
    go_wp2_with fail
    refine (implGridRaise_yes _ _ _ _ _ _ _ HG.out HV.out).mono ?_
    rintro e w2 ⟨A2, c2, rfl, _, hown2, hb2⟩
    have hB2 : Below w.heap.size w w2 := hB1.trans (hb2.mono hB1.size)
    have Kg2 := Lib.hid (HG.out.below hb2)
    clear HG
    have Ko2 := Lib.hid (hown2.grid)
    clear hown2
    go_wp2_with fail
    refine (specGridRaise_yes _ _ _ _ _ _ _ Kg2.out HV.out).mono ?_
    rintro e w3 ⟨A3, c3, rfl, _, hg3, hb3⟩
    have HW := Lib.hid hg3
    clear hg3
    have hB3 : Below w.heap.size w w3 := hB2.trans (hb3.mono hB2.size)
    have Kg3 := Lib.hid (Kg2.out.below hb3)
    have Ko3 := Lib.hid (Ko2.out.below hb3)
    clear Kg2 Ko2
    go_wp2_with fail
    refine (sameGrid_yes _ _ _ _ _ _ _ _ Ko3.out HW.out (by omega) (fun r _ => by show L 0 ≤ _; omega)).mono ?_
    rintro e w4 ⟨rfl, hb4⟩
    have hB4 : Below w.heap.size w w4 := hB3.trans (hb4.mono hB3.size)
    have Kg4 := Lib.hid (Kg3.out.below hb4)
    have Ko4 := Lib.hid (Ko3.out.below hb4)
    have Kw4 := Lib.hid (HW.out.below hb4)
    clear Kg3 Ko3 HW
    go_wp2_with fail
    refine (implGridRaise_yes _ _ _ _ _ _ _ Ko4.out HVB.out).mono ?_
    rintro e w5 ⟨A5, c5, rfl, _, hown5, hb5⟩
    have hB5 : Below w.heap.size w w5 := hB4.trans (hb5.mono hB4.size)
    have Kg5 := Lib.hid (Kg4.out.below hb5)
    have Ko5 := Lib.hid (Ko4.out.below hb5)
    clear Kg4 Ko4
    have Kx5 := Lib.hid (hown5.grid.congrL (L' := L) (g' := g) (fun r hr => (HVV.out.len r hr).symm) (fun r c _ _ => by unfold raiseG; omega))
    clear hown5
    go_wp2_with fail
    refine (implGridRange_any _ _ _ _ _ _ Kg5.out (by omega) HL.out).mono ?_
    rintro e w6 ⟨rfl, hb6⟩
    rw [HR.out]
    have hB6 : Below w.heap.size w w6 := hB5.trans (hb6.mono hB5.size)
    have Kg6 := Lib.hid (Kg5.out.below hb6)
    have Ko6 := Lib.hid (Ko5.out.below hb6)
    have Kx6 := Lib.hid (Kx5.out.below hb6)
    clear Kg5 Ko5 Kx5
    go_wp2_with fail
    refine (implGridRange_any _ _ _ _ _ _ Ko6.out (by omega) (fun r _ => by show L 0 ≤ _; omega)).mono ?_
    rintro e w7 ⟨rfl, hb7⟩
    rw [HRI.out]
    have hB7 : Below w.heap.size w w7 := hB6.trans (hb7.mono hB6.size)
    have Kg7 := Lib.hid (Kg6.out.below hb7)
    have Ko7 := Lib.hid (Ko6.out.below hb7)
    have Kx7 := Lib.hid (Kx6.out.below hb7)
    clear Kg6 Ko6 Kx6
    go_wp2_with fail
    refine (sameGrid_yes _ _ _ _ _ _ _ _ Kx7.out Kg7.out (by omega) (fun r hr => by have := HL.out r hr; omega)).mono ?_
    rintro e w8 ⟨rfl, hb8⟩
    have hB8 : Below w.heap.size w w8 := hB7.trans (hb8.mono hB7.size)
    have Kg8 := Lib.hid (Kg7.out.below hb8)
    have Ko8 := Lib.hid (Ko7.out.below hb8)
    have Kx8 := Lib.hid (Kx7.out.below hb8)
    clear Kg7 Ko7 Kx7
    go_wp2_with fail
    go_ret
    exact ⟨rfl, hB8⟩
  · have HV := Lib.hid hv
    clear hv
    go_wp2_with fail
    refine (implGridRaise_no _ _ _ _ _ _ _ HG.out (by omega) HL.out HV.out).mono ?_
    rintro e w2 ⟨A2, c2, rfl, _, hown2, hb2⟩
    have hB2 : Below w.heap.size w w2 := hB1.trans (hb2.mono hB1.size)
    have Kg2 := Lib.hid (HG.out.below hb2)
    clear HG
    have Ko2 := Lib.hid (hown2.grid)
    clear hown2
    go_wp2_with fail
    refine (specGridRaise_no _ _ _ _ _ _ _ Kg2.out (by omega) HL.out HV.out).mono ?_
    rintro e w3 ⟨A3, c3, rfl, _, hg3, hb3⟩
    have HW := Lib.hid hg3
    clear hg3
    have hB3 : Below w.heap.size w w3 := hB2.trans (hb3.mono hB2.size)
    have Kg3 := Lib.hid (Kg2.out.below hb3)
    have Ko3 := Lib.hid (Ko2.out.below hb3)
    clear Kg2 Ko2
    go_wp2_with fail
    refine (sameGrid_yes _ _ _ _ _ _ _ _ Ko3.out HW.out (by omega) (fun r hr => by omega)).mono ?_
    rintro e w4 ⟨rfl, hb4⟩
    have hB4 : Below w.heap.size w w4 := hB3.trans (hb4.mono hB3.size)
    have Kg4 := Lib.hid (Kg3.out.below hb4)
    have Ko4 := Lib.hid (Ko3.out.below hb4)
    have Kw4 := Lib.hid (HW.out.below hb4)
    clear Kg3 Ko3 HW
    go_wp2_with fail
    refine (sameGrid_yes _ _ _ _ _ _ _ _ Ko4.out Kw4.out (by omega) (fun r hr => by omega)).mono ?_
    rintro e w5 ⟨rfl, hb5⟩
    have hB5 : Below w.heap.size w w5 := hB4.trans (hb5.mono hB4.size)
    have Kg5 := Lib.hid (Kg4.out.below hb5)
    have Ko5 := Lib.hid (Ko4.out.below hb5)
    have Kw5 := Lib.hid (Kw4.out.below hb5)
    clear Kg4 Ko4 Kw4
    go_wp2_with fail
    go_ret
    exact ⟨rfl, hB5⟩

end Go.Proofs.Ytofkjldijamlhaa
