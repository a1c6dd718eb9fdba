/- The law FnGridAt: its walk. -/
import Derived.Test.YtigbmpmhhakklaaLawH
import Derived.Test.YtigbmpmhhakklaaCell
import Derived.Test.YtigbmpmhhakklaaGSet
import Derived.Test.YtigbmpmhhakklaaITurn
namespace Go.Proofs.Ytigbmpmhhakklaa
set_option linter.unusedVariables false
set_option linter.unusedSimpArgs false
open Go.RowKit

theorem gset_same (g : Nat → Nat → Int) (R Q : Nat) : ∀ r c, gset g R Q (g R Q) r c = g r c := fun r c => by
  unfold gset
  split
  · rename_i h; rw [h.1, h.2]
  · rfl
theorem HasCell.turned {n : Nat} {L : Nat → Nat} {g : Nat → Nat → Int} {R Q : Nat} (h : HasCell n L g R Q) : HasCell (L 0) (fun _ => n) (turnG n g) (Q : Int) ((n : Int) - 1 - R) := by
  obtain ⟨hv, h1, h2, h3, h4⟩ := h
  refine ⟨⟨hv.2.2.1, hv.2.2.2.1, hv.1, hv.2.1, fun r hr => ⟨rfl, fun c hc => ?_⟩⟩, by omega, by omega, by omega, by show _ < (n : Int); omega⟩
  have hc' : c < n := hc
  exact hv.rng (by omega) hr
theorem at_turned {n : Nat} {L : Nat → Nat} {g : Nat → Nat → Int} {R Q : Nat} (h : HasCell n L g R Q) : gridAtV (L 0) (fun _ => n) (turnG n g) (Q : Int) ((n : Int) - 1 - R) = g R Q := by
  rw [gridAtV_yes h.turned]
  obtain ⟨hv, h1, h2, h3, h4⟩ := h
  unfold turnG
  rw [show n - 1 - ((n : Int) - 1 - R).toNat = R by omega, show ((Q : Nat) : Int).toNat = Q by omega]

set_option maxHeartbeats 1500000 in
set_option maxRecDepth 100000 in
theorem fnGridAt_walk (A : Option Addr) (m cp : Nat) (z : Nat → Int) (w : World) (hz : RowB w A m z) (hm : m ≤ 9223372036854775807 ∧ m ≤ cp) :
    Calls Try.prog 11 #[.slice A m cp] w (RetV (.bool true) w) := by
  have HZ := Lib.hid hz
  obtain ⟨hm1, hm2⟩ := hm
  clear hz
  by_cases hbig : 1048576 < m
  · go_enter Try.func11, Try.ntmps11
    go_wp2_with fail
    go_ret
    exact ⟨rfl, Below.refl _ _⟩
  go_enter Try.func11, Try.ntmps11
  go_wp2_with fail
  refine (drawGridAt_any _ _ _ _ _ HZ.out hm1 hm2).mono ?_
  rintro e w1 ⟨A1, n, c1, L, g, a, b, rfl, ha1, ha2, ha3, ha4, hn1, hn2, hL, hgrid, hb1⟩
  have HG := Lib.hid hgrid
  have HL : Hid (∀ r, r < n → L r ≤ 1048576) := fun r hr => by have := hL r hr; omega
  have hB1 := hb1
  clear hgrid hL hb1
  by_cases hv : HasCell n L g a b
  · obtain ⟨R, rfl⟩ := Int.eq_ofNat_of_zero_le hv.2.1
    obtain ⟨Q, rfl⟩ := Int.eq_ofNat_of_zero_le hv.2.2.2.1
    have hR : R < n := by have := hv.2.2.1; omega
    have hQ : Q < L 0 := by have := hv.2.2.2.2; omega
    have HV := Lib.hid hv
    have HVV := Lib.hid hv.1
    have hvn := hv.1.2.1
    have hvl := hv.1.2.2.2.1
    have HA : Hid (gridAtV n L g R Q = g R Q) := gridAtV_yes hv
    have HT := Lib.hid (at_turned hv)
    have hX := hv.1.rng hR hQ
    have HGS := Lib.hid (gset_same g R Q)
    obtain ⟨X, hXe⟩ : ∃ X, X = g R Q := ⟨_, rfl⟩
    have HXe := Lib.hid hXe
    rw [← hXe] at hX HA HT HGS
    clear hv hXe
    go_wp2_with fail
    refine (implGridAt_any _ _ _ _ _ _ _ _ HG.out (by omega) HL.out (by omega) (by omega) (by omega) (by omega)).mono ?_
    rintro e w2 ⟨rfl, hb2⟩
    rw [HA.out]
    have hB2 : Below w.heap.size w w2 := hB1.trans (hb2.mono hB1.size)
    have Kg2 := Lib.hid (HG.out.below hb2)
    clear HG
    go_wp2_with fail
    refine (specGridAt_any _ _ _ _ _ _ _ _ Kg2.out (by omega) HL.out (by omega) (by omega) (by omega) (by omega)).mono ?_
    rintro e w3 ⟨rfl, hb3⟩
    rw [HA.out]
    have hB3 : Below w.heap.size w w3 := hB2.trans (hb3.mono hB2.size)
    have Kg3 := Lib.hid (Kg2.out.below hb3)
    clear Kg2
    go_wp2_with fail
    refine (implGridSet_yes _ _ _ _ _ _ _ _ _ Kg3.out ⟨HV.out, by omega, by omega⟩).mono ?_
    rintro e w4 ⟨A4, c4, rfl, _, hown4, hb4⟩
    have hB4 : Below w.heap.size w w4 := hB3.trans (hb4.mono hB3.size)
    have Kg4 := Lib.hid (Kg3.out.below hb4)
    clear Kg3
    have Kx4 := Lib.hid (hown4.grid.congrL (L' := L) (g' := g) (fun r _ => rfl) (fun r c _ _ => HGS.out r c))
    clear hown4
    go_wp2_with fail
    refine (implGridTurn_yes _ _ _ _ _ _ Kg4.out HVV.out).mono ?_
    rintro e w5 ⟨A5, c5, rfl, _, hown5, hb5⟩
    have hB5 : Below w.heap.size w w5 := hB4.trans (hb5.mono hB4.size)
    have Kg5 := Lib.hid (Kg4.out.below hb5)
    have Kx5 := Lib.hid (Kx4.out.below hb5)
    clear Kg4 Kx4
    have Kt5 := Lib.hid (hown5.grid)
    clear hown5
    go_wp2_with fail
    refine (sameGrid_yes _ _ _ _ _ _ _ _ Kx5.out Kg5.out (by omega) (fun r hr => by have := HL.out r hr; omega)).mono ?_
    rintro e w6 ⟨rfl, hb6⟩
    have hB6 : Below w.heap.size w w6 := hB5.trans (hb6.mono hB5.size)
    have Kg6 := Lib.hid (Kg5.out.below hb6)
    have Kx6 := Lib.hid (Kx5.out.below hb6)
    have Kt6 := Lib.hid (Kt5.out.below hb6)
    clear Kg5 Kx5 Kt5
    go_wp2_with fail
    refine (implGridAt_any _ _ _ _ _ _ _ _ Kt6.out (by omega) (fun r _ => by show n ≤ _; omega) (by omega) (by omega) (by omega) (by omega)).mono ?_
    rintro e w7 ⟨rfl, hb7⟩
    rw [HT.out]
    have hB7 : Below w.heap.size w w7 := hB6.trans (hb7.mono hB6.size)
    have Kg7 := Lib.hid (Kg6.out.below hb7)
    have Kx7 := Lib.hid (Kx6.out.below hb7)
    have Kt7 := Lib.hid (Kt6.out.below hb7)
    clear Kg6 Kx6 Kt6
    obtain ⟨BB, oo, A', c', rfl, hcR, _, hrow⟩ := Kg7.out R hR
    obtain ⟨B2, o2, rfl, hcQ⟩ := hrow Q (by rw [HVV.out.len R hR]; exact hQ)
    rw [HVV.out.len R hR] at hcR
    rw [← HXe.out] at hcQ
    clear hrow
    go_wp2_with fail
    go_ret
    exact ⟨rfl, hB7⟩
  · have HA : Hid (gridAtV n L g a b = -1) := gridAtV_no hv
    clear hv
    go_wp2_with fail
    refine (implGridAt_any _ _ _ _ _ _ _ _ HG.out (by omega) HL.out (by omega) (by omega) (by omega) (by omega)).mono ?_
    rintro e w2 ⟨rfl, hb2⟩
    rw [HA.out]
    have hB2 : Below w.heap.size w w2 := hB1.trans (hb2.mono hB1.size)
    have Kg2 := Lib.hid (HG.out.below hb2)
    clear HG
    go_wp2_with fail
    refine (specGridAt_any _ _ _ _ _ _ _ _ Kg2.out (by omega) HL.out (by omega) (by omega) (by omega) (by omega)).mono ?_
    rintro e w3 ⟨rfl, hb3⟩
    rw [HA.out]
    have hB3 : Below w.heap.size w w3 := hB2.trans (hb3.mono hB2.size)
    have Kg3 := Lib.hid (Kg2.out.below hb3)
    clear Kg2
    go_wp2_with fail
    go_ret
    exact ⟨rfl, hB3⟩

end Go.Proofs.Ytigbmpmhhakklaa
