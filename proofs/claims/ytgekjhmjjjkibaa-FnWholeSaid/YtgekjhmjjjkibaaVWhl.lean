/- The law FnWhole: its walk. -/
import Derived.Test.YtgekjhmjjjkibaaLawH
import Derived.Test.YtgekjhmjjjkibaaLvn
import Derived.Test.YtgekjhmjjjkibaaLev
namespace Go.Proofs.Ytgekjhmjjjkibaa
set_option linter.unusedVariables false
set_option linter.unusedSimpArgs false
open Go.RowKit

theorem whole_law {n : Nat} {L : Nat → Nat} {g : Nat → Nat → Int} (hv : Valid n L g) : ∃ o : Nat, o ≤ 99 ∧ levelWholeV n L g = (o : Int) ∧ levelRegionsV n L g (o : Int) = 1 ∧ (o = 99 ∨ levelRegionsV n L g ((o : Int) + 1) ≠ 1) ∧ (o : Int) ≤ greatestV n L g := by
  have h0 : 0 < n * L 0 := Nat.mul_pos (by have := hv.1; omega) (by have := hv.2.2.1; omega)
  have hh := flat_pos hv
  obtain ⟨h1, h2, h3⟩ := whole_is hh h0
  refine ⟨wholeV n (L 0) (flat (L 0) g), h2, if_pos hv, ?_, ?_, ?_⟩
  · rw [show levelRegionsV n L g _ = _ from if_pos ⟨hv, by omega, by omega⟩, h1]; rfl
  · rcases h3 with h3 | h3
    · exact .inl h3
    · by_cases e : wholeV n (L 0) (flat (L 0) g) = 99
      · exact .inl e
      · refine .inr fun h4 => h3 ?_
        rw [show levelRegionsV n L g _ = _ from if_pos ⟨hv, by omega, by omega⟩] at h4
        have h5 : ((wholeV n (L 0) (flat (L 0) g) + 1 : Nat) : Int) = (wholeV n (L 0) (flat (L 0) g) : Int) + 1 := by omega
        rw [h5]
        omega
  · rw [show greatestV n L g = _ from if_pos hv]
    obtain ⟨r, g1, g2, _⟩ := reg_onto (R := n) (C := L 0) (h := flat (L 0) g) (l := (wholeV n (L 0) (flat (L 0) g) : Nat)) (k := 0) (by omega)
    exact Int.le_trans g2 (le_maxTo g1)

set_option maxHeartbeats 1500000 in
set_option maxRecDepth 100000 in
theorem fnWhole_walk (A : Option Addr) (m cp : Nat) (z : Nat → Int) (w : World) (hz : RowB w A m z) (hm : m ≤ 9223372036854775807 ∧ m ≤ cp) :
    Calls Try.prog 8 #[.slice A m cp] w (RetV (.bool true) w) := by
  have HZ := Lib.hid hz
  obtain ⟨hm1, hm2⟩ := hm
  clear hz
  by_cases hbig : 1048576 < m
  · go_enter Try.func8, Try.ntmps8
    go_wp2_with fail
    go_ret
    exact ⟨rfl, Below.refl _ _⟩
  go_enter Try.func8, Try.ntmps8
  go_wp2_with fail
  refine (drawLevelWhole_any _ _ _ _ _ HZ.out hm1 hm2).mono ?_
  rintro e w1 ⟨A1, n, c1, L, g, rfl, hn1, hn2, hL, hgrid, hb1⟩
  have HG := Lib.hid hgrid
  have HL : Hid (∀ r, r < n → L r ≤ 1048576) := fun r hr => by have := hL r hr; omega
  have hB1 := hb1
  clear hgrid hL hb1
  by_cases hv : Valid n L g
  · obtain ⟨x, hx1, hx2, hx3, hx4, hx5⟩ := whole_law hv
    have HX2 := Lib.hid hx2
    have HX3 := Lib.hid hx3
    have HX4 := Lib.hid hx4
    have HX5 := Lib.hid hx5
    clear hv hx2 hx3 hx4 hx5
    go_wp2_with fail
    refine (implLevelWhole_any _ _ _ _ _ _ HG.out (by omega) HL.out).mono ?_
    rintro e w2 ⟨rfl, hb2⟩
    rw [HX2.out]
    have hB2 : Below w.heap.size w w2 := hB1.trans (hb2.mono hB1.size)
    have Kg2 := Lib.hid (HG.out.below hb2)
    clear HG
    go_wp2_with fail
    refine (specLevelWhole_any _ _ _ _ _ _ Kg2.out (by omega) HL.out).mono ?_
    rintro e w3 ⟨rfl, hb3⟩
    rw [HX2.out]
    have hB3 : Below w.heap.size w w3 := hB2.trans (hb3.mono hB2.size)
    have Kg3 := Lib.hid (Kg2.out.below hb3)
    clear Kg2
    go_wp2_with fail
    refine (implLevelRegions_any _ _ _ _ _ _ _ Kg3.out (by omega) HL.out (by omega) (by omega)).mono ?_
    rintro e w4 ⟨rfl, hb4⟩
    obtain ⟨y, hy⟩ : ∃ y, y = levelRegionsV n L g ((x : Int) + 1) := ⟨_, rfl⟩
    rw [← hy] at HX4 ⊢
    clear hy
    have hB4 : Below w.heap.size w w4 := hB3.trans (hb4.mono hB3.size)
    have Kg4 := Lib.hid (Kg3.out.below hb4)
    clear Kg3
    go_wp2_with fail
    refine (implLevelRegions_any _ _ _ _ _ _ _ Kg4.out (by omega) HL.out (by omega) (by omega)).mono ?_
    rintro e w5 ⟨rfl, hb5⟩
    rw [HX3.out]
    have hB5 : Below w.heap.size w w5 := hB4.trans (hb5.mono hB4.size)
    have Kg5 := Lib.hid (Kg4.out.below hb5)
    clear Kg4
    by_cases q1 : x = 99
    · subst q1
      have HX6 := HX5
      skip
      clear HX6 HX4
      go_wp2_with fail
      refine (implLevelGreatest_any _ _ _ _ _ _ Kg5.out (by omega) HL.out).mono ?_
      rintro e w6 ⟨rfl, hb6⟩
      have d5 : decide ((99 : Int) ≤ greatestV n L g) = true := decide_eq_true HX5.out
      generalize greatestV n L g = z at *
      have hB6 : Below w.heap.size w w6 := hB5.trans (hb6.mono hB5.size)
      have Kg6 := Lib.hid (Kg5.out.below hb6)
      clear Kg5
      go_wp2_with fail
      go_ret
      exact ⟨rfl, hB6⟩
    · have d1 : ((x : Int) == 99) = false := beq_eq_false_iff_ne.2 (by omega)
      have d2 : (y != 1) = true := bne_iff_ne.2 (by rcases HX4.out with e | e; exact absurd e q1; exact e)
      clear HX4
      go_wp2_with fail
      refine (implLevelGreatest_any _ _ _ _ _ _ Kg5.out (by omega) HL.out).mono ?_
      rintro e w6 ⟨rfl, hb6⟩
      have d5 : decide ((x : Int) ≤ greatestV n L g) = true := decide_eq_true HX5.out
      generalize greatestV n L g = z at *
      have hB6 : Below w.heap.size w w6 := hB5.trans (hb6.mono hB5.size)
      have Kg6 := Lib.hid (Kg5.out.below hb6)
      clear Kg5
      go_wp2_with fail
      go_ret
      exact ⟨rfl, hB6⟩
  · have HX2 := Lib.hid (show levelWholeV n L g = -1 from if_neg hv)
    clear hv
    go_wp2_with fail
    refine (implLevelWhole_any _ _ _ _ _ _ HG.out (by omega) HL.out).mono ?_
    rintro e w2 ⟨rfl, hb2⟩
    rw [HX2.out]
    have hB2 : Below w.heap.size w w2 := hB1.trans (hb2.mono hB1.size)
    have Kg2 := Lib.hid (HG.out.below hb2)
    clear HG
    go_wp2_with fail
    refine (specLevelWhole_any _ _ _ _ _ _ Kg2.out (by omega) HL.out).mono ?_
    rintro e w3 ⟨rfl, hb3⟩
    rw [HX2.out]
    have hB3 : Below w.heap.size w w3 := hB2.trans (hb3.mono hB2.size)
    have Kg3 := Lib.hid (Kg2.out.below hb3)
    clear Kg2
    go_wp2_with fail
    go_ret
    exact ⟨rfl, hB3⟩

end Go.Proofs.Ytgekjhmjjjkibaa
