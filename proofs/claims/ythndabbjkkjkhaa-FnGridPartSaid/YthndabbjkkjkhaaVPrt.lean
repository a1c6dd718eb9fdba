/- The law FnGridPart: its walk. -/
import Derived.Test.YthndabbjkkjkhaaTwo
import Derived.Test.YthndabbjkkjkhaaSPart
import Derived.Test.YthndabbjkkjkhaaPar
namespace Go.Proofs.Ythndabbjkkjkhaa
set_option linter.unusedVariables false
set_option linter.unusedSimpArgs false
open Go.RowKit

theorem specGridPart_to (n' C' t l : Nat) (A : Option Addr) (n cp : Nat) (L : Nat → Nat) (g : Nat → Nat → Int) (tp bt lf rt : Int) (w : World) (hg : GridF w A n L g) (hv : Valid n L g) (h1 : tp = t) (h2 : lf = l) (h3 : (n' : Int) = bt - tp + 1) (h4 : (C' : Int) = rt - lf + 1) (h5 : 1 ≤ n') (h6 : t + n' ≤ n) (h7 : 1 ≤ C') (h8 : l + C' ≤ L 0) :
    Calls Try.prog 32 #[.slice A n cp, .int .i64 tp, .int .i64 bt, .int .i64 lf, .int .i64 rt] w (RetGS n' (fun _ => C') (partG t l g) true w) := by
  have h := specGridPart_yes A n cp L g tp bt lf rt w hg ⟨hv, by omega, by omega, by omega, by omega, by omega, by omega⟩
  rw [show (bt - tp + 1).toNat = n' by omega, show (rt - lf + 1).toNat = C' by omega, show tp.toNat = t by omega, show lf.toNat = l by omega] at h
  exact h
theorem part_part {t l : Nat} {g : Nat → Nat → Int} {r c : Nat} : partG 0 0 (partG t l g) r c = partG t l g r c := by unfold partG; rw [Nat.zero_add, Nat.zero_add]
theorem part_join {C : Nat} {g : Nat → Nat → Int} {r c : Nat} : besideG C (partG 0 0 g) (partG 0 C g) r c = g r c := by
  unfold besideG partG
  by_cases h : c < C
  · rw [if_pos h, Nat.zero_add, Nat.zero_add]
  · rw [if_neg h, Nat.zero_add, show C + (c - C) = c by omega]

set_option maxHeartbeats 1500000 in
set_option maxRecDepth 100000 in
theorem fnGridPart_walk (A : Option Addr) (m cp : Nat) (z : Nat → Int) (w : World) (hz : RowB w A m z) (hm : m ≤ 9223372036854775807 ∧ m ≤ cp) :
    Calls Try.prog 6 #[.slice A m cp] w (RetV (.bool true) w) := by
  have HZ := Lib.hid hz
  obtain ⟨hm1, hm2⟩ := hm
  clear hz
  by_cases hbig : 1048576 < m
  · go_enter Try.func6, Try.ntmps6
    go_wp2_with fail
    go_ret
    exact ⟨rfl, Below.refl _ _⟩
  go_enter Try.func6, Try.ntmps6
  go_wp2_with fail
  refine (drawGridPart_any _ _ _ _ _ HZ.out hm1 hm2).mono ?_
  rintro e w1 ⟨A1, n, c1, L, g, a, b, c, d, rfl, ⟨x1, x2, x3, x4, x5, x6, x7, x8⟩, hn1, hn2, hL, hgrid, hb1⟩
  have HG := Lib.hid hgrid
  have HL : Hid (∀ r, r < n → L r ≤ 1048576) := fun r hr => by have := hL r hr; omega
  have hB1 := hb1
  clear hgrid hL hb1
  by_cases hv : Prt n L g a b c d
  · obtain ⟨hvv, y1, y2, y3, y4, y5, y6⟩ := hv
    obtain ⟨t, rfl⟩ := Int.eq_ofNat_of_zero_le y1
    obtain ⟨l, rfl⟩ := Int.eq_ofNat_of_zero_le y4
    obtain ⟨n', hn'⟩ : ∃ n' : Nat, (n' : Int) = b - t + 1 := ⟨(b - t + 1).toNat, by omega⟩
    obtain ⟨C', hC'⟩ : ∃ C' : Nat, (C' : Int) = d - l + 1 := ⟨(d - l + 1).toNat, by omega⟩
    have z1 : 1 ≤ n' := by omega
    have z2 : t + n' ≤ n := by omega
    have z3 : 1 ≤ C' := by omega
    have z4 : l + C' ≤ L 0 := by omega
    obtain rfl : b = (t : Int) + n' - 1 := by omega
    obtain rfl : d = (l : Int) + C' - 1 := by omega
    clear hn' hC'
    have HVV := Lib.hid hvv
    have HVP := Lib.hid (hvv.part z1 z2 z3 z4)
    have hvn := hvv.2.1
    have hvl := hvv.2.2.2.1
    clear hvv
    go_wp2_with fail
    refine (implGridPart_to n' C' t l _ _ _ _ _ _ _ _ _ _ HG.out HVV.out rfl rfl (by omega) (by omega) z1 z2 z3 z4).mono ?_
    rintro e w2 ⟨A2, c2, rfl, _, hown2, hb2⟩
    have hB2 : Below w.heap.size w w2 := hB1.trans (hb2.mono hB1.size)
    have Kg2 := Lib.hid (HG.out.below hb2)
    clear HG
    have Ko2 := Lib.hid (hown2.grid)
    clear hown2
    go_wp2_with fail
    refine (specGridPart_to n' C' t l _ _ _ _ _ _ _ _ _ _ Kg2.out HVV.out rfl rfl (by omega) (by omega) z1 z2 z3 z4).mono ?_
    rintro e w3 ⟨A3, c3, rfl, _, hg3, hb3⟩
    have HW := Lib.hid hg3
    clear hg3
    have hB3 : Below w.heap.size w w3 := hB2.trans (hb3.mono hB2.size)
    have Kg3 := Lib.hid (Kg2.out.below hb3)
    have Ko3 := Lib.hid (Ko2.out.below hb3)
    clear Kg2 Ko2
    go_wp2_with fail
    refine (sameGrid_yes _ _ _ _ _ _ _ _ Ko3.out HW.out (by omega) (fun r hr => by show C' ≤ _; omega)).mono ?_
    rintro e w4 ⟨rfl, hb4⟩
    have hB4 : Below w.heap.size w w4 := hB3.trans (hb4.mono hB3.size)
    have Kg4 := Lib.hid (Kg3.out.below hb4)
    have Ko4 := Lib.hid (Ko3.out.below hb4)
    have Kw4 := Lib.hid (HW.out.below hb4)
    clear Kg3 Ko3 HW
    obtain ⟨Bo, oo, _, _, rfl, _, _, _⟩ := Ko4.out 0 (by omega)
    obtain ⟨Bg, og, _, _, rfl, _, _, _⟩ := Kg4.out 0 (by omega)
    go_wp2_with fail
    go_loopw [12] (fun i wr => ∃ k : Nat, k ≤ n' ∧ i = .int .i64 k ∧ Below w4.heap.size w4 wr) (fun i _ => n' - (intOf i).toNat)
    case atStart => exact ⟨0, Nat.zero_le _, rfl, Below.refl _ _⟩
    case round =>
      obtain ⟨k, hk, rfl, hbel⟩ := hrel
      have HO1 := Lib.hid (Ko4.out.below hbel)
      have HG1 := Lib.hid (Kg4.out.below hbel)
      by_cases hlt : k < n'
      · go_wp2_with fail
        go_loopw [13] (fun i wi => ∃ j : Nat, j ≤ C' ∧ i = .int .i64 j ∧ Below wr.heap.size wr wi) (fun i _ => C' - (intOf i).toNat)
        case atStart => exact ⟨0, Nat.zero_le _, rfl, Below.refl _ _⟩
        case round =>
          obtain ⟨j, hj, rfl, hbi⟩ := hrel
          obtain ⟨B9, o9, R1, k1, h9, hc1, _, hr1⟩ := (HO1.out.below hbi) k hlt
          injection h9 with h9
          injection h9 with h9a h9b
          subst h9a h9b
          by_cases hlt2 : j < C'
          · obtain ⟨b1, o1, rfl, hd1⟩ := hr1 j hlt2
            obtain ⟨B8, o8, R2, k2, h8, hc2, _, hr2⟩ := (HG1.out.below hbi) (t + k) (by omega)
            injection h8 with h8
            injection h8 with h8a h8b
            subst h8a h8b
            have hlen := HVV.out.len (t + k) (by omega)
            rw [hlen] at hc2
            obtain ⟨b2, o2, rfl, hd2⟩ := hr2 (l + j) (by rw [hlen]; omega)
            change _ = some (Value.int .i64 (g (t + k) (l + j))) at hd1
            have e1 : ((t : Int) + (k : Int)).toNat = t + k := by omega
            have e2 : ((l : Int) + (j : Int)).toNat = l + j := by omega
            clear hr1 hr2 hlen
            generalize g (t + k) (l + j) = X at *
            go_wp2_with fail
            go_quiet (fail)
            go_wp2_with fail
            go_roundw
            case rel => exact ⟨j + 1, by omega, by go_num, below_drewN hbi _⟩
            case measure => simp [intOf]; omega
          · clear hr1
            go_wp2_with fail
            go_roundw
            case rel => exact ⟨k + 1, by omega, by go_num, hbel.trans (hbi.mono hbel.size)⟩
            case measure => simp [intOf]; omega
      · have hB5 : Below w.heap.size w wr := hB4.trans (hbel.mono hB4.size)
        go_wp2_with fail
        refine (implGridPart_to n' C' 0 0 _ _ _ _ _ _ _ _ _ _ HO1.out HVP.out rfl rfl (by omega) (by omega) z1 (by omega) z3 (by show 0 + C' ≤ C'; omega)).mono ?_
        rintro e w6 ⟨A6, c6, rfl, _, hown6, hb6⟩
        have hB6 : Below w.heap.size w w6 := hB5.trans (hb6.mono hB5.size)
        have Ko6 := Lib.hid (HO1.out.below hb6)
        have Kg6 := Lib.hid (HG1.out.below hb6)
        clear HO1 HG1
        have Kx6 := Lib.hid (hown6.grid.congrL (L' := fun _ => C') (g' := partG t l g) (fun r hr => rfl) (fun r c _ _ => part_part))
        clear hown6
        obtain ⟨B9, o9, R9, k9, h9, hc9, _, _⟩ := Kg6.out 0 (by omega)
        injection h9 with h9
        injection h9 with h9a h9b
        subst h9a h9b
        rw [Nat.add_zero] at hc9
        by_cases hq : l + C' = L 0
        · skip
          go_wp2_with fail
          refine (sameGrid_yes _ _ _ _ _ _ _ _ Kx6.out Ko6.out (by omega) (fun r hr => by show C' ≤ _; omega)).mono ?_
          rintro e w7 ⟨rfl, hb7⟩
          have hB7 : Below w.heap.size w w7 := hB6.trans (hb7.mono hB6.size)
          have Ko7 := Lib.hid (Ko6.out.below hb7)
          have Kg7 := Lib.hid (Kg6.out.below hb7)
          have Kx7 := Lib.hid (Kx6.out.below hb7)
          clear Ko6 Kg6 Kx6
          go_wp2_with fail
          go_ret
          exact ⟨ret_bool (beq_iff_eq.2 (by omega)), hB7⟩
        · skip
          obtain ⟨D, hD⟩ : ∃ D : Nat, l + C' + D = L 0 := ⟨L 0 - (l + C'), by omega⟩
          have HCB : Hid (Bes n (fun _ => l + C') (partG 0 0 g) n (fun _ => D) (partG 0 (l + C') g)) := ⟨HVV.out.part (by omega) (by omega) (by omega) (by omega), HVV.out.part (by omega) (by omega) (by omega) (by omega), rfl, by show l + C' + D ≤ 7; omega⟩
          go_wp2_with fail
          refine (implGridPart_to n (l + C') 0 0 _ _ _ _ _ _ _ _ _ _ Kg6.out HVV.out rfl rfl (by omega) (by omega) (by omega) (by omega) (by omega) (by omega)).mono ?_
          rintro e w7 ⟨A7, c7, rfl, _, hown7, hb7⟩
          have hB7 : Below w.heap.size w w7 := hB6.trans (hb7.mono hB6.size)
          have Ko7 := Lib.hid (Ko6.out.below hb7)
          have Kg7 := Lib.hid (Kg6.out.below hb7)
          have Kx7 := Lib.hid (Kx6.out.below hb7)
          clear Ko6 Kg6 Kx6
          have Kp7 := Lib.hid (hown7.grid)
          clear hown7
          go_wp2_with fail
          refine (implGridPart_to n D 0 (l + C') _ _ _ _ _ _ _ _ _ _ Kg7.out HVV.out rfl (by omega) (by omega) (by omega) (by omega) (by omega) (by omega) (by omega)).mono ?_
          rintro e w8 ⟨A8, c8, rfl, _, hown8, hb8⟩
          clear hc9
          have hB8 : Below w.heap.size w w8 := hB7.trans (hb8.mono hB7.size)
          have Ko8 := Lib.hid (Ko7.out.below hb8)
          have Kg8 := Lib.hid (Kg7.out.below hb8)
          have Kx8 := Lib.hid (Kx7.out.below hb8)
          have Kp8 := Lib.hid (Kp7.out.below hb8)
          clear Ko7 Kg7 Kx7 Kp7
          have Kq8 := Lib.hid (hown8.grid)
          clear hown8
          go_wp2_with fail
          refine (implGridBeside_yes _ _ _ _ _ _ _ _ _ _ _ Kp8.out Kq8.out HCB.out).mono ?_
          rintro e w9 ⟨A9, c9, rfl, _, hown9, hb9⟩
          have hB9 : Below w.heap.size w w9 := hB8.trans (hb9.mono hB8.size)
          have Ko9 := Lib.hid (Ko8.out.below hb9)
          have Kg9 := Lib.hid (Kg8.out.below hb9)
          have Kx9 := Lib.hid (Kx8.out.below hb9)
          have Kp9 := Lib.hid (Kp8.out.below hb9)
          have Kq9 := Lib.hid (Kq8.out.below hb9)
          clear Ko8 Kg8 Kx8 Kp8 Kq8
          have Kz9 := Lib.hid (hown9.grid.congrL (L' := L) (g' := g) (fun r hr => by rw [HVV.out.len r hr]; exact hD) (fun r c _ _ => part_join))
          clear hown9
          go_wp2_with fail
          refine (sameGrid_yes _ _ _ _ _ _ _ _ Kx9.out Ko9.out (by omega) (fun r hr => by show C' ≤ _; omega)).mono ?_
          rintro e w10 ⟨rfl, hb10⟩
          have hB10 : Below w.heap.size w w10 := hB9.trans (hb10.mono hB9.size)
          have Ko10 := Lib.hid (Ko9.out.below hb10)
          have Kg10 := Lib.hid (Kg9.out.below hb10)
          have Kx10 := Lib.hid (Kx9.out.below hb10)
          have Kz10 := Lib.hid (Kz9.out.below hb10)
          clear Ko9 Kg9 Kx9 Kz9
          go_wp2_with fail
          refine (sameGrid_yes _ _ _ _ _ _ _ _ Kz10.out Kg10.out (by omega) (fun r hr => by have := HL.out r hr; omega)).mono ?_
          rintro e w11 ⟨rfl, hb11⟩
          have hB11 : Below w.heap.size w w11 := hB10.trans (hb11.mono hB10.size)
          have Ko11 := Lib.hid (Ko10.out.below hb11)
          have Kg11 := Lib.hid (Kg10.out.below hb11)
          have Kx11 := Lib.hid (Kx10.out.below hb11)
          have Kz11 := Lib.hid (Kz10.out.below hb11)
          clear Ko10 Kg10 Kx10 Kz10
          obtain ⟨B9, o9, R9, k9, h9, hc9, _, _⟩ := Ko11.out 0 (by omega)
          injection h9 with h9
          injection h9 with h9a h9b
          subst h9a h9b
          rw [Nat.add_zero] at hc9
          go_wp2_with fail
          go_ret
          exact ⟨ret_bool (beq_iff_eq.2 (by omega)), hB11⟩
  · have HV := Lib.hid hv
    clear hv
    go_wp2_with fail
    refine (implGridPart_no _ _ _ _ _ _ _ _ _ _ HG.out (by omega) HL.out HV.out).mono ?_
    rintro e w2 ⟨A2, c2, rfl, _, hown2, hb2⟩
    have hB2 : Below w.heap.size w w2 := hB1.trans (hb2.mono hB1.size)
    have Kg2 := Lib.hid (HG.out.below hb2)
    clear HG
    have Ko2 := Lib.hid (hown2.grid)
    clear hown2
    go_wp2_with fail
    refine (specGridPart_no _ _ _ _ _ _ _ _ _ _ Kg2.out (by omega) HL.out HV.out).mono ?_
    rintro e w3 ⟨A3, c3, rfl, _, hg3, hb3⟩
    have HW := Lib.hid hg3
    clear hg3
    have hB3 : Below w.heap.size w w3 := hB2.trans (hb3.mono hB2.size)
    have Kg3 := Lib.hid (Kg2.out.below hb3)
    have Ko3 := Lib.hid (Ko2.out.below hb3)
    clear Kg2 Ko2
    go_wp2_with fail
    refine (sameGrid_yes _ _ _ _ _ _ _ _ Ko3.out HW.out (by omega) (fun r hr => by omega)).mono ?_
    rintro e w4 ⟨rfl, hb4⟩
    have hB4 : Below w.heap.size w w4 := hB3.trans (hb4.mono hB3.size)
    have Kg4 := Lib.hid (Kg3.out.below hb4)
    have Ko4 := Lib.hid (Ko3.out.below hb4)
    have Kw4 := Lib.hid (HW.out.below hb4)
    clear Kg3 Ko3 HW
    go_wp2_with fail
    refine (sameGrid_yes _ _ _ _ _ _ _ _ Ko4.out Kw4.out (by omega) (fun r hr => by omega)).mono ?_
    rintro e w5 ⟨rfl, hb5⟩
    have hB5 : Below w.heap.size w w5 := hB4.trans (hb5.mono hB4.size)
    have Kg5 := Lib.hid (Kg4.out.below hb5)
    have Ko5 := Lib.hid (Ko4.out.below hb5)
    have Kw5 := Lib.hid (Kw4.out.below hb5)
    clear Kg4 Ko4 Kw4
    go_wp2_with fail
    go_ret
    exact ⟨rfl, hB5⟩

end Go.Proofs.Ythndabbjkkjkhaa
