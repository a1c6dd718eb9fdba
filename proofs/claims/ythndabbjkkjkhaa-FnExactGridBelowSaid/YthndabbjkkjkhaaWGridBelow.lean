/- The law FnExactGridBelow: its walk. -/
import Derived.Test.YthndabbjkkjkhaaSBlw
import Derived.Test.YthndabbjkkjkhaaMark
namespace Go.Proofs.Ythndabbjkkjkhaa
set_option linter.unusedVariables false
set_option linter.unusedSimpArgs false
open Go.RowKit

set_option maxHeartbeats 1000000 in
set_option maxRecDepth 100000 in
theorem fnExactGridBelow_walk (Aa : Option Addr) (na cpa : Nat) (La : Nat → Nat) (ga : Nat → Nat → Int) (Ab : Option Addr) (nb cpb : Nat) (Lb : Nat → Nat) (gb : Nat → Nat → Int) (w : World) (hga : GridF w Aa na La ga) (hna : na ≤ 9223372036854775807) (hLa : ∀ r, r < na → La r ≤ 9223372036854775807) (hgb : GridF w Ab nb Lb gb) (hnb : nb ≤ 9223372036854775807) (hLb : ∀ r, r < nb → Lb r ≤ 9223372036854775807) :
    Calls Try.prog 5 #[.slice Aa na cpa, .slice Ab nb cpb] w (RetV (.bool true) w) := by
  have HGa := Lib.hid hga
  have HLa := Lib.hid hLa
  have HGb := Lib.hid hgb
  have HLb := Lib.hid hLb
  clear hga hLa hgb hLb
  by_cases hc : Blw na La ga nb Lb gb
  · have hB1 : na + nb ≤ 1048576 := by have := hc.2.2.2; omega
    have HB2 : Hid (∀ r, r < na + nb → (fun _ => La 0) r ≤ 1048576) := fun r hr => by have := hc.1.2.2.2.1; show La 0 ≤ _; omega
    have HC := Lib.hid hc
    clear hc
    go_enter Try.func5, Try.ntmps5
    go_wp2_with fail
    refine (szIntSS_any _ _ _ _ _ _ _ HGa.out hna HLa.out (by omega) (by omega)).mono ?_
    rintro e w' ⟨lz0, rfl, hza0, hzb0, hsz, rfl⟩
    have HSza := Lib.hid hsz
    clear hsz
    by_cases hlz0 : ¬ 0 ≤ lz0
    · go_wp2_with fail
      go_ret
      exact ⟨rfl, Below.refl _ _⟩
    have hlz0 : 0 ≤ lz0 := Int.not_lt.1 (fun h => hlz0 (by omega))
    obtain ⟨hma, hL1⟩ := HSza.out hlz0
    have HMa := Lib.hid hL1
    clear hL1
    go_wp2_with fail
    refine (szIntSS_any _ _ _ _ _ _ _ HGb.out hnb HLb.out (by omega) (by omega)).mono ?_
    rintro e w' ⟨lz1, rfl, hza1, hzb1, hsz, rfl⟩
    have HSzb := Lib.hid hsz
    clear hsz
    by_cases hlz1 : ¬ 0 ≤ lz1
    · go_wp2_with fail
      go_ret
      exact ⟨rfl, Below.refl _ _⟩
    have hlz1 : 0 ≤ lz1 := Int.not_lt.1 (fun h => hlz1 (by omega))
    obtain ⟨hmb, hL1⟩ := HSzb.out hlz1
    have HMb := Lib.hid hL1
    clear hL1
    go_wp2_with fail
    refine (toIntSS_any _ _ _ _ _ _ HGa.out hma HMa.out).mono ?_
    rintro e w1 ⟨At1, rfl, hown, hb1⟩
    have hW1 := hb1
    have hz1 := hb1.size
    have HO1 := Lib.hid hown
    clear hown
    go_wp2_with fail
    refine (toIntSS_any _ _ _ _ _ _ (HGb.out.below hW1) hmb HMb.out).mono ?_
    rintro e w2 ⟨At2, rfl, hown, hb2⟩
    have hW2 : Below w.heap.size w w2 := hW1.trans (hb2.mono hW1.size)
    have hz2 := hb2.size
    have HO2 := Lib.hid hown
    clear hown
    go_wp2_with fail
    refine (specGridBelow_yes _ _ _ _ _ _ _ _ _ _ _ (HO1.out.below hb2).grid (HO2.out.below (Below.refl _ _)).grid HC.out).mono ?_
    rintro e w3 ⟨As, cs, rfl, hcs, hgs, hb3⟩
    have hW3 : Below w.heap.size w w3 := hW2.trans (hb3.mono hW2.size)
    have hz3 := hb3.size
    have HS := Lib.hid hgs
    clear hgs
    go_wp2_with fail
    refine (toIntSS_any _ _ _ _ _ _ (HGa.out.below hW3) hma HMa.out).mono ?_
    rintro e w4 ⟨At4, rfl, hown, hb4⟩
    have hW4 : Below w.heap.size w w4 := hW3.trans (hb4.mono hW3.size)
    have hz4 := hb4.size
    have HO4 := Lib.hid hown
    clear hown
    go_wp2_with fail
    refine (toIntSS_any _ _ _ _ _ _ (HGb.out.below hW4) hmb HMb.out).mono ?_
    rintro e w5 ⟨At5, rfl, hown, hb5⟩
    have hW5 : Below w.heap.size w w5 := hW4.trans (hb5.mono hW4.size)
    have hz5 := hb5.size
    have HO5 := Lib.hid hown
    clear hown
    go_wp2_with fail
    refine (implGridBelow_yes _ _ _ _ _ _ _ _ _ _ _ (HO4.out.below hb5).grid (HO5.out.below (Below.refl _ _)).grid HC.out).mono ?_
    rintro e w6 ⟨Aq, cq, rfl, hcq, hown, hb6⟩
    have hW6 : Below w.heap.size w w6 := hW5.trans (hb6.mono hW5.size)
    have hz6 := hb6.size
    have HQ6 := Lib.hid hown.bound
    clear hown
    go_wp2_with fail
    refine (eqIntSS_yes _ _ _ _ _ _ _ _ HQ6.out.grid (HS.out.below ((hb4.trans (hb5.mono (by omega))).trans (hb6.mono (by omega)))) (by omega) (fun r hr => by have := HB2.out r hr; omega)).mono ?_
    rintro e w7 ⟨rfl, hb7⟩
    have hW7 : Below w.heap.size w w7 := hW6.trans (hb7.mono hW6.size)
    have hz7 := hb7.size
    go_wp2_with fail
    refine (toIntSS_any _ _ _ _ _ _ (HGa.out.below hW7) hma HMa.out).mono ?_
    rintro e w8 ⟨At8, rfl, hown, hb8⟩
    have hW8 : Below w.heap.size w w8 := hW7.trans (hb8.mono hW7.size)
    have hz8 := hb8.size
    have HO8 := Lib.hid hown
    clear hown
    go_wp2_with fail
    refine (eqIntSS_yes _ _ _ _ _ _ _ _ ((HO4.out.below (((hb5.trans (hb6.mono (by omega))).trans (hb7.mono (by omega))).trans (hb8.mono (by omega)))).grid) HO8.out.grid hna (fun r hr => by have := HMa.out r hr; omega)).mono ?_
    rintro e w9 ⟨rfl, hb9⟩
    have hW9 : Below w.heap.size w w9 := hW8.trans (hb9.mono hW8.size)
    have hz9 := hb9.size
    go_wp2_with fail
    refine (toIntSS_any _ _ _ _ _ _ (HGb.out.below hW9) hmb HMb.out).mono ?_
    rintro e w10 ⟨At10, rfl, hown, hb10⟩
    have hW10 : Below w.heap.size w w10 := hW9.trans (hb10.mono hW9.size)
    have hz10 := hb10.size
    have HO10 := Lib.hid hown
    clear hown
    go_wp2_with fail
    refine (eqIntSS_yes _ _ _ _ _ _ _ _ ((HO5.out.below ((((hb6.trans (hb7.mono (by omega))).trans (hb8.mono (by omega))).trans (hb9.mono (by omega))).trans (hb10.mono (by omega)))).grid) HO10.out.grid hnb (fun r hr => by have := HMb.out r hr; omega)).mono ?_
    rintro e w11 ⟨rfl, hb11⟩
    have hW11 : Below w.heap.size w w11 := hW10.trans (hb11.mono hW10.size)
    have hz11 := hb11.size
    have HQ7 := Lib.hid (HQ6.out.below hb7 (by omega))
    have HQ8 := Lib.hid (HQ7.out.below hb8 (by omega))
    have HQ9 := Lib.hid (HQ8.out.below hb9 (by omega))
    have HQ10 := Lib.hid (HQ9.out.below hb10 (by omega))
    have HQ11 := Lib.hid (HQ10.out.below hb11 (by omega))
    have hS11 : Below w3.heap.size w3 w11 := (((((((hb4.trans (hb5.mono (by omega))).trans (hb6.mono (by omega))).trans (hb7.mono (by omega))).trans (hb8.mono (by omega))).trans (hb9.mono (by omega))).trans (hb10.mono (by omega))).trans (hb11.mono (by omega)))
    have hX0 := HO4.out.bound.below ((((((hb5.trans (hb6.mono (by omega))).trans (hb7.mono (by omega))).trans (hb8.mono (by omega))).trans (hb9.mono (by omega))).trans (hb10.mono (by omega))).trans (hb11.mono (by omega))) (Nat.le_refl _)
    have HXz := Lib.hid (HO5.out.bound.below (((((hb6.trans (hb7.mono (by omega))).trans (hb8.mono (by omega))).trans (hb9.mono (by omega))).trans (hb10.mono (by omega))).trans (hb11.mono (by omega))) (Nat.le_refl _))
    go_wp2_with fail
    refine (markIntSS_any 1 _ _ _ _ _ _ _ _ hX0 hma HMa.out (by omega)).mono ?_
    rintro e w12 ⟨rfl, _, hz12, hfar, hmk⟩
    clear hX0
    have hW12 : Below w.heap.size w w12 := hW11.trans (hmk.mono (by omega))
    have hS12 : Below w3.heap.size w3 w12 := hS11.trans (hmk.mono (by omega))
    have HQ12 := Lib.hid (HQ11.out.kept fun j hj1 hj2 => hfar j (.inr (by omega)))
    have HX1 := Lib.hid (HXz.out.kept fun j hj1 hj2 => hfar j (.inr (by omega)))
    clear hfar hmk
    have hX1 := HX1.out
    go_wp2_with fail
    refine (markIntSS_any _ _ _ _ _ _ _ _ _ hX1 hmb HMb.out (by have := sumTo_le (n := na) HMa.out; have := Nat.mul_le_mul_right 1048576 hma; show 1 + sumTo La na ≤ 1099511627777; omega)).mono ?_
    rintro e w13 ⟨rfl, _, hz13, hfar, hmk⟩
    clear hX1
    have hW13 : Below w.heap.size w w13 := hW12.trans (hmk.mono (by omega))
    have hS13 : Below w3.heap.size w3 w13 := hS12.trans (hmk.mono (by omega))
    have HQ13 := Lib.hid (HQ12.out.kept fun j hj1 hj2 => hfar j (.inr (by omega)))
    clear hfar hmk
    go_wp2_with fail
    refine (eqIntSS_yes _ _ _ _ _ _ _ _ HQ13.out.grid (HS.out.below hS13) (by omega) (fun r hr => by have := HB2.out r hr; omega)).mono ?_
    rintro e w14 ⟨rfl, hb14⟩
    have hW14 : Below w.heap.size w w14 := hW13.trans (hb14.mono hW13.size)
    have hz14 := hb14.size
    have HQ14 := Lib.hid (HQ13.out.below hb14 (by omega))
    have hS14 : Below w3.heap.size w3 w14 := (hS13.trans ((hb14).mono (by omega)))
    go_wp2_with fail
    refine (markIntSS_any 1 _ _ _ _ _ _ _ _ HQ14.out hB1 HB2.out (by omega)).mono ?_
    rintro e w15 ⟨rfl, hmo, hz15, hfar, hmk⟩
    have hW15 : Below w.heap.size w w15 := hW14.trans (hmk.mono (by omega))
    have hS15 : Below w3.heap.size w3 w15 := hS14.trans (hmk.mono (by omega))
    have HK := Lib.hid hmo
    clear hfar hmk hmo
    go_wp2_with fail
    refine (heldIntSS_any _ _ _ _ _ HK.out.grid hB1 HB2.out).mono ?_
    rintro e w' ⟨rfl, rfl⟩
    go_wp2_with fail
    refine (toIntSS_any _ _ _ _ _ _ (HGa.out.below hW15) hma HMa.out).mono ?_
    rintro e w16 ⟨At16, rfl, hown, hb16⟩
    have hW16 : Below w.heap.size w w16 := hW15.trans (hb16.mono hW15.size)
    have hz16 := hb16.size
    have HO16 := Lib.hid hown
    clear hown
    go_wp2_with fail
    refine (toIntSS_any _ _ _ _ _ _ (HGb.out.below hW16) hmb HMb.out).mono ?_
    rintro e w17 ⟨At17, rfl, hown, hb17⟩
    have hW17 : Below w.heap.size w w17 := hW16.trans (hb17.mono hW16.size)
    have hz17 := hb17.size
    have HO17 := Lib.hid hown
    clear hown
    go_wp2_with fail
    refine (implGridBelow_yes _ _ _ _ _ _ _ _ _ _ _ (HO16.out.below hb17).grid (HO17.out.below (Below.refl _ _)).grid HC.out).mono ?_
    rintro e w18 ⟨Ah, ch, rfl, hch, hown, hb18⟩
    have hW18 : Below w.heap.size w w18 := hW17.trans (hb18.mono hW17.size)
    have hz18 := hb18.size
    have HH := Lib.hid hown
    clear hown
    go_wp2_with fail
    refine (eqIntSS_yes _ _ _ _ _ _ _ _ HH.out.grid (HS.out.below (hS15.trans ((((hb16.trans (hb17.mono (by omega))).trans (hb18.mono (by omega)))).mono (by omega)))) (by omega) (fun r hr => by have := HB2.out r hr; omega)).mono ?_
    rintro e w19 ⟨rfl, hb19⟩
    have hW19 : Below w.heap.size w w19 := hW18.trans (hb19.mono hW18.size)
    have hz19 := hb19.size
    go_wp2_with fail
    refine (heldIntSS_any _ _ _ _ _ (HK.out.below ((((hb16.trans (hb17.mono (by omega))).trans (hb18.mono (by omega))).trans (hb19.mono (by omega)))) (by omega)).grid hB1 HB2.out).mono ?_
    rintro e w' ⟨rfl, rfl⟩
    go_wp2_with fail
    go_ret
    exact ⟨rfl, hW19⟩
  · have hB1 : 0 ≤ 1048576 := Nat.zero_le _
    have HB2 : Hid (∀ r, r < 0 → La r ≤ 1048576) := fun r hr => by omega
    have HC := Lib.hid hc
    clear hc
    go_enter Try.func5, Try.ntmps5
    go_wp2_with fail
    refine (szIntSS_any _ _ _ _ _ _ _ HGa.out hna HLa.out (by omega) (by omega)).mono ?_
    rintro e w' ⟨lz0, rfl, hza0, hzb0, hsz, rfl⟩
    have HSza := Lib.hid hsz
    clear hsz
    by_cases hlz0 : ¬ 0 ≤ lz0
    · go_wp2_with fail
      go_ret
      exact ⟨rfl, Below.refl _ _⟩
    have hlz0 : 0 ≤ lz0 := Int.not_lt.1 (fun h => hlz0 (by omega))
    obtain ⟨hma, hL1⟩ := HSza.out hlz0
    have HMa := Lib.hid hL1
    clear hL1
    go_wp2_with fail
    refine (szIntSS_any _ _ _ _ _ _ _ HGb.out hnb HLb.out (by omega) (by omega)).mono ?_
    rintro e w' ⟨lz1, rfl, hza1, hzb1, hsz, rfl⟩
    have HSzb := Lib.hid hsz
    clear hsz
    by_cases hlz1 : ¬ 0 ≤ lz1
    · go_wp2_with fail
      go_ret
      exact ⟨rfl, Below.refl _ _⟩
    have hlz1 : 0 ≤ lz1 := Int.not_lt.1 (fun h => hlz1 (by omega))
    obtain ⟨hmb, hL1⟩ := HSzb.out hlz1
    have HMb := Lib.hid hL1
    clear hL1
    go_wp2_with fail
    refine (toIntSS_any _ _ _ _ _ _ HGa.out hma HMa.out).mono ?_
    rintro e w1 ⟨At1, rfl, hown, hb1⟩
    have hW1 := hb1
    have hz1 := hb1.size
    have HO1 := Lib.hid hown
    clear hown
    go_wp2_with fail
    refine (toIntSS_any _ _ _ _ _ _ (HGb.out.below hW1) hmb HMb.out).mono ?_
    rintro e w2 ⟨At2, rfl, hown, hb2⟩
    have hW2 : Below w.heap.size w w2 := hW1.trans (hb2.mono hW1.size)
    have hz2 := hb2.size
    have HO2 := Lib.hid hown
    clear hown
    go_wp2_with fail
    refine (specGridBelow_no _ _ _ _ _ _ _ _ _ _ _ (HO1.out.below hb2).grid (HO2.out.below (Below.refl _ _)).grid hma hmb HMa.out HMb.out HC.out).mono ?_
    rintro e w3 ⟨As, cs, rfl, hcs, hgs, hb3⟩
    have hW3 : Below w.heap.size w w3 := hW2.trans (hb3.mono hW2.size)
    have hz3 := hb3.size
    have HS := Lib.hid hgs
    clear hgs
    go_wp2_with fail
    refine (toIntSS_any _ _ _ _ _ _ (HGa.out.below hW3) hma HMa.out).mono ?_
    rintro e w4 ⟨At4, rfl, hown, hb4⟩
    have hW4 : Below w.heap.size w w4 := hW3.trans (hb4.mono hW3.size)
    have hz4 := hb4.size
    have HO4 := Lib.hid hown
    clear hown
    go_wp2_with fail
    refine (toIntSS_any _ _ _ _ _ _ (HGb.out.below hW4) hmb HMb.out).mono ?_
    rintro e w5 ⟨At5, rfl, hown, hb5⟩
    have hW5 : Below w.heap.size w w5 := hW4.trans (hb5.mono hW4.size)
    have hz5 := hb5.size
    have HO5 := Lib.hid hown
    clear hown
    go_wp2_with fail
    refine (implGridBelow_no _ _ _ _ _ _ _ _ _ _ _ (HO4.out.below hb5).grid (HO5.out.below (Below.refl _ _)).grid hma hmb HMa.out HMb.out HC.out).mono ?_
    rintro e w6 ⟨Aq, cq, rfl, hcq, hown, hb6⟩
    have hW6 : Below w.heap.size w w6 := hW5.trans (hb6.mono hW5.size)
    have hz6 := hb6.size
    have HQ6 := Lib.hid hown.bound
    clear hown
    go_wp2_with fail
    refine (eqIntSS_yes _ _ _ _ _ _ _ _ HQ6.out.grid (HS.out.below ((hb4.trans (hb5.mono (by omega))).trans (hb6.mono (by omega)))) (by omega) (fun r hr => by have := HB2.out r hr; omega)).mono ?_
    rintro e w7 ⟨rfl, hb7⟩
    have hW7 : Below w.heap.size w w7 := hW6.trans (hb7.mono hW6.size)
    have hz7 := hb7.size
    go_wp2_with fail
    refine (toIntSS_any _ _ _ _ _ _ (HGa.out.below hW7) hma HMa.out).mono ?_
    rintro e w8 ⟨At8, rfl, hown, hb8⟩
    have hW8 : Below w.heap.size w w8 := hW7.trans (hb8.mono hW7.size)
    have hz8 := hb8.size
    have HO8 := Lib.hid hown
    clear hown
    go_wp2_with fail
    refine (eqIntSS_yes _ _ _ _ _ _ _ _ ((HO4.out.below (((hb5.trans (hb6.mono (by omega))).trans (hb7.mono (by omega))).trans (hb8.mono (by omega)))).grid) HO8.out.grid hna (fun r hr => by have := HMa.out r hr; omega)).mono ?_
    rintro e w9 ⟨rfl, hb9⟩
    have hW9 : Below w.heap.size w w9 := hW8.trans (hb9.mono hW8.size)
    have hz9 := hb9.size
    go_wp2_with fail
    refine (toIntSS_any _ _ _ _ _ _ (HGb.out.below hW9) hmb HMb.out).mono ?_
    rintro e w10 ⟨At10, rfl, hown, hb10⟩
    have hW10 : Below w.heap.size w w10 := hW9.trans (hb10.mono hW9.size)
    have hz10 := hb10.size
    have HO10 := Lib.hid hown
    clear hown
    go_wp2_with fail
    refine (eqIntSS_yes _ _ _ _ _ _ _ _ ((HO5.out.below ((((hb6.trans (hb7.mono (by omega))).trans (hb8.mono (by omega))).trans (hb9.mono (by omega))).trans (hb10.mono (by omega)))).grid) HO10.out.grid hnb (fun r hr => by have := HMb.out r hr; omega)).mono ?_
    rintro e w11 ⟨rfl, hb11⟩
    have hW11 : Below w.heap.size w w11 := hW10.trans (hb11.mono hW10.size)
    have hz11 := hb11.size
    have HQ7 := Lib.hid (HQ6.out.below hb7 (by omega))
    have HQ8 := Lib.hid (HQ7.out.below hb8 (by omega))
    have HQ9 := Lib.hid (HQ8.out.below hb9 (by omega))
    have HQ10 := Lib.hid (HQ9.out.below hb10 (by omega))
    have HQ11 := Lib.hid (HQ10.out.below hb11 (by omega))
    have hS11 : Below w3.heap.size w3 w11 := (((((((hb4.trans (hb5.mono (by omega))).trans (hb6.mono (by omega))).trans (hb7.mono (by omega))).trans (hb8.mono (by omega))).trans (hb9.mono (by omega))).trans (hb10.mono (by omega))).trans (hb11.mono (by omega)))
    have hX0 := HO4.out.bound.below ((((((hb5.trans (hb6.mono (by omega))).trans (hb7.mono (by omega))).trans (hb8.mono (by omega))).trans (hb9.mono (by omega))).trans (hb10.mono (by omega))).trans (hb11.mono (by omega))) (Nat.le_refl _)
    have HXz := Lib.hid (HO5.out.bound.below (((((hb6.trans (hb7.mono (by omega))).trans (hb8.mono (by omega))).trans (hb9.mono (by omega))).trans (hb10.mono (by omega))).trans (hb11.mono (by omega))) (Nat.le_refl _))
    go_wp2_with fail
    refine (markIntSS_any 1 _ _ _ _ _ _ _ _ hX0 hma HMa.out (by omega)).mono ?_
    rintro e w12 ⟨rfl, _, hz12, hfar, hmk⟩
    clear hX0
    have hW12 : Below w.heap.size w w12 := hW11.trans (hmk.mono (by omega))
    have hS12 : Below w3.heap.size w3 w12 := hS11.trans (hmk.mono (by omega))
    have HQ12 := Lib.hid (HQ11.out.kept fun j hj1 hj2 => hfar j (.inr (by omega)))
    have HX1 := Lib.hid (HXz.out.kept fun j hj1 hj2 => hfar j (.inr (by omega)))
    clear hfar hmk
    have hX1 := HX1.out
    go_wp2_with fail
    refine (markIntSS_any _ _ _ _ _ _ _ _ _ hX1 hmb HMb.out (by have := sumTo_le (n := na) HMa.out; have := Nat.mul_le_mul_right 1048576 hma; show 1 + sumTo La na ≤ 1099511627777; omega)).mono ?_
    rintro e w13 ⟨rfl, _, hz13, hfar, hmk⟩
    clear hX1
    have hW13 : Below w.heap.size w w13 := hW12.trans (hmk.mono (by omega))
    have hS13 : Below w3.heap.size w3 w13 := hS12.trans (hmk.mono (by omega))
    have HQ13 := Lib.hid (HQ12.out.kept fun j hj1 hj2 => hfar j (.inr (by omega)))
    clear hfar hmk
    go_wp2_with fail
    refine (eqIntSS_yes _ _ _ _ _ _ _ _ HQ13.out.grid (HS.out.below hS13) (by omega) (fun r hr => by have := HB2.out r hr; omega)).mono ?_
    rintro e w14 ⟨rfl, hb14⟩
    have hW14 : Below w.heap.size w w14 := hW13.trans (hb14.mono hW13.size)
    have hz14 := hb14.size
    have HQ14 := Lib.hid (HQ13.out.below hb14 (by omega))
    have hS14 : Below w3.heap.size w3 w14 := (hS13.trans ((hb14).mono (by omega)))
    go_wp2_with fail
    refine (markIntSS_any 1 _ _ _ _ _ _ _ _ HQ14.out hB1 HB2.out (by omega)).mono ?_
    rintro e w15 ⟨rfl, hmo, hz15, hfar, hmk⟩
    have hW15 : Below w.heap.size w w15 := hW14.trans (hmk.mono (by omega))
    have hS15 : Below w3.heap.size w3 w15 := hS14.trans (hmk.mono (by omega))
    have HK := Lib.hid hmo
    clear hfar hmk hmo
    go_wp2_with fail
    refine (heldIntSS_any _ _ _ _ _ HK.out.grid hB1 HB2.out).mono ?_
    rintro e w' ⟨rfl, rfl⟩
    go_wp2_with fail
    refine (toIntSS_any _ _ _ _ _ _ (HGa.out.below hW15) hma HMa.out).mono ?_
    rintro e w16 ⟨At16, rfl, hown, hb16⟩
    have hW16 : Below w.heap.size w w16 := hW15.trans (hb16.mono hW15.size)
    have hz16 := hb16.size
    have HO16 := Lib.hid hown
    clear hown
    go_wp2_with fail
    refine (toIntSS_any _ _ _ _ _ _ (HGb.out.below hW16) hmb HMb.out).mono ?_
    rintro e w17 ⟨At17, rfl, hown, hb17⟩
    have hW17 : Below w.heap.size w w17 := hW16.trans (hb17.mono hW16.size)
    have hz17 := hb17.size
    have HO17 := Lib.hid hown
    clear hown
    go_wp2_with fail
    refine (implGridBelow_no _ _ _ _ _ _ _ _ _ _ _ (HO16.out.below hb17).grid (HO17.out.below (Below.refl _ _)).grid hma hmb HMa.out HMb.out HC.out).mono ?_
    rintro e w18 ⟨Ah, ch, rfl, hch, hown, hb18⟩
    have hW18 : Below w.heap.size w w18 := hW17.trans (hb18.mono hW17.size)
    have hz18 := hb18.size
    have HH := Lib.hid hown
    clear hown
    go_wp2_with fail
    refine (eqIntSS_yes _ _ _ _ _ _ _ _ HH.out.grid (HS.out.below (hS15.trans ((((hb16.trans (hb17.mono (by omega))).trans (hb18.mono (by omega)))).mono (by omega)))) (by omega) (fun r hr => by have := HB2.out r hr; omega)).mono ?_
    rintro e w19 ⟨rfl, hb19⟩
    have hW19 : Below w.heap.size w w19 := hW18.trans (hb19.mono hW18.size)
    have hz19 := hb19.size
    go_wp2_with fail
    refine (heldIntSS_any _ _ _ _ _ (HK.out.below ((((hb16.trans (hb17.mono (by omega))).trans (hb18.mono (by omega))).trans (hb19.mono (by omega)))) (by omega)).grid hB1 HB2.out).mono ?_
    rintro e w' ⟨rfl, rfl⟩
    go_wp2_with fail
    go_ret
    exact ⟨rfl, hW19⟩

end Go.Proofs.Ythndabbjkkjkhaa
