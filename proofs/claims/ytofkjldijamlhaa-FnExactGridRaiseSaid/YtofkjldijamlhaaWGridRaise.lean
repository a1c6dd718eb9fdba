/- The law FnExactGridRaise: its walk. -/
import Derived.Test.YtofkjldijamlhaaSRai
import Derived.Test.YtofkjldijamlhaaMark
namespace Go.Proofs.Ytofkjldijamlhaa
set_option linter.unusedVariables false
set_option linter.unusedSimpArgs false
open Go.RowKit

set_option maxHeartbeats 1000000 in
set_option maxRecDepth 100000 in
theorem fnExactGridRaise_walk (A : Option Addr) (n cp : Nat) (L : Nat → Nat) (g : Nat → Nat → Int) (kk : Int) (w : World) (hg : GridF w A n L g) (hn : n ≤ 9223372036854775807) (hL : ∀ r, r < n → L r ≤ 9223372036854775807) (hkk1 : -9223372036854775808 ≤ kk) (hkk2 : kk ≤ 9223372036854775807) :
    Calls Try.prog 7 #[.slice A n cp, .int .i64 kk] w (RetV (.bool true) w) := by
  have HG := Lib.hid hg
  have HL := Lib.hid hL
  clear hg hL
  by_cases hc : Rai n L g kk
  · have hB1 : n ≤ 1048576 := hc.1.n_le
    have HB2 : Hid (∀ r, r < n → ((fun _ => L 0)) r ≤ 1048576) := fun r hr => by have := hc.1.2.2.2.1; show L 0 ≤ _; omega
    have HC := Lib.hid hc
    clear hc
    go_enter Try.func7, Try.ntmps7
    go_wp2_with fail
    refine (szIntSS_any _ _ _ _ _ _ _ HG.out hn HL.out (by omega) (by omega)).mono ?_
    rintro e w' ⟨lz0, rfl, hza0, hzb0, hsz, rfl⟩
    have HSz := Lib.hid hsz
    clear hsz
    by_cases hlz0 : ¬ 0 ≤ lz0
    · go_wp2_with fail
      go_ret
      exact ⟨rfl, Below.refl _ _⟩
    have hlz0 : 0 ≤ lz0 := Int.not_lt.1 (fun h => hlz0 (by omega))
    obtain ⟨hm, hL1⟩ := HSz.out hlz0
    have HM := Lib.hid hL1
    clear hL1
    go_wp2_with fail
    refine (toIntSS_any _ _ _ _ _ _ HG.out hm HM.out).mono ?_
    rintro e w1 ⟨At1, rfl, hown, hb1⟩
    have hW1 := hb1
    have hz1 := hb1.size
    have HO1 := Lib.hid hown
    clear hown
    go_wp2_with fail
    refine (specGridRaise_yes _ _ _ _ _ _ _ (HO1.out.below (Below.refl _ _)).grid HC.out).mono ?_
    rintro e w2 ⟨As, cs, rfl, hcs, hgs, hb2⟩
    have hW2 : Below w.heap.size w w2 := hW1.trans (hb2.mono hW1.size)
    have hz2 := hb2.size
    have HS := Lib.hid hgs
    clear hgs
    go_wp2_with fail
    refine (toIntSS_any _ _ _ _ _ _ (HG.out.below hW2) hm HM.out).mono ?_
    rintro e w3 ⟨At3, rfl, hown, hb3⟩
    have hW3 : Below w.heap.size w w3 := hW2.trans (hb3.mono hW2.size)
    have hz3 := hb3.size
    have HO3 := Lib.hid hown
    clear hown
    go_wp2_with fail
    refine (implGridRaise_yes _ _ _ _ _ _ _ (HO3.out.below (Below.refl _ _)).grid HC.out).mono ?_
    rintro e w4 ⟨Aq, cq, rfl, hcq, hown, hb4⟩
    have hW4 : Below w.heap.size w w4 := hW3.trans (hb4.mono hW3.size)
    have hz4 := hb4.size
    have HQ4 := Lib.hid hown.bound
    clear hown
    go_wp2_with fail
    refine (eqIntSS_yes _ _ _ _ _ _ _ _ HQ4.out.grid (HS.out.below (hb3.trans (hb4.mono (by omega)))) (by omega) (fun r hr => by have := HB2.out r hr; omega)).mono ?_
    rintro e w5 ⟨rfl, hb5⟩
    have hW5 : Below w.heap.size w w5 := hW4.trans (hb5.mono hW4.size)
    have hz5 := hb5.size
    go_wp2_with fail
    refine (toIntSS_any _ _ _ _ _ _ (HG.out.below hW5) hm HM.out).mono ?_
    rintro e w6 ⟨At6, rfl, hown, hb6⟩
    have hW6 : Below w.heap.size w w6 := hW5.trans (hb6.mono hW5.size)
    have hz6 := hb6.size
    have HO6 := Lib.hid hown
    clear hown
    go_wp2_with fail
    refine (eqIntSS_yes _ _ _ _ _ _ _ _ ((HO3.out.below ((hb4.trans (hb5.mono (by omega))).trans (hb6.mono (by omega)))).grid) HO6.out.grid hn (fun r hr => by have := HM.out r hr; omega)).mono ?_
    rintro e w7 ⟨rfl, hb7⟩
    have hW7 : Below w.heap.size w w7 := hW6.trans (hb7.mono hW6.size)
    have hz7 := hb7.size
    have HQ5 := Lib.hid (HQ4.out.below hb5 (by omega))
    have HQ6 := Lib.hid (HQ5.out.below hb6 (by omega))
    have HQ7 := Lib.hid (HQ6.out.below hb7 (by omega))
    have hS7 : Below w2.heap.size w2 w7 := ((((hb3.trans (hb4.mono (by omega))).trans (hb5.mono (by omega))).trans (hb6.mono (by omega))).trans (hb7.mono (by omega)))
    have hX0 := HO3.out.bound.below (((hb4.trans (hb5.mono (by omega))).trans (hb6.mono (by omega))).trans (hb7.mono (by omega))) (Nat.le_refl _)
    go_wp2_with fail
    refine (markIntSS_any 1 _ _ _ _ _ _ _ _ hX0 hm HM.out (by omega)).mono ?_
    rintro e w8 ⟨rfl, _, hz8, hfar, hmk⟩
    clear hX0
    have hW8 : Below w.heap.size w w8 := hW7.trans (hmk.mono (by omega))
    have hS8 : Below w2.heap.size w2 w8 := hS7.trans (hmk.mono (by omega))
    have HQ8 := Lib.hid (HQ7.out.kept fun j hj1 hj2 => hfar j (.inr (by omega)))
    clear hfar hmk
    go_wp2_with fail
    refine (eqIntSS_yes _ _ _ _ _ _ _ _ HQ8.out.grid (HS.out.below hS8) (by omega) (fun r hr => by have := HB2.out r hr; omega)).mono ?_
    rintro e w9 ⟨rfl, hb9⟩
    have hW9 : Below w.heap.size w w9 := hW8.trans (hb9.mono hW8.size)
    have hz9 := hb9.size
    have HQ9 := Lib.hid (HQ8.out.below hb9 (by omega))
    have hS9 : Below w2.heap.size w2 w9 := (hS8.trans ((hb9).mono (by omega)))
    go_wp2_with fail
    refine (markIntSS_any 1 _ _ _ _ _ _ _ _ HQ9.out hB1 HB2.out (by omega)).mono ?_
    rintro e w10 ⟨rfl, hmo, hz10, hfar, hmk⟩
    have hW10 : Below w.heap.size w w10 := hW9.trans (hmk.mono (by omega))
    have hS10 : Below w2.heap.size w2 w10 := hS9.trans (hmk.mono (by omega))
    have HK := Lib.hid hmo
    clear hfar hmk hmo
    go_wp2_with fail
    refine (heldIntSS_any _ _ _ _ _ HK.out.grid hB1 HB2.out).mono ?_
    rintro e w' ⟨rfl, rfl⟩
    go_wp2_with fail
    refine (toIntSS_any _ _ _ _ _ _ (HG.out.below hW10) hm HM.out).mono ?_
    rintro e w11 ⟨At11, rfl, hown, hb11⟩
    have hW11 : Below w.heap.size w w11 := hW10.trans (hb11.mono hW10.size)
    have hz11 := hb11.size
    have HO11 := Lib.hid hown
    clear hown
    go_wp2_with fail
    refine (implGridRaise_yes _ _ _ _ _ _ _ (HO11.out.below (Below.refl _ _)).grid HC.out).mono ?_
    rintro e w12 ⟨Ah, ch, rfl, hch, hown, hb12⟩
    have hW12 : Below w.heap.size w w12 := hW11.trans (hb12.mono hW11.size)
    have hz12 := hb12.size
    have HH := Lib.hid hown
    clear hown
    go_wp2_with fail
    refine (eqIntSS_yes _ _ _ _ _ _ _ _ HH.out.grid (HS.out.below (hS10.trans (((hb11.trans (hb12.mono (by omega)))).mono (by omega)))) (by omega) (fun r hr => by have := HB2.out r hr; omega)).mono ?_
    rintro e w13 ⟨rfl, hb13⟩
    have hW13 : Below w.heap.size w w13 := hW12.trans (hb13.mono hW12.size)
    have hz13 := hb13.size
    go_wp2_with fail
    refine (heldIntSS_any _ _ _ _ _ (HK.out.below (((hb11.trans (hb12.mono (by omega))).trans (hb13.mono (by omega)))) (by omega)).grid hB1 HB2.out).mono ?_
    rintro e w' ⟨rfl, rfl⟩
    go_wp2_with fail
    go_ret
    exact ⟨rfl, hW13⟩
  · have hB1 : 0 ≤ 1048576 := Nat.zero_le _
    have HB2 : Hid (∀ r, r < 0 → L r ≤ 1048576) := fun r hr => by omega
    have HC := Lib.hid hc
    clear hc
    go_enter Try.func7, Try.ntmps7
    go_wp2_with fail
    refine (szIntSS_any _ _ _ _ _ _ _ HG.out hn HL.out (by omega) (by omega)).mono ?_
    rintro e w' ⟨lz0, rfl, hza0, hzb0, hsz, rfl⟩
    have HSz := Lib.hid hsz
    clear hsz
    by_cases hlz0 : ¬ 0 ≤ lz0
    · go_wp2_with fail
      go_ret
      exact ⟨rfl, Below.refl _ _⟩
    have hlz0 : 0 ≤ lz0 := Int.not_lt.1 (fun h => hlz0 (by omega))
    obtain ⟨hm, hL1⟩ := HSz.out hlz0
    have HM := Lib.hid hL1
    clear hL1
    go_wp2_with fail
    refine (toIntSS_any _ _ _ _ _ _ HG.out hm HM.out).mono ?_
    rintro e w1 ⟨At1, rfl, hown, hb1⟩
    have hW1 := hb1
    have hz1 := hb1.size
    have HO1 := Lib.hid hown
    clear hown
    go_wp2_with fail
    refine (specGridRaise_no _ _ _ _ _ _ _ (HO1.out.below (Below.refl _ _)).grid hm HM.out HC.out).mono ?_
    rintro e w2 ⟨As, cs, rfl, hcs, hgs, hb2⟩
    have hW2 : Below w.heap.size w w2 := hW1.trans (hb2.mono hW1.size)
    have hz2 := hb2.size
    have HS := Lib.hid hgs
    clear hgs
    go_wp2_with fail
    refine (toIntSS_any _ _ _ _ _ _ (HG.out.below hW2) hm HM.out).mono ?_
    rintro e w3 ⟨At3, rfl, hown, hb3⟩
    have hW3 : Below w.heap.size w w3 := hW2.trans (hb3.mono hW2.size)
    have hz3 := hb3.size
    have HO3 := Lib.hid hown
    clear hown
    go_wp2_with fail
    refine (implGridRaise_no _ _ _ _ _ _ _ (HO3.out.below (Below.refl _ _)).grid hm HM.out HC.out).mono ?_
    rintro e w4 ⟨Aq, cq, rfl, hcq, hown, hb4⟩
    have hW4 : Below w.heap.size w w4 := hW3.trans (hb4.mono hW3.size)
    have hz4 := hb4.size
    have HQ4 := Lib.hid hown.bound
    clear hown
    go_wp2_with fail
    refine (eqIntSS_yes _ _ _ _ _ _ _ _ HQ4.out.grid (HS.out.below (hb3.trans (hb4.mono (by omega)))) (by omega) (fun r hr => by have := HB2.out r hr; omega)).mono ?_
    rintro e w5 ⟨rfl, hb5⟩
    have hW5 : Below w.heap.size w w5 := hW4.trans (hb5.mono hW4.size)
    have hz5 := hb5.size
    go_wp2_with fail
    refine (toIntSS_any _ _ _ _ _ _ (HG.out.below hW5) hm HM.out).mono ?_
    rintro e w6 ⟨At6, rfl, hown, hb6⟩
    have hW6 : Below w.heap.size w w6 := hW5.trans (hb6.mono hW5.size)
    have hz6 := hb6.size
    have HO6 := Lib.hid hown
    clear hown
    go_wp2_with fail
    refine (eqIntSS_yes _ _ _ _ _ _ _ _ ((HO3.out.below ((hb4.trans (hb5.mono (by omega))).trans (hb6.mono (by omega)))).grid) HO6.out.grid hn (fun r hr => by have := HM.out r hr; omega)).mono ?_
    rintro e w7 ⟨rfl, hb7⟩
    have hW7 : Below w.heap.size w w7 := hW6.trans (hb7.mono hW6.size)
    have hz7 := hb7.size
    have HQ5 := Lib.hid (HQ4.out.below hb5 (by omega))
    have HQ6 := Lib.hid (HQ5.out.below hb6 (by omega))
    have HQ7 := Lib.hid (HQ6.out.below hb7 (by omega))
    have hS7 : Below w2.heap.size w2 w7 := ((((hb3.trans (hb4.mono (by omega))).trans (hb5.mono (by omega))).trans (hb6.mono (by omega))).trans (hb7.mono (by omega)))
    have hX0 := HO3.out.bound.below (((hb4.trans (hb5.mono (by omega))).trans (hb6.mono (by omega))).trans (hb7.mono (by omega))) (Nat.le_refl _)
    go_wp2_with fail
    refine (markIntSS_any 1 _ _ _ _ _ _ _ _ hX0 hm HM.out (by omega)).mono ?_
    rintro e w8 ⟨rfl, _, hz8, hfar, hmk⟩
    clear hX0
    have hW8 : Below w.heap.size w w8 := hW7.trans (hmk.mono (by omega))
    have hS8 : Below w2.heap.size w2 w8 := hS7.trans (hmk.mono (by omega))
    have HQ8 := Lib.hid (HQ7.out.kept fun j hj1 hj2 => hfar j (.inr (by omega)))
    clear hfar hmk
    go_wp2_with fail
    refine (eqIntSS_yes _ _ _ _ _ _ _ _ HQ8.out.grid (HS.out.below hS8) (by omega) (fun r hr => by have := HB2.out r hr; omega)).mono ?_
    rintro e w9 ⟨rfl, hb9⟩
    have hW9 : Below w.heap.size w w9 := hW8.trans (hb9.mono hW8.size)
    have hz9 := hb9.size
    have HQ9 := Lib.hid (HQ8.out.below hb9 (by omega))
    have hS9 : Below w2.heap.size w2 w9 := (hS8.trans ((hb9).mono (by omega)))
    go_wp2_with fail
    refine (markIntSS_any 1 _ _ _ _ _ _ _ _ HQ9.out hB1 HB2.out (by omega)).mono ?_
    rintro e w10 ⟨rfl, hmo, hz10, hfar, hmk⟩
    have hW10 : Below w.heap.size w w10 := hW9.trans (hmk.mono (by omega))
    have hS10 : Below w2.heap.size w2 w10 := hS9.trans (hmk.mono (by omega))
    have HK := Lib.hid hmo
    clear hfar hmk hmo
    go_wp2_with fail
    refine (heldIntSS_any _ _ _ _ _ HK.out.grid hB1 HB2.out).mono ?_
    rintro e w' ⟨rfl, rfl⟩
    go_wp2_with fail
    refine (toIntSS_any _ _ _ _ _ _ (HG.out.below hW10) hm HM.out).mono ?_
    rintro e w11 ⟨At11, rfl, hown, hb11⟩
    have hW11 : Below w.heap.size w w11 := hW10.trans (hb11.mono hW10.size)
    have hz11 := hb11.size
    have HO11 := Lib.hid hown
    clear hown
    go_wp2_with fail
    refine (implGridRaise_no _ _ _ _ _ _ _ (HO11.out.below (Below.refl _ _)).grid hm HM.out HC.out).mono ?_
    rintro e w12 ⟨Ah, ch, rfl, hch, hown, hb12⟩
    have hW12 : Below w.heap.size w w12 := hW11.trans (hb12.mono hW11.size)
    have hz12 := hb12.size
    have HH := Lib.hid hown
    clear hown
    go_wp2_with fail
    refine (eqIntSS_yes _ _ _ _ _ _ _ _ HH.out.grid (HS.out.below (hS10.trans (((hb11.trans (hb12.mono (by omega)))).mono (by omega)))) (by omega) (fun r hr => by have := HB2.out r hr; omega)).mono ?_
    rintro e w13 ⟨rfl, hb13⟩
    have hW13 : Below w.heap.size w w13 := hW12.trans (hb13.mono hW12.size)
    have hz13 := hb13.size
    go_wp2_with fail
    refine (heldIntSS_any _ _ _ _ _ (HK.out.below (((hb11.trans (hb12.mono (by omega))).trans (hb13.mono (by omega)))) (by omega)).grid hB1 HB2.out).mono ?_
    rintro e w' ⟨rfl, rfl⟩
    go_wp2_with fail
    go_ret
    exact ⟨rfl, hW13⟩

end Go.Proofs.Ytofkjldijamlhaa
