/- The law FnExactLevelInside: its walk. -/
import Derived.Test.YtgekjhmjjjkibaaIns
import Derived.Test.YtgekjhmjjjkibaaMarkI
namespace Go.Proofs.Ytgekjhmjjjkibaa
set_option linter.unusedVariables false
set_option linter.unusedSimpArgs false
open Go.RowKit

set_option maxHeartbeats 1000000 in
set_option maxRecDepth 100000 in
theorem fnExactLevelInside_walk (A : Option Addr) (n cp : Nat) (L : Nat → Nat) (g : Nat → Nat → Int) (l lo : Int) (w : World) (hg : GridF w A n L g) (hn : n ≤ 9223372036854775807) (hL : ∀ r, r < n → L r ≤ 9223372036854775807) (hl1 : -9223372036854775808 ≤ l) (hl2 : l ≤ 9223372036854775807) (hlo1 : -9223372036854775808 ≤ lo) (hlo2 : lo ≤ 9223372036854775807) :
    Calls Try.prog 9 #[.slice A n cp, .int .i64 l, .int .i64 lo] w (RetV (.bool true) w) := by
  have HG := Lib.hid hg
  have HL := Lib.hid hL
  clear hg hL
  by_cases hc : Ins n L g l lo
  · have hB1 : Creg n L g l ≤ 1048576 := (by have h1 : Creg n L g l ≤ n * L 0 := regN_le; have h2 := Nat.mul_le_mul hc.1.1.2.1 hc.1.1.2.2.2.1; omega)
    have HC := Lib.hid hc
    clear hc
    go_enter Try.func9, Try.ntmps9
    go_wp2_with fail
    refine (szIntSS_any _ _ _ _ _ _ _ HG.out hn HL.out (by omega) (by omega)).mono ?_
    rintro e w' ⟨lz, rfl, hza, hzb, hsz, rfl⟩
    have HSz := Lib.hid hsz
    clear hsz
    by_cases hlz : ¬ 0 ≤ lz
    · go_wp2_with fail
      go_ret
      exact ⟨rfl, Below.refl _ _⟩
    have hlz : 0 ≤ lz := Int.not_lt.1 (fun h => hlz (by omega))
    obtain ⟨hm, hL1⟩ := HSz.out hlz
    have HM := Lib.hid hL1
    clear hL1
    go_wp2_with fail
    refine (toIntSS_any _ _ _ _ _ _ HG.out hm HM.out).mono ?_
    rintro e w1 ⟨At1, rfl, hown, hb1⟩
    have HO1 := Lib.hid hown
    clear hown
    go_wp2_with fail
    refine (specLevelInside_yes _ _ _ _ _ _ _ _ HO1.out.grid HC.out).mono ?_
    rintro e w2 ⟨As, cs, rfl, hgs, hb2⟩
    have HS := Lib.hid hgs
    have hW2 : Below w.heap.size w w2 := hb1.trans (hb2.mono hb1.size)
    clear hgs
    go_wp2_with fail
    refine (toIntSS_any _ _ _ _ _ _ (HG.out.below hW2) hm HM.out).mono ?_
    rintro e w3 ⟨At3, rfl, hown, hb3⟩
    have HO3 := Lib.hid hown
    have hW3 : Below w.heap.size w w3 := hW2.trans (hb3.mono hW2.size)
    have hz3 := hb3.size
    clear hown
    go_wp2_with fail
    refine (implLevelInside_yes _ _ _ _ _ _ _ _ HO3.out.grid HC.out).mono ?_
    rintro e w4 ⟨Aq, cq, rfl, hown, hb4⟩
    have HQ4 := Lib.hid hown
    have hW4 : Below w.heap.size w w4 := hW3.trans (hb4.mono hW3.size)
    have hz4 := hb4.size
    clear hown
    have hS4 : Below w2.heap.size w2 w4 := hb3.trans (hb4.mono hb3.size)
    go_wp2_with fail
    refine (eqIntS_yes _ _ _ _ _ _ _ HQ4.out.row (HS.out.below hS4) (by omega)).mono ?_
    rintro e w5 ⟨rfl, hb5⟩
    have hz5 := hb5.size
    have hW5 : Below w.heap.size w w5 := hW4.trans (hb5.mono hW4.size)
    have hS5 : Below w2.heap.size w2 w5 := hS4.trans (hb5.mono hS4.size)
    go_wp2_with fail
    refine (toIntSS_any _ _ _ _ _ _ (HG.out.below hW5) hm HM.out).mono ?_
    rintro e w6 ⟨At6, rfl, hown, hb6⟩
    have HO6 := Lib.hid hown
    have hz6 := hb6.size
    have hW6 : Below w.heap.size w w6 := hW5.trans (hb6.mono hW5.size)
    clear hown
    go_wp2_with fail
    refine (eqIntSS_yes _ _ _ _ _ _ _ _ ((HO3.out.below ((hb4.trans (hb5.mono (by omega))).trans (hb6.mono (by omega)))).grid) HO6.out.grid hn (fun r hr => by have := HM.out r hr; omega)).mono ?_
    rintro e w7 ⟨rfl, hb7⟩
    have hz7 := hb7.size
    have hW7 : Below w.heap.size w w7 := hW6.trans (hb7.mono hW6.size)
    have HQ7 := Lib.hid (((HQ4.out.below hb5).below hb6).below hb7)
    have hS7 : Below w2.heap.size w2 w7 := (hS5.trans (hb6.mono hS5.size)).trans (hb7.mono (Nat.le_trans hS5.size hb6.size))
    have hX0 := HO3.out.bound.below (((hb4.trans (hb5.mono (by omega))).trans (hb6.mono (by omega))).trans (hb7.mono (by omega))) (Nat.le_refl _)
    go_wp2_with fail
    refine (markIntSS_any 1 _ _ _ _ _ _ _ _ hX0 hm HM.out (by omega)).mono ?_
    rintro e w8 ⟨rfl, _, hz8, hfar, hmk⟩
    clear hX0
    have hW8 : Below w.heap.size w w8 := hW7.trans (hmk.mono hW2.size)
    have hS8 : Below w2.heap.size w2 w8 := hS7.trans hmk
    have HQ8 : Hid (OwnI w8 w3.heap.size (.slice Aq (Creg n L g l) cq) (Creg n L g l) (Cins n L g l lo)) := OwnS.of_block HQ7.out.s (fun k hk => hfar k (.inr (HQ7.out.s.lt hk).1))
    clear hfar hmk
    go_wp2_with fail
    refine (eqIntS_yes _ _ _ _ _ _ _ HQ8.out.row (HS.out.below hS8) (by omega)).mono ?_
    rintro e w9 ⟨rfl, hb9⟩
    have hz9 := hb9.size
    have hW9 : Below w.heap.size w w9 := hW8.trans (hb9.mono hW8.size)
    have hS9 : Below w2.heap.size w2 w9 := hS8.trans (hb9.mono hS8.size)
    have HQ9 := Lib.hid (HQ8.out.below hb9)
    go_wp2_with fail
    refine (markIntS_own _ _ _ _ 1 _ _ HQ9.out (by omega) (by omega) hB1).mono ?_
    rintro e w10 ⟨rfl, hmo, honly⟩
    have HK := Lib.hid hmo
    have hbo : Below w3.heap.size w9 w10 := honly.below (fun k hk => (HQ9.out.s.lt hk).1)
    have hz10 := honly.size
    have hW10 : Below w.heap.size w w10 := hW9.trans (hbo.mono hW3.size)
    have hS10 : Below w2.heap.size w2 w10 := hS9.trans (hbo.mono hb3.size)
    clear hmo honly
    go_wp2_with fail
    refine (heldIntS_any _ _ _ _ _ HK.out.row (by omega) (by omega) hB1).mono ?_
    rintro e w' ⟨rfl, rfl⟩
    go_wp2_with fail
    refine (toIntSS_any _ _ _ _ _ _ (HG.out.below hW10) hm HM.out).mono ?_
    rintro e w11 ⟨At11, rfl, hown, hb11⟩
    have HO11 := Lib.hid hown
    have hW11 : Below w.heap.size w w11 := hW10.trans (hb11.mono hW10.size)
    clear hown
    go_wp2_with fail
    refine (implLevelInside_yes _ _ _ _ _ _ _ _ HO11.out.grid HC.out).mono ?_
    rintro e w12 ⟨Ah, ch, rfl, hown, hb12⟩
    have HH := Lib.hid hown
    have hW12 : Below w.heap.size w w12 := hW11.trans (hb12.mono hW11.size)
    have hb1012 := hb11.trans (hb12.mono hb11.size)
    clear hown
    go_wp2_with fail
    refine (eqIntS_yes _ _ _ _ _ _ _ HH.out.row (HS.out.below (hS10.trans (hb1012.mono hS10.size))) (by omega)).mono ?_
    rintro e w13 ⟨rfl, hb13⟩
    have hW13 : Below w.heap.size w w13 := hW12.trans (hb13.mono hW12.size)
    go_wp2_with fail
    refine (heldIntS_any _ _ _ _ _ (HK.out.below (hb1012.trans (hb13.mono hb1012.size))).row (by omega) (by omega) hB1).mono ?_
    rintro e w' ⟨rfl, rfl⟩
    go_wp2_with fail
    go_ret
    exact ⟨rfl, hW13⟩
  · have hB1 : 0 ≤ 1048576 := Nat.zero_le _
    have HC := Lib.hid hc
    clear hc
    go_enter Try.func9, Try.ntmps9
    go_wp2_with fail
    refine (szIntSS_any _ _ _ _ _ _ _ HG.out hn HL.out (by omega) (by omega)).mono ?_
    rintro e w' ⟨lz, rfl, hza, hzb, hsz, rfl⟩
    have HSz := Lib.hid hsz
    clear hsz
    by_cases hlz : ¬ 0 ≤ lz
    · go_wp2_with fail
      go_ret
      exact ⟨rfl, Below.refl _ _⟩
    have hlz : 0 ≤ lz := Int.not_lt.1 (fun h => hlz (by omega))
    obtain ⟨hm, hL1⟩ := HSz.out hlz
    have HM := Lib.hid hL1
    clear hL1
    go_wp2_with fail
    refine (toIntSS_any _ _ _ _ _ _ HG.out hm HM.out).mono ?_
    rintro e w1 ⟨At1, rfl, hown, hb1⟩
    have HO1 := Lib.hid hown
    clear hown
    go_wp2_with fail
    refine (specLevelInside_no _ _ _ _ _ _ _ _ HO1.out.grid hm HM.out HC.out).mono ?_
    rintro e w2 ⟨As, cs, rfl, hgs, hb2⟩
    have HS := Lib.hid hgs
    have hW2 : Below w.heap.size w w2 := hb1.trans (hb2.mono hb1.size)
    clear hgs
    go_wp2_with fail
    refine (toIntSS_any _ _ _ _ _ _ (HG.out.below hW2) hm HM.out).mono ?_
    rintro e w3 ⟨At3, rfl, hown, hb3⟩
    have HO3 := Lib.hid hown
    have hW3 : Below w.heap.size w w3 := hW2.trans (hb3.mono hW2.size)
    have hz3 := hb3.size
    clear hown
    go_wp2_with fail
    refine (implLevelInside_no _ _ _ _ _ _ _ _ HO3.out.grid hm HM.out HC.out).mono ?_
    rintro e w4 ⟨Aq, cq, rfl, hown, hb4⟩
    have HQ4 := Lib.hid hown
    have hW4 : Below w.heap.size w w4 := hW3.trans (hb4.mono hW3.size)
    have hz4 := hb4.size
    clear hown
    have hS4 : Below w2.heap.size w2 w4 := hb3.trans (hb4.mono hb3.size)
    go_wp2_with fail
    refine (eqIntS_yes _ _ _ _ _ _ _ HQ4.out.row (HS.out.below hS4) (by omega)).mono ?_
    rintro e w5 ⟨rfl, hb5⟩
    have hz5 := hb5.size
    have hW5 : Below w.heap.size w w5 := hW4.trans (hb5.mono hW4.size)
    have hS5 : Below w2.heap.size w2 w5 := hS4.trans (hb5.mono hS4.size)
    go_wp2_with fail
    refine (toIntSS_any _ _ _ _ _ _ (HG.out.below hW5) hm HM.out).mono ?_
    rintro e w6 ⟨At6, rfl, hown, hb6⟩
    have HO6 := Lib.hid hown
    have hz6 := hb6.size
    have hW6 : Below w.heap.size w w6 := hW5.trans (hb6.mono hW5.size)
    clear hown
    go_wp2_with fail
    refine (eqIntSS_yes _ _ _ _ _ _ _ _ ((HO3.out.below ((hb4.trans (hb5.mono (by omega))).trans (hb6.mono (by omega)))).grid) HO6.out.grid hn (fun r hr => by have := HM.out r hr; omega)).mono ?_
    rintro e w7 ⟨rfl, hb7⟩
    have hz7 := hb7.size
    have hW7 : Below w.heap.size w w7 := hW6.trans (hb7.mono hW6.size)
    have HQ7 := Lib.hid (((HQ4.out.below hb5).below hb6).below hb7)
    have hS7 : Below w2.heap.size w2 w7 := (hS5.trans (hb6.mono hS5.size)).trans (hb7.mono (Nat.le_trans hS5.size hb6.size))
    have hX0 := HO3.out.bound.below (((hb4.trans (hb5.mono (by omega))).trans (hb6.mono (by omega))).trans (hb7.mono (by omega))) (Nat.le_refl _)
    go_wp2_with fail
    refine (markIntSS_any 1 _ _ _ _ _ _ _ _ hX0 hm HM.out (by omega)).mono ?_
    rintro e w8 ⟨rfl, _, hz8, hfar, hmk⟩
    clear hX0
    have hW8 : Below w.heap.size w w8 := hW7.trans (hmk.mono hW2.size)
    have hS8 : Below w2.heap.size w2 w8 := hS7.trans hmk
    have HQ8 : Hid (OwnI w8 w3.heap.size (.slice Aq (0) cq) (0) (fun _ => 0)) := OwnS.of_block HQ7.out.s (fun k hk => hfar k (.inr (HQ7.out.s.lt hk).1))
    clear hfar hmk
    go_wp2_with fail
    refine (eqIntS_yes _ _ _ _ _ _ _ HQ8.out.row (HS.out.below hS8) (by omega)).mono ?_
    rintro e w9 ⟨rfl, hb9⟩
    have hz9 := hb9.size
    have hW9 : Below w.heap.size w w9 := hW8.trans (hb9.mono hW8.size)
    have hS9 : Below w2.heap.size w2 w9 := hS8.trans (hb9.mono hS8.size)
    have HQ9 := Lib.hid (HQ8.out.below hb9)
    go_wp2_with fail
    refine (markIntS_own _ _ _ _ 1 _ _ HQ9.out (by omega) (by omega) hB1).mono ?_
    rintro e w10 ⟨rfl, hmo, honly⟩
    have HK := Lib.hid hmo
    have hbo : Below w3.heap.size w9 w10 := honly.below (fun k hk => (HQ9.out.s.lt hk).1)
    have hz10 := honly.size
    have hW10 : Below w.heap.size w w10 := hW9.trans (hbo.mono hW3.size)
    have hS10 : Below w2.heap.size w2 w10 := hS9.trans (hbo.mono hb3.size)
    clear hmo honly
    go_wp2_with fail
    refine (heldIntS_any _ _ _ _ _ HK.out.row (by omega) (by omega) hB1).mono ?_
    rintro e w' ⟨rfl, rfl⟩
    go_wp2_with fail
    refine (toIntSS_any _ _ _ _ _ _ (HG.out.below hW10) hm HM.out).mono ?_
    rintro e w11 ⟨At11, rfl, hown, hb11⟩
    have HO11 := Lib.hid hown
    have hW11 : Below w.heap.size w w11 := hW10.trans (hb11.mono hW10.size)
    clear hown
    go_wp2_with fail
    refine (implLevelInside_no _ _ _ _ _ _ _ _ HO11.out.grid hm HM.out HC.out).mono ?_
    rintro e w12 ⟨Ah, ch, rfl, hown, hb12⟩
    have HH := Lib.hid hown
    have hW12 : Below w.heap.size w w12 := hW11.trans (hb12.mono hW11.size)
    have hb1012 := hb11.trans (hb12.mono hb11.size)
    clear hown
    go_wp2_with fail
    refine (eqIntS_yes _ _ _ _ _ _ _ HH.out.row (HS.out.below (hS10.trans (hb1012.mono hS10.size))) (by omega)).mono ?_
    rintro e w13 ⟨rfl, hb13⟩
    have hW13 : Below w.heap.size w w13 := hW12.trans (hb13.mono hW12.size)
    go_wp2_with fail
    refine (heldIntS_any _ _ _ _ _ (HK.out.below (hb1012.trans (hb13.mono hb1012.size))).row (by omega) (by omega) hB1).mono ?_
    rintro e w' ⟨rfl, rfl⟩
    go_wp2_with fail
    go_ret
    exact ⟨rfl, hW13⟩

end Go.Proofs.Ytgekjhmjjjkibaa
