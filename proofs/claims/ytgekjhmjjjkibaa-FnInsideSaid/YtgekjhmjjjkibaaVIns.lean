/- The law FnInside: its walk. -/
import Derived.Test.YtgekjhmjjjkibaaLawH
import Derived.Test.YtgekjhmjjjkibaaLvn
import Derived.Test.YtgekjhmjjjkibaaLevl
import Derived.Test.YtgekjhmjjjkibaaIns
namespace Go.Proofs.Ytgekjhmjjjkibaa
set_option linter.unusedVariables false
set_option linter.unusedSimpArgs false
open Go.RowKit

def RetDLI (w : World) (e : Ending) (w' : World) : Prop :=
  ∃ A n c L g x y, e = .returned (.tuple #[.slice A n c, .int .i64 x, .int .i64 y]) ∧ -9223372036854775808 ≤ x ∧ x ≤ 9223372036854775807 ∧ -9223372036854775808 ≤ y ∧ y ≤ 9223372036854775807 ∧ 1 ≤ n ∧ n ≤ 9 ∧ (∀ r, r < n → 1 ≤ L r ∧ L r ≤ 10 ∧ L 0 ≤ L r) ∧ GridF w' A n L g ∧ Below w.heap.size w w'

theorem drawLevelInside_any (A : Option Addr) (m c : Nat) (z : Nat → Int) (w : World) (h : RowB w A m z) (hm : m ≤ 9223372036854775807) (hmc : m ≤ c) :
    Calls Try.prog 42 #[.slice A m c] w (RetDLI w) := by
  have HR := Lib.hid h
  clear h
  go_enter Try.func42, Try.ntmps42
  go_wp2_with fail
  refine (l6Open_any _ _ _ _ _ HR.out hm hmc).mono ?_
  rintro e w1 ⟨m', c', rfl, hrd, hs1, hb1⟩
  have HRd := Lib.hid hrd
  have hBr := block_lt_heap hrd.blk
  clear hrd hs1
  go_wp2_with fail
  refine (l91Level_any _ _ _ _ _ _ _ HRd.out (by omega)).mono ?_
  rintro e w2 ⟨v, n, L, g, x, p', rfl, hx1, hx2, hn1, hn2, hgo, hL, hrd2, hp2, hb2⟩
  have HRd2 := Lib.hid hrd2
  have HGo := Lib.hid hgo
  have HLL := Lib.hid hL
  obtain ⟨Av, cv, rfl, _, _⟩ := hgo.grid
  clear hgo hL hrd2
  go_wp2_with fail
  refine (pick_any _ _ _ _ _ _ _ _ HRd2.out (by omega) (by omega) (by omega)).mono ?_
  rintro e w3 ⟨t, rfl, ht0, ht1, hrd3, hb3⟩
  have HRd3 := Lib.hid hrd3
  clear hrd3
  go_wp2_with fail
  refine (pick_any _ _ _ _ _ _ _ _ HRd3.out (by omega) (by omega) (by omega)).mono ?_
  rintro e w4 ⟨s, rfl, hs0, hs1, hrd4, hb4⟩
  clear hrd4
  have hbb := (hb2.trans hb3).trans hb4
  have HG4 := Lib.hid ((HGo.out.of_but hb3 hBr).of_but hb4 hBr)
  have HF : Hid (∀ y : Int, -9223372036854775808 ≤ y ∧ y ≤ 9223372036854775807 → RetDLI w (.returned (.tuple #[.slice Av n cv, .int .i64 x, .int .i64 y])) w4) := fun y hy => by
    obtain ⟨A5, c5, e5, _, hg5⟩ := HG4.out.grid
    injection e5 with e6 _ e7
    subst e6 e7
    exact ⟨Av, n, cv, L, g, x, y, rfl, hx1, hx2, hy.1, hy.2, hn1, hn2, HLL.out, hg5, hb1.trans (hbb.below hb1.size (Nat.le_refl _))⟩
  go_wp2_with fail
  go_ret3
  exact HF.out _ (wrap64_rng _)

theorem inside_law {n : Nat} {L : Nat → Nat} {g : Nat → Nat → Int} {l lo : Int} (hv : Ins n L g l lo) : (∀ i, i < n * L 0 → 0 ≤ Cnum n L g l i → ∃ q : Nat, Cnum n L g l i = q ∧ q < Creg n L g l ∧ Cins n L g l lo q = Cnum n L g lo i) ∧ levelRegionsV n L g l = (Creg n L g l : Int) ∧ Creg n L g l ≤ n * L 0 := by
  refine ⟨fun i hi h0 => ?_, if_pos hv.1, cnt_le _ _⟩
  have h3 := (regV_rng (l := l) (h := flat (L 0) g) hi).2
  obtain ⟨q, hq⟩ := Int.eq_ofNat_of_zero_le h0
  have hq' : regV n (L 0) (flat (L 0) g) l i = (q : Nat) := hq
  refine ⟨q, hq, ?_, ?_⟩
  · show q < regN n (L 0) (flat (L 0) g) l
    omega
  · exact in_eq (by have := hv.2.2.2; omega) hi hq'
theorem inside_law2 {n : Nat} {L : Nat → Nat} {g : Nat → Nat → Int} {l lo : Int} (hl : lo + 1 ≤ l) : ∀ k, k < Creg n L g l → ∃ q : Nat, Cins n L g l (lo + 1) k = q ∧ q < Creg n L g (lo + 1) ∧ Cins n L g (lo + 1) lo q = Cins n L g l lo k := fun k hk => by
  obtain ⟨h1, h2⟩ := in_ok (R := n) (C := L 0) (h := flat (L 0) g) (l := l) (lo := lo + 1) hl hk
  obtain ⟨q, hq⟩ := Int.eq_ofNat_of_zero_le h1
  refine ⟨q, hq, ?_, ?_⟩
  · show q < regN n (L 0) (flat (L 0) g) (lo + 1)
    omega
  · exact in_in hl (by omega) hk hq

set_option maxHeartbeats 1500000 in
set_option maxRecDepth 100000 in
theorem fnInside_walk (A : Option Addr) (m cp : Nat) (z : Nat → Int) (w : World) (hz : RowB w A m z) (hm : m ≤ 9223372036854775807 ∧ m ≤ cp) :
    Calls Try.prog 11 #[.slice A m cp] w (RetV (.bool true) w) := by
  have HZ := Lib.hid hz
  obtain ⟨hm1, hm2⟩ := hm
  clear hz
  by_cases hbig : 1048576 < m
  · go_enter Try.func11, Try.ntmps11
    go_wp2_with fail
    go_ret
    exact ⟨rfl, Below.refl _ _⟩
  go_enter Try.func11, Try.ntmps11
  go_wp2_with fail
  refine (drawLevelInside_any _ _ _ _ _ HZ.out hm1 hm2).mono ?_
  rintro e w1 ⟨A1, n, c1, L, g, l, lo, rfl, hl1, hl2, ho1, ho2, hn1, hn2, hL, hgrid, hb1⟩
  have HG := Lib.hid hgrid
  have HL : Hid (∀ r, r < n → L r ≤ 1048576) := fun r hr => by have := hL r hr; omega
  have hB1 := hb1
  clear hgrid hL hb1
  by_cases hv : Ins n L g l lo
  · have HVI := Lib.hid hv
    have HVl := Lib.hid hv.1
    have HVo : Hid (Lvl n L g lo) := ⟨hv.1.1, hv.2.1, hv.2.2.1⟩
    have hvn := hv.1.1.2.1
    have hvl := hv.1.1.2.2.2.1
    have hv0 := hv.2.1
    have hv1 := hv.2.2.2
    have hv2 := hv.1.2.2
    obtain ⟨hT1, hT2, hT3⟩ := inside_law hv
    obtain ⟨N, hN⟩ : ∃ N, N = n * L 0 := ⟨_, rfl⟩
    have hN1 : N ≤ 49 := by rw [hN]; exact Nat.le_trans (Nat.mul_le_mul hvn hvl) (by decide)
    have HN := Lib.hid hN
    obtain ⟨R, hR⟩ : ∃ R, R = Creg n L g l := ⟨_, rfl⟩
    have HRR := Lib.hid hR
    rw [← hN, ← hR] at hT1
    rw [← hR] at hT2
    rw [← hN, ← hR] at hT3
    have HT1 := Lib.hid hT1
    have HT2 := Lib.hid hT2
    have hR49 : R ≤ 49 := by omega
    have dN : ((N : Int) != (N : Int)) = false := by simp
    have dR : ((R : Int) == (R : Int)) = true := by simp
    clear hv hN hR hT1 hT2 hT3
    go_wp2_with fail
    refine (implLevelInside_yes _ _ _ _ _ _ _ _ HG.out HVI.out).mono ?_
    rintro e w2 ⟨A2, c2, rfl, hown2, hb2⟩
    rw [← HRR.out] at hown2
    rw [← HRR.out]
    have KO2 := Lib.hid hown2.row
    clear hown2
    have hB2 : Below w.heap.size w w2 := hB1.trans (hb2.mono hB1.size)
    have Kg2 := Lib.hid (HG.out.below hb2)
    clear HG
    go_wp2_with fail
    refine (specLevelInside_yes _ _ _ _ _ _ _ _ Kg2.out HVI.out).mono ?_
    rintro e w3 ⟨A3, c3, rfl, hrow3, hb3⟩
    rw [← HRR.out] at hrow3
    rw [← HRR.out]
    have KW3 := Lib.hid hrow3
    clear hrow3
    have hB3 : Below w.heap.size w w3 := hB2.trans (hb3.mono hB2.size)
    have Kg3 := Lib.hid (Kg2.out.below hb3)
    have Ko3 := Lib.hid (KO2.out.below hb3)
    clear Kg2 KO2
    go_wp2_with fail
    refine (sameInts_yes _ _ _ _ _ _ _ Ko3.out KW3.out (by omega)).mono ?_
    rintro e w4 ⟨rfl, hb4⟩
    have hB4 : Below w.heap.size w w4 := hB3.trans (hb4.mono hB3.size)
    have Kg4 := Lib.hid (Kg3.out.below hb4)
    have Ko4 := Lib.hid (Ko3.out.below hb4)
    have Kw4 := Lib.hid (KW3.out.below hb4)
    clear Kg3 Ko3 KW3
    go_wp2_with fail
    refine (implLevelNumbers_yes _ _ _ _ _ _ _ Kg4.out HVl.out).mono ?_
    rintro e w5 ⟨A5, c5, rfl, hown5, hb5⟩
    rw [← HN.out] at hown5
    rw [← HN.out]
    have KH5 := Lib.hid hown5.row
    clear hown5
    have hB5 : Below w.heap.size w w5 := hB4.trans (hb5.mono hB4.size)
    have Kg5 := Lib.hid (Kg4.out.below hb5)
    have Ko5 := Lib.hid (Ko4.out.below hb5)
    clear Kg4 Ko4
    go_wp2_with fail
    refine (implLevelNumbers_yes _ _ _ _ _ _ _ Kg5.out HVo.out).mono ?_
    rintro e w6 ⟨A6, c6, rfl, hown6, hb6⟩
    rw [← HN.out] at hown6
    rw [← HN.out]
    have KL6 := Lib.hid hown6.row
    clear hown6
    have hB6 : Below w.heap.size w w6 := hB5.trans (hb6.mono hB5.size)
    have Kg6 := Lib.hid (Kg5.out.below hb6)
    have Ko6 := Lib.hid (Ko5.out.below hb6)
    have Kh6 := Lib.hid (KH5.out.below hb6)
    clear Kg5 Ko5 KH5
    go_wp2_with fail
    go_loopw [14] (fun i wr => ∃ k : Nat, k ≤ N ∧ i = .int .i64 k ∧ Below w6.heap.size w6 wr) (fun i _ => N - (intOf i).toNat)
    case atStart => exact ⟨0, Nat.zero_le _, rfl, Below.refl _ _⟩
    case round =>
      obtain ⟨k, hk, rfl, hbel⟩ := hrel
      by_cases hlt : k < N
      · obtain ⟨b5, o5, e5, hc5⟩ := (Kh6.out.below hbel) k hlt
        have HTk := Lib.hid (HT1.out k hlt)
        cases e5
        by_cases q3 : 0 ≤ Cnum n L g l k
        · obtain ⟨q, e1, hq, e2⟩ := HTk.out q3
          obtain ⟨b6, o6, e6, hc6⟩ := (Ko6.out.below hbel) q hq
          obtain ⟨b7, o7, e7, hc7⟩ := (KL6.out.below hbel) k hlt
          cases e6
          cases e7
          rw [e1] at hc5
          rw [e2] at hc6
          obtain ⟨v, hv⟩ : ∃ v, v = Cnum n L g lo k := ⟨_, rfl⟩
          rw [← hv] at hc6 hc7
          have d5 : (v != v) = false := by simp
          have d3 : decide ((0 : Int) ≤ (q : Int)) = true := decide_eq_true (by omega)
          clear e1 e2 hv HTk q3
          go_wp2_with fail
          go_quiet (fail)
          go_wp2_with fail
          go_roundw
          case rel => exact ⟨k + 1, by omega, by go_num, below_drewN hbel _⟩
          case measure => simp [intOf]; omega
        · obtain ⟨f, hf⟩ : ∃ f, f = Cnum n L g l k := ⟨_, rfl⟩
          rw [← hf] at hc5 q3
          have d3 : decide (0 ≤ f) = false := decide_eq_false q3
          clear hf HTk
          go_wp2_with fail
          go_quiet (fail)
          go_wp2_with fail
          go_roundw
          case rel => exact ⟨k + 1, by omega, by go_num, below_drewN hbel _⟩
          case measure => simp [intOf]; omega
      · obtain rfl : k = N := by omega
        have hB20 := hB6.trans (hbel.mono hB6.size)
        have Kg20 := Lib.hid (Kg6.out.below hbel)
        have Ko20 := Lib.hid (Ko6.out.below hbel)
        obtain ⟨w20, hw20⟩ : ∃ x : World, x = wr := ⟨_, rfl⟩
        subst hw20
        by_cases q2 : l - lo < 2
        · have d2 : decide (l - lo < 2) = true := decide_eq_true q2
          go_wp2_with fail
          refine (implLevelRegions_any _ _ _ _ _ _ _ Kg20.out (by omega) HL.out (by omega) (by omega)).mono ?_
          rintro e w21 ⟨rfl, hb21⟩
          rw [HT2.out]
          have hB21 : Below w.heap.size w w21 := hB20.trans (hb21.mono hB20.size)
          have Kg21 := Lib.hid (Kg20.out.below hb21)
          have Ko21 := Lib.hid (Ko20.out.below hb21)
          clear Kg20 Ko20
          go_wp2_with fail
          go_ret
          exact ⟨rfl, hB21⟩
        · have d2 : decide (l - lo < 2) = false := decide_eq_false q2
          have HVA : Hid (Ins n L g l (lo + 1)) := ⟨HVl.out, by omega, by omega, by omega⟩
          have HVB : Hid (Ins n L g (lo + 1) lo) := ⟨⟨HVl.out.1, by omega, by omega⟩, by omega, by omega, by omega⟩
          have HT4 : Hid (∀ k, k < R → ∃ q : Nat, Cins n L g l (lo + 1) k = q ∧ q < Creg n L g (lo + 1) ∧ Cins n L g (lo + 1) lo q = Cins n L g l lo k) := by
            show ∀ k, _
            rw [HRR.out]
            exact inside_law2 (by omega)
          have HS49 : Hid (Creg n L g (lo + 1) ≤ 49) := Nat.le_trans (cnt_le _ _) (by rw [← HN.out]; exact hN1)
          clear q2
          go_wp2_with fail
          refine (implLevelInside_yes _ _ _ _ _ _ _ _ Kg20.out HVA.out).mono ?_
          rintro e w21 ⟨A21, c21, rfl, hown21, hb21⟩
          rw [← HRR.out] at hown21
          rw [← HRR.out]
          have KA21 := Lib.hid hown21.row
          clear hown21
          have hB21 : Below w.heap.size w w21 := hB20.trans (hb21.mono hB20.size)
          have Kg21 := Lib.hid (Kg20.out.below hb21)
          have Ko21 := Lib.hid (Ko20.out.below hb21)
          clear Kg20 Ko20
          go_wp2_with fail
          refine (implLevelInside_yes _ _ _ _ _ _ _ _ Kg21.out HVB.out).mono ?_
          rintro e w22 ⟨A22, c22, rfl, hown22, hb22⟩
          have KB22 := Lib.hid hown22.row
          clear hown22
          have hB22 : Below w.heap.size w w22 := hB21.trans (hb22.mono hB21.size)
          have Kg22 := Lib.hid (Kg21.out.below hb22)
          have Ko22 := Lib.hid (Ko21.out.below hb22)
          have Ka22 := Lib.hid (KA21.out.below hb22)
          clear Kg21 Ko21 KA21
          obtain ⟨S, hS⟩ : ∃ S, S = Creg n L g (lo + 1) := ⟨_, rfl⟩
          rw [← hS] at KB22 HS49
          rw [← hS]
          have HSS := Lib.hid hS
          have hS49 := HS49.out
          clear hS
          go_wp2_with fail
          go_loopw [19] (fun i wr => ∃ k : Nat, k ≤ R ∧ i = .int .i64 k ∧ Below w22.heap.size w22 wr) (fun i _ => R - (intOf i).toNat)
          case atStart => exact ⟨0, Nat.zero_le _, rfl, Below.refl _ _⟩
          case round =>
            obtain ⟨k, hk, rfl, hbel⟩ := hrel
            by_cases hlt : k < R
            · obtain ⟨q, e1, hq, e2⟩ := HT4.out k hlt
              rw [← HSS.out] at hq
              obtain ⟨b5, o5, e5, hc5⟩ := (Ka22.out.below hbel) k hlt
              obtain ⟨b6, o6, e6, hc6⟩ := (KB22.out.below hbel) q hq
              obtain ⟨b7, o7, e7, hc7⟩ := (Ko22.out.below hbel) k hlt
              cases e5
              cases e6
              cases e7
              rw [e1] at hc5
              rw [e2] at hc6
              obtain ⟨v, hv⟩ : ∃ v, v = Cins n L g l lo k := ⟨_, rfl⟩
              rw [← hv] at hc6 hc7
              have d5 : (v != v) = false := by simp
              clear e1 e2 hv
              go_wp2_with fail
              go_quiet (fail)
              go_wp2_with fail
              go_roundw
              case rel => exact ⟨k + 1, by omega, by go_num, below_drewN hbel _⟩
              case measure => simp [intOf]; omega
            · obtain rfl : k = R := by omega
              have HGz := Lib.hid (Kg22.out.below hbel)
              have hbz := hB22.trans (hbel.mono hB22.size)
              go_wp2_with fail
              refine (implLevelRegions_any _ _ _ _ _ _ _ HGz.out (by omega) HL.out (by omega) (by omega)).mono ?_
              rintro e wz ⟨rfl, hbz2⟩
              rw [HT2.out]
              go_wp2_with fail
              go_ret
              exact ⟨rfl, hbz.trans (hbz2.mono hbz.size)⟩
  · have HV := Lib.hid hv
    clear hv
    go_wp2_with fail
    refine (implLevelInside_no _ _ _ _ _ _ _ _ HG.out (by omega) HL.out HV.out).mono ?_
    rintro e w2 ⟨A2, c2, rfl, hown2, hb2⟩
    have KO2 := Lib.hid hown2.row
    clear hown2
    have hB2 : Below w.heap.size w w2 := hB1.trans (hb2.mono hB1.size)
    have Kg2 := Lib.hid (HG.out.below hb2)
    clear HG
    go_wp2_with fail
    refine (specLevelInside_no _ _ _ _ _ _ _ _ Kg2.out (by omega) HL.out HV.out).mono ?_
    rintro e w3 ⟨A3, c3, rfl, hrow3, hb3⟩
    have KW3 := Lib.hid hrow3
    clear hrow3
    have hB3 : Below w.heap.size w w3 := hB2.trans (hb3.mono hB2.size)
    have Kg3 := Lib.hid (Kg2.out.below hb3)
    have Ko3 := Lib.hid (KO2.out.below hb3)
    clear Kg2 KO2
    go_wp2_with fail
    refine (sameInts_yes _ _ _ _ _ _ _ Ko3.out KW3.out (by omega)).mono ?_
    rintro e w4 ⟨rfl, hb4⟩
    have hB4 : Below w.heap.size w w4 := hB3.trans (hb4.mono hB3.size)
    have Kg4 := Lib.hid (Kg3.out.below hb4)
    have Ko4 := Lib.hid (Ko3.out.below hb4)
    have Kw4 := Lib.hid (KW3.out.below hb4)
    clear Kg3 Ko3 KW3
    go_wp2_with fail
    refine (sameInts_yes _ _ _ _ _ _ _ Ko4.out Kw4.out (by omega)).mono ?_
    rintro e w5 ⟨rfl, hb5⟩
    have hB5 : Below w.heap.size w w5 := hB4.trans (hb5.mono hB4.size)
    have Kg5 := Lib.hid (Kg4.out.below hb5)
    have Ko5 := Lib.hid (Ko4.out.below hb5)
    have Kw5 := Lib.hid (Kw4.out.below hb5)
    clear Kg4 Ko4 Kw4
    go_wp2_with fail
    go_ret
    exact ⟨rfl, hB5⟩

end Go.Proofs.Ytgekjhmjjjkibaa
