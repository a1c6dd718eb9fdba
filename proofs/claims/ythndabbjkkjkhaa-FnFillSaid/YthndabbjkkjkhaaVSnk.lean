/- The law FnSinks: its walk. -/
import Derived.Test.YthndabbjkkjkhaaLawH
import Derived.Test.YthndabbjkkjkhaaRng
import Derived.Test.YthndabbjkkjkhaaPlW
namespace Go.Proofs.Ythndabbjkkjkhaa
set_option linter.unusedVariables false
set_option linter.unusedSimpArgs false
open Go.RowKit

def lowP (h : Nat → Int) (k : Nat) : Nat → Bool := fun j => decide (h j < h k)
theorem snk_lower {R C : Nat} {h : Nat → Int} {k : Nat} (hk : k < R * C) : decide (k ∈ snkL R C h (R * C)) = !anyL (lowP h k) (nearL R C k) (nearL R C k).length := by
  rw [Bool.eq_iff_iff, decide_eq_true_iff, Bool.not_eq_true', ← Bool.not_eq_true, anyL_all, mem_snkL, sink_iff]
  constructor
  · rintro ⟨_, hall⟩ ⟨j, hj, e⟩
    have h1 := hall j hj
    have h2 := of_decide_eq_true e
    omega
  · intro hno
    refine ⟨hk, fun j hj => ?_⟩
    refine Int.not_lt.1 fun hlt => hno ⟨j, hj, decide_eq_true hlt⟩
theorem low_min {R C : Nat} {h : Nat → Int} {k : Nat} (hk : k < R * C) (hl : anyL (lowP h k) (nearL R C k) (nearL R C k).length = true) : minTo h (R * C) < h k := by
  obtain ⟨j, hj, e⟩ := anyL_all.1 hl
  have h1 := minTo_le (h := h) (nearL_lt hk hj)
  have h2 := of_decide_eq_true e
  omega

theorem heightOf_h (A : Option Addr) (n c i : Nat) (L : Nat → Nat) (g : Nat → Nat → Int) (h : Nat → Int) (w : World) (hg : GridF w A n L g) (hv : Valid n L g) (hh : Hid (h = flat (L 0) g)) (hi : i < n * L 0) :
    Calls Try.prog 19 #[.slice A n c, .int .i64 i] w (RetV (.int .i64 (h i)) w) := by
  rw [hh.out]
  exact heightOf_any A n c i L g w hg hv hi

set_option maxHeartbeats 1500000 in
set_option maxRecDepth 100000 in
theorem fnSinks_walk (A : Option Addr) (m cp : Nat) (z : Nat → Int) (w : World) (hz : RowB w A m z) (hm : m ≤ 9223372036854775807 ∧ m ≤ cp) :
    Calls Try.prog 10 #[.slice A m cp] w (RetV (.bool true) w) := by
  have HZ := Lib.hid hz
  obtain ⟨hm1, hm2⟩ := hm
  clear hz
  by_cases hbig : 1048576 < m
  · go_enter Try.func10, Try.ntmps10
    go_wp2_with fail
    go_ret
    exact ⟨rfl, Below.refl _ _⟩
  go_enter Try.func10, Try.ntmps10
  go_wp2_with fail
  refine (drawWaterSinks_any _ _ _ _ _ HZ.out hm1 hm2).mono ?_
  rintro e w1 ⟨A1, n, c1, L, g, rfl, hn1, hn2, hL, hgrid, hb1⟩
  have HG := Lib.hid hgrid
  have HL : Hid (∀ r, r < n → L r ≤ 1048576) := fun r hr => by have := hL r hr; omega
  have hB1 := hb1
  clear hgrid hL hb1
  by_cases hv : Valid n L g
  · have HV := Lib.hid hv
    have hvn := hv.2.1
    have hvl := hv.2.2.2.1
    have hvl1 := hv.2.2.1
    have HRg := Lib.hid (rngV_yes hv)
    obtain ⟨N, hN⟩ : ∃ N, N = n * L 0 := ⟨_, rfl⟩
    have hN1 : N ≤ 49 := by rw [hN]; exact Nat.le_trans (Nat.mul_le_mul hvn hvl) (by decide)
    have HN := Lib.hid hN
    obtain ⟨h, hh⟩ : ∃ h, h = flat (L 0) g := ⟨_, rfl⟩
    have HH := Lib.hid hh
    have HSk : Hid (∀ k, k < N → decide (k ∈ snkL n (L 0) h N) = !anyL (lowP h k) (nearL n (L 0) k) (nearL n (L 0) k).length) := fun k hk => by rw [hN]; exact snk_lower (by rw [← hN]; exact hk)
    have HMn : Hid (∀ k, k < N → anyL (lowP h k) (nearL n (L 0) k) (nearL n (L 0) k).length = true → minTo h N < h k) := fun k hk => by rw [hN]; exact low_min (by rw [← hN]; exact hk)
    clear hv hN hh
    go_wp2_with fail
    refine (implWaterSinks_yes _ _ _ _ _ _ HG.out HV.out).mono ?_
    rintro e w2 ⟨A2, c2, rfl, hown2, hb2⟩
    rw [← HH.out, ← HN.out] at hown2 ⊢
    have KO2 := Lib.hid hown2.row
    clear hown2
    have hB2 : Below w.heap.size w w2 := hB1.trans (hb2.mono hB1.size)
    have Kg2 := Lib.hid (HG.out.below hb2)
    clear HG
    go_wp2_with fail
    refine (specWaterSinks_yes _ _ _ _ _ _ Kg2.out HV.out).mono ?_
    rintro e w3 ⟨A3, c3, rfl, hrow3, hb3⟩
    rw [← HH.out, ← HN.out] at hrow3 ⊢
    have KW3 := Lib.hid hrow3
    clear hrow3
    have hB3 : Below w.heap.size w w3 := hB2.trans (hb3.mono hB2.size)
    have Kg3 := Lib.hid (Kg2.out.below hb3)
    have Ko3 := Lib.hid (KO2.out.below hb3)
    clear Kg2 KO2
    obtain ⟨sl, hsl⟩ : ∃ sl, sl = snkL n (L 0) h N := ⟨_, rfl⟩
    have hsN : sl.length ≤ N := by rw [hsl]; exact snkL_len _ _ _ _
    rw [← hsl] at Ko3 KW3 HSk ⊢
    clear hsl
    go_wp2_with fail
    refine (sameInts_yes _ _ _ _ _ _ _ Ko3.out KW3.out (by omega)).mono ?_
    rintro e w4 ⟨rfl, hb4⟩
    have hB4 : Below w.heap.size w w4 := hB3.trans (hb4.mono hB3.size)
    have Kg4 := Lib.hid (Kg3.out.below hb4)
    have Ko4 := Lib.hid (Ko3.out.below hb4)
    have Kw4 := Lib.hid (KW3.out.below hb4)
    clear Kg3 Ko3 KW3
    by_cases hz : sl.length = 0
    · skip
      have d1 : ((sl.length : Int) == 0) = true := by rw [hz]; rfl
      clear hz
      go_wp2_with fail
      refine (sameInts_yes _ _ _ _ _ _ _ Ko4.out Kw4.out (by omega)).mono ?_
      rintro e w5 ⟨rfl, hb5⟩
      have hB5 : Below w.heap.size w w5 := hB4.trans (hb5.mono hB4.size)
      have Kg5 := Lib.hid (Kg4.out.below hb5)
      have Ko5 := Lib.hid (Ko4.out.below hb5)
      have Kw5 := Lib.hid (Kw4.out.below hb5)
      clear Kg4 Ko4 Kw4
      go_wp2_with fail
      go_ret
      exact ⟨rfl, hB5⟩
    · skip
      have d1 : ((sl.length : Int) == 0) = false := beq_eq_false_iff_ne.2 (by omega)
      clear hz
      go_wp2_with fail
      refine (implGridRange_any _ _ _ _ _ _ Kg4.out (by omega) HL.out).mono ?_
      rintro e w5 ⟨rfl, hb5⟩
      rw [HRg.out, ← HN.out, ← HH.out]
      clear d1
      have hB5 : Below w.heap.size w w5 := hB4.trans (hb5.mono hB4.size)
      have Kg5 := Lib.hid (Kg4.out.below hb5)
      have Ko5 := Lib.hid (Ko4.out.below hb5)
      clear Kg4 Ko4
      obtain ⟨mn, hmn⟩ : ∃ mn, mn = minTo h N := ⟨_, rfl⟩
      rw [← hmn] at HMn ⊢
      clear hmn
      go_wp2_with fail
      go_loopw [9] (fun i wr => ∃ k : Nat, k ≤ N ∧ i = .int .i64 k ∧ Below w5.heap.size w5 wr) (fun i _ => N - (intOf i).toNat)
      case atStart => exact ⟨0, Nat.zero_le _, rfl, Below.refl _ _⟩
      case round =>
        obtain ⟨k, hk, rfl, hbel⟩ := hrel
        have HG1 := Lib.hid (Kg5.out.below hbel)
        go_wp2_with fail
        refine (cellsOf_any _ _ _ _ _ _ HG1.out (by omega) (by omega) (by omega)).mono ?_
        rintro e w' ⟨rfl, rfl⟩
        rw [← HN.out]
        by_cases hlt : k < N
        · have HI : Hid (k < n * L 0) := by show k < n * L 0; rw [← HN.out]; exact hlt
          have HMem : Hid (∀ q, q < (nearL n (L 0) k).length → (nearL n (L 0) k).getD q 0 < n * L 0) := fun q hq => nearL_lt HI.out (getD_in hq)
          have hl4 := nearL_len n (L 0) k
          have HS1 := Lib.hid (HSk.out k hlt)
          have HM1 := Lib.hid (HMn.out k hlt)
          go_wp2_with fail
          refine (nearOf_any _ _ _ _ _ _ _ HG1.out (by omega) (by omega) (by omega) (by omega) HI.out).mono ?_
          rintro e wn ⟨v, rfl, hown, hbn⟩
          have hbel1 := hbel.trans (hbn.mono hbel.size)
          have HG2 := Lib.hid (HG1.out.below hbn)
          obtain ⟨Av, cv, rfl⟩ := hown.slice
          have HOL := Lib.hid hown
          clear hown HG1 hbn
          generalize nearL n (L 0) k = ll at *
          go_wp2_with fail
          go_loopw [10, 12] (fun lo q wi => ∃ m : Nat, m ≤ ll.length ∧ q = .int .i64 m ∧ lo = .bool (anyL (lowP h k) ll m) ∧ Below wn.heap.size wn wi) (fun _ q _ => ll.length - (intOf q).toNat)
          case atStart => exact ⟨0, Nat.zero_le _, rfl, rfl, Below.refl _ _⟩
          case round =>
            obtain ⟨m, hm, rfl, rfl, hbi⟩ := hrel
            by_cases hlt2 : m < ll.length
            · have HA : Hid (anyL (lowP h k) ll (m + 1) = (anyL (lowP h k) ll m || decide (h (ll.getD m 0) < h k))) := rfl
              cases hb : anyL (lowP h k) ll m
              · rw [hb, Bool.false_or] at HA
                obtain ⟨bl, rfl, hce⟩ := (HOL.out.below hbi).at_ hlt2
                have HG3 := Lib.hid (HG2.out.below hbi)
                have HJ := Lib.hid (HMem.out m hlt2)
                have hj49 : ll.getD m 0 ≤ 49 := by have := HJ.out; have := HN.out; omega
                generalize ll.getD m 0 = j at *
                clear hb
                go_wp2_with fail
                refine (heightOf_h _ _ _ _ _ _ h _ HG3.out HV.out HH HJ.out).mono ?_
                rintro e w6 ⟨rfl, hb6⟩
                have HG4 := Lib.hid (HG3.out.below hb6)
                go_wp2_with fail
                refine (heightOf_h _ _ _ _ _ _ h _ HG4.out HV.out HH HI.out).mono ?_
                rintro e w7 ⟨rfl, hb7⟩
                have hb67 := hb6.trans (hb7.mono hb6.size)
                clear hce
                go_wp2_with fail
                go_roundw
                case rel => exact ⟨m + 1, by omega, by go_num, by rw [HA.out], hbi.trans (hb67.mono hbi.size)⟩
                case measure => simp [intOf]; omega
              · rw [hb, Bool.true_or] at HA
                clear hb
                go_wp2_with fail
                go_roundw
                case rel => exact ⟨m + 1, by omega, by go_num, by rw [HA.out], hbi⟩
                case measure => simp [intOf]; omega
            · have hM : m = ll.length := by omega
              subst hM
              have HK := Lib.hid (Ko5.out.below (hbel1.trans (hbi.mono hbel1.size)))
              have HG3 := Lib.hid (HG2.out.below hbi)
              have hV : hasV (fun k => ((sl.getD k 0 : Nat) : Int)) sl.length (k : Int) = !anyL (lowP h k) ll ll.length := hasV_list.trans HS1.out
              have hbel2 := hbel1.trans (hbi.mono hbel1.size)
              go_wp2_with fail
              refine (hasInt_any _ _ _ _ _ _ HK.out (by omega)).mono ?_
              rintro e w' ⟨rfl, rfl⟩
              rw [hV]
              cases hb : anyL (lowP h k) ll ll.length
              · rw [hb] at hV
                go_wp2_with fail
                refine (heightOf_h _ _ _ _ _ _ h _ HG3.out HV.out HH HI.out).mono ?_
                rintro e w6 ⟨rfl, hb6⟩
                have HK6 := Lib.hid (HK.out.below hb6)
                by_cases hx : h k = mn
                · have d2 : (h k == mn) = true := beq_iff_eq.2 hx
                  clear hx
                  go_wp2_with fail
                  refine (hasInt_any _ _ _ _ _ _ HK6.out (by omega)).mono ?_
                  rintro e w' ⟨rfl, rfl⟩
                  rw [hV]
                  clear hV hb
                  go_wp2_with fail
                  go_roundw
                  case rel => exact ⟨k + 1, by omega, by go_num, hbel2.trans (hb6.mono hbel2.size)⟩
                  case measure => simp [intOf]; omega
                · have d2 : (h k == mn) = false := beq_eq_false_iff_ne.2 hx
                  clear hx hV hb
                  go_wp2_with fail
                  go_roundw
                  case rel => exact ⟨k + 1, by omega, by go_num, hbel2.trans (hb6.mono hbel2.size)⟩
                  case measure => simp [intOf]; omega
              · have hx := HM1.out hb
                have d2 : (h k == mn) = false := beq_eq_false_iff_ne.2 (by omega)
                clear hx hV hb
                go_wp2_with fail
                refine (heightOf_h _ _ _ _ _ _ h _ HG3.out HV.out HH HI.out).mono ?_
                rintro e w6 ⟨rfl, hb6⟩
                go_wp2_with fail
                go_roundw
                case rel => exact ⟨k + 1, by omega, by go_num, hbel2.trans (hb6.mono hbel2.size)⟩
                case measure => simp [intOf]; omega
        · go_wp2_with fail
          go_ret
          exact ⟨rfl, hB5.trans (hbel.mono hB5.size)⟩
  · have HV := Lib.hid hv
    clear hv
    go_wp2_with fail
    refine (implWaterSinks_no _ _ _ _ _ _ HG.out (by omega) HL.out HV.out).mono ?_
    rintro e w2 ⟨A2, c2, rfl, hown2, hb2⟩
    have KO2 := Lib.hid hown2.row
    clear hown2
    have hB2 : Below w.heap.size w w2 := hB1.trans (hb2.mono hB1.size)
    have Kg2 := Lib.hid (HG.out.below hb2)
    clear HG
    go_wp2_with fail
    refine (specWaterSinks_no _ _ _ _ _ _ Kg2.out (by omega) HL.out HV.out).mono ?_
    rintro e w3 ⟨A3, c3, rfl, hrow3, hb3⟩
    have KW3 := Lib.hid hrow3
    clear hrow3
    have hB3 : Below w.heap.size w w3 := hB2.trans (hb3.mono hB2.size)
    have Kg3 := Lib.hid (Kg2.out.below hb3)
    have Ko3 := Lib.hid (KO2.out.below hb3)
    clear Kg2 KO2
    go_wp2_with fail
    refine (sameInts_yes _ _ _ _ _ _ _ Ko3.out KW3.out (by omega)).mono ?_
    rintro e w4 ⟨rfl, hb4⟩
    have hB4 : Below w.heap.size w w4 := hB3.trans (hb4.mono hB3.size)
    have Kg4 := Lib.hid (Kg3.out.below hb4)
    have Ko4 := Lib.hid (Ko3.out.below hb4)
    have Kw4 := Lib.hid (KW3.out.below hb4)
    clear Kg3 Ko3 KW3
    go_wp2_with fail
    refine (sameInts_yes _ _ _ _ _ _ _ Ko4.out Kw4.out (by omega)).mono ?_
    rintro e w5 ⟨rfl, hb5⟩
    have hB5 : Below w.heap.size w w5 := hB4.trans (hb5.mono hB4.size)
    have Kg5 := Lib.hid (Kg4.out.below hb5)
    have Ko5 := Lib.hid (Ko4.out.below hb5)
    have Kw5 := Lib.hid (Kw4.out.below hb5)
    clear Kg4 Ko4 Kw4
    go_wp2_with fail
    go_ret
    exact ⟨rfl, hB5⟩

end Go.Proofs.Ythndabbjkkjkhaa
