/- The law FnWaterNext: its walk. -/
import Derived.Test.YthndabbjkkjkhaaLawH
import Derived.Test.YthndabbjkkjkhaaCell
import Derived.Test.YthndabbjkkjkhaaPlW
import Derived.Test.YthndabbjkkjkhaaVSnk
import Derived.Test.YthndabbjkkjkhaaIRai
import Derived.Test.YthndabbjkkjkhaaPar
namespace Go.Proofs.Ythndabbjkkjkhaa
set_option linter.unusedVariables false
set_option linter.unusedSimpArgs false
open Go.RowKit

theorem Valid.rsd {n : Nat} {L : Nat → Nat} {g : Nat → Nat → Int} {k : Int} (h : Rai n L g k) : Valid n (fun _ => L 0) (raiseG k g) :=
  ⟨h.1.1, h.1.2.1, h.1.2.2.1, h.1.2.2.2.1, fun r hr => ⟨rfl, fun c hc => h.2.2.2.rng hr hc⟩⟩

set_option maxHeartbeats 1500000 in
set_option maxRecDepth 100000 in
theorem fnWaterNext_walk (A : Option Addr) (m cp : Nat) (z : Nat → Int) (w : World) (hz : RowB w A m z) (hm : m ≤ 9223372036854775807 ∧ m ≤ cp) :
    Calls Try.prog 11 #[.slice A m cp] w (RetV (.bool true) w) := by
  have HZ := Lib.hid hz
  obtain ⟨hm1, hm2⟩ := hm
  clear hz
  by_cases hbig : 1048576 < m
  · go_enter Try.func11, Try.ntmps11
    go_wp2_with fail
    go_ret
    exact ⟨rfl, Below.refl _ _⟩
  go_enter Try.func11, Try.ntmps11
  go_wp2_with fail
  refine (drawWaterNext_any _ _ _ _ _ HZ.out hm1 hm2).mono ?_
  rintro e w1 ⟨A1, n, c1, L, g, a, b, rfl, ha1, ha2, ha3, ha4, hn1, hn2, hL, hgrid, hb1⟩
  have HG := Lib.hid hgrid
  have HL : Hid (∀ r, r < n → L r ≤ 1048576) := fun r hr => by have := hL r hr; omega
  have hB1 := hb1
  clear hgrid hL hb1
  by_cases hv : HasCell n L g a b
  · obtain ⟨R, rfl⟩ := Int.eq_ofNat_of_zero_le hv.2.1
    obtain ⟨Q, rfl⟩ := Int.eq_ofNat_of_zero_le hv.2.2.2.1
    have hR : R < n := by have := hv.2.2.1; omega
    have hQ : Q < L 0 := by have := hv.2.2.2.2; omega
    have HVV := Lib.hid hv.1
    have hvn := hv.1.2.1
    have hvl := hv.1.2.2.2.1
    have hvl1 := hv.1.2.2.1
    obtain ⟨I, hI⟩ : ∃ I, I = R * L 0 + Q := ⟨_, rfl⟩
    have hIN : I < n * L 0 := by rw [hI]; exact idx_lt hR hQ
    have hN1 : n * L 0 ≤ 49 := Nat.le_trans (Nat.mul_le_mul hvn hvl) (by decide)
    obtain ⟨h, hh⟩ : ∃ h, h = flat (L 0) g := ⟨_, rfl⟩
    have HH := Lib.hid hh
    obtain ⟨X, hX⟩ : ∃ X, X = nextV n (L 0) h I := ⟨_, rfl⟩
    have HX : Hid (waterNextV n L g R Q = (X : Int)) := by show _ = _; rw [waterNextV_yes hv, Int.toNat_natCast, Int.toNat_natCast, hX, hh, hI]
    have HXR : Hid (Rai n L g 1 → waterNextV n (fun _ => L 0) (raiseG 1 g) R Q = (X : Int)) := fun hr => by
      rw [waterNextV_yes ⟨Valid.rsd hr, hv.2⟩, Int.toNat_natCast, Int.toNat_natCast, hX, hh, hI]
      exact congrArg _ (next_raise (h := flat (L 0) g) 1)
    have hXN : X < n * L 0 := by rw [hX]; exact low_lt hIN (Nat.le_refl _)
    have HMin : Hid (∀ q, q < (nearL n (L 0) I).length → h X ≤ h ((nearL n (L 0) I).getD q 0)) := fun q hq => by rw [hX]; exact next_min (getD_in hq)
    have HOr : Hid (X = I ∨ (hasV (fun k => (((nearL n (L 0) I).getD k 0 : Nat) : Int)) (nearL n (L 0) I).length (X : Int) = true ∧ h X < h I)) := by
      rcases next_or (R := n) (C := L 0) (h := h) (i := I) with e | ⟨e1, e2⟩
      · exact .inl (by rw [hX]; exact e)
      · exact .inr ⟨by rw [hasV_list, hX]; exact decide_eq_true e1, by rw [hX]; exact e2⟩
    have HMem : Hid (∀ q, q < (nearL n (L 0) I).length → (nearL n (L 0) I).getD q 0 < n * L 0) := fun q hq => nearL_lt hIN (getD_in hq)
    have HIN := Lib.hid hIN
    have HXN := Lib.hid hXN
    have hl4 := nearL_len n (L 0) I
    have d0 : ((X : Int) != (X : Int)) = false := by simp
    have d1 : decide ((X : Int) < 0) = false := decide_eq_false (by omega)
    have m0 : (0 : Int) ≤ (R : Int) * (L 0 : Int) := by rw [← Int.natCast_mul]; omega
    have m1 : (R : Int) * (L 0 : Int) ≤ 49 := by rw [← Int.natCast_mul]; have : R * L 0 ≤ I := by omega
                                                 omega
    have HE : Hid ((R : Int) * (L 0 : Int) + (Q : Int) = (I : Int)) := by show _ = _; rw [hI, Int.natCast_add, Int.natCast_mul]
    clear hv hI hh hX
    go_wp2_with fail
    refine (implWaterNext_any _ _ _ _ _ _ _ _ HG.out (by omega) HL.out (by omega) (by omega) (by omega) (by omega)).mono ?_
    rintro e w2 ⟨rfl, hb2⟩
    rw [HX.out]
    have hB2 : Below w.heap.size w w2 := hB1.trans (hb2.mono hB1.size)
    have Kg2 := Lib.hid (HG.out.below hb2)
    clear HG
    go_wp2_with fail
    refine (specWaterNext_any _ _ _ _ _ _ _ _ Kg2.out (by omega) HL.out (by omega) (by omega) (by omega) (by omega)).mono ?_
    rintro e w3 ⟨rfl, hb3⟩
    rw [HX.out]
    have hB3 : Below w.heap.size w w3 := hB2.trans (hb3.mono hB2.size)
    have Kg3 := Lib.hid (Kg2.out.below hb3)
    clear Kg2
    obtain ⟨Bg, og, A0, c0, rfl, hc0, _, _⟩ := Kg3.out 0 (by omega)
    rw [Nat.add_zero] at hc0
    go_wp2_with fail
    rw [HE.out]
    refine (nearOf_any _ _ _ _ _ _ _ Kg3.out (by omega) (by omega) (by omega) (by omega) HIN.out).mono ?_
    rintro e w4 ⟨v, rfl, hown, hb4⟩
    obtain ⟨Av, cv, rfl⟩ := hown.slice
    have HOL4 := Lib.hid hown
    clear hown hc0 d0 d1
    have hB4 : Below w.heap.size w w4 := hB3.trans (hb4.mono hB3.size)
    have Kg4 := Lib.hid (Kg3.out.below hb4)
    clear Kg3
    generalize nearL n (L 0) I = ll at *
    go_wp2_with fail
    go_loopw [10] (fun q wi => ∃ m : Nat, m ≤ ll.length ∧ q = .int .i64 m ∧ Below w4.heap.size w4 wi) (fun q _ => ll.length - (intOf q).toNat)
    case atStart => exact ⟨0, Nat.zero_le _, rfl, Below.refl _ _⟩
    case round =>
      obtain ⟨m, hm, rfl, hbi⟩ := hrel
      have HG1 := Lib.hid (Kg4.out.below hbi)
      have HO1 := Lib.hid (HOL4.out.below hbi)
      by_cases hlt2 : m < ll.length
      · obtain ⟨bl, rfl, hce⟩ := HO1.out.at_ hlt2
        have HJ := Lib.hid (HMem.out m hlt2)
        have hle := HMin.out m hlt2
        have hj49 : ll.getD m 0 ≤ 49 := by have := HJ.out; omega
        generalize ll.getD m 0 = j at *
        have d2 : decide (h j < h X) = false := decide_eq_false (by omega)
        clear hle
        go_wp2_with fail
        refine (heightOf_h _ _ _ _ _ _ h _ HG1.out HVV.out HH HJ.out).mono ?_
        rintro e w6 ⟨rfl, hb6⟩
        have HG6 := Lib.hid (HG1.out.below hb6)
        go_wp2_with fail
        refine (heightOf_h _ _ _ _ _ _ h _ HG6.out HVV.out HH HXN.out).mono ?_
        rintro e w7 ⟨rfl, hb7⟩
        have hb67 := hb6.trans (hb7.mono hb6.size)
        clear hce
        go_wp2_with fail
        go_roundw
        case rel => exact ⟨m + 1, by omega, by go_num, hbi.trans (hb67.mono hbi.size)⟩
        case measure => simp [intOf]; omega
      · have hB5 : Below w.heap.size w wr := hB4.trans (hbi.mono hB4.size)
        by_cases hr : Rai n L g 1
        · have HR := Lib.hid hr
          have HVD := Lib.hid (Valid.rsd hr)
          clear hr
          rcases HOr.out with hq | hq
          · skip
            go_wp2_with fail
            refine (implGridRaise_yes _ _ _ _ _ _ _ HG1.out HR.out).mono ?_
            rintro e w6 ⟨A6, c6, rfl, _, hown6, hb6⟩
            have hB6 : Below w.heap.size w w6 := hB5.trans (hb6.mono hB5.size)
            have Kg6 := Lib.hid (HG1.out.below hb6)
            have Kl6 := Lib.hid (HO1.out.below hb6)
            clear HG1 HO1
            have Kd6 := Lib.hid (hown6.grid)
            clear hown6
            have d3 : ((X : Int) == (I : Int)) = true := beq_iff_eq.2 (by omega)
            go_wp2_with fail
            refine (implWaterNext_any _ _ _ _ _ _ _ _ Kd6.out HVD.out.n_le HVD.out.L_le (by omega) (by omega) (by omega) (by omega)).mono ?_
            rintro e w7 ⟨rfl, hb7⟩
            rw [HXR.out HR.out]
            have hB7 : Below w.heap.size w w7 := hB6.trans (hb7.mono hB6.size)
            have Kg7 := Lib.hid (Kg6.out.below hb7)
            have Kd7 := Lib.hid (Kd6.out.below hb7)
            clear Kg6 Kd6
            go_wp2_with fail
            go_ret
            exact ⟨rfl, hB7⟩
          · skip
            have hne : X ≠ I := fun e => by have := hq.2; rw [e] at this; omega
            go_wp2_with fail
            refine (implGridRaise_yes _ _ _ _ _ _ _ HG1.out HR.out).mono ?_
            rintro e w6 ⟨A6, c6, rfl, _, hown6, hb6⟩
            have hB6 : Below w.heap.size w w6 := hB5.trans (hb6.mono hB5.size)
            have Kg6 := Lib.hid (HG1.out.below hb6)
            have Kl6 := Lib.hid (HO1.out.below hb6)
            clear HG1 HO1
            have Kd6 := Lib.hid (hown6.grid)
            clear hown6
            have d3 : ((X : Int) == (I : Int)) = false := beq_eq_false_iff_ne.2 (by omega)
            obtain ⟨q1, q2⟩ := hq
            have HL5 : Hid (RowF w6 Av ll.length (fun k => ((ll.getD k 0 : Nat) : Int))) := (OwnL.i Kl6.out).row
            have d4 : decide (h X < h I) = true := decide_eq_true q2
            go_wp2_with fail
            refine (hasInt_any _ _ _ _ _ _ HL5.out (by omega)).mono ?_
            rintro e w' ⟨rfl, rfl⟩
            rw [q1]
            clear q1 q2
            go_wp2_with fail
            refine (heightOf_h _ _ _ _ _ _ h _ Kg6.out HVV.out HH HXN.out).mono ?_
            rintro e w7 ⟨rfl, hb7⟩
            have hB7 : Below w.heap.size w w7 := hB6.trans (hb7.mono hB6.size)
            have Kg7 := Lib.hid (Kg6.out.below hb7)
            have Kd7 := Lib.hid (Kd6.out.below hb7)
            clear Kg6 Kd6
            go_wp2_with fail
            refine (heightOf_h _ _ _ _ _ _ h _ Kg7.out HVV.out HH HIN.out).mono ?_
            rintro e w8 ⟨rfl, hb8⟩
            have hB8 : Below w.heap.size w w8 := hB7.trans (hb8.mono hB7.size)
            have Kg8 := Lib.hid (Kg7.out.below hb8)
            have Kd8 := Lib.hid (Kd7.out.below hb8)
            clear Kg7 Kd7
            go_wp2_with fail
            refine (implWaterNext_any _ _ _ _ _ _ _ _ Kd8.out HVD.out.n_le HVD.out.L_le (by omega) (by omega) (by omega) (by omega)).mono ?_
            rintro e w9 ⟨rfl, hb9⟩
            rw [HXR.out HR.out]
            have hB9 : Below w.heap.size w w9 := hB8.trans (hb9.mono hB8.size)
            have Kg9 := Lib.hid (Kg8.out.below hb9)
            have Kd9 := Lib.hid (Kd8.out.below hb9)
            clear Kg8 Kd8
            go_wp2_with fail
            go_ret
            exact ⟨rfl, hB9⟩
        · have HR := Lib.hid hr
          clear hr
          rcases HOr.out with hq | hq
          · skip
            go_wp2_with fail
            refine (implGridRaise_no _ _ _ _ _ _ _ HG1.out (by omega) HL.out HR.out).mono ?_
            rintro e w6 ⟨A6, c6, rfl, _, hown6, hb6⟩
            clear hown6
            have hB6 : Below w.heap.size w w6 := hB5.trans (hb6.mono hB5.size)
            have Kg6 := Lib.hid (HG1.out.below hb6)
            have Kl6 := Lib.hid (HO1.out.below hb6)
            clear HG1 HO1
            have d3 : ((X : Int) == (I : Int)) = true := beq_iff_eq.2 (by omega)
            go_wp2_with fail
            go_ret
            exact ⟨rfl, hB6⟩
          · skip
            have hne : X ≠ I := fun e => by have := hq.2; rw [e] at this; omega
            go_wp2_with fail
            refine (implGridRaise_no _ _ _ _ _ _ _ HG1.out (by omega) HL.out HR.out).mono ?_
            rintro e w6 ⟨A6, c6, rfl, _, hown6, hb6⟩
            clear hown6
            have hB6 : Below w.heap.size w w6 := hB5.trans (hb6.mono hB5.size)
            have Kg6 := Lib.hid (HG1.out.below hb6)
            have Kl6 := Lib.hid (HO1.out.below hb6)
            clear HG1 HO1
            have d3 : ((X : Int) == (I : Int)) = false := beq_eq_false_iff_ne.2 (by omega)
            obtain ⟨q1, q2⟩ := hq
            have HL5 : Hid (RowF w6 Av ll.length (fun k => ((ll.getD k 0 : Nat) : Int))) := (OwnL.i Kl6.out).row
            have d4 : decide (h X < h I) = true := decide_eq_true q2
            go_wp2_with fail
            refine (hasInt_any _ _ _ _ _ _ HL5.out (by omega)).mono ?_
            rintro e w' ⟨rfl, rfl⟩
            rw [q1]
            clear q1 q2
            go_wp2_with fail
            refine (heightOf_h _ _ _ _ _ _ h _ Kg6.out HVV.out HH HXN.out).mono ?_
            rintro e w7 ⟨rfl, hb7⟩
            have hB7 : Below w.heap.size w w7 := hB6.trans (hb7.mono hB6.size)
            have Kg7 := Lib.hid (Kg6.out.below hb7)
            clear Kg6
            go_wp2_with fail
            refine (heightOf_h _ _ _ _ _ _ h _ Kg7.out HVV.out HH HIN.out).mono ?_
            rintro e w8 ⟨rfl, hb8⟩
            have hB8 : Below w.heap.size w w8 := hB7.trans (hb8.mono hB7.size)
            have Kg8 := Lib.hid (Kg7.out.below hb8)
            clear Kg7
            go_wp2_with fail
            go_ret
            exact ⟨rfl, hB8⟩
  · have HX : Hid (waterNextV n L g a b = -1) := waterNextV_no hv
    clear hv
    go_wp2_with fail
    refine (implWaterNext_any _ _ _ _ _ _ _ _ HG.out (by omega) HL.out (by omega) (by omega) (by omega) (by omega)).mono ?_
    rintro e w2 ⟨rfl, hb2⟩
    rw [HX.out]
    have hB2 : Below w.heap.size w w2 := hB1.trans (hb2.mono hB1.size)
    have Kg2 := Lib.hid (HG.out.below hb2)
    clear HG
    go_wp2_with fail
    refine (specWaterNext_any _ _ _ _ _ _ _ _ Kg2.out (by omega) HL.out (by omega) (by omega) (by omega) (by omega)).mono ?_
    rintro e w3 ⟨rfl, hb3⟩
    rw [HX.out]
    have hB3 : Below w.heap.size w w3 := hB2.trans (hb3.mono hB2.size)
    have Kg3 := Lib.hid (Kg2.out.below hb3)
    clear Kg2
    go_wp2_with fail
    go_ret
    exact ⟨rfl, hB3⟩

end Go.Proofs.Ythndabbjkkjkhaa
