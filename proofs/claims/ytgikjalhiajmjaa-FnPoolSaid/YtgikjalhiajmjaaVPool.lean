/- The law FnPool: its walk. -/
import Derived.Test.YtgikjalhiajmjaaLawH
import Derived.Test.YtgikjalhiajmjaaWat2
import Derived.Test.YtgikjalhiajmjaaPoolM
import Derived.Test.YtgikjalhiajmjaaITurn
import Derived.Test.YtgikjalhiajmjaaIRai
namespace Go.Proofs.Ytgikjalhiajmjaa
set_option linter.unusedVariables false
set_option linter.unusedSimpArgs false
open Go.RowKit

set_option maxHeartbeats 4000000 in
set_option maxRecDepth 100000 in
theorem fnPool_walk (A : Option Addr) (m cp : Nat) (z : Nat → Int) (w : World) (hz : RowB w A m z) (hm : m ≤ 9223372036854775807 ∧ m ≤ cp) :
    Calls Try.prog 11 #[.slice A m cp] w (RetV (.bool true) w) := by
  have HZ := Lib.hid hz
  obtain ⟨hm1, hm2⟩ := hm
  clear hz
  by_cases hbig : 1048576 < m
  · go_enter Try.func11, Try.ntmps11
    go_wp2_with fail
    go_ret
    exact ⟨rfl, Below.refl _ _⟩
  go_enter Try.func11, Try.ntmps11
  go_wp2_with fail
  refine (drawWaterPool_any _ _ _ _ _ HZ.out hm1 hm2).mono ?_
  rintro e w1 ⟨A1, n, c1, L, g, rfl, hn1, hn2, hL, hgrid, hb1⟩
  have HG := Lib.hid hgrid
  have HL : Hid (∀ r, r < n → L r ≤ 1048576) := fun r hr => by have := hL r hr; omega
  have hB1 := hb1
  clear hgrid hL hb1
  by_cases hv : Valid n L g
  · have HV := Lib.hid hv
    obtain ⟨hp0, hp1⟩ := poolV_pos hv
    obtain ⟨S, hS⟩ : ∃ S, S = poolV n L g := ⟨_, rfl⟩
    rw [← hS] at hp0 hp1
    have HS := Lib.hid hS.symm
    have HT := Lib.hid ((poolV_turn hv).trans hS.symm)
    have HM := Lib.hid ((poolV_mirror hv).trans hS.symm)
    have HF := Lib.hid (poolV_fill hv)
    have HVT := Lib.hid hv.turned
    have HVM := Lib.hid hv.mirrored
    have HVF := Lib.hid hv.filled
    have hvn := hv.2.1
    have hvl := hv.2.2.2.1
    clear hv hS
    go_wp2_with fail
    refine (implWaterPool_any _ _ _ _ _ _ HG.out (by omega) HL.out).mono ?_
    rintro e w2 ⟨rfl, hb2⟩
    rw [HS.out]
    have hB2 : Below w.heap.size w w2 := hB1.trans (hb2.mono hB1.size)
    have Kg2 := Lib.hid (HG.out.below hb2)
    clear HG
    go_wp2_with fail
    refine (specWaterPool_any _ _ _ _ _ _ Kg2.out (by omega) HL.out).mono ?_
    rintro e w3 ⟨rfl, hb3⟩
    rw [HS.out]
    have hB3 : Below w.heap.size w w3 := hB2.trans (hb3.mono hB2.size)
    have Kg3 := Lib.hid (Kg2.out.below hb3)
    clear Kg2
    go_wp2_with fail
    refine (implGridTurn_yes _ _ _ _ _ _ Kg3.out HV.out).mono ?_
    rintro e w4 ⟨A4, c4, rfl, _, hown4, hb4⟩
    have hB4 : Below w.heap.size w w4 := hB3.trans (hb4.mono hB3.size)
    have Kg4 := Lib.hid (Kg3.out.below hb4)
    clear Kg3
    have Kt4 := Lib.hid (hown4.grid)
    clear hown4
    go_wp2_with fail
    refine (implGridMirror_yes _ _ _ _ _ _ Kg4.out HV.out).mono ?_
    rintro e w5 ⟨A5, c5, rfl, _, hown5, hb5⟩
    have hB5 : Below w.heap.size w w5 := hB4.trans (hb5.mono hB4.size)
    have Kg5 := Lib.hid (Kg4.out.below hb5)
    have Kt5 := Lib.hid (Kt4.out.below hb5)
    clear Kg4 Kt4
    have Km5 := Lib.hid (hown5.grid)
    clear hown5
    go_wp2_with fail
    refine (implWaterFill_yes _ _ _ _ _ _ Kg5.out HV.out).mono ?_
    rintro e w6 ⟨A6, c6, rfl, _, hown6, hb6⟩
    have hB6 : Below w.heap.size w w6 := hB5.trans (hb6.mono hB5.size)
    have Kg6 := Lib.hid (Kg5.out.below hb6)
    have Kt6 := Lib.hid (Kt5.out.below hb6)
    have Km6 := Lib.hid (Km5.out.below hb6)
    clear Kg5 Kt5 Km5
    have Kf6 := Lib.hid (hown6.grid)
    clear hown6
    by_cases hr : Rai n L g 1
    · have HR := Lib.hid hr
      have HVD := Lib.hid (Valid.raised hr)
      have HD := Lib.hid ((poolV_raise hr).trans HS.out)
      clear hr
      go_wp2_with fail
      refine (implGridRaise_yes _ _ _ _ _ _ _ Kg6.out HR.out).mono ?_
      rintro e w7 ⟨A7, c7, rfl, _, hown7, hb7⟩
      have hB7 : Below w.heap.size w w7 := hB6.trans (hb7.mono hB6.size)
      have Kg7 := Lib.hid (Kg6.out.below hb7)
      have Kt7 := Lib.hid (Kt6.out.below hb7)
      have Km7 := Lib.hid (Km6.out.below hb7)
      have Kf7 := Lib.hid (Kf6.out.below hb7)
      clear Kg6 Kt6 Km6 Kf6
      have Kd7 := Lib.hid (hown7.grid)
      clear hown7
      go_wp2_with fail
      refine (implWaterPool_any _ _ _ _ _ _ Kt7.out HVT.out.n_le HVT.out.L_le).mono ?_
      rintro e w8 ⟨rfl, hb8⟩
      rw [HT.out]
      have hB8 : Below w.heap.size w w8 := hB7.trans (hb8.mono hB7.size)
      have Kt8 := Lib.hid (Kt7.out.below hb8)
      have Km8 := Lib.hid (Km7.out.below hb8)
      have Kf8 := Lib.hid (Kf7.out.below hb8)
      have Kd8 := Lib.hid (Kd7.out.below hb8)
      clear Kt7 Km7 Kf7 Kd7
      go_wp2_with fail
      refine (implWaterPool_any _ _ _ _ _ _ Km8.out HVM.out.n_le HVM.out.L_le).mono ?_
      rintro e w9 ⟨rfl, hb9⟩
      rw [HM.out]
      have hB9 : Below w.heap.size w w9 := hB8.trans (hb9.mono hB8.size)
      have Km9 := Lib.hid (Km8.out.below hb9)
      have Kf9 := Lib.hid (Kf8.out.below hb9)
      have Kd9 := Lib.hid (Kd8.out.below hb9)
      clear Km8 Kf8 Kd8
      go_wp2_with fail
      refine (implWaterPool_any _ _ _ _ _ _ Kf9.out HVF.out.n_le HVF.out.L_le).mono ?_
      rintro e w10 ⟨rfl, hb10⟩
      rw [HF.out]
      have hB10 : Below w.heap.size w w10 := hB9.trans (hb10.mono hB9.size)
      have Kf10 := Lib.hid (Kf9.out.below hb10)
      have Kd10 := Lib.hid (Kd9.out.below hb10)
      clear Kf9 Kd9
      go_wp2_with fail
      refine (implWaterPool_any _ _ _ _ _ _ Kd10.out HVD.out.n_le HVD.out.L_le).mono ?_
      rintro e w11 ⟨rfl, hb11⟩
      rw [HD.out]
      have hB11 : Below w.heap.size w w11 := hB10.trans (hb11.mono hB10.size)
      have Kd11 := Lib.hid (Kd10.out.below hb11)
      clear Kd10
      go_wp2_with fail
      go_ret
      exact ⟨rfl, hB11⟩
    · have HR := Lib.hid hr
      clear hr
      go_wp2_with fail
      refine (implGridRaise_no _ _ _ _ _ _ _ Kg6.out (by omega) HL.out HR.out).mono ?_
      rintro e w7 ⟨A7, c7, rfl, _, hown7, hb7⟩
      clear hown7
      have hB7 : Below w.heap.size w w7 := hB6.trans (hb7.mono hB6.size)
      have Kg7 := Lib.hid (Kg6.out.below hb7)
      have Kt7 := Lib.hid (Kt6.out.below hb7)
      have Km7 := Lib.hid (Km6.out.below hb7)
      have Kf7 := Lib.hid (Kf6.out.below hb7)
      clear Kg6 Kt6 Km6 Kf6
      go_wp2_with fail
      refine (implWaterPool_any _ _ _ _ _ _ Kt7.out HVT.out.n_le HVT.out.L_le).mono ?_
      rintro e w8 ⟨rfl, hb8⟩
      rw [HT.out]
      have hB8 : Below w.heap.size w w8 := hB7.trans (hb8.mono hB7.size)
      have Kt8 := Lib.hid (Kt7.out.below hb8)
      have Km8 := Lib.hid (Km7.out.below hb8)
      have Kf8 := Lib.hid (Kf7.out.below hb8)
      clear Kt7 Km7 Kf7
      go_wp2_with fail
      refine (implWaterPool_any _ _ _ _ _ _ Km8.out HVM.out.n_le HVM.out.L_le).mono ?_
      rintro e w9 ⟨rfl, hb9⟩
      rw [HM.out]
      have hB9 : Below w.heap.size w w9 := hB8.trans (hb9.mono hB8.size)
      have Km9 := Lib.hid (Km8.out.below hb9)
      have Kf9 := Lib.hid (Kf8.out.below hb9)
      clear Km8 Kf8
      go_wp2_with fail
      refine (implWaterPool_any _ _ _ _ _ _ Kf9.out HVF.out.n_le HVF.out.L_le).mono ?_
      rintro e w10 ⟨rfl, hb10⟩
      rw [HF.out]
      have hB10 : Below w.heap.size w w10 := hB9.trans (hb10.mono hB9.size)
      have Kf10 := Lib.hid (Kf9.out.below hb10)
      clear Kf9
      go_wp2_with fail
      go_ret
      exact ⟨rfl, hB10⟩
  · have HS : Hid (poolV n L g = -1) := if_neg hv
    clear hv
    go_wp2_with fail
    refine (implWaterPool_any _ _ _ _ _ _ HG.out (by omega) HL.out).mono ?_
    rintro e w2 ⟨rfl, hb2⟩
    rw [HS.out]
    have hB2 : Below w.heap.size w w2 := hB1.trans (hb2.mono hB1.size)
    have Kg2 := Lib.hid (HG.out.below hb2)
    clear HG
    go_wp2_with fail
    refine (specWaterPool_any _ _ _ _ _ _ Kg2.out (by omega) HL.out).mono ?_
    rintro e w3 ⟨rfl, hb3⟩
    rw [HS.out]
    have hB3 : Below w.heap.size w w3 := hB2.trans (hb3.mono hB2.size)
    have Kg3 := Lib.hid (Kg2.out.below hb3)
    clear Kg2
    go_wp2_with fail
    go_ret
    exact ⟨rfl, hB3⟩

end Go.Proofs.Ytgikjalhiajmjaa
