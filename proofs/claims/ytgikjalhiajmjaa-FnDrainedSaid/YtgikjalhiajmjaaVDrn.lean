/- The law FnDrained: its walk. -/
import Derived.Test.YtgikjalhiajmjaaLawH
import Derived.Test.YtgikjalhiajmjaaDrs
import Derived.Test.YtgikjalhiajmjaaWat2
import Derived.Test.YtgikjalhiajmjaaPoolM
import Derived.Test.YtgikjalhiajmjaaITurn
import Derived.Test.YtgikjalhiajmjaaIRai
namespace Go.Proofs.Ytgikjalhiajmjaa
set_option linter.unusedVariables false
set_option linter.unusedSimpArgs false
open Go.RowKit

set_option maxHeartbeats 1500000 in
set_option maxRecDepth 100000 in
theorem drawWaterDrained_any (A : Option Addr) (m c : Nat) (z : Nat → Int) (w : World) (h : RowB w A m z) (hm : m ≤ 9223372036854775807) (hmc : m ≤ c) :
    Calls Try.prog 50 #[.slice A m c] w (RetD w) := by
  have HR := Lib.hid h
  clear h
  go_enter Try.func50, Try.ntmps50
  go_wp2_with fail
  refine (l6Open_any _ _ _ _ _ HR.out hm hmc).mono ?_
  rintro e w1 ⟨m', c', rfl, hrd, hs1, hb1⟩
  have HRd := Lib.hid hrd
  clear hrd
  go_wp2_with fail
  refine (l91Grid_any _ _ _ _ _ _ _ HRd.out (by omega)).mono ?_
  rintro e w2 ⟨v, n, L, g, p', rfl, hn1, hn2, hgo, hL, hrd, hp', hb2⟩
  have HR2 := Lib.hid hrd
  have HGo := Lib.hid hgo
  obtain ⟨Av, cv, rfl, _, hgrid⟩ := hgo.grid
  have HLL := Lib.hid hL
  have HGr := Lib.hid hgrid
  have hbb : Below w.heap.size w w2 := hb1.trans (hb2.below hb1.size (Nat.le_refl _))
  have hsz2 : w.heap.size + 1 ≤ w2.heap.size := by have := hb2.size; omega
  clear hgo hL hgrid hrd
  go_wp2_with fail
  by_cases hv : Valid n L g
  · have HV := Lib.hid hv
    clear hv
    refine (specWaterFill_own _ _ _ _ _ _ HGr.out HV.out).mono ?_
    rintro e w3 ⟨A3, c3, rfl, _, hg3, hb3⟩
    have HG3 := Lib.hid hg3
    have HR3 := Lib.hid (HR2.out.but hb3)
    have HF : ∀ w4, But w.heap.size w3 w4 → Hid (RetD w (.returned (.slice Av n cv)) w4) := fun w4 hb4 => by
      obtain ⟨A', c', e', _, h5⟩ := ((HGo.out.below hb3).of_but hb4 (by omega)).grid
      injection e' with e1 _ e2
      subst e1
      exact ⟨_, n, cv, L, g, rfl, hn1, hn2, HLL.out, h5, (hbb.trans (hb3.mono hbb.size)).trans (hb4.below (by have := hb3.size; omega) (Nat.le_refl _))⟩
    have HX : ∀ w4, But w.heap.size w3 w4 → Hid (RetD w (.returned (.slice A3 n c3)) w4) := fun w4 hb4 => by
      obtain ⟨A', c', e', _, h5⟩ := (HG3.out.of_but hb4 (by omega)).grid
      injection e' with e1 _ e2
      subst e1
      exact ⟨_, n, c3, fun _ => L 0, _, rfl, hn1, hn2, fun r _ => ⟨(HLL.out 0 (by omega)).1, (HLL.out 0 (by omega)).2.1, Nat.le_refl _⟩, h5, (hbb.trans (hb3.mono hbb.size)).trans (hb4.below (by have := hb3.size; omega) (Nat.le_refl _))⟩
    clear hg3
    go_wp2_with fail
    refine (pick_any _ _ _ _ _ _ _ _ HR3.out (by omega) (by omega) (by omega)).mono ?_
    rintro e w4 ⟨x4, rfl, hx40, hx41, hrd4, hb4⟩
    have H1 := HF w4 hb4
    have H2 := HX w4 hb4
    clear HF HX hrd4
    go_wp2_with fail
    · go_ret
      exact H2.out
    · go_ret
      exact H1.out
  · have HV := Lib.hid hv
    clear hv
    refine (specWaterFill_no _ _ _ _ _ _ HGr.out (by omega) (fun r hr => by have := HLL.out r hr; omega) HV.out).mono ?_
    rintro e w3 ⟨A3, c3, rfl, _, hg3, hb3⟩
    have HF : Hid (RetD w (.returned (.slice Av n cv)) w3) := ⟨_, n, cv, L, g, rfl, hn1, hn2, HLL.out, HGr.out.below hb3, hbb.trans (hb3.mono hbb.size)⟩
    clear hg3
    go_wp2_with fail
    go_ret
    exact HF.out

theorem drained_zero {n : Nat} {L : Nat → Nat} {g : Nat → Nat → Int} (h : drainedV n L g = true) : poolV n L g = 0 := by unfold drainedV at h; simpa using h
theorem drained_of {n n' : Nat} {L L' : Nat → Nat} {g g' : Nat → Nat → Int} (h : drainedV n L g = true) (e : poolV n' L' g' = poolV n L g) : drainedV n' L' g' = true := by
  unfold drainedV at h ⊢; rw [e]; exact h
theorem drained_valid {n : Nat} {L : Nat → Nat} {g : Nat → Nat → Int} (h : drainedV n L g = true) : Valid n L g := by
  by_cases hv : Valid n L g
  · exact hv
  · have := drained_zero h
    unfold poolV at this
    rw [if_neg hv] at this
    omega

set_option maxHeartbeats 1500000 in
set_option maxRecDepth 100000 in
theorem fnDrained_walk (A : Option Addr) (m cp : Nat) (z : Nat → Int) (w : World) (hz : RowB w A m z) (hm : m ≤ 9223372036854775807 ∧ m ≤ cp) :
    Calls Try.prog 13 #[.slice A m cp] w (RetV (.bool true) w) := by
  have HZ := Lib.hid hz
  obtain ⟨hm1, hm2⟩ := hm
  clear hz
  by_cases hbig : 1048576 < m
  · go_enter Try.func13, Try.ntmps13
    go_wp2_with fail
    go_ret
    exact ⟨rfl, Below.refl _ _⟩
  go_enter Try.func13, Try.ntmps13
  go_wp2_with fail
  refine (drawWaterDrained_any _ _ _ _ _ HZ.out hm1 hm2).mono ?_
  rintro e w1 ⟨A1, n, c1, L, g, rfl, hn1, hn2, hL, hgrid, hb1⟩
  have HG := Lib.hid hgrid
  have HL : Hid (∀ r, r < n → L r ≤ 1048576) := fun r hr => by have := hL r hr; omega
  have hB1 := hb1
  clear hgrid hL hb1
  by_cases hd : drainedV n L g = true
  · have hv := drained_valid hd
    have HV := Lib.hid hv
    have HD := Lib.hid hd
    have HP := Lib.hid (drained_zero hd)
    have HT := Lib.hid (drained_of hd (poolV_turn hv))
    have HVT := Lib.hid hv.turned
    have hvn := hv.2.1
    have hvl := hv.2.2.2.1
    clear hv hd
    go_wp2_with fail
    refine (implWaterDrained_any _ _ _ _ _ _ HG.out (by omega) HL.out).mono ?_
    rintro e w2 ⟨rfl, hb2⟩
    rw [HD.out]
    have hB2 : Below w.heap.size w w2 := hB1.trans (hb2.mono hB1.size)
    have Kg2 := Lib.hid (HG.out.below hb2)
    clear HG
    go_wp2_with fail
    refine (specWaterDrained_any _ _ _ _ _ _ Kg2.out (by omega) HL.out).mono ?_
    rintro e w3 ⟨rfl, hb3⟩
    rw [HD.out]
    have hB3 : Below w.heap.size w w3 := hB2.trans (hb3.mono hB2.size)
    have Kg3 := Lib.hid (Kg2.out.below hb3)
    clear Kg2
    go_wp2_with fail
    refine (implWaterFill_yes _ _ _ _ _ _ Kg3.out HV.out).mono ?_
    rintro e w4 ⟨A4, c4, rfl, _, hown4, hb4⟩
    have hB4 : Below w.heap.size w w4 := hB3.trans (hb4.mono hB3.size)
    have Kg4 := Lib.hid (Kg3.out.below hb4)
    clear Kg3
    have Kf4 := Lib.hid (hown4.grid.congrL (L' := L) (g' := g) (fun r hr => (HV.out.len r hr).symm) (fun r c hr hc => drained_fill HV.out HD.out hr hc))
    clear hown4
    by_cases hr : Rai n L g 1
    · have HR := Lib.hid hr
      have HVD := Lib.hid (Valid.raised hr)
      have HDD := Lib.hid (drained_of HD.out (poolV_raise hr))
      clear hr
      go_wp2_with fail
      refine (implGridRaise_yes _ _ _ _ _ _ _ Kg4.out HR.out).mono ?_
      rintro e w5 ⟨A5, c5, rfl, _, hown5, hb5⟩
      have hB5 : Below w.heap.size w w5 := hB4.trans (hb5.mono hB4.size)
      have Kg5 := Lib.hid (Kg4.out.below hb5)
      have Kf5 := Lib.hid (Kf4.out.below hb5)
      clear Kg4 Kf4
      have Kd5 := Lib.hid (hown5.grid)
      clear hown5
      go_wp2_with fail
      refine (implGridTurn_yes _ _ _ _ _ _ Kg5.out HV.out).mono ?_
      rintro e w6 ⟨A6, c6, rfl, _, hown6, hb6⟩
      have hB6 : Below w.heap.size w w6 := hB5.trans (hb6.mono hB5.size)
      have Kg6 := Lib.hid (Kg5.out.below hb6)
      have Kf6 := Lib.hid (Kf5.out.below hb6)
      have Kd6 := Lib.hid (Kd5.out.below hb6)
      clear Kg5 Kf5 Kd5
      have Kt6 := Lib.hid (hown6.grid)
      clear hown6
      go_wp2_with fail
      refine (sameGrid_yes _ _ _ _ _ _ _ _ Kf6.out Kg6.out (by omega) (fun r hr => by have := HL.out r hr; omega)).mono ?_
      rintro e w7 ⟨rfl, hb7⟩
      have hB7 : Below w.heap.size w w7 := hB6.trans (hb7.mono hB6.size)
      have Kg7 := Lib.hid (Kg6.out.below hb7)
      have Kf7 := Lib.hid (Kf6.out.below hb7)
      have Kd7 := Lib.hid (Kd6.out.below hb7)
      have Kt7 := Lib.hid (Kt6.out.below hb7)
      clear Kg6 Kf6 Kd6 Kt6
      go_wp2_with fail
      refine (implWaterPool_any _ _ _ _ _ _ Kg7.out (by omega) HL.out).mono ?_
      rintro e w8 ⟨rfl, hb8⟩
      rw [HP.out]
      have hB8 : Below w.heap.size w w8 := hB7.trans (hb8.mono hB7.size)
      have Kg8 := Lib.hid (Kg7.out.below hb8)
      have Kd8 := Lib.hid (Kd7.out.below hb8)
      have Kt8 := Lib.hid (Kt7.out.below hb8)
      clear Kg7 Kd7 Kt7
      go_wp2_with fail
      refine (implWaterDrained_any _ _ _ _ _ _ Kd8.out HVD.out.n_le HVD.out.L_le).mono ?_
      rintro e w9 ⟨rfl, hb9⟩
      rw [HDD.out]
      have hB9 : Below w.heap.size w w9 := hB8.trans (hb9.mono hB8.size)
      have Kg9 := Lib.hid (Kg8.out.below hb9)
      have Kd9 := Lib.hid (Kd8.out.below hb9)
      have Kt9 := Lib.hid (Kt8.out.below hb9)
      clear Kg8 Kd8 Kt8
      go_wp2_with fail
      refine (implWaterDrained_any _ _ _ _ _ _ Kt9.out HVT.out.n_le HVT.out.L_le).mono ?_
      rintro e w10 ⟨rfl, hb10⟩
      rw [HT.out]
      have hB10 : Below w.heap.size w w10 := hB9.trans (hb10.mono hB9.size)
      have Kg10 := Lib.hid (Kg9.out.below hb10)
      have Kt10 := Lib.hid (Kt9.out.below hb10)
      clear Kg9 Kt9
      go_wp2_with fail
      go_ret
      exact ⟨rfl, hB10⟩
    · have HR := Lib.hid hr
      clear hr
      go_wp2_with fail
      refine (implGridRaise_no _ _ _ _ _ _ _ Kg4.out (by omega) HL.out HR.out).mono ?_
      rintro e w5 ⟨A5, c5, rfl, _, hown5, hb5⟩
      clear hown5
      have hB5 : Below w.heap.size w w5 := hB4.trans (hb5.mono hB4.size)
      have Kg5 := Lib.hid (Kg4.out.below hb5)
      have Kf5 := Lib.hid (Kf4.out.below hb5)
      clear Kg4 Kf4
      go_wp2_with fail
      refine (implGridTurn_yes _ _ _ _ _ _ Kg5.out HV.out).mono ?_
      rintro e w6 ⟨A6, c6, rfl, _, hown6, hb6⟩
      have hB6 : Below w.heap.size w w6 := hB5.trans (hb6.mono hB5.size)
      have Kg6 := Lib.hid (Kg5.out.below hb6)
      have Kf6 := Lib.hid (Kf5.out.below hb6)
      clear Kg5 Kf5
      have Kt6 := Lib.hid (hown6.grid)
      clear hown6
      go_wp2_with fail
      refine (sameGrid_yes _ _ _ _ _ _ _ _ Kf6.out Kg6.out (by omega) (fun r hr => by have := HL.out r hr; omega)).mono ?_
      rintro e w7 ⟨rfl, hb7⟩
      have hB7 : Below w.heap.size w w7 := hB6.trans (hb7.mono hB6.size)
      have Kg7 := Lib.hid (Kg6.out.below hb7)
      have Kf7 := Lib.hid (Kf6.out.below hb7)
      have Kt7 := Lib.hid (Kt6.out.below hb7)
      clear Kg6 Kf6 Kt6
      go_wp2_with fail
      refine (implWaterPool_any _ _ _ _ _ _ Kg7.out (by omega) HL.out).mono ?_
      rintro e w8 ⟨rfl, hb8⟩
      rw [HP.out]
      have hB8 : Below w.heap.size w w8 := hB7.trans (hb8.mono hB7.size)
      have Kg8 := Lib.hid (Kg7.out.below hb8)
      have Kt8 := Lib.hid (Kt7.out.below hb8)
      clear Kg7 Kt7
      go_wp2_with fail
      refine (implWaterDrained_any _ _ _ _ _ _ Kt8.out HVT.out.n_le HVT.out.L_le).mono ?_
      rintro e w9 ⟨rfl, hb9⟩
      rw [HT.out]
      have hB9 : Below w.heap.size w w9 := hB8.trans (hb9.mono hB8.size)
      have Kg9 := Lib.hid (Kg8.out.below hb9)
      have Kt9 := Lib.hid (Kt8.out.below hb9)
      clear Kg8 Kt8
      go_wp2_with fail
      go_ret
      exact ⟨rfl, hB9⟩
  · have HD : Hid (drainedV n L g = false) := by show drainedV n L g = false; simpa using hd
    clear hd
    go_wp2_with fail
    refine (implWaterDrained_any _ _ _ _ _ _ HG.out (by omega) HL.out).mono ?_
    rintro e w2 ⟨rfl, hb2⟩
    rw [HD.out]
    have hB2 : Below w.heap.size w w2 := hB1.trans (hb2.mono hB1.size)
    have Kg2 := Lib.hid (HG.out.below hb2)
    clear HG
    go_wp2_with fail
    refine (specWaterDrained_any _ _ _ _ _ _ Kg2.out (by omega) HL.out).mono ?_
    rintro e w3 ⟨rfl, hb3⟩
    rw [HD.out]
    have hB3 : Below w.heap.size w w3 := hB2.trans (hb3.mono hB2.size)
    have Kg3 := Lib.hid (Kg2.out.below hb3)
    clear Kg2
    go_wp2_with fail
    go_ret
    exact ⟨rfl, hB3⟩

end Go.Proofs.Ytgikjalhiajmjaa
