/- The law FnGridBelow: its walk. -/
import Derived.Test.YthndabbjkkjkhaaTwo
import Derived.Test.YthndabbjkkjkhaaSBlw
import Derived.Test.YthndabbjkkjkhaaPar
namespace Go.Proofs.Ythndabbjkkjkhaa
set_option linter.unusedVariables false
set_option linter.unusedSimpArgs false
open Go.RowKit

theorem blw_north {n : Nat} {ga gb : Nat → Nat → Int} {r c : Nat} (hr : r < n) : partG 0 0 (belowG n ga gb) r c = ga r c := by
  unfold partG belowG; rw [Nat.zero_add, Nat.zero_add, if_pos hr]
theorem blw_south {n : Nat} {ga gb : Nat → Nat → Int} {r c : Nat} : partG n 0 (belowG n ga gb) r c = gb r c := by
  unfold partG belowG; rw [Nat.zero_add, if_neg (by omega), Nat.add_sub_cancel_left]
theorem blw_turn {n m : Nat} {ga gb : Nat → Nat → Int} {r c : Nat} (hc : c < n + m) : turnG (n + m) (belowG n ga gb) r c = besideG m (turnG m gb) (turnG n ga) r c := by
  unfold turnG belowG besideG
  by_cases h : c < m
  · rw [if_pos h, if_neg (by omega)]; congr 1; omega
  · rw [if_neg h, if_pos (by omega)]; congr 1; omega

set_option maxHeartbeats 1500000 in
set_option maxRecDepth 100000 in
theorem fnGridBelow_walk (A : Option Addr) (m cp : Nat) (z : Nat → Int) (w : World) (hz : RowB w A m z) (hm : m ≤ 9223372036854775807 ∧ m ≤ cp) :
    Calls Try.prog 8 #[.slice A m cp] w (RetV (.bool true) w) := by
  have HZ := Lib.hid hz
  obtain ⟨hm1, hm2⟩ := hm
  clear hz
  by_cases hbig : 1048576 < m
  · go_enter Try.func8, Try.ntmps8
    go_wp2_with fail
    go_ret
    exact ⟨rfl, Below.refl _ _⟩
  go_enter Try.func8, Try.ntmps8
  go_wp2_with fail
  refine (drawGridBelow_any _ _ _ _ _ HZ.out hm1 hm2).mono ?_
  rintro e w1 ⟨A1, na, ca, La, ga, A2, nb, cb, Lb, gb, rfl, hn1, hn2, hLa, hm1', hm2', hLb, hga, hgb, hb1⟩
  have HA := Lib.hid hga
  have HB := Lib.hid hgb
  have HLa : Hid (∀ r, r < na → La r ≤ 1048576) := fun r hr => by have := hLa r hr; omega
  have HLb : Hid (∀ r, r < nb → Lb r ≤ 1048576) := fun r hr => by have := hLb r hr; omega
  have hB1 := hb1
  clear hga hgb hLa hLb hb1
  by_cases hc : Blw na La ga nb Lb gb
  · skip
    have HC := Lib.hid hc
    have HVO := Lib.hid hc.valid
    obtain ⟨hva, hvb, he, h7⟩ := hc
    have HVa := Lib.hid hva
    have HVb := Lib.hid hvb
    have ha1 := hva.2.2.1
    have hb1 := hvb.2.2.1
    have ha2 := hva.2.2.2.1
    have hb2 := hvb.2.2.2.1
    have hvn := hva.2.1
    have hvm := hvb.2.1
    have HE := Lib.hid he
    have HCM : Hid (Bes (La 0) (fun _ => nb) (turnG nb gb) (La 0) (fun _ => na) (turnG na ga)) := ⟨by have h := hvb.trn; rw [← he] at h; exact h, hva.trn, rfl, by show nb + na ≤ 7; omega⟩
    clear hva hvb he
    go_wp2_with fail
    refine (implGridBelow_yes _ _ _ _ _ _ _ _ _ _ _ HA.out HB.out HC.out).mono ?_
    rintro e w2 ⟨A2, c2, rfl, _, hown2, hb2⟩
    have hB2 : Below w.heap.size w w2 := hB1.trans (hb2.mono hB1.size)
    have Ka2 := Lib.hid (HA.out.below hb2)
    have Kb2 := Lib.hid (HB.out.below hb2)
    clear HA HB
    have Ko2 := Lib.hid (hown2.grid)
    clear hown2
    go_wp2_with fail
    refine (specGridBelow_yes _ _ _ _ _ _ _ _ _ _ _ Ka2.out Kb2.out HC.out).mono ?_
    rintro e w3 ⟨A3, c3, rfl, _, hg3, hb3⟩
    have HW := Lib.hid hg3
    clear hg3
    have hB3 : Below w.heap.size w w3 := hB2.trans (hb3.mono hB2.size)
    have Ka3 := Lib.hid (Ka2.out.below hb3)
    have Kb3 := Lib.hid (Kb2.out.below hb3)
    have Ko3 := Lib.hid (Ko2.out.below hb3)
    clear Ka2 Kb2 Ko2
    go_wp2_with fail
    refine (sameGrid_yes _ _ _ _ _ _ _ _ Ko3.out HW.out (by omega) (fun r _ => by show La 0 ≤ _; omega)).mono ?_
    rintro e w4 ⟨rfl, hb4⟩
    have hB4 : Below w.heap.size w w4 := hB3.trans (hb4.mono hB3.size)
    have Ka4 := Lib.hid (Ka3.out.below hb4)
    have Kb4 := Lib.hid (Kb3.out.below hb4)
    have Ko4 := Lib.hid (Ko3.out.below hb4)
    have Kw4 := Lib.hid (HW.out.below hb4)
    clear Ka3 Kb3 Ko3 HW
    obtain ⟨Ba, oa, Ra, ka, rfl, hca, _, _⟩ := Ka4.out 0 (by omega)
    rw [Nat.add_zero] at hca
    go_wp2_with fail
    refine (implGridPart_to na (La 0) 0 0 _ _ _ _ _ _ _ _ _ _ Ko4.out HVO.out rfl rfl (by omega) (by omega) (by omega) (by omega) (by omega) (by show 0 + La 0 ≤ La 0; omega)).mono ?_
    rintro e w5 ⟨A5, c5, rfl, _, hown5, hb5⟩
    have hB5 : Below w.heap.size w w5 := hB4.trans (hb5.mono hB4.size)
    have Ka5 := Lib.hid (Ka4.out.below hb5)
    have Kb5 := Lib.hid (Kb4.out.below hb5)
    have Ko5 := Lib.hid (Ko4.out.below hb5)
    clear Ka4 Kb4 Ko4
    have Kx5 := Lib.hid (hown5.grid.congrL (L' := La) (g' := ga) (fun r hr => (HVa.out.len r hr).symm) (fun r c hr _ => blw_north hr))
    clear hown5
    clear hca
    obtain ⟨B9, o9, R9, k9, h9, hca, _, _⟩ := Ka5.out 0 (by omega)
    injection h9 with h9
    injection h9 with h9a h9b
    subst h9a h9b
    rw [Nat.add_zero] at hca
    go_wp2_with fail
    refine (implGridPart_to nb (La 0) na 0 _ _ _ _ _ _ _ _ _ _ Ko5.out HVO.out (by omega) rfl (by omega) (by omega) (by omega) (by omega) (by omega) (by show 0 + La 0 ≤ La 0; omega)).mono ?_
    rintro e w6 ⟨A6, c6, rfl, _, hown6, hb6⟩
    have hB6 : Below w.heap.size w w6 := hB5.trans (hb6.mono hB5.size)
    have Ka6 := Lib.hid (Ka5.out.below hb6)
    have Kb6 := Lib.hid (Kb5.out.below hb6)
    have Ko6 := Lib.hid (Ko5.out.below hb6)
    have Kx6 := Lib.hid (Kx5.out.below hb6)
    clear Ka5 Kb5 Ko5 Kx5
    have Ky6 := Lib.hid (hown6.grid.congrL (L' := Lb) (g' := gb) (fun r hr => (by rw [HVb.out.len r hr]; exact HE.out)) (fun r c _ hc => blw_south))
    clear hown6
    clear hca
    go_wp2_with fail
    refine (implGridTurn_yes _ _ _ _ _ _ Ka6.out HVa.out).mono ?_
    rintro e w7 ⟨A7, c7, rfl, _, hown7, hb7⟩
    have hB7 : Below w.heap.size w w7 := hB6.trans (hb7.mono hB6.size)
    have Ka7 := Lib.hid (Ka6.out.below hb7)
    have Kb7 := Lib.hid (Kb6.out.below hb7)
    have Ko7 := Lib.hid (Ko6.out.below hb7)
    have Kx7 := Lib.hid (Kx6.out.below hb7)
    have Ky7 := Lib.hid (Ky6.out.below hb7)
    clear Ka6 Kb6 Ko6 Kx6 Ky6
    have Kp7 := Lib.hid (hown7.grid)
    clear hown7
    go_wp2_with fail
    refine (implGridTurn_yes _ _ _ _ _ _ Kb7.out HVb.out).mono ?_
    rintro e w8 ⟨A8, c8, rfl, _, hown8, hb8⟩
    rw [← HE.out]
    have hB8 : Below w.heap.size w w8 := hB7.trans (hb8.mono hB7.size)
    have Ka8 := Lib.hid (Ka7.out.below hb8)
    have Kb8 := Lib.hid (Kb7.out.below hb8)
    have Ko8 := Lib.hid (Ko7.out.below hb8)
    have Kx8 := Lib.hid (Kx7.out.below hb8)
    have Ky8 := Lib.hid (Ky7.out.below hb8)
    have Kp8 := Lib.hid (Kp7.out.below hb8)
    clear Ka7 Kb7 Ko7 Kx7 Ky7 Kp7
    have Kq8 := Lib.hid ((by have h := hown8.grid; rw [← HE.out] at h; exact h : GridF w8 A8 (La 0) (fun _ => nb) (turnG nb gb)))
    clear hown8
    go_wp2_with fail
    refine (implGridTurn_yes _ _ _ _ _ _ Ko8.out HVO.out).mono ?_
    rintro e w9 ⟨A9, c9, rfl, _, hown9, hb9⟩
    have hB9 : Below w.heap.size w w9 := hB8.trans (hb9.mono hB8.size)
    have Ka9 := Lib.hid (Ka8.out.below hb9)
    have Kb9 := Lib.hid (Kb8.out.below hb9)
    have Ko9 := Lib.hid (Ko8.out.below hb9)
    have Kx9 := Lib.hid (Kx8.out.below hb9)
    have Ky9 := Lib.hid (Ky8.out.below hb9)
    have Kp9 := Lib.hid (Kp8.out.below hb9)
    have Kq9 := Lib.hid (Kq8.out.below hb9)
    clear Ka8 Kb8 Ko8 Kx8 Ky8 Kp8 Kq8
    have Km9 := Lib.hid (hown9.grid.congrL (L' := fun _ => nb + na) (g' := besideG nb (turnG nb gb) (turnG na ga)) (fun r hr => by show na + nb = nb + na; omega) (fun r c _ hc => blw_turn hc))
    clear hown9
    go_wp2_with fail
    refine (implGridBeside_yes _ _ _ _ _ _ _ _ _ _ _ Kq9.out Kp9.out HCM.out).mono ?_
    rintro e w10 ⟨A10, c10, rfl, _, hown10, hb10⟩
    have hB10 : Below w.heap.size w w10 := hB9.trans (hb10.mono hB9.size)
    have Ka10 := Lib.hid (Ka9.out.below hb10)
    have Kb10 := Lib.hid (Kb9.out.below hb10)
    have Kx10 := Lib.hid (Kx9.out.below hb10)
    have Ky10 := Lib.hid (Ky9.out.below hb10)
    have Kp10 := Lib.hid (Kp9.out.below hb10)
    have Kq10 := Lib.hid (Kq9.out.below hb10)
    have Km10 := Lib.hid (Km9.out.below hb10)
    clear Ka9 Kb9 Kx9 Ky9 Kp9 Kq9 Km9
    have Kz10 := Lib.hid (hown10.grid)
    clear hown10
    go_wp2_with fail
    refine (sameGrid_yes _ _ _ _ _ _ _ _ Kx10.out Ka10.out (by omega) (fun r hr => by have := HLa.out r hr; omega)).mono ?_
    rintro e w11 ⟨rfl, hb11⟩
    have hB11 : Below w.heap.size w w11 := hB10.trans (hb11.mono hB10.size)
    have Ka11 := Lib.hid (Ka10.out.below hb11)
    have Kb11 := Lib.hid (Kb10.out.below hb11)
    have Kx11 := Lib.hid (Kx10.out.below hb11)
    have Ky11 := Lib.hid (Ky10.out.below hb11)
    have Km11 := Lib.hid (Km10.out.below hb11)
    have Kz11 := Lib.hid (Kz10.out.below hb11)
    clear Ka10 Kb10 Kx10 Ky10 Km10 Kz10
    go_wp2_with fail
    refine (sameGrid_yes _ _ _ _ _ _ _ _ Ky11.out Kb11.out (by omega) (fun r hr => by have := HLb.out r hr; omega)).mono ?_
    rintro e w12 ⟨rfl, hb12⟩
    have hB12 : Below w.heap.size w w12 := hB11.trans (hb12.mono hB11.size)
    have Kb12 := Lib.hid (Kb11.out.below hb12)
    have Ky12 := Lib.hid (Ky11.out.below hb12)
    have Km12 := Lib.hid (Km11.out.below hb12)
    have Kz12 := Lib.hid (Kz11.out.below hb12)
    clear Kb11 Ky11 Km11 Kz11
    go_wp2_with fail
    refine (sameGrid_yes _ _ _ _ _ _ _ _ Kz12.out Km12.out (by omega) (fun r hr => by show nb + na ≤ _; omega)).mono ?_
    rintro e w13 ⟨rfl, hb13⟩
    have hB13 : Below w.heap.size w w13 := hB12.trans (hb13.mono hB12.size)
    have Km13 := Lib.hid (Km12.out.below hb13)
    have Kz13 := Lib.hid (Kz12.out.below hb13)
    clear Km12 Kz12
    go_wp2_with fail
    go_ret
    exact ⟨rfl, hB13⟩
  · have HC := Lib.hid hc
    clear hc
    go_wp2_with fail
    refine (implGridBelow_no _ _ _ _ _ _ _ _ _ _ _ HA.out HB.out (by omega) (by omega) HLa.out HLb.out HC.out).mono ?_
    rintro e w2 ⟨A2, c2, rfl, _, hown2, hb2⟩
    have hB2 : Below w.heap.size w w2 := hB1.trans (hb2.mono hB1.size)
    have Ka2 := Lib.hid (HA.out.below hb2)
    have Kb2 := Lib.hid (HB.out.below hb2)
    clear HA HB
    have Ko2 := Lib.hid (hown2.grid)
    clear hown2
    go_wp2_with fail
    refine (specGridBelow_no _ _ _ _ _ _ _ _ _ _ _ Ka2.out Kb2.out (by omega) (by omega) HLa.out HLb.out HC.out).mono ?_
    rintro e w3 ⟨A3, c3, rfl, _, hg3, hb3⟩
    have HW := Lib.hid hg3
    clear hg3
    have hB3 : Below w.heap.size w w3 := hB2.trans (hb3.mono hB2.size)
    have Ka3 := Lib.hid (Ka2.out.below hb3)
    have Kb3 := Lib.hid (Kb2.out.below hb3)
    have Ko3 := Lib.hid (Ko2.out.below hb3)
    clear Ka2 Kb2 Ko2
    go_wp2_with fail
    refine (sameGrid_yes _ _ _ _ _ _ _ _ Ko3.out HW.out (by omega) (fun r hr => by omega)).mono ?_
    rintro e w4 ⟨rfl, hb4⟩
    have hB4 : Below w.heap.size w w4 := hB3.trans (hb4.mono hB3.size)
    have Ka4 := Lib.hid (Ka3.out.below hb4)
    have Kb4 := Lib.hid (Kb3.out.below hb4)
    have Ko4 := Lib.hid (Ko3.out.below hb4)
    have Kw4 := Lib.hid (HW.out.below hb4)
    clear Ka3 Kb3 Ko3 HW
    go_wp2_with fail
    refine (sameGrid_yes _ _ _ _ _ _ _ _ Ko4.out Kw4.out (by omega) (fun r hr => by omega)).mono ?_
    rintro e w5 ⟨rfl, hb5⟩
    have hB5 : Below w.heap.size w w5 := hB4.trans (hb5.mono hB4.size)
    have Ka5 := Lib.hid (Ka4.out.below hb5)
    have Kb5 := Lib.hid (Kb4.out.below hb5)
    have Ko5 := Lib.hid (Ko4.out.below hb5)
    have Kw5 := Lib.hid (Kw4.out.below hb5)
    clear Ka4 Kb4 Ko4 Kw4
    go_wp2_with fail
    go_ret
    exact ⟨rfl, hB5⟩

end Go.Proofs.Ythndabbjkkjkhaa
