/- The law FnPass: its walk. -/
import Derived.Test.YtgekjhmjjjkibaaIBtw
import Derived.Test.YtgekjhmjjjkibaaPair
import Derived.Test.YtgekjhmjjjkibaaLawH
namespace Go.Proofs.Ytgekjhmjjjkibaa
set_option linter.unusedVariables false
set_option linter.unusedSimpArgs false
open Go.RowKit

theorem top_ex {P : Nat → Prop} (h0 : P 0) : ∀ K : Nat, ∃ k, k ≤ K ∧ P k ∧ ∀ j, j ≤ K → P j → j ≤ k
  | 0 => ⟨0, Nat.le_refl _, h0, fun _ hj _ => hj⟩
  | K + 1 => by
    by_cases h : P (K + 1)
    · exact ⟨K + 1, Nat.le_refl _, h, fun _ hj _ => hj⟩
    · obtain ⟨k, hk, hp, hm⟩ := top_ex h0 K
      refine ⟨k, by omega, hp, fun j hj hpj => ?_⟩
      by_cases e : j = K + 1
      · rw [e] at hpj; exact absurd hpj h
      · exact hm j (by omega) hpj
theorem passV_ok {R C : Nat} {h : Nat → Int} {a : Nat} (hh : ∀ i, i < R * C → 0 ≤ h i) (ha : a < R * C) : PassF R C h a (passV R C h a) := by
  have hex : ∀ i, i < R * C → ∃ v : Int, ∀ t, t ≤ v ↔ LnkT R C h t i a := fun i hi => by
    have hl : ∀ t : Int, t ≤ 0 → LnkT R C h t i a := fun t ht => grid_link (fun j hj => by have := hh j hj; show t ≤ h j; omega) hi ha
    obtain ⟨k, hk, hp, hm⟩ := top_ex (P := fun k => LnkT R C h (k : Nat) i a) (hl _ (by omega)) (h i).toNat
    refine ⟨k, fun t => ⟨fun ht => LnkT.mono hp ht, fun ht => ?_⟩⟩
    by_cases h0 : t ≤ 0
    · omega
    · have hfit : t ≤ h i := Lnk.fit ht
      have := hm t.toNat (by omega) (by rw [Int.toNat_of_nonneg (by omega)]; exact ht)
      omega
  exact PassF.passV (f := fun i => if hi : i < R * C then Classical.choose (hex i hi) else 0) fun i hi t => by
    simp only [dif_pos hi]; exact Classical.choose_spec (hex i hi) t

theorem pass_law {n : Nat} {L : Nat → Nat} {g : Nat → Nat → Int} (hv : Valid n L g) {a b c : Nat} (ha : a < n * L 0) (hb : b < n * L 0) (hc : c < n * L 0) :
    0 ≤ passBetweenV n L g a b ∧ passBetweenV n L g b a = passBetweenV n L g a b ∧ passBetweenV n L g a b ≤ flat (L 0) g a ∧ passBetweenV n L g a b ≤ flat (L 0) g b ∧ (passBetweenV n L g a c ≤ passBetweenV n L g a b ∨ passBetweenV n L g c b ≤ passBetweenV n L g a b) ∧ (a = b → passBetweenV n L g a b = flat (L 0) g a) := by
  have hh : ∀ i, i < n * L 0 → 0 ≤ flat (L 0) g i := fun i hi => by
    obtain ⟨_, h1, h2, _⟩ := rc_in hi
    exact (hv.rng h1 h2).1
  have hx : ∀ x, x < n * L 0 → HasIdx n L g (x : Nat) := fun x hx => ⟨hv, by omega, by omega⟩
  have e : ∀ x y, x < n * L 0 → y < n * L 0 → passBetweenV n L g x y = passV n (L 0) (flat (L 0) g) x y := fun x y h1 h2 => by
    unfold passBetweenV
    rw [if_pos ⟨hx x h1, hx y h2⟩, Int.toNat_natCast, Int.toNat_natCast]
  have pa := passV_ok hh ha
  have pb := passV_ok hh hb
  have pc := passV_ok hh hc
  rw [e a b ha hb, e b a hb ha, e a c ha hc, e c b hc hb]
  have h1 := pass_le pa hb
  have h2 := pass_three pa pc ha hb hc
  refine ⟨(pa b hb 0).2 (grid_link (fun j hj => hh j hj) hb ha), pass_symm pb pa hb ha, h1.2, h1.1, by omega, fun e => ?_⟩
  subst e
  exact pass_self pa ha

theorem heightOf_h (A : Option Addr) (n c i : Nat) (L : Nat → Nat) (g : Nat → Nat → Int) (h : Nat → Int) (w : World) (hg : GridF w A n L g) (hv : Valid n L g) (hh : Hid (h = flat (L 0) g)) (hi : i < n * L 0) :
    Calls Try.prog 39 #[.slice A n c, .int .i64 i] w (RetV (.int .i64 (h i)) w) := by
  rw [hh.out]
  exact heightOf_any A n c i L g w hg hv hi
set_option maxHeartbeats 4000000 in
set_option maxRecDepth 100000 in
theorem fnPass_walk (A : Option Addr) (m cp : Nat) (z : Nat → Int) (A2 : Option Addr) (m2 cp2 : Nat) (z2 : Nat → Int) (w : World) (hz : RowB w A m z) (hm : m ≤ 9223372036854775807 ∧ m ≤ cp) (_hz2 : RowB w A2 m2 z2) (hm2 : m2 ≤ 9223372036854775807 ∧ m2 ≤ cp2) :
    Calls Try.prog 13 #[.slice A m cp, .slice A2 m2 cp2] w (RetV (.bool true) w) := by
  have HZ := Lib.hid hz
  obtain ⟨hm1, hmc⟩ := hm
  have hm3 := hm2.1
  clear hz _hz2 hm2
  by_cases hbig : 1048576 < m
  · go_enter Try.func13, Try.ntmps13
    go_wp2_with fail
    go_ret
    exact ⟨rfl, Below.refl _ _⟩
  by_cases hbig2 : 1048576 < m2
  · go_enter Try.func13, Try.ntmps13
    go_wp2_with fail
    go_ret
    exact ⟨rfl, Below.refl _ _⟩
  have g1 : decide ((1048576 : Int) < (m : Int)) = false := decide_eq_false (by omega)
  have g2 : decide ((1048576 : Int) < (m2 : Int)) = false := decide_eq_false (by omega)
  go_enter Try.func13, Try.ntmps13
  go_wp2_with fail
  clear g1 g2
  refine (drawPassBetween_any _ _ _ _ _ HZ.out hm1 hmc).mono ?_
  rintro e w1 ⟨A1, n, c1, L, g, a, b, rfl, ha1, ha2, hb1, hb2, hn1, hn2, hL, hgrid, hbl1⟩
  have HG := Lib.hid hgrid
  have HL : Hid (∀ r, r < n → L r ≤ 1048576) := fun r hr => by have := hL r hr; omega
  clear hgrid hL
  by_cases hx : HasIdx n L g a ∧ HasIdx n L g b
  · obtain ⟨⟨hv, ha3, ha4⟩, _, hb3, hb4⟩ := hx
    have HV := Lib.hid hv
    have hvn := hv.2.1
    have hvl1 := hv.2.2.1
    have hvl := hv.2.2.2.1
    obtain ⟨a, rfl⟩ := Int.eq_ofNat_of_zero_le ha3
    obtain ⟨b, rfl⟩ := Int.eq_ofNat_of_zero_le hb3
    obtain ⟨N, hN⟩ : ∃ N, N = n * L 0 := ⟨_, rfl⟩
    have hN1 : N ≤ 49 := by rw [hN]; exact Nat.le_trans (Nat.mul_le_mul hvn hvl) (by decide)
    have hN0 : 0 < N := by rw [hN]; exact Nat.mul_pos (by omega) (by omega)
    obtain ⟨c, hc⟩ : ∃ c, c = m2 % N := ⟨_, rfl⟩
    have hcN : c < N := by rw [hc]; exact Nat.mod_lt _ hN0
    have HLw := Lib.hid (pass_law hv (a := a) (b := b) (c := c) (by omega) (by omega) (by omega))
    have HIa : Hid (a < n * L 0) := by show a < n * L 0; omega
    have HIb : Hid (b < n * L 0) := by show b < n * L 0; omega
    have ec1 : Int.tmod (m2 : Int) (N : Int) = (c : Int) := by rw [hc]; exact (Int.ofNat_tmod _ _).symm
    have ec2 : (m2 : Int) % (N : Int) = (c : Int) := by rw [hc, Int.natCast_emod]
    have ec3 : ((N : Int) == 0) = false := by simp; omega
    obtain ⟨h, hh⟩ : ∃ h, h = flat (L 0) g := ⟨_, rfl⟩
    have HH := Lib.hid hh
    rw [← hh] at HLw
    have HN := Lib.hid hN
    obtain ⟨o, ho⟩ : ∃ o, o = passBetweenV n L g a b := ⟨_, rfl⟩
    obtain ⟨x, hx⟩ : ∃ x, x = passBetweenV n L g a c := ⟨_, rfl⟩
    obtain ⟨y, hy⟩ : ∃ y, y = passBetweenV n L g c b := ⟨_, rfl⟩
    have HO := Lib.hid ho
    have HX := Lib.hid hx
    have HY := Lib.hid hy
    rw [← ho, ← hx, ← hy] at HLw
    have ho0 := HLw.out.1
    have HS := Lib.hid HLw.out.2.1
    have q1 := HLw.out.2.2.1
    have q2 := HLw.out.2.2.2.1
    have HQ := Lib.hid HLw.out.2.2.2.2.1
    have HE := Lib.hid HLw.out.2.2.2.2.2
    clear hv hN hc hh ho hx hy HLw ha3 hb3
    go_wp2_with fail
    refine (implPassBetween_any _ _ _ _ _ _ _ _ HG.out (by omega) HL.out (by omega) (by omega) (by omega) (by omega)).mono ?_
    rintro e w2 ⟨rfl, hb2⟩
    rw [← HO.out]
    have HG2 := Lib.hid (HG.out.below hb2)
    have hB2 := hbl1.trans (hb2.mono hbl1.size)
    go_wp2_with fail
    refine (specPassBetween_any _ _ _ _ _ _ _ _ HG2.out (by omega) HL.out (by omega) (by omega) (by omega) (by omega)).mono ?_
    rintro e w3 ⟨rfl, hb3⟩
    rw [← HO.out]
    have HG3 := Lib.hid (HG2.out.below hb3)
    have hB3 := hB2.trans (hb3.mono hB2.size)
    have d1 : (o != o) = false := by simp
    have d2 : decide (o < 0) = false := decide_eq_false (by omega)
    go_wp2_with fail
    clear d1 d2
    refine (cellsOf_any _ _ _ _ _ _ HG3.out (by omega) (by omega) (by omega)).mono ?_
    rintro e w' ⟨rfl, rfl⟩
    rw [← HN.out]
    go_wp2_with fail
    clear ec1 ec2 ec3
    refine (implPassBetween_any _ _ _ _ _ _ _ _ HG3.out (by omega) HL.out (by omega) (by omega) (by omega) (by omega)).mono ?_
    rintro e w5 ⟨rfl, hb5⟩
    rw [← HX.out]
    have HG5 := Lib.hid (HG3.out.below hb5)
    have hB5 := hB3.trans (hb5.mono hB3.size)
    go_wp2_with fail
    refine (implPassBetween_any _ _ _ _ _ _ _ _ HG5.out (by omega) HL.out (by omega) (by omega) (by omega) (by omega)).mono ?_
    rintro e w6 ⟨rfl, hb6⟩
    rw [← HY.out]
    have HG6 := Lib.hid (HG5.out.below hb6)
    have hB6 := hB5.trans (hb6.mono hB5.size)
    go_wp2_with fail
    refine (implPassBetween_any _ _ _ _ _ _ _ _ HG6.out (by omega) HL.out (by omega) (by omega) (by omega) (by omega)).mono ?_
    rintro e w7 ⟨rfl, hb7⟩
    rw [HS.out]
    have HG7 := Lib.hid (HG6.out.below hb7)
    have hB7 := hB6.trans (hb7.mono hB6.size)
    have d1 : (o == o) = true := by simp
    go_wp2_with fail
    refine (heightOf_h _ _ _ _ _ _ h _ HG7.out HV.out HH HIa.out).mono ?_
    rintro e w8 ⟨rfl, hb8⟩
    have HG8 := Lib.hid (HG7.out.below hb8)
    have hB8 := hB7.trans (hb8.mono hB7.size)
    go_wp2_with fail
    refine (heightOf_h _ _ _ _ _ _ h _ HG8.out HV.out HH HIb.out).mono ?_
    rintro e w9 ⟨rfl, hb9⟩
    have HG9 := Lib.hid (HG8.out.below hb9)
    have hB9 := hB8.trans (hb9.mono hB8.size)
    by_cases hab : a = b
    · subst hab
      have HE1 := Lib.hid (HE.out rfl)
      have d4 : ((a : Int) != (a : Int)) = false := by simp
      have d5 : (o == h a) = true := beq_iff_eq.2 HE1.out
      have d6 : decide (o ≤ h a) = true := decide_eq_true q1
      clear HE HE1
      rcases HQ.out with hxo | hyo
      · by_cases hxy : y < x
        · have hyo : y ≤ o := by omega
          go_wp2_with fail
          all_goals (refine (heightOf_h _ _ _ _ _ _ h _ HG9.out HV.out HH HIa.out).mono ?_)
          all_goals (rintro e w10 ⟨rfl, hb10⟩)
          all_goals (go_wp2_with fail)
          all_goals go_ret
          all_goals exact ⟨rfl, hB9.trans (hb10.mono hB9.size)⟩
        · go_wp2_with fail
          all_goals (refine (heightOf_h _ _ _ _ _ _ h _ HG9.out HV.out HH HIa.out).mono ?_)
          all_goals (rintro e w10 ⟨rfl, hb10⟩)
          all_goals (go_wp2_with fail)
          all_goals go_ret
          all_goals exact ⟨rfl, hB9.trans (hb10.mono hB9.size)⟩
      · by_cases hxy : x < y
        · have hxo : x ≤ o := by omega
          go_wp2_with fail
          all_goals (refine (heightOf_h _ _ _ _ _ _ h _ HG9.out HV.out HH HIa.out).mono ?_)
          all_goals (rintro e w10 ⟨rfl, hb10⟩)
          all_goals (go_wp2_with fail)
          all_goals go_ret
          all_goals exact ⟨rfl, hB9.trans (hb10.mono hB9.size)⟩
        · go_wp2_with fail
          all_goals (refine (heightOf_h _ _ _ _ _ _ h _ HG9.out HV.out HH HIa.out).mono ?_)
          all_goals (rintro e w10 ⟨rfl, hb10⟩)
          all_goals (go_wp2_with fail)
          all_goals go_ret
          all_goals exact ⟨rfl, hB9.trans (hb10.mono hB9.size)⟩
    · have d4 : ((a : Int) != (b : Int)) = true := by rw [bne_iff_ne]; omega
      clear HE hab
      generalize h a = ha at *
      generalize h b = hb at *
      have HM : Hid (∀ t, (t = x ∧ x ≤ y) ∨ (t = y ∧ y ≤ x) → t ≤ o) := fun t ht => by have := HQ.out; omega
      rcases HQ.out with hxo | hyo
      · by_cases hxy : y < x
        · have hyo : y ≤ o := by omega
          go_wp2_with fail
          all_goals go_ret
          all_goals exact ⟨ret_bool (by first | rfl | (simp; omega)), hB9⟩
        · go_wp2_with fail
          all_goals go_ret
          all_goals exact ⟨ret_bool (by first | rfl | (simp; omega)), hB9⟩
      · by_cases hxy : x < y
        · have hxo : x ≤ o := by omega
          go_wp2_with fail
          all_goals go_ret
          all_goals exact ⟨ret_bool (by first | rfl | (simp; omega)), hB9⟩
        · go_wp2_with fail
          all_goals go_ret
          all_goals exact ⟨ret_bool (by first | rfl | (simp; omega)), hB9⟩
  · have HO1 : Hid (passBetweenV n L g a b = -1) := if_neg hx
    clear hx
    go_wp2_with fail
    refine (implPassBetween_any _ _ _ _ _ _ _ _ HG.out (by omega) HL.out (by omega) (by omega) (by omega) (by omega)).mono ?_
    rintro e w2 ⟨rfl, hb2⟩
    rw [HO1.out]
    have HG2 := Lib.hid (HG.out.below hb2)
    have hB2 := hbl1.trans (hb2.mono hbl1.size)
    go_wp2_with fail
    refine (specPassBetween_any _ _ _ _ _ _ _ _ HG2.out (by omega) HL.out (by omega) (by omega) (by omega) (by omega)).mono ?_
    rintro e w3 ⟨rfl, hb3⟩
    rw [HO1.out]
    go_wp2_with fail
    go_ret
    exact ⟨rfl, hB2.trans (hb3.mono hB2.size)⟩

end Go.Proofs.Ytgekjhmjjjkibaa
