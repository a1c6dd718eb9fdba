/- The law FnFill: its walk. -/
import Derived.Test.YthndabbjkkjkhaaLawH
import Derived.Test.YthndabbjkkjkhaaGSet
import Derived.Test.YthndabbjkkjkhaaSLv2
import Derived.Test.YthndabbjkkjkhaaPoolM
import Derived.Test.YthndabbjkkjkhaaVSnk
import Derived.Test.YthndabbjkkjkhaaDrs
namespace Go.Proofs.Ythndabbjkkjkhaa
set_option linter.unusedVariables false
set_option linter.unusedSimpArgs false
open Go.RowKit

theorem drained_filled {n : Nat} {L : Nat → Nat} {g : Nat → Nat → Int} (h : Valid n L g) : drainedV n (fun _ => L 0) (fillG n (L 0) g) = true := by
  unfold drainedV
  rw [poolV_fill h]; rfl
theorem flat_set {C R Q k : Nat} (g : Nat → Nat → Int) (x : Int) (hQ : Q < C) : flat C (gset g R Q x) k = if k = R * C + Q then x else flat C g k := by
  by_cases h : k = R * C + Q
  · rw [if_pos h, h, flat_at _ hQ]
    unfold gset
    rw [if_pos ⟨rfl, rfl⟩]
  · rw [if_neg h]
    unfold flat gset
    rw [if_neg]
    rintro ⟨h1, h2⟩
    apply h
    rw [← h1, ← h2, Nat.mul_comm]
    exact (Nat.div_add_mod k C).symm
/-- From a filled cell that is lowered by one no water leaves. -/
theorem fill_lowered {n : Nat} {L : Nat → Nat} {g : Nat → Nat → Int} (hv : Valid n L g) {R Q : Nat} (hR : R < n) (hQ : Q < L 0) (hlt : flat (L 0) g (R * L 0 + Q) < fillV n (L 0) (flat (L 0) g) (R * L 0 + Q)) :
    Valid n (fun _ => L 0) (gset (fillG n (L 0) g) R Q (fillV n (L 0) (flat (L 0) g) (R * L 0 + Q) - 1)) ∧ leavesV n (fun _ => L 0) (gset (fillG n (L 0) g) R Q (fillV n (L 0) (flat (L 0) g) (R * L 0 + Q) - 1)) R Q = false := by
  have hi : R * L 0 + Q < n * L 0 := rc_lt hR hQ
  have h0 := flat_rng hv _ hi
  have h1 := fill_rng hv hi
  have hV : Valid n (fun _ => L 0) (gset (fillG n (L 0) g) R Q (fillV n (L 0) (flat (L 0) g) (R * L 0 + Q) - 1)) :=
    ⟨hv.1, hv.2.1, hv.2.2.1, hv.2.2.2.1, fun r hr => ⟨rfl, fun c hc => by
      unfold gset
      split
      · omega
      · exact hv.filled.rng hr hc⟩⟩
  refine ⟨hV, ?_⟩
  unfold leavesV
  rw [if_pos ⟨hV, by omega, by omega, by omega, by show (Q : Int) < (L 0 : Nat); omega⟩, Int.toNat_natCast, Int.toNat_natCast]
  have hx : ∀ j, j < n * L 0 → flat (L 0) (gset (fillG n (L 0) g) R Q (fillV n (L 0) (flat (L 0) g) (R * L 0 + Q) - 1)) j = if j = R * L 0 + Q then fillV n (L 0) (flat (L 0) g) (R * L 0 + Q) - 1 else fillV n (L 0) (flat (L 0) g) j := fun j hj => by
    rw [flat_set _ _ hQ, flat_fill g hj]
  cases e : lvB n (L 0) (flat (L 0) (gset (fillG n (L 0) g) R Q (fillV n (L 0) (flat (L 0) g) (R * L 0 + Q) - 1))) (R * L 0 + Q)
  · rfl
  · exfalso
    rw [lvB_iff (flat_rng hV) hi] at e
    exact fill_least (fillV_is (flat_rng hv)) hi hlt (fun j hj hne => by rw [hx j hj, if_neg hne]) (by rw [hx _ hi, if_pos rfl]) e

/-- A new grid beside a true, and the grid alone. -/
def TupG (n : Nat) (L : Nat → Nat) (g : Nat → Nat → Int) (v : Value) (w : World) : Prop := ∃ A c, v = .tuple #[.slice A n c, .bool true] ∧ GridF w A n L g
def SliG (n : Nat) (L : Nat → Nat) (g : Nat → Nat → Int) (v : Value) (w : World) : Prop := ∃ A c, v = .slice A n c ∧ GridF w A n L g
theorem TupG.mono {n : Nat} {L : Nat → Nat} {g : Nat → Nat → Int} {v : Value} {w w' : World} (h : TupG n L g v w) (hb : Below w.heap.size w w') : TupG n L g v w' := by
  obtain ⟨A, c, h1, h2⟩ := h
  exact ⟨A, c, h1, h2.below hb⟩
theorem SliG.mono {n : Nat} {L : Nat → Nat} {g : Nat → Nat → Int} {v : Value} {w w' : World} (h : SliG n L g v w) (hb : Below w.heap.size w w') : SliG n L g v w' := by
  obtain ⟨A, c, h1, h2⟩ := h
  exact ⟨A, c, h1, h2.below hb⟩

set_option maxHeartbeats 1500000 in
set_option maxRecDepth 100000 in
theorem fnFill_walk (A : Option Addr) (m cp : Nat) (z : Nat → Int) (w : World) (hz : RowB w A m z) (hm : m ≤ 9223372036854775807 ∧ m ≤ cp) :
    Calls Try.prog 13 #[.slice A m cp] w (RetV (.bool true) w) := by
  have HZ := Lib.hid hz
  obtain ⟨hm1, hm2⟩ := hm
  clear hz
  by_cases hbig : 1048576 < m
  · go_enter Try.func13, Try.ntmps13
    go_wp2_with fail
    go_ret
    exact ⟨rfl, Below.refl _ _⟩
  go_enter Try.func13, Try.ntmps13
  go_wp2_with fail
  refine (drawWaterFill_any _ _ _ _ _ HZ.out hm1 hm2).mono ?_
  rintro e w1 ⟨A1, n, c1, L, g, rfl, hn1, hn2, hL, hgrid, hb1⟩
  have HG := Lib.hid hgrid
  have HL : Hid (∀ r, r < n → L r ≤ 1048576) := fun r hr => by have := hL r hr; omega
  have hB1 := hb1
  clear hgrid hL hb1
  by_cases hv : Valid n L g
  · have HV := Lib.hid hv
    have hvn := hv.2.1
    have hvl := hv.2.2.2.1
    have hvl1 := hv.2.2.1
    have HRg := Lib.hid (rngV_yes hv)
    have HVF := Lib.hid hv.filled
    have HDr := Lib.hid (drained_filled hv)
    obtain ⟨N, hN⟩ : ∃ N, N = n * L 0 := ⟨_, rfl⟩
    have hN1 : N ≤ 49 := by rw [hN]; exact Nat.le_trans (Nat.mul_le_mul hvn hvl) (by decide)
    have HN := Lib.hid hN
    obtain ⟨h, hh⟩ : ∃ h, h = flat (L 0) g := ⟨_, rfl⟩
    have HH := Lib.hid hh
    obtain ⟨F, hF⟩ : ∃ F, F = fillV n (L 0) h := ⟨_, rfl⟩
    have HLow : Hid (∀ R Q, R < n → Q < L 0 → h (R * L 0 + Q) < F (R * L 0 + Q) → Valid n (fun _ => L 0) (gset (fillG n (L 0) g) R Q (F (R * L 0 + Q) - 1)) ∧ leavesV n (fun _ => L 0) (gset (fillG n (L 0) g) R Q (F (R * L 0 + Q) - 1)) R Q = false) := fun R Q hR hQ hlt => by
      rw [hF, hh] at hlt ⊢
      exact fill_lowered hv hR hQ hlt
    have HFl : Hid (∀ k, k < N → flat (L 0) (fillG n (L 0) g) k = F k) := fun k hk => by rw [flat_fill g (by rw [← hN]; exact hk), hF, hh]
    have HFr : Hid (∀ k, k < N → 0 ≤ h k ∧ h k ≤ 99 ∧ h k ≤ F k ∧ F k ≤ 99 ∧ F k ≤ maxTo h N ∧ (brd n (L 0) k = true → F k = h k)) := fun k hk => by
      have hk' : k < n * L 0 := by rw [← hN]; exact hk
      have h1 := flat_rng hv k hk'
      have hf := fillV_is (flat_rng hv)
      have h2 := hf.ge hk'
      have h3 := hf.le (t := 99) (fun j hj => (flat_rng hv j hj).2) hk'
      have h4 := hf.le (t := maxTo (flat (L 0) g) (n * L 0)) (fun j hj => le_maxTo hj) hk'
      rw [hF, hh, hN]
      exact ⟨h1.1, h1.2, h2, h3, h4, fun hb => hf.border hk' hb⟩
    clear hv hN hh hF
    go_wp2_with fail
    refine (implWaterFill_yes _ _ _ _ _ _ HG.out HV.out).mono ?_
    rintro e w2 ⟨A2, c2, rfl, _, hown2, hb2⟩
    have hB2 : Below w.heap.size w w2 := hB1.trans (hb2.mono hB1.size)
    have Kg2 := Lib.hid (HG.out.below hb2)
    clear HG
    have Ko2 := Lib.hid (hown2.grid)
    clear hown2
    go_wp2_with fail
    refine (specWaterFill_yes _ _ _ _ _ _ Kg2.out HV.out).mono ?_
    rintro e w3 ⟨A3, c3, rfl, _, hg3, hb3⟩
    have HW := Lib.hid hg3
    clear hg3
    have hB3 : Below w.heap.size w w3 := hB2.trans (hb3.mono hB2.size)
    have Kg3 := Lib.hid (Kg2.out.below hb3)
    have Ko3 := Lib.hid (Ko2.out.below hb3)
    clear Kg2 Ko2
    go_wp2_with fail
    refine (sameGrid_yes _ _ _ _ _ _ _ _ Ko3.out HW.out (by omega) (fun r hr => by show L 0 ≤ _; omega)).mono ?_
    rintro e w4 ⟨rfl, hb4⟩
    have hB4 : Below w.heap.size w w4 := hB3.trans (hb4.mono hB3.size)
    have Kg4 := Lib.hid (Kg3.out.below hb4)
    have Ko4 := Lib.hid (Ko3.out.below hb4)
    have Kw4 := Lib.hid (HW.out.below hb4)
    clear Kg3 Ko3 HW
    go_wp2_with fail
    refine (implGridRange_any _ _ _ _ _ _ Kg4.out (by omega) HL.out).mono ?_
    rintro e w5 ⟨rfl, hb5⟩
    rw [HRg.out, ← HN.out, ← HH.out]
    have hB5 : Below w.heap.size w w5 := hB4.trans (hb5.mono hB4.size)
    have Kg5 := Lib.hid (Kg4.out.below hb5)
    have Ko5 := Lib.hid (Ko4.out.below hb5)
    clear Kg4 Ko4
    obtain ⟨mx, hmx⟩ : ∃ mx, mx = maxTo h N := ⟨_, rfl⟩
    rw [← hmx] at HFr ⊢
    clear hmx
    obtain ⟨Bg, og, A0, c0, rfl, hc0, _, _⟩ := Kg5.out 0 (by omega)
    rw [Nat.add_zero] at hc0
    go_wp2_with fail
    clear hc0
    go_loopw [12] (fun i wr => ∃ k : Nat, k ≤ N ∧ i = .int .i64 k ∧ Below w5.heap.size w5 wr) (fun i _ => N - (intOf i).toNat)
    case atStart => exact ⟨0, Nat.zero_le _, rfl, Below.refl _ _⟩
    case round =>
      obtain ⟨k, hk, rfl, hbel⟩ := hrel
      have HG1 := Lib.hid (Kg5.out.below hbel)
      have HO1 := Lib.hid (Ko5.out.below hbel)
      go_wp2_with fail
      refine (cellsOf_any _ _ _ _ _ _ HG1.out (by omega) (by omega) (by omega)).mono ?_
      rintro e w' ⟨rfl, rfl⟩
      rw [← HN.out]
      by_cases hlt : k < N
      · have HI : Hid (k < n * L 0) := by show k < n * L 0; rw [← HN.out]; exact hlt
        have HE := Lib.hid (HFl.out k hlt)
        obtain ⟨f1, f2, f3, f4, f5, f6⟩ := HFr.out k hlt
        have HB6 := Lib.hid f6
        clear f6
        go_wp2_with fail
        refine (heightOf_any _ _ _ _ _ _ _ HO1.out HVF.out HI.out).mono ?_
        rintro e w6 ⟨rfl, hb6⟩
        rw [HE.out]
        have HG6 := Lib.hid (HG1.out.below hb6)
        have HO6 := Lib.hid (HO1.out.below hb6)
        have hbel6 := hbel.trans (hb6.mono hbel.size)
        clear HE
        -- by row and column
        obtain ⟨R, hRr⟩ : ∃ R, R = k / L 0 := ⟨_, rfl⟩
        obtain ⟨Q, hQq⟩ : ∃ Q, Q = k % L 0 := ⟨_, rfl⟩
        have hrc : R < n ∧ Q < L 0 ∧ R * L 0 + Q = k := by
          obtain ⟨_, h1, h2, h3⟩ := rc_in HI.out
          rw [← hRr] at h1 h3
          rw [← hQq] at h2 h3
          exact ⟨h1, h2, h3⟩
        obtain ⟨hR, hQ, hRQ⟩ := hrc
        have HBr : Hid (brd n (L 0) k = decide (R = 0 ∨ R = n - 1 ∨ Q = 0 ∨ Q = L 0 - 1)) := by rw [hRr, hQq]; rfl
        have e1 : (k : Int) / (L 0 : Int) = (R : Int) := by rw [hRr, Int.natCast_ediv]
        have e2 : (k : Int) % (L 0 : Int) = (Q : Int) := by rw [hQq, Int.natCast_emod]
        have e3 : Int.tmod (k : Int) (L 0 : Int) = (Q : Int) := by rw [hQq]; exact (Int.ofNat_tmod k (L 0)).symm
        have e4 : Int.tdiv (k : Int) (L 0 : Int) = (R : Int) := by rw [hRr]; exact (Int.ofNat_tdiv k (L 0)).symm
        have HR0 : Hid (R = 0 ↔ k < L 0) := by show R = 0 ↔ _; rw [hRr, Nat.div_eq_zero_iff]; omega
        have m0 : (0 : Int) ≤ (L 0 : Int) * ((n : Int) - 1) := Int.mul_nonneg (by omega) (by omega)
        have m1 : (L 0 : Int) * ((n : Int) - 1) ≤ 49 := by
          have := Nat.mul_le_mul hvl (by omega : n - 1 ≤ 7)
          rw [← Int.ofNat_le, Int.natCast_mul, Int.natCast_sub (by omega)] at this
          exact Int.le_trans this (by decide)
        have HRn : Hid (R = n - 1 ↔ (L 0 : Int) * ((n : Int) - 1) ≤ (k : Int)) := by
          have : (L 0 : Int) * ((n : Int) - 1) = (((n - 1) * L 0 : Nat) : Int) := by rw [Int.natCast_mul, Int.natCast_sub (by omega), Int.mul_comm]; rfl
          show R = n - 1 ↔ _
          rw [this, Int.ofNat_le, ← hRQ]
          constructor
          · intro h; rw [h]; exact Nat.le_add_right _ _
          · intro h
            refine Classical.byContradiction fun hne => ?_
            have h2 : R + 1 ≤ n - 1 := by omega
            have h3 := Nat.mul_le_mul_right (L 0) h2
            rw [Nat.succ_mul] at h3
            omega
        have HL1 := Lib.hid (HLow.out R Q hR hQ)
        rw [hRQ] at HL1
        clear hRr hQq hRQ
        have HBrd : Hid (brd n (L 0) k = true → F k = h k) := HB6.out
        obtain ⟨bd, hbd⟩ : ∃ bd, bd = brd n (L 0) k := ⟨_, rfl⟩
        rw [← hbd] at HBr HBrd
        clear hbd HB6
        generalize hFk : F k = fk at *
        clear hFk
        generalize hhk : h k = hk0 at *
        have HHk := Lib.hid hhk
        clear hhk
        go_upto_region 14 with (fail)
        go_cut [14] (fun v wx => v = .bool bd ∧ wx = w6)
        case first =>
          by_cases p1 : R = 0
          · have q1 : decide (k < L 0) = true := decide_eq_true (HR0.out.1 p1)
            have HP : Hid (bd = true) := by show bd = true; rw [HBr.out]; exact decide_eq_true (.inl p1)
            clear p1
            go_wp2_with fail
            go_meet
            case rel => exact ⟨by rw [HP.out], rfl⟩
          have q1 : decide (k < L 0) = false := decide_eq_false (mt HR0.out.2 p1)
          by_cases p2 : R = n - 1
          · have q2 : decide ((L 0 : Int) * ((n : Int) - 1) ≤ (k : Int)) = true := decide_eq_true (HRn.out.1 p2)
            have HP : Hid (bd = true) := by show bd = true; rw [HBr.out]; exact decide_eq_true (.inr (.inl p2))
            clear p1 p2
            go_wp2_with fail
            go_meet
            case rel => exact ⟨by rw [HP.out], rfl⟩
          have q2 : decide ((L 0 : Int) * ((n : Int) - 1) ≤ (k : Int)) = false := decide_eq_false (mt HRn.out.2 p2)
          by_cases p3 : Q = 0
          · have q3 : ((Q : Int) == 0) = true := beq_iff_eq.2 (by omega)
            have HP : Hid (bd = true) := by show bd = true; rw [HBr.out]; exact decide_eq_true (.inr (.inr (.inl p3)))
            clear p1 p2 p3
            go_wp2_with fail
            go_meet
            case rel => exact ⟨by rw [HP.out], rfl⟩
          have q3 : ((Q : Int) == 0) = false := beq_eq_false_iff_ne.2 (by omega)
          by_cases p4 : Q = L 0 - 1
          · have q4 : ((Q : Int) == (L 0 : Int) - 1) = true := beq_iff_eq.2 (by omega)
            have HP : Hid (bd = true) := by show bd = true; rw [HBr.out]; exact decide_eq_true (.inr (.inr (.inr p4)))
            clear p1 p2 p3 p4
            go_wp2_with fail
            go_meet
            case rel => exact ⟨by rw [HP.out], rfl⟩
          have q4 : ((Q : Int) == (L 0 : Int) - 1) = false := beq_eq_false_iff_ne.2 (by omega)
          have HP : Hid (bd = false) := by show bd = false; rw [HBr.out]; exact decide_eq_false (by omega)
          clear p1 p2 p3 p4
          go_wp2_with fail
          go_meet
          case rel => exact ⟨by rw [HP.out], rfl⟩
        case rest =>
          obtain ⟨rfl, hcw⟩ := hcut
          have hcw := hcw.symm
          subst hcw
          clear HBr HR0 HRn
          have s1 : decide (fk < hk0) = false := decide_eq_false (by omega)
          have s2 : decide (mx < fk) = false := decide_eq_false (by omega)
          have hH : ∀ w7, Below w6.heap.size w6 w7 → Calls Try.prog 19 #[.slice (some ⟨Bg, og, none⟩) n c1, .int .i64 k] w7 (RetV (.int .i64 hk0) w7) := fun w7 hb7 => by
            have := heightOf_h _ n c1 k L g h w7 (HG6.out.below hb7) HV.out HH HI.out
            rw [HHk.out] at this
            exact this
          have HHt := Lib.hid hH
          clear hH
          go_wp2_with fail
          refine (HHt.out _ (Below.refl _ _)).mono ?_
          rintro e w7 ⟨rfl, hb7⟩
          -- the border's heights stay
          obtain ⟨d2, hd2⟩ : ∃ d2, d2 = (fk != hk0) := ⟨_, rfl⟩
          have HD2 : Hid (bd = true → d2 = false) := fun hb => by rw [hd2, HBrd.out hb]; simp
          cases bd
          · clear HD2 HBrd hd2
            have hbW := hbel6.trans (hb7.mono hbel6.size)
            go_wp2_with fail
            refine (HHt.out _ hb7).mono ?_
            rintro e w9 ⟨rfl, hb9⟩
            have hb69 := hb7.trans (hb9.mono hb7.size)
            have hbel9 := hbel6.trans (hb69.mono hbel6.size)
            have HO9 := Lib.hid (HO6.out.below hb69)
            by_cases hgt : hk0 < fk
            · have s3 : decide (hk0 < fk) = true := decide_eq_true hgt
              obtain ⟨HVx, HLx⟩ := HL1.out hgt
              have hfk0 : 1 ≤ fk := by omega
              have HVX := Lib.hid HVx
              have HLX := Lib.hid HLx
              have HHC : Hid (HasCell n (fun _ => L 0) (fillG n (L 0) g) (R : Int) (Q : Int)) := ⟨HVF.out, by omega, by omega, by omega, by show (Q : Int) < (L 0 : Nat); omega⟩
              clear HVx HLx hgt
              generalize hX : gset (fillG n (L 0) g) R Q (fk - 1) = GX at *
              have HX := Lib.hid hX
              clear hX
              go_wp2_with fail
              refine wp_region_phi (N := 15) (C := fun _ w4 => Below w9.heap.size w9 w4) (R := fun w4 w5 => Below w4.heap.size w4 w5) (φ := fun j v w4 => ([fun v _ => v = .slice A2 n c2, fun v _ => v = .int .i64 (k : Int), fun v _ => v = .int .i64 (L 0 : Int), fun v _ => v = .int .i64 (R : Int), fun v _ => v = .int .i64 (k : Int), fun v _ => v = .int .i64 (L 0 : Int), fun v _ => v = .int .i64 (Q : Int), fun v _ => v = .int .i64 fk, fun v _ => v = .int .i64 (fk - 1), TupG n (fun _ => L 0) GX, TupG n (fun _ => L 0) GX, SliG n (fun _ => L 0) GX, fun v _ => v = .bool true, SliG n (fun _ => L 0) GX, fun v _ => v = .bool true] : List (Value → World → Prop)).getD j (fun _ _ => True) v w4) (by kernel_rfl) (by kernel_rfl) (by kernel_rfl) ?_ (Below.refl _ _).drew ?_ ?_
              · intro j v w4 w5 hb hv
                match j with
                | 9 => exact TupG.mono hv hb
                | 10 => exact TupG.mono hv hb
                | 11 => exact SliG.mono hv hb
                | 13 => exact SliG.mono hv hb
                | 0 | 1 | 2 | 3 | 4 | 5 | 6 | 7 | 8 | 12 | 14 => exact hv
                | j + 15 => exact hv
              · refine ⟨?_, ?_, ?_, ?_, ?_, ?_, ?_, ?_, ?_, ?_, ?_, ?_, ?_, ?_, ?_, trivial⟩
                · intro k9 w4 hC hk9
                  refine givenD_go (ds' := []) (by kernel_rfl) ?_
                  simp only [givenD, List.getD_cons_zero, List.getD_cons_succ]
                  go_wp2_with fail
                  exact ⟨rfl, rfl, hC, Below.refl _ _, rfl⟩
                · intro k9 w4 hC hk9
                  refine givenD_go (ds' := []) (by kernel_rfl) ?_
                  simp only [givenD, List.getD_cons_zero, List.getD_cons_succ]
                  go_wp2_with fail
                  exact ⟨rfl, rfl, hC, Below.refl _ _, rfl⟩
                · intro k9 w4 hC hk9
                  refine givenD_go (ds' := []) (by kernel_rfl) ?_
                  simp only [givenD, List.getD_cons_zero, List.getD_cons_succ]
                  go_wp2_with fail
                  exact ⟨rfl, rfl, hC, Below.refl _ _, rfl⟩
                · intro k9 w4 hC hk9
                  refine givenD_go (ds' := [(1, 125), (2, 126)]) (by kernel_rfl) ?_
                  simp only [givenD, List.getD_cons_zero, List.getD_cons_succ]
                  rintro _ rfl
                  rintro _ rfl
                  simp only [Act.put, List.setIfInBounds_toArray, List.set_cons_zero, List.set_cons_succ]
                  go_wp2_with fail
                  exact ⟨rfl, rfl, hC, Below.refl _ _, rfl⟩
                · intro k9 w4 hC hk9
                  refine givenD_go (ds' := []) (by kernel_rfl) ?_
                  simp only [givenD, List.getD_cons_zero, List.getD_cons_succ]
                  go_wp2_with fail
                  exact ⟨rfl, rfl, hC, Below.refl _ _, rfl⟩
                · intro k9 w4 hC hk9
                  refine givenD_go (ds' := []) (by kernel_rfl) ?_
                  simp only [givenD, List.getD_cons_zero, List.getD_cons_succ]
                  go_wp2_with fail
                  exact ⟨rfl, rfl, hC, Below.refl _ _, rfl⟩
                · intro k9 w4 hC hk9
                  refine givenD_go (ds' := [(4, 128), (5, 129)]) (by kernel_rfl) ?_
                  simp only [givenD, List.getD_cons_zero, List.getD_cons_succ]
                  rintro _ rfl
                  rintro _ rfl
                  simp only [Act.put, List.setIfInBounds_toArray, List.set_cons_zero, List.set_cons_succ]
                  go_wp2_with fail
                  exact ⟨rfl, rfl, hC, Below.refl _ _, rfl⟩
                · intro k9 w4 hC hk9
                  refine givenD_go (ds' := []) (by kernel_rfl) ?_
                  simp only [givenD, List.getD_cons_zero, List.getD_cons_succ]
                  go_wp2_with fail
                  exact ⟨rfl, rfl, hC, Below.refl _ _, rfl⟩
                · intro k9 w4 hC hk9
                  refine givenD_go (ds' := [(7, 131)]) (by kernel_rfl) ?_
                  simp only [givenD, List.getD_cons_zero, List.getD_cons_succ]
                  rintro _ rfl
                  simp only [Act.put, List.setIfInBounds_toArray, List.set_cons_zero, List.set_cons_succ]
                  go_wp2_with fail
                  exact ⟨rfl, rfl, hC, Below.refl _ _, rfl⟩
                · intro k9 w4 hC hk9
                  refine givenD_go (ds' := [(0, 124), (3, 127), (6, 130), (8, 132)]) (by kernel_rfl) ?_
                  simp only [givenD, List.getD_cons_zero, List.getD_cons_succ]
                  rintro _ rfl
                  rintro _ rfl
                  rintro _ rfl
                  rintro _ rfl
                  simp only [Act.put, List.setIfInBounds_toArray, List.set_cons_zero, List.set_cons_succ]
                  go_wp2_with fail
                  refine (implGridSet_yes _ _ _ _ _ _ _ _ _ (HO9.out.below hC) ⟨HHC.out, by omega, by omega⟩).mono ?_
                  rintro e w5 ⟨A5, c5, rfl, _, hown5, hb5⟩
                  have hgr := hown5.grid
                  rw [Int.toNat_natCast, Int.toNat_natCast, HX.out] at hgr
                  have HGR := Lib.hid hgr
                  clear hown5 hgr
                  go_wp2_with fail
                  exact ⟨rfl, rfl, hC.trans (hb5.mono hC.size), hb5, A5, c5, rfl, HGR.out⟩
                · intro k9 w4 hC hk9
                  refine givenD_go (ds' := [(9, 133)]) (by kernel_rfl) ?_
                  simp only [givenD, List.getD_cons_zero, List.getD_cons_succ]
                  rintro _ ⟨A5, c5, rfl, hg5⟩
                  simp only [Act.put, List.setIfInBounds_toArray, List.set_cons_zero, List.set_cons_succ]
                  have HG5 := Lib.hid hg5
                  clear hg5
                  go_wp2_with fail
                  exact ⟨rfl, rfl, hC, Below.refl _ _, A5, c5, rfl, HG5.out⟩
                · intro k9 w4 hC hk9
                  refine givenD_go (ds' := [(10, 123)]) (by kernel_rfl) ?_
                  simp only [givenD, List.getD_cons_zero, List.getD_cons_succ]
                  rintro _ ⟨A5, c5, rfl, hg5⟩
                  simp only [Act.put, List.setIfInBounds_toArray, List.set_cons_zero, List.set_cons_succ]
                  have HG5 := Lib.hid hg5
                  clear hg5
                  go_wp2_with fail
                  exact ⟨rfl, rfl, hC, Below.refl _ _, A5, c5, rfl, HG5.out⟩
                · intro k9 w4 hC hk9
                  refine givenD_go (ds' := [(10, 123)]) (by kernel_rfl) ?_
                  simp only [givenD, List.getD_cons_zero, List.getD_cons_succ]
                  rintro _ ⟨A5, c5, rfl, hg5⟩
                  simp only [Act.put, List.setIfInBounds_toArray, List.set_cons_zero, List.set_cons_succ]
                  clear hg5
                  go_wp2_with fail
                  exact ⟨rfl, rfl, hC, Below.refl _ _, rfl⟩
                · intro k9 w4 hC hk9
                  refine givenD_go (ds' := [(11, 134)]) (by kernel_rfl) ?_
                  simp only [givenD, List.getD_cons_zero, List.getD_cons_succ]
                  rintro _ ⟨A5, c5, rfl, hg5⟩
                  simp only [Act.put, List.setIfInBounds_toArray, List.set_cons_zero, List.set_cons_succ]
                  have HG5 := Lib.hid hg5
                  clear hg5
                  go_wp2_with fail
                  exact ⟨rfl, rfl, hC, Below.refl _ _, A5, c5, rfl, HG5.out⟩
                · intro k9 w4 hC hk9
                  refine givenD_go (ds' := [(12, 135)]) (by kernel_rfl) ?_
                  simp only [givenD, List.getD_cons_zero, List.getD_cons_succ]
                  rintro _ rfl
                  simp only [Act.put, List.setIfInBounds_toArray, List.set_cons_zero, List.set_cons_succ]
                  go_wp2_with fail
                  exact ⟨rfl, rfl, hC, Below.refl _ _, rfl⟩
              · intro w10 hb10
                simp only [givenAll, List.getD_cons_zero, List.getD_cons_succ]
                rintro _ rfl _ rfl _ rfl _ rfl _ rfl _ rfl _ rfl _ rfl _ rfl _ ⟨_, _, rfl, _⟩ _ ⟨_, _, rfl, _⟩ _ ⟨_, _, rfl, _⟩ _ rfl _ ⟨A6, c6, rfl, hg6⟩ _ rfl
                simp only [Act.put, List.setIfInBounds_toArray, List.set_cons_zero, List.set_cons_succ]
                have HG10 := Lib.hid hg6
                clear hg6
                go_wp2_with fail
                refine wp_region_phi (N := 12) (C := fun _ w4 => Below w10.heap.size w10 w4) (R := fun w4 w5 => Below w4.heap.size w4 w5) (φ := fun j v w4 => ([fun v _ => v = .bool true, fun v _ => v = .bool false, fun v _ => v = .bool false, fun v _ => v = .slice A6 n c6, fun v _ => v = .int .i64 (k : Int), fun v _ => v = .int .i64 (L 0 : Int), fun v _ => v = .int .i64 (R : Int), fun v _ => v = .int .i64 (k : Int), fun v _ => v = .int .i64 (L 0 : Int), fun v _ => v = .int .i64 (Q : Int), fun v _ => v = .bool false, fun v _ => v = .bool false] : List (Value → World → Prop)).getD j (fun _ _ => True) v w4) (by kernel_rfl) (by kernel_rfl) (by kernel_rfl) ?_ (Below.refl _ _).drew ?_ ?_
                · intro j v w4 w5 hb hv
                  match j with
                  | 0 | 1 | 2 | 3 | 4 | 5 | 6 | 7 | 8 | 9 | 10 | 11 => exact hv
                  | j + 12 => exact hv
                · refine ⟨?_, ?_, ?_, ?_, ?_, ?_, ?_, ?_, ?_, ?_, ?_, ?_, trivial⟩
                  · intro k9 w4 hC hk9
                    refine givenD_go (ds' := []) (by kernel_rfl) ?_
                    simp only [givenD, List.getD_cons_zero, List.getD_cons_succ]
                    go_wp2_with fail
                    exact ⟨rfl, rfl, hC, Below.refl _ _, rfl⟩
                  · intro k9 w4 hC hk9
                    refine givenD_go (ds' := [(0, 136)]) (by kernel_rfl) ?_
                    simp only [givenD, List.getD_cons_zero, List.getD_cons_succ]
                    rintro _ rfl
                    simp only [Act.put, List.setIfInBounds_toArray, List.set_cons_zero, List.set_cons_succ]
                    go_wp2_with fail
                    exact ⟨rfl, rfl, hC, Below.refl _ _, rfl⟩
                  · intro k9 w4 hC hk9
                    refine givenD_go (ds' := [(1, 137)]) (by kernel_rfl) ?_
                    simp only [givenD, List.getD_cons_zero, List.getD_cons_succ]
                    rintro _ rfl
                    simp only [Act.put, List.setIfInBounds_toArray, List.set_cons_zero, List.set_cons_succ]
                    go_wp2_with fail
                    exact ⟨rfl, rfl, hC, Below.refl _ _, rfl⟩
                  · intro k9 w4 hC hk9
                    refine givenD_go (ds' := [(2, 138)]) (by kernel_rfl) ?_
                    simp only [givenD, List.getD_cons_zero, List.getD_cons_succ]
                    rintro _ rfl
                    simp only [Act.put, List.setIfInBounds_toArray, List.set_cons_zero, List.set_cons_succ]
                    go_wp2_with fail
                    exact ⟨rfl, rfl, hC, Below.refl _ _, rfl⟩
                  · intro k9 w4 hC hk9
                    refine givenD_go (ds' := [(2, 138)]) (by kernel_rfl) ?_
                    simp only [givenD, List.getD_cons_zero, List.getD_cons_succ]
                    rintro _ rfl
                    simp only [Act.put, List.setIfInBounds_toArray, List.set_cons_zero, List.set_cons_succ]
                    go_wp2_with fail
                    exact ⟨rfl, rfl, hC, Below.refl _ _, rfl⟩
                  · intro k9 w4 hC hk9
                    refine givenD_go (ds' := [(2, 138)]) (by kernel_rfl) ?_
                    simp only [givenD, List.getD_cons_zero, List.getD_cons_succ]
                    rintro _ rfl
                    simp only [Act.put, List.setIfInBounds_toArray, List.set_cons_zero, List.set_cons_succ]
                    go_wp2_with fail
                    exact ⟨rfl, rfl, hC, Below.refl _ _, rfl⟩
                  · intro k9 w4 hC hk9
                    refine givenD_go (ds' := [(4, 140), (5, 141), (2, 138)]) (by kernel_rfl) ?_
                    simp only [givenD, List.getD_cons_zero, List.getD_cons_succ]
                    rintro _ rfl
                    rintro _ rfl
                    rintro _ rfl
                    simp only [Act.put, List.setIfInBounds_toArray, List.set_cons_zero, List.set_cons_succ]
                    go_wp2_with fail
                    exact ⟨rfl, rfl, hC, Below.refl _ _, rfl⟩
                  · intro k9 w4 hC hk9
                    refine givenD_go (ds' := [(2, 138)]) (by kernel_rfl) ?_
                    simp only [givenD, List.getD_cons_zero, List.getD_cons_succ]
                    rintro _ rfl
                    simp only [Act.put, List.setIfInBounds_toArray, List.set_cons_zero, List.set_cons_succ]
                    go_wp2_with fail
                    exact ⟨rfl, rfl, hC, Below.refl _ _, rfl⟩
                  · intro k9 w4 hC hk9
                    refine givenD_go (ds' := [(2, 138)]) (by kernel_rfl) ?_
                    simp only [givenD, List.getD_cons_zero, List.getD_cons_succ]
                    rintro _ rfl
                    simp only [Act.put, List.setIfInBounds_toArray, List.set_cons_zero, List.set_cons_succ]
                    go_wp2_with fail
                    exact ⟨rfl, rfl, hC, Below.refl _ _, rfl⟩
                  · intro k9 w4 hC hk9
                    refine givenD_go (ds' := [(7, 143), (8, 144), (2, 138)]) (by kernel_rfl) ?_
                    simp only [givenD, List.getD_cons_zero, List.getD_cons_succ]
                    rintro _ rfl
                    rintro _ rfl
                    rintro _ rfl
                    simp only [Act.put, List.setIfInBounds_toArray, List.set_cons_zero, List.set_cons_succ]
                    go_wp2_with fail
                    exact ⟨rfl, rfl, hC, Below.refl _ _, rfl⟩
                  · intro k9 w4 hC hk9
                    refine givenD_go (ds' := [(3, 139), (6, 142), (9, 145), (2, 138)]) (by kernel_rfl) ?_
                    simp only [givenD, List.getD_cons_zero, List.getD_cons_succ]
                    rintro _ rfl
                    rintro _ rfl
                    rintro _ rfl
                    rintro _ rfl
                    simp only [Act.put, List.setIfInBounds_toArray, List.set_cons_zero, List.set_cons_succ]
                    go_wp2_with fail
                    refine (implWaterLeaves_any _ _ _ _ _ _ _ _ (HG10.out.below hC) HVX.out.n_le HVX.out.L_le (by omega) (by omega) (by omega) (by omega)).mono ?_
                    rintro e w5 ⟨rfl, hb5⟩
                    rw [HLX.out]
                    go_wp2_with fail
                    exact ⟨rfl, rfl, hC.trans (hb5.mono hC.size), hb5, rfl⟩
                  · intro k9 w4 hC hk9
                    refine givenD_go (ds' := [(2, 138), (10, 146)]) (by kernel_rfl) ?_
                    simp only [givenD, List.getD_cons_zero, List.getD_cons_succ]
                    rintro _ rfl
                    rintro _ rfl
                    simp only [Act.put, List.setIfInBounds_toArray, List.set_cons_zero, List.set_cons_succ]
                    go_wp2_with fail
                    exact ⟨rfl, rfl, hC, Below.refl _ _, rfl⟩
                · intro w4 hC
                  simp only [givenAll, List.getD_cons_zero, List.getD_cons_succ]
                  rintro _ rfl _ rfl _ rfl _ rfl _ rfl _ rfl _ rfl _ rfl _ rfl _ rfl _ rfl _ rfl
                  simp only [Act.put, List.setIfInBounds_toArray, List.set_cons_zero, List.set_cons_succ]
                  go_wp2_with fail
                  go_roundw
                  case rel => exact ⟨k + 1, by omega, by go_num, (hbel9.trans (hb10.mono hbel9.size)).trans (hC.mono (Nat.le_trans hbel9.size hb10.size))⟩
                  case measure => simp [intOf]; omega
            · have s3 : decide (hk0 < fk) = false := decide_eq_false hgt
              clear hgt
              go_wp2_with fail
              go_roundw
              case rel => exact ⟨k + 1, by omega, by go_num, hbel9⟩
              case measure => simp [intOf]; omega
          · have s4 : (fk != hk0) = false := by rw [← hd2]; exact HD2.out rfl
            have s5 : decide (hk0 < fk) = false := decide_eq_false (by have := HBrd.out rfl; omega)
            clear HD2 HBrd hd2
            go_wp2_with fail
            refine (HHt.out _ hb7).mono ?_
            rintro e w8 ⟨rfl, hb8⟩
            have hb78 := hb7.trans (hb8.mono hb7.size)
            go_wp2_with fail
            refine (HHt.out _ hb78).mono ?_
            rintro e w9 ⟨rfl, hb9⟩
            have hb79 := hb78.trans (hb9.mono hb78.size)
            go_wp2_with fail
            go_roundw
            case rel => exact ⟨k + 1, by omega, by go_num, hbel6.trans (hb79.mono hbel6.size)⟩
            case measure => simp [intOf]; omega
      · have hB6 : Below w.heap.size w wr := hB5.trans (hbel.mono hB5.size)
        go_wp2_with fail
        refine (implWaterDrained_any _ _ _ _ _ _ HO1.out HVF.out.n_le HVF.out.L_le).mono ?_
        rintro e w7 ⟨rfl, hb7⟩
        rw [HDr.out]
        go_wp2_with fail
        go_ret
        exact ⟨rfl, hB6.trans (hb7.mono hB6.size)⟩
  · have HV := Lib.hid hv
    clear hv
    go_wp2_with fail
    refine (implWaterFill_no _ _ _ _ _ _ HG.out (by omega) HL.out HV.out).mono ?_
    rintro e w2 ⟨A2, c2, rfl, _, hown2, hb2⟩
    have hB2 : Below w.heap.size w w2 := hB1.trans (hb2.mono hB1.size)
    have Kg2 := Lib.hid (HG.out.below hb2)
    clear HG
    have Ko2 := Lib.hid (hown2.grid)
    clear hown2
    go_wp2_with fail
    refine (specWaterFill_no _ _ _ _ _ _ Kg2.out (by omega) HL.out HV.out).mono ?_
    rintro e w3 ⟨A3, c3, rfl, _, hg3, hb3⟩
    have HW := Lib.hid hg3
    clear hg3
    have hB3 : Below w.heap.size w w3 := hB2.trans (hb3.mono hB2.size)
    have Kg3 := Lib.hid (Kg2.out.below hb3)
    have Ko3 := Lib.hid (Ko2.out.below hb3)
    clear Kg2 Ko2
    go_wp2_with fail
    refine (sameGrid_yes _ _ _ _ _ _ _ _ Ko3.out HW.out (by omega) (fun r hr => by omega)).mono ?_
    rintro e w4 ⟨rfl, hb4⟩
    have hB4 : Below w.heap.size w w4 := hB3.trans (hb4.mono hB3.size)
    have Kg4 := Lib.hid (Kg3.out.below hb4)
    have Ko4 := Lib.hid (Ko3.out.below hb4)
    have Kw4 := Lib.hid (HW.out.below hb4)
    clear Kg3 Ko3 HW
    go_wp2_with fail
    refine (sameGrid_yes _ _ _ _ _ _ _ _ Ko4.out Kw4.out (by omega) (fun r hr => by omega)).mono ?_
    rintro e w5 ⟨rfl, hb5⟩
    have hB5 : Below w.heap.size w w5 := hB4.trans (hb5.mono hB4.size)
    have Kg5 := Lib.hid (Kg4.out.below hb5)
    have Ko5 := Lib.hid (Ko4.out.below hb5)
    have Kw5 := Lib.hid (Kw4.out.below hb5)
    clear Kg4 Ko4 Kw4
    go_wp2_with fail
    go_ret
    exact ⟨rfl, hB5⟩

end Go.Proofs.Ythndabbjkkjkhaa
