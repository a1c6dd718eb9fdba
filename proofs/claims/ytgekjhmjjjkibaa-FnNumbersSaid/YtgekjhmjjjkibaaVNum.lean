/- The law FnNumbers: its walk. -/
import Derived.Test.YtgekjhmjjjkibaaLawH
import Derived.Test.YtgekjhmjjjkibaaLvn
import Derived.Test.YtgekjhmjjjkibaaLevl
import Derived.Test.YtgekjhmjjjkibaaPlW
import Derived.Test.YtgekjhmjjjkibaaVSnk
namespace Go.Proofs.Ytgekjhmjjjkibaa
set_option linter.unusedVariables false
set_option linter.unusedSimpArgs false
open Go.RowKit

theorem numbers_law {n : Nat} {L : Nat → Nat} {g : Nat → Nat → Int} {l : Int} (hv : Lvl n L g l) : ∃ T : Nat → Nat, T 0 = 0 ∧ levelRegionsV n L g l = (T (n * L 0) : Int) ∧ (∀ i, i < n * L 0 → (Cnum n L g l i = -1 ↔ flat (L 0) g i < l) ∧ -1 ≤ Cnum n L g l i ∧ Cnum n L g l i ≤ T i ∧ T i ≤ i ∧ (Cnum n L g l i = T i → T (i + 1) = T i + 1) ∧ (Cnum n L g l i ≠ T i → T (i + 1) = T i)) ∧ ∀ i, i < n * L 0 → ∀ j, j ∈ nearL n (L 0) i → 0 ≤ Cnum n L g l i → 0 ≤ Cnum n L g l j → Cnum n L g l j = Cnum n L g l i := by
  have hm := nearL_mut n (L 0)
  refine ⟨cnt (repB (n * L 0) (nearL n (L 0)) (fun x => l ≤ flat (L 0) g x)), rfl, if_pos hv, fun i hi => ?_, fun i hi j hj h1 h2 => ?_⟩
  · have h1 : Cnum n L g l i = regV n (L 0) (flat (L 0) g) l i := rfl
    rw [h1]
    have h2 := regV_ok (l := l) (h := flat (L 0) g) hi
    have h3 := regV_rng (l := l) (h := flat (L 0) g) hi
    have h4 := numV_le (ok := fun x => l ≤ flat (L 0) g x) hm hi
    refine ⟨by omega, h3.1, h4.1, cnt_le _ _, fun e => ?_, fun e => ?_⟩
    · have h5 := repB_iff.2 (h4.2.1 e)
      simp only [cnt, h5]; simp
    · have h5 := repB_no (fun h => e (h4.2.2 h))
      simp only [cnt, h5]; simp
  · have hjN := nearL_lt hi hj
    have hi1 : l ≤ flat (L 0) g i := (regV_ok hi).1 h1
    have hj1 : l ≤ flat (L 0) g j := (regV_ok hjN).1 h2
    exact ((regV_eq hi hjN hi1).2 (Lnk.edge (ok := fun x => l ≤ flat (L 0) g x) hi hi1 hj (Lnk.refl hjN hj1))).symm

set_option maxHeartbeats 1500000 in
set_option maxRecDepth 100000 in
theorem fnNumbers_walk (A : Option Addr) (m cp : Nat) (z : Nat → Int) (w : World) (hz : RowB w A m z) (hm : m ≤ 9223372036854775807 ∧ m ≤ cp) :
    Calls Try.prog 10 #[.slice A m cp] w (RetV (.bool true) w) := by
  have HZ := Lib.hid hz
  obtain ⟨hm1, hm2⟩ := hm
  clear hz
  by_cases hbig : 1048576 < m
  · go_enter Try.func10, Try.ntmps10
    go_wp2_with fail
    go_ret
    exact ⟨rfl, Below.refl _ _⟩
  go_enter Try.func10, Try.ntmps10
  go_wp2_with fail
  refine (drawLevelNumbers_any _ _ _ _ _ HZ.out hm1 hm2).mono ?_
  rintro e w1 ⟨A1, n, c1, L, g, l, rfl, hl1, hl2, hn1, hn2, hL, hgrid, hb1⟩
  have HG := Lib.hid hgrid
  have HL : Hid (∀ r, r < n → L r ≤ 1048576) := fun r hr => by have := hL r hr; omega
  have hB1 := hb1
  clear hgrid hL hb1
  by_cases hv : Lvl n L g l
  · have HVl := Lib.hid hv
    have HV := Lib.hid hv.1
    have hvn := hv.1.2.1
    have hvl := hv.1.2.2.2.1
    have hvl1 := hv.1.2.2.1
    have hv0 := hv.2.1
    obtain ⟨T, hT0, hTN, hTs, hTn⟩ := numbers_law hv
    obtain ⟨N, hN⟩ : ∃ N, N = n * L 0 := ⟨_, rfl⟩
    have hN1 : N ≤ 49 := by rw [hN]; exact Nat.le_trans (Nat.mul_le_mul hvn hvl) (by decide)
    have hN0 : 0 < N := by rw [hN]; exact Nat.mul_pos (by omega) (by omega)
    have HN := Lib.hid hN
    obtain ⟨h, hh⟩ : ∃ h, h = flat (L 0) g := ⟨_, rfl⟩
    have HH := Lib.hid hh
    obtain ⟨F, hF⟩ : ∃ F, F = Cnum n L g l := ⟨_, rfl⟩
    have HF := Lib.hid hF
    rw [← hN, ← hh, ← hF] at hTs
    rw [← hN, ← hF] at hTn
    rw [← hN] at hTN
    have HTs := Lib.hid hTs
    have HTn := Lib.hid hTn
    have HTN := Lib.hid hTN
    have HT0 := Lib.hid hT0
    clear hv hN hh hF hTs hTn hTN hT0
    go_wp2_with fail
    refine (implLevelNumbers_yes _ _ _ _ _ _ _ HG.out HVl.out).mono ?_
    rintro e w2 ⟨A2, c2, rfl, hown2, hb2⟩
    rw [← HF.out, ← HN.out] at hown2
    rw [← HN.out]
    have KO2 := Lib.hid hown2.row
    clear hown2
    have hB2 : Below w.heap.size w w2 := hB1.trans (hb2.mono hB1.size)
    have Kg2 := Lib.hid (HG.out.below hb2)
    clear HG
    go_wp2_with fail
    refine (specLevelNumbers_yes _ _ _ _ _ _ _ Kg2.out HVl.out).mono ?_
    rintro e w3 ⟨A3, c3, rfl, hrow3, hb3⟩
    rw [← HF.out, ← HN.out] at hrow3
    rw [← HN.out]
    have KW3 := Lib.hid hrow3
    clear hrow3
    have hB3 : Below w.heap.size w w3 := hB2.trans (hb3.mono hB2.size)
    have Kg3 := Lib.hid (Kg2.out.below hb3)
    have Ko3 := Lib.hid (KO2.out.below hb3)
    clear Kg2 KO2
    go_wp2_with fail
    refine (sameInts_yes _ _ _ _ _ _ _ Ko3.out KW3.out (by omega)).mono ?_
    rintro e w4 ⟨rfl, hb4⟩
    have hB4 : Below w.heap.size w w4 := hB3.trans (hb4.mono hB3.size)
    have Kg4 := Lib.hid (Kg3.out.below hb4)
    have Ko4 := Lib.hid (Ko3.out.below hb4)
    have Kw4 := Lib.hid (KW3.out.below hb4)
    clear Kg3 Ko3 KW3
    obtain ⟨bo, oo, rfl, _⟩ := Ko4.out 0 hN0
    go_wp2_with fail
    go_loopw [9, 10] (fun nx i wr => ∃ k : Nat, k ≤ N ∧ i = .int .i64 k ∧ nx = .int .i64 (T k : Nat) ∧ Below w4.heap.size w4 wr) (fun _ i _ => N - (intOf i).toNat)
    case atStart => exact ⟨0, Nat.zero_le _, rfl, val_int (by rw [HT0.out]; rfl), Below.refl _ _⟩
    case round =>
      obtain ⟨k, hk, rfl, rfl, hbel⟩ := hrel
      have HG1 := Lib.hid (Kg4.out.below hbel)
      have HK1 := Lib.hid (Ko4.out.below hbel)
      by_cases hlt : k < N
      · have HI : Hid (k < n * L 0) := by show k < n * L 0; rw [← HN.out]; exact hlt
        have hl4 := nearL_len n (L 0) k
        have HMem : Hid (∀ q, q < (nearL n (L 0) k).length → (nearL n (L 0) k).getD q 0 < N) := fun q hq => by rw [HN.out]; exact nearL_lt HI.out (getD_in hq)
        have HNe : Hid (∀ q, q < (nearL n (L 0) k).length → 0 ≤ F k → 0 ≤ F ((nearL n (L 0) k).getD q 0) → F ((nearL n (L 0) k).getD q 0) = F k) := fun q hq => HTn.out k hlt _ (getD_in hq)
        obtain ⟨hs1, hs2, hs3, hs3', hs4, hs5⟩ := HTs.out k hlt
        have HS4 := Lib.hid hs4
        have HS5 := Lib.hid hs5
        obtain ⟨b9, o9, e9, hce⟩ := HK1.out k hlt
        cases e9
        obtain ⟨f, hf⟩ : ∃ f, f = F k := ⟨_, rfl⟩
        have hfe := hf.symm
        rw [← hf] at hce hs1 hs2 hs3 HS4 HS5 HNe
        clear hf hs4 hs5
        obtain ⟨t, ht⟩ : ∃ t, t = T k := ⟨_, rfl⟩
        rw [← ht] at hs3 hs3' HS4 HS5 ⊢
        clear ht
        obtain ⟨bb, hbb⟩ : ∃ bb, bb = decide (h k < l) := ⟨_, rfl⟩
        have e2 : decide (h k < l) = bb := hbb.symm
        have e1 : (f == -1) = bb := by
          rw [hbb, Bool.eq_iff_iff, beq_iff_eq, decide_eq_true_iff]; exact hs1
        have d1 : decide ((t : Int) < f) = false := decide_eq_false (by omega)
        clear hs1 hbb hs3
        have HFe := Lib.hid hfe
        clear hfe
        go_wp2_with fail
        refine wp_region_phi (N := 19) (C := fun _ w4 => Below wr.heap.size wr w4) (R := fun w4 w5 => Below w4.heap.size w4 w5) (φ := fun j v w4 => ([fun v _ => v = .slice (some ⟨bo, oo, none⟩) N c2, fun v _ => v = .int .i64 (k : Int), fun v _ => v = .pointer (some ⟨bo, oo + k, none⟩), fun v _ => v = .int .i64 f, fun v _ => v = .bool bb, fun v _ => v = .slice A1 n c1, fun v _ => v = .int .i64 (k : Int), fun v _ => v = .int .i64 (h k), fun v _ => v = .int .i64 l, fun v _ => v = .bool bb, fun v _ => v = .bool false, fun v _ => v = .bool false, fun v _ => v = .slice (some ⟨bo, oo, none⟩) N c2, fun v _ => v = .int .i64 (k : Int), fun v _ => v = .pointer (some ⟨bo, oo + k, none⟩), fun v _ => v = .int .i64 f, fun v _ => v = .int .i64 (t : Int), fun v _ => v = .bool false, fun v _ => v = .bool false] : List (Value → World → Prop)).getD j (fun _ _ => True) v w4) (by kernel_rfl) (by kernel_rfl) (by kernel_rfl) ?_ (Below.refl _ _).drew ?_ ?_
        · intro j v w4 w5 hb hv
          match j with
          | 0 | 1 | 2 | 3 | 4 | 5 | 6 | 7 | 8 | 9 | 10 | 11 | 12 | 13 | 14 | 15 | 16 | 17 | 18 => exact hv
          | j + 19 => exact hv
        · refine ⟨?_, ?_, ?_, ?_, ?_, ?_, ?_, ?_, ?_, ?_, ?_, ?_, ?_, ?_, ?_, ?_, ?_, ?_, ?_, trivial⟩
          · intro k9 w4 hC hk9
            refine givenD_go (ds' := []) (by kernel_rfl) ?_
            simp only [givenD, List.getD_cons_zero, List.getD_cons_succ]
            go_wp2_with fail
            exact ⟨rfl, rfl, hC, Below.refl _ _, rfl⟩
          · intro k9 w4 hC hk9
            refine givenD_go (ds' := []) (by kernel_rfl) ?_
            simp only [givenD, List.getD_cons_zero, List.getD_cons_succ]
            go_wp2_with fail
            exact ⟨rfl, rfl, hC, Below.refl _ _, rfl⟩
          · intro k9 w4 hC hk9
            refine givenD_go (ds' := [(0, 60), (1, 61)]) (by kernel_rfl) ?_
            simp only [givenD, List.getD_cons_zero, List.getD_cons_succ]
            rintro _ rfl
            rintro _ rfl
            simp only [Act.put, List.setIfInBounds_toArray, List.set_cons_zero, List.set_cons_succ]
            go_wp2_with fail
            exact ⟨rfl, rfl, hC, Below.refl _ _, rfl⟩
          · intro k9 w4 hC hk9
            refine givenD_go (ds' := [(2, 62)]) (by kernel_rfl) ?_
            simp only [givenD, List.getD_cons_zero, List.getD_cons_succ]
            rintro _ rfl
            simp only [Act.put, List.setIfInBounds_toArray, List.set_cons_zero, List.set_cons_succ]
            have hcx := (hC.cell (World.block_lt_of_cell? wr _ hce)).trans hce
            go_wp2_with fail
            exact ⟨rfl, rfl, hC, Below.refl _ _, rfl⟩
          · intro k9 w4 hC hk9
            refine givenD_go (ds' := [(3, 63)]) (by kernel_rfl) ?_
            simp only [givenD, List.getD_cons_zero, List.getD_cons_succ]
            rintro _ rfl
            simp only [Act.put, List.setIfInBounds_toArray, List.set_cons_zero, List.set_cons_succ]
            go_wp2_with fail
            exact ⟨rfl, rfl, hC, Below.refl _ _, rfl⟩
          · intro k9 w4 hC hk9
            refine givenD_go (ds' := []) (by kernel_rfl) ?_
            simp only [givenD, List.getD_cons_zero, List.getD_cons_succ]
            go_wp2_with fail
            exact ⟨rfl, rfl, hC, Below.refl _ _, rfl⟩
          · intro k9 w4 hC hk9
            refine givenD_go (ds' := []) (by kernel_rfl) ?_
            simp only [givenD, List.getD_cons_zero, List.getD_cons_succ]
            go_wp2_with fail
            exact ⟨rfl, rfl, hC, Below.refl _ _, rfl⟩
          · intro k9 w4 hC hk9
            refine givenD_go (ds' := [(5, 65), (6, 66)]) (by kernel_rfl) ?_
            simp only [givenD, List.getD_cons_zero, List.getD_cons_succ]
            rintro _ rfl
            rintro _ rfl
            simp only [Act.put, List.setIfInBounds_toArray, List.set_cons_zero, List.set_cons_succ]
            go_wp2_with fail
            refine (heightOf_h _ _ _ _ _ _ h _ (HG1.out.below hC) HV.out HH HI.out).mono ?_
            rintro e w5 ⟨rfl, hb5⟩
            go_wp2_with fail
            exact ⟨rfl, rfl, hC.trans (hb5.mono hC.size), hb5, rfl⟩
          · intro k9 w4 hC hk9
            refine givenD_go (ds' := []) (by kernel_rfl) ?_
            simp only [givenD, List.getD_cons_zero, List.getD_cons_succ]
            go_wp2_with fail
            exact ⟨rfl, rfl, hC, Below.refl _ _, rfl⟩
          · intro k9 w4 hC hk9
            refine givenD_go (ds' := [(7, 67), (8, 68)]) (by kernel_rfl) ?_
            simp only [givenD, List.getD_cons_zero, List.getD_cons_succ]
            rintro _ rfl
            rintro _ rfl
            simp only [Act.put, List.setIfInBounds_toArray, List.set_cons_zero, List.set_cons_succ]
            go_wp2_with fail
            exact ⟨rfl, rfl, hC, Below.refl _ _, rfl⟩
          · intro k9 w4 hC hk9
            refine givenD_go (ds' := [(4, 64), (9, 69)]) (by kernel_rfl) ?_
            simp only [givenD, List.getD_cons_zero, List.getD_cons_succ]
            rintro _ rfl
            rintro _ rfl
            simp only [Act.put, List.setIfInBounds_toArray, List.set_cons_zero, List.set_cons_succ]
            cases bb
            · go_wp2_with fail
              exact ⟨rfl, rfl, hC, Below.refl _ _, rfl⟩
            go_wp2_with fail
            exact ⟨rfl, rfl, hC, Below.refl _ _, rfl⟩
          · intro k9 w4 hC hk9
            refine givenD_go (ds' := [(10, 70)]) (by kernel_rfl) ?_
            simp only [givenD, List.getD_cons_zero, List.getD_cons_succ]
            rintro _ rfl
            simp only [Act.put, List.setIfInBounds_toArray, List.set_cons_zero, List.set_cons_succ]
            go_wp2_with fail
            exact ⟨rfl, rfl, hC, Below.refl _ _, rfl⟩
          · intro k9 w4 hC hk9
            refine givenD_go (ds' := [(11, 71)]) (by kernel_rfl) ?_
            simp only [givenD, List.getD_cons_zero, List.getD_cons_succ]
            rintro _ rfl
            simp only [Act.put, List.setIfInBounds_toArray, List.set_cons_zero, List.set_cons_succ]
            go_wp2_with fail
            exact ⟨rfl, rfl, hC, Below.refl _ _, rfl⟩
          · intro k9 w4 hC hk9
            refine givenD_go (ds' := [(11, 71)]) (by kernel_rfl) ?_
            simp only [givenD, List.getD_cons_zero, List.getD_cons_succ]
            rintro _ rfl
            simp only [Act.put, List.setIfInBounds_toArray, List.set_cons_zero, List.set_cons_succ]
            go_wp2_with fail
            exact ⟨rfl, rfl, hC, Below.refl _ _, rfl⟩
          · intro k9 w4 hC hk9
            refine givenD_go (ds' := [(12, 72), (13, 73), (11, 71)]) (by kernel_rfl) ?_
            simp only [givenD, List.getD_cons_zero, List.getD_cons_succ]
            rintro _ rfl
            rintro _ rfl
            rintro _ rfl
            simp only [Act.put, List.setIfInBounds_toArray, List.set_cons_zero, List.set_cons_succ]
            go_wp2_with fail
            exact ⟨rfl, rfl, hC, Below.refl _ _, rfl⟩
          · intro k9 w4 hC hk9
            refine givenD_go (ds' := [(14, 74), (11, 71)]) (by kernel_rfl) ?_
            simp only [givenD, List.getD_cons_zero, List.getD_cons_succ]
            rintro _ rfl
            rintro _ rfl
            simp only [Act.put, List.setIfInBounds_toArray, List.set_cons_zero, List.set_cons_succ]
            have hcx := (hC.cell (World.block_lt_of_cell? wr _ hce)).trans hce
            go_wp2_with fail
            exact ⟨rfl, rfl, hC, Below.refl _ _, rfl⟩
          · intro k9 w4 hC hk9
            refine givenD_go (ds' := [(11, 71)]) (by kernel_rfl) ?_
            simp only [givenD, List.getD_cons_zero, List.getD_cons_succ]
            rintro _ rfl
            simp only [Act.put, List.setIfInBounds_toArray, List.set_cons_zero, List.set_cons_succ]
            go_wp2_with fail
            exact ⟨rfl, rfl, hC, Below.refl _ _, rfl⟩
          · intro k9 w4 hC hk9
            refine givenD_go (ds' := [(15, 75), (16, 76), (11, 71)]) (by kernel_rfl) ?_
            simp only [givenD, List.getD_cons_zero, List.getD_cons_succ]
            rintro _ rfl
            rintro _ rfl
            rintro _ rfl
            simp only [Act.put, List.setIfInBounds_toArray, List.set_cons_zero, List.set_cons_succ]
            go_wp2_with fail
            exact ⟨rfl, rfl, hC, Below.refl _ _, rfl⟩
          · intro k9 w4 hC hk9
            refine givenD_go (ds' := [(11, 71), (17, 77)]) (by kernel_rfl) ?_
            simp only [givenD, List.getD_cons_zero, List.getD_cons_succ]
            rintro _ rfl
            rintro _ rfl
            simp only [Act.put, List.setIfInBounds_toArray, List.set_cons_zero, List.set_cons_succ]
            go_wp2_with fail
            exact ⟨rfl, rfl, hC, Below.refl _ _, rfl⟩
        · intro w4 hC
          simp only [givenAll, List.getD_cons_zero, List.getD_cons_succ]
          rintro _ rfl _ rfl _ rfl _ rfl _ rfl _ rfl _ rfl _ rfl _ rfl _ rfl _ rfl _ rfl _ rfl _ rfl _ rfl _ rfl _ rfl _ rfl _ rfl
          simp only [Act.put, List.setIfInBounds_toArray, List.set_cons_zero, List.set_cons_succ]
          have HG4 := Lib.hid (HG1.out.below hC)
          have HK4 := Lib.hid (HK1.out.below hC)
          have hbel4 := hbel.trans (hC.mono hbel.size)
          have hce4 := (hC.cell (World.block_lt_of_cell? wr _ hce)).trans hce
          clear hce e1 e2 d1
          by_cases q2 : f = (t : Int)
          · have HNx := Lib.hid (HS4.out q2)
            have d2 : (f == (t : Int)) = true := beq_iff_eq.2 q2
            clear q2
            go_wp2_with fail
            refine (nearOf_any _ _ _ _ _ _ _ HG4.out (by omega) (by omega) (by omega) (by omega) HI.out).mono ?_
            rintro e wn ⟨v, rfl, hown, hbn⟩
            have hbel1 := hbel4.trans (hbn.mono hbel4.size)
            have HK5 := Lib.hid (HK4.out.below hbn)
            obtain ⟨Av, cv, rfl⟩ := hown.slice
            have HOL := Lib.hid hown
            clear hown hbn hce4 d2
            generalize nearL n (L 0) k = ll at *
            go_wp2_with fail
            go_loopw [12] (fun q wi => ∃ m : Nat, m ≤ ll.length ∧ q = .int .i64 m ∧ Below wn.heap.size wn wi) (fun q _ => ll.length - (intOf q).toNat)
            case atStart => exact ⟨0, Nat.zero_le _, rfl, Below.refl _ _⟩
            case round =>
              obtain ⟨m, hm, rfl, hbi⟩ := hrel
              by_cases hlt2 : m < ll.length
              · obtain ⟨bl, rfl, hcl⟩ := (HOL.out.below hbi).at_ hlt2
                have HJ := HMem.out m hlt2
                have HE1 := Lib.hid (HNe.out m hlt2)
                obtain ⟨b5, o5, e5, hc5⟩ := (HK5.out.below hbi) k hlt
                cases e5
                obtain ⟨b6, o6, e6, hc6⟩ := (HK5.out.below hbi) (ll.getD m 0) HJ
                cases e6
                rw [HFe.out] at hc5
                generalize ll.getD m 0 = j at *
                obtain ⟨f2, hf2⟩ : ∃ f2, f2 = F j := ⟨_, rfl⟩
                rw [← hf2] at hc6 HE1
                clear hf2
                by_cases q3 : 0 ≤ f
                · have d3 : decide (0 ≤ f) = true := decide_eq_true q3
                  by_cases q4 : 0 ≤ f2
                  · have d4 : decide (0 ≤ f2) = true := decide_eq_true q4
                    have hx := HE1.out q3 q4
                    subst hx
                    have d5 : (f2 != f2) = false := by simp
                    clear HE1
                    go_wp2_with fail
                    go_quiet (fail)
                    go_wp2_with fail
                    go_roundw
                    case rel => exact ⟨m + 1, by omega, by go_num, below_drewN hbi _⟩
                    case measure => simp [intOf]; omega
                  · have d4 : decide (0 ≤ f2) = false := decide_eq_false q4
                    go_wp2_with fail
                    go_quiet (fail)
                    go_wp2_with fail
                    go_roundw
                    case rel => exact ⟨m + 1, by omega, by go_num, below_drewN hbi _⟩
                    case measure => simp [intOf]; omega
                · have d3 : decide (0 ≤ f) = false := decide_eq_false q3
                  go_wp2_with fail
                  go_quiet (fail)
                  go_wp2_with fail
                  go_roundw
                  case rel => exact ⟨m + 1, by omega, by go_num, below_drewN hbi _⟩
                  case measure => simp [intOf]; omega
              · skip
                go_wp2_with fail
                go_roundw
                case rel => exact ⟨k + 1, by omega, by go_num, val_int (by rw [HNx.out]; omega), hbel1.trans (hbi.mono hbel1.size)⟩
                case measure => simp [intOf]; omega
          · have HNx := Lib.hid (HS5.out q2)
            have d2 : (f == (t : Int)) = false := beq_eq_false_iff_ne.2 q2
            clear q2
            go_wp2_with fail
            refine (nearOf_any _ _ _ _ _ _ _ HG4.out (by omega) (by omega) (by omega) (by omega) HI.out).mono ?_
            rintro e wn ⟨v, rfl, hown, hbn⟩
            have hbel1 := hbel4.trans (hbn.mono hbel4.size)
            have HK5 := Lib.hid (HK4.out.below hbn)
            obtain ⟨Av, cv, rfl⟩ := hown.slice
            have HOL := Lib.hid hown
            clear hown hbn hce4 d2
            generalize nearL n (L 0) k = ll at *
            go_wp2_with fail
            go_loopw [12] (fun q wi => ∃ m : Nat, m ≤ ll.length ∧ q = .int .i64 m ∧ Below wn.heap.size wn wi) (fun q _ => ll.length - (intOf q).toNat)
            case atStart => exact ⟨0, Nat.zero_le _, rfl, Below.refl _ _⟩
            case round =>
              obtain ⟨m, hm, rfl, hbi⟩ := hrel
              by_cases hlt2 : m < ll.length
              · obtain ⟨bl, rfl, hcl⟩ := (HOL.out.below hbi).at_ hlt2
                have HJ := HMem.out m hlt2
                have HE1 := Lib.hid (HNe.out m hlt2)
                obtain ⟨b5, o5, e5, hc5⟩ := (HK5.out.below hbi) k hlt
                cases e5
                obtain ⟨b6, o6, e6, hc6⟩ := (HK5.out.below hbi) (ll.getD m 0) HJ
                cases e6
                rw [HFe.out] at hc5
                generalize ll.getD m 0 = j at *
                obtain ⟨f2, hf2⟩ : ∃ f2, f2 = F j := ⟨_, rfl⟩
                rw [← hf2] at hc6 HE1
                clear hf2
                by_cases q3 : 0 ≤ f
                · have d3 : decide (0 ≤ f) = true := decide_eq_true q3
                  by_cases q4 : 0 ≤ f2
                  · have d4 : decide (0 ≤ f2) = true := decide_eq_true q4
                    have hx := HE1.out q3 q4
                    subst hx
                    have d5 : (f2 != f2) = false := by simp
                    clear HE1
                    go_wp2_with fail
                    go_quiet (fail)
                    go_wp2_with fail
                    go_roundw
                    case rel => exact ⟨m + 1, by omega, by go_num, below_drewN hbi _⟩
                    case measure => simp [intOf]; omega
                  · have d4 : decide (0 ≤ f2) = false := decide_eq_false q4
                    go_wp2_with fail
                    go_quiet (fail)
                    go_wp2_with fail
                    go_roundw
                    case rel => exact ⟨m + 1, by omega, by go_num, below_drewN hbi _⟩
                    case measure => simp [intOf]; omega
                · have d3 : decide (0 ≤ f) = false := decide_eq_false q3
                  go_wp2_with fail
                  go_quiet (fail)
                  go_wp2_with fail
                  go_roundw
                  case rel => exact ⟨m + 1, by omega, by go_num, below_drewN hbi _⟩
                  case measure => simp [intOf]; omega
              · skip
                go_wp2_with fail
                go_roundw
                case rel => exact ⟨k + 1, by omega, by go_num, val_int (by rw [HNx.out]), hbel1.trans (hbi.mono hbel1.size)⟩
                case measure => simp [intOf]; omega
      · obtain rfl : k = N := by omega
        have hbz := hB4.trans (hbel.mono hB4.size)
        go_wp2_with fail
        refine (implLevelRegions_any _ _ _ _ _ _ _ HG1.out (by omega) HL.out (by omega) (by omega)).mono ?_
        rintro e wz ⟨rfl, hbz2⟩
        rw [HTN.out]
        have HGz := Lib.hid (HG1.out.below hbz2)
        go_wp2_with fail
        refine (cellsOf_any _ _ _ _ _ _ HGz.out (by omega) (by omega) (by omega)).mono ?_
        rintro e w' ⟨rfl, rfl⟩
        rw [← HN.out]
        go_wp2_with fail
        go_ret
        exact ⟨rfl, hbz.trans (hbz2.mono hbz.size)⟩
  · have HV := Lib.hid hv
    clear hv
    go_wp2_with fail
    refine (implLevelNumbers_no _ _ _ _ _ _ _ HG.out (by omega) HL.out HV.out).mono ?_
    rintro e w2 ⟨A2, c2, rfl, hown2, hb2⟩
    have KO2 := Lib.hid hown2.row
    clear hown2
    have hB2 : Below w.heap.size w w2 := hB1.trans (hb2.mono hB1.size)
    have Kg2 := Lib.hid (HG.out.below hb2)
    clear HG
    go_wp2_with fail
    refine (specLevelNumbers_no _ _ _ _ _ _ _ Kg2.out (by omega) HL.out HV.out).mono ?_
    rintro e w3 ⟨A3, c3, rfl, hrow3, hb3⟩
    have KW3 := Lib.hid hrow3
    clear hrow3
    have hB3 : Below w.heap.size w w3 := hB2.trans (hb3.mono hB2.size)
    have Kg3 := Lib.hid (Kg2.out.below hb3)
    have Ko3 := Lib.hid (KO2.out.below hb3)
    clear Kg2 KO2
    go_wp2_with fail
    refine (sameInts_yes _ _ _ _ _ _ _ Ko3.out KW3.out (by omega)).mono ?_
    rintro e w4 ⟨rfl, hb4⟩
    have hB4 : Below w.heap.size w w4 := hB3.trans (hb4.mono hB3.size)
    have Kg4 := Lib.hid (Kg3.out.below hb4)
    have Ko4 := Lib.hid (Ko3.out.below hb4)
    have Kw4 := Lib.hid (KW3.out.below hb4)
    clear Kg3 Ko3 KW3
    go_wp2_with fail
    refine (sameInts_yes _ _ _ _ _ _ _ Ko4.out Kw4.out (by omega)).mono ?_
    rintro e w5 ⟨rfl, hb5⟩
    have hB5 : Below w.heap.size w w5 := hB4.trans (hb5.mono hB4.size)
    have Kg5 := Lib.hid (Kg4.out.below hb5)
    have Ko5 := Lib.hid (Ko4.out.below hb5)
    have Kw5 := Lib.hid (Kw4.out.below hb5)
    clear Kg4 Ko4 Kw4
    go_wp2_with fail
    go_ret
    exact ⟨rfl, hB5⟩

end Go.Proofs.Ytgekjhmjjjkibaa
