/- How high the water stands that joins two cells: what the reference's and the program's functions return. -/
import Derived.Test.YtgekjhmjjjkibaaSPas
import Derived.Test.YtgekjhmjjjkibaaSNum
import Derived.Test.YtgekjhmjjjkibaaRegi
import Derived.Test.YtgekjhmjjjkibaaLvn
import Derived.Test.YtgekjhmjjjkibaaPk
namespace Go.Proofs.Ytgekjhmjjjkibaa
set_option linter.unusedVariables false
set_option linter.unusedSimpArgs false
open Go.RowKit

theorem fld_no {p : Nat → Bool} {k : Nat} (h : p (k + 1) = false) : fld p (k + 1) = fld p k := by simp only [fld, h]; simp
theorem fld_yes {p : Nat → Bool} {k : Nat} (h : p (k + 1) = true) : fld p (k + 1) = k + 1 := by simp only [fld, h]; simp

theorem specPass_yes (A : Option Addr) (n cp a b : Nat) (L : Nat → Nat) (g : Nat → Nat → Int) (w : World) (hg : GridF w A n L g) (hv : Valid n L g) (ha : a < n * L 0) (hb : b < n * L 0) :
    Calls Try.prog 43 #[.slice A n cp, .int .i64 a, .int .i64 b] w (fun e w' => RetV (.int .i64 (passV n (L 0) (flat (L 0) g) a b)) w e w' ∧ 0 ≤ passV n (L 0) (flat (L 0) g) a b) := by
  have HG := Lib.hid hg
  have HV := Lib.hid hv
  have HA : Hid (HasIdx n L g (a : Int)) := ⟨hv, by omega, by omega⟩
  have HB : Hid (HasIdx n L g (b : Int)) := ⟨hv, by omega, by omega⟩
  have HI := Lib.hid ha
  have hn2 := hv.2.1
  have hl2 := hv.2.2.2.1
  obtain ⟨N, hN⟩ : ∃ N, N = n * L 0 := ⟨_, rfl⟩
  have HN := Lib.hid hN
  have hN1 : N ≤ 49 := by rw [hN]; exact Nat.le_trans (Nat.mul_le_mul hn2 hl2) (by decide)
  rw [← hN] at hb
  clear hg hv ha hN
  go_enter Try.func43, Try.ntmps43
  go_wp2_with fail
  refine (l4Has_yes _ _ _ _ _ _ _ HG.out HA.out).mono ?_
  rintro e w1 ⟨rfl, hb1⟩
  have HG1 := Lib.hid (HG.out.below hb1)
  go_wp2_with fail
  refine (l4Has_yes _ _ _ _ _ _ _ HG1.out HB.out).mono ?_
  rintro e w2 ⟨rfl, hb2⟩
  have hbb := hb1.trans (hb2.mono hb1.size)
  have HG2 := Lib.hid (HG1.out.below hb2)
  go_wp2_with fail
  refine (l4Passes_any _ _ _ _ _ _ _ HG2.out HV.out HI.out).mono ?_
  rintro e w3 ⟨v, rfl, hown, hpos, hb3⟩
  rw [← HN.out] at hown hpos
  obtain ⟨Av, cv, rfl, _⟩ := hown.s.slice
  obtain ⟨bo, rfl, _, hbo, hcells⟩ := hown.cells (by omega)
  have hcb := (hcells b hb).1
  have hp := hpos b hb
  clear hcells hown hpos
  obtain ⟨x, hx⟩ : ∃ x, x = passV n (L 0) (flat (L 0) g) a b := ⟨_, rfl⟩
  rw [← hx] at hcb hp
  have HX := Lib.hid hx
  clear hx
  go_wp2_with fail
  go_ret
  exact ⟨⟨ret_int HX.out, hbb.trans (hb3.mono hbb.size)⟩, by rw [← HX.out]; exact hp⟩

theorem specPass_no (A : Option Addr) (n cp : Nat) (a b : Int) (L : Nat → Nat) (g : Nat → Nat → Int) (w : World) (hg : GridF w A n L g) (hn : n ≤ 1048576) (hL : ∀ r, r < n → L r ≤ 1048576) (h : ¬ (HasIdx n L g a ∧ HasIdx n L g b)) :
    Calls Try.prog 43 #[.slice A n cp, .int .i64 a, .int .i64 b] w (RetV (.int .i64 (-1)) w) := by
  have HG := Lib.hid hg
  have HL := Lib.hid hL
  clear hg hL
  by_cases ha : HasIdx n L g a
  · have HA := Lib.hid ha
    have HB : Hid (¬ HasIdx n L g b) := fun hb => h ⟨ha, hb⟩
    clear h ha
    go_enter Try.func43, Try.ntmps43
    go_wp2_with fail
    refine (l4Has_yes _ _ _ _ _ _ _ HG.out HA.out).mono ?_
    rintro e w1 ⟨rfl, hb1⟩
    have HG1 := Lib.hid (HG.out.below hb1)
    go_wp2_with fail
    refine (l4Has_no _ _ _ _ _ _ _ HG1.out hn HL.out HB.out).mono ?_
    rintro e w2 ⟨rfl, hb2⟩
    have hbb := hb1.trans (hb2.mono hb1.size)
    go_wp2_with fail
    go_ret
    exact ⟨rfl, hbb⟩
  · have HA := Lib.hid ha
    clear h ha
    go_enter Try.func43, Try.ntmps43
    go_wp2_with fail
    refine (l4Has_no _ _ _ _ _ _ _ HG.out hn HL.out HA.out).mono ?_
    rintro e w1 ⟨rfl, hb1⟩
    go_wp2_with fail
    go_ret
    exact ⟨rfl, hb1⟩

noncomputable def peakFloodV (n : Nat) (L : Nat → Nat) (g : Nat → Nat → Int) (a b : Int) : Int := if HasIdx n L g a ∧ HasIdx n L g b then (floodV n (L 0) (flat (L 0) g) a.toNat b.toNat : Nat) else -1

set_option maxHeartbeats 1500000 in
theorem specPeakFlood_any (A : Option Addr) (n cp : Nat) (L : Nat → Nat) (g : Nat → Nat → Int) (a b : Int) (w : World) (hg : GridF w A n L g) (hn : n ≤ 1048576) (hL : ∀ r, r < n → L r ≤ 1048576) (_h1 : -9223372036854775808 ≤ a) (_h2 : a ≤ 9223372036854775807) (_h3 : -9223372036854775808 ≤ b) (_h4 : b ≤ 9223372036854775807) :
    Calls Try.prog 46 #[.slice A n cp, .int .i64 a, .int .i64 b] w (RetV (.int .i64 (peakFloodV n L g a b)) w) := by
  have HG := Lib.hid hg
  have HL := Lib.hid hL
  clear hg hL
  by_cases hv : HasIdx n L g a ∧ HasIdx n L g b
  · have HE := Lib.hid (show peakFloodV n L g a b = _ from if_pos hv)
    obtain ⟨⟨hv, ha1, ha2⟩, _, hb1, hb2⟩ := hv
    obtain ⟨a, rfl⟩ := Int.eq_ofNat_of_zero_le ha1
    obtain ⟨b, rfl⟩ := Int.eq_ofNat_of_zero_le hb1
    rw [Int.toNat_natCast, Int.toNat_natCast] at HE
    have HV := Lib.hid hv
    have hn2 := hv.2.1
    have hl2 := hv.2.2.2.1
    obtain ⟨N, hN⟩ : ∃ N, N = n * L 0 := ⟨_, rfl⟩
    have HN := Lib.hid hN
    have hN1 : N ≤ 49 := by rw [hN]; exact Nat.le_trans (Nat.mul_le_mul hn2 hl2) (by decide)
    rw [← hN] at ha2 hb2
    have ha : a < N := by omega
    have hb : b < N := by omega
    clear hv hN ha1 ha2 hb1 hb2
    obtain ⟨p, hp⟩ : ∃ p, p = sameB n (L 0) (flat (L 0) g) a b := ⟨_, rfl⟩
    have HP := Lib.hid hp
    have HE2 : Hid (peakFloodV n L g a b = (fld p 99 : Nat)) := by show _ = _; rw [hp]; exact HE.out
    clear hp HE
    go_enter Try.func46, Try.ntmps46
    go_wp2_with fail
    refine (specPass_yes _ _ _ _ _ _ _ _ HG.out HV.out (by rw [← HN.out]; exact ha) (by rw [← HN.out]; exact hb)).mono ?_
    rintro e w1 ⟨⟨rfl, hbw1⟩, hpos⟩
    generalize passV _ _ _ _ _ = x at *
    have HG1 := Lib.hid (HG.out.below hbw1)
    have d0 : decide (x < 0) = false := decide_eq_false (by omega)
    go_wp2_with fail
    clear d0 hpos
    go_loopw [7] (fun lv wi => ∃ k : Nat, k ≤ 99 ∧ lv = .int .i64 k ∧ Hid (fld p 99 = fld p k) ∧ Below w1.heap.size w1 wi) (fun lv _ => (intOf lv).toNat)
    case atStart => exact ⟨99, Nat.le_refl _, rfl, rfl, Below.refl _ _⟩
    case round =>
      obtain ⟨k, hk, rfl, HF, hbel⟩ := hrel
      rcases Nat.eq_zero_or_pos k with h0 | h0
      · subst h0
        have HF0 : Hid (fld p 99 = 0) := HF.out
        go_wp2_with fail
        go_ret
        exact ⟨ret_int (by rw [HE2.out, HF0.out]), hbw1.trans (hbel.mono hbw1.size)⟩
      · obtain ⟨k, rfl⟩ : ∃ j, k = j + 1 := ⟨k - 1, by omega⟩
        have HG2 := Lib.hid (HG1.out.below hbel)
        go_wp2_with fail
        refine (l3Numbers_any _ _ _ _ _ _ _ HG2.out HV.out).mono ?_
        rintro e w2 ⟨A2, c2, rfl, hown, hb2⟩
        rw [← HN.out] at hown
        rw [← HN.out]
        obtain ⟨bo, rfl, _, _, hcells⟩ := hown.cells (by omega)
        have hca := (hcells a ha).1
        have hcb := (hcells b hb).1
        have hbel2 := hbel.trans (hb2.mono hbel.size)
        have HPk : Hid (p (k + 1) = decide (0 ≤ regV n (L 0) (flat (L 0) g) (k + 1 : Nat) a ∧ regV n (L 0) (flat (L 0) g) (k + 1 : Nat) a = regV n (L 0) (flat (L 0) g) (k + 1 : Nat) b)) := by
          show _ = _
          rw [HP.out]; rfl
        clear hown hcells
        have ek : ((k + 1 : Nat) : Int) = (k : Int) + 1 := by omega
        rw [ek] at HPk
        clear ek
        generalize regV n (L 0) (flat (L 0) g) _ a = x1 at *
        generalize regV n (L 0) (flat (L 0) g) _ b = x2 at *
        generalize regN _ _ _ _ = c at *
        by_cases q1 : 0 ≤ x1
        · have d1 : decide (0 ≤ x1) = true := decide_eq_true q1
          by_cases q2 : x1 = x2
          · have d2 : (x1 == x2) = true := beq_iff_eq.2 q2
            have HT : Hid (fld p (k + 1) = k + 1) := fld_yes (by rw [HPk.out]; exact decide_eq_true ⟨q1, q2⟩)
            clear q2 HPk
            go_wp2_with fail
            go_quiet (fail)
            go_wp2_with fail
            go_ret
            exact ⟨ret_int (by rw [HE2.out, HF.out, HT.out]; omega), hbw1.trans ((below_drewN hbel2 _).mono hbw1.size)⟩
          · have d2 : (x1 == x2) = false := beq_eq_false_iff_ne.2 q2
            have HT : Hid (fld p (k + 1) = fld p k) := fld_no (by rw [HPk.out]; exact decide_eq_false fun hh => q2 hh.2)
            clear q2 HPk
            go_wp2_with fail
            go_quiet (fail)
            go_wp2_with fail
            go_roundw
            case rel => exact ⟨k, by omega, by go_num, HF.out.trans HT.out, below_drewN hbel2 _⟩
            case measure => simp [intOf]
        · have d1 : decide (0 ≤ x1) = false := decide_eq_false q1
          have HT : Hid (fld p (k + 1) = fld p k) := fld_no (by rw [HPk.out]; exact decide_eq_false fun hh => q1 hh.1)
          clear HPk
          go_wp2_with fail
          go_quiet (fail)
          go_wp2_with fail
          go_roundw
          case rel => exact ⟨k, by omega, by go_num, HF.out.trans HT.out, below_drewN hbel2 _⟩
          case measure => simp [intOf]
  · have HE := Lib.hid (show peakFloodV n L g a b = _ from if_neg hv)
    have HV := Lib.hid hv
    clear hv
    go_enter Try.func46, Try.ntmps46
    go_wp2_with fail
    refine (specPass_no _ _ _ _ _ _ _ _ HG.out hn HL.out HV.out).mono ?_
    rintro e w1 ⟨rfl, hb1⟩
    go_wp2_with fail
    go_ret
    exact ⟨ret_int HE.out.symm, hb1⟩

end Go.Proofs.Ytgekjhmjjjkibaa
