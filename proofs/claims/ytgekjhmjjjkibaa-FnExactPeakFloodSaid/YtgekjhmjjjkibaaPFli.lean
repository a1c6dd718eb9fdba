/- How high the water stands that joins two cells: what the program's function returns. -/
import Derived.Test.YtgekjhmjjjkibaaPFld
namespace Go.Proofs.Ytgekjhmjjjkibaa
set_option linter.unusedVariables false
set_option linter.unusedSimpArgs false
open Go.RowKit

set_option maxHeartbeats 1500000 in
theorem implPeakFlood_any (A : Option Addr) (n cp : Nat) (L : Nat → Nat) (g : Nat → Nat → Int) (a b : Int) (w : World) (hg : GridF w A n L g) (hn : n ≤ 1048576) (hL : ∀ r, r < n → L r ≤ 1048576) (_h1 : -9223372036854775808 ≤ a) (_h2 : a ≤ 9223372036854775807) (_h3 : -9223372036854775808 ≤ b) (_h4 : b ≤ 9223372036854775807) :
    Calls Try.prog 47 #[.slice A n cp, .int .i64 a, .int .i64 b] w (RetV (.int .i64 (peakFloodV n L g a b)) w) := by
  have HG := Lib.hid hg
  have HL := Lib.hid hL
  clear hg hL
  by_cases hv : Valid n L g
  · have HV := Lib.hid hv
    have hn2 := hv.2.1
    have hl1 := hv.2.2.1
    have hl2 := hv.2.2.2.1
    obtain ⟨N, hN⟩ : ∃ N, N = n * L 0 := ⟨_, rfl⟩
    have HN := Lib.hid hN
    have hN1 : N ≤ 49 := by rw [hN]; exact Nat.le_trans (Nat.mul_le_mul hn2 hl2) (by decide)
    by_cases ha0 : 0 ≤ a ∧ a < N
    · by_cases hb0 : 0 ≤ b ∧ b < N
      · have HE := Lib.hid (show peakFloodV n L g a b = _ from if_pos ⟨⟨hv, ha0.1, by rw [← hN]; exact ha0.2⟩, ⟨hv, hb0.1, by rw [← hN]; exact hb0.2⟩⟩)
        obtain ⟨ha1, ha2⟩ := ha0
        obtain ⟨hb1, hb2⟩ := hb0
        obtain ⟨a, rfl⟩ := Int.eq_ofNat_of_zero_le ha1
        obtain ⟨b, rfl⟩ := Int.eq_ofNat_of_zero_le hb1
        rw [Int.toNat_natCast, Int.toNat_natCast] at HE
        have ha : a < N := by omega
        have hb : b < N := by omega
        clear hv hN ha1 ha2 hb1 hb2
        obtain ⟨p, hp⟩ : ∃ p, p = sameB n (L 0) (flat (L 0) g) a b := ⟨_, rfl⟩
        have HP := Lib.hid hp
        have HE2 : Hid (peakFloodV n L g a b = (fld p 99 : Nat)) := by show _ = _; rw [hp]; exact HE.out
        clear hp HE
        go_enter Try.func47, Try.ntmps47
        go_wp2_with fail
        refine (fieldOf_yes _ _ _ N _ _ _ HG.out HV.out HN).mono ?_
        rintro e w1 ⟨bq, rfl, hlo, hrow, hb1⟩
        have HB0 := Lib.hid (Boxed.new (R := n) (C := L 0) hrow)
        have hbx := hb1.alloc hb1.size (.cells #[.int .i64 n, .int .i64 (L 0), .slice (some ⟨bq, 0, none⟩) N N] 49)
        clear hrow
        go_wp2_with fail
        refine (cell_any _ _ _ _ _ _ _ (by omega) true (Lib.hid ⟨fun _ => ⟨by omega, by omega⟩, fun _ => rfl⟩)).mono ?_
        rintro e w2 ⟨rfl, hb2⟩
        generalize w1.alloc _ = w3 at *
        generalize w1.heap.size = Bf at *
        have HB1 := Lib.hid (HB0.out.below hb2)
        have hbw2 := hbx.trans (hb2.mono hbx.size)
        have x0 := cell_of_blk (i := 0) HB1.out.box rfl
        have x1 := cell_of_blk (i := 1) HB1.out.box rfl
        have x2 := cell_of_blk (i := 2) HB1.out.box rfl
        go_wp2_with fail
        refine (cell_any _ _ _ _ _ _ _ (by omega) true (Lib.hid ⟨fun _ => ⟨by omega, by omega⟩, fun _ => rfl⟩)).mono ?_
        rintro e w5 ⟨rfl, hb5⟩
        have HB := Lib.hid (HB1.out.below hb5)
        have hbw5 := hbw2.trans (hb5.mono hbw2.size)
        clear x0 x1 x2 HB0 HB1 hbx hb1 hb2 hb5 hbw2 hlo
        go_wp2_with fail
        go_loopw [9] (fun lv wi => ∃ k : Nat, k ≤ 99 ∧ lv = .int .i64 k ∧ Hid (fld p 99 = fld p k) ∧ Below w5.heap.size w5 wi) (fun lv _ => (intOf lv).toNat)
        case atStart => exact ⟨99, Nat.le_refl _, rfl, rfl, Below.refl _ _⟩
        case round =>
          obtain ⟨k, hk, rfl, HF, hbel⟩ := hrel
          rcases Nat.eq_zero_or_pos k with h0 | h0
          · subst h0
            have HF0 : Hid (fld p 99 = 0) := HF.out
            go_wp2_with fail
            go_ret
            exact ⟨ret_int (by rw [HE2.out, HF0.out] <;> rfl), hbw5.trans (hbel.mono hbw5.size)⟩
          · obtain ⟨k, rfl⟩ : ∃ j, k = j + 1 := ⟨k - 1, by omega⟩
            have HB2 := Lib.hid (HB.out.below hbel)
            have x0 := cell_of_blk (i := 0) HB2.out.box rfl
            have x1 := cell_of_blk (i := 1) HB2.out.box rfl
            have x2 := cell_of_blk (i := 2) HB2.out.box rfl
            go_wp2_with fail
            refine (regions_any _ _ _ _ _ _ _ hl1 (by omega) (by omega) HN (Lib.hid HB2.out.row)).mono ?_
            rintro e w2 ⟨q, rfl, _, hrow, hb2⟩
            have hca := hrow.cell ha
            have hcb := hrow.cell hb
            clear x0 x1 x2
            have hbel2 := hbel.trans (hb2.mono hbel.size)
            have HPk : Hid (p (k + 1) = decide (0 ≤ regV n (L 0) (flat (L 0) g) (k + 1 : Nat) a ∧ regV n (L 0) (flat (L 0) g) (k + 1 : Nat) a = regV n (L 0) (flat (L 0) g) (k + 1 : Nat) b)) := by
              show _ = _
              rw [HP.out]; rfl
            clear hrow
            have ek : ((k + 1 : Nat) : Int) = (k : Int) + 1 := by omega
            rw [ek] at HPk
            clear ek
            generalize regV n (L 0) (flat (L 0) g) _ a = y1 at *
            generalize regV n (L 0) (flat (L 0) g) _ b = y2 at *
            generalize regN _ _ _ _ = c at *
            clear HB2
            by_cases q1 : 0 ≤ y1
            · have d1 : decide (0 ≤ y1) = true := decide_eq_true q1
              by_cases q2 : y1 = y2
              · have d2 : (y1 == y2) = true := beq_iff_eq.2 q2
                have HT : Hid (fld p (k + 1) = k + 1) := fld_yes (by rw [HPk.out]; exact decide_eq_true ⟨q1, q2⟩)
                clear q2 HPk
                go_wp2_with fail
                go_quiet (fail)
                go_wp2_with fail
                go_ret
                exact ⟨ret_int (by rw [HE2.out, HF.out, HT.out]; omega), hbw5.trans ((below_drewN hbel2 _).mono hbw5.size)⟩
              · have d2 : (y1 == y2) = false := beq_eq_false_iff_ne.2 q2
                have HT : Hid (fld p (k + 1) = fld p k) := fld_no (by rw [HPk.out]; exact decide_eq_false fun hh => q2 hh.2)
                clear q2 HPk
                go_wp2_with fail
                go_quiet (fail)
                go_wp2_with fail
                go_roundw
                case rel => exact ⟨k, by omega, by go_num, HF.out.trans HT.out, below_drewN hbel2 _⟩
                case measure => simp [intOf]
            · have d1 : decide (0 ≤ y1) = false := decide_eq_false q1
              have HT : Hid (fld p (k + 1) = fld p k) := fld_no (by rw [HPk.out]; exact decide_eq_false fun hh => q1 hh.1)
              clear HPk
              go_wp2_with fail
              go_quiet (fail)
              go_wp2_with fail
              go_roundw
              case rel => exact ⟨k, by omega, by go_num, HF.out.trans HT.out, below_drewN hbel2 _⟩
              case measure => simp [intOf]
      · have HE := Lib.hid (show peakFloodV n L g a b = _ from if_neg (fun hh => hb0 ⟨hh.2.2.1, by rw [hN]; exact hh.2.2.2⟩))
        clear hv hN
        go_enter Try.func47, Try.ntmps47
        go_wp2_with fail
        refine (fieldOf_yes _ _ _ N _ _ _ HG.out HV.out HN).mono ?_
        rintro e w1 ⟨bq, rfl, hlo, hrow, hb1⟩
        have HB0 := Lib.hid (Boxed.new (R := n) (C := L 0) hrow)
        have hbx := hb1.alloc hb1.size (.cells #[.int .i64 n, .int .i64 (L 0), .slice (some ⟨bq, 0, none⟩) N N] 49)
        clear hrow
        go_wp2_with fail
        refine (cell_any _ _ _ _ _ _ _ (by omega) true (Lib.hid ⟨fun _ => ⟨by omega, by omega⟩, fun _ => rfl⟩)).mono ?_
        rintro e w2 ⟨rfl, hb2⟩
        generalize w1.alloc _ = w3 at *
        generalize w1.heap.size = Bf at *
        have HB1 := Lib.hid (HB0.out.below hb2)
        have hbw2 := hbx.trans (hb2.mono hbx.size)
        have x0 := cell_of_blk (i := 0) HB1.out.box rfl
        have x1 := cell_of_blk (i := 1) HB1.out.box rfl
        have x2 := cell_of_blk (i := 2) HB1.out.box rfl
        go_wp2_with fail
        refine (cell_any _ _ _ _ _ _ _ (by omega) false (Lib.hid ⟨fun h => (by cases h), fun h => (by exfalso; omega)⟩)).mono ?_
        rintro e w5 ⟨rfl, hb5⟩
        go_wp2_with fail
        go_ret
        exact ⟨ret_int HE.out.symm, hbw2.trans (hb5.mono hbw2.size)⟩
    · have HE := Lib.hid (show peakFloodV n L g a b = _ from if_neg (fun hh => ha0 ⟨hh.1.2.1, by rw [hN]; exact hh.1.2.2⟩))
      clear hv hN
      go_enter Try.func47, Try.ntmps47
      go_wp2_with fail
      refine (fieldOf_yes _ _ _ N _ _ _ HG.out HV.out HN).mono ?_
      rintro e w1 ⟨bq, rfl, hlo, hrow, hb1⟩
      have hbx := hb1.alloc hb1.size (.cells #[.int .i64 n, .int .i64 (L 0), .slice (some ⟨bq, 0, none⟩) N N] 49)
      clear hrow
      go_wp2_with fail
      refine (cell_any _ _ _ _ _ _ _ (by omega) false (Lib.hid ⟨fun h => (by cases h), fun h => (by exfalso; omega)⟩)).mono ?_
      rintro e w2 ⟨rfl, hb2⟩
      go_wp2_with fail
      go_ret
      exact ⟨ret_int HE.out.symm, hbx.trans (hb2.mono hbx.size)⟩
  · have HE := Lib.hid (show peakFloodV n L g a b = _ from if_neg (fun hh => hv hh.1.1))
    have HV := Lib.hid hv
    clear hv
    go_enter Try.func47, Try.ntmps47
    go_wp2_with fail
    refine (fieldOf_no _ _ _ _ _ _ HG.out hn HL.out HV.out).mono ?_
    rintro e w1 ⟨rfl, hb1⟩
    go_wp2_with fail
    go_ret
    exact ⟨ret_int HE.out.symm, hb1.alloc hb1.size _⟩

end Go.Proofs.Ytgekjhmjjjkibaa
