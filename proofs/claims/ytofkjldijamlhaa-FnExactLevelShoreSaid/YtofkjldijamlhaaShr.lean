/- The shore: what the program's and the reference's functions return. -/
import Derived.Test.YtofkjldijamlhaaSid
namespace Go.Proofs.Ytofkjldijamlhaa
set_option linter.unusedVariables false
set_option linter.unusedSimpArgs false
open Go.RowKit

def landP (h : Nat → Int) (l : Int) (j : Nat) : Bool := decide (l ≤ h j)
def shoreN (R C : Nat) (h : Nat → Int) (l : Int) (i : Nat) : Nat := if l ≤ h i then 4 - cntL (landP h l) (nearL R C i) (nearL R C i).length else 0
def shoreS (R C : Nat) (h : Nat → Int) (l : Int) : Nat := sumTo (shoreN R C h l) (R * C)
theorem shoreN_le (R C : Nat) (h : Nat → Int) (l : Int) (i : Nat) : shoreN R C h l i ≤ 4 := by unfold shoreN; split <;> omega

def levelShoreV (n : Nat) (L : Nat → Nat) (g : Nat → Nat → Int) (l : Int) : Int := if Lvl n L g l then (shoreS n (L 0) (flat (L 0) g) l : Nat) else -1

set_option maxHeartbeats 1000000 in
theorem implLevelShore_any (A : Option Addr) (n cp : Nat) (L : Nat → Nat) (g : Nat → Nat → Int) (l : Int) (w : World) (hg : GridF w A n L g) (hn : n ≤ 1048576) (hL : ∀ r, r < n → L r ≤ 1048576) (_hl1 : -9223372036854775808 ≤ l) (_hl2 : l ≤ 9223372036854775807) :
    Calls Try.prog 41 #[.slice A n cp, .int .i64 l] w (RetV (.int .i64 (levelShoreV n L g l)) w) := by
  have HG := Lib.hid hg
  have HL := Lib.hid hL
  clear hg hL
  by_cases hv : Lvl n L g l
  · have HE := Lib.hid (show levelShoreV n L g l = _ from if_pos hv)
    have HV := Lib.hid hv
    have hn1 := hv.1.1
    have hn2 := hv.1.2.1
    have hl1 := hv.1.2.2.1
    have hl2 := hv.1.2.2.2.1
    obtain ⟨N, hN⟩ : ∃ N, N = n * L 0 := ⟨_, rfl⟩
    have hN1 : N ≤ 49 := by rw [hN]; exact Nat.le_trans (Nat.mul_le_mul hn2 hl2) (by decide)
    have HN := Lib.hid hN
    obtain ⟨h, hh⟩ : ∃ h, h = flat (L 0) g := ⟨_, rfl⟩
    have HH := Lib.hid hh
    rw [← hh] at HE
    have HSV : Hid (shoreS n (L 0) h l = sumTo (shoreN n (L 0) h l) N) := by rw [hN]; rfl
    have HSB := Lib.hid (sumTo_bound (shoreN_le n (L 0) h l))
    clear hv hN hh
    go_enter Try.func41, Try.ntmps41
    go_wp2_with fail
    refine (leveled_yes _ _ _ N _ _ _ _ HG.out HV.out HN).mono ?_
    rintro e w1 ⟨b, rfl, hlo, hrow, hb1⟩
    rw [← HH.out] at hrow
    have HB := Lib.hid (Boxed.new (R := n) (C := L 0) hrow)
    have hbx := hb1.alloc hb1.size (.cells #[.int .i64 n, .int .i64 (L 0), .slice (some ⟨b, 0, none⟩) N N] 49)
    clear hrow hb1
    go_wp2_with fail
    generalize w1.alloc _ = w2 at *
    generalize w1.heap.size = Bf at *
    go_loopw [7, 23] (fun v q wr => ∃ k : Nat, k ≤ N ∧ q = .int .i64 k ∧ v = .int .i64 (sumTo (shoreN n (L 0) h l) k : Nat) ∧ Below w2.heap.size w2 wr) (fun _ q _ => N - (intOf q).toNat)
    case atStart => exact ⟨0, Nat.zero_le _, rfl, rfl, Below.refl _ _⟩
    case round =>
      obtain ⟨k, hk, rfl, rfl, hbel⟩ := hrel
      have hsb := HSB.out k
      by_cases hlt : k < N
      · have HB1 := Lib.hid (HB.out.below hbel)
        have x0 := cell_of_blk (i := 0) HB1.out.box rfl
        have x1 := cell_of_blk (i := 1) HB1.out.box rfl
        have x2 := cell_of_blk (i := 2) HB1.out.box rfl
        have hck := HB1.out.row.cell hlt
        have HI : Hid (k < n * L 0) := by show k < n * L 0; rw [← HN.out]; exact hlt
        by_cases hq : l ≤ h k
        · have HSN : Hid (shoreN n (L 0) h l k = 4 - cntL (landP h l) (nearL n (L 0) k) (nearL n (L 0) k).length) := if_pos hq
          have HMem : Hid (∀ q, q < (nearL n (L 0) k).length → (nearL n (L 0) k).getD q 0 < N) := fun q hq => by rw [HN.out]; exact nearL_lt HI.out (getD_in hq)
          have hl4 := nearL_len n (L 0) k
          go_wp2_with fail
          refine (neighbors_any n (L 0) N b k _ hl1 (by omega) (by omega) HI.out).mono ?_
          rintro e w3 ⟨v, rfl, hown, hb3⟩
          have HB2 := Lib.hid (HB1.out.below hb3)
          have hB3 := hbel.trans (hb3.mono hbel.size)
          obtain ⟨Av, cv, rfl⟩ := hown.slice
          have HO := Lib.hid hown
          clear hown x0 x1 x2 hck HB1 hb3
          generalize nearL n (L 0) k = ll at *
          go_wp2_with fail
          go_loopw [7, 37] (fun v q wi => ∃ m : Nat, m ≤ ll.length ∧ q = .int .i64 m ∧ v = .int .i64 (((sumTo (shoreN n (L 0) h l) k + 4 : Nat) : Int) - (cntL (landP h l) ll m : Nat)) ∧ Below w3.heap.size w3 wi) (fun _ q _ => ll.length - (intOf q).toNat)
          case atStart => exact ⟨0, Nat.zero_le _, rfl, val_int (by simp [cntL]), Below.refl _ _⟩
          case round =>
            obtain ⟨m, hm, rfl, rfl, hbi⟩ := hrel
            have hcl := cntL_le (landP h l) ll m
            by_cases hlt2 : m < ll.length
            · obtain ⟨bl, rfl, hce⟩ := (HO.out.below hbi).at_ hlt2
              have HB3 := HB2.out.below hbi
              have x2 := cell_of_blk (i := 2) HB3.box rfl
              have hjN := HMem.out m hlt2
              have hcj := HB3.row.cell hjN
              clear HB3
              by_cases hp : l ≤ h (ll.getD m 0)
              · have HC := Lib.hid (cntL_yes (p := landP h l) (l := ll) (k := m) (decide_eq_true hp))
                generalize ll.getD m 0 = j at *
                go_wp2_with fail
                go_roundw
                case rel => exact ⟨m + 1, by omega, by go_num, val_int (by rw [HC.out] <;> omega), hbi⟩
                case measure => simp [intOf]; omega
              · have HC := Lib.hid (cntL_no (p := landP h l) (l := ll) (k := m) (decide_eq_false hp))
                generalize ll.getD m 0 = j at *
                go_wp2_with fail
                go_roundw
                case rel => exact ⟨m + 1, by omega, by go_num, val_int (by rw [HC.out] <;> omega), hbi⟩
                case measure => simp [intOf]; omega
            · have HM : Hid (m = ll.length) := by show m = ll.length; omega
              go_wp2_with fail
              go_roundw
              case rel => exact ⟨k + 1, by omega, by go_num, val_int (by rw [sumTo, HSN.out, ← HM.out]; omega), hB3.trans (hbi.mono hB3.size)⟩
              case measure => simp [intOf]; omega
        · have HSN : Hid (shoreN n (L 0) h l k = 0) := if_neg hq
          go_wp2_with fail
          go_roundw
          case rel => exact ⟨k + 1, by omega, by go_num, val_int (by rw [sumTo, HSN.out]; omega), hbel⟩
          case measure => simp [intOf]; omega
      · have HK : Hid (k = N) := by show k = N; omega
        go_wp2_with fail
        go_ret
        exact ⟨ret_int (by rw [HE.out, HSV.out, HK.out]), hbx.trans (hbel.mono hbx.size)⟩
  · have HE := Lib.hid (show levelShoreV n L g l = _ from if_neg hv)
    have HV := Lib.hid hv
    clear hv
    go_enter Try.func41, Try.ntmps41
    go_wp2_with fail
    refine (leveled_no _ _ _ _ _ _ _ HG.out hn HL.out HV.out).mono ?_
    rintro e w1 ⟨rfl, hb1⟩
    go_wp2_with fail
    go_ret
    exact ⟨ret_int HE.out.symm, hb1.alloc hb1.size _⟩

set_option maxHeartbeats 1000000 in
theorem specLevelShore_any (A : Option Addr) (n cp : Nat) (L : Nat → Nat) (g : Nat → Nat → Int) (l : Int) (w : World) (hg : GridF w A n L g) (hn : n ≤ 1048576) (hL : ∀ r, r < n → L r ≤ 1048576) (_hl1 : -9223372036854775808 ≤ l) (_hl2 : l ≤ 9223372036854775807) :
    Calls Try.prog 40 #[.slice A n cp, .int .i64 l] w (RetV (.int .i64 (levelShoreV n L g l)) w) := by
  have HG := Lib.hid hg
  have HL := Lib.hid hL
  clear hg hL
  by_cases hv : Lvl n L g l
  · have HE := Lib.hid (show levelShoreV n L g l = _ from if_pos hv)
    have HV := Lib.hid hv
    have hn1 := hv.1.1
    have hn2 := hv.1.2.1
    have hl1 := hv.1.2.2.1
    have hl2 := hv.1.2.2.2.1
    clear hv
    obtain ⟨N, hN⟩ : ∃ N, N = n * L 0 := ⟨_, rfl⟩
    have hN1 : N ≤ 49 := by rw [hN]; exact Nat.le_trans (Nat.mul_le_mul hn2 hl2) (by decide)
    have HN := Lib.hid hN
    obtain ⟨h, hh⟩ : ∃ h, h = flat (L 0) g := ⟨_, rfl⟩
    have HH := Lib.hid hh
    have HSV : Hid (shoreS n (L 0) h l = sumTo (shoreN n (L 0) h l) N) := by rw [hN]; rfl
    have HSB := Lib.hid (sumTo_bound (shoreN_le n (L 0) h l))
    rw [← hh] at HE
    clear hN hh
    go_enter Try.func40, Try.ntmps40
    go_wp2_with fail
    refine (l3Ok_yes _ _ _ _ _ _ _ HG.out HV.out).mono ?_
    rintro e w0 ⟨rfl, hb0⟩
    have HG0 := Lib.hid (HG.out.below hb0)
    clear HG
    go_wp2_with fail
    go_loopw [5, 6] (fun v q wr => ∃ k : Nat, k ≤ N ∧ q = .int .i64 k ∧ v = .int .i64 (sumTo (shoreN n (L 0) h l) k : Nat) ∧ Below w0.heap.size w0 wr) (fun _ q _ => N - (intOf q).toNat)
    case atStart => exact ⟨0, Nat.zero_le _, rfl, rfl, Below.refl _ _⟩
    case round =>
      obtain ⟨k, hk, rfl, rfl, hbel⟩ := hrel
      have HG1 := Lib.hid (HG0.out.below hbel)
      have hsb := HSB.out k
      go_wp2_with fail
      refine (l2Cells_any _ _ _ _ _ _ HG1.out (by omega) (by omega) (by omega)).mono ?_
      rintro e w' ⟨rfl, rfl⟩
      rw [← HN.out]
      by_cases hlt : k < N
      · have HI : Hid (k < n * L 0) := by show k < n * L 0; rw [← HN.out]; exact hlt
        go_wp2_with fail
        refine (l2Height_h _ _ _ _ _ _ h _ HG1.out HV.out.1 HH HI.out).mono ?_
        rintro e w2 ⟨rfl, hb2⟩
        have HG2 := Lib.hid (HG1.out.below hb2)
        have hB2 := hbel.trans (hb2.mono hbel.size)
        by_cases hq : l ≤ h k
        · have HSN : Hid (shoreN n (L 0) h l k = 4 - cntL (landP h l) (nearL n (L 0) k) (nearL n (L 0) k).length) := if_pos hq
          have HMem : Hid (∀ q, q < (nearL n (L 0) k).length → (nearL n (L 0) k).getD q 0 < n * L 0) := fun q hq => nearL_lt HI.out (getD_in hq)
          have hl4 := nearL_len n (L 0) k
          go_wp2_with fail
          refine (l2Near_any _ _ _ _ _ _ _ HG2.out (by omega) (by omega) (by omega) (by omega) HI.out).mono ?_
          rintro e w3 ⟨v, rfl, hown, hb3⟩
          have HG3 := Lib.hid (HG2.out.below hb3)
          have hB3 := hB2.trans (hb3.mono hB2.size)
          obtain ⟨Av, cv, rfl⟩ := hown.slice
          have HO := Lib.hid hown
          clear hown HG1 HG2 hb3
          generalize nearL n (L 0) k = ll at *
          go_wp2_with fail
          go_loopw [5, 8] (fun v q wi => ∃ m : Nat, m ≤ ll.length ∧ q = .int .i64 m ∧ v = .int .i64 (((sumTo (shoreN n (L 0) h l) k + 4 : Nat) : Int) - (cntL (landP h l) ll m : Nat)) ∧ Below w3.heap.size w3 wi) (fun _ q _ => ll.length - (intOf q).toNat)
          case atStart => exact ⟨0, Nat.zero_le _, rfl, val_int (by simp [cntL]), Below.refl _ _⟩
          case round =>
            obtain ⟨m, hm, rfl, rfl, hbi⟩ := hrel
            have hcl := cntL_le (landP h l) ll m
            by_cases hlt2 : m < ll.length
            · obtain ⟨bl, rfl, hce⟩ := (HO.out.below hbi).at_ hlt2
              have HG4 := Lib.hid (HG3.out.below hbi)
              have HJ := Lib.hid (HMem.out m hlt2)
              have hj49 : ll.getD m 0 ≤ 49 := by have := HJ.out; have := HN.out; omega
              by_cases hp : l ≤ h (ll.getD m 0)
              · have HC := Lib.hid (cntL_yes (p := landP h l) (l := ll) (k := m) (decide_eq_true hp))
                generalize ll.getD m 0 = j at *
                go_wp2_with fail
                refine (l2Height_h _ _ _ _ _ _ h _ HG4.out HV.out.1 HH HJ.out).mono ?_
                rintro e w5 ⟨rfl, hb5⟩
                go_wp2_with fail
                go_roundw
                case rel => exact ⟨m + 1, by omega, by go_num, val_int (by rw [HC.out]; omega), hbi.trans (hb5.mono hbi.size)⟩
                case measure => simp [intOf]; omega
              · have HC := Lib.hid (cntL_no (p := landP h l) (l := ll) (k := m) (decide_eq_false hp))
                generalize ll.getD m 0 = j at *
                go_wp2_with fail
                refine (l2Height_h _ _ _ _ _ _ h _ HG4.out HV.out.1 HH HJ.out).mono ?_
                rintro e w5 ⟨rfl, hb5⟩
                go_wp2_with fail
                go_roundw
                case rel => exact ⟨m + 1, by omega, by go_num, val_int (by rw [HC.out]; omega), hbi.trans (hb5.mono hbi.size)⟩
                case measure => simp [intOf]; omega
            · have HM : Hid (m = ll.length) := by show m = ll.length; omega
              go_wp2_with fail
              go_roundw
              case rel => exact ⟨k + 1, by omega, by go_num, val_int (by rw [sumTo, HSN.out, ← HM.out]; omega), hB3.trans (hbi.mono hB3.size)⟩
              case measure => simp [intOf]; omega
        · have HSN : Hid (shoreN n (L 0) h l k = 0) := if_neg hq
          go_wp2_with fail
          go_roundw
          case rel => exact ⟨k + 1, by omega, by go_num, val_int (by rw [sumTo, HSN.out]; omega), hB2⟩
          case measure => simp [intOf]; omega
      · have HK : Hid (k = N) := by show k = N; omega
        go_wp2_with fail
        go_ret
        exact ⟨ret_int (by rw [HE.out, HSV.out, HK.out]), hb0.trans (hbel.mono hb0.size)⟩
  · have HE := Lib.hid (show levelShoreV n L g l = _ from if_neg hv)
    have HV := Lib.hid hv
    clear hv
    go_enter Try.func40, Try.ntmps40
    go_wp2_with fail
    refine (l3Ok_no _ _ _ _ _ _ _ HG.out hn HL.out HV.out).mono ?_
    rintro e w1 ⟨rfl, hb1⟩
    go_wp2_with fail
    go_ret
    exact ⟨ret_int HE.out.symm, hb1⟩

end Go.Proofs.Ytofkjldijamlhaa
