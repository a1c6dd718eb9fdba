/- The pass between two cells: what the program's function returns. -/
import Derived.Test.YtgekjhmjjjkibaaPBtw
import Derived.Test.YtgekjhmjjjkibaaIPas
namespace Go.Proofs.Ytgekjhmjjjkibaa
set_option linter.unusedVariables false
set_option linter.unusedSimpArgs false
open Go.RowKit

set_option maxHeartbeats 1500000 in
theorem implPassBetween_any (A : Option Addr) (n cp : Nat) (L : Nat → Nat) (g : Nat → Nat → Int) (a b : Int) (w : World) (hg : GridF w A n L g) (hn : n ≤ 1048576) (hL : ∀ r, r < n → L r ≤ 1048576) (_h1 : -9223372036854775808 ≤ a) (_h2 : a ≤ 9223372036854775807) (_h3 : -9223372036854775808 ≤ b) (_h4 : b ≤ 9223372036854775807) :
    Calls Try.prog 44 #[.slice A n cp, .int .i64 a, .int .i64 b] w (RetV (.int .i64 (passBetweenV n L g a b)) w) := by
  have HG := Lib.hid hg
  have HL := Lib.hid hL
  clear hg hL
  by_cases hv : Valid n L g
  · have HV := Lib.hid hv
    have hn2 := hv.2.1
    have hl1 := hv.2.2.1
    have hl2 := hv.2.2.2.1
    obtain ⟨N, hN⟩ : ∃ N, N = n * L 0 := ⟨_, rfl⟩
    have HN := Lib.hid hN
    have hN1 : N ≤ 49 := by rw [hN]; exact Nat.le_trans (Nat.mul_le_mul hn2 hl2) (by decide)
    by_cases ha0 : 0 ≤ a ∧ a < N
    · by_cases hb0 : 0 ≤ b ∧ b < N
      · have HE := Lib.hid (show passBetweenV n L g a b = _ from if_pos ⟨⟨hv, ha0.1, by rw [← hN]; exact ha0.2⟩, ⟨hv, hb0.1, by rw [← hN]; exact hb0.2⟩⟩)
        obtain ⟨ha1, ha2⟩ := ha0
        obtain ⟨hb1, hb2⟩ := hb0
        obtain ⟨a, rfl⟩ := Int.eq_ofNat_of_zero_le ha1
        obtain ⟨b, rfl⟩ := Int.eq_ofNat_of_zero_le hb1
        rw [Int.toNat_natCast, Int.toNat_natCast] at HE
        have ha : a < N := by omega
        have hb : b < N := by omega
        have HRg : Hid (∀ i, i < n * L 0 → 0 ≤ flat (L 0) g i ∧ flat (L 0) g i ≤ 99) := fun i hi => by
          obtain ⟨_, h1, h2, _⟩ := rc_in hi
          exact hv.rng h1 h2
        clear hv hN ha1 ha2 hb1 hb2
        go_enter Try.func44, Try.ntmps44
        go_wp2_with fail
        refine (fieldOf_yes _ _ _ N _ _ _ HG.out HV.out HN).mono ?_
        rintro e w1 ⟨bq, rfl, hlo, hrow, hb1⟩
        have HB0 := Lib.hid (Boxed.new (R := n) (C := L 0) hrow)
        have hbx := hb1.alloc hb1.size (.cells #[.int .i64 n, .int .i64 (L 0), .slice (some ⟨bq, 0, none⟩) N N] 49)
        clear hrow
        go_wp2_with fail
        refine (cell_any _ _ _ _ _ _ _ (by omega) true (Lib.hid ⟨fun _ => ⟨by omega, by omega⟩, fun _ => rfl⟩)).mono ?_
        rintro e w2 ⟨rfl, hb2⟩
        generalize w1.alloc _ = w3 at *
        generalize w1.heap.size = Bf at *
        have HB1 := Lib.hid (HB0.out.below hb2)
        have hbw2 := hbx.trans (hb2.mono hbx.size)
        have x0 := cell_of_blk (i := 0) HB1.out.box rfl
        have x1 := cell_of_blk (i := 1) HB1.out.box rfl
        have x2 := cell_of_blk (i := 2) HB1.out.box rfl
        go_wp2_with fail
        refine (cell_any _ _ _ _ _ _ _ (by omega) true (Lib.hid ⟨fun _ => ⟨by omega, by omega⟩, fun _ => rfl⟩)).mono ?_
        rintro e w5 ⟨rfl, hb5⟩
        have HB := Lib.hid (HB1.out.below hb5)
        have hbw5 := hbw2.trans (hb5.mono hbw2.size)
        clear x0 x1 x2 HB0 HB1 hbx hb1 hb2 hb5 hbw2 hlo
        have x0 := cell_of_blk (i := 0) HB.out.box rfl
        have x1 := cell_of_blk (i := 1) HB.out.box rfl
        have x2 := cell_of_blk (i := 2) HB.out.box rfl
        go_wp2_with fail
        refine (passes_any _ _ _ _ _ _ _ hl1 (by omega) (by omega) hN1 HN ha HRg (Lib.hid HB.out.row)).mono ?_
        rintro e w6 ⟨v, rfl, hown, hb6⟩
        obtain ⟨Av, cv, rfl, _⟩ := hown.s.slice
        obtain ⟨bo, rfl, _, _, hcells⟩ := hown.cells (by omega)
        have hcb := (hcells b hb).1
        clear hcells hown
        go_wp2_with fail
        go_ret
        exact ⟨ret_int HE.out.symm, hbw5.trans (hb6.mono hbw5.size)⟩
      · have HE := Lib.hid (show passBetweenV n L g a b = _ from if_neg (fun hh => hb0 ⟨hh.2.2.1, by rw [hN]; exact hh.2.2.2⟩))
        clear hv hN
        go_enter Try.func44, Try.ntmps44
        go_wp2_with fail
        refine (fieldOf_yes _ _ _ N _ _ _ HG.out HV.out HN).mono ?_
        rintro e w1 ⟨bq, rfl, hlo, hrow, hb1⟩
        have HB0 := Lib.hid (Boxed.new (R := n) (C := L 0) hrow)
        have hbx := hb1.alloc hb1.size (.cells #[.int .i64 n, .int .i64 (L 0), .slice (some ⟨bq, 0, none⟩) N N] 49)
        clear hrow
        go_wp2_with fail
        refine (cell_any _ _ _ _ _ _ _ (by omega) true (Lib.hid ⟨fun _ => ⟨by omega, by omega⟩, fun _ => rfl⟩)).mono ?_
        rintro e w2 ⟨rfl, hb2⟩
        generalize w1.alloc _ = w3 at *
        generalize w1.heap.size = Bf at *
        have HB1 := Lib.hid (HB0.out.below hb2)
        have hbw2 := hbx.trans (hb2.mono hbx.size)
        have x0 := cell_of_blk (i := 0) HB1.out.box rfl
        have x1 := cell_of_blk (i := 1) HB1.out.box rfl
        have x2 := cell_of_blk (i := 2) HB1.out.box rfl
        go_wp2_with fail
        refine (cell_any _ _ _ _ _ _ _ (by omega) false (Lib.hid ⟨fun h => (by cases h), fun h => (by exfalso; omega)⟩)).mono ?_
        rintro e w5 ⟨rfl, hb5⟩
        go_wp2_with fail
        go_ret
        exact ⟨ret_int HE.out.symm, hbw2.trans (hb5.mono hbw2.size)⟩
    · have HE := Lib.hid (show passBetweenV n L g a b = _ from if_neg (fun hh => ha0 ⟨hh.1.2.1, by rw [hN]; exact hh.1.2.2⟩))
      clear hv hN
      go_enter Try.func44, Try.ntmps44
      go_wp2_with fail
      refine (fieldOf_yes _ _ _ N _ _ _ HG.out HV.out HN).mono ?_
      rintro e w1 ⟨bq, rfl, hlo, hrow, hb1⟩
      have hbx := hb1.alloc hb1.size (.cells #[.int .i64 n, .int .i64 (L 0), .slice (some ⟨bq, 0, none⟩) N N] 49)
      clear hrow
      go_wp2_with fail
      refine (cell_any _ _ _ _ _ _ _ (by omega) false (Lib.hid ⟨fun h => (by cases h), fun h => (by exfalso; omega)⟩)).mono ?_
      rintro e w2 ⟨rfl, hb2⟩
      go_wp2_with fail
      go_ret
      exact ⟨ret_int HE.out.symm, hbx.trans (hb2.mono hbx.size)⟩
  · have HE := Lib.hid (show passBetweenV n L g a b = _ from if_neg (fun hh => hv hh.1.1))
    have HV := Lib.hid hv
    clear hv
    go_enter Try.func44, Try.ntmps44
    go_wp2_with fail
    refine (fieldOf_no _ _ _ _ _ _ HG.out hn HL.out HV.out).mono ?_
    rintro e w1 ⟨rfl, hb1⟩
    go_wp2_with fail
    go_ret
    exact ⟨ret_int HE.out.symm, hb1.alloc hb1.size _⟩

end Go.Proofs.Ytgekjhmjjjkibaa
