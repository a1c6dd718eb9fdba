/- Peaks: what the program's and the reference's functions return. -/
import Derived.Test.YtgekjhmjjjkibaaPlL
import Derived.Test.YtgekjhmjjjkibaaSid
namespace Go.Proofs.Ytgekjhmjjjkibaa
set_option linter.unusedVariables false
set_option linter.unusedSimpArgs false
open Go.RowKit

/-- A cell is ranked higher than another one. -/
def peakB (R C : Nat) (h : Nat → Int) (i : Nat) : Bool := (nearL R C i).all fun j => !hiB h j i

theorem hiB_yes {h : Nat → Int} {a b : Nat} (e : h b < h a ∨ (h a = h b ∧ a < b)) : hiB h a b = true := decide_eq_true e
theorem hiB_no {h : Nat → Int} {a b : Nat} (e : ¬ (h b < h a ∨ (h a = h b ∧ a < b))) : hiB h a b = false := decide_eq_false e

theorem higher_any (R C N b i j : Nat) (h : Nat → Int) (w : World) (hi : i < N) (hj : j < N) (hN1 : N ≤ 1000000) (hrow : Hid (w.rowIs b 3 N (fun i => .int .i64 (h i)))) :
    Calls Try.prog 96 #[.agg #[.int .i64 R, .int .i64 C, .slice (some ⟨b, 0, none⟩) N N], .int .i64 i, .int .i64 j] w (RetV (.bool (hiB h i j)) w) := by
  have HB := Boxed.new (R := R) (C := C) hrow.out
  have hbx := below_alloc w (.cells #[.int .i64 R, .int .i64 C, .slice (some ⟨b, 0, none⟩) N N] 49)
  have x2 := cell_of_blk (i := 2) HB.box rfl
  have hci := HB.row.cell hi
  have hcj := HB.row.cell hj
  clear HB
  by_cases e : h i = h j
  · have d1 : (h i != h j) = false := by simpa using e
    have HB2 : Hid (hiB h i j = decide (i < j)) := by
      show hiB h i j = decide (i < j)
      unfold hiB; rw [Bool.eq_iff_iff]; simp only [decide_eq_true_eq]; omega
    have HE := Lib.hid e
    clear e
    go_enter Try.func96, Try.ntmps96
    go_wp2_with fail
    go_quiet (fail)
    go_wp2_with fail
    all_goals go_ret
    all_goals exact ⟨ret_bool HB2.out.symm, below_drewN hbx _⟩
  · have d1 : (h i != h j) = true := by simpa using e
    have HB2 : Hid (hiB h i j = decide (h j < h i)) := by
      show hiB h i j = decide (h j < h i)
      unfold hiB; rw [Bool.eq_iff_iff]; simp only [decide_eq_true_eq]; omega
    have HE := Lib.hid e
    clear e
    go_enter Try.func96, Try.ntmps96
    go_wp2_with fail
    go_quiet (fail)
    go_wp2_with fail
    go_quiet (fail)
    go_wp2_with fail
    go_ret
    exact ⟨ret_bool HB2.out.symm, below_drewN (below_drewN hbx _) _⟩

theorem l4Higher_any (A : Option Addr) (n cp i j : Nat) (L : Nat → Nat) (g : Nat → Nat → Int) (h : Nat → Int) (w : World) (hg : GridF w A n L g) (hv : Valid n L g) (HH : Hid (h = flat (L 0) g)) (hi : i < n * L 0) (hj : j < n * L 0) :
    Calls Try.prog 76 #[.slice A n cp, .int .i64 i, .int .i64 j] w (RetV (.bool (hiB h i j)) w) := by
  have HG0 := Lib.hid hg
  have HV := Lib.hid hv
  have HI := Lib.hid hi
  have HJ := Lib.hid hj
  have h49 : n * L 0 ≤ 49 := Nat.le_trans (Nat.mul_le_mul hv.2.1 hv.2.2.2.1) (by decide)
  have hi49 : i ≤ 49 := by omega
  have hj49 : j ≤ 49 := by omega
  clear hg hv hi hj h49
  by_cases p1 : h j < h i
  · have HR := Lib.hid (hiB_yes (.inl p1))
    go_enter Try.func76, Try.ntmps76
    go_wp2_with fail
    refine (l2Height_h _ _ _ _ _ _ _ _ HG0.out HV.out HH HI.out).mono ?_
    rintro e w1 ⟨rfl, hb1⟩
    have HG1 := Lib.hid (HG0.out.below hb1)
    have hB1 := hb1
    go_wp2_with fail
    refine (l2Height_h _ _ _ _ _ _ _ _ HG1.out HV.out HH HJ.out).mono ?_
    rintro e w2 ⟨rfl, hb2⟩
    have HG2 := Lib.hid (HG1.out.below hb2)
    have hB2 := hB1.trans (hb2.mono hB1.size)
    go_wp2_with fail
    go_ret
    exact ⟨ret_bool HR.out.symm, hB2⟩
  · have d1 : decide (h j < h i) = false := by simpa using p1
    by_cases p2 : h i = h j
    · have d2 : (h i == h j) = true := by simpa using p2
      have HR : Hid (hiB h i j = decide (i < j)) := by
        show hiB h i j = decide (i < j)
        unfold hiB; rw [Bool.eq_iff_iff]; simp only [decide_eq_true_eq]; omega
      have HP := Lib.hid p2
      clear p2 p1
      go_enter Try.func76, Try.ntmps76
      go_wp2_with fail
      refine (l2Height_h _ _ _ _ _ _ _ _ HG0.out HV.out HH HI.out).mono ?_
      rintro e w1 ⟨rfl, hb1⟩
      have HG1 := Lib.hid (HG0.out.below hb1)
      have hB1 := hb1
      go_wp2_with fail
      refine (l2Height_h _ _ _ _ _ _ _ _ HG1.out HV.out HH HJ.out).mono ?_
      rintro e w2 ⟨rfl, hb2⟩
      have HG2 := Lib.hid (HG1.out.below hb2)
      have hB2 := hB1.trans (hb2.mono hB1.size)
      go_wp2_with fail
      refine (l2Height_h _ _ _ _ _ _ _ _ HG2.out HV.out HH HI.out).mono ?_
      rintro e w3 ⟨rfl, hb3⟩
      have HG3 := Lib.hid (HG2.out.below hb3)
      have hB3 := hB2.trans (hb3.mono hB2.size)
      go_wp2_with fail
      refine (l2Height_h _ _ _ _ _ _ _ _ HG3.out HV.out HH HJ.out).mono ?_
      rintro e w4 ⟨rfl, hb4⟩
      have HG4 := Lib.hid (HG3.out.below hb4)
      have hB4 := hB3.trans (hb4.mono hB3.size)
      go_wp2_with fail
      all_goals go_ret
      all_goals exact ⟨ret_bool HR.out.symm, hB4⟩
    · have d2 : (h i == h j) = false := by simpa using p2
      have HR := Lib.hid (hiB_no (h := h) (a := i) (b := j) (by omega))
      have HP := Lib.hid p2
      clear p2 p1
      go_enter Try.func76, Try.ntmps76
      go_wp2_with fail
      refine (l2Height_h _ _ _ _ _ _ _ _ HG0.out HV.out HH HI.out).mono ?_
      rintro e w1 ⟨rfl, hb1⟩
      have HG1 := Lib.hid (HG0.out.below hb1)
      have hB1 := hb1
      go_wp2_with fail
      refine (l2Height_h _ _ _ _ _ _ _ _ HG1.out HV.out HH HJ.out).mono ?_
      rintro e w2 ⟨rfl, hb2⟩
      have HG2 := Lib.hid (HG1.out.below hb2)
      have hB2 := hB1.trans (hb2.mono hB1.size)
      go_wp2_with fail
      refine (l2Height_h _ _ _ _ _ _ _ _ HG2.out HV.out HH HI.out).mono ?_
      rintro e w3 ⟨rfl, hb3⟩
      have HG3 := Lib.hid (HG2.out.below hb3)
      have hB3 := hB2.trans (hb3.mono hB2.size)
      go_wp2_with fail
      refine (l2Height_h _ _ _ _ _ _ _ _ HG3.out HV.out HH HJ.out).mono ?_
      rintro e w4 ⟨rfl, hb4⟩
      have HG4 := Lib.hid (HG3.out.below hb4)
      have hB4 := hB3.trans (hb4.mono hB3.size)
      go_wp2_with fail
      go_ret
      exact ⟨ret_bool HR.out.symm, hB4⟩

theorem peak_no {R C i m : Nat} {h : Nat → Int} (hm : m < (nearL R C i).length) (he : hiB h ((nearL R C i).getD m 0) i = true) : peakB R C h i = false := by
  unfold peakB
  cases e : (nearL R C i).all (fun j => !hiB h j i)
  · rfl
  · have := List.all_eq_true.1 e _ (getD_in hm)
    rw [he] at this
    cases this
theorem peak_yes {R C i : Nat} {h : Nat → Int} (hall : ∀ q, q < (nearL R C i).length → hiB h ((nearL R C i).getD q 0) i = false) : peakB R C h i = true := by
  unfold peakB
  rw [List.all_eq_true]
  intro j hj
  obtain ⟨q, hq, e⟩ := List.getElem_of_mem hj
  have := hall q hq
  rw [List.getD, List.getElem?_eq_getElem hq, Option.getD_some, e] at this
  rw [this]; rfl

theorem cell_any (R C i : Int) (A : Option Addr) (n m : Nat) (w : World) (hn : n ≤ 1000000) (b : Bool) (hb : Hid (b = true ↔ 0 ≤ i ∧ i < n)) :
    Calls Try.prog 72 #[.agg #[.int .i64 R, .int .i64 C, .slice A n m], .int .i64 i] w (RetV (.bool b) w) := by
  go_enter Try.func72, Try.ntmps72
  go_wp2
  all_goals go_ret
  all_goals exact ⟨ret_bool (by have := hb.out; cases b <;> simp at this ⊢ <;> omega), below_alloc _ _⟩

set_option maxHeartbeats 1000000 in
theorem peak_any (R C N b i : Nat) (h : Nat → Int) (w : World) (hC1 : 1 ≤ C) (hR : R ≤ 1000) (hC : C ≤ 1000) (hi : Hid (i < R * C)) (hN : Hid (N = R * C)) (hrow : Hid (w.rowIs b 3 N (fun i => .int .i64 (h i)))) :
    Calls Try.prog 78 #[.agg #[.int .i64 R, .int .i64 C, .slice (some ⟨b, 0, none⟩) N N], .int .i64 i] w (RetV (.bool (peakB R C h i)) w) := by
  have HB := Lib.hid (Boxed.new (R := R) (C := C) hrow.out)
  have hbx := below_alloc w (.cells #[.int .i64 R, .int .i64 C, .slice (some ⟨b, 0, none⟩) N N] 49)
  have hN1 : N ≤ 1000000 := by rw [hN.out]; exact Nat.le_trans (Nat.mul_le_mul hR hC) (by decide)
  have hiN : i < N := by rw [hN.out]; exact hi.out
  have HMem : Hid (∀ k, k < (nearL R C i).length → (nearL R C i).getD k 0 < N) := fun k hk => by rw [hN.out]; exact nearL_lt hi.out (getD_in hk)
  have HNo : Hid (∀ m, m < (nearL R C i).length → hiB h ((nearL R C i).getD m 0) i = true → peakB R C h i = false) := fun m => peak_no
  have HYes : Hid ((∀ q, q < (nearL R C i).length → hiB h ((nearL R C i).getD q 0) i = false) → peakB R C h i = true) := peak_yes
  have hl4 := nearL_len R C i
  go_enter Try.func78, Try.ntmps78
  go_wp2_with fail
  refine (cell_any _ _ _ _ _ _ _ hN1 true (by show true = true ↔ _; simp; omega)).mono ?_
  rintro e wc ⟨rfl, hbc⟩
  have HBc := Lib.hid (HB.out.below hbc)
  have hBc : Below w.heap.size w wc := hbx.trans (hbc.mono (by simp))
  have x0 := cell_of_blk (i := 0) HBc.out.box rfl
  have x1 := cell_of_blk (i := 1) HBc.out.box rfl
  have x2 := cell_of_blk (i := 2) HBc.out.box rfl
  go_wp2_with fail
  refine (neighbors_any R C N b i _ hC1 hR hC hi.out).mono ?_
  rintro e w1 ⟨v, rfl, hown, hb1⟩
  have HB1 := Lib.hid (HBc.out.below hb1)
  have hB1 : Below w.heap.size w w1 := hBc.trans (hb1.mono hBc.size)
  obtain ⟨Av, cv, rfl⟩ := hown.slice
  have HO := Lib.hid hown
  clear hown HB HBc hb1 hbx hbc hBc x0 x1 x2
  generalize nearL R C i = l at *
  go_wp2_with fail
  go_loopw [15] (fun q wr => ∃ k : Nat, k ≤ l.length ∧ q = .int .i64 k ∧ Hid (∀ q, q < k → hiB h (l.getD q 0) i = false) ∧ Below w1.heap.size w1 wr) (fun q _ => l.length - (intOf q).toNat)
  case atStart => exact ⟨0, Nat.zero_le _, rfl, fun q hq => absurd hq (Nat.not_lt_zero q), Below.refl _ _⟩
  case round =>
    obtain ⟨k, hk, rfl, HD, hbel⟩ := hrel
    by_cases hlt : k < l.length
    · obtain ⟨bl, rfl, hcl⟩ := (HO.out.below hbel).at_ hlt
      have HB2 := HB1.out.below hbel
      have x0 := cell_of_blk (i := 0) HB2.box rfl
      have x1 := cell_of_blk (i := 1) HB2.box rfl
      have x2 := cell_of_blk (i := 2) HB2.box rfl
      have HRow := Lib.hid HB2.row
      have hj := HMem.out k hlt
      have HN2 := Lib.hid (HNo.out k hlt)
      have HD2 : Hid (hiB h (l.getD k 0) i = false → ∀ q, q < k + 1 → hiB h (l.getD q 0) i = false) := fun e q hq => by
        by_cases e' : q = k
        · rw [e']; exact e
        · exact HD.out q (by omega)
      clear HB2
      generalize l.getD k 0 = j at *
      go_wp2_with fail
      refine (higher_any R C N b j i h _ hj hiN hN1 HRow).mono ?_
      rintro e w2 ⟨rfl, hb2⟩
      have hbel2 := hbel.trans (hb2.mono hbel.size)
      obtain ⟨q, hq⟩ : ∃ q, q = hiB h j i := ⟨_, rfl⟩
      rw [← hq] at HN2 HD2 ⊢
      clear hq
      cases q
      · go_wp2_with fail
        go_roundw
        case rel => exact ⟨k + 1, by omega, by go_num, HD2.out (by trivial), hbel2⟩
        case measure => simp [intOf]; omega
      · go_wp2_with fail
        go_ret
        exact ⟨ret_bool (HN2.out (by trivial)).symm, hB1.trans (hbel2.mono hB1.size)⟩
    · have HK : Hid (k = l.length) := by show k = l.length; omega
      go_wp2_with fail
      go_ret
      exact ⟨ret_bool (HYes.out (fun q hq => HD.out q (by rw [HK.out]; exact hq))).symm, hB1.trans (hbel.mono hB1.size)⟩
theorem peak_far (R C : Nat) (i : Int) (A : Option Addr) (n m : Nat) (w : World) (hn : n ≤ 1000000) (h : ¬ (0 ≤ i ∧ i < n)) :
    Calls Try.prog 78 #[.agg #[.int .i64 R, .int .i64 C, .slice A n m], .int .i64 i] w (RetV (.bool false) w) := by
  have hbx := below_alloc w (.cells #[.int .i64 R, .int .i64 C, .slice A n m] 49)
  go_enter Try.func78, Try.ntmps78
  go_wp2_with fail
  refine (cell_any _ _ _ _ _ _ _ hn false (by show false = true ↔ _; simp; omega)).mono ?_
  rintro e wc ⟨rfl, hbc⟩
  go_wp2_with fail
  go_ret
  exact ⟨rfl, hbx.trans (hbc.mono (by simp))⟩

/-- There is a cell with that index. -/
def HasIdx (n : Nat) (L : Nat → Nat) (g : Nat → Nat → Int) (i : Int) : Prop := Valid n L g ∧ 0 ≤ i ∧ i < (n * L 0 : Nat)
instance (n : Nat) (L : Nat → Nat) (g : Nat → Nat → Int) (i : Int) : Decidable (HasIdx n L g i) := by unfold HasIdx; infer_instance
theorem l4Has_yes (A : Option Addr) (n cp : Nat) (L : Nat → Nat) (g : Nat → Nat → Int) (i : Int) (w : World) (hg : GridF w A n L g) (h : HasIdx n L g i) :
    Calls Try.prog 70 #[.slice A n cp, .int .i64 i] w (RetV (.bool true) w) := by
  have HG := Lib.hid hg
  have HV := Lib.hid h.1
  have hn1 := h.1.1
  have hn2 := h.1.2.1
  have hl2 := h.1.2.2.2.1
  have h49 : n * L 0 ≤ 49 := Nat.le_trans (Nat.mul_le_mul hn2 hl2) (by decide)
  have h1 := h.2.1
  have h2 := h.2.2
  clear hg h
  go_enter Try.func70, Try.ntmps70
  go_wp2_with fail
  refine (specValid_yes _ _ _ _ _ _ HG.out HV.out).mono ?_
  rintro e w1 ⟨rfl, hb1⟩
  go_wp2_with fail
  refine (l2Cells_any _ _ _ _ _ _ (HG.out.below hb1) (by omega) (by omega) (by omega)).mono ?_
  rintro e w' ⟨rfl, rfl⟩
  go_wp2_with fail
  refine (l6In_yes _ _ _ _ (by omega) (by omega)).mono ?_
  rintro e w' ⟨rfl, rfl⟩
  go_wp2_with fail
  go_ret
  exact ⟨rfl, hb1⟩
theorem l4Has_no (A : Option Addr) (n cp : Nat) (L : Nat → Nat) (g : Nat → Nat → Int) (i : Int) (w : World) (hg : GridF w A n L g) (hn : n ≤ 1048576) (hL : ∀ r, r < n → L r ≤ 1048576) (h : ¬ HasIdx n L g i) :
    Calls Try.prog 70 #[.slice A n cp, .int .i64 i] w (RetV (.bool false) w) := by
  have HG := Lib.hid hg
  have HL := Lib.hid hL
  clear hg hL
  by_cases hv : Valid n L g
  · have h' : ¬ (0 ≤ i ∧ i < (n * L 0 : Nat)) := fun hh => h ⟨hv, hh⟩
    have HV := Lib.hid hv
    have hn1 := hv.1
    have hn2 := hv.2.1
    have hl1 := hv.2.2.1
    have hl2 := hv.2.2.2.1
    have h49 : n * L 0 ≤ 49 := Nat.le_trans (Nat.mul_le_mul hn2 hl2) (by decide)
    have h0 : 0 < n * L 0 := Nat.mul_pos (by omega) (by omega)
    clear h hv
    go_enter Try.func70, Try.ntmps70
    go_wp2_with fail
    refine (specValid_yes _ _ _ _ _ _ HG.out HV.out).mono ?_
    rintro e w1 ⟨rfl, hb1⟩
    go_wp2_with fail
    refine (l2Cells_any _ _ _ _ _ _ (HG.out.below hb1) (by omega) (by omega) (by omega)).mono ?_
    rintro e w' ⟨rfl, rfl⟩
    go_wp2_with fail
    refine (l6In_no _ _ _ _ (by omega)).mono ?_
    rintro e w' ⟨rfl, rfl⟩
    go_wp2_with fail
    go_ret
    exact ⟨rfl, hb1⟩
  · have HV := Lib.hid hv
    clear h hv
    go_enter Try.func70, Try.ntmps70
    go_wp2_with fail
    refine (specValid_no _ _ _ _ _ _ HG.out hn HL.out HV.out).mono ?_
    rintro e w1 ⟨rfl, hb1⟩
    go_wp2_with fail
    go_ret
    exact ⟨rfl, hb1⟩

set_option maxHeartbeats 1000000 in
theorem l4Peak_any (A : Option Addr) (n cp i : Nat) (L : Nat → Nat) (g : Nat → Nat → Int) (h : Nat → Int) (w : World) (hg : GridF w A n L g) (hv : Valid n L g) (HH : Hid (h = flat (L 0) g)) (hi : i < n * L 0) :
    Calls Try.prog 95 #[.slice A n cp, .int .i64 i] w (RetV (.bool (peakB n (L 0) h i)) w) := by
  have HG := Lib.hid hg
  have HV := Lib.hid hv
  have hn1 := hv.1
  have hn2 := hv.2.1
  have hl1 := hv.2.2.1
  have hl2 := hv.2.2.2.1
  have HI := Lib.hid hi
  have h49 : n * L 0 ≤ 49 := Nat.le_trans (Nat.mul_le_mul hv.2.1 hv.2.2.2.1) (by decide)
  have hi49 : i ≤ 49 := by omega
  clear hg hv hi h49
  have HMem : Hid (∀ k, k < (nearL n (L 0) i).length → (nearL n (L 0) i).getD k 0 < n * L 0) := fun k hk => nearL_lt HI.out (getD_in hk)
  have HNo : Hid (∀ m, m < (nearL n (L 0) i).length → hiB h ((nearL n (L 0) i).getD m 0) i = true → peakB n (L 0) h i = false) := fun m => peak_no
  have HYes : Hid ((∀ q, q < (nearL n (L 0) i).length → hiB h ((nearL n (L 0) i).getD q 0) i = false) → peakB n (L 0) h i = true) := peak_yes
  have hl4 := nearL_len n (L 0) i
  go_enter Try.func95, Try.ntmps95
  go_wp2_with fail
  refine (l2Near_any _ _ _ _ _ _ _ HG.out (by omega) (by omega) (by omega) (by omega) HI.out).mono ?_
  rintro e w1 ⟨v, rfl, hown, hb1⟩
  have HG1 := Lib.hid (HG.out.below hb1)
  obtain ⟨Av, cv, rfl⟩ := hown.slice
  have HO := Lib.hid hown
  clear hown HG
  generalize nearL n (L 0) i = l at *
  go_wp2_with fail
  go_loopw [6] (fun q wr => ∃ k : Nat, k ≤ l.length ∧ q = .int .i64 k ∧ Hid (∀ q, q < k → hiB h (l.getD q 0) i = false) ∧ Below w1.heap.size w1 wr) (fun q _ => l.length - (intOf q).toNat)
  case atStart => exact ⟨0, Nat.zero_le _, rfl, fun q hq => absurd hq (Nat.not_lt_zero q), Below.refl _ _⟩
  case round =>
    obtain ⟨k, hk, rfl, HD, hbel⟩ := hrel
    by_cases hlt : k < l.length
    · obtain ⟨bl, rfl, hcl⟩ := (HO.out.below hbel).at_ hlt
      have HG2 := Lib.hid (HG1.out.below hbel)
      have HJ := Lib.hid (HMem.out k hlt)
      have hj49 : l.getD k 0 ≤ 49 := by have := HJ.out; have := Nat.mul_le_mul hn2 hl2; omega
      have HN2 := Lib.hid (HNo.out k hlt)
      have HD2 : Hid (hiB h (l.getD k 0) i = false → ∀ q, q < k + 1 → hiB h (l.getD q 0) i = false) := fun e q hq => by
        by_cases e' : q = k
        · rw [e']; exact e
        · exact HD.out q (by omega)
      generalize l.getD k 0 = j at *
      go_wp2_with fail
      refine (l4Higher_any _ _ _ _ _ _ _ h _ HG2.out HV.out HH HJ.out HI.out).mono ?_
      rintro e w2 ⟨rfl, hb2⟩
      have hbel2 := hbel.trans (hb2.mono hbel.size)
      obtain ⟨q, hq⟩ : ∃ q, q = hiB h j i := ⟨_, rfl⟩
      rw [← hq] at HN2 HD2 ⊢
      clear hq
      cases q
      · go_wp2_with fail
        go_roundw
        case rel => exact ⟨k + 1, by omega, by go_num, HD2.out (by trivial), hbel2⟩
        case measure => simp [intOf]; omega
      · go_wp2_with fail
        go_ret
        exact ⟨ret_bool (HN2.out (by trivial)).symm, hb1.trans (hbel2.mono hb1.size)⟩
    · have HK : Hid (k = l.length) := by show k = l.length; omega
      go_wp2_with fail
      go_ret
      exact ⟨ret_bool (HYes.out (fun q hq => HD.out q (by rw [HK.out]; exact hq))).symm, hb1.trans (hbel.mono hb1.size)⟩

def peakIsV (n : Nat) (L : Nat → Nat) (g : Nat → Nat → Int) (i : Int) : Bool := if HasIdx n L g i then peakB n (L 0) (flat (L 0) g) i.toNat else false

theorem specPeakIs_any (A : Option Addr) (n cp : Nat) (L : Nat → Nat) (g : Nat → Nat → Int) (i : Int) (w : World) (hg : GridF w A n L g) (hn : n ≤ 1048576) (hL : ∀ r, r < n → L r ≤ 1048576) (_h1 : -9223372036854775808 ≤ i) (_h2 : i ≤ 9223372036854775807) :
    Calls Try.prog 75 #[.slice A n cp, .int .i64 i] w (RetV (.bool (peakIsV n L g i)) w) := by
  have HG := Lib.hid hg
  have HL := Lib.hid hL
  clear hg hL
  by_cases h : HasIdx n L g i
  · have HE := Lib.hid (show peakIsV n L g i = _ from if_pos h)
    have HH := Lib.hid h
    have HV := Lib.hid h.1
    obtain ⟨_, h1, h2⟩ := h
    obtain ⟨i, rfl⟩ := Int.eq_ofNat_of_zero_le h1
    rw [Int.toNat_natCast] at HE
    have HI : Hid (i < n * L 0) := by show i < n * L 0; omega
    clear h2
    go_enter Try.func75, Try.ntmps75
    go_wp2_with fail
    refine (l4Has_yes _ _ _ _ _ _ _ HG.out HH.out).mono ?_
    rintro e w1 ⟨rfl, hb1⟩
    go_wp2_with fail
    refine (l4Peak_any _ _ _ _ _ _ _ _ (HG.out.below hb1) HV.out rfl HI.out).mono ?_
    rintro e w2 ⟨rfl, hb2⟩
    go_wp2_with fail
    go_ret
    exact ⟨ret_bool HE.out.symm, hb1.trans (hb2.mono hb1.size)⟩
  · have HE := Lib.hid (show peakIsV n L g i = _ from if_neg h)
    have HH := Lib.hid h
    clear h
    go_enter Try.func75, Try.ntmps75
    go_wp2_with fail
    refine (l4Has_no _ _ _ _ _ _ _ HG.out hn HL.out HH.out).mono ?_
    rintro e w1 ⟨rfl, hb1⟩
    go_wp2_with fail
    go_ret
    exact ⟨ret_bool HE.out.symm, hb1⟩


end Go.Proofs.Ytgekjhmjjjkibaa
