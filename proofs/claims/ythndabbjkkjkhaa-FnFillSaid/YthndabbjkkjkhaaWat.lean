/- Pools, filled and drained grids: what the program's and the reference's functions return. -/
import Derived.Test.YthndabbjkkjkhaaLv
import Derived.Test.YthndabbjkkjkhaaLst
namespace Go.Proofs.Ythndabbjkkjkhaa
set_option linter.unusedVariables false
set_option linter.unusedSimpArgs false
open Go.RowKit

theorem flat_rng {n : Nat} {L : Nat → Nat} {g : Nat → Nat → Int} (hv : Valid n L g) : ∀ i, i < n * L 0 → 0 ≤ flat (L 0) g i ∧ flat (L 0) g i ≤ 99 := fun i hi => by
  obtain ⟨_, h1, h2, _⟩ := rc_in hi
  exact hv.rng h1 h2

/-- The heights by row and column of a list of heights. -/
def unflat (C : Nat) (F : Nat → Int) : Nat → Nat → Int := fun r c => F (r * C + c)
noncomputable def fillG (n C : Nat) (g : Nat → Nat → Int) : Nat → Nat → Int := unflat C (fillV n C (flat C g))
noncomputable def poolS (n C : Nat) (h : Nat → Int) : Int := sumI (fun i => fillV n C h i - h i) (n * C)
noncomputable def poolV (n : Nat) (L : Nat → Nat) (g : Nat → Nat → Int) : Int := if Valid n L g then poolS n (L 0) (flat (L 0) g) else -1

theorem pool_part {n C : Nat} {h : Nat → Int} (hh : ∀ i, i < n * C → 0 ≤ h i ∧ h i ≤ 99) {k : Nat} (hk : k ≤ n * C) : 0 ≤ sumI (fun i => fillV n C h i - h i) k ∧ sumI (fun i => fillV n C h i - h i) k ≤ k * 99 := by
  have hf := fillV_is hh
  exact sumI_bound fun i hi => by
    have h1 := hf.ge (i := i) (by omega)
    have h2 := hf.le (t := 99) (fun j hj => (hh j hj).2) (i := i) (by omega)
    have h3 := hh i (by omega)
    omega



noncomputable def drainedV (n : Nat) (L : Nat → Nat) (g : Nat → Nat → Int) : Bool := (poolV n L g == 0)
theorem sumI_zeros : ∀ k, sumI (fun _ => 0) k = 0
  | 0 => rfl
  | k + 1 => by rw [sumI, sumI_zeros k]; rfl
theorem pool_zero {n C : Nat} {h : Nat → Int} (hh : ∀ i, i < n * C → 0 ≤ h i ∧ h i ≤ 99) : poolS n C h = 0 ↔ ∀ i, i < n * C → lvB n C h i = true := by
  have hf := fillV_is hh
  unfold poolS lvB
  constructor
  · intro h0 i hi
    have := sumI_zero (fun i hi => by have := hf.ge (i := i) hi; omega) h0 i hi
    exact decide_eq_true (by omega)
  · intro hall
    rw [sumI_congr (G := fun _ => 0) fun i hi => by have := of_decide_eq_true (hall i hi); omega]
    exact sumI_zeros _


set_option maxHeartbeats 1000000 in
theorem implWaterDrained_any (A : Option Addr) (n cp : Nat) (L : Nat → Nat) (g : Nat → Nat → Int) (w : World) (hg : GridF w A n L g) (hn : n ≤ 1048576) (hL : ∀ r, r < n → L r ≤ 1048576) :
    Calls Try.prog 54 #[.slice A n cp] w (RetV (.bool (drainedV n L g)) w) := by
  have HG := Lib.hid hg
  have HL := Lib.hid hL
  clear hg hL
  by_cases hv : Valid n L g
  · have HV := Lib.hid hv
    have hn1 := hv.1
    have hn2 := hv.2.1
    have hl1 := hv.2.2.1
    have hl2 := hv.2.2.2.1
    obtain ⟨N, hN⟩ : ∃ N, N = n * L 0 := ⟨_, rfl⟩
    have hN1 : N ≤ 49 := by rw [hN]; exact Nat.le_trans (Nat.mul_le_mul hn2 hl2) (by decide)
    have HN := Lib.hid hN
    have HE : Hid (drainedV n L g = true ↔ ∀ i, i < N → lvB n (L 0) (flat (L 0) g) i = true) := by
      show drainedV n L g = true ↔ _
      rw [hN, ← pool_zero (flat_rng hv)]
      unfold drainedV poolV
      rw [if_pos hv, beq_iff_eq]
    have HR := Lib.hid (flat_rng hv)
    obtain ⟨h, hh⟩ : ∃ h, h = flat (L 0) g := ⟨_, rfl⟩
    rw [← hh] at HE HR
    have HH := Lib.hid hh
    clear hv hN hh
    go_enter Try.func54, Try.ntmps54
    go_wp2_with fail
    refine (fieldOf_yes _ _ _ N _ _ _ HG.out HV.out HN).mono ?_
    rintro e w1 ⟨b, rfl, hlo, hrow, hb1⟩
    rw [← HH.out] at hrow
    have HB := Lib.hid (Boxed.new (R := n) (C := L 0) hrow)
    have hbx := hb1.alloc hb1.size (.cells #[.int .i64 n, .int .i64 (L 0), .slice (some ⟨b, 0, none⟩) N N] 59)
    clear hrow
    go_wp2_with fail
    generalize w1.alloc _ = w2 at *
    go_loopw [16] (fun i wr => ∃ k : Nat, k ≤ N ∧ i = .int .i64 k ∧ Hid (∀ i, i < k → lvB n (L 0) h i = true) ∧ Below w2.heap.size w2 wr) (fun i _ => N - (intOf i).toNat)
    case atStart => exact ⟨0, Nat.zero_le _, rfl, fun i hi => absurd hi (Nat.not_lt_zero i), Below.refl _ _⟩
    case round =>
      obtain ⟨k, hk, rfl, HD, hbel⟩ := hrel
      by_cases hlt : k < N
      · have HB1 := Lib.hid (HB.out.below hbel)
        have x0 := cell_of_blk (i := 0) HB1.out.box rfl
        have x1 := cell_of_blk (i := 1) HB1.out.box rfl
        have x2 := cell_of_blk (i := 2) HB1.out.box rfl
        have HI : Hid (k < n * L 0) := by show k < n * L 0; rw [← HN.out]; exact hlt
        go_wp2_with fail
        refine (leaves_any n (L 0) N b k h _ hn1 hl1 (by omega) (by omega) HR HI HN HB1.out.row).mono ?_
        rintro e w3 ⟨rfl, hb3⟩
        have hbel3 := hbel.trans (hb3.mono hbel.size)
        cases hl : lvB n (L 0) h k
        · have HF : Hid (drainedV n L g = false) := by
            show drainedV n L g = false
            cases e : drainedV n L g
            · rfl
            · have := HE.out.1 e k hlt
              rw [hl] at this
              cases this
          clear hl
          go_wp2_with fail
          go_ret
          exact ⟨ret_bool HF.out.symm, hbx.trans (hbel3.mono hbx.size)⟩
        · have HT := Lib.hid hl
          clear hl
          go_wp2_with fail
          go_roundw
          case rel =>
            refine ⟨k + 1, by omega, by go_num, fun i hi => ?_, hbel3⟩
            by_cases e : i = k
            · rw [e]; exact HT.out
            · exact HD.out i (by omega)
          case measure => simp [intOf]; omega
      · have HT : Hid (drainedV n L g = true) := HE.out.2 (fun i hi => HD.out i (by omega))
        go_wp2_with fail
        go_ret
        exact ⟨ret_bool HT.out.symm, hbx.trans (hbel.mono hbx.size)⟩
  · have HF : Hid (drainedV n L g = false) := by
      show drainedV n L g = false
      unfold drainedV poolV
      rw [if_neg hv]; rfl
    have HV := Lib.hid hv
    clear hv
    go_enter Try.func54, Try.ntmps54
    go_wp2_with fail
    refine (fieldOf_no _ _ _ _ _ _ HG.out hn HL.out HV.out).mono ?_
    rintro e w1 ⟨rfl, hb1⟩
    go_wp2_with fail
    go_ret
    exact ⟨ret_bool HF.out.symm, hb1.alloc hb1.size _⟩

theorem implWaterFill_yes (A : Option Addr) (n cp : Nat) (L : Nat → Nat) (g : Nat → Nat → Int) (w : World) (hg : GridF w A n L g) (hv : Valid n L g) :
    Calls Try.prog 51 #[.slice A n cp] w (RetGI n (fun _ => L 0) (fillG n (L 0) g) true w) := by
  have HG := Lib.hid hg
  have HV := Lib.hid hv
  have hn1 := hv.1
  have hn2 := hv.2.1
  have hl1 := hv.2.2.1
  have hl2 := hv.2.2.2.1
  have HR := Lib.hid (flat_rng hv)
  obtain ⟨N, hN⟩ : ∃ N, N = n * L 0 := ⟨_, rfl⟩
  have HN := Lib.hid hN
  clear hg hv hN
  go_enter Try.func51, Try.ntmps51
  go_wp2_with fail
  refine (fieldOf_yes _ _ _ N _ _ _ HG.out HV.out HN).mono ?_
  rintro e w1 ⟨b, rfl, hlo, hrow, hb1⟩
  have HB := Lib.hid (Boxed.new (R := n) (C := L 0) hrow)
  have hbx := hb1.alloc hb1.size (.cells #[.int .i64 n, .int .i64 (L 0), .slice (some ⟨b, 0, none⟩) N N] 59)
  clear hrow
  go_wp2_with fail
  refine (filled_any n (L 0) N b _ _ hn1 hl1 (by omega) (by omega) (fun i hi => HR.out i (by rw [← HN.out]; exact hi)) HN HB.out.row).mono ?_
  rintro e w2 ⟨q, rfl, hlo2, hq, hb2⟩
  have HQ := Lib.hid hq
  have hB2 := hbx.trans (hb2.mono hbx.size)
  clear hq
  go_wp2_with fail
  refine (lists_any _ _ _ _ _ _ (by omega) (by omega) (by omega) (by omega) HN HQ.out).mono ?_
  rintro e w3 ⟨A3, c3, rfl, hc3, hown, hb3⟩
  have HO := Lib.hid hown
  clear hown
  go_wp2_with fail
  go_ret2
  exact ⟨_, _, rfl, hc3, HO.out.mono hB2.size, hB2.trans (hb3.mono hB2.size)⟩

theorem implWaterFill_no (A : Option Addr) (n cp : Nat) (L : Nat → Nat) (g : Nat → Nat → Int) (w : World) (hg : GridF w A n L g) (hn : n ≤ 1048576) (hL : ∀ r, r < n → L r ≤ 1048576) (hv : ¬ Valid n L g) :
    Calls Try.prog 51 #[.slice A n cp] w (RetGI 0 L g false w) := by
  have HG := Lib.hid hg
  have HL := Lib.hid hL
  have HV := Lib.hid hv
  clear hg hL hv
  go_enter Try.func51, Try.ntmps51
  go_wp2_with fail
  refine (fieldOf_no _ _ _ _ _ _ HG.out hn HL.out HV.out).mono ?_
  rintro e w1 ⟨rfl, hb1⟩
  go_wp2_with fail
  go_ret2
  exact ⟨_, _, rfl, Nat.le_refl _, .inl rfl, hb1.alloc hb1.size _⟩

end Go.Proofs.Ythndabbjkkjkhaa
