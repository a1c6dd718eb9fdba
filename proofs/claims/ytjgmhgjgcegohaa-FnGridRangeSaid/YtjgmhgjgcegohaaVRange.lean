/- The law FnGridRange: its walk. -/
import Derived.Test.YtjgmhgjgcegohaaLawH
import Derived.Test.YtjgmhgjgcegohaaRng
namespace Go.Proofs.Ytjgmhgjgcegohaa
open Go.RowKit

set_option maxHeartbeats 4000000 in
set_option maxRecDepth 100000 in
theorem fnGridRange_walk (A : Option Addr) (m cp : Nat) (z : Nat → Int) (w : World) (hz : RowB w A m z) (hm : m ≤ 9223372036854775807 ∧ m ≤ cp) :
    Calls Try.prog 6 #[.slice A m cp] w (RetV (.bool true) w) := by
  have HZ := Lib.hid hz
  obtain ⟨hm1, hm2⟩ := hm
  clear hz
  by_cases hbig : 1048576 < m
  · go_enter Try.func6, Try.ntmps6
    go_wp2_with fail
    go_ret
    exact ⟨rfl, Below.refl _ _⟩
  go_enter Try.func6, Try.ntmps6
  go_wp2_with fail
  refine (drawGridRange_any _ _ _ _ _ HZ.out hm1 hm2).mono ?_
  rintro e w1 ⟨A1, n, c1, L, g, rfl, hn1, hn2, hL, hgrid, hb1⟩
  have HG := Lib.hid hgrid
  have HL : Hid (∀ r, r < n → L r ≤ 1048576) := fun r hr => by have := hL r hr; omega
  have hL0 := (hL 0 (by omega)).2
  clear hgrid hL
  go_wp2_with fail
  refine (implGridRange_any _ _ _ _ _ _ HG.out (by omega) HL.out).mono ?_
  rintro e w2 ⟨rfl, hb2⟩
  have hB2 : Below w.heap.size w w2 := hb1.trans (hb2.mono hb1.size)
  by_cases hv : Valid n L g
  · rw [rngV_yes hv]
    have HV := Lib.hid hv
    have HR := Lib.hid (rngV_yes hv)
    have hvn := hv.2.1
    have hvl := hv.2.2.2.1
    have hvl1 := hv.2.2.1
    clear hv
    obtain ⟨N, hN⟩ : ∃ N, N = n * L 0 := ⟨_, rfl⟩
    have HN := Lib.hid hN
    have hN0 : 0 < N := by rw [hN]; exact Nat.mul_pos (by omega) (by omega)
    have hN1 : N ≤ 49 := by rw [hN]; exact Nat.le_trans (Nat.mul_le_mul hvn hvl) (by decide)
    rw [← hN] at HR ⊢
    clear hN
    obtain ⟨h, hh⟩ : ∃ h, h = flat (L 0) g := ⟨_, rfl⟩
    rw [← hh] at HR ⊢
    have HH := Lib.hid hh
    clear hh
    obtain ⟨mn, hmn⟩ : ∃ mn, mn = minTo h N := ⟨_, rfl⟩
    obtain ⟨mx, hmx⟩ : ∃ mx, mx = maxTo h N := ⟨_, rfl⟩
    rw [← hmn, ← hmx] at HR ⊢
    have HMn := Lib.hid hmn
    have HMx := Lib.hid hmx
    clear hmn hmx
    go_wp2_with fail
    refine (specGridRange_any _ _ _ _ _ _ (HG.out.below hb2) (by omega) HL.out).mono ?_
    rintro e w3 ⟨rfl, hb3⟩
    rw [HR.out]
    have hB3 : Below w.heap.size w w3 := hB2.trans (hb3.mono hB2.size)
    have HG3 := Lib.hid (HG.out.below (hb2.trans (hb3.mono hb2.size)))
    go_wp2_with fail
    go_loopw [10, 11, 12] (fun lo hi i wr => ∃ (k : Nat) (bl bh : Bool), k ≤ N ∧ i = .int .i64 k ∧ lo = .bool bl ∧ hi = .bool bh ∧ Hid (bl = true ↔ ∃ j, j < k ∧ h j = mn) ∧ Hid (bh = true ↔ ∃ j, j < k ∧ h j = mx) ∧ Below w3.heap.size w3 wr) (fun _ _ i _ => N - (intOf i).toNat)
    case atStart => exact ⟨0, false, false, Nat.zero_le _, rfl, rfl, rfl, ⟨fun h => absurd h (by decide), fun ⟨j, hj, _⟩ => absurd hj (Nat.not_lt_zero j)⟩, ⟨fun h => absurd h (by decide), fun ⟨j, hj, _⟩ => absurd hj (Nat.not_lt_zero j)⟩, Below.refl _ _⟩
    case round =>
      obtain ⟨k, bl, bh, hk, rfl, rfl, rfl, HBl, HBh, hbel⟩ := hrel
      have HG4 := Lib.hid (HG3.out.below hbel)
      by_cases hlt : k < N
      · have hle1 : mn ≤ h k := by rw [HMn.out]; exact minTo_le hlt
        have hle2 : h k ≤ mx := by rw [HMx.out]; exact le_maxTo hlt
        go_wp2_with fail
        refine (cellsOf_any _ _ _ _ _ _ HG4.out (by omega) (by omega) (by omega)).mono ?_
        rintro e w' ⟨rfl, rfl⟩
        rw [← HN.out]
        go_wp2_with fail
        refine (heightOf_any _ _ _ _ _ _ _ HG4.out HV.out (by rw [← HN.out]; exact hlt)).mono ?_
        rintro e w5 ⟨rfl, hb5⟩
        rw [← HH.out]
        have d1 : decide (h k < mn) = false := by simp; omega
        have d2 : ¬ mx < h k := by omega
        have hbel5 := hbel.trans (hb5.mono hbel.size)
        have next : ∀ (b : Bool) (t : Int), (b = true ↔ ∃ j, j < k ∧ h j = t) → ((b || (h k == t)) = true ↔ ∃ j, j < k + 1 ∧ h j = t) := by
          intro b t hb
          rw [Bool.or_eq_true, hb, beq_iff_eq]
          constructor
          · rintro (⟨j, hj, e⟩ | e)
            · exact ⟨j, by omega, e⟩
            · exact ⟨k, by omega, e⟩
          · rintro ⟨j, hj, e⟩
            by_cases hjk : j = k
            · subst hjk; exact .inr e
            · exact .inl ⟨j, by omega, e⟩
        obtain ⟨e1, he1⟩ : ∃ e1, e1 = (h k == mn) := ⟨_, rfl⟩
        obtain ⟨e2, he2⟩ : ∃ e2, e2 = (h k == mx) := ⟨_, rfl⟩
        have HNl := Lib.hid (next bl mn HBl.out)
        have HNh := Lib.hid (next bh mx HBh.out)
        rw [← he1] at HNl
        rw [← he2] at HNh
        have q3 := he1.symm
        have q4 := he2.symm
        clear next HBl HBh he1 he2
        cases bl <;> cases bh <;> cases e1 <;> cases e2
        all_goals
          go_wp2_with fail
          go_roundw
          case rel => exact ⟨k + 1, _, _, by omega, by go_num, rfl, rfl, HNl.out, HNh.out, hbel5⟩
          case measure => simp [intOf]; omega
      · have hkN : k = N := by omega
        have hl : bl = true := HBl.out.2 (by
          obtain ⟨i, hi, e⟩ := minTo_at (h := h) N
          exact ⟨i, by omega, by rw [HMn.out, e]⟩)
        have hh : bh = true := HBh.out.2 (by
          obtain ⟨i, hi, e⟩ := maxTo_at (h := h) N
          exact ⟨i, by omega, by rw [HMx.out, e]⟩)
        subst hl hh
        clear hkN
        go_wp2_with fail
        refine (cellsOf_any _ _ _ _ _ _ HG4.out (by omega) (by omega) (by omega)).mono ?_
        rintro e w' ⟨rfl, rfl⟩
        rw [← HN.out]
        go_wp2_with fail
        go_ret
        exact ⟨rfl, hB3.trans (hbel.mono hB3.size)⟩
  · rw [rngV_no hv]
    have HR := Lib.hid (rngV_no hv)
    clear hv
    go_wp2_with fail
    refine (specGridRange_any _ _ _ _ _ _ (HG.out.below hb2) (by omega) HL.out).mono ?_
    rintro e w3 ⟨rfl, hb3⟩
    rw [HR.out]
    go_wp2_with fail
    go_ret
    exact ⟨rfl, hB2.trans (hb3.mono hB2.size)⟩

end Go.Proofs.Ytjgmhgjgcegohaa
