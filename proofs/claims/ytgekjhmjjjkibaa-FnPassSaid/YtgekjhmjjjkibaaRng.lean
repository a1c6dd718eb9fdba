/- GridRange: what the program's and the reference's functions return. -/
import Derived.Test.YtgekjhmjjjkibaaA4
import Derived.Test.YtgekjhmjjjkibaaPl1
namespace Go.Proofs.Ytgekjhmjjjkibaa
set_option linter.unusedVariables false
set_option linter.unusedSimpArgs false
open Go.RowKit

def rngV (n : Nat) (L : Nat → Nat) (g : Nat → Nat → Int) : Value :=
  if Valid n L g then .tuple #[.int .i64 (minTo (flat (L 0) g) (n * L 0)), .int .i64 (maxTo (flat (L 0) g) (n * L 0)), .bool true] else .tuple #[.int .i64 0, .int .i64 0, .bool false]
theorem rngV_yes {n : Nat} {L : Nat → Nat} {g : Nat → Nat → Int} (h : Valid n L g) : rngV n L g = .tuple #[.int .i64 (minTo (flat (L 0) g) (n * L 0)), .int .i64 (maxTo (flat (L 0) g) (n * L 0)), .bool true] := if_pos h
theorem rngV_no {n : Nat} {L : Nat → Nat} {g : Nat → Nat → Int} (h : ¬ Valid n L g) : rngV n L g = .tuple #[.int .i64 0, .int .i64 0, .bool false] := if_neg h

theorem implGridRange_any (A : Option Addr) (n cp : Nat) (L : Nat → Nat) (g : Nat → Nat → Int) (w : World) (hg : GridF w A n L g) (hn : n ≤ 1048576) (hL : ∀ r, r < n → L r ≤ 1048576) :
    Calls Try.prog 66 #[.slice A n cp] w (RetV (rngV n L g) w) := by
  have HG := Lib.hid hg
  have HL := Lib.hid hL
  clear hg hL
  by_cases hv : Valid n L g
  · rw [rngV_yes hv]
    have HV := Lib.hid hv
    have hn1 := hv.1
    have hn2 := hv.2.1
    have hl1 := hv.2.2.1
    have hl2 := hv.2.2.2.1
    clear hv
    obtain ⟨N, hN⟩ : ∃ N, N = n * L 0 := ⟨_, rfl⟩
    have hN1 : N ≤ 49 := by rw [hN]; exact Nat.le_trans (Nat.mul_le_mul hn2 hl2) (by decide)
    have hN0 : 0 < N := by rw [hN]; exact Nat.mul_pos (by omega) (by omega)
    rw [← hN]
    have HN := Lib.hid hN
    clear hN
    obtain ⟨h, hh⟩ : ∃ h, h = flat (L 0) g := ⟨_, rfl⟩
    rw [← hh]
    have HH := Lib.hid hh
    clear hh
    go_enter Try.func66, Try.ntmps66
    go_wp2_with fail
    refine (fieldOf_yes _ _ _ N _ _ _ HG.out HV.out HN).mono ?_
    rintro e w1 ⟨b, rfl, hlo, hrow, hb1⟩
    rw [← HH.out] at hrow
    have hb2 := hb1.alloc hb1.size (.cells #[.int .i64 n, .int .i64 (L 0), .slice (some ⟨b, 0, none⟩) N N] 49)
    have hrow2 := hrow.alloc (.cells #[.int .i64 n, .int .i64 (L 0), .slice (some ⟨b, 0, none⟩) N N] 49)
    have HRow := Lib.hid hrow2
    have hc0 := hrow2.cell hN0
    clear hrow hrow2
    go_wp2_with fail
    go_quiet (fail)
    go_wp2_with fail
    generalize hw2 : World.drewN _ nq = w2
    have hb3 : Below w.heap.size w w2 := by rw [← hw2]; exact below_drewN hb2 _
    have HRow2 : Hid (w2.rowIs b 3 N (fun i => .int .i64 (h i))) := by rw [← hw2]; exact HRow
    clear hw2 HRow hc0 hb2
    go_loop [7, 8, 29] (fun lo hi i => ∃ k : Nat, k ≤ N ∧ i = .int .i64 k ∧ lo = .int .i64 (minTo h k) ∧ hi = .int .i64 (maxTo h k)) (fun _ _ i => N - (intOf i).toNat)
    case atStart => exact ⟨0, Nat.zero_le _, rfl, rfl, rfl⟩
    case round =>
      obtain ⟨k, hk, rfl, rfl, rfl⟩ := hrel
      by_cases hlt : k < N
      · have hc := HRow2.out.cell hlt
        go_wp2_with fail
        go_round
        case rel => exact ⟨k + 1, by omega, by go_num, val_int (by rw [minTo]; first | rfl | (split <;> omega)), val_int (by rw [maxTo]; split <;> omega)⟩
        case measure => simp [intOf]; omega
      · have hkN : k = N := by omega
        have HKN := Lib.hid hkN
        clear hkN
        go_wp2_with fail
        go_ret3
        rw [HKN.out]
        exact ⟨rfl, hb3⟩
  · rw [rngV_no hv]
    have HV := Lib.hid hv
    clear hv
    go_enter Try.func66, Try.ntmps66
    go_wp2_with fail
    refine (fieldOf_no _ _ _ _ _ _ HG.out hn HL.out HV.out).mono ?_
    rintro e w1 ⟨rfl, hb1⟩
    go_wp2_with fail
    go_ret3
    exact ⟨rfl, hb1.alloc hb1.size _⟩


theorem specGridRange_any (A : Option Addr) (n cp : Nat) (L : Nat → Nat) (g : Nat → Nat → Int) (w : World) (hg : GridF w A n L g) (hn : n ≤ 1048576) (hL : ∀ r, r < n → L r ≤ 1048576) :
    Calls Try.prog 77 #[.slice A n cp] w (RetV (rngV n L g) w) := by
  have HG := Lib.hid hg
  have HL := Lib.hid hL
  clear hg hL
  by_cases hv : Valid n L g
  · rw [rngV_yes hv]
    have HV := Lib.hid hv
    have hn1 := hv.1
    have hn2 := hv.2.1
    have hl1 := hv.2.2.1
    have hl2 := hv.2.2.2.1
    clear hv
    obtain ⟨B, o, A0, c0, rfl, hc0, _, hr0⟩ := HG.out 0 (by omega)
    rw [Nat.add_zero] at hc0
    obtain ⟨B0, o0, rfl, hc00⟩ := hr0 0 (by omega)
    rw [Nat.add_zero] at hc00
    clear hr0
    have h00 : g 0 0 = flat (L 0) g 0 := by simp [flat]
    rw [h00] at hc00
    clear h00
    obtain ⟨h, hh⟩ : ∃ h, h = flat (L 0) g := ⟨_, rfl⟩
    rw [← hh] at hc00 ⊢
    have HH := Lib.hid hh
    clear hh
    go_enter Try.func77, Try.ntmps77
    go_wp2_with fail
    refine (specValid_yes _ _ _ _ _ _ HG.out HV.out).mono ?_
    rintro e w1 ⟨rfl, hb1⟩
    have hc0' := (hb1.cell (World.block_lt_of_cell? w _ hc0)).trans hc0
    have hc00' := (hb1.cell (World.block_lt_of_cell? w _ hc00)).trans hc00
    clear hc0 hc00
    go_wp2_with fail
    go_loop [5, 6, 7] (fun lo hi i => ∃ k : Nat, k ≤ n ∧ i = .int .i64 k ∧ lo = .int .i64 (minTo h (k * L 0)) ∧ hi = .int .i64 (maxTo h (k * L 0))) (fun _ _ i => n - (intOf i).toNat)
    case atStart => exact ⟨0, Nat.zero_le _, rfl, by rw [Nat.zero_mul]; rfl, by rw [Nat.zero_mul]; rfl⟩
    case round =>
      obtain ⟨k, hk, rfl, rfl, rfl⟩ := hrel
      by_cases hlt : k < n
      · obtain ⟨B', o', A1, c1, hBB, hc1, _, hr1⟩ := (HG.out.below hb1) k hlt
        injection hBB with hBB
        injection hBB with hB1 hB2
        subst hB1 hB2
        rw [HV.out.len k hlt] at hc1 hr1
        have HR1 := Lib.hid hr1
        clear hr1
        go_wp2_with fail
        go_loop [5, 6, 8] (fun lo hi i => ∃ j : Nat, j ≤ L 0 ∧ i = .int .i64 j ∧ lo = .int .i64 (minTo h (k * L 0 + j)) ∧ hi = .int .i64 (maxTo h (k * L 0 + j))) (fun _ _ i => L 0 - (intOf i).toNat)
        case atStart => exact ⟨0, Nat.zero_le _, rfl, rfl, rfl⟩
        case round =>
          obtain ⟨j, hj, rfl, rfl, rfl⟩ := hrel
          by_cases hlt2 : j < L 0
          · obtain ⟨B2, o2, rfl, hc2⟩ := HR1.out j hlt2
            have hfl : g k j = h (k * L 0 + j) := by rw [HH.out, flat_at g hlt2]
            rw [hfl] at hc2
            clear hfl
            go_wp2_with fail
            go_round
            case rel => exact ⟨j + 1, by omega, by go_num, val_int (by rw [← Nat.add_assoc, minTo]; first | rfl | (split <;> omega)), val_int (by rw [← Nat.add_assoc, maxTo]; split <;> omega)⟩
            case measure => simp [intOf]; omega
          · have hj2 : j = L 0 := by omega
            have HJ := Lib.hid hj2
            clear hj2
            go_wp2_with fail
            go_round
            case rel => exact ⟨k + 1, by omega, by go_num, by rw [HJ.out, Nat.succ_mul], by rw [HJ.out, Nat.succ_mul]⟩
            case measure => simp [intOf]; omega
      · have hkN : k = n := by omega
        have HKN := Lib.hid hkN
        clear hkN
        go_wp2_with fail
        go_ret3
        rw [HKN.out]
        exact ⟨rfl, hb1⟩
  · rw [rngV_no hv]
    have HV := Lib.hid hv
    clear hv
    go_enter Try.func77, Try.ntmps77
    go_wp2_with fail
    refine (specValid_no _ _ _ _ _ _ HG.out hn HL.out HV.out).mono ?_
    rintro e w1 ⟨rfl, hb1⟩
    go_wp2_with fail
    go_ret3
    exact ⟨rfl, hb1⟩

end Go.Proofs.Ytgekjhmjjjkibaa
