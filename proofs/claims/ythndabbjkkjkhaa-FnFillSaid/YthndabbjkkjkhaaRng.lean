/- GridRange: what the program's and the reference's functions return. -/
import Derived.Test.YthndabbjkkjkhaaA4
import Derived.Test.YthndabbjkkjkhaaPl1
namespace Go.Proofs.Ythndabbjkkjkhaa
set_option linter.unusedVariables false
set_option linter.unusedSimpArgs false
open Go.RowKit

def rngV (n : Nat) (L : Nat → Nat) (g : Nat → Nat → Int) : Value :=
  if Valid n L g then .tuple #[.int .i64 (minTo (flat (L 0) g) (n * L 0)), .int .i64 (maxTo (flat (L 0) g) (n * L 0)), .bool true] else .tuple #[.int .i64 0, .int .i64 0, .bool false]
theorem rngV_yes {n : Nat} {L : Nat → Nat} {g : Nat → Nat → Int} (h : Valid n L g) : rngV n L g = .tuple #[.int .i64 (minTo (flat (L 0) g) (n * L 0)), .int .i64 (maxTo (flat (L 0) g) (n * L 0)), .bool true] := if_pos h
theorem rngV_no {n : Nat} {L : Nat → Nat} {g : Nat → Nat → Int} (h : ¬ Valid n L g) : rngV n L g = .tuple #[.int .i64 0, .int .i64 0, .bool false] := if_neg h

theorem implGridRange_any (A : Option Addr) (n cp : Nat) (L : Nat → Nat) (g : Nat → Nat → Int) (w : World) (hg : GridF w A n L g) (hn : n ≤ 1048576) (hL : ∀ r, r < n → L r ≤ 1048576) :
    Calls Try.prog 43 #[.slice A n cp] w (RetV (rngV n L g) w) := by
  have HG := Lib.hid hg
  have HL := Lib.hid hL
  clear hg hL
  by_cases hv : Valid n L g
  · rw [rngV_yes hv]
    have HV := Lib.hid hv
    have hn1 := hv.1
    have hn2 := hv.2.1
    have hl1 := hv.2.2.1
    have hl2 := hv.2.2.2.1
    clear hv
    obtain ⟨N, hN⟩ : ∃ N, N = n * L 0 := ⟨_, rfl⟩
    have hN1 : N ≤ 49 := by rw [hN]; exact Nat.le_trans (Nat.mul_le_mul hn2 hl2) (by decide)
    have hN0 : 0 < N := by rw [hN]; exact Nat.mul_pos (by omega) (by omega)
    rw [← hN]
    have HN := Lib.hid hN
    clear hN
    obtain ⟨h, hh⟩ : ∃ h, h = flat (L 0) g := ⟨_, rfl⟩
    rw [← hh]
    have HH := Lib.hid hh
    clear hh
    go_enter Try.func43, Try.ntmps43
    go_wp2_with fail
    refine (fieldOf_yes _ _ _ N _ _ _ HG.out HV.out HN).mono ?_
    rintro e w1 ⟨b, rfl, hlo, hrow, hb1⟩
    rw [← HH.out] at hrow
    have hb2 := hb1.alloc hb1.size (.cells #[.int .i64 n, .int .i64 (L 0), .slice (some ⟨b, 0, none⟩) N N] 59)
    have hrow2 := hrow.alloc (.cells #[.int .i64 n, .int .i64 (L 0), .slice (some ⟨b, 0, none⟩) N N] 59)
    have HRow := Lib.hid hrow2
    have hc0 := hrow2.cell hN0
    clear hrow hrow2
    go_wp2_with fail
    go_quiet (fail)
    go_wp2_with fail
    generalize hw2 : World.drewN _ nq = w2
    have hb3 : Below w.heap.size w w2 := by rw [← hw2]; exact below_drewN hb2 _
    have HRow2 : Hid (w2.rowIs b 3 N (fun i => .int .i64 (h i))) := by rw [← hw2]; exact HRow
    clear hw2 HRow hc0 hb2
    go_loop [7, 8, 29] (fun lo hi i => ∃ k : Nat, k ≤ N ∧ i = .int .i64 k ∧ lo = .int .i64 (minTo h k) ∧ hi = .int .i64 (maxTo h k)) (fun _ _ i => N - (intOf i).toNat)
    case atStart => exact ⟨0, Nat.zero_le _, rfl, rfl, rfl⟩
    case round =>
      obtain ⟨k, hk, rfl, rfl, rfl⟩ := hrel
      by_cases hlt : k < N
      · have hc := HRow2.out.cell hlt
        go_wp2_with fail
        go_round
        case rel => exact ⟨k + 1, by omega, by go_num, val_int (by rw [minTo]; first | rfl | (split <;> omega)), val_int (by rw [maxTo]; split <;> omega)⟩
        case measure => simp [intOf]; omega
      · have hkN : k = N := by omega
        have HKN := Lib.hid hkN
        clear hkN
        go_wp2_with fail
        go_ret3
        rw [HKN.out]
        exact ⟨rfl, hb3⟩
  · rw [rngV_no hv]
    have HV := Lib.hid hv
    clear hv
    go_enter Try.func43, Try.ntmps43
    go_wp2_with fail
    refine (fieldOf_no _ _ _ _ _ _ HG.out hn HL.out HV.out).mono ?_
    rintro e w1 ⟨rfl, hb1⟩
    go_wp2_with fail
    go_ret3
    exact ⟨rfl, hb1.alloc hb1.size _⟩



end Go.Proofs.Ythndabbjkkjkhaa
