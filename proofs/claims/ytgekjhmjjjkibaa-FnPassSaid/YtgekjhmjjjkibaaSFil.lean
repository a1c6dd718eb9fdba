/- The border, and the drained heights: what the reference's functions return. -/
import Derived.Test.YtgekjhmjjjkibaaFil
import Derived.Test.YtgekjhmjjjkibaaSid
namespace Go.Proofs.Ytgekjhmjjjkibaa
set_option linter.unusedVariables false
set_option linter.unusedSimpArgs false
open Go.RowKit

set_option maxHeartbeats 1000000 in
theorem l2Border_any (A : Option Addr) (n cp i : Nat) (L : Nat → Nat) (g : Nat → Nat → Int) (w : World) (hg : GridF w A n L g) (hn1 : 1 ≤ n) (hn2 : n ≤ 1000) (hl1 : 1 ≤ L 0) (hl2 : L 0 ≤ 1000) (hi : i < n * L 0) :
    Calls Try.prog 54 #[.slice A n cp, .int .i64 i] w (RetP (.bool (brd n (L 0) i)) w) := by
  obtain ⟨B, o, A0, c0, rfl, hc0, _, hr0⟩ := hg 0 (by omega)
  rw [Nat.add_zero] at hc0
  clear hr0 hg
  generalize L 0 = C at *
  have hib : i ≤ 1000000 := Nat.le_trans (Nat.le_of_lt hi) (Nat.le_trans (Nat.mul_le_mul hn2 hl2) (by decide))
  have hcC : i % C < C := Nat.mod_lt _ (by omega)
  have hrR : i / C < n := Nat.div_lt_of_lt_mul (by rw [Nat.mul_comm]; exact hi)
  have HR0 : Hid (i < C ↔ i / C = 0) := by
    show i < C ↔ i / C = 0
    rw [Nat.div_eq_zero_iff]; omega
  have HRn : Hid ((C : Int) * ((n : Int) - 1) ≤ (i : Int) ↔ i / C = n - 1) := by
    show _ ↔ i / C = n - 1
    have h1 : n - 1 ≤ i / C ↔ C * (n - 1) ≤ i := by rw [Nat.le_div_iff_mul_le (by omega), Nat.mul_comm]
    have h2 : ((C * (n - 1) : Nat) : Int) = (C : Int) * ((n : Int) - 1) := by rw [Int.natCast_mul, Int.natCast_sub hn1]; rfl
    rw [← h2, Int.ofNat_le, ← h1]
    exact ⟨fun h => Nat.le_antisymm (Nat.le_sub_one_of_lt hrR) h, fun h => Nat.le_of_eq h.symm⟩
  have hm0 : (0 : Int) ≤ (C : Int) * ((n : Int) - 1) := Int.mul_nonneg (by omega) (by omega)
  have hm1 : (C : Int) * ((n : Int) - 1) ≤ 1000000 := by
    have := Nat.mul_le_mul hl2 (by omega : n - 1 ≤ 1000)
    rw [← Int.ofNat_le, Int.natCast_mul, Int.natCast_sub hn1] at this
    exact Int.le_trans this (by decide)
  have HBR : Hid (brd n C i = decide (i / C = 0 ∨ i / C = n - 1 ∨ i % C = 0 ∨ i % C = C - 1)) := rfl
  have e2 : (i : Int) % (C : Int) = ((i % C : Nat) : Int) := by rw [Int.natCast_emod]
  have e3 : Int.tmod (i : Int) (C : Int) = ((i % C : Nat) : Int) := (Int.ofNat_tmod i C).symm
  generalize i / C = r at *
  generalize i % C = c at *
  have Fin : Hid (∀ (b : Bool) (e : Ending), Hid (b = decide (r = 0 ∨ r = n - 1 ∨ c = 0 ∨ c = C - 1)) → e = .returned (.bool b) → e = .returned (.bool (brd n C i))) := fun b e hb he => by rw [he, HBR.out, hb.out]
  clear hi
  by_cases p1 : r = 0
  · have d1 := HR0.out.2 p1
    have HP := Lib.hid p1
    clear p1
    go_enter Try.func54, Try.ntmps54
    go_wp2_with fail
    go_ret
    exact ⟨Fin.out true _ (by show _ = _; symm; simp [HP.out]) rfl, rfl⟩
  have d1 : decide (i < C) = false := decide_eq_false (mt HR0.out.1 p1)
  by_cases p2 : r = n - 1
  · have d2 := HRn.out.2 p2
    have HP := Lib.hid p2
    clear p1 p2
    go_enter Try.func54, Try.ntmps54
    go_wp2_with fail
    go_ret
    exact ⟨Fin.out true _ (by show _ = _; symm; simp [HP.out]) rfl, rfl⟩
  have d2 : decide ((C : Int) * ((n : Int) - 1) ≤ (i : Int)) = false := decide_eq_false (mt HRn.out.1 p2)
  by_cases p3 : c = 0
  · have d3 : ((c : Int) == 0) = true := by simp; omega
    have HP := Lib.hid p3
    clear p1 p2 p3
    go_enter Try.func54, Try.ntmps54
    go_wp2_with fail
    go_ret
    exact ⟨Fin.out true _ (by show _ = _; symm; simp [HP.out]) rfl, rfl⟩
  have d3 : ((c : Int) == 0) = false := by simp; omega
  by_cases p4 : c = C - 1
  · have d4 : ((c : Int) == (C : Int) - 1) = true := by simp; omega
    have HP := Lib.hid p4
    clear p1 p2 p3 p4
    go_enter Try.func54, Try.ntmps54
    go_wp2_with fail
    go_ret
    exact ⟨Fin.out true _ (by show _ = _; symm; simp [HP.out]) rfl, rfl⟩
  have d4 : ((c : Int) == (C : Int) - 1) = false := by simp; omega
  have HP : Hid (¬ (r = 0 ∨ r = n - 1 ∨ c = 0 ∨ c = C - 1)) := by show ¬ _; omega
  clear p1 p2 p3 p4
  go_enter Try.func54, Try.ntmps54
  go_wp2_with fail
  go_ret
  exact ⟨Fin.out false _ (by show _ = _; symm; exact decide_eq_false HP.out) rfl, rfl⟩


end Go.Proofs.Ytgekjhmjjjkibaa
