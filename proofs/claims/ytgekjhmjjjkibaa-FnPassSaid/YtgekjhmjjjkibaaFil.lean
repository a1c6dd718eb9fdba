/- The border, and the drained field: what the program's functions return. -/
import Derived.Test.YtgekjhmjjjkibaaNear
import Derived.Test.YtgekjhmjjjkibaaITurn
import Derived.Test.YtgekjhmjjjkibaaPlF
namespace Go.Proofs.Ytgekjhmjjjkibaa
set_option linter.unusedVariables false
set_option linter.unusedSimpArgs false
open Go.RowKit

set_option maxHeartbeats 1000000 in
theorem border_any (R C N b i : Nat) (w : World) (hR1 : 1 ≤ R) (hC1 : 1 ≤ C) (hR : R ≤ 1000) (hC : C ≤ 1000) (hi : Hid (i < R * C)) :
    Calls Try.prog 84 #[.agg #[.int .i64 R, .int .i64 C, .slice (some ⟨b, 0, none⟩) N N], .int .i64 i] w (RetV (.bool (brd R C i)) w) := by
  have hib : i ≤ 1000000 := Nat.le_trans (Nat.le_of_lt hi.out) (Nat.le_trans (Nat.mul_le_mul hR hC) (by decide))
  have HBR : Hid (brd R C i = decide (i / C = 0 ∨ i / C = R - 1 ∨ i % C = 0 ∨ i % C = C - 1)) := rfl
  have hcC : i % C < C := Nat.mod_lt _ (by omega)
  have hrR : i / C < R := Nat.div_lt_of_lt_mul (by rw [Nat.mul_comm]; exact hi.out)
  have e1 : (i : Int) / (C : Int) = ((i / C : Nat) : Int) := by rw [Int.natCast_ediv]
  have e2 : (i : Int) % (C : Int) = ((i % C : Nat) : Int) := by rw [Int.natCast_emod]
  have e3 : Int.tmod (i : Int) (C : Int) = ((i % C : Nat) : Int) := (Int.ofNat_tmod i C).symm
  generalize i / C = r at *
  generalize i % C = c at *
  have fin : ∀ (b : Bool) (e : Ending) (w' : World), Hid (b = decide (r = 0 ∨ r = R - 1 ∨ c = 0 ∨ c = C - 1)) → e = .returned (.bool b) → Below w.heap.size w w' → RetV (.bool (brd R C i)) w e w' := fun b e w' hb he hbl => ⟨by rw [he, HBR.out, hb.out], hbl⟩
  have Fin := Lib.hid fin
  clear fin
  have hbx : ∀ k, Below w.heap.size w ((w.alloc (.cells #[.int .i64 R, .int .i64 C, .slice (some ⟨b, 0, none⟩) N N] 49)).drewN k) := fun k => below_drewN (below_alloc _ _) k
  have HBX := Lib.hid hbx
  clear hbx
  by_cases p1 : r = 0
  · have d1 : ((r : Int) == 0) = true := by simp; omega
    have HP := Lib.hid p1
    clear p1
    go_enter Try.func84, Try.ntmps84
    go_wp2_with fail
    go_quiet (fail)
    go_wp2_with fail
    go_ret
    exact Fin.out true _ _ (by show _ = _; symm; simp [HP.out]) rfl (HBX.out _)
  have d1 : ((r : Int) == 0) = false := by simp; omega
  by_cases p2 : r = R - 1
  · have d2 : ((r : Int) == (R : Int) - 1) = true := by simp; omega
    have HP := Lib.hid p2
    clear p1 p2
    go_enter Try.func84, Try.ntmps84
    go_wp2_with fail
    go_quiet (fail)
    go_wp2_with fail
    go_ret
    exact Fin.out true _ _ (by show _ = _; symm; simp [HP.out]) rfl (HBX.out _)
  have d2 : ((r : Int) == (R : Int) - 1) = false := by simp; omega
  by_cases p3 : c = 0
  · have d3 : ((c : Int) == 0) = true := by simp; omega
    have HP := Lib.hid p3
    clear p1 p2 p3
    go_enter Try.func84, Try.ntmps84
    go_wp2_with fail
    go_quiet (fail)
    go_wp2_with fail
    go_ret
    exact Fin.out true _ _ (by show _ = _; symm; simp [HP.out]) rfl (HBX.out _)
  have d3 : ((c : Int) == 0) = false := by simp; omega
  by_cases p4 : c = C - 1
  · have d4 : ((c : Int) == (C : Int) - 1) = true := by simp; omega
    have HP := Lib.hid p4
    clear p1 p2 p3 p4
    go_enter Try.func84, Try.ntmps84
    go_wp2_with fail
    go_quiet (fail)
    go_wp2_with fail
    go_ret
    exact Fin.out true _ _ (by show _ = _; symm; simp [HP.out]) rfl (HBX.out _)
  have d4 : ((c : Int) == (C : Int) - 1) = false := by simp; omega
  have HP : Hid (¬ (r = 0 ∨ r = R - 1 ∨ c = 0 ∨ c = C - 1)) := by show ¬ _; omega
  clear p1 p2 p3 p4
  go_enter Try.func84, Try.ntmps84
  go_wp2_with fail
  go_quiet (fail)
  go_wp2_with fail
  go_ret
  exact Fin.out false _ _ (by show _ = _; symm; exact decide_eq_false HP.out) rfl (HBX.out _)

theorem blk_ne {w : World} {B q n : Nat} {cs : Array Value} {t t' : TypeId} {f : Nat → Value} (h : w.heap[B]? = some (.cells cs t (0, 0))) (h' : w.rowIs q t' n f) (hne : t ≠ t') : B ≠ q := by
  rintro rfl
  obtain ⟨c, hc, _⟩ := h'
  rw [h] at hc
  injection hc with hc
  injection hc with _ hc
  exact hne hc


end Go.Proofs.Ytgekjhmjjjkibaa
