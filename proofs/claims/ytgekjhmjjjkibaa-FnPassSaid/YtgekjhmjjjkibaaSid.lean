/- Sides between land cells, and the shore: what the program's and the reference's functions return. -/
import Derived.Test.YtgekjhmjjjkibaaNxt
import Derived.Test.YtgekjhmjjjkibaaMark
namespace Go.Proofs.Ytgekjhmjjjkibaa
set_option linter.unusedVariables false
set_option linter.unusedSimpArgs false
open Go.RowKit

/-- How many of the first k numbers of a list have a property. -/
def cntL (p : Nat → Bool) (l : List Nat) : Nat → Nat
  | 0 => 0
  | k + 1 => cntL p l k + if p (l.getD k 0) then 1 else 0
theorem cntL_le (p : Nat → Bool) (l : List Nat) : ∀ k, cntL p l k ≤ k
  | 0 => Nat.le_refl _
  | k + 1 => by have := cntL_le p l k; unfold cntL; split <;> omega
theorem cntL_yes {p : Nat → Bool} {l : List Nat} {k : Nat} (h : p (l.getD k 0) = true) : cntL p l (k + 1) = cntL p l k + 1 := by rw [cntL, if_pos h]
theorem cntL_no {p : Nat → Bool} {l : List Nat} {k : Nat} (h : p (l.getD k 0) = false) : cntL p l (k + 1) = cntL p l k := by rw [cntL, h]; rfl

theorem l2Cells_any (A : Option Addr) (n c : Nat) (L : Nat → Nat) (g : Nat → Nat → Int) (w : World) (hg : GridF w A n L g) (hn1 : 1 ≤ n) (hn : n ≤ 1000) (hL : L 0 ≤ 1000) :
    Calls Try.prog 52 #[.slice A n c] w (RetP (.int .i64 ((n * L 0 : Nat))) w) := by
  obtain ⟨B, o, A0, c0, rfl, hc0, _, hr0⟩ := hg 0 (by omega)
  rw [Nat.add_zero] at hc0
  clear hr0 hg
  have hm : n * L 0 ≤ 1000000 := Nat.le_trans (Nat.mul_le_mul hn hL) (by decide)
  have hm0 : (0 : Int) ≤ (n : Int) * (L 0 : Int) := by rw [← Int.natCast_mul]; omega
  have hm1 : (n : Int) * (L 0 : Int) ≤ 1000000 := by rw [← Int.natCast_mul]; omega
  go_enter Try.func52, Try.ntmps52
  go_wp2_with fail
  go_ret
  exact ⟨ret_int (by rw [Int.natCast_mul]), rfl⟩

def sideP (h : Nat → Int) (l : Int) (i j : Nat) : Bool := decide (i < j ∧ l ≤ h i ∧ l ≤ h j)
def sideN (R C : Nat) (h : Nat → Int) (l : Int) (i : Nat) : Nat := cntL (sideP h l i) (nearL R C i) (nearL R C i).length
def sidesV (R C : Nat) (h : Nat → Int) (l : Int) : Nat := sumTo (sideN R C h l) (R * C)
theorem sumTo_bound {F : Nat → Nat} (hF : ∀ i, F i ≤ 4) : ∀ k, sumTo F k ≤ 4 * k
  | 0 => by simp [sumTo]
  | k + 1 => by have := sumTo_bound hF k; have := hF k; rw [sumTo]; omega
theorem sideN_le (R C : Nat) (h : Nat → Int) (l : Int) (i : Nat) : sideN R C h l i ≤ 4 := Nat.le_trans (cntL_le _ _ _) (nearL_len _ _ _)


theorem l2Height_h (A : Option Addr) (n c i : Nat) (L : Nat → Nat) (g : Nat → Nat → Int) (h : Nat → Int) (w : World) (hg : GridF w A n L g) (hv : Valid n L g) (hh : Hid (h = flat (L 0) g)) (hi : i < n * L 0) :
    Calls Try.prog 53 #[.slice A n c, .int .i64 i] w (RetV (.int .i64 (h i)) w) := by
  rw [hh.out]
  exact l2Height_any A n c i L g w hg hv hi

theorem le_min2 {l a b : Int} : l ≤ (if b < a then b else a) ↔ l ≤ a ∧ l ≤ b := by split <;> omega



end Go.Proofs.Ytgekjhmjjjkibaa
