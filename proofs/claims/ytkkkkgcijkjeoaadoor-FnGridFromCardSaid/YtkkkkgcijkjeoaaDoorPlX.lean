/- Plain words: the text of a grid. -/
import Derived.Test.YtkkkkgcijkjeoaaDoorMem
namespace Go.Proofs.YtkkkkgcijkjeoaaDoor
set_option linter.unusedVariables false
set_option linter.unusedSimpArgs false

/-- Two digits. -/
def cellT (h : Int) : List UInt8 := [UInt8.ofNat (48 + h.toNat / 10), UInt8.ofNat (48 + h.toNat % 10)]
/-- The first k cells of a row. -/
def rowT (f : Nat → Int) : Nat → List UInt8
  | 0 => []
  | k + 1 => (if k = 0 then rowT f k else rowT f k ++ [32]) ++ cellT (f k)
/-- The first r rows of a grid with C columns. -/
def gridT (C : Nat) (g : Nat → Nat → Int) : Nat → List UInt8
  | 0 => []
  | r + 1 => (if r = 0 then gridT C g r else gridT C g r ++ [47]) ++ rowT (g r) C
theorem rowT_len (f : Nat → Int) : ∀ k, (rowT f k).length = 3 * k - 1
  | 0 => rfl
  | k + 1 => by
    have h := rowT_len f k
    rw [rowT]
    by_cases h0 : k = 0
    · subst h0; rfl
    · rw [if_neg h0]
      simp only [List.length_append, h, List.length_cons, List.length_nil, cellT]
      omega
theorem gridT_len (C : Nat) (g : Nat → Nat → Int) (hC : 1 ≤ C) : ∀ r, (gridT C g r).length = 3 * (C * r) - 1
  | 0 => rfl
  | r + 1 => by
    have h := gridT_len C g hC r
    rw [gridT]
    by_cases h0 : r = 0
    · subst h0
      simp only [if_true, List.length_append, h, rowT_len]
      simp
    · rw [if_neg h0]
      have : 1 ≤ C * r := Nat.mul_pos hC (by omega)
      simp only [List.length_append, h, rowT_len, List.length_cons, List.length_nil, Nat.mul_add]
      omega
/-- What stands ahead of the cell c of the row r. -/
def preT (C : Nat) (g : Nat → Nat → Int) (r : Nat) : List UInt8 := if r = 0 then gridT C g r else gridT C g r ++ [47]
def preC (f : Nat → Int) (k : Nat) : List UInt8 := if k = 0 then rowT f k else rowT f k ++ [32]
theorem gridT_succ (C : Nat) (g : Nat → Nat → Int) (r : Nat) : gridT C g (r + 1) = preT C g r ++ rowT (g r) C := rfl
theorem rowT_succ (f : Nat → Int) (k : Nat) : rowT f (k + 1) = preC f k ++ cellT (f k) := rfl
open Classical in
noncomputable def textV (n : Nat) (L : Nat → Nat) (g : Nat → Nat → Int) : List UInt8 := if Valid n L g then gridT (L 0) g n else []
theorem digit_u8 (d : Nat) (hd : d ≤ 9) : ((UInt8.ofNat (48 + d)).toNat : Int) = 48 + (d : Int) := by
  have : (UInt8.ofNat (48 + d)).toNat = 48 + d := by
    simp
    omega
  rw [this]
  omega
theorem preT_len {C : Nat} (g : Nat → Nat → Int) {r c n : Nat} (hr : r < n) (hn : n ≤ 7) (hC1 : 1 ≤ C) (hC : C ≤ 7) (hc : c ≤ C) : (preT C g r ++ rowT (g r) c).length ≤ 1000 ∧ (preC (g r) c).length ≤ 1000 ∧ (preT C g r ++ preC (g r) c).length ≤ 1000 := by
  have h1 := gridT_len C g hC1 r
  have h2 := rowT_len (g r) c
  have h3 : C * r ≤ 49 := Nat.le_trans (Nat.mul_le_mul hC (show r ≤ 7 by omega)) (by decide)
  have h4 : (preT C g r).length ≤ 150 := by unfold preT; split <;> first | omega | (simp only [List.length_append, List.length_cons, List.length_nil]; omega)
  have h5 : (preC (g r) c).length ≤ 30 := by unfold preC; split <;> first | omega | (simp only [List.length_append, List.length_cons, List.length_nil]; omega)
  simp only [List.length_append]
  omega
theorem gridT_len7 {C : Nat} (g : Nat → Nat → Int) {r n : Nat} (hr : r ≤ n) (hn : n ≤ 7) (hC1 : 1 ≤ C) (hC : C ≤ 7) : (gridT C g r).length ≤ 1000 := by
  have h1 := gridT_len C g hC1 r
  have h3 : C * r ≤ 49 := Nat.le_trans (Nat.mul_le_mul hC (show r ≤ 7 by omega)) (by decide)
  omega

end Go.Proofs.YtkkkkgcijkjeoaaDoor
