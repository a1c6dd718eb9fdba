/- Where water flows: next; heights by index. What the program's and the reference's functions return. -/
import Derived.Test.YtgekjhmjjjkibaaNear
import Derived.Test.YtgekjhmjjjkibaaITurn
namespace Go.Proofs.Ytgekjhmjjjkibaa
set_option linter.unusedVariables false
set_option linter.unusedSimpArgs false
open Go.RowKit

/-- The lowest of a cell and the first k cells of a list, the first of those. -/
def low (h : Nat → Int) (l : List Nat) (i : Nat) : Nat → Nat
  | 0 => i
  | k + 1 => if h (l.getD k 0) < h (low h l i k) then l.getD k 0 else low h l i k
def nextV (R C : Nat) (h : Nat → Int) (i : Nat) : Nat := low h (nearL R C i) i (nearL R C i).length

theorem getD_in {l : List Nat} {q : Nat} (hq : q < l.length) : l.getD q 0 ∈ l := by
  rw [List.getD, List.getElem?_eq_getElem hq]
  exact List.getElem_mem _
theorem low_or {h : Nat → Int} {l : List Nat} {i : Nat} : ∀ {k : Nat}, k ≤ l.length → low h l i k = i ∨ low h l i k ∈ l
  | 0, _ => .inl rfl
  | k + 1, hk => by
    unfold low
    split
    · exact .inr (getD_in (by omega))
    · exact low_or (by omega)
theorem low_lt {R C : Nat} {h : Nat → Int} {i k : Nat} (hi : i < R * C) (hk : k ≤ (nearL R C i).length) : low h (nearL R C i) i k < R * C := by
  rcases low_or (h := h) (i := i) hk with e | e
  · rw [e]; exact hi
  · exact nearL_lt hi e
theorem low_congr {h h' : Nat → Int} {l : List Nat} {i : Nat} (hi : h i = h' i) : ∀ {k : Nat}, k ≤ l.length → (∀ j, j ∈ l → h j = h' j) → low h l i k = low h' l i k
  | 0, _, _ => rfl
  | k + 1, hk, hl => by
    have ih := low_congr (h := h) (h' := h') (l := l) (i := i) hi (k := k) (by omega) hl
    have e1 := hl _ (getD_in (l := l) (q := k) (by omega))
    have e2 : h (low h l i k) = h' (low h l i k) := by
      rcases low_or (h := h) (i := i) (show k ≤ l.length by omega) with e | e
      · rw [e]; exact hi
      · exact hl _ e
    unfold low
    rw [← ih, e1, e2]


theorem l2Height_any (A : Option Addr) (n c i : Nat) (L : Nat → Nat) (g : Nat → Nat → Int) (w : World) (hg : GridF w A n L g) (hv : Valid n L g) (hi : i < n * L 0) :
    Calls Try.prog 53 #[.slice A n c, .int .i64 i] w (RetV (.int .i64 (flat (L 0) g i)) w) := by
  have hn1 := hv.1
  have hn2 := hv.2.1
  have hl1 := hv.2.2.1
  have hl2 := hv.2.2.2.1
  obtain ⟨r, hr⟩ : ∃ r, r = i / L 0 := ⟨_, rfl⟩
  obtain ⟨q, hq⟩ : ∃ q, q = i % L 0 := ⟨_, rfl⟩
  have hrn : r < n := by rw [hr]; exact Nat.div_lt_of_lt_mul (by rw [Nat.mul_comm]; exact hi)
  have hqL : q < L 0 := by rw [hq]; exact Nat.mod_lt _ (by omega)
  obtain ⟨B, o, A0, c0, rfl, hc0, _, _⟩ := hg 0 (by omega)
  rw [Nat.add_zero] at hc0
  obtain ⟨B1, o1, A1, c1, hBB, hc1, _, hr1⟩ := hg r hrn
  injection hBB with hBB
  injection hBB with hB1 hB2
  subst hB1 hB2
  rw [hv.len r hrn] at hc1 hr1
  obtain ⟨B2, o2, rfl, hc2⟩ := hr1 q hqL
  have HF : Hid (flat (L 0) g i = g r q) := by rw [hr, hq]; rfl
  have e1 : (i : Int) / (L 0 : Int) = (r : Int) := by rw [hr, Int.natCast_ediv]
  have e2 : (i : Int) % (L 0 : Int) = (q : Int) := by rw [hq, Int.natCast_emod]
  have e3 : ((L 0 : Int) == 0) = false := by simp; omega
  clear hr hq hg hv hi hr1
  go_enter Try.func53, Try.ntmps53
  go_wp2_with fail
  go_quiet (fail)
  go_wp2_with fail
  go_ret
  exact ⟨ret_int HF.out.symm, below_drewN (Below.refl _ _) _⟩



end Go.Proofs.Ytgekjhmjjjkibaa
