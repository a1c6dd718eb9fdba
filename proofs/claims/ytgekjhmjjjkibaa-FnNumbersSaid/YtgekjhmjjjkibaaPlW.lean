/- Plain words: where water flows, and sinks: no neighbor is lower. -/
import Derived.Test.YtgekjhmjjjkibaaSnk
namespace Go.Proofs.Ytgekjhmjjjkibaa
set_option linter.unusedVariables false
set_option linter.unusedSimpArgs false
open Go.RowKit

section
variable {h : Nat → Int} {l : List Nat} {i : Nat}
theorem low_le : ∀ {k : Nat}, h (low h l i k) ≤ h i ∧ ∀ q, q < k → h (low h l i k) ≤ h (l.getD q 0)
  | 0 => ⟨Int.le_refl _, fun q hq => absurd hq (Nat.not_lt_zero q)⟩
  | k + 1 => by
    obtain ⟨h1, h2⟩ := low_le (k := k)
    unfold low
    split
    · rename_i hlt
      refine ⟨by omega, fun q hq => ?_⟩
      by_cases e : q = k
      · subst e; exact Int.le_refl _
      · have := h2 q (by omega); omega
    · rename_i hlt
      refine ⟨h1, fun q hq => ?_⟩
      by_cases e : q = k
      · subst e; omega
      · exact h2 q (by omega)
theorem low_lower : ∀ {k : Nat}, k ≤ l.length → low h l i k = i ∨ (low h l i k ∈ l ∧ h (low h l i k) < h i)
  | 0, _ => .inl rfl
  | k + 1, hk => by
    have h1 := (low_le (h := h) (l := l) (i := i) (k := k)).1
    unfold low
    split
    · exact .inr ⟨getD_in (by omega), by omega⟩
    · exact low_lower (by omega)
theorem low_raise (d : Int) : ∀ k, low (fun x => h x + d) l i k = low h l i k
  | 0 => rfl
  | k + 1 => by
    unfold low
    rw [low_raise d k]
    by_cases e : h (l.getD k 0) < h (low h l i k)
    · rw [if_pos e, if_pos (by omega)]
    · rw [if_neg e, if_neg (by omega)]
end

theorem mem_getD {l : List Nat} {j : Nat} (h : j ∈ l) : ∃ q, q < l.length ∧ l.getD q 0 = j := by
  obtain ⟨q, hq, e⟩ := List.getElem_of_mem h
  exact ⟨q, hq, by rw [List.getD, List.getElem?_eq_getElem hq]; exact e⟩

section
variable {R C : Nat} {h : Nat → Int} {i : Nat}
theorem next_min {j : Nat} (hj : j ∈ nearL R C i) : h (nextV R C h i) ≤ h j := by
  obtain ⟨q, hq, e⟩ := mem_getD hj
  rw [← e]
  exact low_le.2 q hq
theorem next_or : nextV R C h i = i ∨ (nextV R C h i ∈ nearL R C i ∧ h (nextV R C h i) < h i) := low_lower (Nat.le_refl _)
theorem next_raise (d : Int) : nextV R C (fun x => h x + d) i = nextV R C h i := low_raise d _
theorem sink_iff : nextV R C h i = i ↔ ∀ j, j ∈ nearL R C i → h i ≤ h j := by
  constructor
  · intro e j hj
    have := next_min (h := h) hj
    rwa [e] at this
  · intro hall
    rcases next_or (R := R) (C := C) (h := h) (i := i) with e | ⟨h1, h2⟩
    · exact e
    · have := hall _ h1; omega
theorem mem_snkL {k : Nat} : i ∈ snkL R C h k ↔ i < k ∧ nextV R C h i = i := by
  unfold snkL
  simp
end

/-- One of the first k numbers of the list has the property. -/
def anyL (p : Nat → Bool) (l : List Nat) : Nat → Bool
  | 0 => false
  | k + 1 => anyL p l k || p (l.getD k 0)
theorem anyL_all {p : Nat → Bool} {l : List Nat} : anyL p l l.length = true ↔ ∃ j, j ∈ l ∧ p j = true := by
  have key : ∀ k, k ≤ l.length → (anyL p l k = true ↔ ∃ q, q < k ∧ p (l.getD q 0) = true) := by
    intro k
    induction k with
    | zero => intro _; exact ⟨fun h => (by cases h), fun ⟨q, hq, _⟩ => absurd hq (Nat.not_lt_zero q)⟩
    | succ k ih =>
      intro hk
      unfold anyL
      rw [Bool.or_eq_true, ih (by omega)]
      constructor
      · rintro (⟨q, hq, e⟩ | e)
        · exact ⟨q, by omega, e⟩
        · exact ⟨k, by omega, e⟩
      · rintro ⟨q, hq, e⟩
        by_cases ek : q = k
        · subst ek; exact .inr e
        · exact .inl ⟨q, by omega, e⟩
  rw [key _ (Nat.le_refl _)]
  constructor
  · rintro ⟨q, hq, e⟩
    exact ⟨_, getD_in hq, e⟩
  · rintro ⟨j, hj, e⟩
    obtain ⟨q, hq, e'⟩ := mem_getD hj
    exact ⟨q, hq, by rw [e']; exact e⟩

/-- The number is among the first n. -/
def hasV (F : Nat → Int) (n : Nat) (x : Int) : Bool := decide (∃ k, k < n ∧ F k = x)
theorem hasV_list {l : List Nat} {i : Nat} : hasV (fun k => ((l.getD k 0 : Nat) : Int)) l.length (i : Int) = decide (i ∈ l) := by
  unfold hasV
  refine decide_eq_decide.2 ⟨?_, ?_⟩
  · rintro ⟨k, hk, e⟩
    have e : ((l.getD k 0 : Nat) : Int) = (i : Int) := e
    have : l.getD k 0 = i := by omega
    rw [← this]; exact getD_in hk
  · intro h
    obtain ⟨q, hq, e⟩ := mem_getD h
    exact ⟨q, hq, by show ((l.getD q 0 : Nat) : Int) = i; rw [e]⟩


end Go.Proofs.Ytgekjhmjjjkibaa
