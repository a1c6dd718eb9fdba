/- Plain words: the least and the greatest of the first k numbers. -/
namespace Go.Proofs.YtkkkkgcijkjeoaaDoor
set_option linter.unusedVariables false
set_option linter.unusedSimpArgs false

def minTo (h : Nat → Int) : Nat → Int
  | 0 => h 0
  | k + 1 => min (minTo h k) (h k)
def maxTo (h : Nat → Int) : Nat → Int
  | 0 => h 0
  | k + 1 => max (maxTo h k) (h k)

theorem minTo_le {h : Nat → Int} : ∀ {k i : Nat}, i < k → minTo h k ≤ h i
  | 0, _, hi => absurd hi (by omega)
  | k + 1, i, hi => by
    unfold minTo
    by_cases e : i = k
    · subst e; omega
    · have := @minTo_le h k i (by omega); omega
theorem le_maxTo {h : Nat → Int} : ∀ {k i : Nat}, i < k → h i ≤ maxTo h k
  | 0, _, hi => absurd hi (by omega)
  | k + 1, i, hi => by
    unfold maxTo
    by_cases e : i = k
    · subst e; omega
    · have := @le_maxTo h k i (by omega); omega
theorem minTo_at {h : Nat → Int} : ∀ k : Nat, ∃ i, (i < k ∨ i = 0) ∧ minTo h k = h i
  | 0 => ⟨0, .inr rfl, rfl⟩
  | k + 1 => by
    obtain ⟨i, hi, e⟩ := @minTo_at h k
    unfold minTo
    by_cases hle : minTo h k ≤ h k
    · exact ⟨i, by omega, by omega⟩
    · exact ⟨k, by omega, by omega⟩
theorem maxTo_at {h : Nat → Int} : ∀ k : Nat, ∃ i, (i < k ∨ i = 0) ∧ maxTo h k = h i
  | 0 => ⟨0, .inr rfl, rfl⟩
  | k + 1 => by
    obtain ⟨i, hi, e⟩ := @maxTo_at h k
    unfold maxTo
    by_cases hle : h k ≤ maxTo h k
    · exact ⟨i, by omega, by omega⟩
    · exact ⟨k, by omega, by omega⟩
theorem minTo_congr {h h' : Nat → Int} : ∀ {k : Nat}, h 0 = h' 0 → (∀ i, i < k → h i = h' i) → minTo h k = minTo h' k
  | 0, h0, _ => h0
  | k + 1, h0, he => by unfold minTo; rw [minTo_congr h0 (fun i hi => he i (by omega)), he k (by omega)]
theorem maxTo_congr {h h' : Nat → Int} : ∀ {k : Nat}, h 0 = h' 0 → (∀ i, i < k → h i = h' i) → maxTo h k = maxTo h' k
  | 0, h0, _ => h0
  | k + 1, h0, he => by unfold maxTo; rw [maxTo_congr h0 (fun i hi => he i (by omega)), he k (by omega)]

end Go.Proofs.YtkkkkgcijkjeoaaDoor
