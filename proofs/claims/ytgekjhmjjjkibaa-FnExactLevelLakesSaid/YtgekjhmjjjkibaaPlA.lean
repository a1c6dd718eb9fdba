/- Plain words: the up to eight cells around a cell; lakes. -/
import Derived.Test.YtgekjhmjjjkibaaPlR
namespace Go.Proofs.Ytgekjhmjjjkibaa
set_option linter.unusedVariables false
set_option linter.unusedSimpArgs false

def arAt (R C r c q : Nat) : List Nat := if q ≠ 4 ∧ 1 ≤ r + q / 3 ∧ r + q / 3 ≤ R ∧ 1 ≤ c + q % 3 ∧ c + q % 3 ≤ C then [(r + q / 3 - 1) * C + (c + q % 3 - 1)] else []
def arL (R C r c : Nat) : Nat → List Nat
  | 0 => []
  | q + 1 => arL R C r c q ++ arAt R C r c q
/-- The up to eight cells that touch a cell at a side or a corner. -/
def aroundL (R C i : Nat) : List Nat := arL R C (i / C) (i % C) 9
theorem arL_len (R C r c : Nat) : ∀ q, (arL R C r c q).length ≤ q
  | 0 => Nat.le_refl _
  | q + 1 => by
    have := arL_len R C r c q
    unfold arL arAt
    rw [List.length_append]
    split <;> simp <;> omega
theorem aroundL_len (R C i : Nat) : (aroundL R C i).length ≤ 9 := arL_len _ _ _ _ _
theorem mem_arL {R C r c j : Nat} : ∀ {k : Nat}, j ∈ arL R C r c k ↔ ∃ q, q < k ∧ j ∈ arAt R C r c q
  | 0 => ⟨fun h => by simp [arL] at h, fun ⟨q, hq, _⟩ => absurd hq (Nat.not_lt_zero q)⟩
  | k + 1 => by
    unfold arL
    rw [List.mem_append, mem_arL]
    constructor
    · rintro (⟨q, hq, e⟩ | e)
      · exact ⟨q, by omega, e⟩
      · exact ⟨k, by omega, e⟩
    · rintro ⟨q, hq, e⟩
      by_cases ek : q = k
      · subst ek; exact .inr e
      · exact .inl ⟨q, by omega, e⟩
/-- Two cells, by row and column, touch. -/
def Nrby (r c r' c' : Nat) : Prop := (r ≠ r' ∨ c ≠ c') ∧ r ≤ r' + 1 ∧ r' ≤ r + 1 ∧ c ≤ c' + 1 ∧ c' ≤ c + 1
theorem Nrby.symm {r c r' c' : Nat} (h : Nrby r c r' c') : Nrby r' c' r c := by unfold Nrby at *; omega
theorem mem_around_rc {R C r c j : Nat} (hr : r < R) (hc : c < C) : j ∈ arL R C r c 9 ↔ j < R * C ∧ Nrby r c (j / C) (j % C) := by
  rw [mem_arL]
  unfold arAt
  constructor
  · rintro ⟨q, hq, h⟩
    split at h
    · rename_i hh
      obtain ⟨h1, h2, h3, h4, h5⟩ := hh
      have e : j = (r + q / 3 - 1) * C + (c + q % 3 - 1) := by simpa using h
      obtain ⟨e1, e2⟩ := rc_of (C := C) (r := r + q / 3 - 1) (c := c + q % 3 - 1) (by omega)
      refine ⟨by rw [e]; exact rc_lt (by omega) (by omega), ?_⟩
      rw [e, e1, e2]
      unfold Nrby
      omega
    · simp at h
  · rintro ⟨hj, hn⟩
    obtain ⟨_, hr', hc', e⟩ := rc_in hj
    generalize j / C = r' at *
    generalize j % C = c' at *
    unfold Nrby at hn
    refine ⟨3 * (r' + 1 - r) + (c' + 1 - c), by omega, ?_⟩
    have e1 : (3 * (r' + 1 - r) + (c' + 1 - c)) / 3 = r' + 1 - r := by omega
    have e2 : (3 * (r' + 1 - r) + (c' + 1 - c)) % 3 = c' + 1 - c := by omega
    rw [e1, e2, if_pos (by omega)]
    rw [show r + (r' + 1 - r) - 1 = r' by omega, show c + (c' + 1 - c) - 1 = c' by omega, e]
    simp
theorem mem_around {R C i j : Nat} (hi : i < R * C) : j ∈ aroundL R C i ↔ j < R * C ∧ Nrby (i / C) (i % C) (j / C) (j % C) := by
  obtain ⟨_, hr, hc, _⟩ := rc_in hi
  exact mem_around_rc hr hc
theorem around_mut (R C : Nat) : Mut (R * C) (aroundL R C) := fun _ _ hi hj => by
  obtain ⟨h1, h2⟩ := (mem_around hi).1 hj
  exact ⟨h1, (mem_around h1).2 ⟨hi, h2.symm⟩⟩

section
variable {N : Nat} {near : Nat → List Nat} {ok : Nat → Prop} {bd : Nat → Bool}
/-- A cell of the border is linked to the cell. -/
def Tch (N : Nat) (near : Nat → List Nat) (ok : Nat → Prop) (bd : Nat → Bool) (i : Nat) : Prop := ∃ y, bd y = true ∧ Lnk N near ok y i
/-- The cell is the least one of a lake. -/
noncomputable def lakB (N : Nat) (near : Nat → List Nat) (ok : Nat → Prop) (bd : Nat → Bool) (i : Nat) : Bool := @decide (Rep N near ok i ∧ ¬ Tch N near ok bd i) (Classical.propDecidable _)
theorem lakB_iff {i : Nat} : lakB N near ok bd i = true ↔ Rep N near ok i ∧ ¬ Tch N near ok bd i := @decide_eq_true_iff _ (Classical.propDecidable _)
theorem lakB_no {i : Nat} (h : ¬ (Rep N near ok i ∧ ¬ Tch N near ok bd i)) : lakB N near ok bd i = false := by
  cases e : lakB N near ok bd i
  · rfl
  · exact absurd (lakB_iff.1 e) h
/-- A root that some cell of the border has is linked to the border. -/
theorem Joins.tch {up rho : Nat → Nat} (H : Joins N near ok rho N 0) (hR : RootOf N up rho) {i : Nat} (hi : i < N) (ho : ok i) (hr : rho i = i) : Tch N near ok bd i ↔ ∃ y, y < N ∧ bd y = true ∧ rho y = i := by
  constructor
  · rintro ⟨y, hy, hl⟩
    exact ⟨y, hl.lt, hy, by rw [((H.iff hl.lt hi hl.fit).1 hl).2, hr]⟩
  · rintro ⟨y, hyN, hy, e⟩
    refine ⟨y, hy, ?_⟩
    rcases H.snd y i hyN hi (by rw [e, hr]) with h | h
    · rw [h]; exact Lnk.refl hi ho
    · exact h
end

end Go.Proofs.Ytgekjhmjjjkibaa
