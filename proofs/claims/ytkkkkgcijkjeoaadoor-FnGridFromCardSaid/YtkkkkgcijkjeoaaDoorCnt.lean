/- Plain words: how many of the first k numbers have a property; squares of four cells. -/
namespace Go.Proofs.YtkkkkgcijkjeoaaDoor
set_option linter.unusedVariables false
set_option linter.unusedSimpArgs false

def cnt (p : Nat → Bool) : Nat → Nat
  | 0 => 0
  | k + 1 => cnt p k + if p k then 1 else 0
def cnt2 (p : Nat → Nat → Bool) (W : Nat) : Nat → Nat
  | 0 => 0
  | k + 1 => cnt2 p W k + cnt (p k) W

theorem cnt_le (p : Nat → Bool) : ∀ k, cnt p k ≤ k
  | 0 => Nat.le_refl _
  | k + 1 => by have := cnt_le p k; unfold cnt; split <;> omega
theorem cnt2_le (p : Nat → Nat → Bool) (W : Nat) : ∀ k, cnt2 p W k ≤ k * W
  | 0 => by unfold cnt2; omega
  | k + 1 => by have := cnt2_le p W k; have := cnt_le (p k) W; unfold cnt2; rw [Nat.succ_mul]; omega
theorem cnt_congr {p q : Nat → Bool} : ∀ {k : Nat}, (∀ i, i < k → p i = q i) → cnt p k = cnt q k
  | 0, _ => rfl
  | k + 1, h => by unfold cnt; rw [cnt_congr (fun i hi => h i (by omega)), h k (by omega)]
theorem cnt2_congr {p q : Nat → Nat → Bool} {W : Nat} : ∀ {k : Nat}, (∀ r c, r < k → c < W → p r c = q r c) → cnt2 p W k = cnt2 q W k
  | 0, _ => rfl
  | k + 1, h => by unfold cnt2; rw [cnt2_congr (fun r c hr hc => h r c (by omega) hc), cnt_congr (fun c hc => h k c (by omega) hc)]
theorem cnt_mono {p q : Nat → Bool} : ∀ {k : Nat}, (∀ i, i < k → p i = true → q i = true) → cnt p k ≤ cnt q k
  | 0, _ => Nat.le_refl _
  | k + 1, h => by
    have h1 := cnt_mono (p := p) (q := q) (k := k) (fun i hi => h i (by omega))
    have h2 := h k (by omega)
    unfold cnt
    cases hp : p k <;> cases hq : q k <;> simp [hp, hq] at h2 ⊢ <;> omega
theorem cnt2_mono {p q : Nat → Nat → Bool} {W : Nat} : ∀ {k : Nat}, (∀ r c, r < k → c < W → p r c = true → q r c = true) → cnt2 p W k ≤ cnt2 q W k
  | 0, _ => Nat.le_refl _
  | k + 1, h => by
    have h1 := cnt2_mono (p := p) (q := q) (W := W) (k := k) (fun r c hr hc => h r c (by omega) hc)
    have h2 := cnt_mono (p := p k) (q := q k) (k := W) (fun c hc => h k c (by omega) hc)
    unfold cnt2; omega

/-- The four cells at a corner are all land. -/
def sq (C : Nat) (h : Nat → Int) (l : Int) (r c : Nat) : Bool :=
  decide (l ≤ h (r * C + c) ∧ l ≤ h (r * C + (c + 1)) ∧ l ≤ h ((r + 1) * C + c) ∧ l ≤ h ((r + 1) * C + (c + 1)))

end Go.Proofs.YtkkkkgcijkjeoaaDoor
