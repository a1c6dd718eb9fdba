/- Pools and drained grids: turned, mirrored, raised, filled. Plain words. -/
import Derived.Test.YthndabbjkkjkhaaWat
import Derived.Test.YthndabbjkkjkhaaTurn
import Derived.Test.YthndabbjkkjkhaaIPart
import Derived.Test.YthndabbjkkjkhaaPlT
namespace Go.Proofs.Ythndabbjkkjkhaa
set_option linter.unusedVariables false
set_option linter.unusedSimpArgs false
open Go.RowKit

theorem Valid.turned {n : Nat} {L : Nat → Nat} {g : Nat → Nat → Int} (h : Valid n L g) : Valid (L 0) (fun _ => n) (turnG n g) :=
  ⟨h.2.2.1, h.2.2.2.1, h.1, h.2.1, fun r hr => ⟨rfl, fun c hc => h.rng (by have hc : c < n := hc; omega) hr⟩⟩
theorem Valid.mirrored {n : Nat} {L : Nat → Nat} {g : Nat → Nat → Int} (h : Valid n L g) : Valid n (fun _ => L 0) (mirrorG (L 0) g) :=
  ⟨h.1, h.2.1, h.2.2.1, h.2.2.2.1, fun r hr => ⟨rfl, fun c hc => h.rng hr (by have hc : c < L 0 := hc; omega)⟩⟩
theorem Valid.raised {n : Nat} {L : Nat → Nat} {g : Nat → Nat → Int} {k : Int} (h : Rai n L g k) : Valid n (fun _ => L 0) (raiseG k g) :=
  ⟨h.1.1, h.1.2.1, h.1.2.2.1, h.1.2.2.2.1, fun r hr => ⟨rfl, fun c hc => h.2.2.2.rng hr hc⟩⟩
theorem fill_rng {n : Nat} {L : Nat → Nat} {g : Nat → Nat → Int} (h : Valid n L g) {i : Nat} (hi : i < n * L 0) : 0 ≤ fillV n (L 0) (flat (L 0) g) i ∧ fillV n (L 0) (flat (L 0) g) i ≤ 99 := by
  have hf := fillV_is (flat_rng h)
  have h1 := hf.ge hi
  have h2 := hf.le (t := 99) (fun j hj => (flat_rng h j hj).2) hi
  have h3 := flat_rng h i hi
  omega
theorem Valid.filled {n : Nat} {L : Nat → Nat} {g : Nat → Nat → Int} (h : Valid n L g) : Valid n (fun _ => L 0) (fillG n (L 0) g) :=
  ⟨h.1, h.2.1, h.2.2.1, h.2.2.2.1, fun r hr => ⟨rfl, fun c hc => fill_rng h (rc_lt hr hc)⟩⟩

theorem flat_turn {n C : Nat} (g : Nat → Nat → Int) {i : Nat} (hi : i < C * n) : flat n (turnG n g) i = flat C g (turnP n C i) := by
  obtain ⟨hn, hr, hc, _⟩ := rc_in hi
  show g (n - 1 - i % n) (i / n) = _
  unfold turnP
  rw [flat_at g hr]
theorem flat_mirror {n C : Nat} (g : Nat → Nat → Int) {i : Nat} (hi : i < n * C) : flat C (mirrorG C g) i = flat C g (mirP C i) := by
  obtain ⟨hC, hr, hc, _⟩ := rc_in hi
  show g (i / C) (C - 1 - i % C) = _
  unfold mirP
  rw [flat_at g (by omega)]
theorem flat_raise {C : Nat} (g : Nat → Nat → Int) (k : Int) (i : Nat) : flat C (raiseG k g) i = flat C g i + k := rfl
theorem flat_fill {n C : Nat} (g : Nat → Nat → Int) {i : Nat} (hi : i < n * C) : flat C (fillG n C g) i = fillV n C (flat C g) i := by
  obtain ⟨hC, hr, hc, e⟩ := rc_in hi
  show fillV n C (flat C g) (i / C * C + i % C) = _
  rw [e]

theorem fillV_turn {n C : Nat} {g : Nat → Nat → Int} (hh : ∀ i, i < n * C → 0 ≤ flat C g i ∧ flat C g i ≤ 99) {i : Nat} (hi : i < C * n) : fillV C n (flat n (turnG n g)) i = fillV n C (flat C g) (turnP n C i) :=
  (((turn_iso n C).fill (fun i hi => flat_turn g hi) (fillV_is hh)).eq hi).symm
theorem fillV_mirror {n C : Nat} {g : Nat → Nat → Int} (hh : ∀ i, i < n * C → 0 ≤ flat C g i ∧ flat C g i ≤ 99) {i : Nat} (hi : i < n * C) : fillV n C (flat C (mirrorG C g)) i = fillV n C (flat C g) (mirP C i) :=
  (((mirror_iso n C).fill (fun i hi => flat_mirror g hi) (fillV_is hh)).eq hi).symm
theorem fillV_raise {n C : Nat} {g : Nat → Nat → Int} {k : Int} (hh : ∀ i, i < n * C → 0 ≤ flat C g i ∧ flat C g i ≤ 99) {i : Nat} (hi : i < n * C) : fillV n C (flat C (raiseG k g)) i = fillV n C (flat C g) i + k :=
  ((fill_raise (fun i _ => flat_raise g k i) (fillV_is hh)).eq hi).symm
theorem fillV_fill {n C : Nat} {g : Nat → Nat → Int} (hh : ∀ i, i < n * C → 0 ≤ flat C g i ∧ flat C g i ≤ 99) {i : Nat} (hi : i < n * C) : fillV n C (flat C (fillG n C g)) i = fillV n C (flat C g) i := by
  have h1 := fill_fill (fillV_is hh)
  have h2 : FillF n C (flat C (fillG n C g)) (fillV n C (flat C g)) := fun j hj t => (h1 j hj t).trans ⟨fun e => e.congr fun x hx => (flat_fill g hx).symm, fun e => e.congr fun x hx => flat_fill g hx⟩
  exact (h2.eq hi).symm

theorem poolV_turn {n : Nat} {L : Nat → Nat} {g : Nat → Nat → Int} (h : Valid n L g) : poolV (L 0) (fun _ => n) (turnG n g) = poolV n L g := by
  unfold poolV
  rw [if_pos h.turned, if_pos h]
  unfold poolS
  rw [← sumI_turn (fun i => fillV n (L 0) (flat (L 0) g) i - flat (L 0) g i) n (L 0)]
  exact sumI_congr fun i hi => by rw [fillV_turn (flat_rng h) hi, flat_turn g hi]
theorem poolV_mirror {n : Nat} {L : Nat → Nat} {g : Nat → Nat → Int} (h : Valid n L g) : poolV n (fun _ => L 0) (mirrorG (L 0) g) = poolV n L g := by
  unfold poolV
  rw [if_pos h.mirrored, if_pos h]
  unfold poolS
  rw [← sumI_mirror (fun i => fillV n (L 0) (flat (L 0) g) i - flat (L 0) g i) n (L 0)]
  exact sumI_congr fun i hi => by rw [fillV_mirror (flat_rng h) hi, flat_mirror g hi]
theorem poolV_raise {n : Nat} {L : Nat → Nat} {g : Nat → Nat → Int} {k : Int} (h : Rai n L g k) : poolV n (fun _ => L 0) (raiseG k g) = poolV n L g := by
  unfold poolV
  rw [if_pos (Valid.raised h), if_pos h.1]
  unfold poolS
  exact sumI_congr fun i hi => by
    show fillV n (L 0) (flat (L 0) (raiseG k g)) i - flat (L 0) (raiseG k g) i = _
    rw [fillV_raise (flat_rng h.1) hi, flat_raise]; omega
theorem poolV_fill {n : Nat} {L : Nat → Nat} {g : Nat → Nat → Int} (h : Valid n L g) : poolV n (fun _ => L 0) (fillG n (L 0) g) = 0 := by
  unfold poolV
  rw [if_pos h.filled]
  unfold poolS
  refine (sumI_congr (G := fun _ => 0) fun i hi => ?_).trans (sumI_zeros _)
  show fillV n (L 0) (flat (L 0) (fillG n (L 0) g)) i - flat (L 0) (fillG n (L 0) g) i = 0
  have hi2 : i < n * L 0 := hi
  rw [fillV_fill (flat_rng h) hi2, flat_fill g hi2]; omega
theorem poolV_pos {n : Nat} {L : Nat → Nat} {g : Nat → Nat → Int} (h : Valid n L g) : 0 ≤ poolV n L g ∧ poolV n L g ≤ 4851 := by
  unfold poolV
  rw [if_pos h]
  have h1 := pool_part (flat_rng h) (Nat.le_refl _)
  have h2 := Nat.mul_le_mul h.2.1 h.2.2.2.1
  unfold poolS
  have h3 : ((n * L 0 : Nat) : Int) * 99 ≤ 49 * 99 := Int.mul_le_mul_of_nonneg_right (by omega) (by decide)
  omega
/-- A drained grid is its own fill. -/
theorem drained_fill {n : Nat} {L : Nat → Nat} {g : Nat → Nat → Int} (h : Valid n L g) (hd : drainedV n L g = true) {r c : Nat} (hr : r < n) (hc : c < L 0) : fillG n (L 0) g r c = g r c := by
  unfold drainedV poolV at hd
  rw [if_pos h, beq_iff_eq, pool_zero (flat_rng h)] at hd
  have := hd (r * L 0 + c) (rc_lt hr hc)
  unfold lvB at this
  have := of_decide_eq_true this
  rw [flat_at g hc] at this
  exact this

end Go.Proofs.Ythndabbjkkjkhaa
