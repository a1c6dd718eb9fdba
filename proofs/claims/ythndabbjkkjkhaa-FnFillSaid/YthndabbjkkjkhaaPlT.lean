/- Plain words: turned and mirrored grids: cells go to cells, neighbors to neighbors, the border to the border; sums over cells stay. -/
import Derived.Test.YthndabbjkkjkhaaPlF
import Derived.Test.YthndabbjkkjkhaaPlR
namespace Go.Proofs.Ythndabbjkkjkhaa
set_option linter.unusedVariables false
set_option linter.unusedSimpArgs false

theorem sumI_add (F : Nat → Int) (a : Nat) : ∀ b, sumI F (a + b) = sumI F a + sumI (fun i => F (a + i)) b
  | 0 => by simp [sumI]
  | b + 1 => by rw [← Nat.add_assoc, sumI, sumI_add F a b, sumI]; omega
theorem sumI_front (F : Nat → Int) (k : Nat) : sumI F (k + 1) = F 0 + sumI (fun i => F (i + 1)) k := by
  have := sumI_add F 1 k
  rw [Nat.add_comm 1 k] at this
  rw [this, sumI, sumI]
  have e : sumI (fun i => F (1 + i)) k = sumI (fun i => F (i + 1)) k := sumI_congr fun i _ => by rw [Nat.add_comm]
  rw [e]; omega
theorem sumI_rows (F : Nat → Int) (C : Nat) : ∀ R, sumI F (R * C) = sumI (fun r => sumI (fun c => F (r * C + c)) C) R
  | 0 => by simp [sumI]
  | R + 1 => by rw [Nat.succ_mul, sumI_add, sumI_rows F C R, sumI]
theorem sumI_zero' : ∀ k, sumI (fun _ => 0) k = 0
  | 0 => rfl
  | k + 1 => by rw [sumI, sumI_zero' k]; rfl
theorem sumI_plus (F G : Nat → Int) : ∀ k, sumI (fun i => F i + G i) k = sumI F k + sumI G k
  | 0 => rfl
  | k + 1 => by rw [sumI, sumI_plus F G k, sumI, sumI]; omega
theorem sumI_exch (G : Nat → Nat → Int) (C : Nat) : ∀ R, sumI (fun r => sumI (fun c => G r c) C) R = sumI (fun c => sumI (fun r => G r c) R) C
  | 0 => by simp only [sumI]; rw [sumI_zero']
  | R + 1 => by
    simp only [sumI]
    rw [sumI_exch G C R, ← sumI_plus]
theorem sumI_rev (F : Nat → Int) : ∀ k, sumI (fun i => F (k - 1 - i)) k = sumI F k
  | 0 => rfl
  | k + 1 => by
    rw [sumI_front, sumI, ← sumI_rev F k]
    have e : sumI (fun i => F (k + 1 - 1 - (i + 1))) k = sumI (fun i => F (k - 1 - i)) k := sumI_congr fun i _ => by congr 1; omega
    rw [e, show k + 1 - 1 - 0 = k by omega]; omega

/-- The cells of one grid are those of another one. -/
structure Iso (R' C' R C : Nat) (p q : Nat → Nat) : Prop where
  lt : ∀ i, i < R' * C' → p i < R * C
  lt' : ∀ i, i < R * C → q i < R' * C'
  inv : ∀ i, i < R' * C' → q (p i) = i
  inv' : ∀ i, i < R * C → p (q i) = i
  near : ∀ i j, i < R' * C' → j ∈ nearL R' C' i → p j ∈ nearL R C (p i)
  near' : ∀ i j, i < R * C → j ∈ nearL R C i → q j ∈ nearL R' C' (q i)
  bd : ∀ i, i < R' * C' → brd R' C' i = brd R C (p i)

theorem Iso.swap {R' C' R C : Nat} {p q : Nat → Nat} (I : Iso R' C' R C p q) : Iso R C R' C' q p :=
  ⟨I.lt', I.lt, I.inv', I.inv, I.near', I.near, fun i hi => by rw [I.bd (q i) (I.lt' i hi), I.inv' i hi]⟩
theorem Iso.esc1 {R' C' R C : Nat} {p q : Nat → Nat} (I : Iso R' C' R C p q) {h h' : Nat → Int} (hh : ∀ i, i < R' * C' → h' i = h (p i)) {t : Int} {i : Nat} (e : Esc R' C' h' t i) : Esc R C h t (p i) :=
  e (fun i => Esc R C h t (p i)) (fun i hi hs => Con.start (I.lt i hi) ⟨by rw [← I.bd i hi]; exact hs.1, by rw [← hh i hi]; exact hs.2⟩)
    (fun i j hi ho hj hp => Con.step (I.lt i hi) (by show h (p i) ≤ t; rw [← hh i hi]; exact ho) (I.near i j hi hj) hp)
theorem Iso.esc {R' C' R C : Nat} {p q : Nat → Nat} (I : Iso R' C' R C p q) {h h' : Nat → Int} (hh : ∀ i, i < R' * C' → h' i = h (p i)) {t : Int} {i : Nat} (hi : i < R' * C') : Esc R' C' h' t i ↔ Esc R C h t (p i) := by
  refine ⟨I.esc1 hh, fun e => ?_⟩
  have := I.swap.esc1 (h := h') (h' := h) (fun x hx => by rw [hh (q x) (I.lt' x hx), I.inv' x hx]) e
  rwa [I.inv i hi] at this
theorem Iso.fill {R' C' R C : Nat} {p q : Nat → Nat} (I : Iso R' C' R C p q) {h h' f : Nat → Int} (hh : ∀ i, i < R' * C' → h' i = h (p i)) (hf : FillF R C h f) : FillF R' C' h' (fun i => f (p i)) :=
  fun i hi t => (hf (p i) (I.lt i hi) t).trans (I.esc hh hi).symm

/-- Where a cell of the turned grid comes from: n rows and C columns. -/
def turnP (n C i : Nat) : Nat := (n - 1 - i % n) * C + i / n
def turnQ (n C i : Nat) : Nat := i % C * n + (n - 1 - i / C)
def mirP (C i : Nat) : Nat := i / C * C + (C - 1 - i % C)

theorem turnP_rc {n C r c : Nat} (hr : r < C) (hc : c < n) : turnP n C (r * n + c) = (n - 1 - c) * C + r := by unfold turnP; rw [(rc_of hc).1, (rc_of hc).2]
theorem turnQ_rc {n C r c : Nat} (hr : r < n) (hc : c < C) : turnQ n C (r * C + c) = c * n + (n - 1 - r) := by unfold turnQ; rw [(rc_of hc).1, (rc_of hc).2]
theorem mirP_rc {C r c : Nat} (hc : c < C) : mirP C (r * C + c) = r * C + (C - 1 - c) := by unfold mirP; rw [(rc_of hc).1, (rc_of hc).2]

/-- What is shown for all rows and columns holds of all cells. -/
theorem by_rc {R C : Nat} {P : Nat → Prop} (h : ∀ r c, r < R → c < C → P (r * C + c)) (i : Nat) (hi : i < R * C) : P i := by
  obtain ⟨_, hr, hc, e⟩ := rc_in hi
  rw [← e]; exact h _ _ hr hc
theorem near_rc {R C r c r' c' : Nat} (hr : r < R) (hc : c < C) (hr' : r' < R) (hc' : c' < C) : r' * C + c' ∈ nearL R C (r * C + c) ↔ Adj r c r' c' := by
  rw [mem_near (rc_lt hr hc), (rc_of hc).1, (rc_of hc).2, (rc_of hc').1, (rc_of hc').2]
  exact ⟨fun h => h.2, fun h => ⟨rc_lt hr' hc', h⟩⟩
theorem brd_rc {R C r c : Nat} (hc : c < C) : brd R C (r * C + c) = decide (r = 0 ∨ r = R - 1 ∨ c = 0 ∨ c = C - 1) := by unfold brd; rw [(rc_of hc).1, (rc_of hc).2]

theorem turn_iso (n C : Nat) : Iso C n n C (turnP n C) (turnQ n C) where
  lt := by_rc fun r c hr hc => by rw [turnP_rc hr hc]; exact rc_lt (by omega) hr
  lt' := by_rc fun r c hr hc => by rw [turnQ_rc hr hc]; exact rc_lt hc (by omega)
  inv := by_rc fun r c hr hc => by rw [turnP_rc hr hc, turnQ_rc (by omega) hr, show n - 1 - (n - 1 - c) = c by omega]
  inv' := by_rc fun r c hr hc => by rw [turnQ_rc hr hc, turnP_rc hc (by omega), show n - 1 - (n - 1 - r) = r by omega]
  near := fun i j hi => by
    revert j
    refine by_rc (P := fun i => ∀ j, j ∈ nearL C n i → turnP n C j ∈ nearL n C (turnP n C i)) (fun r c hr hc j hj => ?_) i hi
    have hjl := nearL_lt (rc_lt hr hc) hj
    obtain ⟨_, hr', hc', e⟩ := rc_in hjl
    generalize j / n = r' at *
    generalize j % n = c' at *
    subst e
    rw [turnP_rc hr hc, turnP_rc hr' hc', near_rc (by omega) hr (by omega) hr']
    have := (near_rc hr hc hr' hc').1 hj
    unfold Adj at *; omega
  near' := fun i j hi => by
    revert j
    refine by_rc (P := fun i => ∀ j, j ∈ nearL n C i → turnQ n C j ∈ nearL C n (turnQ n C i)) (fun r c hr hc j hj => ?_) i hi
    have hjl := nearL_lt (rc_lt hr hc) hj
    obtain ⟨_, hr', hc', e⟩ := rc_in hjl
    generalize j / C = r' at *
    generalize j % C = c' at *
    subst e
    rw [turnQ_rc hr hc, turnQ_rc hr' hc', near_rc hc (by omega) hc' (by omega)]
    have := (near_rc hr hc hr' hc').1 hj
    unfold Adj at *; omega
  bd := by_rc fun r c hr hc => by
    rw [turnP_rc hr hc, brd_rc hc, brd_rc hr]
    rw [Bool.eq_iff_iff]; simp only [decide_eq_true_eq]; omega
theorem mirror_iso (n C : Nat) : Iso n C n C (mirP C) (mirP C) := by
  have lt : ∀ i, i < n * C → mirP C i < n * C := by_rc fun r c hr hc => by rw [mirP_rc hc]; exact rc_lt hr (by omega)
  have inv : ∀ i, i < n * C → mirP C (mirP C i) = i := by_rc fun r c hr hc => by rw [mirP_rc hc, mirP_rc (by omega), show C - 1 - (C - 1 - c) = c by omega]
  have near : ∀ i j, i < n * C → j ∈ nearL n C i → mirP C j ∈ nearL n C (mirP C i) := fun i j hi => by
    revert j
    refine by_rc (P := fun i => ∀ j, j ∈ nearL n C i → mirP C j ∈ nearL n C (mirP C i)) (fun r c hr hc j hj => ?_) i hi
    have hjl := nearL_lt (rc_lt hr hc) hj
    obtain ⟨_, hr', hc', e⟩ := rc_in hjl
    generalize j / C = r' at *
    generalize j % C = c' at *
    subst e
    rw [mirP_rc hc, mirP_rc hc', near_rc hr (by omega) hr' (by omega)]
    have := (near_rc hr hc hr' hc').1 hj
    unfold Adj at *; omega
  exact ⟨lt, lt, inv, inv, near, near, by_rc fun r c hr hc => by
    rw [mirP_rc hc, brd_rc hc, brd_rc (by omega)]
    rw [Bool.eq_iff_iff]; simp only [decide_eq_true_eq]; omega⟩

theorem sumI_turn (F : Nat → Int) (n C : Nat) : sumI (fun i => F (turnP n C i)) (C * n) = sumI F (n * C) := by
  rw [sumI_rows, sumI_rows F]
  rw [show sumI (fun r => sumI (fun c => F (turnP n C (r * n + c))) n) C = sumI (fun r => sumI (fun c => F ((n - 1 - c) * C + r)) n) C from
    sumI_congr fun r hr => sumI_congr fun c hc => by rw [turnP_rc hr hc]]
  rw [sumI_exch (fun r c => F ((n - 1 - c) * C + r)) n C]
  exact sumI_rev (fun c => sumI (fun r => F (c * C + r)) C) n
theorem sumI_mirror (F : Nat → Int) (n C : Nat) : sumI (fun i => F (mirP C i)) (n * C) = sumI F (n * C) := by
  rw [sumI_rows, sumI_rows F]
  refine sumI_congr fun r hr => ?_
  rw [show sumI (fun c => F (mirP C (r * C + c))) C = sumI (fun c => F (r * C + (C - 1 - c))) C from sumI_congr fun c hc => by rw [mirP_rc hc]]
  exact sumI_rev (fun c => F (r * C + c)) C

/-- Raised heights. -/
theorem esc_raise {R C : Nat} {h h' : Nat → Int} {k t : Int} (hh : ∀ i, i < R * C → h' i = h i + k) {i : Nat} : Esc R C h' (t + k) i ↔ Esc R C h t i :=
  ⟨fun e => Con.mono e (fun i hi hs => ⟨hs.1, by have := hs.2; rw [hh i hi] at this; omega⟩) (fun i hi ho => by have : h' i ≤ t + k := ho; rw [hh i hi] at this; show h i ≤ t; omega),
   fun e => Con.mono e (fun i hi hs => ⟨hs.1, by have := hs.2; rw [hh i hi]; omega⟩) (fun i hi ho => by have : h i ≤ t := ho; show h' i ≤ t + k; rw [hh i hi]; omega)⟩
theorem fill_raise {R C : Nat} {h h' f : Nat → Int} {k : Int} (hh : ∀ i, i < R * C → h' i = h i + k) (hf : FillF R C h f) : FillF R C h' (fun i => f i + k) := fun i hi t => by
  have := hf i hi (t - k)
  have e := esc_raise (t := t - k) hh (i := i)
  rw [show t - k + k = t by omega] at e
  rw [e, ← this]
  show f i + k ≤ t ↔ _
  omega
/-- A filled grid is drained. -/
theorem fill_fill {R C : Nat} {h f : Nat → Int} (hf : FillF R C h f) : FillF R C f f := fun i hi t => by
  constructor
  · intro hle
    have e := (hf i hi t).1 hle
    exact (e (fun i => Esc R C h t i ∧ Esc R C f t i) (fun i hi hs => ⟨Con.start hi hs, Con.start hi ⟨hs.1, by rw [hf.border hi hs.1]; exact hs.2⟩⟩)
      (fun i j hi ho hj hp => ⟨Con.step hi ho hj hp.1, Con.step hi ((hf i hi t).2 (Con.step hi ho hj hp.1)) hj hp.2⟩)).2
  · intro e
    exact (hf i hi t).2 (Con.mono e (fun i hi hs => ⟨hs.1, Int.le_trans (hf.ge hi) hs.2⟩) (fun i hi ho => Int.le_trans (hf.ge hi) ho))
/-- A height that was filled cannot be one less. -/
theorem fill_least {R C : Nat} {h f x : Nat → Int} (hf : FillF R C h f) {i : Nat} (hi : i < R * C) (hlt : h i < f i) (hx : ∀ j, j < R * C → j ≠ i → x j = f j) (hxi : x i = f i - 1) : ¬ Esc R C x (x i) i := by
  intro e
  have : Esc R C h (f i - 1) i := by
    rw [hxi] at e
    exact Con.mono e (fun j hj hs => ⟨hs.1, by
      by_cases e : j = i
      · subst e; omega
      · have := hs.2; rw [hx j hj e] at this; have := hf.ge hj; omega⟩) (fun j hj ho => by
      have ho : x j ≤ f i - 1 := ho
      show h j ≤ f i - 1
      by_cases e : j = i
      · subst e; omega
      · rw [hx j hj e] at ho; have := hf.ge hj; omega)
  have := (hf i hi (f i - 1)).2 this
  omega

end Go.Proofs.Ythndabbjkkjkhaa
