/- Plain words: regions of levels and their numbers; whole land; regions inside regions. -/
import Derived.Test.YtgekjhmjjjkibaaPlP
namespace Go.Proofs.Ytgekjhmjjjkibaa
set_option linter.unusedVariables false
set_option linter.unusedSimpArgs false

theorem cnt_onto {p : Nat → Bool} : ∀ {n k : Nat}, k < cnt p n → ∃ r, r < n ∧ p r = true ∧ cnt p r = k
  | 0, k, h => absurd h (Nat.not_lt_zero k)
  | n + 1, k, h => by
    by_cases hk : k < cnt p n
    · obtain ⟨r, h1, h2, h3⟩ := cnt_onto hk
      exact ⟨r, by omega, h2, h3⟩
    · unfold cnt at h
      cases hp : p n
      · rw [hp] at h; simp at h; omega
      · rw [hp] at h; simp at h; exact ⟨n, by omega, hp, by omega⟩

section
variable {N : Nat} {near : Nat → List Nat} {ok : Nat → Prop}
theorem numV_no (hm : Mut N near) {i : Nat} (hi : i < N) (h : ¬ ok i) : numV N near ok i = -1 := by
  rcases numV_is (ok := ok) hm hi with ⟨_, e⟩ | ⟨ho, _⟩
  · exact e
  · exact absurd ho h
theorem numV_yes (hm : Mut N near) {i : Nat} (hi : i < N) (h : ok i) : ∃ r, Rep N near ok r ∧ Lnk N near ok r i ∧ numV N near ok i = cnt (repB N near ok) r := by
  rcases numV_is (ok := ok) hm hi with ⟨ho, _⟩ | ⟨_, r, h1, h2, h3⟩
  · exact absurd h ho
  · exact ⟨r, h1, h2, h3⟩
theorem numV_ok (hm : Mut N near) {i : Nat} (hi : i < N) : 0 ≤ numV N near ok i ↔ ok i := by
  constructor
  · intro h
    refine Classical.byContradiction fun hn => ?_
    rw [numV_no hm hi hn] at h; omega
  · intro h
    obtain ⟨r, _, _, e⟩ := numV_yes hm hi h
    rw [e]; omega
theorem numV_lt (hm : Mut N near) {i : Nat} (hi : i < N) : -1 ≤ numV N near ok i ∧ numV N near ok i < cnt (repB N near ok) N := by
  rcases numV_is (ok := ok) hm hi with ⟨_, e⟩ | ⟨_, r, h1, h2, e⟩
  · rw [e]; omega
  · rw [e]
    have := cnt_lt_of_lt h1.1 (repB_iff.2 h1)
    omega
theorem num_onto (hm : Mut N near) {k : Nat} (hk : k < cnt (repB N near ok) N) : ∃ r, Rep N near ok r ∧ numV N near ok r = k := by
  obtain ⟨r, h1, h2, h3⟩ := cnt_onto hk
  have hr := repB_iff.1 h2
  refine ⟨r, hr, ?_⟩
  rw [← h3]
  exact (numV_is hm h1).rep hm hr
theorem cnt_inj {p : Nat → Bool} {a b : Nat} (ha : p a = true) (hb : p b = true) (e : cnt p a = cnt p b) : a = b := by
  rcases Nat.lt_trichotomy a b with h | h | h
  · have := cnt_lt_of_lt h ha; omega
  · exact h
  · have := cnt_lt_of_lt h hb; omega
theorem numV_eq (hm : Mut N near) {i j : Nat} (hi : i < N) (hj : j < N) (ho : ok i) : numV N near ok i = numV N near ok j ↔ Lnk N near ok i j := by
  obtain ⟨r, h1, h2, h3⟩ := numV_yes hm hi ho
  constructor
  · intro e
    have hoj : ok j := (numV_ok hm hj).1 (by rw [← e]; exact (numV_ok hm hi).2 ho)
    obtain ⟨s, g1, g2, g3⟩ := numV_yes hm hj hoj
    have : r = s := cnt_inj (repB_iff.2 h1) (repB_iff.2 g1) (by omega)
    subst this
    exact (h2.symm hm).trans g2
  · intro hl
    obtain ⟨s, g1, g2, g3⟩ := numV_yes hm hj (hl.fit2 hm)
    rw [h3, g3, rep_unique hm h1 g1 (h2.trans hl) g2]
/-- Numbers grow by one at the least cells. -/
theorem numV_le (hm : Mut N near) {i : Nat} (hi : i < N) : numV N near ok i ≤ cnt (repB N near ok) i ∧ (numV N near ok i = cnt (repB N near ok) i ↔ Rep N near ok i) := by
  rcases numV_is (ok := ok) hm hi with ⟨ho, e⟩ | ⟨ho, r, h1, h2, e⟩
  · rw [e]
    exact ⟨by omega, fun h => by omega, fun h => absurd h.2.1 ho⟩
  · have hri : r ≤ i := by
      obtain ⟨s, hs, g1, g2⟩ := rep_exists hm i i (Nat.le_refl _) hi ho
      rw [rep_unique hm h1 g1 h2 g2]; exact hs
    have := cnt_le_of_le (p := repB N near ok) hri
    rw [e]
    refine ⟨by omega, fun h => ?_, fun h => ?_⟩
    · rcases Nat.lt_or_ge r i with hlt | hge
      · have := cnt_lt_of_lt hlt (repB_iff.2 h1); omega
      · have : r = i := by omega
        rw [← this]; exact h1
    · rw [rep_unique hm h1 h h2 (Lnk.refl hi ho)]
end

/-- The regions of a level: how many, and each cell's number. -/
noncomputable def regN (R C : Nat) (h : Nat → Int) (l : Int) : Nat := cnt (repB (R * C) (nearL R C) (fun x => l ≤ h x)) (R * C)
noncomputable def regV (R C : Nat) (h : Nat → Int) (l : Int) (i : Nat) : Int := numV (R * C) (nearL R C) (fun x => l ≤ h x) i
section
variable {R C : Nat} {h : Nat → Int} {l : Int}
theorem regN_le : regN R C h l ≤ R * C := cnt_le _ _
theorem regV_rng {i : Nat} (hi : i < R * C) : -1 ≤ regV R C h l i ∧ regV R C h l i < regN R C h l := numV_lt (nearL_mut R C) hi
theorem regV_ok {i : Nat} (hi : i < R * C) : 0 ≤ regV R C h l i ↔ l ≤ h i := numV_ok (nearL_mut R C) hi
theorem regV_no {i : Nat} (hi : i < R * C) (hh : ¬ l ≤ h i) : regV R C h l i = -1 := numV_no (nearL_mut R C) hi hh
theorem regV_eq {i j : Nat} (hi : i < R * C) (hj : j < R * C) (ho : l ≤ h i) : regV R C h l i = regV R C h l j ↔ LnkT R C h l i j := numV_eq (ok := fun x => l ≤ h x) (nearL_mut R C) hi hj ho
theorem reg_onto {k : Nat} (hk : k < regN R C h l) : ∃ r, r < R * C ∧ l ≤ h r ∧ regV R C h l r = k := by
  obtain ⟨r, h1, h2⟩ := num_onto (nearL_mut R C) hk
  exact ⟨r, h1.1, h1.2.1, h2⟩
/-- At the least level all cells are one region. -/
theorem regN_zero (hh : ∀ i, i < R * C → l ≤ h i) (h0 : 0 < R * C) : regN R C h l = 1 := by
  have hm := nearL_mut R C
  have hr0 : Rep (R * C) (nearL R C) (fun x => l ≤ h x) 0 := ⟨h0, hh 0 h0, fun j hj => absurd hj (Nat.not_lt_zero j)⟩
  have h1 : 0 < regN R C h l := Nat.lt_of_le_of_lt (Nat.zero_le _) (cnt_lt_of_lt h0 (repB_iff.2 hr0))
  rcases Nat.lt_or_ge 1 (regN R C h l) with h2 | h2
  · exfalso
    obtain ⟨r, g1, g2⟩ := num_onto hm h2
    obtain ⟨s, q1, q2⟩ := num_onto hm h1
    have e := (numV_eq hm q1.1 g1.1 q1.2.1).2 (grid_link hh q1.1 g1.1)
    rw [g2, q2] at e
    omega
  · omega
end

/-- The greatest k up to which f is 1. -/
def whl (f : Nat → Nat) : Nat → Nat → Nat
  | k, 0 => k
  | k, m + 1 => if f (k + 1) = 1 then whl f (k + 1) m else k
theorem whl_is {f : Nat → Nat} : ∀ (m k : Nat), f k = 1 → f (whl f k m) = 1 ∧ k ≤ whl f k m ∧ whl f k m ≤ k + m ∧ (whl f k m = k + m ∨ f (whl f k m + 1) ≠ 1)
  | 0, k, h => ⟨h, Nat.le_refl _, Nat.le_refl _, .inl rfl⟩
  | m + 1, k, h => by
    unfold whl
    by_cases e : f (k + 1) = 1
    · rw [if_pos e]
      obtain ⟨h1, h2, h3, h4⟩ := whl_is m (k + 1) e
      refine ⟨h1, by omega, by omega, ?_⟩
      rcases h4 with h4 | h4
      · exact .inl (by omega)
      · exact .inr h4
    · rw [if_neg e]
      exact ⟨h, Nat.le_refl _, by omega, .inr e⟩
noncomputable def wholeV (R C : Nat) (h : Nat → Int) : Nat := whl (fun l => regN R C h (l : Int)) 0 99

section
variable {R C : Nat} {h : Nat → Int}
theorem whole_is (hh : ∀ i, i < R * C → 0 ≤ h i) (h0 : 0 < R * C) : regN R C h (wholeV R C h : Nat) = 1 ∧ wholeV R C h ≤ 99 ∧ (wholeV R C h = 99 ∨ regN R C h ((wholeV R C h + 1 : Nat) : Int) ≠ 1) := by
  obtain ⟨h1, h2, h3, h4⟩ := whl_is (f := fun l => regN R C h (l : Int)) 99 0 (regN_zero (l := ((0 : Nat) : Int)) hh h0)
  refine ⟨h1, by unfold wholeV; omega, ?_⟩
  rcases h4 with h4 | h4
  · exact .inl (by unfold wholeV; omega)
  · exact .inr h4

/-- How many cells have a number. -/
def cntI (F : Nat → Int) (x : Int) : Nat → Nat := cnt (fun i => decide (F i = x))
theorem area_zero {l x : Int} (hx : 0 ≤ x) : cntI (regV R C h l) x (R * C) = 0 ↔ ¬ x < regN R C h l := by
  constructor
  · intro e hlt
    obtain ⟨k, rfl⟩ := Int.eq_ofNat_of_zero_le hx
    obtain ⟨r, h1, h2, h3⟩ := reg_onto (R := R) (C := C) (h := h) (l := l) (k := k) (by omega)
    have := cnt_lt_of_lt (p := fun i => decide (regV R C h l i = (k : Int))) h1 (decide_eq_true h3)
    unfold cntI at e
    omega
  · intro hn
    exact cnt_zero fun i hi => decide_eq_false fun e => by have := (regV_rng (h := h) (l := l) hi).2; omega

/-- The number of the region of a lower level in which a region lies. -/
noncomputable def inV (R C : Nat) (h : Nat → Int) (l lo : Int) (k : Nat) : Int := Classical.epsilon (fun v : Int => ∀ i, i < R * C → regV R C h l i = k → v = regV R C h lo i)
theorem in_eq {l lo : Int} (hl : lo ≤ l) {i : Nat} (hi : i < R * C) {k : Nat} (e : regV R C h l i = k) : inV R C h l lo k = regV R C h lo i := by
  have hs : ∀ i, i < R * C → regV R C h l i = k → inV R C h l lo k = regV R C h lo i :=
    Classical.epsilon_spec (p := fun v : Int => ∀ i, i < R * C → regV R C h l i = k → v = regV R C h lo i) ⟨regV R C h lo i, fun j hj ej => by
      have ho : l ≤ h i := (regV_ok hi).1 (by rw [e]; omega)
      have hk := (regV_eq hi hj ho).1 (by rw [e, ej])
      exact (regV_eq hi hj (by omega)).2 (LnkT.mono hk hl)⟩
  exact hs i hi e
theorem in_ok {l lo : Int} (hl : lo ≤ l) {k : Nat} (hk : k < regN R C h l) : 0 ≤ inV R C h l lo k ∧ inV R C h l lo k < regN R C h lo := by
  obtain ⟨r, h1, h2, h3⟩ := reg_onto hk
  rw [in_eq hl h1 h3]
  exact ⟨(regV_ok h1).2 (by omega), (regV_rng h1).2⟩
/-- A region lies in a region that lies in a region. -/
theorem in_in {l m lo : Int} (h1 : m ≤ l) (h2 : lo ≤ m) {k j : Nat} (hk : k < regN R C h l) (hj : inV R C h l m k = j) : inV R C h m lo j = inV R C h l lo k := by
  obtain ⟨r, g1, g2, g3⟩ := reg_onto hk
  rw [in_eq (by omega) g1 g3]
  exact in_eq h2 g1 (by rw [← hj, in_eq h1 g1 g3])

/-- The greatest level up to k that has the property. -/
def fld (p : Nat → Bool) : Nat → Nat
  | 0 => 0
  | k + 1 => if p (k + 1) then k + 1 else fld p k
theorem fld_le (p : Nat → Bool) : ∀ k, fld p k ≤ k
  | 0 => Nat.le_refl _
  | k + 1 => by have := fld_le p k; unfold fld; split <;> omega
noncomputable def sameB (R C : Nat) (h : Nat → Int) (a b l : Nat) : Bool := decide (0 ≤ regV R C h l a ∧ regV R C h l a = regV R C h l b)
noncomputable def floodV (R C : Nat) (h : Nat → Int) (a b : Nat) : Nat := fld (sameB R C h a b) 99

/-- Passes are mutual, and of three the two lowest are equal. -/
theorem pass_self {a : Nat} {f : Nat → Int} (hf : PassF R C h a f) (ha : a < R * C) : f a = h a := by
  have h1 := (hf a ha (f a)).1 (Int.le_refl _)
  have h2 := (hf a ha (h a)).2 (Lnk.refl ha (Int.le_refl _))
  have h3 : f a ≤ h a := Lnk.fit h1
  omega
theorem pass_le {a i : Nat} {f : Nat → Int} (hf : PassF R C h a f) (hi : i < R * C) : f i ≤ h i ∧ f i ≤ h a := by
  have h1 := (hf i hi (f i)).1 (Int.le_refl _)
  exact ⟨Lnk.fit h1, Lnk.fit2 (nearL_mut R C) h1⟩
theorem pass_symm {a b : Nat} {f g : Nat → Int} (hf : PassF R C h a f) (hg : PassF R C h b g) (ha : a < R * C) (hb : b < R * C) : f b = g a := by
  have h1 := (hg a ha (f b)).2 (((hf b hb (f b)).1 (Int.le_refl _)).symm (nearL_mut R C))
  have h2 := (hf b hb (g a)).2 (((hg a ha (g a)).1 (Int.le_refl _)).symm (nearL_mut R C))
  omega
theorem pass_three {a c b : Nat} {f g : Nat → Int} (hf : PassF R C h a f) (hg : PassF R C h c g) (ha : a < R * C) (hb : b < R * C) (hc : c < R * C) : min (f c) (g b) ≤ f b := by
  refine (hf b hb _).2 ?_
  have h1 : LnkT R C h (min (f c) (g b)) b c := ((hg b hb (g b)).1 (Int.le_refl _)).mono (by omega)
  have h2 : LnkT R C h (min (f c) (g b)) c a := ((hf c hc (f c)).1 (Int.le_refl _)).mono (by omega)
  exact Lnk.trans h1 h2

/-- Ranked higher. -/
def hiB (h : Nat → Int) (a b : Nat) : Bool := decide (h b < h a ∨ (h a = h b ∧ a < b))
/-- The greatest pass to one of the first k cells that is higher, or -1. -/
def kTo (h f : Nat → Int) (i : Nat) : Nat → Int
  | 0 => -1
  | k + 1 => if hiB h k i then max (kTo h f i k) (f k) else kTo h f i k
end

end Go.Proofs.Ytgekjhmjjjkibaa
