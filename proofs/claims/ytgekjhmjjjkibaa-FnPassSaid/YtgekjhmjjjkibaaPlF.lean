/- Plain words: water that leaves a cell; the drained heights; what one sweep keeps. -/
import Derived.Test.YtgekjhmjjjkibaaPlC
namespace Go.Proofs.Ytgekjhmjjjkibaa
set_option linter.unusedVariables false
set_option linter.unusedSimpArgs false

/-- From the cell the border is reached over cells of at most the height t. -/
def Esc (R C : Nat) (h : Nat → Int) (t : Int) (i : Nat) : Prop := Con (R * C) (nearL R C) (fun i => brd R C i = true ∧ h i ≤ t) (fun i => h i ≤ t) i

section
variable {R C : Nat} {h : Nat → Int}

theorem Esc.le {t : Int} {i : Nat} (e : Esc R C h t i) : h i ≤ t := Con.ok_of e (fun _ _ hs => hs.2)
theorem Esc.mono {t t' : Int} {i : Nat} (e : Esc R C h t i) (ht : t ≤ t') : Esc R C h t' i := Con.mono e (fun _ _ hs => ⟨hs.1, Int.le_trans hs.2 ht⟩) (fun _ _ ho => Int.le_trans ho ht)
theorem Esc.congr {h' : Nat → Int} {t : Int} {i : Nat} (e : Esc R C h t i) (he : ∀ i, i < R * C → h i = h' i) : Esc R C h' t i :=
  Con.mono e (fun i hi hs => ⟨hs.1, by rw [← he i hi]; exact hs.2⟩) (fun i hi ho => by rw [← he i hi]; exact ho)

/-- All heights are at most t: water leaves everywhere. -/
theorem esc_all {t : Int} (ht : ∀ i, i < R * C → h i ≤ t) : ∀ (k i : Nat), i ≤ k → i < R * C → Esc R C h t i
  | k, i, hk, hi => by
    obtain ⟨hC, hr, hc, e⟩ := rc_in hi
    by_cases h0 : i / C = 0
    · exact Con.start hi ⟨decide_eq_true (.inl h0), ht i hi⟩
    · have hm : i - C ∈ nearL R C i := by
        unfold nearL
        simp only [List.mem_append]
        refine .inl (.inl (.inl ?_))
        rw [if_pos (Nat.pos_of_ne_zero h0)]; simp
      have hCi : C ≤ i := by
        rcases Nat.lt_or_ge i C with hlt | hge
        · exact absurd (Nat.div_eq_of_lt hlt) h0
        · exact hge
      match k, hk with
      | 0, hk => exact absurd (Nat.div_eq_of_lt (by omega : i < C)) h0
      | k + 1, hk => exact Con.step hi (ht i hi) hm (esc_all ht k (i - C) (by omega) (by omega))

/-- These are the drained heights. -/
def FillF (R C : Nat) (h f : Nat → Int) : Prop := ∀ i, i < R * C → ∀ t, f i ≤ t ↔ Esc R C h t i

theorem FillF.ge {f : Nat → Int} (hf : FillF R C h f) {i : Nat} (hi : i < R * C) : h i ≤ f i := ((hf i hi (f i)).1 (Int.le_refl _)).le
theorem FillF.unique {f f' : Nat → Int} (hf : FillF R C h f) (hf' : FillF R C h f') {i : Nat} (hi : i < R * C) : f i = f' i := by
  have a := (hf' i hi (f i)).2 ((hf i hi (f i)).1 (Int.le_refl _))
  have b := (hf i hi (f' i)).2 ((hf' i hi (f' i)).1 (Int.le_refl _))
  omega
theorem FillF.le {f : Nat → Int} (hf : FillF R C h f) {t : Int} (ht : ∀ i, i < R * C → h i ≤ t) {i : Nat} (hi : i < R * C) : f i ≤ t := (hf i hi t).2 (esc_all ht i i (Nat.le_refl _) hi)
theorem FillF.border {f : Nat → Int} (hf : FillF R C h f) {i : Nat} (hi : i < R * C) (hb : brd R C i = true) : f i = h i := by
  have a := hf.ge hi
  have b := (hf i hi (h i)).2 (Con.start hi ⟨hb, Int.le_refl _⟩)
  omega

noncomputable def fillV (R C : Nat) (h : Nat → Int) (i : Nat) : Int := Classical.epsilon (fun v : Int => ∀ t, v ≤ t ↔ Esc R C h t i)
theorem FillF.eq {f : Nat → Int} (hf : FillF R C h f) {i : Nat} (hi : i < R * C) : f i = fillV R C h i := by
  have hs : ∀ t, fillV R C h i ≤ t ↔ Esc R C h t i := Classical.epsilon_spec (p := fun v : Int => ∀ t, v ≤ t ↔ Esc R C h t i) ⟨f i, hf i hi⟩
  have a := (hs (f i)).2 ((hf i hi (f i)).1 (Int.le_refl _))
  have b := (hf i hi (fillV R C h i)).2 ((hs (fillV R C h i)).1 (Int.le_refl _))
  omega
theorem FillF.fillV {f : Nat → Int} (hf : FillF R C h f) : FillF R C h (fillV R C h) := fun i hi t => by rw [← hf.eq hi]; exact hf i hi t

/-- What is below is reached. -/
def Snd (R C : Nat) (h f : Nat → Int) : Prop := ∀ i, i < R * C → ∀ t, f i ≤ t → Esc R C h t i
def BrdF (R C : Nat) (h f : Nat → Int) : Prop := ∀ i, i < R * C → brd R C i = true → f i = h i

def fill0 (R C : Nat) (h : Nat → Int) : Nat → Int := fun i => if brd R C i = true then h i else 99
theorem snd0 (hh : ∀ i, i < R * C → h i ≤ 99) : Snd R C h (fill0 R C h) := by
  intro i hi t ht
  unfold fill0 at ht
  by_cases hb : brd R C i = true
  · rw [if_pos hb] at ht; exact Con.start hi ⟨hb, ht⟩
  · rw [if_neg hb] at ht; exact (esc_all hh i i (Nat.le_refl _) hi).mono ht
theorem brd0 : BrdF R C h (fill0 R C h) := fun _ _ hb => if_pos hb

theorem Snd.relax {f : Nat → Int} (hs : Snd R C h f) {i j : Nat} (hi : i < R * C) (hj : j ∈ nearL R C i) : Snd R C h (upd f i (min (f i) (max (h i) (f j)))) := by
  intro x hx t ht
  unfold upd at ht
  by_cases e : x = i
  · subst e
    rw [if_pos rfl] at ht
    by_cases h1 : f x ≤ t
    · exact hs x hx t h1
    · exact Con.step hx (by omega) hj (hs j (nearL_lt hi hj) t (by omega))
  · rw [if_neg e] at ht; exact hs x hx t ht

/-- Within a sweep that began with f0: the cells before x are done, and the first m neighbors of x. -/
structure Swp (R C : Nat) (h f0 f : Nat → Int) (x m : Nat) : Prop where
  snd : Snd R C h f
  bd : BrdF R C h f
  le : ∀ i, i < R * C → f i ≤ f0 i
  done : ∀ i, i < x → i < R * C → ∀ j, j ∈ nearL R C i → f i ≤ max (h i) (f0 j)
  now : ∀ q, q < m → q < (nearL R C x).length → f x ≤ max (h x) (f0 ((nearL R C x).getD q 0))

theorem Swp.start {f : Nat → Int} (hs : Snd R C h f) (hb : BrdF R C h f) : Swp R C h f f 0 0 :=
  ⟨hs, hb, fun _ _ => Int.le_refl _, fun _ hi => absurd hi (by omega), fun _ hq => absurd hq (by omega)⟩
theorem getD_mem {l : List Nat} {q : Nat} (hq : q < l.length) : l.getD q 0 ∈ l := by
  rw [List.getD, List.getElem?_eq_getElem hq]
  exact List.getElem_mem _
theorem Swp.relax {f0 f : Nat → Int} {x m : Nat} (H : Swp R C h f0 f x m) (hx : x < R * C) (hm : m < (nearL R C x).length) :
    Swp R C h f0 (upd f x (min (f x) (max (h x) (f ((nearL R C x).getD m 0))))) x (m + 1) := by
  have hmem := getD_mem hm
  have hj := nearL_lt hx hmem
  have hle := H.le _ hj
  have hne := nearL_ne hx hmem
  refine ⟨H.snd.relax hx hmem, fun i hi hb => ?_, fun i hi => ?_, fun i hi hi' j hj' => ?_, fun q hq hq' => ?_⟩
  · by_cases e : i = x
    · subst e
      rw [upd_at]
      have := H.bd i hi hb
      omega
    · rw [upd_ne _ _ e]; exact H.bd i hi hb
  · by_cases e : i = x
    · subst e
      rw [upd_at]
      have := H.le i hi
      omega
    · rw [upd_ne _ _ e]; exact H.le i hi
  · rw [upd_ne _ _ (by omega)]; exact H.done i hi hi' j hj'
  · rw [upd_at]
    by_cases e : q = m
    · subst e; omega
    · have := H.now q (by omega) hq'
      omega
theorem Swp.next {f0 f : Nat → Int} {x : Nat} (H : Swp R C h f0 f x (nearL R C x).length) : Swp R C h f0 f (x + 1) 0 := by
  refine ⟨H.snd, H.bd, H.le, fun i hi hi' j hj => ?_, fun q hq => absurd hq (by omega)⟩
  by_cases e : i = x
  · subst e
    obtain ⟨q, hq, e⟩ := List.getElem_of_mem hj
    have := H.now q hq hq
    rw [List.getD, List.getElem?_eq_getElem hq] at this
    simpa [e] using this
  · exact H.done i (by omega) hi' j hj
/-- A cell of the border is done at once. -/
theorem Swp.skip {f0 f : Nat → Int} {x : Nat} (H : Swp R C h f0 f x 0) (hb : brd R C x = true) : Swp R C h f0 f (x + 1) 0 := by
  refine ⟨H.snd, H.bd, H.le, fun i hi hi' j hj => ?_, fun q hq => absurd hq (by omega)⟩
  by_cases e : i = x
  · subst e
    have := H.bd i hi' hb
    omega
  · exact H.done i (by omega) hi' j hj

/-- Nothing is left to do. -/
def Stb (R C : Nat) (h f : Nat → Int) : Prop := ∀ i, i < R * C → ∀ j, j ∈ nearL R C i → f i ≤ max (h i) (f j)
theorem fill_of_stable {f : Nat → Int} (hs : Snd R C h f) (hb : BrdF R C h f) (ht : Stb R C h f) : FillF R C h f := fun i hi t =>
  ⟨hs i hi t, fun e => e (fun i => f i ≤ t) (fun i hi hs => by rw [hb i hi hs.1]; exact hs.2) (fun i j hi ho hj hf => by have := ht i hi j hj; omega)⟩
theorem Swp.stable {f0 f : Nat → Int} (H : Swp R C h f0 f (R * C) 0) (he : ∀ i, i < R * C → f i = f0 i) : Stb R C h f := fun i hi j hj => by
  have := H.done i hi hi j hj
  rw [he j (nearL_lt hi hj)]
  exact this

/-- For each height t the set of the cells at most t has been swept k times. -/
def SatF (R C : Nat) (h f : Nat → Int) (k : Nat) : Prop := ∀ t, Sat (R * C) (nearL R C) (fun i => brd R C i = true ∧ h i ≤ t) (fun i => h i ≤ t) (fun i => decide (f i ≤ t)) k
theorem SatF.zero (f : Nat → Int) : SatF R C h f 0 := fun _ => Sat.zero _
theorem SatF.next {f0 f : Nat → Int} {k : Nat} (H : SatF R C h f0 k) (hb : BrdF R C h f0) (S : Swp R C h f0 f (R * C) 0) : SatF R C h f (k + 1) := fun t =>
  (H t).next (fun i hi hs => decide_eq_true (by rw [hb i hi hs.1]; exact hs.2)) (fun i hi hs => decide_eq_true (Int.le_trans (S.le i hi) (of_decide_eq_true hs)))
    (fun i j hi ho hj hs => decide_eq_true (by have := S.done i hi hi j hj; have := of_decide_eq_true hs; omega))
theorem fill_of_sat {f : Nat → Int} (hs : Snd R C h f) (H : SatF R C h f (R * C)) : FillF R C h f := fun i hi t => ⟨hs i hi t, fun e => of_decide_eq_true ((H t).done i e)⟩

end

end Go.Proofs.Ytgekjhmjjjkibaa
