/- Plain words: cells that are joined step by step to a source; sweeps that add cells to a set; neighbors and the border of a grid. -/
import Derived.Test.YtgekjhmjjjkibaaCnt
namespace Go.Proofs.Ytgekjhmjjjkibaa
set_option linter.unusedVariables false
set_option linter.unusedSimpArgs false

theorem cnt_lt {p q : Nat → Bool} : ∀ {k : Nat}, (∀ i, i < k → p i = true → q i = true) → (∃ i, i < k ∧ q i = true ∧ p i = false) → cnt p k < cnt q k
  | 0, _, ⟨i, hi, _⟩ => absurd hi (by omega)
  | k + 1, h, ⟨i, hi, hq, hp⟩ => by
    have hm := cnt_mono (p := p) (q := q) (k := k) (fun i hi => h i (by omega))
    unfold cnt
    by_cases e : i = k
    · subst e
      simp [hq, hp]
      omega
    · have := cnt_lt (p := p) (q := q) (k := k) (fun i hi => h i (by omega)) ⟨i, by omega, hq, hp⟩
      have h2 := h k (by omega)
      cases hpk : p k <;> cases hqk : q k <;> simp [hpk, hqk] at h2 ⊢ <;> omega
theorem cnt_full {p : Nat → Bool} : ∀ {k : Nat}, k ≤ cnt p k → ∀ i, i < k → p i = true
  | 0, _, i, hi => absurd hi (by omega)
  | k + 1, h, i, hi => by
    have hl := cnt_le p k
    unfold cnt at h
    cases hp : p k
    · simp [hp] at h; omega
    · simp [hp] at h
      by_cases e : i = k
      · subst e; exact hp
      · exact cnt_full (k := k) (by omega) i (by omega)
theorem cnt_zero {p : Nat → Bool} : ∀ {k : Nat}, (∀ i, i < k → p i = false) → cnt p k = 0
  | 0, _ => rfl
  | k + 1, h => by unfold cnt; rw [cnt_zero (fun i hi => h i (by omega)), h k (by omega)]; rfl
theorem cnt_le_of_le {p : Nat → Bool} {a : Nat} : ∀ {b : Nat}, a ≤ b → cnt p a ≤ cnt p b
  | 0, h => by rw [show a = 0 by omega]; exact Nat.le_refl _
  | b + 1, h => by
    by_cases e : a = b + 1
    · rw [e]; exact Nat.le_refl _
    · have := cnt_le_of_le (p := p) (a := a) (b := b) (by omega)
      simp only [cnt]; omega
theorem cnt_lt_of_lt {p : Nat → Bool} {a b : Nat} (h : a < b) (hp : p a = true) : cnt p a < cnt p b := by
  have := cnt_le_of_le (p := p) (a := a + 1) (b := b) h
  simp only [cnt, hp] at this
  simp at this; omega

/-- The cell is joined to a source: each step from it leads over a cell that is ok to a neighbor that is joined. -/
def Con (N : Nat) (near : Nat → List Nat) (src ok : Nat → Prop) (i : Nat) : Prop :=
  ∀ P : Nat → Prop, (∀ i, i < N → src i → P i) → (∀ i j, i < N → ok i → j ∈ near i → P j → P i) → P i

section
variable {N : Nat} {near : Nat → List Nat} {src ok : Nat → Prop}
theorem Con.start {i : Nat} (hi : i < N) (h : src i) : Con N near src ok i := fun _ h1 _ => h1 i hi h
theorem Con.step {i j : Nat} (hi : i < N) (h : ok i) (hj : j ∈ near i) (hc : Con N near src ok j) : Con N near src ok i := fun P h1 h2 => h2 i j hi h hj (hc P h1 h2)
theorem Con.lt {i : Nat} (h : Con N near src ok i) : i < N := h (fun i => i < N) (fun _ hi _ => hi) (fun _ _ hi _ _ _ => hi)
theorem Con.mono {src' ok' : Nat → Prop} {i : Nat} (h : Con N near src ok i) (h1 : ∀ i, i < N → src i → src' i) (h2 : ∀ i, i < N → ok i → ok' i) : Con N near src' ok' i :=
  h _ (fun i hi hs => Con.start hi (h1 i hi hs)) (fun _ _ hi ho hj hc => Con.step hi (h2 _ hi ho) hj hc)
theorem Con.ok_of {i : Nat} (h : Con N near src ok i) (hs : ∀ i, i < N → src i → ok i) : ok i := h ok hs (fun _ _ _ ho _ _ => ho)

/-- After k sweeps: all cells that are joined are in the set, or the set has k cells. -/
def Sat (N : Nat) (near : Nat → List Nat) (src ok : Nat → Prop) (s : Nat → Bool) (k : Nat) : Prop := (∀ i, Con N near src ok i → s i = true) ∨ k ≤ cnt s N

theorem Sat.zero (s : Nat → Bool) : Sat N near src ok s 0 := .inr (Nat.zero_le _)
theorem Sat.next {s s' : Nat → Bool} {k : Nat} (h : Sat N near src ok s k) (hsrc : ∀ i, i < N → src i → s i = true) (hmono : ∀ i, i < N → s i = true → s' i = true)
    (hstep : ∀ i j, i < N → ok i → j ∈ near i → s j = true → s' i = true) : Sat N near src ok s' (k + 1) := by
  by_cases hall : ∀ i, i < N → s' i = true → s i = true
  · refine .inl fun i hc => hmono i hc.lt ?_
    exact hc (fun i => s i = true) hsrc (fun i j hi ho hj hs => hall i hi (hstep i j hi ho hj hs))
  · have hex : ∃ i, i < N ∧ s' i = true ∧ s i = false := by
      refine Classical.byContradiction fun hn => hall fun i hi hs => ?_
      cases e : s i
      · exact absurd ⟨i, hi, hs, e⟩ hn
      · rfl
    rcases h with h | h
    · exact .inl fun i hc => hmono i hc.lt (h i hc)
    · have := cnt_lt hmono hex
      exact .inr (by omega)
theorem Sat.done {s : Nat → Bool} (h : Sat N near src ok s N) (i : Nat) (hc : Con N near src ok i) : s i = true := by
  rcases h with h | h
  · exact h i hc
  · exact cnt_full h i hc.lt
end

/-- The neighbors of a cell of a grid of R rows and C columns: north, east, south, west. -/
def nearL (R C i : Nat) : List Nat :=
  (if 0 < i / C then [i - C] else []) ++ (if i % C + 1 < C then [i + 1] else []) ++ (if i / C + 1 < R then [i + C] else []) ++ (if 0 < i % C then [i - 1] else [])

theorem nearL_len (R C i : Nat) : (nearL R C i).length ≤ 4 := by
  unfold nearL
  simp only [List.length_append]
  split <;> split <;> split <;> split <;> simp

/-- Two cells, by row and column, have a side in common. -/
def Adj (r c r' c' : Nat) : Prop := (c' = c ∧ (r' + 1 = r ∨ r' = r + 1)) ∨ (r' = r ∧ (c' + 1 = c ∨ c' = c + 1))
theorem Adj.symm {r c r' c' : Nat} (h : Adj r c r' c') : Adj r' c' r c := by unfold Adj at *; omega

theorem rc_of {C r c : Nat} (hc : c < C) : (r * C + c) / C = r ∧ (r * C + c) % C = c := by
  rw [Nat.mul_comm, Nat.mul_add_div (by omega), Nat.div_eq_of_lt hc, Nat.add_zero, Nat.mul_add_mod, Nat.mod_eq_of_lt hc]
  exact ⟨rfl, rfl⟩
theorem rc_in {R C i : Nat} (hi : i < R * C) : 0 < C ∧ i / C < R ∧ i % C < C ∧ i / C * C + i % C = i := by
  have hC : 0 < C := by
    rcases Nat.eq_zero_or_pos C with h | h
    · subst h; omega
    · exact h
  refine ⟨hC, Nat.div_lt_of_lt_mul (by rw [Nat.mul_comm]; exact hi), Nat.mod_lt _ hC, ?_⟩
  have := Nat.div_add_mod i C
  rw [Nat.mul_comm] at this
  exact this
theorem rc_lt {R C r c : Nat} (hr : r < R) (hc : c < C) : r * C + c < R * C := by
  have : (r + 1) * C ≤ R * C := Nat.mul_le_mul_right C hr
  rw [Nat.succ_mul] at this
  omega
theorem rc_inj {C i j : Nat} (h1 : i / C = j / C) (h2 : i % C = j % C) : i = j := by
  have a := Nat.div_add_mod i C
  have b := Nat.div_add_mod j C
  rw [h1, h2] at a
  omega

theorem mem_near_rc {R C r c j : Nat} (_hr : r < R) (hc : c < C) : j ∈ nearL R C (r * C + c) ↔ (0 < r ∧ j = (r - 1) * C + c) ∨ (c + 1 < C ∧ j = r * C + (c + 1)) ∨ (r + 1 < R ∧ j = (r + 1) * C + c) ∨ (0 < c ∧ j = r * C + (c - 1)) := by
  unfold nearL
  rw [(rc_of hc).1, (rc_of hc).2]
  have e1 : (r + 1) * C = r * C + C := Nat.succ_mul r C
  have e2 : 0 < r → (r - 1) * C + C = r * C := fun h => by rw [← Nat.succ_mul]; congr 1; omega
  simp only [List.mem_append]
  constructor
  · rintro (((h | h) | h) | h) <;> split at h <;> simp at h
    · rename_i h0; have := e2 h0; exact .inl ⟨h0, by omega⟩
    · rename_i h0; exact .inr (.inl ⟨h0, by omega⟩)
    · rename_i h0; exact .inr (.inr (.inl ⟨h0, by omega⟩))
    · rename_i h0; exact .inr (.inr (.inr ⟨h0, by omega⟩))
  · rintro (⟨h, e⟩ | ⟨h, e⟩ | ⟨h, e⟩ | ⟨h, e⟩)
    · have := e2 h
      refine .inl (.inl (.inl ?_)); rw [if_pos h]; simp; omega
    · refine .inl (.inl (.inr ?_)); rw [if_pos h]; simp; omega
    · refine .inl (.inr ?_); rw [if_pos h]; simp; omega
    · refine .inr ?_; rw [if_pos h]; simp; omega

theorem mem_near {R C i j : Nat} (hi : i < R * C) : j ∈ nearL R C i ↔ j < R * C ∧ Adj (i / C) (i % C) (j / C) (j % C) := by
  obtain ⟨hC, hr, hc, e⟩ := rc_in hi
  have h := mem_near_rc (j := j) hr hc
  rw [e] at h
  rw [h]
  clear h
  generalize i / C = r at *
  generalize i % C = c at *
  constructor
  · rintro (⟨h, rfl⟩ | ⟨h, rfl⟩ | ⟨h, rfl⟩ | ⟨h, rfl⟩)
    · exact ⟨rc_lt (by omega) hc, by rw [(rc_of hc).1, (rc_of hc).2]; unfold Adj; omega⟩
    · exact ⟨rc_lt hr h, by rw [(rc_of h).1, (rc_of h).2]; unfold Adj; omega⟩
    · exact ⟨rc_lt h hc, by rw [(rc_of hc).1, (rc_of hc).2]; unfold Adj; omega⟩
    · exact ⟨rc_lt hr (by omega), by rw [(rc_of (by omega)).1, (rc_of (by omega)).2]; unfold Adj; omega⟩
  · rintro ⟨hj, ha⟩
    obtain ⟨_, hr', hc', e'⟩ := rc_in hj
    generalize j / C = r' at *
    generalize j % C = c' at *
    rcases ha with ⟨h1, h2 | h2⟩ | ⟨h1, h2 | h2⟩
    · exact .inl ⟨by omega, by rw [← e', h1, show r' = r - 1 by omega]⟩
    · exact .inr (.inr (.inl ⟨by omega, by rw [← e', h1, h2]⟩))
    · exact .inr (.inr (.inr ⟨by omega, by rw [← e', h1, show c' = c - 1 by omega]⟩))
    · exact .inr (.inl ⟨by omega, by rw [← e', h1, h2]⟩)

theorem nearL_lt {R C i j : Nat} (hi : i < R * C) (hj : j ∈ nearL R C i) : j < R * C := ((mem_near hi).1 hj).1
theorem nearL_symm {R C i j : Nat} (hi : i < R * C) (hj : j ∈ nearL R C i) : i ∈ nearL R C j := by
  obtain ⟨h1, h2⟩ := (mem_near hi).1 hj
  exact (mem_near h1).2 ⟨hi, h2.symm⟩
theorem nearL_ne {R C i j : Nat} (hi : i < R * C) (hj : j ∈ nearL R C i) : j ≠ i := by
  rintro rfl
  obtain ⟨_, h2⟩ := (mem_near hi).1 hj
  unfold Adj at h2; omega

/-- The cell is in the first or last row or column. -/
def brd (R C i : Nat) : Bool := decide (i / C = 0 ∨ i / C = R - 1 ∨ i % C = 0 ∨ i % C = C - 1)

def upd (f : Nat → Int) (i : Nat) (v : Int) : Nat → Int := fun j => if j = i then v else f j
theorem upd_at (f : Nat → Int) (i : Nat) (v : Int) : upd f i v i = v := if_pos rfl
theorem upd_ne (f : Nat → Int) {i j : Nat} (v : Int) (hj : j ≠ i) : upd f i v j = f j := if_neg hj
theorem upd_same (f : Nat → Int) (i : Nat) : upd f i (f i) = f := by
  funext j; unfold upd; split
  · next e => rw [e]
  · rfl

def sumI (F : Nat → Int) : Nat → Int
  | 0 => 0
  | k + 1 => sumI F k + F k
theorem sumI_congr {F G : Nat → Int} : ∀ {k : Nat}, (∀ i, i < k → F i = G i) → sumI F k = sumI G k
  | 0, _ => rfl
  | k + 1, h => by unfold sumI; rw [sumI_congr (fun i hi => h i (by omega)), h k (by omega)]
theorem sumI_bound {F : Nat → Int} {b : Int} : ∀ {k : Nat}, (∀ i, i < k → 0 ≤ F i ∧ F i ≤ b) → 0 ≤ sumI F k ∧ sumI F k ≤ k * b
  | 0, _ => by simp [sumI]
  | k + 1, h => by
    have h1 := sumI_bound (F := F) (b := b) (k := k) (fun i hi => h i (by omega))
    have h2 := h k (by omega)
    have e : ((k + 1 : Nat) : Int) * b = k * b + b := by rw [Int.natCast_add, Int.add_mul]; simp
    rw [e]
    unfold sumI; omega
theorem sumI_nonneg {F : Nat → Int} : ∀ {k : Nat}, (∀ i, i < k → 0 ≤ F i) → 0 ≤ sumI F k
  | 0, _ => Int.le_refl _
  | k + 1, h => by
    have := sumI_nonneg (F := F) (k := k) (fun i hi => h i (by omega))
    have := h k (by omega)
    unfold sumI; omega
theorem sumI_zero {F : Nat → Int} : ∀ {k : Nat}, (∀ i, i < k → 0 ≤ F i) → sumI F k = 0 → ∀ i, i < k → F i = 0
  | 0, _, _, i, hi => absurd hi (by omega)
  | k + 1, h, e, i, hi => by
    have h0 : 0 ≤ sumI F k := (sumI_nonneg fun i hi => h i (by omega))
    have h2 := h k (by omega)
    unfold sumI at e
    by_cases ei : i = k
    · subst ei; omega
    · exact sumI_zero (k := k) (fun i hi => h i (by omega)) (by omega) i (by omega)

end Go.Proofs.Ytgekjhmjjjkibaa
