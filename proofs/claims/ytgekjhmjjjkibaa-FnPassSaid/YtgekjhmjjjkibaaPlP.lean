/- Plain words: passes; what one sweep keeps; a search by the highest pass; a heap. -/
import Derived.Test.YtgekjhmjjjkibaaPlF
import Derived.Test.YtgekjhmjjjkibaaPlR
namespace Go.Proofs.Ytgekjhmjjjkibaa
set_option linter.unusedVariables false
set_option linter.unusedSimpArgs false

/-- A way over heights of at least t. -/
def LnkT (R C : Nat) (h : Nat → Int) (t : Int) (i j : Nat) : Prop := Lnk (R * C) (nearL R C) (fun x => t ≤ h x) i j
theorem LnkT.mono {R C : Nat} {h : Nat → Int} {t t' : Int} {i j : Nat} (e : LnkT R C h t i j) (ht : t' ≤ t) : LnkT R C h t' i j := Lnk.mono e (fun _ _ ho => Int.le_trans ht ho)

/-- All cells of a grid are linked. -/
theorem grid_link0 {R C : Nat} {ok : Nat → Prop} (hok : ∀ i, i < R * C → ok i) : ∀ (k i : Nat), i ≤ k → i < R * C → Lnk (R * C) (nearL R C) ok i 0
  | k, i, hk, hi => by
    by_cases h0 : i = 0
    · subst h0; exact Lnk.refl hi (hok _ hi)
    obtain ⟨hC, hr, hc, e⟩ := rc_in hi
    by_cases hr0 : i / C = 0
    · have hm : i - 1 ∈ nearL R C i := by
        unfold nearL
        simp only [List.mem_append]
        refine .inr ?_
        rw [if_pos (by rw [hr0] at e; omega)]; simp
      match k, hk with
      | 0, hk => omega
      | k + 1, hk => exact (grid_link0 hok k (i - 1) (by omega) (by omega)).edge hi (hok _ hi) hm
    · have hm : i - C ∈ nearL R C i := by
        unfold nearL
        simp only [List.mem_append]
        refine .inl (.inl (.inl ?_))
        rw [if_pos (Nat.pos_of_ne_zero hr0)]; simp
      have hCi : C ≤ i := by
        rcases Nat.lt_or_ge i C with hlt | hge
        · exact absurd (Nat.div_eq_of_lt hlt) hr0
        · exact hge
      match k, hk with
      | 0, hk => omega
      | k + 1, hk => exact (grid_link0 hok k (i - C) (by omega) (by omega)).edge hi (hok _ hi) hm
theorem grid_link {R C : Nat} {ok : Nat → Prop} (hok : ∀ i, i < R * C → ok i) {i j : Nat} (hi : i < R * C) (hj : j < R * C) : Lnk (R * C) (nearL R C) ok i j :=
  (grid_link0 hok i i (Nat.le_refl _) hi).trans ((grid_link0 hok j j (Nat.le_refl _) hj).symm (nearL_mut R C))

/-- These are the passes between a cell and each cell. -/
def PassF (R C : Nat) (h : Nat → Int) (a : Nat) (f : Nat → Int) : Prop := ∀ i, i < R * C → ∀ t, t ≤ f i ↔ LnkT R C h t i a
noncomputable def passV (R C : Nat) (h : Nat → Int) (a i : Nat) : Int := Classical.epsilon (fun v : Int => ∀ t, t ≤ v ↔ LnkT R C h t i a)

section
variable {R C : Nat} {h : Nat → Int} {a : Nat}
theorem PassF.eq {f : Nat → Int} (hf : PassF R C h a f) {i : Nat} (hi : i < R * C) : f i = passV R C h a i := by
  have hs : ∀ t, t ≤ passV R C h a i ↔ LnkT R C h t i a := Classical.epsilon_spec (p := fun v : Int => ∀ t, t ≤ v ↔ LnkT R C h t i a) ⟨f i, hf i hi⟩
  have x := (hs (f i)).2 ((hf i hi (f i)).1 (Int.le_refl _))
  have y := (hf i hi (passV R C h a i)).2 ((hs (passV R C h a i)).1 (Int.le_refl _))
  omega
theorem PassF.passV {f : Nat → Int} (hf : PassF R C h a f) : PassF R C h a (passV R C h a) := fun i hi t => by rw [← hf.eq hi]; exact hf i hi t

/-- What is at least t is linked. -/
def SndP (R C : Nat) (h : Nat → Int) (a : Nat) (f : Nat → Int) : Prop := ∀ i, i < R * C → ∀ t, t ≤ f i → LnkT R C h t i a
def pass0 (h : Nat → Int) (a : Nat) : Nat → Int := upd (fun _ => -1) a (h a)
theorem sndP0 (hh : ∀ i, i < R * C → 0 ≤ h i) (ha : a < R * C) : SndP R C h a (pass0 h a) := by
  intro i hi t ht
  unfold pass0 at ht
  by_cases e : i = a
  · subst e; rw [upd_at] at ht; exact Lnk.refl hi ht
  · rw [upd_ne _ _ e] at ht
    exact grid_link (fun j hj => by have := hh j hj; show t ≤ h j; omega) hi ha
theorem SndP.relax {f : Nat → Int} (hs : SndP R C h a f) {i j : Nat} (hi : i < R * C) (hj : j ∈ nearL R C i) : SndP R C h a (upd f i (max (f i) (min (h i) (f j)))) := by
  intro x hx t ht
  by_cases e : x = i
  · subst e
    rw [upd_at] at ht
    by_cases h1 : t ≤ f x
    · exact hs x hx t h1
    · exact Lnk.edge hx (show t ≤ h x by omega) hj (hs j (nearL_lt hi hj) t (by omega))
  · rw [upd_ne _ _ e] at ht; exact hs x hx t ht

/-- Within a sweep that began with f0: the cells before x are done, and the first m neighbors of x. -/
structure SwpP (R C : Nat) (h : Nat → Int) (a : Nat) (f0 f : Nat → Int) (x m : Nat) : Prop where
  snd : SndP R C h a f
  src : h a ≤ f a
  ge : ∀ i, i < R * C → f0 i ≤ f i
  done : ∀ i, i < x → i < R * C → ∀ j, j ∈ nearL R C i → min (h i) (f0 j) ≤ f i
  now : ∀ q, q < m → q < (nearL R C x).length → min (h x) (f0 ((nearL R C x).getD q 0)) ≤ f x
theorem SwpP.start {f : Nat → Int} (hs : SndP R C h a f) (hb : h a ≤ f a) : SwpP R C h a f f 0 0 :=
  ⟨hs, hb, fun _ _ => Int.le_refl _, fun _ hi => absurd hi (by omega), fun _ hq => absurd hq (by omega)⟩
theorem SwpP.relax {f0 f : Nat → Int} {x m : Nat} (H : SwpP R C h a f0 f x m) (hx : x < R * C) (hm : m < (nearL R C x).length) :
    SwpP R C h a f0 (upd f x (max (f x) (min (h x) (f ((nearL R C x).getD m 0))))) x (m + 1) := by
  have hmem := getD_mem hm
  have hj := nearL_lt hx hmem
  have hle := H.ge _ hj
  refine ⟨H.snd.relax hx hmem, ?_, fun i hi => ?_, fun i hi hi' j hj' => ?_, fun q hq hq' => ?_⟩
  · have := H.src
    by_cases e : a = x
    · subst e; rw [upd_at]; omega
    · rw [upd_ne _ _ e]; exact this
  · by_cases e : i = x
    · subst e
      rw [upd_at]
      have := H.ge i hi
      omega
    · rw [upd_ne _ _ e]; exact H.ge i hi
  · rw [upd_ne _ _ (by omega)]; exact H.done i hi hi' j hj'
  · rw [upd_at]
    by_cases e : q = m
    · subst e; omega
    · have := H.now q (by omega) hq'
      omega
theorem SwpP.next {f0 f : Nat → Int} {x : Nat} (H : SwpP R C h a f0 f x (nearL R C x).length) : SwpP R C h a f0 f (x + 1) 0 := by
  refine ⟨H.snd, H.src, H.ge, fun i hi hi' j hj => ?_, fun q hq => absurd hq (by omega)⟩
  by_cases e : i = x
  · subst e
    obtain ⟨q, hq, e⟩ := List.getElem_of_mem hj
    have := H.now q hq hq
    rw [List.getD, List.getElem?_eq_getElem hq] at this
    simpa [e] using this
  · exact H.done i (by omega) hi' j hj
/-- For each t the set of the cells at least t has been swept k times. -/
def SatP (R C : Nat) (h : Nat → Int) (a : Nat) (f : Nat → Int) (k : Nat) : Prop := ∀ t, Sat (R * C) (nearL R C) (fun x => x = a ∧ t ≤ h x) (fun x => t ≤ h x) (fun i => decide (t ≤ f i)) k
theorem SatP.zero (f : Nat → Int) : SatP R C h a f 0 := fun _ => Sat.zero _
theorem SatP.next {f0 f : Nat → Int} {k : Nat} (H : SatP R C h a f0 k) (hb : h a ≤ f0 a) (S : SwpP R C h a f0 f (R * C) 0) : SatP R C h a f (k + 1) := fun t =>
  (H t).next (fun i hi hs => decide_eq_true (by have h2 := hs.2; rw [hs.1] at h2 ⊢; omega)) (fun i hi hs => decide_eq_true (by have := S.ge i hi; have := of_decide_eq_true hs; omega))
    (fun i j hi ho hj hs => decide_eq_true (by have := S.done i hi hi j hj; have := of_decide_eq_true hs; have ho : t ≤ h i := ho; omega))
theorem pass_of_sat {f : Nat → Int} (hs : SndP R C h a f) (H : SatP R C h a f (R * C)) : PassF R C h a f := fun i hi t => ⟨hs i hi t, fun e => of_decide_eq_true ((H t).done i e)⟩

/-- A search by the highest pass: the passes that are known, the steps that are open. -/
structure Dij (R C : Nat) (h : Nat → Int) (a : Nat) (known : Nat → Int) (op : Nat → Int → Prop) : Prop where
  kn : ∀ x, x < R * C → known x = -1 ∨ (0 ≤ known x ∧ ∀ t, t ≤ known x ↔ LnkT R C h t x a)
  it : ∀ c p, op c p → c < R * C ∧ 0 ≤ p ∧ LnkT R C h p c a
  fr : ∀ u j, u < R * C → 0 ≤ known u → j ∈ nearL R C u → known j < 0 → ∃ p, op j p ∧ min (known u) (h j) ≤ p
  st : known a < 0 → op a (h a)
/-- The same, while the neighbors of the cell c are looked at. -/
structure DijAt (R C : Nat) (h : Nat → Int) (a : Nat) (known : Nat → Int) (op : Nat → Int → Prop) (c m : Nat) : Prop where
  kn : ∀ x, x < R * C → known x = -1 ∨ (0 ≤ known x ∧ ∀ t, t ≤ known x ↔ LnkT R C h t x a)
  it : ∀ c p, op c p → c < R * C ∧ 0 ≤ p ∧ LnkT R C h p c a
  fr : ∀ u j, u < R * C → u ≠ c → 0 ≤ known u → j ∈ nearL R C u → known j < 0 → ∃ p, op j p ∧ min (known u) (h j) ≤ p
  now : ∀ q, q < m → q < (nearL R C c).length → known ((nearL R C c).getD q 0) < 0 → ∃ p, op ((nearL R C c).getD q 0) p ∧ min (known c) (h ((nearL R C c).getD q 0)) ≤ p
  st : known a < 0 → op a (h a)
  at_ : c < R * C ∧ 0 ≤ known c

theorem Dij.start (hh : ∀ i, i < R * C → 0 ≤ h i) (ha : a < R * C) {op : Nat → Int → Prop} (hop : ∀ c p, op c p ↔ c = a ∧ p = h a) : Dij R C h a (fun _ => -1) op :=
  ⟨fun _ _ => .inl rfl, fun c p hcp => by
    obtain ⟨rfl, rfl⟩ := (hop c p).1 hcp
    exact ⟨ha, hh _ ha, Lnk.refl ha (Int.le_refl _)⟩, fun u j _ h0 => absurd h0 (by omega), fun _ => (hop a (h a)).2 ⟨rfl, rfl⟩⟩
/-- The step that is taken leads to a known cell. -/
theorem Dij.skip {known : Nat → Int} {op op' : Nat → Int → Prop} {c : Nat} {p : Int} (H : Dij R C h a known op) (hk : 0 ≤ known c) (h1 : ∀ x y, op x y → op' x y ∨ (x = c ∧ y = p)) (h2 : ∀ x y, op' x y → op x y) : Dij R C h a known op' :=
  ⟨H.kn, fun x y hxy => H.it x y (h2 x y hxy), fun u j hu h0 hj hn => by
    obtain ⟨q, hq, hle⟩ := H.fr u j hu h0 hj hn
    rcases h1 j q hq with h | h
    · exact ⟨q, h, hle⟩
    · rw [h.1] at hn; omega, fun hn => by
    rcases h1 _ _ (H.st hn) with h | h
    · exact h
    · rw [h.1] at hn; omega⟩
/-- The step that is taken, the highest of all, leads to a cell that is known from now on. -/
theorem Dij.take {known : Nat → Int} {op op' : Nat → Int → Prop} {c : Nat} {p : Int} (H : Dij R C h a known op) (hk : known c < 0) (hop : op c p) (hmax : ∀ x y, op x y → y ≤ p) (h1 : ∀ x y, op x y → op' x y ∨ (x = c ∧ y = p)) (h2 : ∀ x y, op' x y → op x y) :
    DijAt R C h a (upd known c p) op' c 0 := by
  obtain ⟨hc, hp0, hl⟩ := H.it c p hop
  have exact_ : ∀ t, t ≤ p ↔ LnkT R C h t c a := fun t => by
    refine ⟨fun ht => hl.mono ht, fun e => ?_⟩
    have key : LnkT R C h t c a ∧ (0 ≤ known c ∨ ∃ x y, op x y ∧ t ≤ y) := by
      refine e (fun x => LnkT R C h t x a ∧ (0 ≤ known x ∨ ∃ x y, op x y ∧ t ≤ y)) (fun x hx hs => ?_) (fun x y hx ho hy hp => ?_)
      · obtain ⟨e1, e2⟩ := hs
        subst e1
        refine ⟨Lnk.refl hx e2, ?_⟩
        by_cases hn : known x < 0
        · exact .inr ⟨x, h x, H.st hn, e2⟩
        · exact .inl (by omega)
      · obtain ⟨hl', hp⟩ := hp
        have hlx : LnkT R C h t x a := Lnk.edge hx ho hy hl'
        refine ⟨hlx, ?_⟩
        rcases hp with hp | hp
        · by_cases hn : known x < 0
          · have hyN := nearL_lt hx hy
            obtain ⟨q, hq, hle⟩ := H.fr y x hyN hp (nearL_symm hx hy) hn
            have hty : t ≤ known y := by
              rcases H.kn y hyN with h | h
              · omega
              · exact (h.2 t).2 hl'
            have ho : t ≤ h x := ho
            exact .inr ⟨x, q, hq, by omega⟩
          · exact .inl (by omega)
        · exact .inr hp
    rcases key.2 with h0 | ⟨x, y, hxy, hty⟩
    · omega
    · have := hmax x y hxy; omega
  refine ⟨fun x hx => ?_, fun x y hxy => H.it x y (h2 x y hxy), fun u j hu hne h0 hj hn => ?_, fun q hq => absurd hq (Nat.not_lt_zero _), fun hn => ?_, hc, by rw [upd_at]; exact hp0⟩
  · by_cases e : x = c
    · subst e; rw [upd_at]; exact .inr ⟨hp0, exact_⟩
    · rw [upd_ne _ _ e]; exact H.kn x hx
  · rw [upd_ne _ _ hne] at h0 ⊢
    by_cases e : j = c
    · subst e; rw [upd_at] at hn; omega
    · rw [upd_ne _ _ e] at hn
      obtain ⟨q, hq, hle⟩ := H.fr u j hu h0 hj hn
      rcases h1 j q hq with h | h
      · exact ⟨q, h, hle⟩
      · exact absurd h.1 e
  · by_cases e : a = c
    · subst e; rw [upd_at] at hn; omega
    · rw [upd_ne _ _ e] at hn
      rcases h1 _ _ (H.st hn) with h | h
      · exact h
      · exact absurd h.1 e
theorem DijAt.pass {known : Nat → Int} {op : Nat → Int → Prop} {c m : Nat} (H : DijAt R C h a known op c m) (hk : 0 ≤ known ((nearL R C c).getD m 0)) : DijAt R C h a known op c (m + 1) :=
  ⟨H.kn, H.it, H.fr, fun q hq hq' hn => by
    by_cases e : q = m
    · subst e; omega
    · exact H.now q (by omega) hq' hn, H.st, H.at_⟩
theorem DijAt.push {known : Nat → Int} {op op' : Nat → Int → Prop} {c m : Nat} (hh : ∀ i, i < R * C → 0 ≤ h i) (H : DijAt R C h a known op c m) (hm : m < (nearL R C c).length)
    (hop : ∀ x y, op' x y ↔ op x y ∨ (x = (nearL R C c).getD m 0 ∧ y = min (known c) (h ((nearL R C c).getD m 0)))) : DijAt R C h a known op' c (m + 1) := by
  have hmem := getD_mem hm
  obtain ⟨hc, h0⟩ := H.at_
  have hj := nearL_lt hc hmem
  have hs := nearL_symm hc hmem
  refine ⟨H.kn, fun x y hxy => ?_, fun u j hu hne h0 hj hn => ?_, fun q hq hq' hn => ?_, fun hn => (hop _ _).2 (.inl (H.st hn)), H.at_⟩
  · rcases (hop x y).1 hxy with h | ⟨e1, e2⟩
    · exact H.it x y h
    · have hjj := hh _ hj
      rw [e1, e2]
      refine ⟨hj, by omega, ?_⟩
      have hlc : LnkT R C h (known c) c a := by
        rcases H.kn c hc with h | h
        · omega
        · exact (h.2 _).1 (Int.le_refl _)
      exact Lnk.edge hj (by show min _ _ ≤ _; omega) hs (hlc.mono (by omega))
  · obtain ⟨q, hq, hle⟩ := H.fr u j hu hne h0 hj hn
    exact ⟨q, (hop _ _).2 (.inl hq), hle⟩
  · by_cases e : q = m
    · subst e; exact ⟨_, (hop _ _).2 (.inr ⟨rfl, rfl⟩), Int.le_refl _⟩
    · obtain ⟨q', hq', hle⟩ := H.now q (by omega) hq' hn
      exact ⟨q', (hop _ _).2 (.inl hq'), hle⟩
theorem DijAt.end_ {known : Nat → Int} {op : Nat → Int → Prop} {c : Nat} (H : DijAt R C h a known op c (nearL R C c).length) : Dij R C h a known op :=
  ⟨H.kn, H.it, fun u j hu h0 hj hn => by
    by_cases e : u = c
    · subst e
      obtain ⟨q, hq, e⟩ := List.getElem_of_mem hj
      have := H.now q hq hq
      rw [List.getD, List.getElem?_eq_getElem hq, Option.getD_some, e] at this
      exact this hn
    · exact H.fr u j hu e h0 hj hn, H.st⟩
theorem Dij.done {known : Nat → Int} {op : Nat → Int → Prop} (hh : ∀ i, i < R * C → 0 ≤ h i) (ha : a < R * C) (H : Dij R C h a known op) (he : ∀ x y, ¬ op x y) : PassF R C h a known := by
  have all : ∀ x, x < R * C → 0 ≤ known x := fun x hx => by
    have hl : Lnk (R * C) (nearL R C) (fun y => 0 ≤ h y) x a := grid_link hh hx ha
    refine hl (fun x => 0 ≤ known x) (fun x hx hs => ?_) (fun x y hx ho hy hp => ?_)
    · rw [hs.1]
      by_cases hn : known a < 0
      · exact absurd (H.st hn) (he _ _)
      · omega
    · by_cases hn : known x < 0
      · obtain ⟨q, hq, _⟩ := H.fr y x (nearL_lt hx hy) hp (nearL_symm hx hy) hn
        exact absurd hq (he _ _)
      · omega
  intro i hi t
  rcases H.kn i hi with h | h
  · have := all i hi; omega
  · exact h.2 t
end

/-- A heap: no item is before the one above it. -/
def HpOk (it : Nat → Int) (n : Nat) : Prop := ∀ k, 0 < k → k < n → it k ≤ it ((k - 1) / 2)
theorem HpOk.max {it : Nat → Int} {n : Nat} (H : HpOk it n) : ∀ (m k : Nat), k ≤ m → k < n → it k ≤ it 0
  | 0, k, hk, _ => by rw [show k = 0 by omega]; exact Int.le_refl _
  | m + 1, k, hk, hn => by
    by_cases e : k = 0
    · rw [e]; exact Int.le_refl _
    · have h1 := H k (by omega) hn
      have h2 := H.max m ((k - 1) / 2) (by omega) (by omega)
      omega
def swapI {α : Type} (it : Nat → α) (i j : Nat) : Nat → α := fun k => if k = i then it j else if k = j then it i else it k

/-- A heap but for the item i, which may be before the one above it. -/
structure HpUp (it : Nat → Int) (n i : Nat) : Prop where
  lt : i < n
  a : ∀ k, 0 < k → k < n → k ≠ i → it k ≤ it ((k - 1) / 2)
  b : ∀ k, 0 < k → k < n → (k - 1) / 2 = i → 0 < i → it k ≤ it ((i - 1) / 2)
theorem HpUp.stop {it : Nat → Int} {n i : Nat} (H : HpUp it n i) (h : i = 0 ∨ it i ≤ it ((i - 1) / 2)) : HpOk it n := fun k h0 hk => by
  by_cases e : k = i
  · subst e
    rcases h with h | h
    · omega
    · exact h
  · exact H.a k h0 hk e
theorem HpUp.go {it : Nat → Int} {n i : Nat} (H : HpUp it n i) (h0 : 0 < i) (hlt : it ((i - 1) / 2) < it i) : HpUp (swapI it i ((i - 1) / 2)) n ((i - 1) / 2) := by
  obtain ⟨u, hu⟩ : ∃ u, u = (i - 1) / 2 := ⟨_, rfl⟩
  rw [← hu] at hlt ⊢
  have hn := H.lt
  have hui : u < i := by omega
  refine ⟨by omega, fun k k0 kn kne => ?_, fun k k0 kn ke u0 => ?_⟩
  · unfold swapI
    by_cases e : k = i
    · subst e
      rw [if_pos rfl, if_neg (by omega), if_pos hu.symm]; omega
    · rw [if_neg e, if_neg kne]
      have ha := H.a k k0 kn e
      by_cases e1 : (k - 1) / 2 = i
      · rw [if_pos e1]
        have := H.b k k0 kn e1 h0
        rw [← hu] at this; exact this
      · rw [if_neg e1]
        by_cases e2 : (k - 1) / 2 = u
        · rw [if_pos e2]; rw [e2] at ha; omega
        · rw [if_neg e2]; exact ha
  · unfold swapI
    have hau := H.a u u0 (by omega) (by omega)
    rw [if_neg (show ¬ (u - 1) / 2 = i by omega), if_neg (show ¬ (u - 1) / 2 = u by omega)]
    by_cases e : k = i
    · rw [if_pos e]; exact hau
    · rw [if_neg e, if_neg (show ¬ k = u by omega)]
      have ha := H.a k k0 kn e
      rw [ke] at ha; omega

/-- A heap but for the item i, which may be behind those below it. -/
structure HpDn (it : Nat → Int) (n i : Nat) : Prop where
  a : ∀ k, 0 < k → k < n → (k - 1) / 2 ≠ i → it k ≤ it ((k - 1) / 2)
  b : ∀ k, 0 < k → k < n → (k - 1) / 2 = i → 0 < i → it k ≤ it ((i - 1) / 2)
theorem HpDn.stop {it : Nat → Int} {n i : Nat} (H : HpDn it n i) (h : ∀ k, k < n → k = 2 * i + 1 ∨ k = 2 * i + 2 → it k ≤ it i) : HpOk it n := fun k h0 hk => by
  by_cases e : (k - 1) / 2 = i
  · rw [e]; exact h k hk (by omega)
  · exact H.a k h0 hk e
theorem HpDn.go {it : Nat → Int} {n i j : Nat} (H : HpDn it n i) (hj : j = 2 * i + 1 ∨ j = 2 * i + 2) (hjn : j < n) (hlt : it i < it j) (h : ∀ k, k < n → k = 2 * i + 1 ∨ k = 2 * i + 2 → it k ≤ it j) : HpDn (swapI it i j) n j := by
  refine ⟨fun k k0 kn kne => ?_, fun k k0 kn ke _ => ?_⟩
  · unfold swapI
    by_cases e : k = i
    · subst e
      rw [if_pos rfl, if_neg (show ¬ (k - 1) / 2 = k by omega), if_neg kne]
      exact H.b j (by omega) hjn (by omega) k0
    · rw [if_neg e]
      by_cases e1 : k = j
      · subst e1
        rw [if_pos rfl, if_pos (by omega)]; omega
      · rw [if_neg e1, if_neg kne]
        by_cases e2 : (k - 1) / 2 = i
        · rw [if_pos e2]; exact h k kn (by omega)
        · rw [if_neg e2]; exact H.a k k0 kn e2
  · unfold swapI
    rw [if_neg (show ¬ k = i by omega), if_neg (show ¬ k = j by omega), if_pos (show (j - 1) / 2 = i by omega)]
    have := H.a k k0 kn (by omega)
    rw [ke] at this; exact this

theorem swapI_mem {α : Type} {it : Nat → α} {n i j : Nat} (hi : i < n) (hj : j < n) (x : α) : (∃ k, k < n ∧ swapI it i j k = x) ↔ ∃ k, k < n ∧ it k = x := by
  unfold swapI
  constructor
  · rintro ⟨k, hk, e⟩
    by_cases e1 : k = i
    · rw [if_pos e1] at e; exact ⟨j, hj, e⟩
    · rw [if_neg e1] at e
      by_cases e2 : k = j
      · rw [if_pos e2] at e; exact ⟨i, hi, e⟩
      · rw [if_neg e2] at e; exact ⟨k, hk, e⟩
  · rintro ⟨k, hk, e⟩
    by_cases e1 : k = i
    · subst e1
      by_cases e2 : j = k
      · subst e2; exact ⟨j, hj, by rw [if_pos rfl]; exact e⟩
      · exact ⟨j, hj, by rw [if_neg e2, if_pos rfl]; exact e⟩
    · by_cases e2 : k = j
      · exact ⟨i, hi, by rw [if_pos rfl, ← e2]; exact e⟩
      · exact ⟨k, hk, by rw [if_neg e1, if_neg e2]; exact e⟩

end Go.Proofs.Ytgekjhmjjjkibaa
