/- Plain words: cells linked over cells that are ok; the least cell of each set of linked cells, and the sets' numbers; a search; a forest of roots. -/
import Derived.Test.YtgekjhmjjjkibaaPlC
namespace Go.Proofs.Ytgekjhmjjjkibaa
set_option linter.unusedVariables false
set_option linter.unusedSimpArgs false

/-- Two cells are linked over cells that are ok, both ends included. -/
def Lnk (N : Nat) (near : Nat → List Nat) (ok : Nat → Prop) (i j : Nat) : Prop := Con N near (fun x => x = j ∧ ok x) ok i
/-- Neighbors are mutual, and are cells. -/
def Mut (N : Nat) (near : Nat → List Nat) : Prop := ∀ i j, i < N → j ∈ near i → j < N ∧ i ∈ near j

section
variable {N : Nat} {near : Nat → List Nat} {ok : Nat → Prop}

theorem Lnk.refl {i : Nat} (hi : i < N) (ho : ok i) : Lnk N near ok i i := Con.start hi ⟨rfl, ho⟩
theorem Lnk.lt {i j : Nat} (h : Lnk N near ok i j) : i < N := Con.lt h
theorem Lnk.fit {i j : Nat} (h : Lnk N near ok i j) : ok i := Con.ok_of h fun _ _ hs => hs.2
theorem Lnk.edge {i j k : Nat} (hi : i < N) (ho : ok i) (hj : j ∈ near i) (h : Lnk N near ok j k) : Lnk N near ok i k := Con.step hi ho hj h
theorem Lnk.trans {i j k : Nat} (h : Lnk N near ok i j) (h' : Lnk N near ok j k) : Lnk N near ok i k :=
  h (fun x => Lnk N near ok x k) (fun _ _ hs => by rw [hs.1]; exact h') (fun _ _ hi ho hj hp => hp.edge hi ho hj)
theorem Lnk.snoc {i j k : Nat} (h : Lnk N near ok i j) (hk : k ∈ near j) (hkN : k < N) (ho : ok k) : Lnk N near ok i k :=
  h (fun x => Lnk N near ok x k) (fun x hx hs => by rw [hs.1] at hx ⊢; exact (Lnk.refl hkN ho).edge hx (by rw [← hs.1]; exact hs.2) hk) (fun _ _ hi ho hj hp => hp.edge hi ho hj)
theorem Lnk.symm (hm : Mut N near) {i j : Nat} (h : Lnk N near ok i j) : Lnk N near ok j i :=
  h (fun x => Lnk N near ok j x) (fun x hx hs => by have := hs.1; subst this; exact Lnk.refl hx hs.2) (fun x y hx ho hy hp => hp.snoc (hm x y hx hy).2 hx ho)
theorem Lnk.lt2 (hm : Mut N near) {i j : Nat} (h : Lnk N near ok i j) : j < N := (h.symm hm).lt
theorem Lnk.fit2 (hm : Mut N near) {i j : Nat} (h : Lnk N near ok i j) : ok j := (h.symm hm).fit
theorem Lnk.mono {ok' : Nat → Prop} {i j : Nat} (h : Lnk N near ok i j) (hh : ∀ i, i < N → ok i → ok' i) : Lnk N near ok' i j :=
  Con.mono h (fun i hi hs => ⟨hs.1, hh i hi hs.2⟩) hh

/-- The least cell of a set of linked cells. -/
def Rep (N : Nat) (near : Nat → List Nat) (ok : Nat → Prop) (i : Nat) : Prop := i < N ∧ ok i ∧ ∀ j, j < i → ¬ Lnk N near ok j i
noncomputable def repB (N : Nat) (near : Nat → List Nat) (ok : Nat → Prop) (i : Nat) : Bool := @decide (Rep N near ok i) (Classical.propDecidable _)
theorem repB_iff {i : Nat} : repB N near ok i = true ↔ Rep N near ok i := @decide_eq_true_iff _ (Classical.propDecidable _)
theorem repB_no {i : Nat} (h : ¬ Rep N near ok i) : repB N near ok i = false := by
  cases e : repB N near ok i
  · rfl
  · exact absurd (repB_iff.1 e) h

theorem rep_exists (hm : Mut N near) : ∀ (k i : Nat), i ≤ k → i < N → ok i → ∃ r, r ≤ i ∧ Rep N near ok r ∧ Lnk N near ok r i
  | 0, i, hk, hi, ho => ⟨i, Nat.le_refl _, ⟨hi, ho, fun j hj => by omega⟩, Lnk.refl hi ho⟩
  | k + 1, i, hk, hi, ho => by
    by_cases h : ∃ j, j < i ∧ Lnk N near ok j i
    · obtain ⟨j, hj, hl⟩ := h
      obtain ⟨r, hr, hrep, hrl⟩ := rep_exists hm k j (by omega) hl.lt hl.fit
      exact ⟨r, by omega, hrep, hrl.trans hl⟩
    · exact ⟨i, Nat.le_refl _, ⟨hi, ho, fun j hj hl => h ⟨j, hj, hl⟩⟩, Lnk.refl hi ho⟩
theorem rep_unique (hm : Mut N near) {r r' i : Nat} (h : Rep N near ok r) (h' : Rep N near ok r') (hl : Lnk N near ok r i) (hl' : Lnk N near ok r' i) : r = r' := by
  have h1 := hl.trans (hl'.symm hm)
  rcases Nat.lt_trichotomy r r' with h0 | h0 | h0
  · exact absurd h1 (h'.2.2 r h0)
  · exact h0
  · exact absurd (h1.symm hm) (h.2.2 r' h0)

/-- The number of the cell's set. -/
def NumIs (N : Nat) (near : Nat → List Nat) (ok : Nat → Prop) (i : Nat) (v : Int) : Prop :=
  (¬ ok i ∧ v = -1) ∨ (ok i ∧ ∃ r, Rep N near ok r ∧ Lnk N near ok r i ∧ v = cnt (repB N near ok) r)
theorem NumIs.unique (hm : Mut N near) {i : Nat} {v v' : Int} (h : NumIs N near ok i v) (h' : NumIs N near ok i v') : v = v' := by
  rcases h with ⟨h1, h2⟩ | ⟨h1, r, h2, h3, h4⟩ <;> rcases h' with ⟨g1, g2⟩ | ⟨g1, s, g2, g3, g4⟩
  · omega
  · exact absurd g1 h1
  · exact absurd h1 g1
  · rw [h4, g4, rep_unique hm h2 g2 h3 g3]
noncomputable def numV (N : Nat) (near : Nat → List Nat) (ok : Nat → Prop) (i : Nat) : Int := Classical.epsilon (NumIs N near ok i)
theorem NumIs.eq (hm : Mut N near) {i : Nat} {v : Int} (h : NumIs N near ok i v) : v = numV N near ok i :=
  h.unique hm (Classical.epsilon_spec (p := NumIs N near ok i) ⟨v, h⟩)
theorem numV_is (hm : Mut N near) {i : Nat} (hi : i < N) : NumIs N near ok i (numV N near ok i) := by
  by_cases ho : ok i
  · obtain ⟨r, _, h1, h2⟩ := rep_exists hm i i (Nat.le_refl _) hi ho
    exact Classical.epsilon_spec (p := NumIs N near ok i) ⟨_, .inr ⟨ho, r, h1, h2, rfl⟩⟩
  · exact Classical.epsilon_spec (p := NumIs N near ok i) ⟨-1, .inl ⟨ho, rfl⟩⟩

/-- Only the cells whose least linked cell is before k have a number. -/
def Lab (N : Nat) (near : Nat → List Nat) (ok : Nat → Prop) (k : Nat) (out : Nat → Int) : Prop :=
  ∀ x, x < N → (∃ r, r < k ∧ Rep N near ok r ∧ Lnk N near ok r x ∧ out x = cnt (repB N near ok) r) ∨ ((¬ ∃ r, r < k ∧ Rep N near ok r ∧ Lnk N near ok r x) ∧ out x = -1)

theorem Lab.zero : Lab N near ok 0 (fun _ => -1) := fun _ _ => .inr ⟨fun ⟨r, hr, _⟩ => absurd hr (Nat.not_lt_zero r), rfl⟩
theorem Lab.nonneg {k : Nat} {out : Nat → Int} (H : Lab N near ok k out) {x : Nat} (hx : x < N) : 0 ≤ out x ↔ ∃ r, r < k ∧ Rep N near ok r ∧ Lnk N near ok r x := by
  rcases H x hx with ⟨r, h1, h2, h3, h4⟩ | ⟨h1, h2⟩
  · exact ⟨fun _ => ⟨r, h1, h2, h3⟩, fun _ => by omega⟩
  · exact ⟨fun h => by omega, fun h => absurd h h1⟩
/-- The cell is not the least of its set: nothing changes. -/
theorem Lab.skip {k : Nat} {out : Nat → Int} (H : Lab N near ok k out) (hn : ¬ Rep N near ok k) : Lab N near ok (k + 1) out ∧ cnt (repB N near ok) (k + 1) = cnt (repB N near ok) k := by
  refine ⟨fun x hx => ?_, by simp only [cnt]; rw [repB_no hn]; simp⟩
  rcases H x hx with ⟨r, h1, h2, h3, h4⟩ | ⟨h1, h2⟩
  · exact .inl ⟨r, by omega, h2, h3, h4⟩
  · refine .inr ⟨fun ⟨r, g1, g2, g3⟩ => ?_, h2⟩
    by_cases e : r = k
    · subst e; exact hn g2
    · exact h1 ⟨r, by omega, g2, g3⟩
theorem Lab.isRep (hm : Mut N near) {k : Nat} {out : Nat → Int} (H : Lab N near ok k out) (hk : k < N) (ho : ok k) (hu : out k < 0) : Rep N near ok k := by
  refine ⟨hk, ho, fun j hj hl => ?_⟩
  obtain ⟨r, h1, h2, h3⟩ := rep_exists hm j j (Nat.le_refl _) hl.lt hl.fit
  have := (H.nonneg hk).2 ⟨r, by omega, h2, h3.trans hl⟩
  omega
theorem Lab.notRep {k : Nat} {out : Nat → Int} (H : Lab N near ok k out) (hk : k < N) (hu : 0 ≤ out k) : ¬ Rep N near ok k := by
  obtain ⟨r, h1, _, h3⟩ := (H.nonneg hk).1 hu
  exact fun h => h.2.2 r h1 h3
/-- All cells that are linked to k, and only these, have got k's number. -/
theorem Lab.add (hm : Mut N near) {k : Nat} {out out' : Nat → Int} (H : Lab N near ok k out) (hr : Rep N near ok k) (h1 : ∀ x, x < N → Lnk N near ok x k → out' x = cnt (repB N near ok) k) (h2 : ∀ x, x < N → ¬ Lnk N near ok x k → out' x = out x) :
    Lab N near ok (k + 1) out' ∧ cnt (repB N near ok) (k + 1) = cnt (repB N near ok) k + 1 := by
  refine ⟨fun x hx => ?_, by simp only [cnt]; rw [repB_iff.2 hr]; simp⟩
  by_cases hl : Lnk N near ok x k
  · exact .inl ⟨k, by omega, hr, hl.symm hm, h1 x hx hl⟩
  · rw [h2 x hx hl]
    rcases H x hx with ⟨r, g1, g2, g3, g4⟩ | ⟨g1, g2⟩
    · exact .inl ⟨r, by omega, g2, g3, g4⟩
    · refine .inr ⟨fun ⟨r, q1, q2, q3⟩ => ?_, g2⟩
      by_cases e : r = k
      · subst e; exact hl (q3.symm hm)
      · exact g1 ⟨r, by omega, q2, q3⟩
theorem Lab.fresh {k : Nat} {out : Nat → Int} (H : Lab N near ok k out) (hr : Rep N near ok k) {x : Nat} (hx : Lnk N near ok x k) : out x = -1 := by
  rcases H x hx.lt with ⟨r, g1, g2, g3, g4⟩ | ⟨g1, g2⟩
  · exact absurd (g3.trans hx) (hr.2.2 r g1)
  · exact g2
theorem Lab.done (hm : Mut N near) {out : Nat → Int} (H : Lab N near ok N out) {x : Nat} (hx : x < N) : out x = numV N near ok x := by
  refine NumIs.eq hm ?_
  rcases H x hx with ⟨r, g1, g2, g3, g4⟩ | ⟨g1, g2⟩
  · exact .inr ⟨g3.fit2 hm, r, g2, g3, g4⟩
  · refine .inl ⟨fun ho => ?_, g2⟩
    obtain ⟨r, h0, h1, h2⟩ := rep_exists hm x x (Nat.le_refl _) hx ho
    exact g1 ⟨r, by omega, h1, h2⟩

/-- A search from s: the cells with a mark; T: those that are to be looked at. -/
structure Srch (N : Nat) (near : Nat → List Nat) (ok : Nat → Prop) (s : Nat) (mark : Nat → Bool) (T : Nat → Prop) : Prop where
  snd : ∀ y, mark y = true → Lnk N near ok y s
  start : mark s = true
  tod : ∀ y, T y → mark y = true
  cls : ∀ y, mark y = true → T y ∨ ∀ z, z ∈ near y → ok z → mark z = true
/-- The same, while the cell x is looked at: m of its neighbors are done. -/
structure SrchAt (N : Nat) (near : Nat → List Nat) (ok : Nat → Prop) (s : Nat) (mark : Nat → Bool) (T : Nat → Prop) (x m : Nat) : Prop where
  snd : ∀ y, mark y = true → Lnk N near ok y s
  start : mark s = true
  tod : ∀ y, T y → mark y = true
  cls : ∀ y, mark y = true → T y ∨ y = x ∨ ∀ z, z ∈ near y → ok z → mark z = true
  at_ : mark x = true
  now : ∀ q, q < m → q < (near x).length → ok ((near x).getD q 0) → mark ((near x).getD q 0) = true

def setB (p : Nat → Bool) (i : Nat) : Nat → Bool := fun j => if j = i then true else p j
theorem setB_at (p : Nat → Bool) (i : Nat) : setB p i i = true := if_pos rfl
theorem setB_ne (p : Nat → Bool) {i j : Nat} (hj : j ≠ i) : setB p i j = p j := if_neg hj
theorem setB_of {p : Nat → Bool} {i j : Nat} (h : p j = true) : setB p i j = true := by unfold setB; split <;> simp [h]
theorem of_setB {p : Nat → Bool} {i j : Nat} (h : setB p i j = true) : j = i ∨ p j = true := by
  unfold setB at h
  by_cases e : j = i
  · exact .inl e
  · rw [if_neg e] at h; exact .inr h
theorem cnt_setB {p : Nat → Bool} {i : Nat} (hp : p i = false) : ∀ {k : Nat}, i < k → cnt (setB p i) k = cnt p k + 1
  | 0, h => by omega
  | k + 1, h => by
    by_cases e : i = k
    · subst e
      have : cnt (setB p i) i = cnt p i := cnt_congr fun j hj => setB_ne p (by omega)
      simp only [cnt]
      rw [this, setB_at, hp]; simp
    · have := cnt_setB hp (k := k) (by omega)
      simp only [cnt]
      rw [this, setB_ne p (show k ≠ i by omega)]; omega

theorem Srch.new {s : Nat} {mark : Nat → Bool} {T : Nat → Prop} (hs : s < N) (ho : ok s) (h1 : ∀ y, mark y = true ↔ y = s) (h2 : ∀ y, T y ↔ y = s) : Srch N near ok s mark T :=
  ⟨fun y hy => by rw [(h1 y).1 hy]; exact Lnk.refl hs ho, (h1 s).2 rfl, fun y hy => (h1 y).2 ((h2 y).1 hy), fun y hy => .inl ((h2 y).2 ((h1 y).1 hy))⟩
theorem Srch.take {s : Nat} {mark : Nat → Bool} {T T' : Nat → Prop} {x : Nat} (H : Srch N near ok s mark T) (hx : T x) (h1 : ∀ y, T y → T' y ∨ y = x) (h2 : ∀ y, T' y → T y) : SrchAt N near ok s mark T' x 0 :=
  ⟨H.snd, H.start, fun y hy => H.tod y (h2 y hy), fun y hy => by
    rcases H.cls y hy with h | h
    · rcases h1 y h with h | h
      · exact .inl h
      · exact .inr (.inl h)
    · exact .inr (.inr h), H.tod x hx, fun _ hq => absurd hq (Nat.not_lt_zero _)⟩
/-- The next neighbor has a mark, or is not ok. -/
theorem SrchAt.pass {s : Nat} {mark : Nat → Bool} {T : Nat → Prop} {x m : Nat} (H : SrchAt N near ok s mark T x m) (h : ok ((near x).getD m 0) → mark ((near x).getD m 0) = true) : SrchAt N near ok s mark T x (m + 1) :=
  ⟨H.snd, H.start, H.tod, H.cls, H.at_, fun q hq hq' ho => by
    by_cases e : q = m
    · subst e; exact h ho
    · exact H.now q (by omega) hq' ho⟩
/-- The next neighbor gets a mark. -/
theorem SrchAt.mark (hm : Mut N near) {s : Nat} {mark : Nat → Bool} {T T' : Nat → Prop} {x m : Nat} (H : SrchAt N near ok s mark T x m) (hml : m < (near x).length) (ho : ok ((near x).getD m 0)) (hT : ∀ y, T' y ↔ T y ∨ y = (near x).getD m 0) :
    SrchAt N near ok s (setB mark ((near x).getD m 0)) T' x (m + 1) := by
  have hmem : (near x).getD m 0 ∈ near x := by
    rw [List.getD, List.getElem?_eq_getElem hml]; exact List.getElem_mem _
  have hxl := H.snd x H.at_
  have hmu := hm x _ hxl.lt hmem
  refine ⟨fun y hy => ?_, setB_of H.start, fun y hy => ?_, fun y hy => ?_, setB_of H.at_, fun q hq hq' hoq => ?_⟩
  · rcases of_setB hy with h | h
    · rw [h]; exact hxl.edge hmu.1 ho hmu.2
    · exact H.snd y h
  · rcases (hT y).1 hy with h | h
    · exact setB_of (H.tod y h)
    · rw [h]; exact setB_at _ _
  · rcases of_setB hy with h | h
    · exact .inl ((hT y).2 (.inr h))
    · rcases H.cls y h with h | h | h
      · exact .inl ((hT y).2 (.inl h))
      · exact .inr (.inl h)
      · exact .inr (.inr fun z hz hoz => setB_of (h z hz hoz))
  · by_cases e : q = m
    · subst e; exact setB_at _ _
    · exact setB_of (H.now q (by omega) hq' hoq)
theorem SrchAt.end_ {s : Nat} {mark : Nat → Bool} {T : Nat → Prop} {x : Nat} (H : SrchAt N near ok s mark T x (near x).length) : Srch N near ok s mark T :=
  ⟨H.snd, H.start, H.tod, fun y hy => by
    rcases H.cls y hy with h | h | h
    · exact .inl h
    · subst h
      refine .inr fun z hz hoz => ?_
      obtain ⟨q, hq, e⟩ := List.getElem_of_mem hz
      have := H.now q hq hq
      rw [List.getD, List.getElem?_eq_getElem hq] at this
      simp only [Option.getD_some, e] at this
      exact this hoz
    · exact .inr h⟩
theorem Srch.done (hm : Mut N near) {s : Nat} {mark : Nat → Bool} {T : Nat → Prop} (H : Srch N near ok s mark T) (hT : ∀ y, ¬ T y) {y : Nat} : mark y = true ↔ Lnk N near ok y s :=
  ⟨H.snd y, fun h => h (fun y => mark y = true) (fun y _ hs => by rw [hs.1]; exact H.start) (fun y z hy ho hz hp => by
    rcases H.cls z hp with h | h
    · exact absurd h (hT z)
    · exact h y (hm y z hy hz).2 ho)⟩

/-- The roots: rho i is the root of i's tree. -/
def RootOf (N : Nat) (up rho : Nat → Nat) : Prop := ∀ i, i < N → up i ≤ i ∧ (up i = i → rho i = i) ∧ (up i ≠ i → rho i = rho (up i))
def updN (f : Nat → Nat) (i v : Nat) : Nat → Nat := fun j => if j = i then v else f j
theorem updN_at (f : Nat → Nat) (i v : Nat) : updN f i v i = v := if_pos rfl
theorem updN_ne (f : Nat → Nat) {i j : Nat} (v : Nat) (hj : j ≠ i) : updN f i v j = f j := if_neg hj

theorem RootOf.new : RootOf N (fun i => i) (fun i => i) := fun _ _ => ⟨Nat.le_refl _, fun _ => rfl, fun h => absurd rfl h⟩
theorem RootOf.le {up rho : Nat → Nat} (H : RootOf N up rho) : ∀ (k i : Nat), i ≤ k → i < N → rho i ≤ i ∧ up (rho i) = rho i ∧ rho (rho i) = rho i
  | 0, i, hk, hi => by
    have h0 : i = 0 := by omega
    subst h0
    obtain ⟨h1, h2, _⟩ := H 0 hi
    have e : up 0 = 0 := by omega
    rw [h2 e]; exact ⟨Nat.le_refl _, e, h2 e⟩
  | k + 1, i, hk, hi => by
    obtain ⟨h1, h2, h3⟩ := H i hi
    by_cases e : up i = i
    · rw [h2 e]; exact ⟨Nat.le_refl _, e, h2 e⟩
    · have := H.le k (up i) (by omega) (by omega)
      rw [h3 e]; exact ⟨by omega, this.2⟩
theorem RootOf.root_le {up rho : Nat → Nat} (H : RootOf N up rho) {i : Nat} (hi : i < N) : rho i ≤ i := (H.le i i (Nat.le_refl _) hi).1
theorem RootOf.root_up {up rho : Nat → Nat} (H : RootOf N up rho) {i : Nat} (hi : i < N) : up (rho i) = rho i := (H.le i i (Nat.le_refl _) hi).2.1
theorem RootOf.root_root {up rho : Nat → Nat} (H : RootOf N up rho) {i : Nat} (hi : i < N) : rho (rho i) = rho i := (H.le i i (Nat.le_refl _) hi).2.2
theorem RootOf.halve {up rho : Nat → Nat} (H : RootOf N up rho) {i : Nat} (hi : i < N) (hn : up i ≠ i) : RootOf N (updN up i (up (up i))) rho ∧ rho (up (up i)) = rho i ∧ up (up i) < i := by
  obtain ⟨h1, _, h3⟩ := H i hi
  obtain ⟨g1, g2, g3⟩ := H (up i) (by omega)
  have hr : rho (up (up i)) = rho i := by
    rw [h3 hn]
    by_cases e : up (up i) = up i
    · rw [e]
    · exact (g3 e).symm
  refine ⟨fun j hj => ?_, hr, by omega⟩
  by_cases e : j = i
  · subst e
    rw [updN_at]
    exact ⟨by omega, fun h => by omega, fun _ => hr.symm⟩
  · rw [updN_ne _ _ e]; exact H j hj

def joinR (rho : Nat → Nat) (lo hi : Nat) : Nat → Nat := fun j => if rho j = hi then lo else rho j
theorem RootOf.join {up rho : Nat → Nat} (H : RootOf N up rho) {lo hi : Nat} (hl : lo ≤ hi) (hh : hi < N) (h1 : rho lo = lo) (h2 : rho hi = hi) : RootOf N (updN up hi lo) (joinR rho lo hi) := by
  intro j hj
  obtain ⟨g1, g2, g3⟩ := H j hj
  unfold joinR
  by_cases e : j = hi
  · subst e
    rw [updN_at]
    refine ⟨hl, fun e => ?_, fun e => ?_⟩
    · rw [h2, if_pos rfl]; exact e
    · rw [h2, if_pos rfl, h1, if_neg e]
  · rw [updN_ne _ _ e]
    refine ⟨g1, fun e' => ?_, fun e' => ?_⟩
    · rw [g2 e', if_neg e]
    · rw [g3 e']

/-- The roots link only what is linked; the neighbors of the cells before x, and the first m of x, are joined. -/
structure Joins (N : Nat) (near : Nat → List Nat) (ok : Nat → Prop) (rho : Nat → Nat) (x m : Nat) : Prop where
  snd : ∀ i j, i < N → j < N → rho i = rho j → i = j ∨ Lnk N near ok i j
  done : ∀ i j, i < x → i < N → j ∈ near i → ok i → ok j → rho i = rho j
  now : ∀ q, q < m → q < (near x).length → ok x → ok ((near x).getD q 0) → rho x = rho ((near x).getD q 0)

theorem Joins.start : Joins N near ok (fun i => i) 0 0 := ⟨fun _ _ _ _ h => .inl h, fun _ _ h => absurd h (Nat.not_lt_zero _), fun _ h => absurd h (Nat.not_lt_zero _)⟩
theorem Joins.pass {rho : Nat → Nat} {x m : Nat} (H : Joins N near ok rho x m) (h : ¬ (ok x ∧ ok ((near x).getD m 0))) : Joins N near ok rho x (m + 1) :=
  ⟨H.snd, H.done, fun q hq hq' h1 h2 => by
    by_cases e : q = m
    · subst e; exact absurd ⟨h1, h2⟩ h
    · exact H.now q (by omega) hq' h1 h2⟩
theorem joinR_eq {rho : Nat → Nat} {lo hi i j : Nat} (h : rho i = rho j) : joinR rho lo hi i = joinR rho lo hi j := by unfold joinR; rw [h]
theorem Joins.join (hm : Mut N near) {rho : Nat → Nat} {x m : Nat} (H : Joins N near ok rho x m) (hx : x < N) (hml : m < (near x).length) (h1 : ok x) (h2 : ok ((near x).getD m 0)) {lo top : Nat}
    (hh : (lo = rho x ∧ top = rho ((near x).getD m 0)) ∨ (top = rho x ∧ lo = rho ((near x).getD m 0))) : Joins N near ok (joinR rho lo top) x (m + 1) := by
  have hmem : (near x).getD m 0 ∈ near x := by
    rw [List.getD, List.getElem?_eq_getElem hml]; exact List.getElem_mem _
  obtain ⟨y, hy⟩ : ∃ y, y = (near x).getD m 0 := ⟨_, rfl⟩
  rw [← hy] at hmem h2 hh
  have hmu := hm x y hx hmem
  have hxy : Lnk N near ok x y := (Lnk.refl hmu.1 h2).edge hx h1 hmem
  have toX : ∀ i, i < N → rho i = rho x → Lnk N near ok i x := fun i hi e => by
    rcases H.snd i x hi hx e with h | h
    · rw [h]; exact Lnk.refl hx h1
    · exact h
  have toY : ∀ i, i < N → rho i = rho y → Lnk N near ok i y := fun i hi e => by
    rcases H.snd i y hi hmu.1 e with h | h
    · rw [h]; exact Lnk.refl hmu.1 h2
    · exact h
  refine ⟨fun i j hi hj e => ?_, fun i j hi hi' hj g1 g2 => joinR_eq (H.done i j hi hi' hj g1 g2), fun q hq hq' g1 g2 => ?_⟩
  · unfold joinR at e
    by_cases a : rho i = top <;> by_cases b : rho j = top
    · exact H.snd i j hi hj (by omega)
    · rw [if_pos a, if_neg b] at e
      rcases hh with ⟨e1, e2⟩ | ⟨e1, e2⟩
      · exact .inr ((toY i hi (by omega)).trans ((hxy.symm hm).trans ((toX j hj (by omega)).symm hm)))
      · exact .inr ((toX i hi (by omega)).trans (hxy.trans ((toY j hj (by omega)).symm hm)))
    · rw [if_neg a, if_pos b] at e
      rcases hh with ⟨e1, e2⟩ | ⟨e1, e2⟩
      · exact .inr ((toX i hi (by omega)).trans (hxy.trans ((toY j hj (by omega)).symm hm)))
      · exact .inr ((toY i hi (by omega)).trans ((hxy.symm hm).trans ((toX j hj (by omega)).symm hm)))
    · rw [if_neg a, if_neg b] at e; exact H.snd i j hi hj e
  · by_cases e : q = m
    · subst e
      rw [← hy]
      unfold joinR
      rcases hh with ⟨e1, e2⟩ | ⟨e1, e2⟩
      · rw [if_pos (show rho y = top from e2.symm)]; split <;> omega
      · rw [if_pos (show rho x = top from e1.symm)]; split <;> omega
    · exact joinR_eq (H.now q (by omega) hq' g1 g2)
theorem Joins.next {rho : Nat → Nat} {x : Nat} (H : Joins N near ok rho x (near x).length) : Joins N near ok rho (x + 1) 0 := by
  refine ⟨H.snd, fun i j hi hi' hj h1 h2 => ?_, fun _ h => absurd h (Nat.not_lt_zero _)⟩
  by_cases e : i = x
  · subst e
    obtain ⟨q, hq, e⟩ := List.getElem_of_mem hj
    have := H.now q hq hq h1
    rw [List.getD, List.getElem?_eq_getElem hq] at this
    simp only [Option.getD_some, e] at this
    exact this h2
  · exact H.done i j (by omega) hi' hj h1 h2
theorem Joins.iff {rho : Nat → Nat} (H : Joins N near ok rho N 0) {i j : Nat} (hi : i < N) (hj : j < N) (hoi : ok i) : Lnk N near ok i j ↔ ok j ∧ rho i = rho j := by
  constructor
  · intro h
    refine (h (fun x => ok x ∧ ok j ∧ rho x = rho j) (fun x _ hs => ?_) (fun x y hx ho hy hp => ?_)).2
    · have := hs.1; subst this; exact ⟨hs.2, hs.2, rfl⟩
    · exact ⟨ho, hp.2.1, (H.done x y hx hx hy ho hp.1).trans hp.2.2⟩
  · rintro ⟨_, e⟩
    rcases H.snd i j hi hj e with h | h
    · rw [← h]; exact Lnk.refl hi hoi
    · exact h
theorem Joins.rep {up rho : Nat → Nat} (H : Joins N near ok rho N 0) (hR : RootOf N up rho) {i : Nat} (hi : i < N) : Rep N near ok i ↔ ok i ∧ rho i = i := by
  constructor
  · rintro ⟨_, ho, hno⟩
    refine ⟨ho, ?_⟩
    have hle := hR.root_le hi
    rcases Nat.lt_or_ge (rho i) i with h | h
    · rcases H.snd (rho i) i (by omega) hi (hR.root_root hi) with e | e
      · omega
      · exact absurd e (hno _ h)
    · omega
  · rintro ⟨ho, e⟩
    refine ⟨hi, ho, fun j hj hl => ?_⟩
    have h1 := ((H.iff hl.lt hi hl.fit).1 hl).2
    have h2 := hR.root_le hl.lt
    omega
theorem Joins.root {up rho : Nat → Nat} (H : Joins N near ok rho N 0) (hR : RootOf N up rho) {i : Nat} (hi : i < N) (ho : ok i) : Rep N near ok (rho i) ∧ Lnk N near ok (rho i) i := by
  have hle := hR.root_le hi
  have hrr := hR.root_root hi
  have hl : Lnk N near ok (rho i) i := by
    rcases H.snd (rho i) i (by omega) hi hrr with e | e
    · rw [e]; exact Lnk.refl hi ho
    · exact e
  exact ⟨(H.rep hR (by omega)).2 ⟨hl.fit, hrr⟩, hl⟩

theorem NumIs.rep (hm : Mut N near) {r : Nat} {v : Int} (h : NumIs N near ok r v) (hr : Rep N near ok r) : v = cnt (repB N near ok) r :=
  h.unique hm (.inr ⟨hr.2.1, r, hr, Lnk.refl hr.1 hr.2.1, rfl⟩)

/-- The numbers of the cells before k are known. -/
def Nums (N : Nat) (near : Nat → List Nat) (ok : Nat → Prop) (k : Nat) (num : Nat → Int) : Prop := ∀ x, x < k → NumIs N near ok x (num x)
theorem Nums.water {k : Nat} {num : Nat → Int} (H : Nums N near ok k num) (ho : ¬ ok k) {num' : Nat → Int} (h1 : ∀ x, x < k → num' x = num x) (h2 : num' k = -1) : Nums N near ok (k + 1) num' ∧ cnt (repB N near ok) (k + 1) = cnt (repB N near ok) k := by
  refine ⟨fun x hx => ?_, by simp only [cnt]; rw [repB_no fun h => ho h.2.1]; simp⟩
  by_cases e : x = k
  · subst e; rw [h2]; exact .inl ⟨ho, rfl⟩
  · rw [h1 x (by omega)]; exact H x (by omega)
theorem Nums.new {k : Nat} {num : Nat → Int} (H : Nums N near ok k num) (hr : Rep N near ok k) {num' : Nat → Int} (h1 : ∀ x, x < k → num' x = num x) (h2 : num' k = cnt (repB N near ok) k) : Nums N near ok (k + 1) num' ∧ cnt (repB N near ok) (k + 1) = cnt (repB N near ok) k + 1 := by
  refine ⟨fun x hx => ?_, by simp only [cnt]; rw [repB_iff.2 hr]; simp⟩
  by_cases e : x = k
  · subst e; rw [h2]; exact .inr ⟨hr.2.1, x, hr, Lnk.refl hr.1 hr.2.1, rfl⟩
  · rw [h1 x (by omega)]; exact H x (by omega)
theorem Nums.old (hm : Mut N near) {k r : Nat} {num : Nat → Int} (H : Nums N near ok k num) (ho : ok k) (hk : r < k) (hr : Rep N near ok r) (hl : Lnk N near ok r k) {num' : Nat → Int} (h1 : ∀ x, x < k → num' x = num x) (h2 : num' k = num r) : Nums N near ok (k + 1) num' ∧ cnt (repB N near ok) (k + 1) = cnt (repB N near ok) k := by
  refine ⟨fun x hx => ?_, by simp only [cnt]; rw [repB_no fun h => h.2.2 r hk hl]; simp⟩
  by_cases e : x = k
  · subst e; rw [h2]; exact .inr ⟨ho, r, hr, hl, (H r hk).rep hm hr⟩
  · rw [h1 x (by omega)]; exact H x (by omega)
theorem Nums.done (hm : Mut N near) {num : Nat → Int} (H : Nums N near ok N num) {x : Nat} (hx : x < N) : num x = numV N near ok x := (H x hx).eq hm
end

theorem nearL_mut (R C : Nat) : Mut (R * C) (nearL R C) := fun _ _ hi hj => ⟨nearL_lt hi hj, nearL_symm hi hj⟩

end Go.Proofs.Ytgekjhmjjjkibaa
