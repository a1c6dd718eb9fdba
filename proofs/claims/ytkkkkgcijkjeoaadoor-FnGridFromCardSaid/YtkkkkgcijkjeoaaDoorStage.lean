/- Regions that draw their order and hold a chain of operations that change memory, one after another: an invariant for each stage of the chain. -/
import Derived.Test.YtkkkkgcijkjeoaaDoorLoose
namespace Go.Proofs.YtkkkkgcijkjeoaaDoor
set_option linter.unusedVariables false
set_option linter.unusedSimpArgs false
open Go.RowKit

/-- The chain's operations bear their number; each waits for the one before it. -/
def tagOp (T : Nat) (tags : List (Option Nat)) (l : List Oper) (i : Nat) : Bool :=
  match tags[i]? with
  | some (some a) => decide (a < T) && (decide (a = 0) || (match l[i]? with | some o => o.after.any (fun e => Region.binds .any e && (tags[e.on]? == some (some (a - 1)))) | none => false)) &&
      (List.range tags.length).all (fun j => decide (j = i) || tags[j]? != some (some a))
  | _ => true
def tagB (T : Nat) (tags : List (Option Nat)) (l : List Oper) : Bool :=
  decide (tags.length = l.length) && (List.range l.length).all (tagOp T tags l) && (List.range T).all (fun a => (List.range tags.length).any (fun i => tags[i]? == some (some a)))

theorem tag_lt {tags : List (Option Nat)} {i : Nat} {x : Option Nat} (h : tags[i]? = some x) : i < tags.length := by
  rcases Nat.lt_or_ge i tags.length with h' | h'
  · exact h'
  · rw [List.getElem?_eq_none h'] at h; cases h

structure Tagged (T : Nat) (tags : List (Option Nat)) (l : List Oper) : Prop where
  len : tags.length = l.length
  lt : ∀ (i a : Nat), tags[i]? = some (some a) → a < T
  prev : ∀ (i a : Nat) (o : Oper), tags[i]? = some (some (a + 1)) → l[i]? = some o → ∃ e ∈ o.after, Region.binds .any e = true ∧ tags[e.on]? = some (some a)
  one : ∀ (i j a : Nat), tags[i]? = some (some a) → tags[j]? = some (some a) → i = j
  all : ∀ a, a < T → ∃ i : Nat, tags[i]? = some (some a)

theorem tagB_spec {T : Nat} {tags : List (Option Nat)} {l : List Oper} (h : tagB T tags l = true) : Tagged T tags l := by
  unfold tagB at h
  simp only [Bool.and_eq_true, decide_eq_true_eq] at h
  obtain ⟨⟨h1, h2⟩, h3⟩ := h
  have key : ∀ (i a : Nat), tags[i]? = some (some a) → a < T ∧ (a = 0 ∨ ∃ o : Oper, l[i]? = some o ∧ ∃ e ∈ o.after, Region.binds .any e = true ∧ tags[e.on]? = some (some (a - 1))) ∧ ∀ j : Nat, j ≠ i → tags[j]? ≠ some (some a) := by
    intro i a hi
    have hil := tag_lt hi
    have h4 := List.all_eq_true.1 h2 i (List.mem_range.2 (by omega))
    unfold tagOp at h4
    rw [hi] at h4
    simp only [Bool.and_eq_true, decide_eq_true_eq, Bool.or_eq_true] at h4
    obtain ⟨⟨h5, h6⟩, h7⟩ := h4
    refine ⟨h5, ?_, fun j hj => ?_⟩
    · rcases h6 with h6 | h6
      · exact Or.inl h6
      · cases ho : l[i]? with
        | none => rw [ho] at h6; cases h6
        | some o =>
          rw [ho] at h6
          simp only [Array.any_eq_true, Bool.and_eq_true, beq_iff_eq] at h6
          obtain ⟨k, hk, h8, h9⟩ := h6
          exact Or.inr ⟨o, rfl, _, Array.getElem_mem hk, h8, h9⟩
    · intro he
      have h8 := List.all_eq_true.1 h7 j (List.mem_range.2 (tag_lt he))
      simp only [Bool.or_eq_true, decide_eq_true_eq, bne_iff_ne, ne_eq] at h8
      rcases h8 with h8 | h8
      · exact hj h8
      · exact h8 he
  refine ⟨h1, fun i a hi => (key i a hi).1, fun i a o hi ho => ?_, fun i j a hi hj => ?_, fun a ha => ?_⟩
  · rcases (key i (a + 1) hi).2.1 with h4 | ⟨o', ho', h4⟩
    · omega
    · rw [ho] at ho'; injection ho' with ho'; subst ho'
      simpa using h4
  · by_cases hij : i = j
    · exact hij
    · exact absurd hi ((key j a hj).2.2 i hij)
  · have h4 := List.all_eq_true.1 h3 a (List.mem_range.2 ha)
    obtain ⟨i, _, h5⟩ := List.any_eq_true.1 h4
    exact ⟨i, by simpa using h5⟩

/-- The world at stage m, and what is so of each value at that stage. -/
def StInv (T : Nat) (tags : List (Option Nat)) (C : Nat → World → Prop) (φ : Nat → Value → Nat → World → Prop) (vals : Nat → Option Value) (w : World) : Prop :=
  ∃ m, m ≤ T ∧ (∀ (i a : Nat), tags[i]? = some (some a) → (a < m → ∃ v, vals i = some v) ∧ (m ≤ a → vals i = Option.none)) ∧ C m w ∧ ∀ j v, vals j = some v → φ j v m w

structure StPost (C : Nat → World → Prop) (R : Nat → World → World → Prop) (φ : Value → Nat → World → Prop) (df : List Deferred) (d m m' : Nat) (w : World) (e : Exit) (b : Act) (w' : World) : Prop where
  normal : e = .normal
  defers : b.defers = df
  cls : C m' w'
  rel : R m w w'
  val : φ (b.tmps.getD d undef) m' w'

def stChain (P : Program) (l : List Oper) (a0 : Act) (C : Nat → World → Prop) (R : Nat → World → World → Prop) (φ : Nat → Value → Nat → World → Prop) (i m : Nat) (o : Oper) : Prop :=
  ∀ w, C m w → givenD (fun j v => φ j v m w) (depsOf l.toArray o) (fun a => wpList P l.toArray (StPost C R (φ i) a0.defers (o.dst.getD 0) m (m + 1) w) [o] a w) a0
def stQuiet (P : Program) (l : List Oper) (T : Nat) (a0 : Act) (C : Nat → World → Prop) (RQ : Nat → World → World → Prop) (φ : Nat → Value → Nat → World → Prop) (i : Nat) (o : Oper) : Prop :=
  ∀ m w, m ≤ T → C m w → givenD (fun j v => φ j v m w) (depsOf l.toArray o) (fun a => wpList P l.toArray (StPost C RQ (φ i) a0.defers (o.dst.getD 0) m m w) [o] a w) a0
def stAll (P : Program) (l : List Oper) (T : Nat) (a0 : Act) (C : Nat → World → Prop) (R RQ : Nat → World → World → Prop) (φ : Nat → Value → Nat → World → Prop) : Nat → List (Option Nat) → List Oper → Prop
  | _, _, [] => True
  | i, some m :: ts, o :: r => stChain P l a0 C R φ i m o ∧ stAll P l T a0 C R RQ φ (i + 1) ts r
  | i, none :: ts, o :: r => stQuiet P l T a0 C RQ φ i o ∧ stAll P l T a0 C R RQ φ (i + 1) ts r
  | _, [], _ :: _ => False

theorem stAll_at {P : Program} {l : List Oper} {T : Nat} {tags : List (Option Nat)} {a0 : Act} {C : Nat → World → Prop} {R RQ : Nat → World → World → Prop} {φ : Nat → Value → Nat → World → Prop} (hT : Tagged T tags l)
    (hmono : ∀ j v m w w', R m w w' → φ j v m w → φ j v (m + 1) w') (hmonoQ : ∀ j v m w w', RQ m w w' → φ j v m w → φ j v m w') :
    ∀ (ts : List (Option Nat)) (r : List Oper) (k : Nat), (∀ a : Nat, ts[a]? = tags[k + a]?) → (∀ a : Nat, r[a]? = l[k + a]?) → stAll P l T a0 C R RQ φ k ts r → looseAll P l a0 (fun _ vals w => StInv T tags C φ vals w) k r := by
  intro ts r
  induction r generalizing ts with
  | nil => intro k _ _ _; exact trivial
  | cons o r ih =>
    intro k hts hr h
    have ho : l[k]? = some o := by have := hr 0; simpa using this.symm
    cases ts with
    | nil => exact (show False from h).elim
    | cons t ts =>
      have ht : tags[k]? = some t := by have := hts 0; simpa using this.symm
      have hts' : ∀ a : Nat, ts[a]? = tags[k + 1 + a]? := fun a => by have := hts (a + 1); simpa [Nat.add_assoc, Nat.add_comm 1 a] using this
      have hr' : ∀ a : Nat, r[a]? = l[k + 1 + a]? := fun a => by have := hr (a + 1); simpa [Nat.add_assoc, Nat.add_comm 1 a] using this
      cases t with
      | none =>
        obtain ⟨hq, hrest⟩ : stQuiet P l T a0 C RQ φ k o ∧ stAll P l T a0 C R RQ φ (k + 1) ts r := h
        refine ⟨fun n vals w hI hn hv hd => ?_, ih ts (k + 1) hts' hr' hrest⟩
        obtain ⟨m, hm, hst, hC, hφ⟩ := hI
        have h1 := givenD_use (vals := vals) _ _ (hq m w hm hC) fun p hp => by
          obtain ⟨e, he, hb, he2, _, _⟩ := mem_depsOf.1 (show (p.1, p.2) ∈ _ from hp)
          obtain ⟨v, hv⟩ := hd p.1 (List.mem_filterMap.2 ⟨e, by simpa using he, by rw [if_pos hb, he2]⟩)
          exact ⟨v, hv, hφ p.1 v hv⟩
        refine wpList1_mono (fun e b w' hh => ?_) h1
        obtain ⟨a1, a2, a3, a4, a5⟩ := hh
        refine ⟨a1, a2, m, hm, fun i a hi => ?_, a3, fun j v hv => ?_⟩
        · have hne : i ≠ k := fun e => by rw [e, ht] at hi; injection hi with hi; cases hi
          unfold updV
          rw [if_neg hne]
          exact hst i a hi
        · unfold updV at hv
          by_cases hj : j = k
          · rw [if_pos hj] at hv; injection hv with hv; rw [hj, ← hv]; exact a5
          · rw [if_neg hj] at hv; exact hmonoQ _ _ _ _ _ a4 (hφ j v hv)
      | some c =>
        obtain ⟨hq, hrest⟩ : stChain P l a0 C R φ k c o ∧ stAll P l T a0 C R RQ φ (k + 1) ts r := h
        refine ⟨fun n vals w hI hn hv hd => ?_, ih ts (k + 1) hts' hr' hrest⟩
        obtain ⟨m, hm, hst, hC, hφ⟩ := hI
        have hcm : m = c := by
          have h1 : m ≤ c := by
            rcases Nat.lt_or_ge c m with h | h
            · obtain ⟨v, h2⟩ := (hst k c ht).1 h
              rw [hv] at h2; cases h2
            · exact h
          rcases Nat.lt_or_ge m c with h | h
          · exfalso
            obtain ⟨c', rfl⟩ : ∃ c', c = c' + 1 := ⟨c - 1, by omega⟩
            obtain ⟨e, he, hb, he2⟩ := hT.prev k c' o ht ho
            obtain ⟨v, h2⟩ := hd e.on (List.mem_filterMap.2 ⟨e, by simpa using he, by rw [if_pos hb]⟩)
            rw [(hst e.on c' he2).2 (by omega)] at h2
            cases h2
          · omega
        subst hcm
        have h1 := givenD_use (vals := vals) _ _ (hq w hC) fun p hp => by
          obtain ⟨e, he, hb, he2, _, _⟩ := mem_depsOf.1 (show (p.1, p.2) ∈ _ from hp)
          obtain ⟨v, hv⟩ := hd p.1 (List.mem_filterMap.2 ⟨e, by simpa using he, by rw [if_pos hb, he2]⟩)
          exact ⟨v, hv, hφ p.1 v hv⟩
        refine wpList1_mono (fun e b w' hh => ?_) h1
        obtain ⟨a1, a2, a3, a4, a5⟩ := hh
        refine ⟨a1, a2, m + 1, hT.lt k m ht, fun i a hi => ?_, a3, fun j v hv => ?_⟩
        · unfold updV
          by_cases hik : i = k
          · rw [if_pos hik]
            rw [hik, ht] at hi
            injection hi with hi
            injection hi with hi
            exact ⟨fun _ => ⟨_, rfl⟩, fun h => by omega⟩
          · rw [if_neg hik]
            have hna : a ≠ m := fun e => hik (hT.one i k m (by rw [hi, e]) ht)
            exact ⟨fun h => (hst i a hi).1 (by omega), fun h => (hst i a hi).2 (by omega)⟩
        · unfold updV at hv
          by_cases hj : j = k
          · rw [if_pos hj] at hv; injection hv with hv; rw [hj, ← hv]; exact a5
          · rw [if_neg hj] at hv; exact hmono _ _ _ _ _ a4 (hφ j v hv)

/-- A region that draws its order and holds a chain of operations that change memory. -/
theorem wp_region_stage {P : Program} {id : Nat} {Q : Exit → Act → World → Prop} {a0 : Act} {w : World} {l : List Oper} (T : Nat) (tags : List (Option Nat)) (C : Nat → World → Prop) (R RQ : Nat → World → World → Prop) (φ : Nat → Value → Nat → World → Prop)
    (hm : P.follows .mixedOrders = true) (hB : looseB l a0.tmps.size = true) (hT : tagB T tags l = true)
    (hmono : ∀ j v m w w', R m w w' → φ j v m w → φ j v (m + 1) w') (hmonoQ : ∀ j v m w w', RQ m w w' → φ j v m w → φ j v m w') (h0 : C 0 w.drew)
    (hall : stAll P l T a0 C R RQ φ 0 tags l) (hend : ∀ w', C T w' → givenAll (fun j v => φ j v T w') (fun a => Q .normal a w') l 0 a0) : (Code.region id l.toArray true).wp P Q a0 w := by
  have hTT := tagB_spec hT
  refine wp_region_loose (fun _ vals w => StInv T tags C φ vals w) hm hB ⟨0, Nat.zero_le _, fun i a _ => ⟨fun h => by omega, fun _ => rfl⟩, h0, fun _ _ h => by cases h⟩
    (stAll_at hTT hmono hmonoQ tags l 0 (fun a => by simp) (fun a => by simp) hall) (fun vals w' hI hv => ?_)
  obtain ⟨m, hm, hst, hC, hφ⟩ := hI
  have : m = T := by
    rcases Nat.lt_or_ge m T with h | h
    · exfalso
      obtain ⟨i, hi⟩ := hTT.all m h
      obtain ⟨v, hv⟩ := hv i (by have := tag_lt hi; rw [hTT.len] at this; exact this)
      rw [(hst i m hi).2 (Nat.le_refl _)] at hv
      cases hv
    · omega
  subst this
  exact givenAll_use l 0 a0 (hend w' hC) fun j hj => by obtain ⟨v, h⟩ := hv j hj; rw [Nat.zero_add]; exact ⟨v, h, hφ j v h⟩

/-- So of a value at stage s alone. -/
def At (s : Nat) (F : Value → World → Prop) (v : Value) (m : Nat) (w : World) : Prop := s ≤ m ∧ (m = s → F v w)
theorem At.next {s : Nat} {F : Value → World → Prop} {v : Value} {m : Nat} {w w' : World} (h : At s F v m w) : At s F v (m + 1) w' := ⟨by have := h.1; omega, fun e => by have := h.1; omega⟩
theorem At.now {s : Nat} {F : Value → World → Prop} {v : Value} {w : World} (h : F v w) : At s F v s w := ⟨Nat.le_refl _, fun _ => h⟩
theorem At.out {s : Nat} {F : Value → World → Prop} {v : Value} {w : World} (h : At s F v s w) : F v w := h.2 rfl

end Go.Proofs.YtkkkkgcijkjeoaaDoor
