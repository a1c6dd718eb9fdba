/- Regions that draw their order, met operation by operation: an invariant over what is done so far, whatever the order. -/
import Derived.StillTail
import Derived.Deep.Quiet
import Derived.Deep.QuietTactic
import Derived.BigQuiet
import Derived.Below
namespace Go.Proofs.YtkkkkgcijkjeoaaDoor
set_option linter.unusedVariables false
set_option linter.unusedSimpArgs false
open Go.RowKit

/-- What an operation reads that another operation of its region has written before it. -/
def ddp : List (Nat × Tmp) → List (Nat × Tmp)
  | [] => []
  | x :: l => if l.contains x then ddp l else x :: ddp l
theorem mem_ddp {x : Nat × Tmp} : ∀ l, x ∈ ddp l ↔ x ∈ l
  | [] => Iff.rfl
  | y :: l => by
    unfold ddp
    by_cases h : l.contains y = true
    · rw [if_pos h, mem_ddp l, List.mem_cons]
      exact ⟨Or.inr, fun h' => h'.elim (fun e => by rw [e]; simpa using h) id⟩
    · rw [if_neg h, List.mem_cons, List.mem_cons, mem_ddp l]
def depsOf (ops : Array Oper) (o : Oper) : List (Nat × Tmp) :=
  ddp <| o.after.toList.filterMap fun e => if Region.binds .any e then ((ops[e.on]?).bind (·.dst)).bind fun s => if (o.looksAt ops).contains s then some (e.on, s) else none else none

def loadA (vals : Nat → Option Value) : List (Nat × Tmp) → Act → Act
  | [], a => a
  | (j, s) :: ds, a => loadA vals ds (a.put (some s) ((vals j).getD undef))

def updV (vals : Nat → Option Value) (i : Nat) (v : Value) : Nat → Option Value := fun j => if j = i then some v else vals j

/-- Each operation: no select, its own slot inside the frame; edges point back; who writes what it reads either comes before it by an edge or waits for it. -/
def looseOp (ops : Array Oper) (sz i : Nat) (o : Oper) : Bool :=
  (match o.op with | .select _ _ => false | _ => true) && (match o.dst with | some d => decide (d < sz) | none => false) && o.after.all (fun e => !Region.binds .any e || decide (e.on < i)) &&
  (List.range ops.size).all (fun j => match ops[j]? with
    | some oj => decide (j = i) || (oj.dst != o.dst && (match oj.dst with
        | some s => !(o.looksAt ops).contains s || (o.after.any fun e => Region.binds .any e && e.on == j) || (oj.after.any fun e => Region.binds .any e && e.on == i)
        | none => true))
    | none => true) &&
  (match o.dst with | some d => !(o.looksAt ops).contains d | none => true)
def looseB (l : List Oper) (sz : Nat) : Bool := (List.range l.length).all fun i => match l[i]? with | some o => looseOp l.toArray sz i o | none => true

structure LooseOp (ops : Array Oper) (sz i : Nat) (o : Oper) : Prop where
  nosel : ∀ cs b, o.op ≠ .select cs b
  dst : ∃ d, o.dst = some d ∧ d < sz
  back : ∀ e ∈ o.after, Region.binds .any e = true → e.on < i
  other : ∀ j oj s, ops[j]? = some oj → oj.dst = some s → j ≠ i → o.dst ≠ some s ∧ (s ∈ o.looksAt ops → (∃ e ∈ o.after, Region.binds .any e = true ∧ e.on = j) ∨ (∃ e ∈ oj.after, Region.binds .any e = true ∧ e.on = i))
  self : ∀ d, o.dst = some d → d ∉ o.looksAt ops

theorem looseOp_spec {ops : Array Oper} {sz i : Nat} {o : Oper} (h : looseOp ops sz i o = true) : LooseOp ops sz i o := by
  unfold looseOp at h
  simp only [Bool.and_eq_true] at h
  obtain ⟨⟨⟨⟨h2, h3⟩, h4⟩, h5⟩, h6⟩ := h
  refine ⟨fun cs b e => by rw [e] at h2; simp at h2, ?_, fun e he hb => ?_, fun j oj s hj hs hne => ?_, fun d hd => ?_⟩
  · cases hd : o.dst with
    | none => rw [hd] at h3; simp at h3
    | some d => rw [hd] at h3; exact ⟨d, rfl, by simpa using h3⟩
  · rw [Array.all_eq_true_iff_forall_mem] at h4
    have := h4 e he
    simpa [hb] using this
  · have hlt : j < ops.size := by
      rcases Nat.lt_or_ge j ops.size with h | h
      · exact h
      · rw [Array.getElem?_eq_none h] at hj; cases hj
    have h7 := List.all_eq_true.1 h5 j (List.mem_range.2 hlt)
    rw [hj] at h7
    simp only [hs, Bool.or_eq_true, Bool.and_eq_true, decide_eq_true_eq, bne_iff_ne, ne_eq, Bool.not_eq_true', List.contains_eq_mem, decide_eq_false_iff_not, Array.any_eq_true, beq_iff_eq] at h7
    rcases h7 with h7 | ⟨h7, h8⟩
    · exact absurd h7 hne
    · refine ⟨fun e => h7 e.symm, fun hm => ?_⟩
      rcases h8 with (h8 | ⟨k, hk, h8, h9⟩) | ⟨k, hk, h8, h9⟩
      · exact absurd hm h8
      · exact Or.inl ⟨_, Array.getElem_mem hk, h8, h9⟩
      · exact Or.inr ⟨_, Array.getElem_mem hk, h8, h9⟩
  · rw [hd] at h6
    simpa using h6

theorem looseB_spec {l : List Oper} {sz i : Nat} {o : Oper} (h : looseB l sz = true) (hi : l[i]? = some o) : LooseOp l.toArray sz i o := by
  have hlt : i < l.length := by
    rcases Nat.lt_or_ge i l.length with h | h
    · exact h
    · rw [List.getElem?_eq_none h] at hi; cases hi
  have h1 := List.all_eq_true.1 h i (List.mem_range.2 hlt)
  rw [hi] at h1
  exact looseOp_spec h1

/-- How many are not listed yet. -/
def unl (listed : Array Bool) : Nat → Nat
  | 0 => 0
  | k + 1 => unl listed k + (if listed.getD k false then 0 else 1)
theorem unl_set_ge {listed : Array Bool} {i : Nat} : ∀ n, n ≤ i → unl (listed.setIfInBounds i true) n = unl listed n
  | 0, _ => rfl
  | n + 1, h => by unfold unl; rw [unl_set_ge n (by omega), getD_set_ne false (by omega)]
theorem unl_set {listed : Array Bool} {i : Nat} (hi : i < listed.size) (hu : listed.getD i false = false) : ∀ n, i < n → unl (listed.setIfInBounds i true) n + 1 = unl listed n
  | 0, h => by omega
  | n + 1, h => by
    unfold unl
    by_cases e : i = n
    · subst e
      rw [unl_set_ge i (Nat.le_refl _), hu]
      simp [hi]
    · have := unl_set hi hu n (by omega)
      rw [getD_set_ne false e]
      omega
theorem unl_zero {listed : Array Bool} : ∀ n, unl listed n = 0 → ∀ j, j < n → listed.getD j false = true
  | 0, _, j, hj => by omega
  | n + 1, h, j, hj => by
    unfold unl at h
    by_cases e : j = n
    · subst e
      by_cases hx : listed.getD j false = true
      · exact hx
      · simp only [hx] at h; simp at h
    · exact unl_zero n (by omega) j (by omega)
theorem unl_fresh (n m : Nat) : unl (Array.replicate n false) m = m := by
  induction m with
  | zero => rfl
  | succ m ih => unfold unl; rw [ih, getD_replicate_false]; rfl

/-- The frame, told by what is done. -/
structure Told (l : List Oper) (a0 : Act) (listed : Array Bool) (vals : Nat → Option Value) (a : Act) : Prop where
  size : listed.size = l.length
  defers : a.defers = a0.defers
  tmps : a.tmps.size = a0.tmps.size
  done : ∀ j o s, l[j]? = some o → o.dst = some s → listed.getD j false = true → ∃ v, vals j = some v ∧ a.tmps.getD s undef = v
  kept : ∀ s, (∀ j o, l[j]? = some o → o.dst = some s → listed.getD j false = false) → a.tmps.getD s undef = a0.tmps.getD s undef
  todo : ∀ j, listed.getD j false = false → vals j = Option.none
  down : ∀ j o, l[j]? = some o → listed.getD j false = true → ∀ e ∈ o.after, Region.binds .any e = true → listed.getD e.on false = true

theorem Act.getD_put_ne {a : Act} {d s : Nat} {v : Value} (h : d ≠ s) : (a.put (some d) v).tmps.getD s undef = a.tmps.getD s undef := by
  simp [Act.put, Array.getElem?_setIfInBounds_ne h]
theorem Act.getD_put {a : Act} {d : Nat} {v : Value} (h : d < a.tmps.size) : (a.put (some d) v).tmps.getD d undef = v := by
  simp [Act.put, h]

theorem Told.start (l : List Oper) (a0 : Act) : Told l a0 (Array.replicate l.length false) (fun _ => none) a0 :=
  ⟨by simp, rfl, rfl, fun j o s _ _ h => (by rw [getD_replicate_false] at h; cases h), fun _ _ => rfl, fun _ _ => rfl, fun j o _ h => (by rw [getD_replicate_false] at h; cases h)⟩

theorem Told.step {l : List Oper} {a0 a : Act} {listed : Array Bool} {vals : Nat → Option Value} {i d : Nat} {o : Oper} (H : Told l a0 listed vals a) (hB : looseB l a0.tmps.size = true) (hi : l[i]? = some o) (hd : o.dst = some d)
    (hr : i ∈ Region.ready .any l.toArray listed) (v : Value) : Told l a0 (listed.setIfInBounds i true) (updV vals i v) (a.put o.dst v) := by
  have hL := looseB_spec hB hi
  obtain ⟨d', hd', hlt⟩ := hL.dst
  rw [hd] at hd'; injection hd' with hd'; subst hd'
  obtain ⟨hun, o', ho', haft⟩ := mem_ready.1 hr
  have ho : o' = o := by simp [hi] at ho'; exact ho'.symm
  subst ho
  have hil : i < l.length := by
    rcases Nat.lt_or_ge i l.length with h | h
    · exact h
    · rw [List.getElem?_eq_none h] at hi; cases hi
  have hii : (listed.setIfInBounds i true).getD i false = true := by simp [H.size, hil]
  rw [hd]
  refine ⟨by simp [H.size], H.defers, by simp [Act.put, H.tmps], fun j oj s hj hs hl => ?_, fun s hs => ?_, fun j hj => ?_, fun j oj hj hl e he hb => ?_⟩
  · by_cases hji : j = i
    · subst hji
      rw [hi] at hj; injection hj with hj; subst hj
      rw [hd] at hs; injection hs with hs; subst hs
      exact ⟨v, by simp [updV], Act.getD_put (by rw [H.tmps]; exact hlt)⟩
    · rw [getD_set_ne false (Ne.symm hji)] at hl
      have hne := (hL.other j oj s (by simpa using hj) hs hji).1
      obtain ⟨u, h1, h2⟩ := H.done j oj s hj hs hl
      refine ⟨u, by simp [updV, hji, h1], ?_⟩
      rw [Act.getD_put_ne (fun e => hne (by rw [hd, e])), h2]
  · have hds : d ≠ s := fun e => by
      have := hs i o' hi (by rw [hd, e])
      rw [hii] at this; cases this
    rw [Act.getD_put_ne hds]
    refine H.kept s fun j oj hj hsj => ?_
    by_cases hji : j = i
    · subst hji; exact getD_both hun
    · have := hs j oj hj hsj
      rwa [getD_set_ne false (Ne.symm hji)] at this
  · by_cases hji : j = i
    · subst hji; rw [hii] at hj; cases hj
    · rw [getD_set_ne false (Ne.symm hji)] at hj
      simp [updV, hji, H.todo j hj]
  · by_cases hji : j = i
    · subst hji
      rw [hi] at hj; injection hj with hj; subst hj
      exact getD_set_true (haft e he hb)
    · rw [getD_set_ne false (Ne.symm hji)] at hl
      exact getD_set_true (H.down j oj hj hl e he hb)

theorem loadA_size (vals : Nat → Option Value) : ∀ (ds : List (Nat × Tmp)) (a : Act), (loadA vals ds a).tmps.size = a.tmps.size
  | [], _ => rfl
  | (j, s) :: ds, a => by unfold loadA; rw [loadA_size vals ds]; simp [Act.put]
theorem loadA_out (vals : Nat → Option Value) : ∀ (ds : List (Nat × Tmp)) (a : Act) (s : Nat), (∀ p ∈ ds, p.2 ≠ s) → (loadA vals ds a).tmps.getD s undef = a.tmps.getD s undef
  | [], _, _, _ => rfl
  | (j, t) :: ds, a, s, h => by
    unfold loadA
    rw [loadA_out vals ds _ s fun p hp => h p (List.mem_cons_of_mem _ hp), Act.getD_put_ne (h (j, t) List.mem_cons_self)]
theorem loadA_in (vals : Nat → Option Value) (s : Nat) (v : Value) : ∀ (ds : List (Nat × Tmp)) (a : Act), s < a.tmps.size → (∀ p ∈ ds, p.2 = s → vals p.1 = some v) → ((∃ p ∈ ds, p.2 = s) ∨ a.tmps.getD s undef = v) → (loadA vals ds a).tmps.getD s undef = v
  | [], a, _, _, h => by rcases h with ⟨p, hp, _⟩ | h; · cases hp
                         · exact h
  | (j, t) :: ds, a, hs, hv, h => by
    unfold loadA
    refine loadA_in vals s v ds _ (by simpa [Act.put] using hs) (fun p hp => hv p (List.mem_cons_of_mem _ hp)) ?_
    by_cases hts : t = s
    · subst hts
      right
      rw [Act.getD_put hs, hv (j, t) List.mem_cons_self rfl]; rfl
    · rw [Act.getD_put_ne hts]
      rcases h with ⟨p, hp, he⟩ | h
      · rcases List.mem_cons.1 hp with rfl | hp
        · exact absurd he hts
        · exact Or.inl ⟨p, hp, he⟩
      · exact Or.inr h

theorem mem_depsOf {ops : Array Oper} {o : Oper} {j s : Nat} : (j, s) ∈ depsOf ops o ↔ ∃ e ∈ o.after, Region.binds .any e = true ∧ e.on = j ∧ (ops[j]?).bind (·.dst) = some s ∧ s ∈ o.looksAt ops := by
  unfold depsOf
  rw [mem_ddp, List.mem_filterMap]
  constructor
  · rintro ⟨e, he, h⟩
    by_cases hb : Region.binds .any e = true
    · rw [if_pos hb] at h
      cases hx : (ops[e.on]?).bind (·.dst) with
      | none => rw [hx] at h; simp at h
      | some t =>
        rw [hx] at h
        simp only [Option.bind_some] at h
        by_cases hc : (o.looksAt ops).contains t = true
        · rw [if_pos hc] at h
          injection h with h
          injection h with h1 h2
          subst h1 h2
          exact ⟨e, by simpa using he, hb, rfl, hx, by simpa using hc⟩
        · rw [if_neg hc] at h; cases h
    · rw [if_neg hb] at h; cases h
  · rintro ⟨e, he, hb, rfl, hx, hc⟩
    exact ⟨e, by simpa using he, by rw [if_pos hb, hx]; simp only [Option.bind_some]; rw [if_pos (by simpa using hc)]⟩

/-- What the operation looks at, it sees alike in the frame of its own. -/
theorem Told.slot {l : List Oper} {a0 a : Act} {listed : Array Bool} {vals : Nat → Option Value} {i s : Nat} {o' : Oper} (H : Told l a0 listed vals a) (hB : looseB l a0.tmps.size = true) (hi : l[i]? = some o')
    (hr : i ∈ Region.ready .any l.toArray listed) (hlook : s ∈ o'.looksAt l.toArray) : (loadA vals (depsOf l.toArray o') a0).tmps.getD s undef = a.tmps.getD s undef := by
  have hL := looseB_spec hB hi
  obtain ⟨hun, o'', ho', haft⟩ := mem_ready.1 hr
  have ho : o'' = o' := by simp [hi] at ho'; exact ho'.symm
  subst ho
  by_cases hw : ∃ j oj, l[j]? = some oj ∧ oj.dst = some s ∧ listed.getD j false = true
  · obtain ⟨j, oj, hj, hs, hl⟩ := hw
    have hji : j ≠ i := fun e => by subst e; rw [getD_both hun] at hl; cases hl
    obtain ⟨v, hv, ha⟩ := H.done j oj s hj hs hl
    obtain ⟨dj, hdj, hlt⟩ := (looseB_spec hB hj).dst
    rw [hs] at hdj; injection hdj with hdj; subst hdj
    rw [ha]
    refine loadA_in vals s v _ a0 hlt (fun p hp he => ?_) (Or.inl ?_)
    · obtain ⟨p1, p2⟩ := p
      simp only at he; subst he
      obtain ⟨e, he, hb, he2, hx2, _⟩ := mem_depsOf.1 hp
      cases hq : l[p1]? with
      | none => simp [hq] at hx2
      | some oq =>
        simp [hq] at hx2
        by_cases hpj : p1 = j
        · rw [hpj]; exact hv
        · exact absurd hx2 ((looseB_spec hB hq).other j oj p2 (by simpa using hj) hs (fun e => hpj e.symm)).1
    · rcases (hL.other j oj s (by simpa using hj) hs hji).2 hlook with ⟨e, he, hb, he2⟩ | ⟨e, he, hb, he2⟩
      · exact ⟨(j, s), mem_depsOf.2 ⟨e, he, hb, he2, by simp [hj, hs], hlook⟩, rfl⟩
      · have := H.down j oj hj hl e he hb
        rw [he2, getD_both hun] at this; cases this
  · have hw' : ∀ j o, l[j]? = some o → o.dst = some s → listed.getD j false = false := fun j oj hj hs => by
      cases hb : listed.getD j false with
      | false => rfl
      | true => exact absurd ⟨j, oj, hj, hs, hb⟩ hw
    rw [H.kept s hw']
    refine loadA_out vals _ a0 s fun p hp he => ?_
    obtain ⟨p1, p2⟩ := p
    simp only at he; subst he
    obtain ⟨e, he, hb, he2, hx2, _⟩ := mem_depsOf.1 hp
    cases hq : l[p1]? with
    | none => simp [hq] at hx2
    | some oq =>
      simp [hq] at hx2
      have h1 := haft e he hb
      rw [he2, hw' p1 oq hq hx2] at h1; cases h1

/-- What the operation reads, it reads alike in the frame of its own. -/
theorem Told.reads {l : List Oper} {a0 a : Act} {listed : Array Bool} {vals : Nat → Option Value} {i : Nat} {o : Oper} (H : Told l a0 listed vals a) (hB : looseB l a0.tmps.size = true) (hi : l[i]? = some o)
    (hr : i ∈ Region.ready .any l.toArray listed) : execOp (loadA vals (depsOf l.toArray o) a0).eval o = execOp a.eval o := by
  have hL := looseB_spec hB hi
  refine execOp_congr o hL.nosel fun x hx => ?_
  cases x with
  | tmp s =>
    have hlook : s ∈ o.looksAt l.toArray := by
      unfold Oper.looksAt
      exact List.mem_append_left _ (List.mem_filterMap.2 ⟨.tmp s, by simpa using hx, rfl⟩)
    exact H.slot hB hi hr hlook
  | _ => rfl

/-- Its guard, too. -/
theorem Told.wanted {l : List Oper} {a0 a : Act} {listed : Array Bool} {vals : Nat → Option Value} {i : Nat} {o : Oper} (H : Told l a0 listed vals a) (hB : looseB l a0.tmps.size = true) (hi : l[i]? = some o)
    (hr : i ∈ Region.ready .any l.toArray listed) : Region.wanted o (yielded l.toArray (loadA vals (depsOf l.toArray o) a0).tmps) = Region.wanted o (yielded l.toArray a.tmps) := by
  unfold Region.wanted
  cases hg : o.guard with
  | none => rfl
  | some jb =>
    obtain ⟨j, want⟩ := jb
    have : yielded l.toArray (loadA vals (depsOf l.toArray o) a0).tmps j = yielded l.toArray a.tmps j := by
      unfold yielded
      cases hs : (l.toArray[j]?).bind (·.dst) with
      | none => rfl
      | some s =>
        have hlook : s ∈ o.looksAt l.toArray := by
          unfold Oper.looksAt
          rw [hg]
          exact List.mem_append_right _ (by show s ∈ ((l.toArray[j]?).bind (·.dst)).toList; rw [hs]; simp)
        have h1 := H.slot hB hi hr hlook
        have h2 : (loadA vals (depsOf l.toArray o) a0).tmps.size = a.tmps.size := by rw [loadA_size, H.tmps]
        simp only [Option.bind_some]
        have h3 : (loadA vals (depsOf l.toArray o) a0).tmps[s]? = a.tmps[s]? := by
          by_cases hlt : s < a.tmps.size
          · have hlt' : s < (loadA vals (depsOf l.toArray o) a0).tmps.size := by rw [h2]; exact hlt
            rw [Array.getElem?_eq_getElem hlt, Array.getElem?_eq_getElem hlt']
            rw [Array.getD_eq_getD_getElem?, Array.getD_eq_getD_getElem?, Array.getElem?_eq_getElem hlt, Array.getElem?_eq_getElem hlt'] at h1
            simpa using h1
          · rw [Array.getElem?_eq_none (Nat.le_of_not_lt hlt), Array.getElem?_eq_none (by rw [h2]; exact Nat.le_of_not_lt hlt)]
        rw [h3]
    simp only [this]

/-- All results, in the order of the text. -/
def putAll (vals : Nat → Option Value) : List Oper → Nat → Act → Act
  | [], _, a => a
  | o :: l, k, a => putAll vals l (k + 1) (a.put o.dst ((vals k).getD undef))

theorem Told.all {l : List Oper} {a0 a : Act} {listed : Array Bool} {vals : Nat → Option Value} (H : Told l a0 listed vals a) (hB : looseB l a0.tmps.size = true) (hall : ∀ j, j < l.length → listed.getD j false = true) : a = putAll vals l 0 a0 := by
  have key : ∀ (r : List Oper) (k : Nat) (b : Act), (∀ j, r[j]? = l[k + j]?) → b.defers = a.defers → b.tmps.size = a.tmps.size → (∀ s, (∀ o ∈ r, o.dst ≠ some s) → b.tmps.getD s undef = a.tmps.getD s undef) → a = putAll vals r k b := by
    intro r
    induction r with
    | nil =>
      intro k b _ h1 h2 h3
      unfold putAll
      obtain ⟨bt, bd⟩ := b
      obtain ⟨at', ad⟩ := a
      simp only at h1 h2
      subst h1
      congr 1
      apply Array.ext h2.symm
      intro s hs1 hs2
      have := h3 s (fun o ho => by cases ho)
      simp [hs1, hs2] at this
      exact this.symm
    | cons o r ih =>
      intro k b hl h1 h2 h3
      unfold putAll
      have hk : l[k]? = some o := by have := hl 0; simpa using this.symm
      obtain ⟨d, hd, hlt⟩ := (looseB_spec hB hk).dst
      have hkl : k < l.length := by
        rcases Nat.lt_or_ge k l.length with h | h
        · exact h
        · rw [List.getElem?_eq_none h] at hk; cases hk
      obtain ⟨v, hv, ha⟩ := H.done k o d hk hd (hall k hkl)
      rw [hd]
      refine ih (k + 1) _ (fun j => by have := hl (j + 1); simpa [Nat.add_assoc, Nat.add_comm 1 j] using this) h1 (by simpa [Act.put] using h2) fun s hs => ?_
      by_cases hds : d = s
      · subst hds
        rw [Act.getD_put (by rw [h2, H.tmps]; exact hlt), hv, ha]; rfl
      · rw [Act.getD_put_ne hds]
        refine h3 s fun o' ho' => ?_
        rcases List.mem_cons.1 ho' with rfl | ho'
        · rw [hd]; exact fun e => hds (by injection e)
        · exact hs o' ho'
  refine key l 0 a0 (fun j => by simp) H.defers.symm H.tmps.symm fun s hs => ?_
  exact (H.kept s fun j o hj hd => absurd hd (hs o (List.mem_of_getElem? hj))).symm

/-- One operation alone, from its own frame to the frame as it is. -/
theorem wpOp_of_own {P : Program} {l : List Oper} {a a' : Act} {w : World} {o : Oper} {i d : Nat} {F : Value → World → Prop} {Q : Exit → Act → World → Prop} {K : Act → World → Prop} (hi : l[i]? = some o) (hg : Region.wanted o (yielded l.toArray a'.tmps) = Region.wanted o (yielded l.toArray a.tmps)) (hd : o.dst = some d) (hlt : d < a'.tmps.size)
    (he : execOp a'.eval o = execOp a.eval o) (h : wpList P l.toArray (fun e b w' => e = .normal ∧ b.defers = a'.defers ∧ F (b.tmps.getD d undef) w') [o] a' w) (hK : ∀ v w', F v w' → K (a.put o.dst v) w') (hdef : o.dst = some d) : wpOp P l.toArray Q i K a w := by
  unfold wpOp
  simp only [List.getElem?_toArray, hi]
  unfold wpList at h
  rw [hg] at h
  by_cases hw : Region.wanted o (yielded l.toArray a.tmps) = true
  case neg =>
    simp only [hw] at h ⊢
    have h3 := h.2.2
    rw [hd, Act.getD_put hlt] at h3
    exact hK _ _ h3
  simp only [hw, if_true] at h ⊢
  rcases h with h | ⟨_, x, y, h⟩
  · left
    unfold Oper.wp at h ⊢
    rw [he] at h
    cases hr : (execOp a.eval o).run P w with
    | ok n w' =>
      rw [hr] at h
      cases n with
      | value v =>
        simp only [Oper.upon] at h ⊢
        exact hK _ _ (by have := h.2.2; rwa [hd, Act.getD_put hlt] at this)
      | skip =>
        simp only [Oper.upon] at h ⊢
        exact hK _ _ (by have := h.2.2; rwa [hd, Act.getD_put hlt] at this)
      | enter f args =>
        simp only [Oper.upon] at h ⊢
        refine Calls.mono h fun e w'' hh => ?_
        cases e with
        | returned v => exact hK _ _ (by have := hh.2.2; rwa [hd, Act.getD_put hlt] at this)
        | panicked c => exact absurd hh.1 (by simp)
        | outgrown => obtain ⟨_, _, hx, _⟩ := hh; cases hx
      | row r args =>
        simp only [Oper.upon] at h ⊢
        exact Rows.mono h fun v w'' hh => hK _ _ (by have := hh.2.2; rwa [hd, Act.getD_put hlt] at this)
      | defer dd =>
        have h2 := congrArg List.length h.2.1
        rw [hd] at h2
        simp [Act.put] at h2
      | _ => exact h.elim
    | halt x w' =>
      rw [hr] at h
      cases x with
      | panic v => simp only [Oper.upon] at h; exact absurd h.1 (by simp)
      | _ => exact h.elim
  · exact absurd h.1 (by simp)

/-- What is asked of one operation: from every state of the invariant that has what the operation waits for. -/
def looseStep (P : Program) (l : List Oper) (a0 : Act) (Inv : Nat → (Nat → Option Value) → World → Prop) (i : Nat) (o : Oper) : Prop :=
  ∀ k vals w, Inv k vals w → k < l.length → vals i = none → (∀ j ∈ o.after.toList.filterMap (fun e => if Region.binds .any e then some e.on else none), ∃ v, vals j = some v) →
    wpList P l.toArray (fun e b w' => e = .normal ∧ b.defers = a0.defers ∧ Inv (k + 1) (updV vals i (b.tmps.getD (o.dst.getD 0) undef)) w') [o] (loadA vals (depsOf l.toArray o) a0) w
def looseAll (P : Program) (l : List Oper) (a0 : Act) (Inv : Nat → (Nat → Option Value) → World → Prop) : Nat → List Oper → Prop
  | _, [] => True
  | i, o :: r => looseStep P l a0 Inv i o ∧ looseAll P l a0 Inv (i + 1) r

theorem looseAll_at {P : Program} {l : List Oper} {a0 : Act} {Inv : Nat → (Nat → Option Value) → World → Prop} : ∀ (r : List Oper) (k : Nat), looseAll P l a0 Inv k r → ∀ i o, r[i]? = some o → looseStep P l a0 Inv (k + i) o
  | [], _, _, _, _, h => by simp at h
  | x :: r, k, h, 0, o, ho => by simp at ho; subst ho; exact h.1
  | x :: r, k, h, i + 1, o, ho => by
    have := looseAll_at r (k + 1) h.2 i o (by simpa using ho)
    rwa [show k + 1 + i = k + (i + 1) by omega] at this

theorem loadA_defers (vals : Nat → Option Value) : ∀ (ds : List (Nat × Tmp)) (a : Act), (loadA vals ds a).defers = a.defers
  | [], _ => rfl
  | (j, s) :: ds, a => by unfold loadA; rw [loadA_defers vals ds]; rfl

theorem wpAny_loose {P : Program} {l : List Oper} {a0 : Act} {Inv : Nat → (Nat → Option Value) → World → Prop} {Q : Exit → Act → World → Prop} (hB : looseB l a0.tmps.size = true) (hall : looseAll P l a0 Inv 0 l)
    (hend : ∀ vals w, Inv l.length vals w → (∀ j, j < l.length → ∃ v, vals j = some v) → Q .normal (putAll vals l 0 a0) w) :
    ∀ (f k : Nat) (listed : Array Bool) (vals : Nat → Option Value) (a : Act) (w : World), Told l a0 listed vals a → unl listed l.length = f → k + f = l.length → Inv k vals w → wpAny P .any l.toArray Q f listed a w := by
  intro f
  induction f with
  | zero =>
    intro k listed vals a w H hu hk hI
    have hl := unl_zero _ hu
    refine ⟨?_, ?_⟩
    · cases hr : Region.ready .any l.toArray listed with
      | nil => rfl
      | cons j js =>
        have hj : j ∈ Region.ready .any l.toArray listed := by rw [hr]; exact List.mem_cons_self
        obtain ⟨h1, o, h2, _⟩ := mem_ready.1 hj
        have hjl : j < l.length := by
          rcases Nat.lt_or_ge j l.length with h | h
          · exact h
          · simp [List.getElem?_eq_none h] at h2
        exact absurd (hl j hjl) (by rw [getD_both h1]; simp)
    · rw [H.all hB hl]
      refine hend vals w (by rw [← hk]; exact hI) fun j hj => ?_
      obtain ⟨o, ho⟩ : ∃ o, l[j]? = some o := ⟨l[j], by simp [hj]⟩
      obtain ⟨d, hd, _⟩ := (looseB_spec hB ho).dst
      obtain ⟨v, hv, _⟩ := H.done j o d ho hd (hl j hj)
      exact ⟨v, hv⟩
  | succ f ih =>
    intro k listed vals a w H hu hk hI
    refine ⟨fun hr => ?_, fun i hi => ?_⟩
    · -- the least that is not listed is ready
      exfalso
      have least : ∀ n, n ≤ l.length → (∀ j, j < n → listed.getD j false = true) := by
        intro n
        induction n with
        | zero => intro _ j hj; omega
        | succ n ihn =>
          intro hn j hj
          by_cases hjn : j = n
          · subst hjn
            cases hb : listed.getD j false with
            | true => rfl
            | false =>
              exfalso
              have ho : l[j]? = some l[j] := by simp [show j < l.length by omega]
              have : j ∈ Region.ready .any l.toArray listed := mem_ready.2 ⟨getD_in (by rw [H.size]; omega) hb, l[j], by simp [show j < l.length by omega], fun e he hbd => ihn (by omega) e.on ((looseB_spec hB ho).back e he hbd)⟩
              rw [hr] at this; cases this
          · exact ihn (by omega) j (by omega)
      have : unl listed l.length = 0 := by
        have hx := least l.length (Nat.le_refl _)
        have : ∀ n, n ≤ l.length → unl listed n = 0 := by
          intro n
          induction n with
          | zero => intro _; rfl
          | succ n ihn => intro hn; unfold unl; rw [ihn (by omega), hx n (by omega)]; rfl
        exact this _ (Nat.le_refl _)
      omega
    · obtain ⟨hun, o, ho, haft⟩ := mem_ready.1 hi
      have ho' : l[i]? = some o := by simpa using ho
      have hil : i < l.length := by
        rcases Nat.lt_or_ge i l.length with h | h
        · exact h
        · rw [List.getElem?_eq_none h] at ho'; cases ho'
      have hL := looseB_spec hB ho'
      obtain ⟨d, hd, hlt⟩ := hL.dst
      have hst := looseAll_at l 0 hall i o ho'
      rw [Nat.zero_add] at hst
      have hs := hst k vals w hI (by omega) (H.todo i (getD_both hun)) (fun j hj => by
        obtain ⟨e, he, h⟩ := List.mem_filterMap.1 hj
        by_cases hb : Region.binds .any e = true
        · rw [if_pos hb] at h; injection h with h; subst h
          have hlt' : e.on < l.length := by have := hL.back e (by simpa using he) hb; omega
          obtain ⟨oj, hoj⟩ : ∃ o, l[e.on]? = some o := ⟨l[e.on], by simp [hlt']⟩
          obtain ⟨dj, hdj, _⟩ := (looseB_spec hB hoj).dst
          obtain ⟨v, hv, _⟩ := H.done e.on oj dj hoj hdj (haft e (by simpa using he) hb)
          exact ⟨v, hv⟩
        · rw [if_neg hb] at h; cases h)
      rw [hd] at hs
      refine wpOp_of_own (F := fun v w' => Inv (k + 1) (updV vals i v) w') (a' := loadA vals (depsOf l.toArray o) a0) ho' (H.wanted hB ho' hi) hd (by rw [loadA_size]; exact hlt) (H.reads hB ho' hi) (by rw [loadA_defers]; exact hs) (fun v w' hv => ?_) hd
      exact ih (k + 1) _ _ _ w' (H.step hB ho' hd hi v) (by have := unl_set (listed := listed) (by rw [H.size]; exact hil) (getD_both hun) l.length hil; omega) (by omega) hv

/-- A region that draws its order, met operation by operation. -/
theorem wp_region_loose {P : Program} {id : Nat} {Q : Exit → Act → World → Prop} {a0 : Act} {w : World} {l : List Oper} (Inv : Nat → (Nat → Option Value) → World → Prop) (hm : P.follows .mixedOrders = true) (hB : looseB l a0.tmps.size = true)
    (h0 : Inv 0 (fun _ => none) w.drew) (hall : looseAll P l a0 Inv 0 l) (hend : ∀ vals w, Inv l.length vals w → (∀ j, j < l.length → ∃ v, vals j = some v) → Q .normal (putAll vals l 0 a0) w) : (Code.region id l.toArray true).wp P Q a0 w := by
  refine wp_region_any hm ?_
  have hsz : l.toArray.size = l.length := by simp
  rw [hsz]
  exact wpAny_loose hB hall hend l.length 0 _ _ a0 _ (Told.start l a0) (unl_fresh _ _) (by omega) h0

theorem wpList1_mono {P : Program} {ops : Array Oper} {Q Q' : Exit → Act → World → Prop} {o : Oper} {a : Act} {w : World} (h : ∀ e b w, Q e b w → Q' e b w) (hh : wpList P ops Q [o] a w) : wpList P ops Q' [o] a w := by
  have hout : LetsOut Q → LetsOut Q' := fun ⟨x, y, hx⟩ => ⟨x, y, h _ _ _ hx⟩
  unfold wpList at hh ⊢
  by_cases hw : Region.wanted o (yielded ops a.tmps) = true
  · simp only [hw, if_true] at hh ⊢
    rcases hh with hh | ⟨h1, h2⟩
    · left
      unfold Oper.wp at hh ⊢
      generalize (execOp a.eval o).run P w = r at hh ⊢
      cases r with
      | ok n w' =>
        cases n <;> simp only [Oper.upon, wpList] at hh ⊢ <;>
          first
            | exact h _ _ _ hh
            | exact Calls.mono hh (fun e w'' he => by cases e <;> first | exact h _ _ _ he | exact hout he)
            | exact Rows.mono hh (fun _ _ he => h _ _ _ he)
      | halt x w' => cases x <;> simp only [Oper.upon] at hh ⊢ <;> first | exact h _ _ _ hh | exact hh
    · exact Or.inr ⟨h1, hout h2⟩
  · simp only [hw] at hh ⊢
    exact h _ _ _ hh

/-- For every value that fits. -/
def givenD (φ : Nat → Value → Prop) : List (Nat × Tmp) → (Act → Prop) → Act → Prop
  | [], K, a => K a
  | (j, s) :: ds, K, a => ∀ v, φ j v → givenD φ ds K (a.put (some s) v)
def givenAll (φ : Nat → Value → Prop) (K : Act → Prop) : List Oper → Nat → Act → Prop
  | [], _, a => K a
  | o :: r, k, a => ∀ v, φ k v → givenAll φ K r (k + 1) (a.put o.dst v)
theorem givenD_use {φ : Nat → Value → Prop} {vals : Nat → Option Value} {K : Act → Prop} : ∀ (ds : List (Nat × Tmp)) (a : Act), givenD φ ds K a → (∀ p ∈ ds, ∃ v, vals p.1 = some v ∧ φ p.1 v) → K (loadA vals ds a)
  | [], _, h, _ => h
  | (j, s) :: ds, a, h, hv => by
    obtain ⟨v, h1, h2⟩ := hv (j, s) List.mem_cons_self
    unfold loadA
    rw [h1]
    exact givenD_use ds _ (h v h2) fun p hp => hv p (List.mem_cons_of_mem _ hp)
theorem givenAll_use {φ : Nat → Value → Prop} {vals : Nat → Option Value} {K : Act → Prop} : ∀ (r : List Oper) (k : Nat) (a : Act), givenAll φ K r k a → (∀ j, j < r.length → ∃ v, vals (k + j) = some v ∧ φ (k + j) v) → K (putAll vals r k a)
  | [], _, _, h, _ => h
  | o :: r, k, a, h, hv => by
    obtain ⟨v, h1, h2⟩ := hv 0 (by simp)
    unfold putAll
    rw [Nat.add_zero] at h1 h2
    rw [h1]
    exact givenAll_use r (k + 1) _ (h v h2) fun j hj => by have := hv (j + 1) (by simpa using hj); rwa [show k + (j + 1) = k + 1 + j by omega] at this

theorem givenD_go {φ : Nat → Value → Prop} {ds ds' : List (Nat × Tmp)} {K : Act → Prop} {a : Act} (hd : ds = ds') (h : givenD φ ds' K a) : givenD φ ds K a := by rw [hd]; exact h

/-- What one operation leaves. -/
structure PhiPost (C : Nat → World → Prop) (R : World → World → Prop) (φ : Value → World → Prop) (df : List Deferred) (d k : Nat) (w : World) (e : Exit) (b : Act) (w' : World) : Prop where
  normal : e = .normal
  defers : b.defers = df
  cls : C (k + 1) w'
  rel : R w w'
  val : φ (b.tmps.getD d undef) w'

def phiStep (P : Program) (l : List Oper) (N : Nat) (a0 : Act) (C : Nat → World → Prop) (R : World → World → Prop) (φ : Nat → Value → World → Prop) (i : Nat) (o : Oper) : Prop :=
  ∀ k w, C k w → k < N → givenD (fun j v => φ j v w) (depsOf l.toArray o) (fun a => wpList P l.toArray (PhiPost C R (φ i) a0.defers (o.dst.getD 0) k w) [o] a w) a0
def phiAll (P : Program) (l : List Oper) (N : Nat) (a0 : Act) (C : Nat → World → Prop) (R : World → World → Prop) (φ : Nat → Value → World → Prop) : Nat → List Oper → Prop
  | _, [] => True
  | i, o :: r => phiStep P l N a0 C R φ i o ∧ phiAll P l N a0 C R φ (i + 1) r
theorem phiAll_at {P : Program} {l : List Oper} {N : Nat} {a0 : Act} {C : Nat → World → Prop} {R : World → World → Prop} {φ : Nat → Value → World → Prop} (hN : l.length = N) (hmono : ∀ j v w w', R w w' → φ j v w → φ j v w') :
    ∀ (r : List Oper) (k : Nat), phiAll P l N a0 C R φ k r → looseAll P l a0 (fun k vals w => C k w ∧ ∀ j v, vals j = some v → φ j v w) k r
  | [], _, _ => trivial
  | o :: r, k, h => ⟨fun n vals w hI hn _ hd => by
      have h1 := givenD_use (vals := vals) _ _ (h.1 n w hI.1 (by rw [← hN]; exact hn)) fun p hp => by
        obtain ⟨e, he, hb, he2, _, _⟩ := mem_depsOf.1 (show (p.1, p.2) ∈ _ from hp)
        obtain ⟨v, hv⟩ := hd p.1 (List.mem_filterMap.2 ⟨e, by simpa using he, by rw [if_pos hb, he2]⟩)
        exact ⟨v, hv, hI.2 p.1 v hv⟩
      refine wpList1_mono (fun e b w' hh => ?_) h1
      obtain ⟨a1, a2, a3, a4, a5⟩ := hh
      refine ⟨a1, a2, a3, fun j v hv => ?_⟩
      unfold updV at hv
      by_cases hj : j = k
      · rw [if_pos hj] at hv; injection hv with hv; rw [hj, ← hv]; exact a5
      · rw [if_neg hj] at hv; exact hmono _ _ _ _ a4 (hI.2 j v hv), phiAll_at hN hmono r (k + 1) h.2⟩

/-- A region that draws its order: what is so of the world after k operations, and what is so of each operation's value from then on. -/
theorem wp_region_phi {P : Program} {id : Nat} {Q : Exit → Act → World → Prop} {a0 : Act} {w : World} {l : List Oper} (N : Nat) (C : Nat → World → Prop) (R : World → World → Prop) (φ : Nat → Value → World → Prop) (hm : P.follows .mixedOrders = true) (hB : looseB l a0.tmps.size = true) (hN : l.length = N)
    (hmono : ∀ j v w w', R w w' → φ j v w → φ j v w') (h0 : C 0 w.drew) (hall : phiAll P l N a0 C R φ 0 l) (hend : ∀ w', C N w' → givenAll (fun j v => φ j v w') (fun a => Q .normal a w') l 0 a0) : (Code.region id l.toArray true).wp P Q a0 w :=
  wp_region_loose (fun k vals w => C k w ∧ ∀ j v, vals j = some v → φ j v w) hm hB ⟨h0, fun _ _ h => by cases h⟩ (phiAll_at hN hmono l 0 hall)
    (fun vals w' hI hv => givenAll_use l 0 a0 (hend w' (by rw [← hN]; exact hI.1)) fun j hj => by obtain ⟨v, h⟩ := hv j hj; rw [Nat.zero_add]; exact ⟨v, h, hI.2 j v h⟩)

end Go.Proofs.YtkkkkgcijkjeoaaDoor
