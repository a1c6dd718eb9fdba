/- Rows of the call's own that grow by append, and copy into a row: plain words and the laws in their form. -/
import Derived.Test.YtkkkkgcijkjeoaaDoorMem
import Derived.Maps.AppendAt
import Derived.Laws.CopyOwn
namespace Go.Proofs.YtkkkkgcijkjeoaaDoor
set_option linter.unusedVariables false
set_option linter.unusedSimpArgs false
open Go.RowKit

/-- The slice v, of n elements of one cell each, is the call's own (from block lo on); element i is V i. -/
def OwnS (w : World) (lo : Nat) (e : TypeId) (v : Value) (n : Nat) (V : Nat → Value) : Prop := w.ownsRow lo e 1 v n ((List.range n).map V)

section
variable {w w' : World} {lo : Nat} {e : TypeId} {v : Value} {n : Nat} {V V' : Nat → Value}

theorem OwnS.congr (h : OwnS w lo e v n V) (he : ∀ i, i < n → V i = V' i) : OwnS w lo e v n V' := by
  unfold OwnS at *
  rwa [← List.map_congr_left (fun i hi => he i (List.mem_range.1 hi))]

theorem OwnS.slice (h : OwnS w lo e v n V) : ∃ A c, v = .slice A n c ∧ n ≤ c := by
  rcases h.2 with ⟨rfl, rfl⟩ | ⟨g, cap, cur, rfl, _, _, hc, _⟩
  · exact ⟨none, 0, rfl, Nat.le_refl _⟩
  · exact ⟨_, cap, rfl, hc⟩

theorem OwnS.row (h : OwnS w lo e v n V) (hn : 0 < n) : ∃ b c cur, v = .slice (some ⟨b, 0, none⟩) n c ∧ lo ≤ b ∧ w.heap[b]? = some (.cells cur e (0, 0)) ∧ n ≤ c ∧ cur.size = c ∧ ∀ k, k < n → cur[k]? = some (V k) := by
  rcases h.2 with ⟨_, rfl⟩ | ⟨g, cap, cur, rfl, hlo, hg, hc, _, hs, ht⟩
  · omega
  · refine ⟨g, cap, cur, rfl, hlo, hg, hc, by omega, fun k hk => ?_⟩
    have : (cur.toList.take (n * 1))[k]? = ((List.range n).map V)[k]? := by rw [ht]
    rw [List.getElem?_take_of_lt (by omega)] at this
    simpa [hk] using this

theorem OwnS.cell (h : OwnS w lo e v n V) {k : Nat} (hk : k < n) : ∃ b c, v = .slice (some ⟨b, 0, none⟩) n c ∧ n ≤ c ∧ lo ≤ b ∧ w.cell? ⟨b, k, none⟩ = some (V k) ∧ w.frozen? ⟨b, k, none⟩ = false := by
  obtain ⟨b, c, cur, rfl, hlo, hg, hc, _, hk'⟩ := h.row (by omega)
  exact ⟨b, c, rfl, hc, hlo, by simp [World.cell?, hg, hk' k hk], by simp [World.frozen?, hg]⟩

theorem OwnS.of_block (h : OwnS w lo e v n V) (hb : ∀ k, v.ownBlock = some k → w'.heap[k]? = w.heap[k]?) : OwnS w' lo e v n V := by
  refine ⟨h.1, ?_⟩
  rcases h.2 with h0 | ⟨g, cap, cur, rfl, hlo, hg, r⟩
  · exact .inl h0
  · exact .inr ⟨g, cap, cur, rfl, hlo, (hb g rfl).trans hg, r⟩

theorem OwnS.lt (h : OwnS w lo e v n V) {k : Nat} (hk : v.ownBlock = some k) : lo ≤ k ∧ k < w.heap.size := World.ownsRow.lt h k hk

theorem OwnS.type (h : OwnS w lo e v n V) {k : Nat} (hk : v.ownBlock = some k) : ∃ cur, w.heap[k]? = some (.cells cur e (0, 0)) := by
  rcases h.2 with ⟨rfl, _⟩ | ⟨g, cap, cur, rfl, _, hg, _⟩
  · simp [Value.ownBlock] at hk
  · simp [Value.ownBlock] at hk
    subst hk
    exact ⟨cur, hg⟩

theorem OwnS.below (h : OwnS w lo e v n V) (hb : Below w.heap.size w w') : OwnS w' lo e v n V := h.of_block fun k hk => hb.block k (h.lt hk).2
theorem OwnS.alloc (h : OwnS w lo e v n V) (o : Obj) : OwnS (w.alloc o) lo e v n V := h.below (below_alloc w o)
theorem OwnS.mono {lo' : Nat} (h : OwnS w lo e v n V) (hl : lo' ≤ lo) : OwnS w lo' e v n V := by
  refine ⟨h.1, ?_⟩
  rcases h.2 with h0 | ⟨g, cap, cur, rfl, hlo, r⟩
  · exact .inl h0
  · exact .inr ⟨g, cap, cur, rfl, by omega, r⟩

theorem OwnS.new (w : World) (lo : Nat) (e : TypeId) (V : Nat → Value) (hlo : lo ≤ w.heap.size) (cs : Array Value) (cap : Nat) (hc : cs.size = cap) (hm : cap ≤ maxLen) : OwnS (w.alloc (.cells cs e)) lo e (.slice (some ⟨w.heap.size, 0, none⟩) 0 cap) 0 V :=
  ⟨by simp, .inr ⟨_, cap, cs, rfl, hlo, heap_alloc_new w _, Nat.zero_le _, hm, by omega, by simp⟩⟩
theorem OwnS.nil (w : World) (lo : Nat) (e : TypeId) (V : Nat → Value) : OwnS w lo e (.slice none 0 0) 0 V := ⟨by simp, .inl ⟨rfl, rfl⟩⟩

theorem OwnS.snoc {x : Value} (h : w.ownsRow lo e 1 v (n + 1) ((List.range n).map V ++ [x])) : OwnS w lo e v (n + 1) (fun i => if i < n then V i else x) := by
  unfold OwnS
  rw [List.range_succ, List.map_append]
  have : (List.range n).map (fun i => if i < n then V i else x) = (List.range n).map V := List.map_congr_left fun i hi => by simp [List.mem_range.1 hi]
  rw [this]
  simpa using h

theorem OwnS.store (h : OwnS w lo e v n V) {b c k : Nat} (hv : v = .slice (some ⟨b, 0, none⟩) n c) (hk : k < n) (x : Value) : OwnS (w.setCell ⟨b, k, none⟩ x) lo e v n (fun i => if i = k then x else V i) := by
  refine ⟨by simp, ?_⟩
  rcases h.2 with ⟨rfl, h0⟩ | ⟨g, cap, cur, rfl, hlo, hg, hc, hm, hs, ht⟩
  · omega
  · injection hv with hv1 hv2 hv3
    injection hv1 with hv1
    injection hv1 with hv1
    subst hv1
    refine .inr ⟨g, cap, cur.setIfInBounds k x, rfl, hlo, by simp [World.setCell, Array.getElem?_modify, hg], hc, hm, by simpa using hs, ?_⟩
    have hlen : cur.toList.length = cap := by simp; omega
    rw [Nat.mul_one] at ht ⊢
    apply List.ext_getElem?
    intro i
    have hti : (cur.toList.take n)[i]? = ((List.range n).map V)[i]? := by rw [ht]
    by_cases hi : i < n
    · rw [List.getElem?_take_of_lt hi] at hti ⊢
      simp [hi] at hti ⊢
      by_cases e' : k = i
      · subst e'
        have : k < cur.size := by omega
        simp [this]
      · have e'' : i ≠ k := fun h => e' h.symm
        simp [e', e'', hti]
    · rw [List.getElem?_take_eq_none (by omega), List.getElem?_eq_none (by simp; omega)]
end

/-- What an append to a row of the call's own leaves: nothing else that was there has changed. -/
structure Grew (w w' : World) (v v' : Value) : Prop where
  os : w'.os = w.os
  tape : w'.tape = w.tape
  output : w'.output = w.output
  size : w.heap.size ≤ w'.heap.size
  block : ∀ k, k < w.heap.size → v.ownBlock ≠ some k → w'.heap[k]? = w.heap[k]?
  at_ : v'.ownBlock = v.ownBlock ∨ ∃ k, v'.ownBlock = some k ∧ w.heap.size ≤ k

theorem Grew.below {w w' : World} {v v' : Value} (h : Grew w w' v v') {B : Nat} (hB : B ≤ w.heap.size) (hv : ∀ k, v.ownBlock = some k → B ≤ k) : Below B w w' :=
  ⟨h.os, h.tape, h.output, h.size, fun k hk => h.block k (by omega) (fun e => by have := hv k e; omega)⟩

/-- append(s, x), one element. -/
theorem wpList_app1 {P : Program} {w : World} {ops : Array Oper} {rest : List Oper} {o : Oper} {a : Act} {Q : Exit → Act → World → Prop} (hgd : o.guard = none) (s y : Operand) (t : TypeId)
    (ho : o.op = .call { callee := .builtin .append, args := #[s, y], argTypes := #[t, t] })
    {lo : Nat} {e : TypeId} {z : Value} {bytes : Nat} (ht : P.underlying t = some (.slice e)) (hi : (P.info? e).map (fun i => (i.zero, i.size, i.bytes)) = some (some z, 1, bytes)) (hz : z.cells.size = 1)
    {v : Value} {n : Nat} {V : Nat → Value} (hs : a.eval s = v) (hown : OwnS w lo e v n V) {x : Value} (hx : x.oneCell' = true) {T : TypeId}
    (hy : a.eval y = .slice (some ⟨w.heap.size, 0, none⟩) 1 1) (hn : n ≤ 4194304) (hby : bytes ≤ 1048576) (hlo : lo ≤ w.heap.size)
    (h : ∀ v' w', OwnS w' lo e v' (n + 1) (fun i => if i < n then V i else x) → Grew w w' v v' → wpList P ops Q rest (a.put o.dst v') w') :
    wpList P ops Q (o :: rest) a (w.alloc (.cells #[x] T)) := by
  obtain ⟨i, hi0, hz0, hz1, hz2⟩ := info_parts hi
  have hb : (n + 1) * bytes ≤ 140737488355328 := Nat.le_trans (Nat.mul_le_mul (by omega : n + 1 ≤ 4194305) hby) (by decide)
  obtain ⟨v', w', hrun, h2, h3, _, h5⟩ := run_append_own_at (P := P) (w.alloc (.cells #[x] T)) lo t o.type e i z 1 bytes ht hi0 hz0 hz1 hz2 hz (by decide) v n ((List.range n).map V) (OwnS.alloc hown _) ⟨w.heap.size, 0, none⟩ 1 1 [x] rfl
    (by intro j u hj; match j, hj with | 0, hj => simp at hj; subst hj; exact (by unfold World.cell? Addr.add; simp only [if_true]; rw [heap_alloc_new]; rfl)) (by intro u hu; simp at hu; subst hu; exact hx) (by unfold maxLen; omega) hb (by simp; omega)
  refine wpList_plain hgd fun K hK => ?_
  unfold Oper.wp execOp
  simp only [ho, resolve, invoke, builtin, Sem.run_bind, Sem.run_pure, Result.andThen_ok, List.map_toArray, List.map_cons, List.map_nil, hs, hy, hrun]
  refine hK _ _ (h v' w' (OwnS.snoc h2) ⟨h3.os, h3.tape, h3.output, Nat.le_trans (by simp) h3.size, fun k hk hne => ?_, ?_⟩)
  · rw [h3.block k (by simp; omega) (fun e => hne e.symm)]
    exact Below.heap_alloc w _ k hk
  · rcases h5 with h5 | h5
    · exact .inl h5
    · exact .inr ⟨_, h5, by simp⟩

/-- append(s, xs...): the source nil or not. -/
theorem wpList_appN {P : Program} {w : World} {ops : Array Oper} {rest : List Oper} {o : Oper} {a : Act} {Q : Exit → Act → World → Prop} (hgd : o.guard = none) (s y : Operand) (t : TypeId)
    (ho : o.op = .call { callee := .builtin .append, args := #[s, y], argTypes := #[t, t] })
    {lo : Nat} {e : TypeId} {z : Value} {bytes : Nat} (ht : P.underlying t = some (.slice e)) (hi : (P.info? e).map (fun i => (i.zero, i.size, i.bytes)) = some (some z, 1, bytes)) (hz : z.cells.size = 1)
    {v : Value} {n : Nat} {V : Nat → Value} (hs : a.eval s = v) (hown : OwnS w lo e v n V) {A : Option Addr} {m c : Nat} {S : Nat → Value} (hS : ∀ k, k < m → (S k).oneCell' = true)
    (hy : a.eval y = .slice A m c) (hsrc : ∀ k, k < m → ∃ b o, A = some ⟨b, o, none⟩ ∧ w.cell? ⟨b, o + k, none⟩ = some (S k)) (hn : n + m ≤ 4194304) (hby : bytes ≤ 1048576) (hlo : lo ≤ w.heap.size)
    (h : ∀ v' w', OwnS w' lo e v' (n + m) (fun i => if i < n then V i else S (i - n)) → Grew w w' v v' → wpList P ops Q rest (a.put o.dst v') w') :
    wpList P ops Q (o :: rest) a w := by
  obtain ⟨i, hi0, hz0, hz1, hz2⟩ := info_parts hi
  have hb : (n + m) * bytes ≤ 140737488355328 := Nat.le_trans (Nat.mul_le_mul hn hby) (by decide)
  have hV : (List.range (n + m)).map (fun i => if i < n then V i else S (i - n)) = (List.range n).map V ++ (List.range m).map S := by
    rw [List.range_add, List.map_append, List.map_map]
    congr 1
    · exact List.map_congr_left fun i hi => by simp [List.mem_range.1 hi]
    · exact List.map_congr_left fun i _ => by simp; omega
  have key : ∃ v' w', (Builtin.append_ #[t, t] o.type #[v, .slice A m c]).run P w = .ok v' w' ∧ w'.ownsRow lo e 1 v' (n + m) ((List.range n).map V ++ (List.range m).map S) ∧ w.grownBy w' v.ownBlock ∧ (v'.ownBlock = v.ownBlock ∨ v'.ownBlock = some w.heap.size) := by
    cases A with
    | none =>
      have hm : m = 0 := by
        rcases Nat.eq_zero_or_pos m with h0 | h0
        · exact h0
        · obtain ⟨_, _, h, _⟩ := hsrc 0 h0; cases h
      subst hm
      refine ⟨v, w, ?_, by simpa [OwnS] using hown, ⟨rfl, rfl, rfl, Nat.le_refl _, fun _ _ _ => rfl⟩, .inl rfl⟩
      rcases hown.2 with ⟨rfl, rfl⟩ | ⟨g, cap, cur, rfl, _, _, hnc, _⟩
      · simp [Builtin.append_, run_underlying ht, sizeOf, typeInfo, hi0, Builtin.lenOf, Builtin.firstCells]
      · simp [Builtin.append_, run_underlying ht, sizeOf, typeInfo, hi0, Builtin.lenOf, Builtin.firstCells, hnc, storeCells]
    | some ad =>
      obtain ⟨v', w', hrun, h2, h3, _, h5⟩ := run_append_own_at (P := P) w lo t o.type e i z 1 bytes ht hi0 hz0 hz1 hz2 hz (by decide) v n ((List.range n).map V) hown ad m c ((List.range m).map S) (by simp)
        (fun j u hj => by
          have hjm : j < m := by
            rcases Nat.lt_or_ge j m with h | h
            · exact h
            · rw [List.getElem?_eq_none (by simpa using h)] at hj; cases hj
          obtain ⟨b, o', hA, hc⟩ := hsrc j hjm
          injection hA with hA
          subst hA
          simp [hjm] at hj
          subst hj
          rw [← hc]
          unfold Addr.add
          by_cases h0 : j = 0
          · subst h0; simp
          · simp [h0]) (fun u hu => by
          obtain ⟨k, hk, rfl⟩ := List.mem_map.1 hu
          exact hS k (List.mem_range.1 hk)) (by unfold maxLen; omega) hb hlo
      exact ⟨v', w', hrun, h2, h3, h5⟩
  obtain ⟨v', w', hrun, h2, h3, h5⟩ := key
  refine wpList_plain hgd fun K hK => ?_
  unfold Oper.wp execOp
  simp only [ho, resolve, invoke, builtin, Sem.run_bind, Sem.run_pure, Result.andThen_ok, List.map_toArray, List.map_cons, List.map_nil, hs, hy, hrun]
  refine hK _ _ (h v' w' ?_ ⟨h3.os, h3.tape, h3.output, h3.size, fun k hk hne => h3.block k hk (fun e => hne e.symm), ?_⟩)
  · unfold OwnS; rw [hV]; exact h2
  · rcases h5 with h5 | h5
    · exact .inl h5
    · exact .inr ⟨_, h5, Nat.le_refl _⟩

/-- copy(d, s): all of a row of the call's own. -/
theorem wpList_copyAll {P : Program} {w : World} {ops : Array Oper} {rest : List Oper} {o : Oper} {a : Act} {Q : Exit → Act → World → Prop} (hgd : o.guard = none) (d s : Operand) (dT sT : TypeId)
    (ho : o.op = .call { callee := .builtin .copy, args := #[d, s], argTypes := #[dT, sT] }) {elem : TypeId} (hu : P.underlying dT = some (.slice elem)) (hsz : (P.info? elem).map (·.size) = some 1)
    {g n dCap b off sCap : Nat} {t : TypeId} {f0 f : Nat → Value} (hd : a.eval d = .slice (some ⟨g, 0, none⟩) n dCap) (hs : a.eval s = .slice (some ⟨b, off, none⟩) n sCap)
    (hrow : w.rowIs g t n f0) (hsrc : ∀ k, k < n → w.cell? ⟨b, off + k, none⟩ = some (f k)) (h1 : ∀ k, k < n → (f k).oneCell' = true)
    (h : ∀ w', w'.rowIs g t n f → w.grownBy w' (some g) → w'.heap.size = w.heap.size → wpList P ops Q rest (a.put o.dst (goInt n)) w') : wpList P ops Q (o :: rest) a w := by
  obtain ⟨cur, hg, hsize, _⟩ := hrow
  have hl : ((List.range n).map f).length = n := by simp
  have hmn : ((List.range n).map f).length = Nat.min n n := by rw [hl]; exact (Nat.min_self n).symm
  refine wpList_copy_own hgd d s dT sT ho elem hu hsz g 0 n dCap ⟨b, off, none⟩ n sCap hd hs cur t hg ((List.range n).map f) hmn (fun j u hj => ?_) (by rw [hl]; omega) (fun u hu => ?_) ?_
  · have hjn : j < n := by
      rcases Nat.lt_or_ge j n with h | h
      · exact h
      · rw [List.getElem?_eq_none (by simpa using h)] at hj; cases hj
    simp [hjn] at hj
    subst hj
    rw [← hsrc j hjn]
    unfold Addr.add
    by_cases h0 : j = 0
    · subst h0; simp
    · simp [h0]
  · obtain ⟨k, hk, rfl⟩ := List.mem_map.1 hu
    exact h1 k (List.mem_range.1 hk)
  · rw [hl]
    refine h _ ⟨((List.range n).map f).toArray, ?_, by simp, fun i hi => by simp [hi]⟩ ?_ ?_
    · have e : (cur.toList.take 0 ++ ((List.range n).map f ++ cur.toList.drop (0 + n))).toArray = ((List.range n).map f).toArray := by
        have : cur.toList.drop (0 + n) = [] := List.drop_eq_nil_of_le (by simp; omega)
        rw [this]; simp
      rw [e]
      simp [World.setRow, Array.getElem?_modify, hg]
    · refine ⟨rfl, rfl, rfl, by simp [World.setRow], fun k hk hne => ?_⟩
      simp only [World.setRow, Array.getElem?_modify]
      rw [if_neg (fun e => hne (by rw [e]))]
    · simp [World.setRow]

end Go.Proofs.YtkkkkgcijkjeoaaDoor
