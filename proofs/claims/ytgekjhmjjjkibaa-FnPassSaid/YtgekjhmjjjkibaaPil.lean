/- The heap of steps of the program: a row of pairs of the call's own. -/
import Derived.Test.YtgekjhmjjjkibaaOwn
import Derived.Test.YtgekjhmjjjkibaaAhd
namespace Go.Proofs.Ytgekjhmjjjkibaa
set_option linter.unusedVariables false
set_option linter.unusedSimpArgs false
open Go.RowKit

/-- A row of n steps (a cell and a height) of the call's own, two cells each. -/
def OwnP (w : World) (lo : Nat) (v : Value) (n : Nat) (c p : Nat → Int) : Prop := w.ownsRow lo 77 2 v n ((List.range (n * 2)).map fun k => .int .i64 (if k % 2 = 0 then c (k / 2) else p (k / 2)))

section
variable {w w' : World} {lo : Nat} {v : Value} {n : Nat} {c p : Nat → Int}
theorem OwnP.slice (h : OwnP w lo v n c p) : ∃ A d, v = .slice A n d ∧ n ≤ d := by
  rcases h.2 with ⟨rfl, rfl⟩ | ⟨g, cap, cur, rfl, _, _, hc, _⟩
  · exact ⟨none, 0, rfl, Nat.le_refl _⟩
  · exact ⟨_, cap, rfl, hc⟩
theorem OwnP.cells (h : OwnP w lo v n c p) (hn : 0 < n) : ∃ b d cur, v = .slice (some ⟨b, 0, none⟩) n d ∧ lo ≤ b ∧ w.heap[b]? = some (.cells cur 77 (0, 0)) ∧ n ≤ d ∧ cur.size = d * 2 ∧ ∀ k, k < n → cur[k * 2]? = some (.int .i64 (c k)) ∧ cur[k * 2 + 1]? = some (.int .i64 (p k)) := by
  rcases h.2 with ⟨_, rfl⟩ | ⟨g, cap, cur, rfl, hlo, hg, hc, _, hs, ht⟩
  · omega
  · have hat : ∀ j, j < n * 2 → cur[j]? = some (.int .i64 (if j % 2 = 0 then c (j / 2) else p (j / 2))) := fun j hj => by
      have : (cur.toList.take (n * 2))[j]? = ((List.range (n * 2)).map fun k => Value.int .i64 (if k % 2 = 0 then c (k / 2) else p (k / 2)))[j]? := by rw [ht]
      rw [List.getElem?_take_of_lt (by omega)] at this
      simpa [hj] using this
    refine ⟨g, cap, cur, rfl, hlo, hg, hc, hs, fun k hk => ⟨?_, ?_⟩⟩
    · rw [hat _ (by omega), if_pos (by omega), show k * 2 / 2 = k by omega]
    · rw [hat _ (by omega), if_neg (by omega), show (k * 2 + 1) / 2 = k by omega]
theorem OwnP.of_block (h : OwnP w lo v n c p) (hb : ∀ k, v.ownBlock = some k → w'.heap[k]? = w.heap[k]?) : OwnP w' lo v n c p := by
  refine ⟨h.1, ?_⟩
  rcases h.2 with h0 | ⟨g, cap, cur, rfl, hlo, hg, r⟩
  · exact .inl h0
  · exact .inr ⟨g, cap, cur, rfl, hlo, (hb g rfl).trans hg, r⟩
theorem OwnP.lt (h : OwnP w lo v n c p) {k : Nat} (hk : v.ownBlock = some k) : lo ≤ k ∧ k < w.heap.size := World.ownsRow.lt h k hk
theorem OwnP.below (h : OwnP w lo v n c p) (hb : Below w.heap.size w w') : OwnP w' lo v n c p := h.of_block fun k hk => hb.block k (h.lt hk).2
theorem OwnP.alloc (h : OwnP w lo v n c p) (o : Obj) : OwnP (w.alloc o) lo v n c p := h.below (below_alloc w o)
theorem OwnP.nil (w : World) (lo : Nat) (c p : Nat → Int) : OwnP w lo (.slice none 0 0) 0 c p := ⟨by simp, .inl ⟨rfl, rfl⟩⟩
end

theorem info_parts2 {P : Program} {e : TypeId} {z : Value} {bytes : Nat} (h : (P.info? e).map (fun i => (i.zero, i.size, i.bytes)) = some (some z, 2, bytes)) : ∃ i, P.info? e = some i ∧ i.zero = some z ∧ i.size = 2 ∧ i.bytes = bytes := by
  cases hi : P.info? e with
  | none => rw [hi] at h; cases h
  | some i => rw [hi] at h; simp at h; exact ⟨i, rfl, h.1, h.2.1, h.2.2⟩
theorem OwnP.snoc {w : World} {lo : Nat} {v : Value} {n : Nat} {c p : Nat → Int} {x y : Int} (h : w.ownsRow lo 77 2 v (n + 1) (((List.range (n * 2)).map fun k => .int .i64 (if k % 2 = 0 then c (k / 2) else p (k / 2))) ++ [.int .i64 x, .int .i64 y])) : OwnP w lo v (n + 1) (fun k => if k < n then c k else x) (fun k => if k < n then p k else y) := by
  unfold OwnP
  have e : ((List.range ((n + 1) * 2)).map fun k => Value.int .i64 (if k % 2 = 0 then (if k / 2 < n then c (k / 2) else x) else (if k / 2 < n then p (k / 2) else y))) = ((List.range (n * 2)).map fun k => .int .i64 (if k % 2 = 0 then c (k / 2) else p (k / 2))) ++ [.int .i64 x, .int .i64 y] := by
    rw [show (n + 1) * 2 = n * 2 + 1 + 1 by omega, List.range_succ, List.range_succ, List.map_append, List.map_append, List.append_assoc]
    congr 1
    · refine List.map_congr_left fun k hk => ?_
      have hk := List.mem_range.1 hk
      rw [if_pos (show k / 2 < n by omega), if_pos (show k / 2 < n by omega)]
    · simp only [List.map_cons, List.map_nil, List.cons_append, List.nil_append]
      rw [if_pos (show n * 2 % 2 = 0 by omega), if_neg (show ¬ n * 2 / 2 < n by omega), if_neg (show ¬ (n * 2 + 1) % 2 = 0 by omega), if_neg (show ¬ (n * 2 + 1) / 2 < n by omega)]
  rw [e]
  exact h

/-- append(s, step), one step. -/
theorem wpList_appP {P : Program} {w : World} {ops : Array Oper} {rest : List Oper} {o : Oper} {a : Act} {Q : Exit → Act → World → Prop} (hgd : o.guard = none) (s y : Operand) (t : TypeId)
    (ho : o.op = .call { callee := .builtin .append, args := #[s, y], argTypes := #[t, t] })
    {lo : Nat} {z : Value} {bytes : Nat} (ht : P.underlying t = some (.slice 77)) (hi : (P.info? 77).map (fun i => (i.zero, i.size, i.bytes)) = some (some z, 2, bytes)) (hz : z.cells.size = 2)
    {v : Value} {n : Nat} {c p : Nat → Int} (hs : a.eval s = v) (hown : OwnP w lo v n c p) {x u : Int} {T : TypeId}
    (hy : a.eval y = .slice (some ⟨w.heap.size, 0, none⟩) 1 1) (hn : n ≤ 4194304) (hby : bytes ≤ 1048576) (hlo : lo ≤ w.heap.size)
    (h : ∀ v' w', OwnP w' lo v' (n + 1) (fun k => if k < n then c k else x) (fun k => if k < n then p k else u) → Grew w w' v v' → wpList P ops Q rest (a.put o.dst v') w') :
    wpList P ops Q (o :: rest) a (w.alloc (.cells #[.int .i64 x, .int .i64 u] T)) := by
  obtain ⟨i, hi0, hz0, hz1, hz2⟩ := info_parts2 hi
  have hb : (n + 1) * bytes ≤ 140737488355328 := Nat.le_trans (Nat.mul_le_mul (by omega : n + 1 ≤ 4194305) hby) (by decide)
  obtain ⟨v', w', hrun, h2, h3, _, h5⟩ := run_append_own_at (P := P) (w.alloc (.cells #[.int .i64 x, .int .i64 u] T)) lo t o.type 77 i z 2 bytes ht hi0 hz0 hz1 hz2 hz (by decide) v n _ (OwnP.alloc hown _) ⟨w.heap.size, 0, none⟩ 1 1 [.int .i64 x, .int .i64 u] rfl
    (by intro j q hj; match j, hj with
        | 0, hj => simp at hj; subst hj; exact (by unfold World.cell? Addr.add; simp only [if_true]; rw [heap_alloc_new]; rfl)
        | 1, hj => simp at hj; subst hj; exact (by unfold World.cell? Addr.add; rw [if_neg (by decide)]; show (match (w.alloc _).heap[w.heap.size]? with | some (Obj.cells c elem frozen) => _ | x => none) = _; rw [heap_alloc_new]; rfl)) (by intro q hq; simp at hq; rcases hq with hq | hq <;> subst hq <;> rfl) (by unfold maxLen; omega) hb (by simp; omega)
  refine wpList_plain hgd fun K hK => ?_
  unfold Oper.wp execOp
  simp only [ho, resolve, invoke, builtin, Sem.run_bind, Sem.run_pure, Result.andThen_ok, List.map_toArray, List.map_cons, List.map_nil, hs, hy, hrun]
  refine hK _ _ (h v' w' (OwnP.snoc h2) ⟨h3.os, h3.tape, h3.output, Nat.le_trans (by simp) h3.size, fun k hk hne => ?_, ?_⟩)
  · rw [h3.block k (by simp; omega) (fun e => hne e.symm)]
    exact Below.heap_alloc w _ k hk
  · rcases h5 with h5 | h5
    · exact .inl h5
    · exact .inr ⟨_, h5, by simp⟩

/-- Two stores: the item k is (x, y). -/
theorem OwnP.put {w : World} {lo b d n : Nat} {c p : Nat → Int} (h : OwnP w lo (.slice (some ⟨b, 0, none⟩) n d) n c p) {k : Nat} (hk : k < n) (x y : Int) :
    OwnP ((w.setCell ⟨b, k * 2, none⟩ (.int .i64 x)).setCell ⟨b, k * 2 + 1, none⟩ (.int .i64 y)) lo (.slice (some ⟨b, 0, none⟩) n d) n (upd c k x) (upd p k y) := by
  refine ⟨by simp, ?_⟩
  rcases h.2 with ⟨_, h0⟩ | ⟨g, cap, cur, hv, hlo, hg, hc, hm, hs, ht⟩
  · omega
  · injection hv with hv1 hv2 hv3
    injection hv1 with hv1
    injection hv1 with hv1
    subst hv1 hv3
    refine .inr ⟨b, d, (cur.setIfInBounds (k * 2) (.int .i64 x)).setIfInBounds (k * 2 + 1) (.int .i64 y), rfl, hlo, by simp [World.setCell, Array.getElem?_modify, hg], hc, hm, by simpa using hs, ?_⟩
    have hlen : cur.toList.length = d * 2 := by simp; omega
    apply List.ext_getElem?
    intro i
    have hti : (cur.toList.take (n * 2))[i]? = ((List.range (n * 2)).map fun k => Value.int .i64 (if k % 2 = 0 then c (k / 2) else p (k / 2)))[i]? := by rw [ht]
    by_cases hi : i < n * 2
    · rw [List.getElem?_take_of_lt hi] at hti ⊢
      simp [hi] at hti ⊢
      by_cases e1 : k * 2 + 1 = i
      · subst e1
        have : k * 2 + 1 < cur.size := by omega
        simp [this, show (k * 2 + 1) / 2 = k by omega, show ¬ (k * 2 + 1) % 2 = 0 by omega, upd_at]
      · rw [List.getElem?_set_ne (by omega)]
        by_cases e2 : k * 2 = i
        · subst e2
          have : k * 2 < cur.size := by omega
          simp [this, upd_at]
        · rw [List.getElem?_set_ne (by omega), Array.getElem?_toList, hti]
          by_cases e3 : i % 2 = 0
          · rw [if_pos e3, if_pos e3, upd_ne _ _ (by omega)]
          · rw [if_neg e3, if_neg e3, upd_ne _ _ (by omega)]
    · rw [List.getElem?_take_eq_none (by omega), List.getElem?_eq_none (by simp; omega)]
theorem OwnP.congr {w : World} {lo : Nat} {v : Value} {n : Nat} {c p c' p' : Nat → Int} (h : OwnP w lo v n c p) (hc : ∀ k, k < n → c k = c' k) (hp : ∀ k, k < n → p k = p' k) : OwnP w lo v n c' p' := by
  unfold OwnP at *
  rwa [← List.map_congr_left fun k hk => ?_]
  have hk := List.mem_range.1 hk
  rw [hc _ (by omega), hp _ (by omega)]
/-- The row without its last item. -/
theorem OwnP.pop {w : World} {lo b d n : Nat} {c p : Nat → Int} (h : OwnP w lo (.slice (some ⟨b, 0, none⟩) (n + 1) d) (n + 1) c p) : OwnP w lo (.slice (some ⟨b, 0, none⟩) n d) n c p := by
  refine ⟨by simp, ?_⟩
  rcases h.2 with ⟨_, h0⟩ | ⟨g, cap, cur, hv, hlo, hg, hc, hm, hs, ht⟩
  · omega
  · injection hv with hv1 hv2 hv3
    injection hv1 with hv1
    injection hv1 with hv1
    subst hv1 hv3
    refine .inr ⟨b, d, cur, rfl, hlo, hg, by omega, hm, hs, ?_⟩
    have := congrArg (List.take (n * 2)) ht
    rw [List.take_take, Nat.min_eq_left (by omega), ← List.map_take, List.take_range, Nat.min_eq_left (by omega)] at this
    exact this

/-- The items, as pairs. -/
def Has (n : Nat) (c : Nat → Nat) (p : Nat → Int) (a : Nat) (b : Int) : Prop := ∃ k, k < n ∧ c k = a ∧ p k = b
theorem swapI_swapI {α : Type} (f : Nat → α) (i j : Nat) : swapI (swapI f i j) i j = f := by
  funext k
  simp only [swapI]
  by_cases h1 : k = i
  · subst h1
    by_cases h2 : j = k
    · subst h2; simp
    · simp [h2]
  · by_cases h2 : k = j
    · subst h2; simp [h1]
    · simp [h1, h2]
theorem Has.swap {n : Nat} {c : Nat → Nat} {p : Nat → Int} {i j : Nat} (hi : i < n) (hj : j < n) (a : Nat) (b : Int) : Has n (swapI c i j) (swapI p i j) a b ↔ Has n c p a b := by
  have key : ∀ (c : Nat → Nat) (p : Nat → Int), Has n c p a b → Has n (swapI c i j) (swapI p i j) a b := by
    rintro c p ⟨k, hk, e1, e2⟩
    by_cases h1 : k = i
    · by_cases h2 : j = i
      · exact ⟨i, hi, by rw [swapI, if_pos rfl, h2, ← h1]; exact e1, by rw [swapI, if_pos rfl, h2, ← h1]; exact e2⟩
      · exact ⟨j, hj, by rw [swapI, if_neg h2, if_pos rfl, ← h1]; exact e1, by rw [swapI, if_neg h2, if_pos rfl, ← h1]; exact e2⟩
    · by_cases h2 : k = j
      · exact ⟨i, hi, by rw [swapI, if_pos rfl, ← h2]; exact e1, by rw [swapI, if_pos rfl, ← h2]; exact e2⟩
      · exact ⟨k, hk, by rw [swapI, if_neg h1, if_neg h2]; exact e1, by rw [swapI, if_neg h1, if_neg h2]; exact e2⟩
  refine ⟨fun h => ?_, key c p⟩
  have h := key _ _ h
  rwa [swapI_swapI, swapI_swapI] at h

/-- The pile's box at block Bp: the order, and the row of steps v. -/
structure Pile (w : World) (Bp lo : Nat) (v : Value) (n : Nat) (c : Nat → Nat) (p : Nat → Int) : Prop where
  box : w.heap[Bp]? = some (.cells #[.func (.func 91) #[] #[], v] 81 (0, 0))
  row : OwnP w lo v n (fun k => (c k : Nat)) p
  lt : Bp < lo ∧ lo ≤ w.heap.size
section
variable {w w' : World} {Bp lo n : Nat} {v v' : Value} {c : Nat → Nat} {p : Nat → Int}
theorem Pile.below (H : Pile w Bp lo v n c p) (hb : Below w.heap.size w w') : Pile w' Bp lo v n c p :=
  ⟨(hb.block _ (lt_of_blk H.box)).trans H.box, H.row.below hb, H.lt.1, Nat.le_trans H.lt.2 hb.size⟩
theorem Pile.drew (H : Pile w Bp lo v n c p) : Pile w.drew Bp lo v n c p := ⟨H.box, H.row, H.lt⟩
theorem Pile.put {b d : Nat} (H : Pile w Bp lo (.slice (some ⟨b, 0, none⟩) n d) n c p) {k : Nat} (hk : k < n) (x : Nat) (y : Int) :
    Pile ((w.setCell ⟨b, k * 2, none⟩ (.int .i64 x)).setCell ⟨b, k * 2 + 1, none⟩ (.int .i64 y)) Bp lo (.slice (some ⟨b, 0, none⟩) n d) n (fun i => if i = k then x else c i) (upd p k y) := by
  obtain ⟨b', d', cur, he, hlo, hb, _⟩ := H.row.cells (by omega)
  injection he with he
  injection he with he
  injection he with he
  have hB : Bp ≠ b := by have := H.lt.1; omega
  refine ⟨?_, (H.row.put hk x y).congr (fun i hi => ?_) (fun _ _ => rfl), H.lt.1, by simpa [World.setCell] using H.lt.2⟩
  · rw [Below.heap_setCell _ _ _ _ hB, Below.heap_setCell _ _ _ _ hB]; exact H.box
  · show upd (fun k => ((c k : Nat) : Int)) k x i = ((if i = k then x else c i : Nat) : Int)
    by_cases e : i = k
    · rw [e, upd_at, if_pos rfl]
    · rw [upd_ne _ _ e, if_neg e]
theorem Pile.congr {c' : Nat → Nat} {p' : Nat → Int} (H : Pile w Bp lo v n c p) (hc : ∀ k, k < n → c k = c' k) (hp : ∀ k, k < n → p k = p' k) : Pile w Bp lo v n c' p' := ⟨H.box, H.row.congr (fun k hk => by rw [hc k hk]) hp, H.lt⟩
theorem Pile.swap {b d i j : Nat} (H : Pile w Bp lo (.slice (some ⟨b, 0, none⟩) n d) n c p) (hi : i < n) (hj : j < n) (hne : j ≠ i) :
    Pile ((((w.setCell ⟨b, i * 2, none⟩ (.int .i64 (c j : Nat))).setCell ⟨b, i * 2 + 1, none⟩ (.int .i64 (p j))).setCell ⟨b, j * 2, none⟩ (.int .i64 (c i : Nat))).setCell ⟨b, j * 2 + 1, none⟩ (.int .i64 (p i))) Bp lo (.slice (some ⟨b, 0, none⟩) n d) n (swapI c i j) (swapI p i j) :=
  ((H.put hi (c j) (p j)).put hj (c i) (p i)).congr (fun k hk => by
    simp only [swapI]
    by_cases e : k = j
    · subst e; rw [if_pos rfl, if_neg hne, if_pos rfl]
    · simp [e]) (fun k hk => by
    simp only [swapI]
    by_cases e : k = j
    · subst e; rw [upd_at, if_neg hne, if_pos rfl]
    · rw [upd_ne _ _ e]
      by_cases e' : k = i
      · subst e'; rw [upd_at, if_pos rfl]
      · rw [upd_ne _ _ e', if_neg e', if_neg e])
theorem Pile.pop {b d : Nat} (H : Pile w Bp lo (.slice (some ⟨b, 0, none⟩) (n + 1) d) (n + 1) c p) : Pile (w.setCell ⟨Bp, 1, none⟩ (.slice (some ⟨b, 0, none⟩) n d)) Bp lo (.slice (some ⟨b, 0, none⟩) n d) n c p := by
  have hbo := H.box
  refine ⟨?_, H.row.pop.of_block fun k hk => ?_, H.lt.1, by simpa [World.setCell] using H.lt.2⟩
  · simp only [World.setCell, Array.getElem?_modify, if_true, hbo]
    rfl
  · have hk : b = k := by simpa [Value.ownBlock] using hk
    have := (H.row.lt (k := b) rfl).1
    have := H.lt.1
    exact Below.heap_setCell _ _ _ _ (by show k ≠ Bp; omega)
theorem Pile.far (H : Pile w Bp lo v n c p) {a : Addr} (y : Value) (h1 : a.block ≠ Bp) (h2 : v.ownBlock ≠ some a.block) : Pile (w.setCell a y) Bp lo v n c p :=
  ⟨(Below.heap_setCell _ _ _ _ (fun e => h1 e.symm)).trans H.box, H.row.of_block fun k hk => Below.heap_setCell _ _ _ _ (fun e => h2 (by rw [← e]; exact hk)), H.lt.1, by simpa [World.setCell] using H.lt.2⟩
theorem Pile.blk (H : Pile w Bp lo v n c p) {k : Nat} (hk : v.ownBlock = some k) : Bp ≠ k := fun e => by
  have := (H.row.lt hk).1
  have := H.lt.1
  omega
/-- What is left as it was: all but the box and the row. -/
structure PGrew (w w' : World) (Bp : Nat) (v v' : Value) : Prop where
  os : w'.os = w.os
  tape : w'.tape = w.tape
  output : w'.output = w.output
  size : w.heap.size ≤ w'.heap.size
  block : ∀ k, k < w.heap.size → k ≠ Bp → v.ownBlock ≠ some k → w'.heap[k]? = w.heap[k]?
  at_ : v'.ownBlock = v.ownBlock ∨ ∃ k, v'.ownBlock = some k ∧ w.heap.size ≤ k
theorem PGrew.trans {w'' : World} {v'' : Value} (h : PGrew w w' Bp v v') (h' : PGrew w' w'' Bp v' v'') (hlt : ∀ k, v.ownBlock = some k → k < w.heap.size) : PGrew w w'' Bp v v'' :=
  ⟨h'.os.trans h.os, h'.tape.trans h.tape, h'.output.trans h.output, Nat.le_trans h.size h'.size, fun k hk hB hv => by
    refine (h'.block k (Nat.lt_of_lt_of_le hk h.size) hB fun e => ?_).trans (h.block k hk hB hv)
    rcases h.at_ with h1 | ⟨k', h1, h2⟩
    · exact hv (h1 ▸ e)
    · rw [h1] at e; injection e with e; omega, by
    rcases h'.at_ with h1 | ⟨k', h1, h2⟩
    · rw [h1]; exact h.at_
    · exact .inr ⟨k', h1, Nat.le_trans h.size h2⟩⟩
theorem PGrew.below (h : PGrew w w' Bp v v') {w'' : World} (hb : Below w'.heap.size w' w'') : PGrew w w'' Bp v v' :=
  ⟨hb.os.trans h.os, hb.tape.trans h.tape, hb.output.trans h.output, Nat.le_trans h.size hb.size, fun k hk hB hv => (hb.block k (Nat.lt_of_lt_of_le hk h.size)).trans (h.block k hk hB hv), h.at_⟩
theorem PGrew.store (h : PGrew w w' Bp v v') (a : Addr) (y : Value) (ha : a.block = Bp ∨ v'.ownBlock = some a.block) : PGrew w (w'.setCell a y) Bp v v' :=
  ⟨h.os, h.tape, h.output, by simpa [World.setCell] using h.size, fun k hk hB hv => by
    refine (Below.heap_setCell _ _ _ _ fun e => ?_).trans (h.block k hk hB hv)
    rcases ha with ha | ha
    · exact hB (e.trans ha)
    · rw [← e] at ha
      rcases h.at_ with h1 | ⟨k', h1, h2⟩
      · exact hv (h1 ▸ ha)
      · rw [h1] at ha; injection ha with ha; omega, h.at_⟩
theorem PGrew.drew (h : PGrew w w' Bp v v') : PGrew w w'.drew Bp v v' := ⟨h.os, h.tape, h.output, h.size, h.block, h.at_⟩
theorem PGrew.value {v'' : Value} (h : PGrew w w' Bp v v') (e : v''.ownBlock = v'.ownBlock) : PGrew w w' Bp v v'' := ⟨h.os, h.tape, h.output, h.size, h.block, by rw [e]; exact h.at_⟩
theorem PGrew.new (h : PGrew w w' Bp v v') (a : Addr) (y : Value) (ha : w.heap.size ≤ a.block) : PGrew w (w'.setCell a y) Bp v v' :=
  ⟨h.os, h.tape, h.output, by simpa [World.setCell] using h.size, fun k hk hB hv => (Below.heap_setCell _ _ _ _ (by omega)).trans (h.block k hk hB hv), h.at_⟩
theorem PGrew.swap {b n d : Nat} (h : PGrew w w' Bp v (.slice (some ⟨b, 0, none⟩) n d)) {i j k l : Nat} (x y z u : Value) : PGrew w ((((w'.setCell ⟨b, i, none⟩ x).setCell ⟨b, j, none⟩ y).setCell ⟨b, k, none⟩ z).setCell ⟨b, l, none⟩ u).drew Bp v (.slice (some ⟨b, 0, none⟩) n d) := by
  have h1 := (((h.store ⟨b, i, none⟩ x (.inr rfl)).store ⟨b, j, none⟩ y (.inr rfl)).store ⟨b, k, none⟩ z (.inr rfl)).store ⟨b, l, none⟩ u (.inr rfl)
  exact ⟨h1.os, h1.tape, h1.output, h1.size, h1.block, h1.at_⟩
theorem PGrew.refl (w : World) (Bp : Nat) (v : Value) : PGrew w w Bp v v := ⟨rfl, rfl, rfl, Nat.le_refl _, fun _ _ _ _ => rfl, .inl rfl⟩
theorem PGrew.of_below (hb : Below w.heap.size w w') : PGrew w w' Bp v v := (PGrew.refl w Bp v).below hb
end

end Go.Proofs.Ytgekjhmjjjkibaa
