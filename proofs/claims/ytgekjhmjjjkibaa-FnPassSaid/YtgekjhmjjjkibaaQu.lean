/- A queue of cells in a row that grows, beside a row that is written: plain words on memory. -/
import Derived.Test.YtgekjhmjjjkibaaNear
import Derived.Test.YtgekjhmjjjkibaaPlR
namespace Go.Proofs.Ytgekjhmjjjkibaa
set_option linter.unusedVariables false
set_option linter.unusedSimpArgs false
open Go.RowKit

theorem OwnS.single (w : World) (lo : Nat) (e : TypeId) (x : Value) (V : Nat → Value) (hlo : lo ≤ w.heap.size) (hV : V 0 = x) : OwnS (w.alloc (.cells #[x] e)) lo e (.slice (some ⟨w.heap.size, 0, none⟩) 1 1) 1 V :=
  ⟨by simp, .inr ⟨_, 1, #[x], rfl, hlo, heap_alloc_new w _, Nat.le_refl _, by decide, by simp, by simp [List.range_succ, hV]⟩⟩

/-- The cells that wait in the queue from place q on. -/
def Wait (q n : Nat) (s : Nat → Nat) (y : Nat) : Prop := ∃ k, q ≤ k ∧ k < n ∧ s k = y
theorem Wait.push {q n : Nat} {s : Nat → Nat} {z y : Nat} (hq : q ≤ n) : Wait q (n + 1) (updN s n z) y ↔ Wait q n s y ∨ y = z := by
  constructor
  · rintro ⟨k, h1, hk, e⟩
    by_cases e' : k = n
    · subst e'; rw [updN_at] at e; exact .inr e.symm
    · rw [updN_ne s z e'] at e; exact .inl ⟨k, h1, by omega, e⟩
  · rintro (⟨k, h1, hk, e⟩ | e)
    · exact ⟨k, h1, by omega, by rw [updN_ne s z (by omega)]; exact e⟩
    · exact ⟨n, hq, by omega, by rw [updN_at]; exact e.symm⟩
theorem Wait.pop {q n : Nat} {s : Nat → Nat} {y : Nat} (h : Wait q n s y) : Wait (q + 1) n s y ∨ y = s q := by
  obtain ⟨k, h1, hk, e⟩ := h
  by_cases e' : k = q
  · subst e'; exact .inr e.symm
  · exact .inl ⟨k, by omega, hk, e⟩
theorem Wait.of {q n : Nat} {s : Nat → Nat} {y : Nat} (h : Wait (q + 1) n s y) : Wait q n s y := by
  obtain ⟨k, h1, hk, e⟩ := h
  exact ⟨k, by omega, hk, e⟩
theorem Wait.none {n : Nat} {s : Nat → Nat} {y : Nat} : ¬ Wait n n s y := fun ⟨k, h1, h2, _⟩ => by omega

/-- A row of numbers of the call's own, and a queue in newer memory. -/
structure Bfs (w wr : World) (bo co lo N : Nat) (F : Nat → Int) (v : Value) (n : Nat) (s : Nat → Nat) : Prop where
  out : OwnI wr w.heap.size (.slice (some ⟨bo, 0, none⟩) N co) N F
  st : OwnS wr lo 3 v n (fun k => .int .i64 (s k : Nat))
  lt : bo < lo ∧ w.heap.size ≤ bo ∧ lo ≤ wr.heap.size
  bel : Below w.heap.size w wr
section
variable {w wr : World} {bo co lo N : Nat} {F : Nat → Int} {v : Value} {n : Nat} {s : Nat → Nat}
theorem Bfs.keep (H : Bfs w wr bo co lo N F v n s) {w1 : World} (hb : Below wr.heap.size wr w1) : Bfs w w1 bo co lo N F v n s :=
  ⟨H.out.below hb, H.st.below hb, ⟨H.lt.1, H.lt.2.1, Nat.le_trans H.lt.2.2 hb.size⟩, H.bel.trans (hb.mono H.bel.size)⟩
theorem Bfs.wrote (H : Bfs w wr bo co lo N F v n s) {j : Nat} (hj : j < N) (x : Int) : Bfs w (wr.setCell ⟨bo, j, none⟩ (.int .i64 x)) bo co lo N (upd F j x) v n s :=
  ⟨H.out.store hj x, H.st.of_block fun k hk => Below.heap_setCell _ _ _ _ (fun e => by
    have h1 := (H.st.lt hk).1
    have h2 := H.lt.1
    have e : k = bo := e
    omega), ⟨H.lt.1, H.lt.2.1, by simpa [World.setCell] using H.lt.2.2⟩, H.bel.setCell H.lt.2.1 _⟩
theorem Bfs.pushed (H : Bfs w wr bo co lo N F v n s) {w1 : World} {v1 : Value} {y : Nat} (hg : Grew wr w1 v v1) (ho : OwnS w1 lo 3 v1 (n + 1) (fun i => if i < n then .int .i64 (s i : Nat) else .int .i64 (y : Nat))) : Bfs w w1 bo co lo N F v1 (n + 1) (updN s n y) := by
  have hv : ∀ k, v.ownBlock = some k → lo ≤ k := fun k hk => (H.st.lt hk).1
  have hb : Below lo wr w1 := hg.below H.lt.2.2 hv
  refine ⟨OwnS.of_block H.out.s fun k hk => hb.block k (by have hk : some bo = some k := hk; injection hk with hk; have := H.lt.1; omega), ho.congr fun i hi => ?_, ⟨H.lt.1, H.lt.2.1, Nat.le_trans H.lt.2.2 hg.size⟩, H.bel.trans (hb.mono (by have := H.lt; omega))⟩
  by_cases e : i < n
  · rw [if_pos e, updN_ne s y (by omega)]
  · rw [if_neg e, show i = n by omega, updN_at]
end

end Go.Proofs.Ytgekjhmjjjkibaa
