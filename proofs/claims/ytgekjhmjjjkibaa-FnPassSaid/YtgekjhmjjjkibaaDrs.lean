/- Draws with more than a grid: the class of worlds, literals. -/
import Derived.Test.YtgekjhmjjjkibaaLawH
import Derived.Test.YtgekjhmjjjkibaaLoose
namespace Go.Proofs.Ytgekjhmjjjkibaa
set_option linter.unusedVariables false
set_option linter.unusedSimpArgs false
open Go.RowKit

/-- The class of worlds of a draw: the reader further on, all else that was there as it was. -/
def Drs (Br : Nat) (A : Option Addr) (m c : Nat) (z : Nat → Int) (p : Int) (w : World) (k : Nat) (w' : World) : Prop := ∃ p', Rdr w' Br A m c z p' ∧ p' ≤ p + k ∧ But Br w w' ∧ Br < w.heap.size
/-- A slice literal of numbers. -/
def Lit (Br n : Nat) (T : Nat → Int) (v : Value) (w : World) : Prop := ∃ b, v = .slice (some ⟨b, 0, none⟩) n n ∧ Br < b ∧ b < w.heap.size ∧ ∀ j, j < n → w.cell? ⟨b, j, none⟩ = some (.int .i64 (T j))
def LitAt (Br n : Nat) (T : Nat → Int) (v : Value) (w : World) : Prop := ∃ b y, v = .pointer (some ⟨b, y, none⟩) ∧ y < n ∧ Br < b ∧ b < w.heap.size ∧ w.cell? ⟨b, y, none⟩ = some (.int .i64 (T y))
def Upto (n : Nat) (v : Value) : Prop := ∃ y : Nat, v = .int .i64 (y : Int) ∧ y < n
def InT (n : Nat) (T : Nat → Int) (v : Value) : Prop := ∃ y, y < n ∧ v = .int .i64 (T y)

theorem block_lt_heap {w : World} {b : Nat} {o : Obj} (h : w.heap[b]? = some o) : b < w.heap.size := by
  rcases Nat.lt_or_ge b w.heap.size with h' | h'
  · exact h'
  · rw [Array.getElem?_eq_none h'] at h; cases h
theorem Drs.start {Br : Nat} {A : Option Addr} {m c : Nat} {z : Nat → Int} {p : Int} {w : World} (H : Rdr w Br A m c z p) : Drs Br A m c z p w 0 w.drew :=
  ⟨p, H.drew, by omega, ⟨rfl, rfl, rfl, Nat.le_refl _, fun _ _ _ => rfl⟩, block_lt_heap H.blk⟩
theorem Drs.same {Br : Nat} {A : Option Addr} {m c : Nat} {z : Nat → Int} {p : Int} {w w' : World} {k : Nat} (H : Drs Br A m c z p w k w') : Drs Br A m c z p w (k + 1) w' := by
  obtain ⟨p', h1, h2, h3, h4⟩ := H
  exact ⟨p', h1, by omega, h3, h4⟩
theorem Drs.made {Br : Nat} {A : Option Addr} {m c : Nat} {z : Nat → Int} {p : Int} {w w' : World} {k : Nat} (H : Drs Br A m c z p w k w') (b : Obj) : Drs Br A m c z p w (k + 1) (w'.alloc b) ∧ But Br w' (w'.alloc b) := by
  obtain ⟨p', h1, h2, h3, h4⟩ := H
  have hb := But.of_below (Br := Br) (below_alloc w' b)
  exact ⟨⟨p', h1.but (below_alloc w' b), by omega, h3.trans hb, h4⟩, hb⟩
theorem Drs.pick {Br : Nat} {A : Option Addr} {m c : Nat} {z : Nat → Int} {p : Int} {w w' w'' : World} {k : Nat} (H : Drs Br A m c z p w k w') {p' : Int} (h1 : Rdr w'' Br A m c z (p' + 1)) (h2 : p' ≤ p + k) (h3 : But Br w' w'') : Drs Br A m c z p w (k + 1) w'' := by
  obtain ⟨_, _, _, h5, h4⟩ := H
  exact ⟨p' + 1, h1, by omega, h5.trans h3, h4⟩
theorem Lit.mono {Br n : Nat} {T : Nat → Int} {v : Value} {w w' : World} (h : Lit Br n T v w) (hb : But Br w w') : Lit Br n T v w' := by
  obtain ⟨b, h1, h2, h3, h4⟩ := h
  exact ⟨b, h1, h2, by have := hb.size; omega, fun j hj => (World.cell?_of_block (hb.block b h3 (by omega))).trans (h4 j hj)⟩
theorem LitAt.mono {Br n : Nat} {T : Nat → Int} {v : Value} {w w' : World} (h : LitAt Br n T v w) (hb : But Br w w') : LitAt Br n T v w' := by
  obtain ⟨b, y, h1, hy, h2, h3, h4⟩ := h
  exact ⟨b, y, h1, hy, h2, by have := hb.size; omega, (World.cell?_of_block (hb.block b h3 (by omega))).trans h4⟩

def tab2 (a b : Int) : Nat → Int
  | 0 => a
  | _ => b
theorem Drs.lit2 {Br : Nat} {A : Option Addr} {m mc : Nat} {z : Nat → Int} {p : Int} {w w' : World} {k : Nat} (H : Drs Br A m mc z p w k w') (a b : Int) :
    Drs Br A m mc z p w (k + 1) (w'.alloc (.cells #[.int .i64 a, .int .i64 b] 3)) ∧ But Br w' (w'.alloc (.cells #[.int .i64 a, .int .i64 b] 3)) ∧ Lit Br 2 (tab2 a b) (.slice (some ⟨w'.heap.size, 0, none⟩) 2 2) (w'.alloc (.cells #[.int .i64 a, .int .i64 b] 3)) := by
  obtain ⟨h1, h2⟩ := H.made (.cells #[.int .i64 a, .int .i64 b] 3)
  have hbr : Br < w'.heap.size := by obtain ⟨_, h1, _, _, _⟩ := H; exact block_lt_heap h1.blk
  refine ⟨h1, h2, w'.heap.size, rfl, hbr, by simp, fun j hj => ?_⟩
  unfold World.cell?
  rw [heap_alloc_new]
  match j, hj with
  | 0, _ => rfl
  | 1, _ => rfl
def tab3 (a b c : Int) : Nat → Int
  | 0 => a
  | 1 => b
  | _ => c
theorem Drs.lit3 {Br : Nat} {A : Option Addr} {m mc : Nat} {z : Nat → Int} {p : Int} {w w' : World} {k : Nat} (H : Drs Br A m mc z p w k w') (a b c : Int) :
    Drs Br A m mc z p w (k + 1) (w'.alloc (.cells #[.int .i64 a, .int .i64 b, .int .i64 c] 3)) ∧ But Br w' (w'.alloc (.cells #[.int .i64 a, .int .i64 b, .int .i64 c] 3)) ∧ Lit Br 3 (tab3 a b c) (.slice (some ⟨w'.heap.size, 0, none⟩) 3 3) (w'.alloc (.cells #[.int .i64 a, .int .i64 b, .int .i64 c] 3)) := by
  obtain ⟨h1, h2⟩ := H.made (.cells #[.int .i64 a, .int .i64 b, .int .i64 c] 3)
  have hbr : Br < w'.heap.size := by obtain ⟨_, h1, _, _, _⟩ := H; exact block_lt_heap h1.blk
  refine ⟨h1, h2, w'.heap.size, rfl, hbr, by simp, fun j hj => ?_⟩
  unfold World.cell?
  rw [heap_alloc_new]
  match j, hj with
  | 0, _ => rfl
  | 1, _ => rfl
  | 2, _ => rfl
def tab4 (a b c d : Int) : Nat → Int
  | 0 => a
  | 1 => b
  | 2 => c
  | _ => d
theorem Drs.lit4 {Br : Nat} {A : Option Addr} {m mc : Nat} {z : Nat → Int} {p : Int} {w w' : World} {k : Nat} (H : Drs Br A m mc z p w k w') (a b c d : Int) :
    Drs Br A m mc z p w (k + 1) (w'.alloc (.cells #[.int .i64 a, .int .i64 b, .int .i64 c, .int .i64 d] 3)) ∧ But Br w' (w'.alloc (.cells #[.int .i64 a, .int .i64 b, .int .i64 c, .int .i64 d] 3)) ∧ Lit Br 4 (tab4 a b c d) (.slice (some ⟨w'.heap.size, 0, none⟩) 4 4) (w'.alloc (.cells #[.int .i64 a, .int .i64 b, .int .i64 c, .int .i64 d] 3)) := by
  obtain ⟨h1, h2⟩ := H.made (.cells #[.int .i64 a, .int .i64 b, .int .i64 c, .int .i64 d] 3)
  have hbr : Br < w'.heap.size := by obtain ⟨_, h1, _, _, _⟩ := H; exact block_lt_heap h1.blk
  refine ⟨h1, h2, w'.heap.size, rfl, hbr, by simp, fun j hj => ?_⟩
  unfold World.cell?
  rw [heap_alloc_new]
  match j, hj with
  | 0, _ => rfl
  | 1, _ => rfl
  | 2, _ => rfl
  | 3, _ => rfl
/-- Cells of a grid stay as they are. -/
def Cel (a : Addr) (x : Value) (w : World) : Prop := w.cell? a = some x
theorem Cel.but {Br : Nat} {a : Addr} {x : Value} {w w' : World} (h : Cel a x w) (hb : But Br w w') (hne : a.block ≠ Br) : Cel a x w' :=
  (World.cell?_of_block (hb.block a.block (World.block_lt_of_cell? w _ h) hne)).trans h

end Go.Proofs.Ytgekjhmjjjkibaa
