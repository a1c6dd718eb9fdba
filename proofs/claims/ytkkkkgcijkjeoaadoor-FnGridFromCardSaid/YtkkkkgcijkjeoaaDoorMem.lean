/- Plain words on memory: a slice that reads as a row of integers, a slice of slices that reads as a grid, rows of the call's own. -/
import Derived.Test.YtkkkkgcijkjeoaaDoorReg
import Derived.WalkKit
import Derived.WalkSpells
import Derived.WalkLawsBesides
import Derived.Deep.OwnRows
import Derived.Deep.QuietTactic
import Derived.BigQuiet
import Derived.Lib.Hide
import Derived.Deep.LoopGhost
namespace Go.Proofs.YtkkkkgcijkjeoaaDoor
set_option linter.unusedVariables false
set_option linter.unusedSimpArgs false
open Go.RowKit

/-- A fact behind a name: a plain definition that the walk does not open. -/
def Post (p : Prop) : Prop := p

def RowF (w : World) (A : Option Addr) (n : Nat) (f : Nat → Int) : Prop :=
  ∀ k, k < n → ∃ b o, A = some ⟨b, o, none⟩ ∧ w.cell? ⟨b, o + k, none⟩ = some (.int .i64 (f k))

/-- A slice of bytes. -/
def RowB (w : World) (A : Option Addr) (n : Nat) (z : Nat → Int) : Prop :=
  ∀ k, k < n → ∃ b o, A = some ⟨b, o, none⟩ ∧ w.cell? ⟨b, o + k, none⟩ = some (.int .u8 (z k)) ∧ 0 ≤ z k ∧ z k ≤ 255

def GridF (w : World) (A : Option Addr) (n : Nat) (L : Nat → Nat) (g : Nat → Nat → Int) : Prop :=
  ∀ r, r < n → ∃ b o A' c', A = some ⟨b, o, none⟩ ∧ w.cell? ⟨b, o + r, none⟩ = some (.slice A' (L r) c') ∧ L r ≤ c' ∧ RowF w A' (L r) (g r)

theorem RowF.below {w w' : World} {A : Option Addr} {n : Nat} {f : Nat → Int} (h : RowF w A n f) (hb : Below w.heap.size w w') : RowF w' A n f := by
  intro k hk
  obtain ⟨b, o, rfl, hc⟩ := h k hk
  exact ⟨b, o, rfl, (hb.cell (World.block_lt_of_cell? w _ hc)).trans hc⟩

theorem GridF.below {w w' : World} {A : Option Addr} {n : Nat} {L : Nat → Nat} {g : Nat → Nat → Int} (h : GridF w A n L g) (hb : Below w.heap.size w w') : GridF w' A n L g := by
  intro r hr
  obtain ⟨b, o, A', c', rfl, hc, hl, hrow⟩ := h r hr
  exact ⟨b, o, A', c', rfl, (hb.cell (World.block_lt_of_cell? w _ hc)).trans hc, hl, hrow.below hb⟩

theorem below_drewN {B : Nat} {a w : World} (h : Below B a w) (n : Nat) : Below B a (w.drewN n) := ⟨h.os, h.tape, h.output, h.size, h.block⟩

/-- A grid of the call's own: the outer row in a block of its own from 'lo' on, each row in a block of its own, no two rows in one block. -/
def OwnG (w : World) (lo : Nat) (A : Option Addr) (n : Nat) (L : Nat → Nat) (g : Nat → Nat → Int) : Prop :=
  n = 0 ∨ ∃ (B : Nat) (bs : Nat → Nat), A = some ⟨B, 0, none⟩ ∧ lo ≤ B ∧ w.rowIs B 38 n (fun r => .slice (some ⟨bs r, 0, none⟩) (L r) (L r)) ∧
    (∀ r, r < n → lo ≤ bs r ∧ w.rowIs (bs r) 3 (L r) (fun c => .int .i64 (g r c))) ∧ ∀ r s, r < n → s < n → bs r = bs s → r = s

theorem rowF_of_rowIs {w : World} {b n : Nat} {t : TypeId} {f : Nat → Int} (h : w.rowIs b t n (fun c => .int .i64 (f c))) : RowF w (some ⟨b, 0, none⟩) n f :=
  fun k hk => ⟨b, 0, rfl, by rw [Nat.zero_add]; exact h.cell hk⟩

theorem OwnG.grid {w : World} {lo : Nat} {A : Option Addr} {n : Nat} {L : Nat → Nat} {g : Nat → Nat → Int} (h : OwnG w lo A n L g) : GridF w A n L g := by
  intro r hr
  rcases h with h | ⟨B, bs, rfl, _, hB, hrows, _⟩
  · omega
  · exact ⟨B, 0, _, _, rfl, by rw [Nat.zero_add]; exact hB.cell hr, Nat.le_refl _, rowF_of_rowIs (hrows r hr).2⟩

theorem OwnG.congr {w : World} {lo : Nat} {A : Option Addr} {n : Nat} {L : Nat → Nat} {g g' : Nat → Nat → Int} (h : OwnG w lo A n L g) (e : ∀ r c, r < n → c < L r → g r c = g' r c) : OwnG w lo A n L g' := by
  rcases h with h | ⟨B, bs, hA, hlo, hB, hrows, hinj⟩
  · exact .inl h
  · exact .inr ⟨B, bs, hA, hlo, hB, fun r hr => ⟨(hrows r hr).1, (hrows r hr).2.congr fun c hc => by rw [e r c hr hc]⟩, hinj⟩

theorem rowIs_below {w w' : World} {b n : Nat} {t : TypeId} {f : Nat → Value} (h : w.rowIs b t n f) {B : Nat} (hb : Below B w w') (hlt : b < B) : w'.rowIs b t n f := h.of_block (hb.block b hlt)
theorem rowIs_kept {w w' : World} {b n : Nat} {t : TypeId} {f : Nat → Value} (h : w.rowIs b t n f) (hb : Below w.heap.size w w') : w'.rowIs b t n f := h.of_block (hb.block b h.lt)

theorem OwnG.below {w w' : World} {lo : Nat} {A : Option Addr} {n : Nat} {L : Nat → Nat} {g : Nat → Nat → Int} (h : OwnG w lo A n L g) (hb : Below w.heap.size w w') : OwnG w' lo A n L g := by
  rcases h with h | ⟨B, bs, hA, hlo, hB, hrows, hinj⟩
  · exact .inl h
  · exact .inr ⟨B, bs, hA, hlo, rowIs_kept hB hb, fun r hr => ⟨(hrows r hr).1, rowIs_kept (hrows r hr).2 hb⟩, hinj⟩

theorem OwnG.mono {w : World} {lo lo' : Nat} {A : Option Addr} {n : Nat} {L : Nat → Nat} {g : Nat → Nat → Int} (h : OwnG w lo A n L g) (hl : lo' ≤ lo) : OwnG w lo' A n L g := by
  rcases h with h | ⟨B, bs, hA, hlo, hB, hrows, hinj⟩
  · exact .inl h
  · exact .inr ⟨B, bs, hA, by omega, hB, fun r hr => ⟨by have := (hrows r hr).1; omega, (hrows r hr).2⟩, hinj⟩

theorem Later.cell {w : World} {a : Addr} {v : Value} (h : w.cell? a = some v) (x : Later w) : x.1.cell? a = some v := (x.2.cell (World.block_lt_of_cell? w _ h)).trans h
theorem Later.frozen {w : World} {a : Addr} {b : Bool} {v : Value} (h : w.cell? a = some v) (hf : w.frozen? a = b) (x : Later w) : x.1.frozen? a = b := (x.2.frozen (World.block_lt_of_cell? w _ h)).trans hf

theorem box_cell0 (w : World) (v0 v1 v2 : Value) (t : TypeId) : (w.alloc (.cells #[v0, v1, v2] t)).cell? ⟨w.heap.size, 0, none⟩ = some v0 := by unfold World.cell?; rw [heap_alloc_new]; rfl
theorem box_cell1 (w : World) (v0 v1 v2 : Value) (t : TypeId) : (w.alloc (.cells #[v0, v1, v2] t)).cell? ⟨w.heap.size, 1, none⟩ = some v1 := by unfold World.cell?; rw [heap_alloc_new]; rfl
theorem box_cell2 (w : World) (v0 v1 v2 : Value) (t : TypeId) : (w.alloc (.cells #[v0, v1, v2] t)).cell? ⟨w.heap.size, 2, none⟩ = some v2 := by unfold World.cell?; rw [heap_alloc_new]; rfl
theorem cell_alloc {w : World} {a : Addr} {v : Value} (h : w.cell? a = some v) (o : Obj) : (w.alloc o).cell? a = some v := (World.cell?_alloc_lt w o a (World.block_lt_of_cell? w _ h)).trans h
theorem frozen_alloc {w : World} {a : Addr} {b : Bool} (ha : a.block < w.heap.size) (h : w.frozen? a = b) (o : Obj) : (w.alloc o).frozen? a = b := by
  rw [← h]; exact World.frozen?_of_block (Below.heap_alloc w o _ ha)
theorem below_alloc (w : World) (o : Obj) : Below w.heap.size w (w.alloc o) := (Below.refl _ _).alloc (Nat.le_refl _) o

def Valid (n : Nat) (L : Nat → Nat) (g : Nat → Nat → Int) : Prop := 1 ≤ n ∧ n ≤ 7 ∧ 1 ≤ L 0 ∧ L 0 ≤ 7 ∧ ∀ r, r < n → L r = L 0 ∧ ∀ c, c < L 0 → 0 ≤ g r c ∧ g r c ≤ 99

/-- The heights of a grid with C columns, by index. -/
def flat (C : Nat) (g : Nat → Nat → Int) : Nat → Int := fun i => g (i / C) (i % C)
theorem flat_at {C k j : Nat} (g : Nat → Nat → Int) (hj : j < C) : flat C g (k * C + j) = g k j := by
  unfold flat
  rw [Nat.mul_comm, Nat.mul_add_div (by omega), Nat.div_eq_of_lt hj, Nat.add_zero, Nat.mul_add_mod, Nat.mod_eq_of_lt hj]

theorem val_int {k : IntKind} {a b : Int} (h : a = b) : Value.int k a = .int k b := by rw [h]
theorem ret_int {k : IntKind} {a b : Int} (h : a = b) : Ending.returned (.int k a) = .returned (.int k b) := by rw [h]
theorem ret_bool {a b : Bool} (h : a = b) : Ending.returned (.bool a) = .returned (.bool b) := by rw [h]

end Go.Proofs.YtkkkkgcijkjeoaaDoor
