import Derived.Test.YtkkkkgcijkjeoaaDoorProg
import Derived.Test.YtkkkkgcijkjeoaaDoorMem
namespace Go.Proofs.YtkkkkgcijkjeoaaDoor
set_option linter.unusedVariables false
set_option linter.unusedSimpArgs false
open Go.RowKit

theorem Tryd.infoI : (Tryd.prog.info? 3).map (fun i => (i.zero, i.size, i.bytes)) = some (some (.int .i64 0), 1, 8) := by kernel_rfl
theorem Tryd.infoR : (Tryd.prog.info? 38).map (fun i => (i.zero, i.size, i.bytes)) = some (some (.slice none 0 0), 1, 24) := by kernel_rfl


def RetRow (n : Nat) (f : Nat → Int) (w : World) (e : Ending) (w' : World) : Prop :=
  e = .returned (.slice (some ⟨w.heap.size, 0, none⟩) n n) ∧ w'.rowIs w.heap.size 3 n (fun i => .int .i64 (f i)) ∧ w'.heap.size = w.heap.size + 1 ∧ Below w.heap.size w w'

def RelToS (w : World) (n : Nat) (f : Nat → Int) (i : Value) (wr : World) : Prop :=
  ∃ k : Nat, k ≤ n ∧ i = .int .i64 k ∧ wr.rowIs w.heap.size 3 n (fun j => .int .i64 (if j < k then f j else 0)) ∧ wr.heap.size = w.heap.size + 1 ∧ Below w.heap.size w wr


def RetSzz (n : Nat) (L : Nat → Nat) (w : World) (e : Ending) (w' : World) : Prop :=
  ∃ l : Int, e = .returned (.int .i64 l) ∧ -1 ≤ l ∧ l ≤ 1048576 ∧ (0 ≤ l → n ≤ 1048576 ∧ ∀ r, r < n → L r ≤ 1048576) ∧ w = w'

def RelSzz (n : Nat) (L : Nat → Nat) (l i : Value) : Prop :=
  ∃ (k : Nat) (l0 : Int), k ≤ n ∧ i = .int .i64 k ∧ l = .int .i64 l0 ∧ 0 ≤ l0 ∧ l0 ≤ 1048576 ∧ ∀ r, r < k → L r ≤ 1048576


def RetGrid (n : Nat) (L : Nat → Nat) (g : Nat → Nat → Int) (w : World) (e : Ending) (w' : World) : Prop :=
  ∃ A, e = .returned (.slice A n n) ∧ OwnG w' w.heap.size A n L g ∧ Below w.heap.size w w'

def RelToSS (w : World) (n : Nat) (L : Nat → Nat) (g : Nat → Nat → Int) (i : Value) (wr : World) : Prop :=
  ∃ k : Nat, k ≤ n ∧ i = .int .i64 k ∧ wr.rowIs w.heap.size 38 n (fun r => if r < k then .slice (some ⟨w.heap.size + 1 + r, 0, none⟩) (L r) (L r) else .slice none 0 0) ∧
    (∀ r, r < k → wr.rowIs (w.heap.size + 1 + r) 3 (L r) (fun c => .int .i64 (g r c))) ∧ wr.heap.size = w.heap.size + 1 + k ∧ Below w.heap.size w wr


def RelB (w : World) (n : Nat) (i : Value) (wr : World) : Prop := ∃ k : Nat, k ≤ n ∧ i = .int .i64 k ∧ Below w.heap.size w wr

theorem eqIntS_yes (A A' : Option Addr) (n c c' : Nat) (f : Nat → Int) (w : World) (h : RowF w A n f) (h' : RowF w A' n f) (hn : n ≤ 9223372036854775807) :
    Calls Tryd.prog 33 #[.slice A n c, .slice A' n c'] w (RetV (.bool true) w) := by
  have H := Lib.hid h
  have H' := Lib.hid h'
  clear h h'
  go_enter Tryd.func33, Tryd.ntmps33
  go_wp2
  go_loopw [5] (RelB w n) (fun i _ => n - (intOf i).toNat)
  case atStart => exact ⟨0, Nat.zero_le _, rfl, Below.refl _ _⟩
  case round =>
    obtain ⟨k, hk, rfl, hbel⟩ := hrel
    by_cases hlt : k < n
    · obtain ⟨b, o, rfl, hc⟩ := (RowF.below H.out hbel) k hlt
      obtain ⟨b', o', rfl, hc'⟩ := (RowF.below H'.out hbel) k hlt
      go_wp2
      go_quiet (fail)
      go_wp2
      go_roundw
      case rel => exact ⟨k + 1, by omega, by go_num, below_drewN hbel _⟩
      case measure => simp [intOf]; omega
    · have : k = n := by omega
      subst this
      go_wp2
      go_ret
      exact ⟨rfl, hbel⟩


theorem eqIntSS_yes (A A' : Option Addr) (n c c' : Nat) (L : Nat → Nat) (g : Nat → Nat → Int) (w : World) (h : GridF w A n L g) (h' : GridF w A' n L g) (hn : n ≤ 9223372036854775807) (hL : ∀ r, r < n → L r ≤ 9223372036854775807) :
    Calls Tryd.prog 15 #[.slice A n c, .slice A' n c'] w (RetV (.bool true) w) := by
  have H := Lib.hid h
  have H' := Lib.hid h'
  have HL := Lib.hid hL
  clear h h' hL
  go_enter Tryd.func15, Tryd.ntmps15
  go_wp2
  go_loopw [5] (RelB w n) (fun i _ => n - (intOf i).toNat)
  case atStart => exact ⟨0, Nat.zero_le _, rfl, Below.refl _ _⟩
  case round =>
    obtain ⟨k, hk, rfl, hbel⟩ := hrel
    by_cases hlt : k < n
    · obtain ⟨b, o, A1, c1, rfl, hc, _, hr⟩ := (GridF.below H.out hbel) k hlt
      obtain ⟨b', o', A2, c2, rfl, hc', _, hr'⟩ := (GridF.below H'.out hbel) k hlt
      have HR := Lib.hid hr
      have HR' := Lib.hid hr'
      have hl := HL.out k hlt
      clear hr hr'
      go_wp2
      have hx := Later.cell hc
      have hx' := Later.cell hc'
      refine wp_region_later (by kernel_rfl) (by kernel_rfl) ?_
      repeat (first | go_big_quiet_step ((go_at_call 33; exact quietL (eqIntS_yes _ _ _ _ _ _ _ (HR.out.below (Later.below _)) (HR'.out.below (Later.below _)) hl))))
      refine wpQuiet_nil ?_
      rintro _ ⟨⟨w1, hb1⟩, rfl⟩
      clear hx hx'
      go_wp2
      go_roundw
      case rel => exact ⟨k + 1, by omega, by go_num, hbel.trans (hb1.mono hbel.size)⟩
      case measure => simp [intOf]; omega
    · have : k = n := by omega
      subst this
      go_wp2
      go_ret
      exact ⟨rfl, hbel⟩


end Go.Proofs.YtkkkkgcijkjeoaaDoor
