/- Rows of the call's own, marked and read back: what markIntS and heldIntS do. -/
import Derived.Test.YtgekjhmjjjkibaaNear
import Derived.Test.YtgekjhmjjjkibaaMark
import Derived.Test.YtgekjhmjjjkibaaGSet
namespace Go.Proofs.Ytgekjhmjjjkibaa
set_option linter.unusedVariables false
set_option linter.unusedSimpArgs false
open Go.RowKit

/-- A row that is only read. -/
def RetSI (n : Nat) (F : Nat → Int) (w : World) (e : Ending) (w' : World) : Prop :=
  ∃ A c, e = .returned (.slice A n c) ∧ RowF w' A n F ∧ Below w.heap.size w w'
/-- A row in new memory. -/
def RetII (n : Nat) (F : Nat → Int) (w : World) (e : Ending) (w' : World) : Prop :=
  ∃ A c, e = .returned (.slice A n c) ∧ OwnI w' w.heap.size (.slice A n c) n F ∧ Below w.heap.size w w'
/-- The same, and whether there is one. -/
def RetSIb (n : Nat) (F : Nat → Int) (ok : Bool) (w : World) (e : Ending) (w' : World) : Prop :=
  ∃ A c, e = .returned (.tuple #[.slice A n c, .bool ok]) ∧ RowF w' A n F ∧ Below w.heap.size w w'
def RetIIb (n : Nat) (F : Nat → Int) (ok : Bool) (w : World) (e : Ending) (w' : World) : Prop :=
  ∃ A c, e = .returned (.tuple #[.slice A n c, .bool ok]) ∧ OwnI w' w.heap.size (.slice A n c) n F ∧ Below w.heap.size w w'

theorem OwnI.row {w : World} {lo : Nat} {A : Option Addr} {n c : Nat} {F : Nat → Int} (h : OwnI w lo (.slice A n c) n F) : RowF w A n F := fun k hk => by
  obtain ⟨b, rfl, _, _, hc⟩ := h.cells (by omega)
  exact ⟨b, 0, rfl, by rw [Nat.zero_add]; exact (hc k hk).1⟩

/-- Only the row's own block has changed. -/
structure OnlyO (v : Value) (w w' : World) : Prop where
  os : w'.os = w.os
  tape : w'.tape = w.tape
  output : w'.output = w.output
  size : w'.heap.size = w.heap.size
  block : ∀ k, v.ownBlock ≠ some k → w'.heap[k]? = w.heap[k]?
theorem OnlyO.below {v : Value} {w w' : World} {B : Nat} (h : OnlyO v w w') (hB : ∀ k, v.ownBlock = some k → B ≤ k) : Below B w w' :=
  ⟨h.os, h.tape, h.output, by rw [h.size]; exact Nat.le_refl _, fun k hk => h.block k (fun e => by have := hB k e; omega)⟩

def RetMarkO (A : Option Addr) (n c lo : Nat) (k0 : Int) (w : World) (e : Ending) (w' : World) : Prop :=
  e = .returned (.int .i64 (k0 + n)) ∧ OwnI w' lo (.slice A n c) n (fun i => k0 + i) ∧ OnlyO (.slice A n c) w w'

theorem markIntS_own (A : Option Addr) (n c lo : Nat) (k0 : Int) (F : Nat → Int) (w : World) (hown : OwnI w lo (.slice A n c) n F) (h0 : 0 ≤ k0) (h1 : k0 ≤ 1099511627776000) (hn : n ≤ 1048576) :
    Calls Try.prog 29 #[.slice A n c, .int .i64 k0] w (RetMarkO A n c lo k0 w) := by
  have HR := Lib.hid hown
  clear hown
  go_enter Try.func29, Try.ntmps29
  go_wp2_with fail
  go_loopw [1, 5] (fun v i wr => ∃ k : Nat, k ≤ n ∧ i = .int .i64 k ∧ v = .int .i64 (k0 + k) ∧ Hid (OwnI wr lo (.slice A n c) n (fun i => if i < k then k0 + i else F i)) ∧ Hid (OnlyO (.slice A n c) w wr)) (fun _ i _ => n - (intOf i).toNat)
  case atStart => exact ⟨0, Nat.zero_le _, rfl, by simp, HR.out.congr (fun i _ => by simp), rfl, rfl, rfl, rfl, fun _ _ => rfl⟩
  case round =>
    obtain ⟨k, hk, rfl, rfl, HRr, HO⟩ := hrel
    by_cases hlt : k < n
    · obtain ⟨b, rfl, hlo, hb, hcells⟩ := HRr.out.cells (by omega)
      obtain ⟨hc, hf⟩ := hcells k hlt
      clear hcells
      go_wp2_with fail
      go_roundw
      case rel =>
        refine ⟨k + 1, by omega, by go_num, val_int (by omega), (HRr.out.store hlt (k0 + k)).congr (fun i hi => ?_), ?_⟩
        · unfold upd
          by_cases e : i = k
          · subst e; simp
          · have : (i < k + 1) = (i < k) := by apply propext; omega
            simp [e, this]
        · exact ⟨HO.out.os, HO.out.tape, HO.out.output, by simp [World.setCell, HO.out.size], fun j hj => (Below.heap_setCell _ _ _ _ (fun e => hj (by have e : j = b := e; rw [e]; rfl))).trans (HO.out.block j hj)⟩
      case measure => simp [intOf]; omega
    · have HK : Hid (k = n) := by show k = n; omega
      go_wp2_with fail
      go_ret
      exact ⟨ret_int (by rw [HK.out]), HRr.out.congr (fun i hi => by rw [if_pos (by rw [HK.out]; exact hi)]), HO.out⟩

end Go.Proofs.Ytgekjhmjjjkibaa
