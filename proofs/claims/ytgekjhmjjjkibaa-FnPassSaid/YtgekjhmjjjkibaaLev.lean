/- A grid and a level: l3Ok, leveled; the greatest level. -/
import Derived.Test.YtgekjhmjjjkibaaRng
namespace Go.Proofs.Ytgekjhmjjjkibaa
set_option linter.unusedVariables false
set_option linter.unusedSimpArgs false
open Go.RowKit

/-- A grid, and a level. -/
def Lvl (n : Nat) (L : Nat → Nat) (g : Nat → Nat → Int) (l : Int) : Prop := Valid n L g ∧ 0 ≤ l ∧ l ≤ 99
instance (n : Nat) (L : Nat → Nat) (g : Nat → Nat → Int) (l : Int) : Decidable (Lvl n L g l) := by unfold Lvl; infer_instance

theorem l3Ok_yes (A : Option Addr) (n cp : Nat) (L : Nat → Nat) (g : Nat → Nat → Int) (l : Int) (w : World) (hg : GridF w A n L g) (h : Lvl n L g l) :
    Calls Try.prog 51 #[.slice A n cp, .int .i64 l] w (RetV (.bool true) w) := by
  obtain ⟨hv, h1, h2⟩ := h
  have HG := Lib.hid hg
  have HV := Lib.hid hv
  clear hg hv
  go_enter Try.func51, Try.ntmps51
  go_wp2_with fail
  refine (specValid_yes _ _ _ _ _ _ HG.out HV.out).mono ?_
  rintro e w1 ⟨rfl, hb1⟩
  go_wp2_with fail
  refine (l6In_yes _ _ _ _ (by omega) (by omega)).mono ?_
  rintro e w' ⟨rfl, rfl⟩
  go_wp2_with fail
  go_ret
  exact ⟨rfl, hb1⟩

theorem l3Ok_no (A : Option Addr) (n cp : Nat) (L : Nat → Nat) (g : Nat → Nat → Int) (l : Int) (w : World) (hg : GridF w A n L g) (hn : n ≤ 1048576) (hL : ∀ r, r < n → L r ≤ 1048576) (h : ¬ Lvl n L g l) :
    Calls Try.prog 51 #[.slice A n cp, .int .i64 l] w (RetV (.bool false) w) := by
  have HG := Lib.hid hg
  have HL := Lib.hid hL
  clear hg hL
  by_cases hv : Valid n L g
  · have h' : ¬ (0 ≤ l ∧ l ≤ 99) := fun hh => h ⟨hv, hh⟩
    have HV := Lib.hid hv
    clear h hv
    go_enter Try.func51, Try.ntmps51
    go_wp2_with fail
    refine (specValid_yes _ _ _ _ _ _ HG.out HV.out).mono ?_
    rintro e w1 ⟨rfl, hb1⟩
    go_wp2_with fail
    refine (l6In_no _ _ _ _ (by omega)).mono ?_
    rintro e w' ⟨rfl, rfl⟩
    go_wp2_with fail
    go_ret
    exact ⟨rfl, hb1⟩
  · have HV := Lib.hid hv
    clear h hv
    go_enter Try.func51, Try.ntmps51
    go_wp2_with fail
    refine (specValid_no _ _ _ _ _ _ HG.out hn HL.out HV.out).mono ?_
    rintro e w1 ⟨rfl, hb1⟩
    go_wp2_with fail
    go_ret
    exact ⟨rfl, hb1⟩

theorem leveled_yes (A : Option Addr) (n cp N : Nat) (L : Nat → Nat) (g : Nat → Nat → Int) (l : Int) (w : World) (hg : GridF w A n L g) (h : Lvl n L g l) (hN : Hid (N = n * L 0)) :
    Calls Try.prog 57 #[.slice A n cp, .int .i64 l] w (RetFO n (L 0) N (flat (L 0) g) w) := by
  obtain ⟨hv, h1, h2⟩ := h
  have HG := Lib.hid (hg.below (below_alloc w (.cells #[.int .i64 0, .int .i64 0, .slice none 0 0] 49)))
  have HV := Lib.hid hv
  clear hg hv
  go_enter Try.func57, Try.ntmps57
  go_wp2_with fail
  refine (fieldOf_yes _ _ _ N _ _ _ HG.out HV.out hN).mono ?_
  rintro e w1 ⟨b, rfl, hlo, hrow, hb1⟩
  have HRow := Lib.hid hrow
  clear hrow
  have hs := hb1.size
  simp at hs hlo
  have z0 := (hb1.cell (by simp)).trans (box_cell0 w (.int .i64 0) (.int .i64 0) (.slice none 0 0) 49)
  have z1 := (hb1.cell (by simp)).trans (box_cell1 w (.int .i64 0) (.int .i64 0) (.slice none 0 0) 49)
  have z2 := (hb1.cell (by simp)).trans (box_cell2 w (.int .i64 0) (.int .i64 0) (.slice none 0 0) 49)
  have hres : w1.heap[w.heap.size]? = some (.cells #[.int .i64 0, .int .i64 0, .slice none 0 0] 49 (0, 0)) := (hb1.block _ (by simp)).trans (heap_alloc_new _ _)
  have hlt : w.heap.size < w1.heap.size := by omega
  have q0 := frozen_of_blk hres 0
  have q1 := frozen_of_blk hres 1
  have q2 := frozen_of_blk hres 2
  have HB1 := Lib.hid hb1
  clear hres hb1
  go_wp2_with fail
  refine (isHeight_any _ _ true (by show true = true ↔ _; simp; omega)).mono ?_
  rintro e w' ⟨rfl, rfl⟩
  go_wp2_with fail
  refine bodyPost_ret (v := .tuple #[.agg #[.int .i64 n, .int .i64 (L 0), .slice (some ⟨b, 0, none⟩) N N], .bool true]) (by simp [results, Try.results57, go_sem, z0, z1, z2, hlt]) rfl ⟨b, rfl, by omega, ?_, ?_⟩
  · refine World.rowIs.alloc (World.rowIs.setOther (World.rowIs.setOther (World.rowIs.setOther HRow.out ?_ _) ?_ _) ?_ _) _ <;> (show b ≠ w.heap.size; omega)
  · have := (below_alloc w (.cells #[.int .i64 0, .int .i64 0, .slice none 0 0] 49)).trans (HB1.out.mono (by simp))
    exact (((this.setCell (by exact Nat.le_refl _) _).setCell (by exact Nat.le_refl _) _).setCell (by exact Nat.le_refl _) _).alloc (by simp [World.setCell]; omega) _

theorem leveled_no (A : Option Addr) (n cp : Nat) (L : Nat → Nat) (g : Nat → Nat → Int) (l : Int) (w : World) (hg : GridF w A n L g) (hn : n ≤ 1048576) (hL : ∀ r, r < n → L r ≤ 1048576) (h : ¬ Lvl n L g l) :
    Calls Try.prog 57 #[.slice A n cp, .int .i64 l] w (RetFN w) := by
  have HG := Lib.hid (hg.below (below_alloc w (.cells #[.int .i64 0, .int .i64 0, .slice none 0 0] 49)))
  have HL := Lib.hid hL
  clear hg hL
  by_cases hv : Valid n L g
  · have h' : ¬ (0 ≤ l ∧ l ≤ 99) := fun hh => h ⟨hv, hh⟩
    have HV := Lib.hid hv
    clear h hv
    go_enter Try.func57, Try.ntmps57
    go_wp2_with fail
    refine (fieldOf_yes _ _ _ _ _ _ _ HG.out HV.out rfl).mono ?_
    rintro e w1 ⟨b, rfl, hlo, hrow, hb1⟩
    clear hrow
    have hs := hb1.size
    simp at hs hlo
    have z0 := (hb1.cell (by simp)).trans (box_cell0 w (.int .i64 0) (.int .i64 0) (.slice none 0 0) 49)
    have z1 := (hb1.cell (by simp)).trans (box_cell1 w (.int .i64 0) (.int .i64 0) (.slice none 0 0) 49)
    have z2 := (hb1.cell (by simp)).trans (box_cell2 w (.int .i64 0) (.int .i64 0) (.slice none 0 0) 49)
    have hres : w1.heap[w.heap.size]? = some (.cells #[.int .i64 0, .int .i64 0, .slice none 0 0] 49 (0, 0)) := (hb1.block _ (by simp)).trans (heap_alloc_new _ _)
    have hlt : w.heap.size < w1.heap.size := by omega
    have q0 := frozen_of_blk hres 0
    have q1 := frozen_of_blk hres 1
    have q2 := frozen_of_blk hres 2
    have HB1 := Lib.hid hb1
    clear hres hb1
    go_wp2_with fail
    refine (isHeight_any _ _ false (by show false = true ↔ _; simp; omega)).mono ?_
    rintro e w' ⟨rfl, rfl⟩
    go_wp2_with fail
    refine bodyPost_ret (v := .tuple #[.agg #[.int .i64 0, .int .i64 0, .slice none 0 0], .bool false]) (by simp [results, Try.results57, go_sem, z0, z1, z2, hlt]) rfl ⟨rfl, ?_⟩
    have := (below_alloc w (.cells #[.int .i64 0, .int .i64 0, .slice none 0 0] 49)).trans (HB1.out.mono (by simp))
    exact (((this.setCell (by exact Nat.le_refl _) _).setCell (by exact Nat.le_refl _) _).setCell (by exact Nat.le_refl _) _).alloc (by simp [World.setCell]; omega) _
  · have HV := Lib.hid hv
    clear h hv
    go_enter Try.func57, Try.ntmps57
    go_wp2_with fail
    refine (fieldOf_no _ _ _ _ _ _ HG.out hn HL.out HV.out).mono ?_
    rintro e w1 ⟨rfl, hb1⟩
    have hs := hb1.size
    simp at hs
    have z0 := (hb1.cell (by simp)).trans (box_cell0 w (.int .i64 0) (.int .i64 0) (.slice none 0 0) 49)
    have z1 := (hb1.cell (by simp)).trans (box_cell1 w (.int .i64 0) (.int .i64 0) (.slice none 0 0) 49)
    have z2 := (hb1.cell (by simp)).trans (box_cell2 w (.int .i64 0) (.int .i64 0) (.slice none 0 0) 49)
    have hres : w1.heap[w.heap.size]? = some (.cells #[.int .i64 0, .int .i64 0, .slice none 0 0] 49 (0, 0)) := (hb1.block _ (by simp)).trans (heap_alloc_new _ _)
    have hlt : w.heap.size < w1.heap.size := by omega
    have q0 := frozen_of_blk hres 0
    have q1 := frozen_of_blk hres 1
    have q2 := frozen_of_blk hres 2
    have HB1 := Lib.hid hb1
    clear hres hb1
    go_wp2_with fail
    refine bodyPost_ret (v := .tuple #[.agg #[.int .i64 0, .int .i64 0, .slice none 0 0], .bool false]) (by simp [results, Try.results57, go_sem, z0, z1, z2, hlt]) rfl ⟨rfl, ?_⟩
    have := (below_alloc w (.cells #[.int .i64 0, .int .i64 0, .slice none 0 0] 49)).trans (HB1.out.mono (by simp))
    exact (((this.setCell (by exact Nat.le_refl _) _).setCell (by exact Nat.le_refl _) _).setCell (by exact Nat.le_refl _) _).alloc (by simp [World.setCell]; omega) _

def greatestV (n : Nat) (L : Nat → Nat) (g : Nat → Nat → Int) : Int := if Valid n L g then maxTo (flat (L 0) g) (n * L 0) else -1

theorem implLevelGreatest_any (A : Option Addr) (n cp : Nat) (L : Nat → Nat) (g : Nat → Nat → Int) (w : World) (hg : GridF w A n L g) (hn : n ≤ 1048576) (hL : ∀ r, r < n → L r ≤ 1048576) :
    Calls Try.prog 34 #[.slice A n cp] w (RetV (.int .i64 (greatestV n L g)) w) := by
  have HC := Lib.hid (implGridRange_any A n cp L g w hg hn hL)
  clear hg hL
  by_cases hv : Valid n L g
  · have HG := Lib.hid (show greatestV n L g = _ from if_pos hv)
    have HR := Lib.hid (rngV_yes hv)
    clear hv
    go_enter Try.func34, Try.ntmps34
    go_wp2_with fail
    refine HC.out.mono ?_
    rintro e w1 ⟨rfl, hb1⟩
    rw [HR.out]
    go_wp2_with fail
    go_ret
    exact ⟨ret_int HG.out.symm, hb1⟩
  · have HG := Lib.hid (show greatestV n L g = _ from if_neg hv)
    have HR := Lib.hid (rngV_no hv)
    clear hv
    go_enter Try.func34, Try.ntmps34
    go_wp2_with fail
    refine HC.out.mono ?_
    rintro e w1 ⟨rfl, hb1⟩
    rw [HR.out]
    go_wp2_with fail
    go_ret
    exact ⟨ret_int HG.out.symm, hb1⟩

end Go.Proofs.Ytgekjhmjjjkibaa
