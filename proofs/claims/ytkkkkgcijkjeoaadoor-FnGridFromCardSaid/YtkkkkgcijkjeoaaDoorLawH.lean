/- Helpers of the laws over drawn grids: equal lists and grids, heights by index, drawn grids. -/
import Derived.Test.YtkkkkgcijkjeoaaDoorRough
namespace Go.Proofs.YtkkkkgcijkjeoaaDoor
set_option linter.unusedVariables false
set_option linter.unusedSimpArgs false
open Go.RowKit

theorem sameInts_yes (A A' : Option Addr) (n c c' : Nat) (f : Nat → Int) (w : World) (h : RowF w A n f) (h' : RowF w A' n f) (hn : n ≤ 9223372036854775807) :
    Calls Tryd.prog 29 #[.slice A n c, .slice A' n c'] w (RetV (.bool true) w) := by
  have H := Lib.hid h
  have H' := Lib.hid h'
  clear h h'
  go_enter Tryd.func29, Tryd.ntmps29
  go_wp2
  go_loopw [5] (RelB w n) (fun i _ => n - (intOf i).toNat)
  case atStart => exact ⟨0, Nat.zero_le _, rfl, Below.refl _ _⟩
  case round =>
    obtain ⟨k, hk, rfl, hbel⟩ := hrel
    by_cases hlt : k < n
    · obtain ⟨b, o, rfl, hc⟩ := (RowF.below H.out hbel) k hlt
      obtain ⟨b', o', rfl, hc'⟩ := (RowF.below H'.out hbel) k hlt
      go_wp2
      go_quiet (fail)
      go_wp2
      go_roundw
      case rel => exact ⟨k + 1, by omega, by go_num, below_drewN hbel _⟩
      case measure => simp [intOf]; omega
    · have : k = n := by omega
      subst this
      go_wp2
      go_ret
      exact ⟨rfl, hbel⟩


theorem sameGrid_yes (A A' : Option Addr) (n c c' : Nat) (L : Nat → Nat) (g : Nat → Nat → Int) (w : World) (h : GridF w A n L g) (h' : GridF w A' n L g) (hn : n ≤ 9223372036854775807) (hL : ∀ r, r < n → L r ≤ 9223372036854775807) :
    Calls Tryd.prog 10 #[.slice A n c, .slice A' n c'] w (RetV (.bool true) w) := by
  have H := Lib.hid h
  have H' := Lib.hid h'
  have HL := Lib.hid hL
  clear h h' hL
  go_enter Tryd.func10, Tryd.ntmps10
  go_wp2
  go_loopw [5] (RelB w n) (fun i _ => n - (intOf i).toNat)
  case atStart => exact ⟨0, Nat.zero_le _, rfl, Below.refl _ _⟩
  case round =>
    obtain ⟨k, hk, rfl, hbel⟩ := hrel
    by_cases hlt : k < n
    · obtain ⟨b, o, A1, c1, rfl, hc, _, hr⟩ := (GridF.below H.out hbel) k hlt
      obtain ⟨b', o', A2, c2, rfl, hc', _, hr'⟩ := (GridF.below H'.out hbel) k hlt
      have HR := Lib.hid hr
      have HR' := Lib.hid hr'
      have hl := HL.out k hlt
      clear hr hr'
      go_wp2
      have hx := Later.cell hc
      have hx' := Later.cell hc'
      refine wp_region_later (by kernel_rfl) (by kernel_rfl) ?_
      repeat (first | go_big_quiet_step ((go_at_call 29; exact quietL (sameInts_yes _ _ _ _ _ _ _ (HR.out.below (Later.below _)) (HR'.out.below (Later.below _)) hl))))
      refine wpQuiet_nil ?_
      rintro _ ⟨⟨w1, hb1⟩, rfl⟩
      clear hx hx'
      go_wp2
      go_roundw
      case rel => exact ⟨k + 1, by omega, by go_num, hbel.trans (hb1.mono hbel.size)⟩
      case measure => simp [intOf]; omega
    · have : k = n := by omega
      subst this
      go_wp2
      go_ret
      exact ⟨rfl, hbel⟩


theorem cellsOf_any (A : Option Addr) (n c : Nat) (L : Nat → Nat) (g : Nat → Nat → Int) (w : World) (hg : GridF w A n L g) (hn1 : 1 ≤ n) (hn : n ≤ 1000) (hL : L 0 ≤ 1000) :
    Calls Tryd.prog 11 #[.slice A n c] w (RetP (.int .i64 ((n * L 0 : Nat))) w) := by
  obtain ⟨B, o, A0, c0, rfl, hc0, _, hr0⟩ := hg 0 (by omega)
  rw [Nat.add_zero] at hc0
  clear hr0 hg
  have hm : n * L 0 ≤ 1000000 := Nat.le_trans (Nat.mul_le_mul hn hL) (by decide)
  have hm0 : (0 : Int) ≤ (n : Int) * (L 0 : Int) := by rw [← Int.natCast_mul]; omega
  have hm1 : (n : Int) * (L 0 : Int) ≤ 1000000 := by rw [← Int.natCast_mul]; omega
  go_enter Tryd.func11, Tryd.ntmps11
  go_wp2_with fail
  go_ret
  exact ⟨ret_int (by rw [Int.natCast_mul]), rfl⟩


def RetDrawn (Br : Nat) (A : Option Addr) (m c : Nat) (z : Nat → Int) (p : Int) (w : World) (e : Ending) (w' : World) : Prop :=
  ∃ v n L g p', e = .returned v ∧ 1 ≤ n ∧ n ≤ 9 ∧ GridO w' w.heap.size v n L g ∧ (∀ r, r < n → 1 ≤ L r ∧ L r ≤ 10 ∧ L 0 ≤ L r) ∧ Rdr w' Br A m c z p' ∧ p' ≤ p + 200 ∧ But Br w w'

theorem l91Grid_any (Br : Nat) (A : Option Addr) (m c : Nat) (z : Nat → Int) (p : Int) (w : World) (H : Rdr w Br A m c z p) (hp : p ≤ 90000) :
    Calls Tryd.prog 18 #[.pointer (some ⟨Br, 0, none⟩)] w (RetDrawn Br A m c z p w) := by
  have HH := Lib.hid H
  clear H
  go_enter Tryd.func18, Tryd.ntmps18
  go_wp2_with fail
  refine (pick_any _ _ _ _ _ _ _ _ HH.out (by omega) (by omega) (by omega)).mono ?_
  rintro e w1 ⟨x, rfl, hx0, hx1, hrd, hb1⟩
  obtain ⟨x, rfl⟩ := Int.eq_ofNat_of_zero_le hx0
  have HR1 := Lib.hid hrd
  clear hrd
  go_wp2_with fail
  refine (pick_any _ _ _ _ _ _ _ _ HR1.out (by omega) (by omega) (by omega)).mono ?_
  rintro e w2 ⟨y, rfl, hy0, hy1, hrd, hb2⟩
  obtain ⟨y, rfl⟩ := Int.eq_ofNat_of_zero_le hy0
  have HR2 := Lib.hid hrd
  clear hrd
  go_wp2_with fail
  rw [show (1 + (x : Int)) = ((1 + x : Nat) : Int) by omega, show (1 + (y : Int)) = ((1 + y : Nat) : Int) by omega]
  refine (l91Rough_any _ _ _ _ _ _ _ _ _ HR2.out (by omega) (by omega) (by omega) (by omega) (by omega)).mono ?_
  rintro e w3 ⟨v, L, g, p', rfl, hgo, hL, hrd, hp', hb3⟩
  have HF : Hid (RetDrawn Br A m c z p w (.returned v) w3) :=
    ⟨v, 1 + x, L, g, p', rfl, by omega, by omega, by
      have hs := (hb1.trans hb2).size
      obtain ⟨V, h1, h2, h3⟩ := hgo
      exact ⟨V, h1.mono hs, fun r hr => (h2 r hr).mono hs, h3⟩, fun r hr => by have := hL r hr; omega, hrd, by omega, (hb1.trans hb2).trans hb3⟩
  obtain ⟨Av, cv, rfl, _, _⟩ := hgo.grid
  clear hgo hL hrd hb3
  go_wp2_with fail
  go_ret
  exact HF.out

/-- A drawn grid. -/
def RetD (w : World) (e : Ending) (w' : World) : Prop :=
  ∃ A n c L g, e = .returned (.slice A n c) ∧ 1 ≤ n ∧ n ≤ 9 ∧ (∀ r, r < n → 1 ≤ L r ∧ L r ≤ 10 ∧ L 0 ≤ L r) ∧ GridF w' A n L g ∧ Below w.heap.size w w'





theorem drawGridText_any (A : Option Addr) (m c : Nat) (z : Nat → Int) (w : World) (h : RowB w A m z) (hm : m ≤ 9223372036854775807) (hmc : m ≤ c) :
    Calls Tryd.prog 6 #[.slice A m c] w (RetD w) := by
  have HR := Lib.hid h
  clear h
  go_enter Tryd.func6, Tryd.ntmps6
  go_wp2_with fail
  refine (l6Open_any _ _ _ _ _ HR.out hm hmc).mono ?_
  rintro e w1 ⟨m', c', rfl, hrd, hs1, hb1⟩
  have HRd := Lib.hid hrd
  have HS1 := Lib.hid hs1
  clear hrd hs1
  go_wp2_with fail
  refine (l91Grid_any _ _ _ _ _ _ _ HRd.out (by omega)).mono ?_
  rintro e w2 ⟨v, n, L, g, p', rfl, hn1, hn2, hgo, hL, _, _, hb2⟩
  obtain ⟨Av, cv, rfl, _, hgrid⟩ := hgo.grid
  have HF : Hid (RetD w (.returned (.slice Av n cv)) w2) := ⟨Av, n, cv, L, g, rfl, hn1, hn2, hL, hgrid, hb1.trans (hb2.below hb1.size (Nat.le_refl _))⟩
  clear hgo hL hgrid hb2
  go_wp2_with fail
  go_ret
  exact HF.out





end Go.Proofs.YtkkkkgcijkjeoaaDoor
