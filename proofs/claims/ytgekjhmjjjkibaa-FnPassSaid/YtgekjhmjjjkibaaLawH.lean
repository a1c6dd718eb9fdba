/- Helpers of the laws over drawn grids: equal lists and grids, heights by index, drawn grids. -/
import Derived.Test.YtgekjhmjjjkibaaRough
namespace Go.Proofs.Ytgekjhmjjjkibaa
set_option linter.unusedVariables false
set_option linter.unusedSimpArgs false
open Go.RowKit

theorem sameInts_yes (A A' : Option Addr) (n c c' : Nat) (f : Nat → Int) (w : World) (h : RowF w A n f) (h' : RowF w A' n f) (hn : n ≤ 9223372036854775807) :
    Calls Try.prog 38 #[.slice A n c, .slice A' n c'] w (RetV (.bool true) w) := by
  have H := Lib.hid h
  have H' := Lib.hid h'
  clear h h'
  go_enter Try.func38, Try.ntmps38
  go_wp2
  go_loopw [5] (RelB w n) (fun i _ => n - (intOf i).toNat)
  case atStart => exact ⟨0, Nat.zero_le _, rfl, Below.refl _ _⟩
  case round =>
    obtain ⟨k, hk, rfl, hbel⟩ := hrel
    by_cases hlt : k < n
    · obtain ⟨b, o, rfl, hc⟩ := (RowF.below H.out hbel) k hlt
      obtain ⟨b', o', rfl, hc'⟩ := (RowF.below H'.out hbel) k hlt
      go_wp2
      go_quiet (fail)
      go_wp2
      go_roundw
      case rel => exact ⟨k + 1, by omega, by go_num, below_drewN hbel _⟩
      case measure => simp [intOf]; omega
    · have : k = n := by omega
      subst this
      go_wp2
      go_ret
      exact ⟨rfl, hbel⟩



theorem cellsOf_any (A : Option Addr) (n c : Nat) (L : Nat → Nat) (g : Nat → Nat → Int) (w : World) (hg : GridF w A n L g) (hn1 : 1 ≤ n) (hn : n ≤ 1000) (hL : L 0 ≤ 1000) :
    Calls Try.prog 41 #[.slice A n c] w (RetP (.int .i64 ((n * L 0 : Nat))) w) := by
  obtain ⟨B, o, A0, c0, rfl, hc0, _, hr0⟩ := hg 0 (by omega)
  rw [Nat.add_zero] at hc0
  clear hr0 hg
  have hm : n * L 0 ≤ 1000000 := Nat.le_trans (Nat.mul_le_mul hn hL) (by decide)
  have hm0 : (0 : Int) ≤ (n : Int) * (L 0 : Int) := by rw [← Int.natCast_mul]; omega
  have hm1 : (n : Int) * (L 0 : Int) ≤ 1000000 := by rw [← Int.natCast_mul]; omega
  go_enter Try.func41, Try.ntmps41
  go_wp2_with fail
  go_ret
  exact ⟨ret_int (by rw [Int.natCast_mul]), rfl⟩

theorem heightOf_any (A : Option Addr) (n c i : Nat) (L : Nat → Nat) (g : Nat → Nat → Int) (w : World) (hg : GridF w A n L g) (hv : Valid n L g) (hi : i < n * L 0) :
    Calls Try.prog 39 #[.slice A n c, .int .i64 i] w (RetV (.int .i64 (flat (L 0) g i)) w) := by
  have hn1 := hv.1
  have hn2 := hv.2.1
  have hl1 := hv.2.2.1
  have hl2 := hv.2.2.2.1
  obtain ⟨r, hr⟩ : ∃ r, r = i / L 0 := ⟨_, rfl⟩
  obtain ⟨q, hq⟩ : ∃ q, q = i % L 0 := ⟨_, rfl⟩
  have hrn : r < n := by rw [hr]; exact Nat.div_lt_of_lt_mul (by rw [Nat.mul_comm]; exact hi)
  have hqL : q < L 0 := by rw [hq]; exact Nat.mod_lt _ (by omega)
  obtain ⟨B, o, A0, c0, rfl, hc0, _, _⟩ := hg 0 (by omega)
  rw [Nat.add_zero] at hc0
  obtain ⟨B1, o1, A1, c1, hBB, hc1, _, hr1⟩ := hg r hrn
  injection hBB with hBB
  injection hBB with hB1 hB2
  subst hB1 hB2
  rw [hv.len r hrn] at hc1 hr1
  obtain ⟨B2, o2, rfl, hc2⟩ := hr1 q hqL
  have HF : Hid (flat (L 0) g i = g r q) := by rw [hr, hq]; rfl
  have e1 : (i : Int) / (L 0 : Int) = (r : Int) := by rw [hr, Int.natCast_ediv]
  have e2 : (i : Int) % (L 0 : Int) = (q : Int) := by rw [hq, Int.natCast_emod]
  have e3 : ((L 0 : Int) == 0) = false := by simp; omega
  clear hr hq hg hv hi hr1
  go_enter Try.func39, Try.ntmps39
  go_wp2_with fail
  go_quiet (fail)
  go_wp2_with fail
  go_ret
  exact ⟨ret_int HF.out.symm, below_drewN (Below.refl _ _) _⟩

def RetDrawn (Br : Nat) (A : Option Addr) (m c : Nat) (z : Nat → Int) (p : Int) (w : World) (e : Ending) (w' : World) : Prop :=
  ∃ v n L g p', e = .returned v ∧ 1 ≤ n ∧ n ≤ 9 ∧ GridO w' w.heap.size v n L g ∧ (∀ r, r < n → 1 ≤ L r ∧ L r ≤ 10 ∧ L 0 ≤ L r) ∧ Rdr w' Br A m c z p' ∧ p' ≤ p + 200 ∧ But Br w w'

theorem l91Grid_any (Br : Nat) (A : Option Addr) (m c : Nat) (z : Nat → Int) (p : Int) (w : World) (H : Rdr w Br A m c z p) (hp : p ≤ 90000) :
    Calls Try.prog 64 #[.pointer (some ⟨Br, 0, none⟩)] w (RetDrawn Br A m c z p w) := by
  have HH := Lib.hid H
  clear H
  go_enter Try.func64, Try.ntmps64
  go_wp2_with fail
  refine (pick_any _ _ _ _ _ _ _ _ HH.out (by omega) (by omega) (by omega)).mono ?_
  rintro e w1 ⟨x, rfl, hx0, hx1, hrd, hb1⟩
  obtain ⟨x, rfl⟩ := Int.eq_ofNat_of_zero_le hx0
  have HR1 := Lib.hid hrd
  clear hrd
  go_wp2_with fail
  refine (pick_any _ _ _ _ _ _ _ _ HR1.out (by omega) (by omega) (by omega)).mono ?_
  rintro e w2 ⟨y, rfl, hy0, hy1, hrd, hb2⟩
  obtain ⟨y, rfl⟩ := Int.eq_ofNat_of_zero_le hy0
  have HR2 := Lib.hid hrd
  clear hrd
  go_wp2_with fail
  rw [show (1 + (x : Int)) = ((1 + x : Nat) : Int) by omega, show (1 + (y : Int)) = ((1 + y : Nat) : Int) by omega]
  refine (l91Rough_any _ _ _ _ _ _ _ _ _ HR2.out (by omega) (by omega) (by omega) (by omega) (by omega)).mono ?_
  rintro e w3 ⟨v, L, g, p', rfl, hgo, hL, hrd, hp', hb3⟩
  have HF : Hid (RetDrawn Br A m c z p w (.returned v) w3) :=
    ⟨v, 1 + x, L, g, p', rfl, by omega, by omega, by
      have hs := (hb1.trans hb2).size
      obtain ⟨V, h1, h2, h3⟩ := hgo
      exact ⟨V, h1.mono hs, fun r hr => (h2 r hr).mono hs, h3⟩, fun r hr => by have := hL r hr; omega, hrd, by omega, (hb1.trans hb2).trans hb3⟩
  obtain ⟨Av, cv, rfl, _, _⟩ := hgo.grid
  clear hgo hL hrd hb3
  go_wp2_with fail
  go_ret
  exact HF.out

/-- A drawn grid. -/
def RetD (w : World) (e : Ending) (w' : World) : Prop :=
  ∃ A n c L g, e = .returned (.slice A n c) ∧ 1 ≤ n ∧ n ≤ 9 ∧ (∀ r, r < n → 1 ≤ L r ∧ L r ≤ 10 ∧ L 0 ≤ L r) ∧ GridF w' A n L g ∧ Below w.heap.size w w'









theorem drawLevelWhole_any (A : Option Addr) (m c : Nat) (z : Nat → Int) (w : World) (h : RowB w A m z) (hm : m ≤ 9223372036854775807) (hmc : m ≤ c) :
    Calls Try.prog 33 #[.slice A m c] w (RetD w) := by
  have HR := Lib.hid h
  clear h
  go_enter Try.func33, Try.ntmps33
  go_wp2_with fail
  refine (l6Open_any _ _ _ _ _ HR.out hm hmc).mono ?_
  rintro e w1 ⟨m', c', rfl, hrd, hs1, hb1⟩
  have HRd := Lib.hid hrd
  have HS1 := Lib.hid hs1
  clear hrd hs1
  go_wp2_with fail
  refine (l91Grid_any _ _ _ _ _ _ _ HRd.out (by omega)).mono ?_
  rintro e w2 ⟨v, n, L, g, p', rfl, hn1, hn2, hgo, hL, _, _, hb2⟩
  obtain ⟨Av, cv, rfl, _, hgrid⟩ := hgo.grid
  have HF : Hid (RetD w (.returned (.slice Av n cv)) w2) := ⟨Av, n, cv, L, g, rfl, hn1, hn2, hL, hgrid, hb1.trans (hb2.below hb1.size (Nat.le_refl _))⟩
  clear hgo hL hgrid hb2
  go_wp2_with fail
  go_ret
  exact HF.out

end Go.Proofs.Ytgekjhmjjjkibaa
