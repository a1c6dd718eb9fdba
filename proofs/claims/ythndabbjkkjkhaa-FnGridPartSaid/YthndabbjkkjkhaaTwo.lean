/- Draws of two grids; the draw of GridPart. -/
import Derived.Test.YthndabbjkkjkhaaLawH
namespace Go.Proofs.Ythndabbjkkjkhaa
set_option linter.unusedVariables false
set_option linter.unusedSimpArgs false
open Go.RowKit

theorem results_tmp5 {fn : Func} {t u v s q : Tmp} (h : fn.results = #[.tmp t, .tmp u, .tmp v, .tmp s, .tmp q]) (tmps : Array Value) (P : Program) (w : World) :
    (results fn tmps).run P w = .ok (.tuple #[tmps.getD t undef, tmps.getD u undef, tmps.getD v undef, tmps.getD s undef, tmps.getD q undef]) w := by
  simp [results, h]

/-- Two drawn grids. -/
def RetTwo (Br : Nat) (w : World) (e : Ending) (w' : World) : Prop :=
  ∃ v n L g v' n' L' g', e = .returned (.tuple #[v, v']) ∧ 1 ≤ n ∧ n ≤ 9 ∧ GridO w' w.heap.size v n L g ∧ (∀ r, r < n → 1 ≤ L r ∧ L r ≤ 10 ∧ L 0 ≤ L r) ∧ 1 ≤ n' ∧ n' ≤ 9 ∧ GridO w' w.heap.size v' n' L' g' ∧ (∀ r, r < n' → 1 ≤ L' r ∧ L' r ≤ 10 ∧ L' 0 ≤ L' r) ∧ But Br w w'

set_option maxHeartbeats 800000 in
theorem l91Two_any (Br : Nat) (A : Option Addr) (m c : Nat) (z : Nat → Int) (p : Int) (w : World) (H : Rdr w Br A m c z p) (hp : p ≤ 80000) :
    Calls Try.prog 78 #[.pointer (some ⟨Br, 0, none⟩)] w (RetTwo Br w) := by
  have hBr := lt_of_blk H.blk
  have HH := Lib.hid H
  clear H
  go_enter Try.func78, Try.ntmps78
  go_wp2_with fail
  refine (pick_any _ _ _ _ _ _ _ _ HH.out (by omega) (by omega) (by omega)).mono ?_
  rintro e w1 ⟨x, rfl, hx0, hx1, hrd, hb1⟩
  obtain ⟨x, rfl⟩ := Int.eq_ofNat_of_zero_le hx0
  have HR1 := Lib.hid hrd
  clear hrd
  go_wp2_with fail
  refine (pick_any _ _ _ _ _ _ _ _ HR1.out (by omega) (by omega) (by omega)).mono ?_
  rintro e w2 ⟨y, rfl, hy0, hy1, hrd, hb2⟩
  obtain ⟨y, rfl⟩ := Int.eq_ofNat_of_zero_le hy0
  have HR2 := Lib.hid hrd
  clear hrd
  go_wp2_with fail
  obtain ⟨X, hX, hX1, hX2⟩ : ∃ X : Nat, 1 + (x : Int) = (X : Int) ∧ 1 ≤ X ∧ X ≤ 4 := ⟨1 + x, by omega, by omega, by omega⟩
  obtain ⟨Y, hY, hY1, hY2⟩ : ∃ Y : Nat, 1 + (y : Int) = (Y : Int) ∧ 1 ≤ Y ∧ Y ≤ 4 := ⟨1 + y, by omega, by omega, by omega⟩
  rw [hX, hY]
  clear hX hY hx0 hx1 hy0 hy1
  refine (l91Rough_any _ _ _ _ _ _ _ _ _ HR2.out (by omega) (by omega) (by omega) (by omega) (by omega)).mono ?_
  rintro e w3 ⟨v, L, g, p3, rfl, hgo, hL, hrd, hp3, hb3⟩
  have HR3 := Lib.hid hrd
  have hb03 := (hb1.trans hb2).trans hb3
  have HGo : Hid (GridO w3 w.heap.size v X L g) := by
    have hs := (hb1.trans hb2).size
    obtain ⟨V, h1, h2, h3⟩ := hgo
    exact ⟨V, h1.mono hs, fun r hr => (h2 r hr).mono hs, h3⟩
  have HLL : Hid (∀ r, r < X → 1 ≤ L r ∧ L r ≤ 10 ∧ L 0 ≤ L r) := fun r hr => by have := hL r hr; omega
  obtain ⟨Av, cv, rfl, _, _⟩ := hgo.grid
  clear hgo hL hrd
  go_wp2_with fail
  refine (pick_any _ _ _ _ _ _ _ _ HR3.out (by omega) (by omega) (by omega)).mono ?_
  rintro e w4 ⟨t, rfl, ht0, ht1, hrd, hb4⟩
  have HR4 := Lib.hid hrd
  have hb04 := hb03.trans hb4
  have HG4 := Lib.hid (HGo.out.of_but hb4 hBr)
  clear hrd HGo
  have fin : ∀ (v' : Value) (n' : Nat) (L' : Nat → Nat) (g' : Nat → Nat → Int) (w' : World), But Br w4 w' → 1 ≤ n' → n' ≤ 9 → GridO w' w4.heap.size v' n' L' g' → (∀ r, r < n' → 1 ≤ L' r ∧ L' r ≤ 10 ∧ L' 0 ≤ L' r) → RetTwo Br w (.returned (.tuple #[.slice Av X cv, v'])) w' := fun v' n' L' g' w' hb h1 h2 h3 h4 => by
    have hs := hb04.size
    obtain ⟨V, q1, q2, q3⟩ := h3
    exact ⟨_, X, L, g, v', n', L', g', rfl, by omega, by omega, HG4.out.of_but hb hBr, HLL.out, h1, h2, ⟨V, q1.mono hs, fun r hr => (q2 r hr).mono hs, q3⟩, h4, hb04.trans hb⟩
  go_wp2_with fail
  · refine (l91Grid_any _ _ _ _ _ _ _ HR4.out (by omega)).mono ?_
    rintro e w5 ⟨v', n', L', g', p5, rfl, h1, h2, h3, h4, _, _, hb5⟩
    have HF := Lib.hid (fin v' n' L' g' w5 hb5 h1 h2 h3 h4)
    obtain ⟨A5, c5, rfl, _, _⟩ := h3.grid
    clear h3 h4 hb5 fin
    go_wp2_with fail
    go_ret2
    exact HF.out
  · refine (l91Rough_any _ _ _ _ _ _ _ _ _ HR4.out (by omega) (by omega) (by omega) (by omega) (by omega)).mono ?_
    rintro e w5 ⟨v', L', g', p5, rfl, h3, h4, _, _, hb5⟩
    have HF := Lib.hid (fin v' X L' g' w5 hb5 (by omega) (by omega) h3 (fun r hr => by have := h4 r hr; omega))
    obtain ⟨A5, c5, rfl, _, _⟩ := h3.grid
    clear h3 h4 hb5 fin
    go_wp2_with fail
    go_ret2
    exact HF.out

/-- Two grids that are only read. -/
def RetD2 (w : World) (e : Ending) (w' : World) : Prop :=
  ∃ A n c L g A' n' c' L' g', e = .returned (.tuple #[.slice A n c, .slice A' n' c']) ∧ 1 ≤ n ∧ n ≤ 9 ∧ (∀ r, r < n → 1 ≤ L r ∧ L r ≤ 10 ∧ L 0 ≤ L r) ∧ 1 ≤ n' ∧ n' ≤ 9 ∧ (∀ r, r < n' → 1 ≤ L' r ∧ L' r ≤ 10 ∧ L' 0 ≤ L' r) ∧ GridF w' A n L g ∧ GridF w' A' n' L' g' ∧ Below w.heap.size w w'

theorem drawGridBeside_any (A : Option Addr) (m c : Nat) (z : Nat → Int) (w : World) (h : RowB w A m z) (hm : m ≤ 9223372036854775807) (hmc : m ≤ c) :
    Calls Try.prog 33 #[.slice A m c] w (RetD2 w) := by
  have HR := Lib.hid h
  clear h
  go_enter Try.func33, Try.ntmps33
  go_wp2_with fail
  refine (l6Open_any _ _ _ _ _ HR.out hm hmc).mono ?_
  rintro e w1 ⟨m', c', rfl, hrd, hs1, hb1⟩
  have HRd := Lib.hid hrd
  clear hrd hs1
  go_wp2_with fail
  refine (l91Two_any _ _ _ _ _ _ _ HRd.out (by omega)).mono ?_
  rintro e w2 ⟨v, n, L, g, v', n', L', g', rfl, hn1, hn2, hgo, hL, hn1', hn2', hgo', hL', hb2⟩
  obtain ⟨Av, cv, rfl, _, hgrid⟩ := hgo.grid
  obtain ⟨Av', cv', rfl, _, hgrid'⟩ := hgo'.grid
  have HF : Hid (RetD2 w (.returned (.tuple #[.slice Av n cv, .slice Av' n' cv'])) w2) := ⟨Av, n, cv, L, g, Av', n', cv', L', g', rfl, hn1, hn2, hL, hn1', hn2', hL', hgrid, hgrid', hb1.trans (hb2.below hb1.size (Nat.le_refl _))⟩
  clear hgo hL hgrid hgo' hL' hgrid' hb2
  go_wp2_with fail
  go_ret2
  exact HF.out

theorem drawGridBelow_any (A : Option Addr) (m c : Nat) (z : Nat → Int) (w : World) (h : RowB w A m z) (hm : m ≤ 9223372036854775807) (hmc : m ≤ c) :
    Calls Try.prog 35 #[.slice A m c] w (RetD2 w) := by
  have HR := Lib.hid h
  clear h
  go_enter Try.func35, Try.ntmps35
  go_wp2_with fail
  refine (l6Open_any _ _ _ _ _ HR.out hm hmc).mono ?_
  rintro e w1 ⟨m', c', rfl, hrd, hs1, hb1⟩
  have HRd := Lib.hid hrd
  clear hrd hs1
  go_wp2_with fail
  refine (l91Two_any _ _ _ _ _ _ _ HRd.out (by omega)).mono ?_
  rintro e w2 ⟨v, n, L, g, v', n', L', g', rfl, hn1, hn2, hgo, hL, hn1', hn2', hgo', hL', hb2⟩
  obtain ⟨Av, cv, rfl, _, hgrid⟩ := hgo.grid
  obtain ⟨Av', cv', rfl, _, hgrid'⟩ := hgo'.grid
  have HF : Hid (RetD2 w (.returned (.tuple #[.slice Av n cv, .slice Av' n' cv'])) w2) := ⟨Av, n, cv, L, g, Av', n', cv', L', g', rfl, hn1, hn2, hL, hn1', hn2', hL', hgrid, hgrid', hb1.trans (hb2.below hb1.size (Nat.le_refl _))⟩
  clear hgo hL hgrid hgo' hL' hgrid' hb2
  go_wp2_with fail
  go_ret2
  exact HF.out

/-- A drawn grid and four numbers. -/
def RetD5 (w : World) (e : Ending) (w' : World) : Prop :=
  ∃ A n cp L g a b c d, e = .returned (.tuple #[.slice A n cp, .int .i64 a, .int .i64 b, .int .i64 c, .int .i64 d]) ∧ (-1 ≤ a ∧ a ≤ 20 ∧ -1 ≤ b ∧ b ≤ 20 ∧ -1 ≤ c ∧ c ≤ 20 ∧ -1 ≤ d ∧ d ≤ 20) ∧ 1 ≤ n ∧ n ≤ 9 ∧ (∀ r, r < n → 1 ≤ L r ∧ L r ≤ 10 ∧ L 0 ≤ L r) ∧ GridF w' A n L g ∧ Below w.heap.size w w'
set_option maxHeartbeats 1500000 in
theorem drawGridPart_any (A : Option Addr) (m c : Nat) (z : Nat → Int) (w : World) (h : RowB w A m z) (hm : m ≤ 9223372036854775807) (hmc : m ≤ c) :
    Calls Try.prog 30 #[.slice A m c] w (RetD5 w) := by
  have HR := Lib.hid h
  clear h
  go_enter Try.func30, Try.ntmps30
  go_wp2_with fail
  refine (l6Open_any _ _ _ _ _ HR.out hm hmc).mono ?_
  rintro e w1 ⟨m', c', rfl, hrd, hs1, hb1⟩
  have HRd := Lib.hid hrd
  clear hrd
  go_wp2_with fail
  refine (l91Grid_any _ _ _ _ _ _ _ HRd.out (by omega)).mono ?_
  rintro e w2 ⟨v, n, L, g, p', rfl, hn1, hn2, hgo, hL, hrd, hp', hb2⟩
  have HRd2 := Lib.hid hrd
  have HGo := Lib.hid hgo
  obtain ⟨Bv, cv, rfl, _, _, _⟩ : ∃ Bv cv, v = .slice (some ⟨Bv, 0, none⟩) n cv ∧ True ∧ True ∧ True := by
    obtain ⟨V, hV⟩ := hgo
    obtain ⟨Bv, cv, e, _⟩ := hV.1.cell (k := 0) (by omega)
    exact ⟨Bv, cv, e, trivial, trivial, trivial⟩
  have HLL := Lib.hid hL
  have hl0 := hL 0 (by omega)
  have HC : Hid (∀ w', But w.heap.size w2 w' → ∃ A0 c0, w'.cell? ⟨Bv, 0, none⟩ = some (.slice A0 (L 0) c0)) := fun w' hb => by
    obtain ⟨_, _, e, _, hg⟩ := (HGo.out.of_but hb (by omega)).grid
    injection e with e _ _
    subst e
    obtain ⟨b, o, A0, c0, e, hc, _⟩ := hg 0 (by omega)
    injection e with e
    injection e with e1 e2
    subst e1 e2
    exact ⟨A0, c0, hc⟩
  clear hgo hL hrd
  go_wp2_with fail
  refine (pick_any _ _ _ _ _ _ _ _ HRd2.out (by omega) (by omega) (by omega)).mono ?_
  rintro e w3 ⟨t, rfl, ht0, ht1, hrd, hb3⟩
  have HRd3 := Lib.hid hrd
  clear hrd
  obtain ⟨A0, c0, hc0⟩ := HC.out w3 hb3
  go_wp2_with fail
  refine (pick_any _ _ _ _ _ _ _ _ HRd3.out (by omega) (by omega) (by omega)).mono ?_
  rintro e w4 ⟨l, rfl, hl0', hl1, hrd, hb4⟩
  have HRd4 := Lib.hid hrd
  have hb24 := hb3.trans hb4
  clear hrd hc0
  go_wp2_with fail
  refine (pick_any _ _ _ _ _ _ _ _ HRd4.out (by omega) (by omega) (by omega)).mono ?_
  rintro e w5 ⟨b, rfl, hb0, hb1', hrd, hb5⟩
  have HRd5 := Lib.hid hrd
  have hb25 := hb24.trans hb5
  obtain ⟨A0, c0, hc0⟩ := HC.out w5 hb25
  clear hrd
  go_wp2_with fail
  refine (pick_any _ _ _ _ _ _ _ _ HRd5.out (by omega) (by omega) (by omega)).mono ?_
  rintro e w6 ⟨q, rfl, hq0, hq1, hrd, hb6⟩
  have HRd6 := Lib.hid hrd
  have hb26 := hb25.trans hb6
  clear hrd hc0
  go_wp2_with fail
  refine (pick_any _ _ _ _ _ _ _ _ HRd6.out (by omega) (by omega) (by omega)).mono ?_
  rintro e w7 ⟨s, rfl, hs0, hs1', hrd, hb7⟩
  have HF : Hid (∀ a b c d : Int, (-1 ≤ a ∧ a ≤ 20 ∧ -1 ≤ b ∧ b ≤ 20 ∧ -1 ≤ c ∧ c ≤ 20 ∧ -1 ≤ d ∧ d ≤ 20) → RetD5 w (.returned (.tuple #[.slice (some ⟨Bv, 0, none⟩) n cv, .int .i64 a, .int .i64 b, .int .i64 c, .int .i64 d])) w7) := fun a b c d hh => by
    have hb27 := hb26.trans hb7
    obtain ⟨_, _, e, _, hg⟩ := (HGo.out.of_but hb27 (by omega)).grid
    injection e with e _ _
    subst e
    exact ⟨_, n, cv, L, g, a, b, c, d, rfl, hh, hn1, hn2, HLL.out, hg, hb1.trans ((hb2.trans hb27).below hb1.size (Nat.le_refl _))⟩
  clear hrd HC HGo
  by_cases s0 : s = 0
  · subst s0
    go_wp2_with fail
    (try simp only [Exit.inBlock, Exit.then])
    refine bodyPost_ret (results_tmp5 rfl _ _ _) rfl ?_
    exact HF.out _ _ _ _ (by omega)
  by_cases s1 : s = 1
  · subst s1
    go_wp2_with fail
    (try simp only [Exit.inBlock, Exit.then])
    refine bodyPost_ret (results_tmp5 rfl _ _ _) rfl ?_
    exact HF.out _ _ _ _ (by omega)
  by_cases s2 : s = 2
  · subst s2
    go_wp2_with fail
    (try simp only [Exit.inBlock, Exit.then])
    refine bodyPost_ret (results_tmp5 rfl _ _ _) rfl ?_
    exact HF.out _ _ _ _ (by omega)
  go_wp2_with fail
  (try simp only [Exit.inBlock, Exit.then])
  refine bodyPost_ret (results_tmp5 rfl _ _ _) rfl ?_
  exact HF.out _ _ _ _ (by omega)

end Go.Proofs.Ythndabbjkkjkhaa
