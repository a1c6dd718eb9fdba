/- l91Pair: a grid and two indexes. -/
import Derived.Test.YtgekjhmjjjkibaaCell
namespace Go.Proofs.Ytgekjhmjjjkibaa
set_option linter.unusedVariables false
set_option linter.unusedSimpArgs false
open Go.RowKit

def RetIdx (Br : Nat) (A : Option Addr) (m c : Nat) (z : Nat → Int) (p : Int) (w : World) (e : Ending) (w' : World) : Prop :=
  ∃ v n L g a p', e = .returned (.tuple #[v, .int .i64 a]) ∧ -11 ≤ a ∧ a ≤ 110 ∧ 1 ≤ n ∧ n ≤ 9 ∧ GridO w' w.heap.size v n L g ∧ (∀ r, r < n → 1 ≤ L r ∧ L r ≤ 10 ∧ L 0 ≤ L r) ∧ Rdr w' Br A m c z p' ∧ p' ≤ p + 230 ∧ But Br w w'

theorem l91Index_any (Br : Nat) (A : Option Addr) (m c : Nat) (z : Nat → Int) (p : Int) (w : World) (H : Rdr w Br A m c z p) (hp : p ≤ 80000) :
    Calls Try.prog 94 #[.pointer (some ⟨Br, 0, none⟩)] w (RetIdx Br A m c z p w) := by
  have hBr := block_lt_heap H.blk
  have HH := Lib.hid H
  clear H
  go_enter Try.func94, Try.ntmps94
  go_wp2_with fail
  refine (l91Cell_any _ _ _ _ _ _ _ HH.out hp).mono ?_
  rintro e w1 ⟨v, n, L, g, a, b, p1, rfl, ha1, ha2, hb1, hb2, hn1, hn2, hgo, hL, hrd, hp1, hbt⟩
  have HR1 := Lib.hid hrd
  have HGo := Lib.hid hgo
  have HLL := Lib.hid hL
  obtain ⟨A1, c1, rfl, _, hg⟩ := hgo.grid
  obtain ⟨b0, o0, A0, c0, rfl, hc0, _, _⟩ := hg 0 (by omega)
  rw [Nat.add_zero] at hc0
  have hl0 := HLL.out 0 (by omega)
  have hm1 : a * (L 0 : Int) ≤ 100 := by
    rcases Int.lt_or_le a 0 with h | h
    · have := Int.mul_nonneg (show (0 : Int) ≤ -a by omega) (show (0 : Int) ≤ (L 0 : Int) by omega)
      rw [Int.neg_mul] at this
      omega
    · exact Int.le_trans (Int.mul_le_mul ha2 (show (L 0 : Int) ≤ 10 by omega) (by omega) (by omega)) (by decide)
  have hm2 : -10 ≤ a * (L 0 : Int) := by
    rcases Int.lt_or_le a 0 with h | h
    · obtain rfl : a = -1 := by omega
      omega
    · have := Int.mul_nonneg h (show (0 : Int) ≤ (L 0 : Int) by omega)
      omega
  clear hgo hL hrd hg
  go_wp2_with fail
  go_quiet (fail)
  go_wp2_with fail
  go_ret2
  exact ⟨_, n, L, g, _, p1, rfl, by omega, by omega, hn1, hn2, HGo.out.of_but (But.of_below (below_drewN (Below.refl _ _) _)) hBr, HLL.out, HR1.out.but (below_drewN (Below.refl _ _) _), by omega, hbt.trans (But.of_below (below_drewN (Below.refl _ _) _))⟩

def RetPair (Br : Nat) (A : Option Addr) (m c : Nat) (z : Nat → Int) (p : Int) (w : World) (e : Ending) (w' : World) : Prop :=
  ∃ v n L g a b p', e = .returned (.tuple #[v, .int .i64 a, .int .i64 b]) ∧ -11 ≤ a ∧ a ≤ 110 ∧ -1 ≤ b ∧ b ≤ 100 ∧ 1 ≤ n ∧ n ≤ 9 ∧ GridO w' w.heap.size v n L g ∧ (∀ r, r < n → 1 ≤ L r ∧ L r ≤ 10 ∧ L 0 ≤ L r) ∧ Rdr w' Br A m c z p' ∧ p' ≤ p + 250 ∧ But Br w w'

theorem tab2_in {y : Nat} : -1 ≤ tab2 (-1) 49 y ∧ tab2 (-1) 49 y ≤ 100 := by unfold tab2; split <;> omega

set_option maxHeartbeats 1500000 in
set_option maxRecDepth 100000 in
theorem l91Pair_any (Br : Nat) (A : Option Addr) (m c : Nat) (z : Nat → Int) (p : Int) (w : World) (H : Rdr w Br A m c z p) (hp : p ≤ 80000) :
    Calls Try.prog 74 #[.pointer (some ⟨Br, 0, none⟩)] w (RetPair Br A m c z p w) := by
  have hBr := block_lt_heap H.blk
  have HH := Lib.hid H
  clear H
  go_enter Try.func74, Try.ntmps74
  go_wp2_with fail
  refine (l91Index_any _ _ _ _ _ _ _ HH.out (by omega)).mono ?_
  rintro e w1 ⟨v, n, L, g, a, p1, rfl, ha1, ha2, hn1, hn2, hgo, hL, hrd, hp1, hb1⟩
  have HR1 := Lib.hid hrd
  have HGo := Lib.hid hgo
  obtain ⟨Av, cv, rfl, _, _⟩ := hgo.grid
  have HLL := Lib.hid hL
  clear hgo hL hrd
  go_wp2_with fail
  refine (pick_any _ _ _ _ _ _ _ _ HR1.out (by omega) (by omega) (by omega)).mono ?_
  rintro e w3 ⟨t, rfl, ht0, ht1, hrd, hb3⟩
  have HR3 := Lib.hid hrd
  clear hrd
  have hbb := hb1.trans hb3
  have HG3 : Hid (GridO w3 w.heap.size (.slice Av n cv) n L g) := HGo.out.of_but hb3 hBr
  clear HGo
  have fin : ∀ (b : Int) (w' : World) (p' : Int), -1 ≤ b ∧ b ≤ 100 → Rdr w' Br A m c z p' → p' ≤ p + 250 → But Br w3 w' → RetPair Br A m c z p w (.returned (.tuple #[.slice Av n cv, .int .i64 a, .int .i64 b])) w' := fun b w' p' h2 h3 h4 hb =>
    ⟨_, n, L, g, a, b, p', rfl, ha1, ha2, h2.1, h2.2, hn1, hn2, HG3.out.of_but hb hBr, HLL.out, h3, h4, hbb.trans hb⟩
  have Fin := Lib.hid fin
  clear fin
  by_cases h0 : t = 0
  · subst h0
    go_wp2_with fail
    refine wp_region_phi (N := 10) (C := Drs Br A m c z (p1 + 1) w3) (R := But Br) (φ := fun j v w4 => ([fun v _ => v = .slice Av n cv, fun v _ => v = .int .i64 a, Lit Br 2 (tab2 (-1) 49), fun v _ => v = .pointer (some ⟨Br, 0, none⟩), fun v _ => Upto 2 v, LitAt Br 2 (tab2 (-1) 49), fun v _ => InT 2 (tab2 (-1) 49) v, fun v _ => v = .slice Av n cv, fun v _ => v = .int .i64 a, fun v _ => InT 2 (tab2 (-1) 49) v] : List (Value → World → Prop)).getD j (fun _ _ => True) v w4) (by kernel_rfl) (by kernel_rfl) (by kernel_rfl) ?_ (Drs.start HR3.out) ?_ ?_
    · intro j v w4 w5 hb hv
      match j with
      | 2 => exact Lit.mono hv hb
      | 5 => exact LitAt.mono hv hb
      | 0 | 1 | 3 | 4 | 6 | 7 | 8 | 9 => exact hv
      | j + 10 => exact hv
    · refine ⟨?_, ?_, ?_, ?_, ?_, ?_, ?_, ?_, ?_, ?_, trivial⟩
      · intro k w4 hC hk
        refine givenD_go (ds' := []) (by kernel_rfl) ?_
        simp only [givenD, List.getD_cons_zero, List.getD_cons_succ]
        go_wp2_with fail
        refine ⟨rfl, rfl, hC.same, But.refl _ _, ?_⟩
        rfl
      · intro k w4 hC hk
        refine givenD_go (ds' := []) (by kernel_rfl) ?_
        simp only [givenD, List.getD_cons_zero, List.getD_cons_succ]
        go_wp2_with fail
        refine ⟨rfl, rfl, hC.same, But.refl _ _, ?_⟩
        rfl
      · intro k w4 hC hk
        refine givenD_go (ds' := []) (by kernel_rfl) ?_
        simp only [givenD, List.getD_cons_zero, List.getD_cons_succ]
        go_wp2_with fail
        obtain ⟨h1, h2, h3⟩ := hC.lit2 (-1) 49
        exact ⟨rfl, rfl, h1, h2, h3⟩
      · intro k w4 hC hk
        refine givenD_go (ds' := []) (by kernel_rfl) ?_
        simp only [givenD, List.getD_cons_zero, List.getD_cons_succ]
        go_wp2_with fail
        refine ⟨rfl, rfl, hC.same, But.refl _ _, ?_⟩
        rfl
      · intro k w4 hC hk
        refine givenD_go (ds' := [(3, 18)]) (by kernel_rfl) ?_
        simp only [givenD, List.getD_cons_zero, List.getD_cons_succ]
        rintro _ rfl
        simp only [Act.put, List.setIfInBounds_toArray, List.set_cons_zero, List.set_cons_succ]
        obtain ⟨p4, hr4, hp4, hb4, hl4⟩ := id hC
        go_wp2_with fail
        refine (pick_any _ _ _ _ _ _ _ _ hr4 (by omega) (by omega) (by omega)).mono ?_
        rintro e w5 ⟨x5, rfl, hx50, hx51, hrd5, hb5⟩
        obtain ⟨x5, rfl⟩ := Int.eq_ofNat_of_zero_le hx50
        go_wp2_with fail
        exact ⟨rfl, rfl, hC.pick hrd5 hp4 hb5, hb5, x5, rfl, by omega⟩
      · intro k w4 hC hk
        refine givenD_go (ds' := [(2, 17), (4, 19)]) (by kernel_rfl) ?_
        simp only [givenD, List.getD_cons_zero, List.getD_cons_succ]
        rintro _ ⟨b, rfl, hb, hbl, hcs⟩
        rintro _ ⟨y, rfl, hy⟩
        simp only [Act.put, List.setIfInBounds_toArray, List.set_cons_zero, List.set_cons_succ]
        go_wp2_with fail
        refine ⟨rfl, rfl, hC.same, But.refl _ _, ?_⟩
        exact ⟨b, y, rfl, hy, hb, hbl, hcs y hy⟩
      · intro k w4 hC hk
        refine givenD_go (ds' := [(5, 20)]) (by kernel_rfl) ?_
        simp only [givenD, List.getD_cons_zero, List.getD_cons_succ]
        rintro _ ⟨b, y, rfl, hy, hb, hbl, hcs⟩
        simp only [Act.put, List.setIfInBounds_toArray, List.set_cons_zero, List.set_cons_succ]
        go_wp2_with fail
        refine ⟨rfl, rfl, hC.same, But.refl _ _, ?_⟩
        exact ⟨y, hy, rfl⟩
      · intro k w4 hC hk
        refine givenD_go (ds' := [(0, 15)]) (by kernel_rfl) ?_
        simp only [givenD, List.getD_cons_zero, List.getD_cons_succ]
        rintro _ rfl
        simp only [Act.put, List.setIfInBounds_toArray, List.set_cons_zero, List.set_cons_succ]
        go_wp2_with fail
        refine ⟨rfl, rfl, hC.same, But.refl _ _, ?_⟩
        rfl
      · intro k w4 hC hk
        refine givenD_go (ds' := [(1, 16)]) (by kernel_rfl) ?_
        simp only [givenD, List.getD_cons_zero, List.getD_cons_succ]
        rintro _ rfl
        simp only [Act.put, List.setIfInBounds_toArray, List.set_cons_zero, List.set_cons_succ]
        go_wp2_with fail
        refine ⟨rfl, rfl, hC.same, But.refl _ _, ?_⟩
        rfl
      · intro k w4 hC hk
        refine givenD_go (ds' := [(6, 21)]) (by kernel_rfl) ?_
        simp only [givenD, List.getD_cons_zero, List.getD_cons_succ]
        rintro _ ⟨y, hy, rfl⟩
        simp only [Act.put, List.setIfInBounds_toArray, List.set_cons_zero, List.set_cons_succ]
        go_wp2_with fail
        refine ⟨rfl, rfl, hC.same, But.refl _ _, ?_⟩
        exact ⟨y, hy, rfl⟩
    · intro w4 hC
      simp only [givenAll, List.getD_cons_zero, List.getD_cons_succ]
      rintro _ rfl _ rfl v2 h2 _ rfl v4 h4 v5 h5 v6 h6 _ rfl _ rfl _ ⟨y, hy, rfl⟩
      obtain ⟨p4, hr4, hp4, hb4, _⟩ := hC
      have q1 := tab2_in (y := y)
      clear h2 h4 h5 h6
      generalize tab2 (-1) 49 y = b at q1 ⊢
      have HF := Lib.hid (Fin.out b w4 p4 q1 hr4 (by omega) hb4)
      simp only [Act.put, List.setIfInBounds_toArray, List.set_cons_zero, List.set_cons_succ]
      go_wp2_with fail
      go_ret3
      exact HF.out
  · have d1 : (t == 0) = false := beq_eq_false_iff_ne.2 h0
    obtain ⟨A', c', he, _, hg⟩ := HG3.out.grid
    injection he with he1 _ he2
    subst he1 he2
    obtain ⟨b0, o0, A0, c0, rfl, hc0, _, _⟩ := hg 0 (by omega)
    rw [Nat.add_zero] at hc0
    have hl0 := HLL.out 0 (by omega)
    have hm1 : (n : Int) * (L 0 : Int) ≤ 90 := Int.le_trans (Int.mul_le_mul (show (n : Int) ≤ 9 by omega) (show (L 0 : Int) ≤ 10 by omega) (by omega) (by omega)) (by decide)
    have hm2 : 1 ≤ (n : Int) * (L 0 : Int) := by have := Int.mul_le_mul (show (1 : Int) ≤ (n : Int) by omega) (show (1 : Int) ≤ (L 0 : Int) by omega) (by omega) (by omega); simpa using this
    clear hg h0
    go_wp2_with fail
    refine (pick_any _ _ _ _ _ _ _ _ HR3.out (by omega) (by omega) (by omega)).mono ?_
    rintro e w4 ⟨y, rfl, hy0, hy1, hrd, hb4⟩
    have HF := Lib.hid (Fin.out y w4 _ (by omega) hrd (by omega) hb4)
    clear hrd
    go_wp2_with fail
    go_ret3
    exact HF.out

/-- A drawn grid and two indexes. -/
def RetDP (w : World) (e : Ending) (w' : World) : Prop :=
  ∃ A n c L g a b, e = .returned (.tuple #[.slice A n c, .int .i64 a, .int .i64 b]) ∧ -11 ≤ a ∧ a ≤ 110 ∧ -1 ≤ b ∧ b ≤ 100 ∧ 1 ≤ n ∧ n ≤ 9 ∧ (∀ r, r < n → 1 ≤ L r ∧ L r ≤ 10 ∧ L 0 ≤ L r) ∧ GridF w' A n L g ∧ Below w.heap.size w w'
theorem drawPassBetween_any (A : Option Addr) (m c : Nat) (z : Nat → Int) (w : World) (h : RowB w A m z) (hm : m ≤ 9223372036854775807) (hmc : m ≤ c) :
    Calls Try.prog 45 #[.slice A m c] w (RetDP w) := by
  have HR := Lib.hid h
  clear h
  go_enter Try.func45, Try.ntmps45
  go_wp2_with fail
  refine (l6Open_any _ _ _ _ _ HR.out hm hmc).mono ?_
  rintro e w1 ⟨m', c', rfl, hrd, hs1, hb1⟩
  have HRd := Lib.hid hrd
  clear hrd hs1
  go_wp2_with fail
  refine (l91Pair_any _ _ _ _ _ _ _ HRd.out (by omega)).mono ?_
  rintro e w2 ⟨v, n, L, g, a, b, p', rfl, hx1, hx2, hx3, hx4, hn1, hn2, hgo, hL, _, _, hb2⟩
  obtain ⟨Av, cv, rfl, _, hgrid⟩ := hgo.grid
  have HF : Hid (RetDP w (.returned (.tuple #[.slice Av n cv, .int .i64 a, .int .i64 b])) w2) := ⟨Av, n, cv, L, g, a, b, rfl, hx1, hx2, hx3, hx4, hn1, hn2, hL, hgrid, hb1.trans (hb2.below hb1.size (Nat.le_refl _))⟩
  clear hgo hL hgrid hb2
  go_wp2_with fail
  go_ret3
  exact HF.out

end Go.Proofs.Ytgekjhmjjjkibaa
