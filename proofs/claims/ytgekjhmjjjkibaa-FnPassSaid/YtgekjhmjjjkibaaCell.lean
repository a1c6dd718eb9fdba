/- l91Cell: a grid and a cell. -/
import Derived.Test.YtgekjhmjjjkibaaDrs
namespace Go.Proofs.Ytgekjhmjjjkibaa
set_option linter.unusedVariables false
set_option linter.unusedSimpArgs false
open Go.RowKit

def RetCell (Br : Nat) (A : Option Addr) (m c : Nat) (z : Nat → Int) (p : Int) (w : World) (e : Ending) (w' : World) : Prop :=
  ∃ v n L g a b p', e = .returned (.tuple #[v, .int .i64 a, .int .i64 b]) ∧ -1 ≤ a ∧ a ≤ 10 ∧ -1 ≤ b ∧ b ≤ 10 ∧ 1 ≤ n ∧ n ≤ 9 ∧ GridO w' w.heap.size v n L g ∧ (∀ r, r < n → 1 ≤ L r ∧ L r ≤ 10 ∧ L 0 ≤ L r) ∧ Rdr w' Br A m c z p' ∧ p' ≤ p + 230 ∧ But Br w w'

theorem tab3_rng {a b c : Int} {y : Nat} (h1 : -1 ≤ a ∧ a ≤ 10) (h2 : -1 ≤ b ∧ b ≤ 10) (h3 : -1 ≤ c ∧ c ≤ 10) : -1 ≤ tab3 a b c y ∧ tab3 a b c y ≤ 10 := by unfold tab3; split <;> assumption
theorem tab2_rng {a b : Int} {y : Nat} (h1 : -1 ≤ a ∧ a ≤ 10) (h2 : -1 ≤ b ∧ b ≤ 10) : -1 ≤ tab2 a b y ∧ tab2 a b y ≤ 10 := by unfold tab2; split <;> assumption

set_option maxHeartbeats 1500000 in
set_option maxRecDepth 100000 in
theorem l91Cell_any (Br : Nat) (A : Option Addr) (m c : Nat) (z : Nat → Int) (p : Int) (w : World) (H : Rdr w Br A m c z p) (hp : p ≤ 80000) :
    Calls Try.prog 98 #[.pointer (some ⟨Br, 0, none⟩)] w (RetCell Br A m c z p w) := by
  have hBr := block_lt_heap H.blk
  have HH := Lib.hid H
  clear H
  go_enter Try.func98, Try.ntmps98
  go_wp2_with fail
  refine (l91Grid_any _ _ _ _ _ _ _ HH.out (by omega)).mono ?_
  rintro e w1 ⟨v, n, L, g, p1, rfl, hn1, hn2, hgo, hL, hrd, hp1, hb1⟩
  have HR1 := Lib.hid hrd
  have HGo := Lib.hid hgo
  obtain ⟨Av, cv, rfl, _, _⟩ := hgo.grid
  have HLL := Lib.hid hL
  clear hgo hL hrd
  go_wp2_with fail
  refine (pick_any _ _ _ _ _ _ _ _ HR1.out (by omega) (by omega) (by omega)).mono ?_
  rintro e w2 ⟨x, rfl, hx0, hx1, hrd, hb2⟩
  have HR2 := Lib.hid hrd
  clear hrd
  go_wp2_with fail
  refine (pick_any _ _ _ _ _ _ _ _ HR2.out (by omega) (by omega) (by omega)).mono ?_
  rintro e w3 ⟨t, rfl, ht0, ht1, hrd, hb3⟩
  have HR3 := Lib.hid hrd
  clear hrd
  have hbb := (hb1.trans hb2).trans hb3
  have HG3 : Hid (GridO w3 w.heap.size (.slice Av n cv) n L g) := (HGo.out.of_but hb2 hBr).of_but hb3 hBr
  clear HGo
  have fin : ∀ (a b : Int) (w' : World) (p' : Int), -1 ≤ a ∧ a ≤ 10 → -1 ≤ b ∧ b ≤ 10 → Rdr w' Br A m c z p' → p' ≤ p + 230 → But Br w3 w' → RetCell Br A m c z p w (.returned (.tuple #[.slice Av n cv, .int .i64 a, .int .i64 b])) w' := fun a b w' p' h1 h2 h3 h4 hb =>
    ⟨_, n, L, g, a, b, p', rfl, h1.1, h1.2, h2.1, h2.2, hn1, hn2, HG3.out.of_but hb hBr, HLL.out, h3, h4, hbb.trans hb⟩
  go_wp2_with fail
  · refine wp_region_phi (N := 17) (C := Drs Br A m c z (p1 + 1 + 1) w3) (R := But Br) (φ := fun j v w4 => ([fun v _ => v = .slice Av n cv, fun v _ => v = .slice Av n cv, fun v _ => v = .int .i64 n, fun v _ => v = .int .i64 x, Lit Br 3 (tab3 (-1) n x), fun v _ => v = .pointer (some ⟨Br, 0, none⟩), fun v _ => Upto 3 v, LitAt Br 3 (tab3 (-1) n x), fun v _ => InT 3 (tab3 (-1) n x) v, Lit Br 2 (tab2 (-1) 7), fun v _ => v = .pointer (some ⟨Br, 0, none⟩), fun v _ => Upto 2 v, LitAt Br 2 (tab2 (-1) 7), fun v _ => InT 2 (tab2 (-1) 7) v, fun v _ => v = .slice Av n cv, fun v _ => InT 3 (tab3 (-1) n x) v, fun v _ => InT 2 (tab2 (-1) 7) v] : List (Value → World → Prop)).getD j (fun _ _ => True) v w4) (by kernel_rfl) (by kernel_rfl) (by kernel_rfl) ?_ (Drs.start HR3.out) ?_ ?_
    · intro j v w4 w5 hb hv
      match j with
      | 4 => exact Lit.mono hv hb
      | 7 => exact LitAt.mono hv hb
      | 9 => exact Lit.mono hv hb
      | 12 => exact LitAt.mono hv hb
      | 0 | 1 | 2 | 3 | 5 | 6 | 8 | 10 | 11 | 13 | 14 | 15 | 16 => exact hv
      | j + 17 => exact hv
    · refine ⟨?_, ?_, ?_, ?_, ?_, ?_, ?_, ?_, ?_, ?_, ?_, ?_, ?_, ?_, ?_, ?_, ?_, trivial⟩
      · intro k w4 hC hk
        refine givenD_go (ds' := []) (by kernel_rfl) ?_
        simp only [givenD, List.getD_cons_zero, List.getD_cons_succ]
        go_wp2_with fail
        refine ⟨rfl, rfl, hC.same, But.refl _ _, ?_⟩
        rfl
      · intro k w4 hC hk
        refine givenD_go (ds' := []) (by kernel_rfl) ?_
        simp only [givenD, List.getD_cons_zero, List.getD_cons_succ]
        go_wp2_with fail
        refine ⟨rfl, rfl, hC.same, But.refl _ _, ?_⟩
        rfl
      · intro k w4 hC hk
        refine givenD_go (ds' := [(1, 17)]) (by kernel_rfl) ?_
        simp only [givenD, List.getD_cons_zero, List.getD_cons_succ]
        rintro _ rfl
        simp only [Act.put, List.setIfInBounds_toArray, List.set_cons_zero, List.set_cons_succ]
        go_wp2_with fail
        refine ⟨rfl, rfl, hC.same, But.refl _ _, ?_⟩
        rfl
      · intro k w4 hC hk
        refine givenD_go (ds' := []) (by kernel_rfl) ?_
        simp only [givenD, List.getD_cons_zero, List.getD_cons_succ]
        go_wp2_with fail
        refine ⟨rfl, rfl, hC.same, But.refl _ _, ?_⟩
        rfl
      · intro k w4 hC hk
        refine givenD_go (ds' := [(2, 18), (3, 19)]) (by kernel_rfl) ?_
        simp only [givenD, List.getD_cons_zero, List.getD_cons_succ]
        rintro _ rfl
        rintro _ rfl
        simp only [Act.put, List.setIfInBounds_toArray, List.set_cons_zero, List.set_cons_succ]
        go_wp2_with fail
        obtain ⟨h1, h2, h3⟩ := hC.lit3 (-1) n x
        exact ⟨rfl, rfl, h1, h2, h3⟩
      · intro k w4 hC hk
        refine givenD_go (ds' := []) (by kernel_rfl) ?_
        simp only [givenD, List.getD_cons_zero, List.getD_cons_succ]
        go_wp2_with fail
        refine ⟨rfl, rfl, hC.same, But.refl _ _, ?_⟩
        rfl
      · intro k w4 hC hk
        refine givenD_go (ds' := [(5, 21)]) (by kernel_rfl) ?_
        simp only [givenD, List.getD_cons_zero, List.getD_cons_succ]
        rintro _ rfl
        simp only [Act.put, List.setIfInBounds_toArray, List.set_cons_zero, List.set_cons_succ]
        obtain ⟨p4, hr4, hp4, hb4, hl4⟩ := id hC
        go_wp2_with fail
        refine (pick_any _ _ _ _ _ _ _ _ hr4 (by omega) (by omega) (by omega)).mono ?_
        rintro e w5 ⟨x5, rfl, hx50, hx51, hrd5, hb5⟩
        obtain ⟨x5, rfl⟩ := Int.eq_ofNat_of_zero_le hx50
        go_wp2_with fail
        exact ⟨rfl, rfl, hC.pick hrd5 hp4 hb5, hb5, x5, rfl, by omega⟩
      · intro k w4 hC hk
        refine givenD_go (ds' := [(4, 20), (6, 22)]) (by kernel_rfl) ?_
        simp only [givenD, List.getD_cons_zero, List.getD_cons_succ]
        rintro _ ⟨b, rfl, hb, hbl, hcs⟩
        rintro _ ⟨y, rfl, hy⟩
        simp only [Act.put, List.setIfInBounds_toArray, List.set_cons_zero, List.set_cons_succ]
        go_wp2_with fail
        refine ⟨rfl, rfl, hC.same, But.refl _ _, ?_⟩
        exact ⟨b, y, rfl, hy, hb, hbl, hcs y hy⟩
      · intro k w4 hC hk
        refine givenD_go (ds' := [(7, 23)]) (by kernel_rfl) ?_
        simp only [givenD, List.getD_cons_zero, List.getD_cons_succ]
        rintro _ ⟨b, y, rfl, hy, hb, hbl, hcs⟩
        simp only [Act.put, List.setIfInBounds_toArray, List.set_cons_zero, List.set_cons_succ]
        go_wp2_with fail
        refine ⟨rfl, rfl, hC.same, But.refl _ _, ?_⟩
        exact ⟨y, hy, rfl⟩
      · intro k w4 hC hk
        refine givenD_go (ds' := []) (by kernel_rfl) ?_
        simp only [givenD, List.getD_cons_zero, List.getD_cons_succ]
        go_wp2_with fail
        obtain ⟨h1, h2, h3⟩ := hC.lit2 (-1) 7
        exact ⟨rfl, rfl, h1, h2, h3⟩
      · intro k w4 hC hk
        refine givenD_go (ds' := []) (by kernel_rfl) ?_
        simp only [givenD, List.getD_cons_zero, List.getD_cons_succ]
        go_wp2_with fail
        refine ⟨rfl, rfl, hC.same, But.refl _ _, ?_⟩
        rfl
      · intro k w4 hC hk
        refine givenD_go (ds' := [(10, 26)]) (by kernel_rfl) ?_
        simp only [givenD, List.getD_cons_zero, List.getD_cons_succ]
        rintro _ rfl
        simp only [Act.put, List.setIfInBounds_toArray, List.set_cons_zero, List.set_cons_succ]
        obtain ⟨p4, hr4, hp4, hb4, hl4⟩ := id hC
        go_wp2_with fail
        refine (pick_any _ _ _ _ _ _ _ _ hr4 (by omega) (by omega) (by omega)).mono ?_
        rintro e w5 ⟨x5, rfl, hx50, hx51, hrd5, hb5⟩
        obtain ⟨x5, rfl⟩ := Int.eq_ofNat_of_zero_le hx50
        go_wp2_with fail
        exact ⟨rfl, rfl, hC.pick hrd5 hp4 hb5, hb5, x5, rfl, by omega⟩
      · intro k w4 hC hk
        refine givenD_go (ds' := [(9, 25), (11, 27)]) (by kernel_rfl) ?_
        simp only [givenD, List.getD_cons_zero, List.getD_cons_succ]
        rintro _ ⟨b, rfl, hb, hbl, hcs⟩
        rintro _ ⟨y, rfl, hy⟩
        simp only [Act.put, List.setIfInBounds_toArray, List.set_cons_zero, List.set_cons_succ]
        go_wp2_with fail
        refine ⟨rfl, rfl, hC.same, But.refl _ _, ?_⟩
        exact ⟨b, y, rfl, hy, hb, hbl, hcs y hy⟩
      · intro k w4 hC hk
        refine givenD_go (ds' := [(12, 28)]) (by kernel_rfl) ?_
        simp only [givenD, List.getD_cons_zero, List.getD_cons_succ]
        rintro _ ⟨b, y, rfl, hy, hb, hbl, hcs⟩
        simp only [Act.put, List.setIfInBounds_toArray, List.set_cons_zero, List.set_cons_succ]
        go_wp2_with fail
        refine ⟨rfl, rfl, hC.same, But.refl _ _, ?_⟩
        exact ⟨y, hy, rfl⟩
      · intro k w4 hC hk
        refine givenD_go (ds' := [(0, 16)]) (by kernel_rfl) ?_
        simp only [givenD, List.getD_cons_zero, List.getD_cons_succ]
        rintro _ rfl
        simp only [Act.put, List.setIfInBounds_toArray, List.set_cons_zero, List.set_cons_succ]
        go_wp2_with fail
        refine ⟨rfl, rfl, hC.same, But.refl _ _, ?_⟩
        rfl
      · intro k w4 hC hk
        refine givenD_go (ds' := [(8, 24)]) (by kernel_rfl) ?_
        simp only [givenD, List.getD_cons_zero, List.getD_cons_succ]
        rintro _ ⟨y, hy, rfl⟩
        simp only [Act.put, List.setIfInBounds_toArray, List.set_cons_zero, List.set_cons_succ]
        go_wp2_with fail
        refine ⟨rfl, rfl, hC.same, But.refl _ _, ?_⟩
        exact ⟨y, hy, rfl⟩
      · intro k w4 hC hk
        refine givenD_go (ds' := [(13, 29)]) (by kernel_rfl) ?_
        simp only [givenD, List.getD_cons_zero, List.getD_cons_succ]
        rintro _ ⟨y, hy, rfl⟩
        simp only [Act.put, List.setIfInBounds_toArray, List.set_cons_zero, List.set_cons_succ]
        go_wp2_with fail
        refine ⟨rfl, rfl, hC.same, But.refl _ _, ?_⟩
        exact ⟨y, hy, rfl⟩
    · intro w4 hC
      simp only [givenAll, List.getD_cons_zero, List.getD_cons_succ]
      rintro _ rfl _ rfl _ rfl _ rfl v4 h4 _ rfl v6 h6 v7 h7 v8 h8 v9 h9 _ rfl v11 h11 v12 h12 v13 h13 _ rfl _ ⟨y, hy, rfl⟩ _ ⟨y2, hy2, rfl⟩
      obtain ⟨p4, hr4, hp4, hb4, _⟩ := hC
      have q1 := tab3_rng (a := -1) (b := n) (c := x) (y := y) (by omega) (by omega) (by omega)
      have q2 := tab2_rng (a := -1) (b := 7) (y := y2) (by omega) (by omega)
      clear h4 h6 h7 h8 h9 h11 h12 h13
      generalize tab3 (-1) n x y = a at q1 ⊢
      generalize tab2 (-1) 7 y2 = b at q2 ⊢
      have HF := Lib.hid (fin a b w4 p4 q1 q2 hr4 (by omega) hb4)
      simp only [Act.put, List.setIfInBounds_toArray, List.set_cons_zero, List.set_cons_succ]
      go_wp2_with fail
      go_ret3
      exact HF.out
  · obtain ⟨A', c', he, _, hg⟩ := HG3.out.grid
    injection he with he1 _ he2
    subst he1 he2
    obtain ⟨b0, o0, A0, c0, rfl, hc0, _, _⟩ := hg 0 (by omega)
    rw [Nat.add_zero] at hc0
    have hl0 := HLL.out 0 (by omega)
    clear hg
    go_wp2_with fail
    refine (pick_any _ _ _ _ _ _ _ _ HR3.out (by omega) (by omega) (by omega)).mono ?_
    rintro e w4 ⟨y, rfl, hy0, hy1, hrd, hb4⟩
    have HF := Lib.hid (fin x y w4 _ (by omega) (by omega) hrd (by omega) hb4)
    clear hrd
    go_wp2_with fail
    go_ret3
    exact HF.out

/-- A drawn grid and a cell. -/
def RetDC (w : World) (e : Ending) (w' : World) : Prop :=
  ∃ A n c L g a b, e = .returned (.tuple #[.slice A n c, .int .i64 a, .int .i64 b]) ∧ -1 ≤ a ∧ a ≤ 10 ∧ -1 ≤ b ∧ b ≤ 10 ∧ 1 ≤ n ∧ n ≤ 9 ∧ (∀ r, r < n → 1 ≤ L r ∧ L r ≤ 10 ∧ L 0 ≤ L r) ∧ GridF w' A n L g ∧ Below w.heap.size w w'





end Go.Proofs.Ytgekjhmjjjkibaa
