/- l91Level: a grid and a level. -/
import Derived.Test.YtgekjhmjjjkibaaDrs
namespace Go.Proofs.Ytgekjhmjjjkibaa
set_option linter.unusedVariables false
set_option linter.unusedSimpArgs false
open Go.RowKit

def RetLvl (Br : Nat) (A : Option Addr) (m c : Nat) (z : Nat → Int) (p : Int) (w : World) (e : Ending) (w' : World) : Prop :=
  ∃ v n L g x p', e = .returned (.tuple #[v, .int .i64 x]) ∧ -9223372036854775808 ≤ x ∧ x ≤ 9223372036854775807 ∧ 1 ≤ n ∧ n ≤ 9 ∧ GridO w' w.heap.size v n L g ∧ (∀ r, r < n → 1 ≤ L r ∧ L r ≤ 10 ∧ L 0 ≤ L r) ∧ Rdr w' Br A m c z p' ∧ p' ≤ p + 230 ∧ But Br w w'

def Num (v : Value) : Prop := ∃ x, v = .int .i64 x ∧ -9223372036854775808 ≤ x ∧ x ≤ 9223372036854775807
theorem wrap64_rng (x : Int) : -9223372036854775808 ≤ wrap64 x ∧ wrap64 x ≤ 9223372036854775807 := by unfold wrap64; omega

set_option maxHeartbeats 1500000 in
set_option maxRecDepth 100000 in
theorem l91Level_any (Br : Nat) (A : Option Addr) (m c : Nat) (z : Nat → Int) (p : Int) (w : World) (H : Rdr w Br A m c z p) (hp : p ≤ 80000) :
    Calls Try.prog 68 #[.pointer (some ⟨Br, 0, none⟩)] w (RetLvl Br A m c z p w) := by
  have hBr := block_lt_heap H.blk
  have HH := Lib.hid H
  clear H
  go_enter Try.func68, Try.ntmps68
  go_wp2_with fail
  refine (l91Grid_any _ _ _ _ _ _ _ HH.out (by omega)).mono ?_
  rintro e w1 ⟨v, n, L, g, p1, rfl, hn1, hn2, hgo, hL, hrd, hp1, hb1⟩
  have HR1 := Lib.hid hrd
  have HGo := Lib.hid hgo
  have HLL := Lib.hid hL
  obtain ⟨V, hV⟩ := hgo
  obtain ⟨Bo, co, rfl, _, hBo, _, _⟩ := hV.1.cell (k := 0) (by omega)
  clear hV hL hrd
  go_wp2_with fail
  refine (pick_any _ _ _ _ _ _ _ _ HR1.out (by omega) (by omega) (by omega)).mono ?_
  rintro e w2 ⟨t, rfl, ht0, ht1, hrd, hb2⟩
  have HR2 := Lib.hid hrd
  clear hrd
  have hbb := hb1.trans hb2
  have HG2 : Hid (GridO w2 w.heap.size (.slice (some ⟨Bo, 0, none⟩) n co) n L g) := HGo.out.of_but hb2 hBr
  clear HGo
  have fin : ∀ (x : Int) (w' : World) (p' : Int), -9223372036854775808 ≤ x → x ≤ 9223372036854775807 → Rdr w' Br A m c z p' → p' ≤ p + 230 → But Br w2 w' → RetLvl Br A m c z p w (.returned (.tuple #[.slice (some ⟨Bo, 0, none⟩) n co, .int .i64 x])) w' := fun x w' p' h1 h2 h3 h4 hb =>
    ⟨_, n, L, g, x, p', rfl, h1, h2, hn1, hn2, HG2.out.of_but hb hBr, HLL.out, h3, h4, hbb.trans hb⟩
  go_wp2_with fail
  · refine wp_region_phi (N := 8) (C := Drs Br A m c z (p1 + 1) w2) (R := But Br) (φ := fun j v w4 => ([fun v _ => v = .slice (some ⟨Bo, 0, none⟩) n co, Lit Br 4 (tab4 (-1) 100 99 0), fun v _ => v = .pointer (some ⟨Br, 0, none⟩), fun v _ => Upto 4 v, LitAt Br 4 (tab4 (-1) 100 99 0), fun v _ => InT 4 (tab4 (-1) 100 99 0) v, fun v _ => v = .slice (some ⟨Bo, 0, none⟩) n co, fun v _ => InT 4 (tab4 (-1) 100 99 0) v] : List (Value → World → Prop)).getD j (fun _ _ => True) v w4) (by kernel_rfl) (by kernel_rfl) (by kernel_rfl) ?_ (Drs.start HR2.out) ?_ ?_
    · intro j v w4 w5 hb hv
      match j with
      | 1 => exact Lit.mono hv hb
      | 4 => exact LitAt.mono hv hb
      | 0 | 2 | 3 | 5 | 6 | 7 => exact hv
      | j + 8 => exact hv
    · refine ⟨?_, ?_, ?_, ?_, ?_, ?_, ?_, ?_, trivial⟩
      · intro k w4 hC hk
        refine givenD_go (ds' := []) (by kernel_rfl) ?_
        simp only [givenD, List.getD_cons_zero, List.getD_cons_succ]
        go_wp2_with fail
        refine ⟨rfl, rfl, hC.same, But.refl _ _, ?_⟩
        rfl
      · intro k w4 hC hk
        refine givenD_go (ds' := []) (by kernel_rfl) ?_
        simp only [givenD, List.getD_cons_zero, List.getD_cons_succ]
        go_wp2_with fail
        obtain ⟨h1, h2, h3⟩ := hC.lit4 (-1) 100 99 0
        exact ⟨rfl, rfl, h1, h2, h3⟩
      · intro k w4 hC hk
        refine givenD_go (ds' := []) (by kernel_rfl) ?_
        simp only [givenD, List.getD_cons_zero, List.getD_cons_succ]
        go_wp2_with fail
        refine ⟨rfl, rfl, hC.same, But.refl _ _, ?_⟩
        rfl
      · intro k w4 hC hk
        refine givenD_go (ds' := [(2, 13)]) (by kernel_rfl) ?_
        simp only [givenD, List.getD_cons_zero, List.getD_cons_succ]
        rintro _ rfl
        simp only [Act.put, List.setIfInBounds_toArray, List.set_cons_zero, List.set_cons_succ]
        obtain ⟨p4, hr4, hp4, hb4, hl4⟩ := id hC
        go_wp2_with fail
        refine (pick_any _ _ _ _ _ _ _ _ hr4 (by omega) (by omega) (by omega)).mono ?_
        rintro e w5 ⟨x5, rfl, hx50, hx51, hrd5, hb5⟩
        obtain ⟨x5, rfl⟩ := Int.eq_ofNat_of_zero_le hx50
        go_wp2_with fail
        exact ⟨rfl, rfl, hC.pick hrd5 hp4 hb5, hb5, x5, rfl, by omega⟩
      · intro k w4 hC hk
        refine givenD_go (ds' := [(1, 12), (3, 14)]) (by kernel_rfl) ?_
        simp only [givenD, List.getD_cons_zero, List.getD_cons_succ]
        rintro _ ⟨b, rfl, hb, hbl, hcs⟩
        rintro _ ⟨y, rfl, hy⟩
        simp only [Act.put, List.setIfInBounds_toArray, List.set_cons_zero, List.set_cons_succ]
        go_wp2_with fail
        refine ⟨rfl, rfl, hC.same, But.refl _ _, ?_⟩
        exact ⟨b, y, rfl, hy, hb, hbl, hcs y hy⟩
      · intro k w4 hC hk
        refine givenD_go (ds' := [(4, 15)]) (by kernel_rfl) ?_
        simp only [givenD, List.getD_cons_zero, List.getD_cons_succ]
        rintro _ ⟨b, y, rfl, hy, hb, hbl, hcs⟩
        simp only [Act.put, List.setIfInBounds_toArray, List.set_cons_zero, List.set_cons_succ]
        go_wp2_with fail
        refine ⟨rfl, rfl, hC.same, But.refl _ _, ?_⟩
        exact ⟨y, hy, rfl⟩
      · intro k w4 hC hk
        refine givenD_go (ds' := [(0, 11)]) (by kernel_rfl) ?_
        simp only [givenD, List.getD_cons_zero, List.getD_cons_succ]
        rintro _ rfl
        simp only [Act.put, List.setIfInBounds_toArray, List.set_cons_zero, List.set_cons_succ]
        go_wp2_with fail
        refine ⟨rfl, rfl, hC.same, But.refl _ _, ?_⟩
        rfl
      · intro k w4 hC hk
        refine givenD_go (ds' := [(5, 16)]) (by kernel_rfl) ?_
        simp only [givenD, List.getD_cons_zero, List.getD_cons_succ]
        rintro _ ⟨y, hy, rfl⟩
        simp only [Act.put, List.setIfInBounds_toArray, List.set_cons_zero, List.set_cons_succ]
        go_wp2_with fail
        refine ⟨rfl, rfl, hC.same, But.refl _ _, ?_⟩
        exact ⟨y, hy, rfl⟩
    · intro w4 hC
      simp only [givenAll, List.getD_cons_zero, List.getD_cons_succ]
      rintro _ rfl v1 h1 _ rfl v3 h3 v4 h4 v5 h5 _ rfl _ ⟨y, hy, rfl⟩
      obtain ⟨p4, hr4, hp4, hb4, _⟩ := hC
      have q1 : -9223372036854775808 ≤ tab4 (-1) 100 99 0 y := by unfold tab4; split <;> omega
      have q2 : tab4 (-1) 100 99 0 y ≤ 9223372036854775807 := by unfold tab4; split <;> omega
      clear h1 h3 h4 h5
      generalize tab4 (-1) 100 99 0 y = x at q1 q2 ⊢
      have HF := Lib.hid (fin x w4 p4 q1 q2 hr4 (by omega) hb4)
      simp only [Act.put, List.setIfInBounds_toArray, List.set_cons_zero, List.set_cons_succ]
      go_wp2_with fail
      go_ret2
      exact HF.out
  · refine (pick_any _ _ _ _ _ _ _ _ HR2.out (by omega) (by omega) (by omega)).mono ?_
    rintro e w3 ⟨X, rfl, hX0, hX1, hrd, hb3⟩
    obtain ⟨X, rfl⟩ := Int.eq_ofNat_of_zero_le hX0
    have HR3 := Lib.hid hrd
    clear hrd
    have hXn : X < n := by omega
    obtain ⟨V, hV⟩ := HG2.out.of_but hb3 hBr
    have hcell : ∀ r, r < n → w3.cell? ⟨Bo, r, none⟩ = some (V r) := fun r hr => by
      obtain ⟨_, _, e0, _, _, h, _⟩ := hV.1.cell (k := r) hr
      injection e0 with e0 _ _
      injection e0 with e0
      injection e0 with e0
      subst e0
      exact h
    have hcX := hcell X hXn
    have hc0 := hcell 0 (by omega)
    clear hcell
    have hl0 := HLL.out 0 (by omega)
    have hlX := HLL.out X hXn
    obtain ⟨bX, dX, eX, _, hbX, _, _⟩ := OwnS.cell (k := 0) (hV.2.1 X hXn) (by omega)
    obtain ⟨bZ, dZ, eZ, _, hbZ, _, _⟩ := OwnS.cell (k := 0) (hV.2.1 0 (by omega)) (by omega)
    have hrow : ∀ y, y < L X → Cel ⟨bX, y, none⟩ (.int .i64 (g X y)) w3 := fun y hy => by
      obtain ⟨_, _, e1, _, _, h1, _⟩ := OwnS.cell (k := y) (hV.2.1 X hXn) hy
      rw [eX] at e1
      injection e1 with e1 _ _
      injection e1 with e1
      injection e1 with e1
      subst e1
      exact h1
    have HX : Cel ⟨Bo, X, none⟩ (.slice (some ⟨bX, 0, none⟩) (L X) dX) w3 := by rw [← eX]; exact hcX
    have HZ : Cel ⟨Bo, 0, none⟩ (.slice (some ⟨bZ, 0, none⟩) (L 0) dZ) w3 := by rw [← eZ]; exact hc0
    have HROW := Lib.hid hrow
    clear hV hcX hc0 hrow
    go_wp2_with fail
    refine wp_region_phi (N := 18) (C := Drs Br A m c z (p1 + 1 + 1) w3) (R := But Br) (φ := fun j v w4 => ([fun v _ => v = .slice (some ⟨Bo, 0, none⟩) n co, fun v _ => v = .slice (some ⟨Bo, 0, none⟩) n co, fun v _ => v = .int .i64 (X : Int), fun v _ => v = .pointer (some ⟨Bo, X, none⟩), fun v _ => v = .slice (some ⟨bX, 0, none⟩) (L X) dX, fun v _ => v = .pointer (some ⟨Br, 0, none⟩), fun v _ => v = .slice (some ⟨Bo, 0, none⟩) n co, fun v _ => v = .pointer (some ⟨Bo, 0, none⟩), fun v _ => v = .slice (some ⟨bZ, 0, none⟩) (L 0) dZ, fun v _ => v = .int .i64 (L 0 : Int), fun v _ => Upto (L 0) v, fun v _ => ∃ y, y < L 0 ∧ v = .pointer (some ⟨bX, y, none⟩), fun v _ => ∃ y, y < L 0 ∧ v = .int .i64 (g X y), fun v _ => v = .pointer (some ⟨Br, 0, none⟩), fun v _ => Upto 2 v, fun v _ => Num v, fun v _ => v = .slice (some ⟨Bo, 0, none⟩) n co, fun v _ => Num v] : List (Value → World → Prop)).getD j (fun _ _ => True) v w4) (by kernel_rfl) (by kernel_rfl) (by kernel_rfl) ?_ (Drs.start HR3.out) ?_ ?_
    · intro j v w4 w5 hb hv
      match j with
      | 0 | 1 | 2 | 3 | 4 | 5 | 6 | 7 | 8 | 9 | 10 | 11 | 12 | 13 | 14 | 15 | 16 | 17 => exact hv
      | j + 18 => exact hv
    · refine ⟨?_, ?_, ?_, ?_, ?_, ?_, ?_, ?_, ?_, ?_, ?_, ?_, ?_, ?_, ?_, ?_, ?_, ?_, trivial⟩
      · intro k w4 hC hk
        refine givenD_go (ds' := []) (by kernel_rfl) ?_
        simp only [givenD, List.getD_cons_zero, List.getD_cons_succ]
        go_wp2_with fail
        refine ⟨rfl, rfl, hC.same, But.refl _ _, ?_⟩
        rfl
      · intro k w4 hC hk
        refine givenD_go (ds' := []) (by kernel_rfl) ?_
        simp only [givenD, List.getD_cons_zero, List.getD_cons_succ]
        go_wp2_with fail
        refine ⟨rfl, rfl, hC.same, But.refl _ _, ?_⟩
        rfl
      · intro k w4 hC hk
        refine givenD_go (ds' := []) (by kernel_rfl) ?_
        simp only [givenD, List.getD_cons_zero, List.getD_cons_succ]
        go_wp2_with fail
        refine ⟨rfl, rfl, hC.same, But.refl _ _, ?_⟩
        rfl
      · intro k w4 hC hk
        refine givenD_go (ds' := [(1, 22), (2, 23)]) (by kernel_rfl) ?_
        simp only [givenD, List.getD_cons_zero, List.getD_cons_succ]
        rintro _ rfl
        rintro _ rfl
        simp only [Act.put, List.setIfInBounds_toArray, List.set_cons_zero, List.set_cons_succ]
        go_wp2_with fail
        refine ⟨rfl, rfl, hC.same, But.refl _ _, ?_⟩
        rfl
      · intro k w4 hC hk
        refine givenD_go (ds' := [(3, 24)]) (by kernel_rfl) ?_
        simp only [givenD, List.getD_cons_zero, List.getD_cons_succ]
        rintro _ rfl
        simp only [Act.put, List.setIfInBounds_toArray, List.set_cons_zero, List.set_cons_succ]
        obtain ⟨_, _, _, hb4, _⟩ := id hC
        have hcc := HX.but hb4 (by show Bo ≠ Br; omega)
        unfold Cel at hcc
        go_wp2_with fail
        refine ⟨rfl, rfl, hC.same, But.refl _ _, ?_⟩
        rfl
      · intro k w4 hC hk
        refine givenD_go (ds' := []) (by kernel_rfl) ?_
        simp only [givenD, List.getD_cons_zero, List.getD_cons_succ]
        go_wp2_with fail
        refine ⟨rfl, rfl, hC.same, But.refl _ _, ?_⟩
        rfl
      · intro k w4 hC hk
        refine givenD_go (ds' := []) (by kernel_rfl) ?_
        simp only [givenD, List.getD_cons_zero, List.getD_cons_succ]
        go_wp2_with fail
        refine ⟨rfl, rfl, hC.same, But.refl _ _, ?_⟩
        rfl
      · intro k w4 hC hk
        refine givenD_go (ds' := [(6, 27)]) (by kernel_rfl) ?_
        simp only [givenD, List.getD_cons_zero, List.getD_cons_succ]
        rintro _ rfl
        simp only [Act.put, List.setIfInBounds_toArray, List.set_cons_zero, List.set_cons_succ]
        go_wp2_with fail
        refine ⟨rfl, rfl, hC.same, But.refl _ _, ?_⟩
        rfl
      · intro k w4 hC hk
        refine givenD_go (ds' := [(7, 28)]) (by kernel_rfl) ?_
        simp only [givenD, List.getD_cons_zero, List.getD_cons_succ]
        rintro _ rfl
        simp only [Act.put, List.setIfInBounds_toArray, List.set_cons_zero, List.set_cons_succ]
        obtain ⟨_, _, _, hb4, _⟩ := id hC
        have hcc := HZ.but hb4 (by show Bo ≠ Br; omega)
        unfold Cel at hcc
        go_wp2_with fail
        refine ⟨rfl, rfl, hC.same, But.refl _ _, ?_⟩
        rfl
      · intro k w4 hC hk
        refine givenD_go (ds' := [(8, 29)]) (by kernel_rfl) ?_
        simp only [givenD, List.getD_cons_zero, List.getD_cons_succ]
        rintro _ rfl
        simp only [Act.put, List.setIfInBounds_toArray, List.set_cons_zero, List.set_cons_succ]
        go_wp2_with fail
        refine ⟨rfl, rfl, hC.same, But.refl _ _, ?_⟩
        rfl
      · intro k w4 hC hk
        refine givenD_go (ds' := [(5, 26), (9, 30)]) (by kernel_rfl) ?_
        simp only [givenD, List.getD_cons_zero, List.getD_cons_succ]
        rintro _ rfl
        rintro _ rfl
        simp only [Act.put, List.setIfInBounds_toArray, List.set_cons_zero, List.set_cons_succ]
        obtain ⟨p4, hr4, hp4, hb4, hl4⟩ := id hC
        go_wp2_with fail
        refine (pick_any _ _ _ _ _ _ _ _ hr4 (by omega) (by omega) (by omega)).mono ?_
        rintro e w5 ⟨x5, rfl, hx50, hx51, hrd5, hb5⟩
        obtain ⟨x5, rfl⟩ := Int.eq_ofNat_of_zero_le hx50
        go_wp2_with fail
        exact ⟨rfl, rfl, hC.pick hrd5 hp4 hb5, hb5, x5, rfl, by omega⟩
      · intro k w4 hC hk
        refine givenD_go (ds' := [(4, 25), (10, 31)]) (by kernel_rfl) ?_
        simp only [givenD, List.getD_cons_zero, List.getD_cons_succ]
        rintro _ rfl
        rintro _ ⟨y, rfl, hy⟩
        simp only [Act.put, List.setIfInBounds_toArray, List.set_cons_zero, List.set_cons_succ]
        go_wp2_with fail
        refine ⟨rfl, rfl, hC.same, But.refl _ _, ?_⟩
        exact ⟨y, hy, rfl⟩
      · intro k w4 hC hk
        refine givenD_go (ds' := [(11, 32)]) (by kernel_rfl) ?_
        simp only [givenD, List.getD_cons_zero, List.getD_cons_succ]
        rintro _ ⟨y, hy, rfl⟩
        simp only [Act.put, List.setIfInBounds_toArray, List.set_cons_zero, List.set_cons_succ]
        obtain ⟨_, _, _, hb4, _⟩ := id hC
        have hcc := (HROW.out y (by omega)).but hb4 (by show bX ≠ Br; omega)
        unfold Cel at hcc
        go_wp2_with fail
        refine ⟨rfl, rfl, hC.same, But.refl _ _, ?_⟩
        exact ⟨y, hy, rfl⟩
      · intro k w4 hC hk
        refine givenD_go (ds' := []) (by kernel_rfl) ?_
        simp only [givenD, List.getD_cons_zero, List.getD_cons_succ]
        go_wp2_with fail
        refine ⟨rfl, rfl, hC.same, But.refl _ _, ?_⟩
        rfl
      · intro k w4 hC hk
        refine givenD_go (ds' := [(13, 34)]) (by kernel_rfl) ?_
        simp only [givenD, List.getD_cons_zero, List.getD_cons_succ]
        rintro _ rfl
        simp only [Act.put, List.setIfInBounds_toArray, List.set_cons_zero, List.set_cons_succ]
        obtain ⟨p4, hr4, hp4, hb4, hl4⟩ := id hC
        go_wp2_with fail
        refine (pick_any _ _ _ _ _ _ _ _ hr4 (by omega) (by omega) (by omega)).mono ?_
        rintro e w5 ⟨x5, rfl, hx50, hx51, hrd5, hb5⟩
        obtain ⟨x5, rfl⟩ := Int.eq_ofNat_of_zero_le hx50
        go_wp2_with fail
        exact ⟨rfl, rfl, hC.pick hrd5 hp4 hb5, hb5, x5, rfl, by omega⟩
      · intro k w4 hC hk
        refine givenD_go (ds' := [(12, 33), (14, 35)]) (by kernel_rfl) ?_
        simp only [givenD, List.getD_cons_zero, List.getD_cons_succ]
        rintro _ ⟨y, hy, rfl⟩
        rintro _ ⟨y, rfl, hy⟩
        simp only [Act.put, List.setIfInBounds_toArray, List.set_cons_zero, List.set_cons_succ]
        go_wp2_with fail
        refine ⟨rfl, rfl, hC.same, But.refl _ _, ?_⟩
        exact ⟨_, rfl, wrap64_rng _⟩
      · intro k w4 hC hk
        refine givenD_go (ds' := [(0, 21)]) (by kernel_rfl) ?_
        simp only [givenD, List.getD_cons_zero, List.getD_cons_succ]
        rintro _ rfl
        simp only [Act.put, List.setIfInBounds_toArray, List.set_cons_zero, List.set_cons_succ]
        go_wp2_with fail
        refine ⟨rfl, rfl, hC.same, But.refl _ _, ?_⟩
        rfl
      · intro k w4 hC hk
        refine givenD_go (ds' := [(15, 36)]) (by kernel_rfl) ?_
        simp only [givenD, List.getD_cons_zero, List.getD_cons_succ]
        rintro _ ⟨x, rfl, hx1, hx2⟩
        simp only [Act.put, List.setIfInBounds_toArray, List.set_cons_zero, List.set_cons_succ]
        go_wp2_with fail
        refine ⟨rfl, rfl, hC.same, But.refl _ _, ?_⟩
        exact ⟨_, rfl, hx1, hx2⟩
    · intro w4 hC
      simp only [givenAll, List.getD_cons_zero, List.getD_cons_succ]
      rintro _ rfl _ rfl _ rfl _ rfl _ rfl _ rfl _ rfl _ rfl _ rfl _ rfl v10 h10 v11 h11 v12 h12 _ rfl v14 h14 v15 h15 _ rfl _ ⟨x, rfl, q1, q2⟩
      obtain ⟨p4, hr4, hp4, hb4, _⟩ := hC
      clear h10 h11 h12 h14 h15
      have HF := Lib.hid (fin x w4 p4 q1 q2 hr4 (by omega) (hb3.trans hb4))
      simp only [Act.put, List.setIfInBounds_toArray, List.set_cons_zero, List.set_cons_succ]
      go_wp2_with fail
      go_ret2
      exact HF.out
/-- A drawn grid and a level. -/
def RetDL (w : World) (e : Ending) (w' : World) : Prop :=
  ∃ A n c L g x, e = .returned (.tuple #[.slice A n c, .int .i64 x]) ∧ -9223372036854775808 ≤ x ∧ x ≤ 9223372036854775807 ∧ 1 ≤ n ∧ n ≤ 9 ∧ (∀ r, r < n → 1 ≤ L r ∧ L r ≤ 10 ∧ L 0 ≤ L r) ∧ GridF w' A n L g ∧ Below w.heap.size w w'


theorem drawLevelNumbers_any (A : Option Addr) (m c : Nat) (z : Nat → Int) (w : World) (h : RowB w A m z) (hm : m ≤ 9223372036854775807) (hmc : m ≤ c) :
    Calls Try.prog 37 #[.slice A m c] w (RetDL w) := by
  have HR := Lib.hid h
  clear h
  go_enter Try.func37, Try.ntmps37
  go_wp2_with fail
  refine (l6Open_any _ _ _ _ _ HR.out hm hmc).mono ?_
  rintro e w1 ⟨m', c', rfl, hrd, hs1, hb1⟩
  have HRd := Lib.hid hrd
  clear hrd hs1
  go_wp2_with fail
  refine (l91Level_any _ _ _ _ _ _ _ HRd.out (by omega)).mono ?_
  rintro e w2 ⟨v, n, L, g, x, p', rfl, hx1, hx2, hn1, hn2, hgo, hL, _, _, hb2⟩
  obtain ⟨Av, cv, rfl, _, hgrid⟩ := hgo.grid
  have HF : Hid (RetDL w (.returned (.tuple #[.slice Av n cv, .int .i64 x])) w2) := ⟨Av, n, cv, L, g, x, rfl, hx1, hx2, hn1, hn2, hL, hgrid, hb1.trans (hb2.below hb1.size (Nat.le_refl _))⟩
  clear hgo hL hgrid hb2
  go_wp2_with fail
  go_ret2
  exact HF.out





end Go.Proofs.Ytgekjhmjjjkibaa
