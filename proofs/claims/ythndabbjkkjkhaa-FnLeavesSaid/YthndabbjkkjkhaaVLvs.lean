/- The law FnLeaves: its walk. -/
import Derived.Test.YthndabbjkkjkhaaLawH
import Derived.Test.YthndabbjkkjkhaaCell
import Derived.Test.YthndabbjkkjkhaaSLv2
import Derived.Test.YthndabbjkkjkhaaPoolM
import Derived.Test.YthndabbjkkjkhaaITurn
import Derived.Test.YthndabbjkkjkhaaPar
namespace Go.Proofs.Ythndabbjkkjkhaa
set_option linter.unusedVariables false
set_option linter.unusedSimpArgs false
open Go.RowKit

theorem leaves_turn {n : Nat} {L : Nat → Nat} {g : Nat → Nat → Int} {R Q : Nat} (hv : Valid n L g) (hR : R < n) (hQ : Q < L 0) (h : leavesV n L g R Q = true) : fillG n (L 0) g R Q = g R Q ∧ leavesV (L 0) (fun _ => n) (turnG n g) Q ((n : Int) - 1 - R) = true := by
  unfold leavesV at h ⊢
  rw [if_pos ⟨hv, by omega, by omega, by omega, by omega⟩, Int.toNat_natCast, Int.toNat_natCast] at h
  have h0 := of_decide_eq_true h
  have hi : Q * n + (n - 1 - R) < L 0 * n := rc_lt hQ (by omega)
  have ht : turnP n (L 0) (Q * n + (n - 1 - R)) = R * L 0 + Q := by rw [turnP_rc hQ (by omega), show n - 1 - (n - 1 - R) = R by omega]
  refine ⟨by rw [flat_at g hQ] at h0; exact h0, ?_⟩
  rw [if_pos ⟨hv.trn, by omega, by omega, by omega, by show (n : Int) - 1 - R < n; omega⟩, Int.toNat_natCast, show ((n : Int) - 1 - R).toNat = n - 1 - R by omega]
  refine decide_eq_true ?_
  rw [fillV_turn (flat_rng hv) hi, flat_turn g hi, ht]
  exact h0

set_option maxHeartbeats 1500000 in
set_option maxRecDepth 100000 in
theorem fnLeaves_walk (A : Option Addr) (m cp : Nat) (z : Nat → Int) (w : World) (hz : RowB w A m z) (hm : m ≤ 9223372036854775807 ∧ m ≤ cp) :
    Calls Try.prog 12 #[.slice A m cp] w (RetV (.bool true) w) := by
  have HZ := Lib.hid hz
  obtain ⟨hm1, hm2⟩ := hm
  clear hz
  by_cases hbig : 1048576 < m
  · go_enter Try.func12, Try.ntmps12
    go_wp2_with fail
    go_ret
    exact ⟨rfl, Below.refl _ _⟩
  go_enter Try.func12, Try.ntmps12
  go_wp2_with fail
  refine (drawWaterLeaves_any _ _ _ _ _ HZ.out hm1 hm2).mono ?_
  rintro e w1 ⟨A1, n, c1, L, g, a, b, rfl, ha1, ha2, ha3, ha4, hn1, hn2, hL, hgrid, hb1⟩
  have HG := Lib.hid hgrid
  have HL : Hid (∀ r, r < n → L r ≤ 1048576) := fun r hr => by have := hL r hr; omega
  have hB1 := hb1
  clear hgrid hL hb1
  by_cases hv : leavesV n L g a b = true
  · have hc : HasCell n L g a b := by
      refine Classical.byContradiction fun hn => ?_
      unfold leavesV at hv
      rw [if_neg hn] at hv
      cases hv
    obtain ⟨R, rfl⟩ := Int.eq_ofNat_of_zero_le hc.2.1
    obtain ⟨Q, rfl⟩ := Int.eq_ofNat_of_zero_le hc.2.2.2.1
    have hR : R < n := by have := hc.2.2.1; omega
    have hQ : Q < L 0 := by have := hc.2.2.2.2; omega
    have HX := Lib.hid hv
    have HVV := Lib.hid hc.1
    have HVT := Lib.hid hc.1.trn
    have HF := Lib.hid (leaves_turn hc.1 hR hQ hv)
    have hvn := hc.1.2.1
    have hvl := hc.1.2.2.2.1
    clear hv hc
    go_wp2_with fail
    refine (implWaterLeaves_any _ _ _ _ _ _ _ _ HG.out (by omega) HL.out (by omega) (by omega) (by omega) (by omega)).mono ?_
    rintro e w2 ⟨rfl, hb2⟩
    rw [HX.out]
    have hB2 : Below w.heap.size w w2 := hB1.trans (hb2.mono hB1.size)
    have Kg2 := Lib.hid (HG.out.below hb2)
    clear HG
    go_wp2_with fail
    refine (specWaterLeaves_any _ _ _ _ _ _ _ _ Kg2.out (by omega) HL.out (by omega) (by omega) (by omega) (by omega)).mono ?_
    rintro e w3 ⟨rfl, hb3⟩
    rw [HX.out]
    have hB3 : Below w.heap.size w w3 := hB2.trans (hb3.mono hB2.size)
    have Kg3 := Lib.hid (Kg2.out.below hb3)
    clear Kg2
    go_wp2_with fail
    refine (implWaterFill_yes _ _ _ _ _ _ Kg3.out HVV.out).mono ?_
    rintro e w4 ⟨A4, c4, rfl, _, hown4, hb4⟩
    have hB4 : Below w.heap.size w w4 := hB3.trans (hb4.mono hB3.size)
    have Kg4 := Lib.hid (Kg3.out.below hb4)
    clear Kg3
    have Kx4 := Lib.hid (hown4.grid)
    clear hown4
    go_wp2_with fail
    refine (implGridTurn_yes _ _ _ _ _ _ Kg4.out HVV.out).mono ?_
    rintro e w5 ⟨A5, c5, rfl, _, hown5, hb5⟩
    have hB5 : Below w.heap.size w w5 := hB4.trans (hb5.mono hB4.size)
    have Kg5 := Lib.hid (Kg4.out.below hb5)
    have Kx5 := Lib.hid (Kx4.out.below hb5)
    clear Kg4 Kx4
    have Kt5 := Lib.hid (hown5.grid)
    clear hown5
    obtain ⟨Bg, og, R1, k1, rfl, hc1, _, hr1⟩ := Kg5.out R hR
    rw [HVV.out.len R hR] at hc1 hr1
    obtain ⟨b1, o1, rfl, hd1⟩ := hr1 Q hQ
    obtain ⟨Bx, ox, R2, k2, rfl, hc2, _, hr2⟩ := Kx5.out R hR
    obtain ⟨b2, o2, rfl, hd2⟩ := hr2 Q hQ
    rw [HF.out.1] at hd2
    have HC1 := Lib.hid hc1
    have HC2 := Lib.hid hc2
    have HD1 := Lib.hid hd1
    have HD2 := Lib.hid hd2
    clear hr1 hr2 hc1 hc2 hd1 hd2
    obtain ⟨X, hX⟩ : ∃ X, X = g R Q := ⟨_, rfl⟩
    rw [← hX] at HD1 HD2
    clear hX
    have d1 : (X == X) = true := beq_iff_eq.2 rfl
    go_wp2_with fail
    refine wp_region_phi (N := 32) (C := fun _ w4 => Below w5.heap.size w5 w4) (R := fun w4 w5 => Below w4.heap.size w4 w5) (φ := fun j v w4 => ([fun v _ => v = .bool true, fun v _ => v = .bool true, fun v _ => v = .bool true, fun v _ => v = .bool true, fun v _ => v = .bool true, fun v _ => v = .slice (some ⟨Bx, ox, none⟩) n c4, fun v _ => v = .int .i64 (R : Int), fun v _ => v = .pointer (some ⟨Bx, ox + R, none⟩), fun v _ => v = .slice (some ⟨b2, o2, none⟩) (L 0) k2, fun v _ => v = .int .i64 (Q : Int), fun v _ => v = .pointer (some ⟨b2, o2 + Q, none⟩), fun v _ => v = .int .i64 X, fun v _ => v = .slice (some ⟨Bg, og, none⟩) n c1, fun v _ => v = .int .i64 (R : Int), fun v _ => v = .pointer (some ⟨Bg, og + R, none⟩), fun v _ => v = .slice (some ⟨b1, o1, none⟩) (L 0) k1, fun v _ => v = .int .i64 (Q : Int), fun v _ => v = .pointer (some ⟨b1, o1 + Q, none⟩), fun v _ => v = .int .i64 X, fun v _ => v = .bool true, fun v _ => v = .bool true, fun v _ => v = .bool true, fun v _ => v = .slice A5 (L 0) c5, fun v _ => v = .int .i64 (Q : Int), fun v _ => v = .slice (some ⟨Bg, og, none⟩) n c1, fun v _ => v = .int .i64 (n : Int), fun v _ => v = .int .i64 ((n : Int) - 1), fun v _ => v = .int .i64 (R : Int), fun v _ => v = .int .i64 ((n : Int) - 1 - R), fun v _ => v = .bool true, fun v _ => v = .bool true, fun v _ => v = .bool true] : List (Value → World → Prop)).getD j (fun _ _ => True) v w4) (by kernel_rfl) (by kernel_rfl) (by kernel_rfl) ?_ (Below.refl _ _).drew ?_ ?_
    · intro j v w4 w5 hb hv
      match j with
      | 0 | 1 | 2 | 3 | 4 | 5 | 6 | 7 | 8 | 9 | 10 | 11 | 12 | 13 | 14 | 15 | 16 | 17 | 18 | 19 | 20 | 21 | 22 | 23 | 24 | 25 | 26 | 27 | 28 | 29 | 30 | 31 => exact hv
      | j + 32 => exact hv
    · refine ⟨?_, ?_, ?_, ?_, ?_, ?_, ?_, ?_, ?_, ?_, ?_, ?_, ?_, ?_, ?_, ?_, ?_, ?_, ?_, ?_, ?_, ?_, ?_, ?_, ?_, ?_, ?_, ?_, ?_, ?_, ?_, ?_, trivial⟩
      · intro k9 w4 hC hk9
        refine givenD_go (ds' := []) (by kernel_rfl) ?_
        simp only [givenD, List.getD_cons_zero, List.getD_cons_succ]
        go_wp2_with fail
        exact ⟨rfl, rfl, hC, Below.refl _ _, rfl⟩
      · intro k9 w4 hC hk9
        refine givenD_go (ds' := [(0, 49)]) (by kernel_rfl) ?_
        simp only [givenD, List.getD_cons_zero, List.getD_cons_succ]
        rintro _ rfl
        simp only [Act.put, List.setIfInBounds_toArray, List.set_cons_zero, List.set_cons_succ]
        go_wp2_with fail
        exact ⟨rfl, rfl, hC, Below.refl _ _, rfl⟩
      · intro k9 w4 hC hk9
        refine givenD_go (ds' := [(1, 50)]) (by kernel_rfl) ?_
        simp only [givenD, List.getD_cons_zero, List.getD_cons_succ]
        rintro _ rfl
        simp only [Act.put, List.setIfInBounds_toArray, List.set_cons_zero, List.set_cons_succ]
        go_wp2_with fail
        exact ⟨rfl, rfl, hC, Below.refl _ _, rfl⟩
      · intro k9 w4 hC hk9
        refine givenD_go (ds' := [(1, 50), (2, 51)]) (by kernel_rfl) ?_
        simp only [givenD, List.getD_cons_zero, List.getD_cons_succ]
        rintro _ rfl
        rintro _ rfl
        simp only [Act.put, List.setIfInBounds_toArray, List.set_cons_zero, List.set_cons_succ]
        go_wp2_with fail
        exact ⟨rfl, rfl, hC, Below.refl _ _, rfl⟩
      · intro k9 w4 hC hk9
        refine givenD_go (ds' := [(3, 52)]) (by kernel_rfl) ?_
        simp only [givenD, List.getD_cons_zero, List.getD_cons_succ]
        rintro _ rfl
        simp only [Act.put, List.setIfInBounds_toArray, List.set_cons_zero, List.set_cons_succ]
        go_wp2_with fail
        exact ⟨rfl, rfl, hC, Below.refl _ _, rfl⟩
      · intro k9 w4 hC hk9
        refine givenD_go (ds' := [(4, 53)]) (by kernel_rfl) ?_
        simp only [givenD, List.getD_cons_zero, List.getD_cons_succ]
        rintro _ rfl
        simp only [Act.put, List.setIfInBounds_toArray, List.set_cons_zero, List.set_cons_succ]
        go_wp2_with fail
        exact ⟨rfl, rfl, hC, Below.refl _ _, rfl⟩
      · intro k9 w4 hC hk9
        refine givenD_go (ds' := [(4, 53)]) (by kernel_rfl) ?_
        simp only [givenD, List.getD_cons_zero, List.getD_cons_succ]
        rintro _ rfl
        simp only [Act.put, List.setIfInBounds_toArray, List.set_cons_zero, List.set_cons_succ]
        go_wp2_with fail
        exact ⟨rfl, rfl, hC, Below.refl _ _, rfl⟩
      · intro k9 w4 hC hk9
        refine givenD_go (ds' := [(5, 54), (6, 55), (4, 53)]) (by kernel_rfl) ?_
        simp only [givenD, List.getD_cons_zero, List.getD_cons_succ]
        rintro _ rfl
        rintro _ rfl
        rintro _ rfl
        simp only [Act.put, List.setIfInBounds_toArray, List.set_cons_zero, List.set_cons_succ]
        go_wp2_with fail
        exact ⟨rfl, rfl, hC, Below.refl _ _, rfl⟩
      · intro k9 w4 hC hk9
        refine givenD_go (ds' := [(7, 56), (4, 53)]) (by kernel_rfl) ?_
        simp only [givenD, List.getD_cons_zero, List.getD_cons_succ]
        rintro _ rfl
        rintro _ rfl
        simp only [Act.put, List.setIfInBounds_toArray, List.set_cons_zero, List.set_cons_succ]
        have hcx := (hC.cell (World.block_lt_of_cell? w5 _ HC2.out)).trans HC2.out
        go_wp2_with fail
        exact ⟨rfl, rfl, hC, Below.refl _ _, rfl⟩
      · intro k9 w4 hC hk9
        refine givenD_go (ds' := [(4, 53)]) (by kernel_rfl) ?_
        simp only [givenD, List.getD_cons_zero, List.getD_cons_succ]
        rintro _ rfl
        simp only [Act.put, List.setIfInBounds_toArray, List.set_cons_zero, List.set_cons_succ]
        go_wp2_with fail
        exact ⟨rfl, rfl, hC, Below.refl _ _, rfl⟩
      · intro k9 w4 hC hk9
        refine givenD_go (ds' := [(8, 57), (9, 58), (4, 53)]) (by kernel_rfl) ?_
        simp only [givenD, List.getD_cons_zero, List.getD_cons_succ]
        rintro _ rfl
        rintro _ rfl
        rintro _ rfl
        simp only [Act.put, List.setIfInBounds_toArray, List.set_cons_zero, List.set_cons_succ]
        go_wp2_with fail
        exact ⟨rfl, rfl, hC, Below.refl _ _, rfl⟩
      · intro k9 w4 hC hk9
        refine givenD_go (ds' := [(10, 59), (4, 53)]) (by kernel_rfl) ?_
        simp only [givenD, List.getD_cons_zero, List.getD_cons_succ]
        rintro _ rfl
        rintro _ rfl
        simp only [Act.put, List.setIfInBounds_toArray, List.set_cons_zero, List.set_cons_succ]
        have hcx := (hC.cell (World.block_lt_of_cell? w5 _ HD2.out)).trans HD2.out
        go_wp2_with fail
        exact ⟨rfl, rfl, hC, Below.refl _ _, rfl⟩
      · intro k9 w4 hC hk9
        refine givenD_go (ds' := [(4, 53)]) (by kernel_rfl) ?_
        simp only [givenD, List.getD_cons_zero, List.getD_cons_succ]
        rintro _ rfl
        simp only [Act.put, List.setIfInBounds_toArray, List.set_cons_zero, List.set_cons_succ]
        go_wp2_with fail
        exact ⟨rfl, rfl, hC, Below.refl _ _, rfl⟩
      · intro k9 w4 hC hk9
        refine givenD_go (ds' := [(4, 53)]) (by kernel_rfl) ?_
        simp only [givenD, List.getD_cons_zero, List.getD_cons_succ]
        rintro _ rfl
        simp only [Act.put, List.setIfInBounds_toArray, List.set_cons_zero, List.set_cons_succ]
        go_wp2_with fail
        exact ⟨rfl, rfl, hC, Below.refl _ _, rfl⟩
      · intro k9 w4 hC hk9
        refine givenD_go (ds' := [(12, 61), (13, 62), (4, 53)]) (by kernel_rfl) ?_
        simp only [givenD, List.getD_cons_zero, List.getD_cons_succ]
        rintro _ rfl
        rintro _ rfl
        rintro _ rfl
        simp only [Act.put, List.setIfInBounds_toArray, List.set_cons_zero, List.set_cons_succ]
        go_wp2_with fail
        exact ⟨rfl, rfl, hC, Below.refl _ _, rfl⟩
      · intro k9 w4 hC hk9
        refine givenD_go (ds' := [(14, 63), (4, 53)]) (by kernel_rfl) ?_
        simp only [givenD, List.getD_cons_zero, List.getD_cons_succ]
        rintro _ rfl
        rintro _ rfl
        simp only [Act.put, List.setIfInBounds_toArray, List.set_cons_zero, List.set_cons_succ]
        have hcx := (hC.cell (World.block_lt_of_cell? w5 _ HC1.out)).trans HC1.out
        go_wp2_with fail
        exact ⟨rfl, rfl, hC, Below.refl _ _, rfl⟩
      · intro k9 w4 hC hk9
        refine givenD_go (ds' := [(4, 53)]) (by kernel_rfl) ?_
        simp only [givenD, List.getD_cons_zero, List.getD_cons_succ]
        rintro _ rfl
        simp only [Act.put, List.setIfInBounds_toArray, List.set_cons_zero, List.set_cons_succ]
        go_wp2_with fail
        exact ⟨rfl, rfl, hC, Below.refl _ _, rfl⟩
      · intro k9 w4 hC hk9
        refine givenD_go (ds' := [(15, 64), (16, 65), (4, 53)]) (by kernel_rfl) ?_
        simp only [givenD, List.getD_cons_zero, List.getD_cons_succ]
        rintro _ rfl
        rintro _ rfl
        rintro _ rfl
        simp only [Act.put, List.setIfInBounds_toArray, List.set_cons_zero, List.set_cons_succ]
        go_wp2_with fail
        exact ⟨rfl, rfl, hC, Below.refl _ _, rfl⟩
      · intro k9 w4 hC hk9
        refine givenD_go (ds' := [(17, 66), (4, 53)]) (by kernel_rfl) ?_
        simp only [givenD, List.getD_cons_zero, List.getD_cons_succ]
        rintro _ rfl
        rintro _ rfl
        simp only [Act.put, List.setIfInBounds_toArray, List.set_cons_zero, List.set_cons_succ]
        have hcx := (hC.cell (World.block_lt_of_cell? w5 _ HD1.out)).trans HD1.out
        go_wp2_with fail
        exact ⟨rfl, rfl, hC, Below.refl _ _, rfl⟩
      · intro k9 w4 hC hk9
        refine givenD_go (ds' := [(11, 60), (18, 67), (4, 53)]) (by kernel_rfl) ?_
        simp only [givenD, List.getD_cons_zero, List.getD_cons_succ]
        rintro _ rfl
        rintro _ rfl
        rintro _ rfl
        simp only [Act.put, List.setIfInBounds_toArray, List.set_cons_zero, List.set_cons_succ]
        go_wp2_with fail
        exact ⟨rfl, rfl, hC, Below.refl _ _, rfl⟩
      · intro k9 w4 hC hk9
        refine givenD_go (ds' := [(4, 53), (19, 68)]) (by kernel_rfl) ?_
        simp only [givenD, List.getD_cons_zero, List.getD_cons_succ]
        rintro _ rfl
        rintro _ rfl
        simp only [Act.put, List.setIfInBounds_toArray, List.set_cons_zero, List.set_cons_succ]
        go_wp2_with fail
        exact ⟨rfl, rfl, hC, Below.refl _ _, rfl⟩
      · intro k9 w4 hC hk9
        refine givenD_go (ds' := [(20, 69)]) (by kernel_rfl) ?_
        simp only [givenD, List.getD_cons_zero, List.getD_cons_succ]
        rintro _ rfl
        simp only [Act.put, List.setIfInBounds_toArray, List.set_cons_zero, List.set_cons_succ]
        go_wp2_with fail
        exact ⟨rfl, rfl, hC, Below.refl _ _, rfl⟩
      · intro k9 w4 hC hk9
        refine givenD_go (ds' := [(21, 70)]) (by kernel_rfl) ?_
        simp only [givenD, List.getD_cons_zero, List.getD_cons_succ]
        rintro _ rfl
        simp only [Act.put, List.setIfInBounds_toArray, List.set_cons_zero, List.set_cons_succ]
        go_wp2_with fail
        exact ⟨rfl, rfl, hC, Below.refl _ _, rfl⟩
      · intro k9 w4 hC hk9
        refine givenD_go (ds' := [(21, 70)]) (by kernel_rfl) ?_
        simp only [givenD, List.getD_cons_zero, List.getD_cons_succ]
        rintro _ rfl
        simp only [Act.put, List.setIfInBounds_toArray, List.set_cons_zero, List.set_cons_succ]
        go_wp2_with fail
        exact ⟨rfl, rfl, hC, Below.refl _ _, rfl⟩
      · intro k9 w4 hC hk9
        refine givenD_go (ds' := [(21, 70)]) (by kernel_rfl) ?_
        simp only [givenD, List.getD_cons_zero, List.getD_cons_succ]
        rintro _ rfl
        simp only [Act.put, List.setIfInBounds_toArray, List.set_cons_zero, List.set_cons_succ]
        go_wp2_with fail
        exact ⟨rfl, rfl, hC, Below.refl _ _, rfl⟩
      · intro k9 w4 hC hk9
        refine givenD_go (ds' := [(24, 73), (21, 70)]) (by kernel_rfl) ?_
        simp only [givenD, List.getD_cons_zero, List.getD_cons_succ]
        rintro _ rfl
        rintro _ rfl
        simp only [Act.put, List.setIfInBounds_toArray, List.set_cons_zero, List.set_cons_succ]
        go_wp2_with fail
        exact ⟨rfl, rfl, hC, Below.refl _ _, rfl⟩
      · intro k9 w4 hC hk9
        refine givenD_go (ds' := [(25, 74), (21, 70)]) (by kernel_rfl) ?_
        simp only [givenD, List.getD_cons_zero, List.getD_cons_succ]
        rintro _ rfl
        rintro _ rfl
        simp only [Act.put, List.setIfInBounds_toArray, List.set_cons_zero, List.set_cons_succ]
        go_wp2_with fail
        exact ⟨rfl, rfl, hC, Below.refl _ _, rfl⟩
      · intro k9 w4 hC hk9
        refine givenD_go (ds' := [(21, 70)]) (by kernel_rfl) ?_
        simp only [givenD, List.getD_cons_zero, List.getD_cons_succ]
        rintro _ rfl
        simp only [Act.put, List.setIfInBounds_toArray, List.set_cons_zero, List.set_cons_succ]
        go_wp2_with fail
        exact ⟨rfl, rfl, hC, Below.refl _ _, rfl⟩
      · intro k9 w4 hC hk9
        refine givenD_go (ds' := [(26, 75), (27, 76), (21, 70)]) (by kernel_rfl) ?_
        simp only [givenD, List.getD_cons_zero, List.getD_cons_succ]
        rintro _ rfl
        rintro _ rfl
        rintro _ rfl
        simp only [Act.put, List.setIfInBounds_toArray, List.set_cons_zero, List.set_cons_succ]
        go_wp2_with fail
        exact ⟨rfl, rfl, hC, Below.refl _ _, rfl⟩
      · intro k9 w4 hC hk9
        refine givenD_go (ds' := [(22, 71), (23, 72), (28, 77), (21, 70)]) (by kernel_rfl) ?_
        simp only [givenD, List.getD_cons_zero, List.getD_cons_succ]
        rintro _ rfl
        rintro _ rfl
        rintro _ rfl
        rintro _ rfl
        simp only [Act.put, List.setIfInBounds_toArray, List.set_cons_zero, List.set_cons_succ]
        go_wp2_with fail
        refine (implWaterLeaves_any _ _ _ _ _ _ _ _ (Kt5.out.below hC) HVT.out.n_le HVT.out.L_le (by omega) (by omega) (by omega) (by omega)).mono ?_
        rintro e w5 ⟨rfl, hb5⟩
        rw [HF.out.2]
        go_wp2_with fail
        exact ⟨rfl, rfl, hC.trans (hb5.mono hC.size), hb5, rfl⟩
      · intro k9 w4 hC hk9
        refine givenD_go (ds' := [(21, 70), (29, 78)]) (by kernel_rfl) ?_
        simp only [givenD, List.getD_cons_zero, List.getD_cons_succ]
        rintro _ rfl
        rintro _ rfl
        simp only [Act.put, List.setIfInBounds_toArray, List.set_cons_zero, List.set_cons_succ]
        go_wp2_with fail
        exact ⟨rfl, rfl, hC, Below.refl _ _, rfl⟩
      · intro k9 w4 hC hk9
        refine givenD_go (ds' := [(30, 79)]) (by kernel_rfl) ?_
        simp only [givenD, List.getD_cons_zero, List.getD_cons_succ]
        rintro _ rfl
        simp only [Act.put, List.setIfInBounds_toArray, List.set_cons_zero, List.set_cons_succ]
        go_wp2_with fail
        exact ⟨rfl, rfl, hC, Below.refl _ _, rfl⟩
    · intro w4 hC
      simp only [givenAll, List.getD_cons_zero, List.getD_cons_succ]
      rintro _ rfl _ rfl _ rfl _ rfl _ rfl _ rfl _ rfl _ rfl _ rfl _ rfl _ rfl _ rfl _ rfl _ rfl _ rfl _ rfl _ rfl _ rfl _ rfl _ rfl _ rfl _ rfl _ rfl _ rfl _ rfl _ rfl _ rfl _ rfl _ rfl _ rfl _ rfl _ rfl
      simp only [Act.put, List.setIfInBounds_toArray, List.set_cons_zero, List.set_cons_succ]
      clear d1
      go_wp2_with fail
      go_ret
      exact ⟨rfl, hB5.trans (hC.mono hB5.size)⟩
  · have HX : Hid (leavesV n L g a b = false) := by show _ = _; simpa using hv
    clear hv
    go_wp2_with fail
    refine (implWaterLeaves_any _ _ _ _ _ _ _ _ HG.out (by omega) HL.out (by omega) (by omega) (by omega) (by omega)).mono ?_
    rintro e w2 ⟨rfl, hb2⟩
    rw [HX.out]
    have hB2 : Below w.heap.size w w2 := hB1.trans (hb2.mono hB1.size)
    have Kg2 := Lib.hid (HG.out.below hb2)
    clear HG
    go_wp2_with fail
    refine (specWaterLeaves_any _ _ _ _ _ _ _ _ Kg2.out (by omega) HL.out (by omega) (by omega) (by omega) (by omega)).mono ?_
    rintro e w3 ⟨rfl, hb3⟩
    rw [HX.out]
    have hB3 : Below w.heap.size w w3 := hB2.trans (hb3.mono hB2.size)
    have Kg3 := Lib.hid (Kg2.out.below hb3)
    clear Kg2
    go_wp2_with fail
    go_ret
    exact ⟨rfl, hB3⟩

end Go.Proofs.Ythndabbjkkjkhaa
