/- Water that leaves: what the reference's function returns. -/
import Derived.Test.YthndabbjkkjkhaaWat2
import Derived.Test.YthndabbjkkjkhaaDrs
namespace Go.Proofs.Ythndabbjkkjkhaa
set_option linter.unusedVariables false
set_option linter.unusedSimpArgs false
open Go.RowKit

/-- A slice of the call's own with a number at a place. -/
def FilAt (N i : Nat) (F : Nat → Int) (v : Value) (w : World) : Prop := ∃ bf cf, v = .slice (some ⟨bf, 0, none⟩) N cf ∧ w.cell? ⟨bf, i, none⟩ = some (.int .i64 (F i))
def FilPt (i : Nat) (F : Nat → Int) (v : Value) (w : World) : Prop := ∃ bf, v = .pointer (some ⟨bf, i, none⟩) ∧ w.cell? ⟨bf, i, none⟩ = some (.int .i64 (F i))
theorem FilAt.mono {N i : Nat} {F : Nat → Int} {v : Value} {w w' : World} (h : FilAt N i F v w) (hb : Below w.heap.size w w') : FilAt N i F v w' := by
  obtain ⟨bf, cf, h1, h2⟩ := h
  exact ⟨bf, cf, h1, (hb.cell (World.block_lt_of_cell? w _ h2)).trans h2⟩
theorem FilPt.mono {i : Nat} {F : Nat → Int} {v : Value} {w w' : World} (h : FilPt i F v w) (hb : Below w.heap.size w w') : FilPt i F v w' := by
  obtain ⟨bf, h1, h2⟩ := h
  exact ⟨bf, h1, (hb.cell (World.block_lt_of_cell? w _ h2)).trans h2⟩


set_option maxHeartbeats 1500000 in
set_option maxRecDepth 100000 in
theorem specWaterLeaves_any (A : Option Addr) (n cp : Nat) (L : Nat → Nat) (g : Nat → Nat → Int) (r c : Int) (w : World) (hg : GridF w A n L g) (hn : n ≤ 1048576) (hL : ∀ r, r < n → L r ≤ 1048576) (_hr1 : -9223372036854775808 ≤ r) (_hr2 : r ≤ 9223372036854775807) (_hc1 : -9223372036854775808 ≤ c) (_hc2 : c ≤ 9223372036854775807) :
    Calls Try.prog 37 #[.slice A n cp, .int .i64 r, .int .i64 c] w (RetV (.bool (leavesV n L g r c)) w) := by
  have HG := Lib.hid hg
  have HL := Lib.hid hL
  clear hg hL
  by_cases h : HasCell n L g r c
  · have HE := Lib.hid (show leavesV n L g r c = _ from if_pos h)
    have HH := Lib.hid h
    have HV := Lib.hid h.1
    obtain ⟨hv, h1, h2, h3, h4⟩ := h
    obtain ⟨r, rfl⟩ := Int.eq_ofNat_of_zero_le h1
    obtain ⟨c, rfl⟩ := Int.eq_ofNat_of_zero_le h3
    rw [Int.toNat_natCast, Int.toNat_natCast] at HE
    have hn2 := hv.2.1
    have hl2 := hv.2.2.2.1
    have hrn : r < n := by omega
    have hcl : c < L 0 := by omega
    have hm : r * L 0 ≤ 49 := Nat.le_trans (Nat.mul_le_mul (by omega : r ≤ 7) hl2) (by decide)
    have hm0 : (0 : Int) ≤ (r : Int) * (L 0 : Int) := by rw [← Int.natCast_mul]; omega
    have hm1 : (r : Int) * (L 0 : Int) ≤ 1000000 := by rw [← Int.natCast_mul]; omega
    have hidx : r * L 0 + c < n * L 0 := idx_lt (by omega) (by omega)
    have e0 : IntKind.i64.wrap ((r : Int) * (L 0 : Int)) = (r : Int) * (L 0 : Int) := IntWalk.i64_in _ (by omega)
    have e0' : IntKind.i64.wrap ((r : Int) * (L 0 : Int) + (c : Int)) = (r : Int) * (L 0 : Int) + (c : Int) := IntWalk.i64_in _ (by omega)
    have e1 : ((r : Int) * (L 0 : Int) + (c : Int)).toNat = r * L 0 + c := by rw [← Int.natCast_mul]; omega
    have e2 : (r : Int) * (L 0 : Int) + (c : Int) < ((n * L 0 : Nat) : Int) := by rw [← Int.natCast_mul]; omega
    have e3 : (0 : Int) ≤ (r : Int) * (L 0 : Int) + (c : Int) := by omega
    obtain ⟨B, o, A0, c0, rfl, hc0, _, hr0⟩ := HG.out 0 (by omega)
    rw [Nat.add_zero] at hc0
    obtain ⟨B1, o1, A1, c1, hBB, hc1, _, hr1⟩ := HG.out r hrn
    injection hBB with hBB
    injection hBB with hB1 hB2
    subst hB1 hB2
    rw [hv.len r hrn] at hc1 hr1
    obtain ⟨B2, o2, rfl, hc2⟩ := hr1 c hcl
    have HFl : Hid (flat (L 0) g (r * L 0 + c) = g r c) := flat_at g hcl
    have HF : Hid (∀ i, i < n * L 0 → 0 ≤ flat (L 0) g i ∧ flat (L 0) g i ≤ 99) := flat_rng hv
    have HC0 := Lib.hid hc0
    have HC1 := Lib.hid hc1
    have HC2 := Lib.hid hc2
    have HR : Hid ((fillV n (L 0) (flat (L 0) g) (r * L 0 + c) == g r c) = leavesV n L g r c) := by
      show _ = _
      rw [HE.out]
      unfold lvB
      rw [HFl.out]
      rfl
    have e2' : (r : Int) * (L 0 : Int) + (c : Int) < (n : Int) * (L 0 : Int) := by rw [← Int.natCast_mul, ← Int.natCast_mul]; omega
    clear hr0 hr1 hv hc0 hc1 hc2
    go_enter Try.func37, Try.ntmps37
    go_wp2_with fail
    refine wp_region_phi (N := 27) (C := fun _ w4 => Below w.heap.size w w4) (R := fun w4 w5 => Below w4.heap.size w4 w5) (φ := fun j v w4 => ([fun v _ => v = .slice (some ⟨B, o, none⟩) n cp, fun v _ => v = .int .i64 (r : Int), fun v _ => v = .int .i64 (c : Int), fun v _ => v = .bool true, fun v _ => v = .bool true, fun v _ => v = .slice (some ⟨B, o, none⟩) n cp, FilAt (n * L 0) (r * L 0 + c) (fillV n (L 0) (flat (L 0) g)), fun v _ => v = .int .i64 (r : Int), fun v _ => v = .slice (some ⟨B, o, none⟩) n cp, fun v _ => v = .pointer (some ⟨B, o, none⟩), fun v _ => v = .slice A0 (L 0) c0, fun v _ => v = .int .i64 (L 0 : Int), fun v _ => v = .int .i64 ((r : Int) * (L 0 : Int)), fun v _ => v = .int .i64 (c : Int), fun v _ => v = .int .i64 ((r : Int) * (L 0 : Int) + (c : Int)), FilPt (r * L 0 + c) (fillV n (L 0) (flat (L 0) g)), fun v _ => v = .int .i64 (fillV n (L 0) (flat (L 0) g) (r * L 0 + c)), fun v _ => v = .slice (some ⟨B, o, none⟩) n cp, fun v _ => v = .int .i64 (r : Int), fun v _ => v = .pointer (some ⟨B, o + r, none⟩), fun v _ => v = .slice (some ⟨B2, o2, none⟩) (L 0) c1, fun v _ => v = .int .i64 (c : Int), fun v _ => v = .pointer (some ⟨B2, o2 + c, none⟩), fun v _ => v = .int .i64 (g r c), fun v _ => v = .bool (fillV n (L 0) (flat (L 0) g) (r * L 0 + c) == g r c), fun v _ => v = .bool (fillV n (L 0) (flat (L 0) g) (r * L 0 + c) == g r c), fun v _ => v = .bool (fillV n (L 0) (flat (L 0) g) (r * L 0 + c) == g r c)] : List (Value → World → Prop)).getD j (fun _ _ => True) v w4) (by kernel_rfl) (by kernel_rfl) (by kernel_rfl) ?_ (Below.refl _ _).drew ?_ ?_
    · intro j v w4 w5 hb hv
      match j with
      | 6 => exact FilAt.mono hv hb
      | 15 => exact FilPt.mono hv hb
      | 0 | 1 | 2 | 3 | 4 | 5 | 7 | 8 | 9 | 10 | 11 | 12 | 13 | 14 | 16 | 17 | 18 | 19 | 20 | 21 | 22 | 23 | 24 | 25 | 26 => exact hv
      | j + 27 => exact hv
    · refine ⟨?_, ?_, ?_, ?_, ?_, ?_, ?_, ?_, ?_, ?_, ?_, ?_, ?_, ?_, ?_, ?_, ?_, ?_, ?_, ?_, ?_, ?_, ?_, ?_, ?_, ?_, ?_, trivial⟩
      · intro k9 w4 hC hk9
        refine givenD_go (ds' := []) (by kernel_rfl) ?_
        simp only [givenD, List.getD_cons_zero, List.getD_cons_succ]
        go_wp2_with fail
        exact ⟨rfl, rfl, hC, Below.refl _ _, rfl⟩
      · intro k9 w4 hC hk9
        refine givenD_go (ds' := []) (by kernel_rfl) ?_
        simp only [givenD, List.getD_cons_zero, List.getD_cons_succ]
        go_wp2_with fail
        exact ⟨rfl, rfl, hC, Below.refl _ _, rfl⟩
      · intro k9 w4 hC hk9
        refine givenD_go (ds' := []) (by kernel_rfl) ?_
        simp only [givenD, List.getD_cons_zero, List.getD_cons_succ]
        go_wp2_with fail
        exact ⟨rfl, rfl, hC, Below.refl _ _, rfl⟩
      · intro k9 w4 hC hk9
        refine givenD_go (ds' := [(0, 7), (1, 8), (2, 9)]) (by kernel_rfl) ?_
        simp only [givenD, List.getD_cons_zero, List.getD_cons_succ]
        rintro _ rfl
        rintro _ rfl
        rintro _ rfl
        simp only [Act.put, List.setIfInBounds_toArray, List.set_cons_zero, List.set_cons_succ]
        go_wp2_with fail
        refine (l1Cell_yes _ _ _ _ _ _ _ _ (HG.out.below hC) HH.out).mono ?_
        rintro e w5 ⟨rfl, hb5⟩
        go_wp2_with fail
        exact ⟨rfl, rfl, hC.trans (hb5.mono hC.size), hb5, rfl⟩
      · intro k9 w4 hC hk9
        refine givenD_go (ds' := [(3, 10)]) (by kernel_rfl) ?_
        simp only [givenD, List.getD_cons_zero, List.getD_cons_succ]
        rintro _ rfl
        simp only [Act.put, List.setIfInBounds_toArray, List.set_cons_zero, List.set_cons_succ]
        go_wp2_with fail
        exact ⟨rfl, rfl, hC, Below.refl _ _, rfl⟩
      · intro k9 w4 hC hk9
        refine givenD_go (ds' := [(4, 11)]) (by kernel_rfl) ?_
        simp only [givenD, List.getD_cons_zero, List.getD_cons_succ]
        rintro _ rfl
        simp only [Act.put, List.setIfInBounds_toArray, List.set_cons_zero, List.set_cons_succ]
        go_wp2_with fail
        exact ⟨rfl, rfl, hC, Below.refl _ _, rfl⟩
      · intro k9 w4 hC hk9
        refine givenD_go (ds' := [(5, 12), (4, 11)]) (by kernel_rfl) ?_
        simp only [givenD, List.getD_cons_zero, List.getD_cons_succ]
        rintro _ rfl
        rintro _ rfl
        simp only [Act.put, List.setIfInBounds_toArray, List.set_cons_zero, List.set_cons_succ]
        go_wp2_with fail
        refine (l2Fill_any _ _ _ _ _ _ (HG.out.below hC) HV.out).mono ?_
        rintro e w5 ⟨v, rfl, hown, hb5⟩
        obtain ⟨Af, cf, rfl, _⟩ := hown.s.slice
        obtain ⟨bf, rfl, _, _, hcells⟩ := hown.cells (by omega)
        have hcf := (hcells _ hidx).1
        clear hcells hown
        go_wp2_with fail
        exact ⟨rfl, rfl, hC.trans (hb5.mono hC.size), hb5, bf, cf, rfl, hcf⟩
      · intro k9 w4 hC hk9
        refine givenD_go (ds' := [(4, 11)]) (by kernel_rfl) ?_
        simp only [givenD, List.getD_cons_zero, List.getD_cons_succ]
        rintro _ rfl
        simp only [Act.put, List.setIfInBounds_toArray, List.set_cons_zero, List.set_cons_succ]
        go_wp2_with fail
        exact ⟨rfl, rfl, hC, Below.refl _ _, rfl⟩
      · intro k9 w4 hC hk9
        refine givenD_go (ds' := [(4, 11)]) (by kernel_rfl) ?_
        simp only [givenD, List.getD_cons_zero, List.getD_cons_succ]
        rintro _ rfl
        simp only [Act.put, List.setIfInBounds_toArray, List.set_cons_zero, List.set_cons_succ]
        go_wp2_with fail
        exact ⟨rfl, rfl, hC, Below.refl _ _, rfl⟩
      · intro k9 w4 hC hk9
        refine givenD_go (ds' := [(8, 15), (4, 11)]) (by kernel_rfl) ?_
        simp only [givenD, List.getD_cons_zero, List.getD_cons_succ]
        rintro _ rfl
        rintro _ rfl
        simp only [Act.put, List.setIfInBounds_toArray, List.set_cons_zero, List.set_cons_succ]
        go_wp2_with fail
        exact ⟨rfl, rfl, hC, Below.refl _ _, rfl⟩
      · intro k9 w4 hC hk9
        refine givenD_go (ds' := [(9, 16), (4, 11)]) (by kernel_rfl) ?_
        simp only [givenD, List.getD_cons_zero, List.getD_cons_succ]
        rintro _ rfl
        rintro _ rfl
        simp only [Act.put, List.setIfInBounds_toArray, List.set_cons_zero, List.set_cons_succ]
        have hcx := (hC.cell (World.block_lt_of_cell? w _ HC0.out)).trans HC0.out
        go_wp2_with fail
        exact ⟨rfl, rfl, hC, Below.refl _ _, rfl⟩
      · intro k9 w4 hC hk9
        refine givenD_go (ds' := [(10, 17), (4, 11)]) (by kernel_rfl) ?_
        simp only [givenD, List.getD_cons_zero, List.getD_cons_succ]
        rintro _ rfl
        rintro _ rfl
        simp only [Act.put, List.setIfInBounds_toArray, List.set_cons_zero, List.set_cons_succ]
        go_wp2_with fail
        exact ⟨rfl, rfl, hC, Below.refl _ _, rfl⟩
      · intro k9 w4 hC hk9
        refine givenD_go (ds' := [(7, 14), (11, 18), (4, 11)]) (by kernel_rfl) ?_
        simp only [givenD, List.getD_cons_zero, List.getD_cons_succ]
        rintro _ rfl
        rintro _ rfl
        rintro _ rfl
        simp only [Act.put, List.setIfInBounds_toArray, List.set_cons_zero, List.set_cons_succ]
        go_wp2_with fail
        exact ⟨rfl, rfl, hC, Below.refl _ _, rfl⟩
      · intro k9 w4 hC hk9
        refine givenD_go (ds' := [(4, 11)]) (by kernel_rfl) ?_
        simp only [givenD, List.getD_cons_zero, List.getD_cons_succ]
        rintro _ rfl
        simp only [Act.put, List.setIfInBounds_toArray, List.set_cons_zero, List.set_cons_succ]
        go_wp2_with fail
        exact ⟨rfl, rfl, hC, Below.refl _ _, rfl⟩
      · intro k9 w4 hC hk9
        refine givenD_go (ds' := [(12, 19), (13, 20), (4, 11)]) (by kernel_rfl) ?_
        simp only [givenD, List.getD_cons_zero, List.getD_cons_succ]
        rintro _ rfl
        rintro _ rfl
        rintro _ rfl
        simp only [Act.put, List.setIfInBounds_toArray, List.set_cons_zero, List.set_cons_succ]
        go_wp2_with fail
        exact ⟨rfl, rfl, hC, Below.refl _ _, rfl⟩
      · intro k9 w4 hC hk9
        refine givenD_go (ds' := [(6, 13), (14, 21), (4, 11)]) (by kernel_rfl) ?_
        simp only [givenD, List.getD_cons_zero, List.getD_cons_succ]
        rintro _ ⟨bf, cf, rfl, hcf⟩
        rintro _ rfl
        rintro _ rfl
        simp only [Act.put, List.setIfInBounds_toArray, List.set_cons_zero, List.set_cons_succ]
        go_wp2_with fail
        exact ⟨rfl, rfl, hC, Below.refl _ _, bf, rfl, hcf⟩
      · intro k9 w4 hC hk9
        refine givenD_go (ds' := [(15, 22), (4, 11)]) (by kernel_rfl) ?_
        simp only [givenD, List.getD_cons_zero, List.getD_cons_succ]
        rintro _ ⟨bf, rfl, hcf⟩
        rintro _ rfl
        simp only [Act.put, List.setIfInBounds_toArray, List.set_cons_zero, List.set_cons_succ]
        go_wp2_with fail
        exact ⟨rfl, rfl, hC, Below.refl _ _, rfl⟩
      · intro k9 w4 hC hk9
        refine givenD_go (ds' := [(4, 11)]) (by kernel_rfl) ?_
        simp only [givenD, List.getD_cons_zero, List.getD_cons_succ]
        rintro _ rfl
        simp only [Act.put, List.setIfInBounds_toArray, List.set_cons_zero, List.set_cons_succ]
        go_wp2_with fail
        exact ⟨rfl, rfl, hC, Below.refl _ _, rfl⟩
      · intro k9 w4 hC hk9
        refine givenD_go (ds' := [(4, 11)]) (by kernel_rfl) ?_
        simp only [givenD, List.getD_cons_zero, List.getD_cons_succ]
        rintro _ rfl
        simp only [Act.put, List.setIfInBounds_toArray, List.set_cons_zero, List.set_cons_succ]
        go_wp2_with fail
        exact ⟨rfl, rfl, hC, Below.refl _ _, rfl⟩
      · intro k9 w4 hC hk9
        refine givenD_go (ds' := [(17, 24), (18, 25), (4, 11)]) (by kernel_rfl) ?_
        simp only [givenD, List.getD_cons_zero, List.getD_cons_succ]
        rintro _ rfl
        rintro _ rfl
        rintro _ rfl
        simp only [Act.put, List.setIfInBounds_toArray, List.set_cons_zero, List.set_cons_succ]
        go_wp2_with fail
        exact ⟨rfl, rfl, hC, Below.refl _ _, rfl⟩
      · intro k9 w4 hC hk9
        refine givenD_go (ds' := [(19, 26), (4, 11)]) (by kernel_rfl) ?_
        simp only [givenD, List.getD_cons_zero, List.getD_cons_succ]
        rintro _ rfl
        rintro _ rfl
        simp only [Act.put, List.setIfInBounds_toArray, List.set_cons_zero, List.set_cons_succ]
        have hcx := (hC.cell (World.block_lt_of_cell? w _ HC1.out)).trans HC1.out
        go_wp2_with fail
        exact ⟨rfl, rfl, hC, Below.refl _ _, rfl⟩
      · intro k9 w4 hC hk9
        refine givenD_go (ds' := [(4, 11)]) (by kernel_rfl) ?_
        simp only [givenD, List.getD_cons_zero, List.getD_cons_succ]
        rintro _ rfl
        simp only [Act.put, List.setIfInBounds_toArray, List.set_cons_zero, List.set_cons_succ]
        go_wp2_with fail
        exact ⟨rfl, rfl, hC, Below.refl _ _, rfl⟩
      · intro k9 w4 hC hk9
        refine givenD_go (ds' := [(20, 27), (21, 28), (4, 11)]) (by kernel_rfl) ?_
        simp only [givenD, List.getD_cons_zero, List.getD_cons_succ]
        rintro _ rfl
        rintro _ rfl
        rintro _ rfl
        simp only [Act.put, List.setIfInBounds_toArray, List.set_cons_zero, List.set_cons_succ]
        go_wp2_with fail
        exact ⟨rfl, rfl, hC, Below.refl _ _, rfl⟩
      · intro k9 w4 hC hk9
        refine givenD_go (ds' := [(22, 29), (4, 11)]) (by kernel_rfl) ?_
        simp only [givenD, List.getD_cons_zero, List.getD_cons_succ]
        rintro _ rfl
        rintro _ rfl
        simp only [Act.put, List.setIfInBounds_toArray, List.set_cons_zero, List.set_cons_succ]
        have hcx := (hC.cell (World.block_lt_of_cell? w _ HC2.out)).trans HC2.out
        go_wp2_with fail
        exact ⟨rfl, rfl, hC, Below.refl _ _, rfl⟩
      · intro k9 w4 hC hk9
        refine givenD_go (ds' := [(16, 23), (23, 30), (4, 11)]) (by kernel_rfl) ?_
        simp only [givenD, List.getD_cons_zero, List.getD_cons_succ]
        rintro _ rfl
        rintro _ rfl
        rintro _ rfl
        simp only [Act.put, List.setIfInBounds_toArray, List.set_cons_zero, List.set_cons_succ]
        go_wp2_with fail
        exact ⟨rfl, rfl, hC, Below.refl _ _, rfl⟩
      · intro k9 w4 hC hk9
        refine givenD_go (ds' := [(4, 11), (24, 31)]) (by kernel_rfl) ?_
        simp only [givenD, List.getD_cons_zero, List.getD_cons_succ]
        rintro _ rfl
        rintro _ rfl
        simp only [Act.put, List.setIfInBounds_toArray, List.set_cons_zero, List.set_cons_succ]
        go_wp2_with fail
        exact ⟨rfl, rfl, hC, Below.refl _ _, rfl⟩
      · intro k9 w4 hC hk9
        refine givenD_go (ds' := [(25, 32)]) (by kernel_rfl) ?_
        simp only [givenD, List.getD_cons_zero, List.getD_cons_succ]
        rintro _ rfl
        simp only [Act.put, List.setIfInBounds_toArray, List.set_cons_zero, List.set_cons_succ]
        go_wp2_with fail
        exact ⟨rfl, rfl, hC, Below.refl _ _, rfl⟩
    · intro w4 hC
      simp only [givenAll, List.getD_cons_zero, List.getD_cons_succ]
      rintro _ rfl _ rfl _ rfl _ rfl _ rfl _ rfl _ ⟨bf, cf, rfl, hcf⟩ _ rfl _ rfl _ rfl _ rfl _ rfl _ rfl _ rfl _ rfl _ ⟨bf, rfl, hcf⟩ _ rfl _ rfl _ rfl _ rfl _ rfl _ rfl _ rfl _ rfl _ rfl _ rfl _ rfl
      simp only [Act.put, List.setIfInBounds_toArray, List.set_cons_zero, List.set_cons_succ]
      clear hcf
      go_wp2_with fail
      go_ret
      exact ⟨ret_bool HR.out, hC⟩
  · have HE := Lib.hid (show leavesV n L g r c = _ from if_neg h)
    have HH := Lib.hid h
    clear h
    go_enter Try.func37, Try.ntmps37
    go_wp2_with fail
    refine wp_region_later (by kernel_rfl) (by kernel_rfl) ?_
    repeat (go_big_quiet_step ((go_at_call 63; exact quietL (l1Cell_no _ _ _ _ _ _ _ _ (HG.out.below (Later.below _)) hn HL.out HH.out))))
    refine wpQuiet_nil ?_
    rintro _ ⟨⟨w3, hb3⟩, rfl⟩
    go_wp2_with fail
    go_ret
    exact ⟨ret_bool HE.out.symm, hb3⟩

end Go.Proofs.Ythndabbjkkjkhaa
