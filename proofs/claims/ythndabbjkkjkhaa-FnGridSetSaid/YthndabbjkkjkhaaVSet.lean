/- The law FnGridSet: its walk. -/
import Derived.Test.YthndabbjkkjkhaaLawH
import Derived.Test.YthndabbjkkjkhaaCell
import Derived.Test.YthndabbjkkjkhaaGSet
import Derived.Test.YthndabbjkkjkhaaVAt
import Derived.Test.YthndabbjkkjkhaaGAt
namespace Go.Proofs.Ythndabbjkkjkhaa
set_option linter.unusedVariables false
set_option linter.unusedSimpArgs false
open Go.RowKit

theorem results_tmp4 {fn : Func} {t u v s : Tmp} (h : fn.results = #[.tmp t, .tmp u, .tmp v, .tmp s]) (tmps : Array Value) (P : Program) (w : World) :
    (results fn tmps).run P w = .ok (.tuple #[tmps.getD t undef, tmps.getD u undef, tmps.getD v undef, tmps.getD s undef]) w := by
  simp [results, h]

def RetD4 (w : World) (e : Ending) (w' : World) : Prop :=
  ∃ A n c L g a b x, e = .returned (.tuple #[.slice A n c, .int .i64 a, .int .i64 b, .int .i64 x]) ∧ -1 ≤ a ∧ a ≤ 10 ∧ -1 ≤ b ∧ b ≤ 10 ∧ -1 ≤ x ∧ x ≤ 100 ∧ 1 ≤ n ∧ n ≤ 9 ∧ (∀ r, r < n → 1 ≤ L r ∧ L r ≤ 10 ∧ L 0 ≤ L r) ∧ GridF w' A n L g ∧ Below w.heap.size w w'
set_option maxHeartbeats 1500000 in
set_option maxRecDepth 100000 in
theorem drawGridSet_any (A : Option Addr) (m c : Nat) (z : Nat → Int) (w : World) (h : RowB w A m z) (hm : m ≤ 9223372036854775807) (hmc : m ≤ c) :
    Calls Try.prog 14 #[.slice A m c] w (RetD4 w) := by
  have HR := Lib.hid h
  clear h
  go_enter Try.func14, Try.ntmps14
  go_wp2_with fail
  refine (l6Open_any _ _ _ _ _ HR.out hm hmc).mono ?_
  rintro e w1 ⟨m', c', rfl, hrd, hs1, hb1⟩
  have HRd := Lib.hid hrd
  clear hrd
  go_wp2_with fail
  refine (l91Cell_any _ _ _ _ _ _ _ HRd.out (by omega)).mono ?_
  rintro e w2 ⟨v, n, L, g, a, b, p', rfl, hx1, hx2, hx3, hx4, hn1, hn2, hgo, hL, hrd, hp', hb2⟩
  have HRd2 := Lib.hid hrd
  have HGo := Lib.hid hgo
  obtain ⟨Av, cv, rfl, _, _⟩ := hgo.grid
  have HLL := Lib.hid hL
  clear hgo hL hrd
  go_wp2_with fail
  refine (pick_any _ _ _ _ _ _ _ _ HRd2.out (by omega) (by omega) (by omega)).mono ?_
  rintro e w3 ⟨x, rfl, hx0, hx9, hrd, hb3⟩
  have HF : Hid (RetD4 w (.returned (.tuple #[.slice Av n cv, .int .i64 a, .int .i64 b, .int .i64 (x - 1)])) w3) := by
    obtain ⟨A', c2, e', _, h5⟩ := (HGo.out.of_but hb3 (by omega)).grid
    injection e' with e1 _ e2
    subst e1
    exact ⟨_, n, cv, L, g, a, b, x - 1, rfl, hx1, hx2, hx3, hx4, by omega, by omega, hn1, hn2, HLL.out, h5, hb1.trans ((hb2.trans hb3).below hb1.size (Nat.le_refl _))⟩
  clear hrd
  go_wp2_with fail
  (try simp only [Exit.inBlock, Exit.then])
  refine bodyPost_ret (results_tmp4 rfl _ _ _) rfl ?_
  exact HF.out

theorem Valid.gset {n : Nat} {L : Nat → Nat} {g : Nat → Nat → Int} (h : Valid n L g) (R Q : Nat) {x : Int} (h1 : 0 ≤ x) (h2 : x ≤ 99) : Valid n L (gset g R Q x) :=
  ⟨h.1, h.2.1, h.2.2.1, h.2.2.2.1, fun r hr => ⟨h.len r hr, fun c hc => by
    unfold Go.Proofs.Ythndabbjkkjkhaa.gset
    split
    · exact ⟨h1, h2⟩
    · exact h.rng hr hc⟩⟩
theorem gset_back (g : Nat → Nat → Int) (R Q : Nat) (x : Int) : ∀ r c, gset (gset g R Q x) R Q (g R Q) r c = g r c := fun r c => by
  unfold gset
  split
  · rename_i h; rw [h.1, h.2]
  · rfl
theorem flat_gset {C R Q k : Nat} (g : Nat → Nat → Int) (x : Int) (hQ : Q < C) (hC : 0 < C) : flat C (gset g R Q x) k = if k = R * C + Q then x else flat C g k := by
  by_cases h : k = R * C + Q
  · rw [if_pos h, h, flat_at _ hQ]
    unfold gset
    rw [if_pos ⟨rfl, rfl⟩]
  · rw [if_neg h]
    unfold flat gset
    rw [if_neg]
    rintro ⟨h1, h2⟩
    apply h
    rw [← h1, ← h2, Nat.mul_comm]
    exact (Nat.div_add_mod k C).symm

set_option maxHeartbeats 1500000 in
set_option maxRecDepth 100000 in
theorem fnGridSet_walk (A : Option Addr) (m cp : Nat) (z : Nat → Int) (w : World) (hz : RowB w A m z) (hm : m ≤ 9223372036854775807 ∧ m ≤ cp) :
    Calls Try.prog 3 #[.slice A m cp] w (RetV (.bool true) w) := by
  have HZ := Lib.hid hz
  obtain ⟨hm1, hm2⟩ := hm
  clear hz
  by_cases hbig : 1048576 < m
  · go_enter Try.func3, Try.ntmps3
    go_wp2_with fail
    go_ret
    exact ⟨rfl, Below.refl _ _⟩
  go_enter Try.func3, Try.ntmps3
  go_wp2_with fail
  refine (drawGridSet_any _ _ _ _ _ HZ.out hm1 hm2).mono ?_
  rintro e w1 ⟨A1, n, c1, L, g, a, b, x, rfl, ha1, ha2, ha3, ha4, hx1, hx2, hn1, hn2, hL, hgrid, hb1⟩
  have HG := Lib.hid hgrid
  have HL : Hid (∀ r, r < n → L r ≤ 1048576) := fun r hr => by have := hL r hr; omega
  have hB1 := hb1
  clear hgrid hL hb1
  by_cases hv : HasCell n L g a b ∧ 0 ≤ x ∧ x ≤ 99
  · obtain ⟨R, rfl⟩ := Int.eq_ofNat_of_zero_le hv.1.2.1
    obtain ⟨Q, rfl⟩ := Int.eq_ofNat_of_zero_le hv.1.2.2.2.1
    have hR : R < n := by have := hv.1.2.2.1; omega
    have hQ : Q < L 0 := by have := hv.1.2.2.2.2; omega
    have HV := Lib.hid hv
    have HVV := Lib.hid hv.1.1
    have HVS := Lib.hid (hv.1.1.gset R Q hv.2.1 hv.2.2)
    have hvn := hv.1.1.2.1
    have hvl := hv.1.1.2.2.2.1
    have hX := hv.1.1.rng hR hQ
    have hx3 := hv.2.1
    have hx4 := hv.2.2
    have HHC : Hid (HasCell n L (gset g R Q x) R Q) := ⟨hv.1.1.gset R Q hv.2.1 hv.2.2, hv.1.2⟩
    have HA : Hid (gridAtV n L (gset g R Q x) R Q = x) := (gridAtV_yes HHC.out).trans (by unfold gset; exact if_pos ⟨by omega, by omega⟩)
    obtain ⟨X, hXe⟩ : ∃ X, X = g R Q := ⟨_, rfl⟩
    have HXe := Lib.hid hXe
    have HGB := Lib.hid (gset_back g R Q x)
    rw [← hXe] at hX HGB
    clear hv hXe
    go_wp2_with fail
    refine (implGridSet_yes _ _ _ _ _ _ _ _ _ HG.out HV.out).mono ?_
    rintro e w2 ⟨A2, c2, rfl, _, hown2, hb2⟩
    have hB2 : Below w.heap.size w w2 := hB1.trans (hb2.mono hB1.size)
    have Kg2 := Lib.hid (HG.out.below hb2)
    clear HG
    have Ko2 := Lib.hid (hown2.grid.congrL (L' := L) (g' := gset g R Q x) (fun _ _ => rfl) (fun _ _ _ _ => rfl))
    clear hown2
    go_wp2_with fail
    refine (specGridSet_yes _ _ _ _ _ _ _ _ _ Kg2.out HV.out).mono ?_
    rintro e w3 ⟨A3, c3, rfl, _, hg3, hb3⟩
    have HW := Lib.hid hg3
    clear hg3
    have hB3 : Below w.heap.size w w3 := hB2.trans (hb3.mono hB2.size)
    have Kg3 := Lib.hid (Kg2.out.below hb3)
    have Ko3 := Lib.hid (Ko2.out.below hb3)
    clear Kg2 Ko2
    go_wp2_with fail
    refine (sameGrid_yes _ _ _ _ _ _ _ _ Ko3.out HW.out (by omega) (fun r hr => by have := HL.out r hr; omega)).mono ?_
    rintro e w4 ⟨rfl, hb4⟩
    have hB4 : Below w.heap.size w w4 := hB3.trans (hb4.mono hB3.size)
    have Kg4 := Lib.hid (Kg3.out.below hb4)
    have Ko4 := Lib.hid (Ko3.out.below hb4)
    have Kw4 := Lib.hid (HW.out.below hb4)
    clear Kg3 Ko3 HW
    obtain ⟨BB, oo, A', c', rfl, hcR, _, hrow⟩ := Kg4.out R hR
    obtain ⟨B2, o2, rfl, hcQ⟩ := hrow Q (by rw [HVV.out.len R hR]; exact hQ)
    rw [HVV.out.len R hR] at hcR
    rw [← HXe.out] at hcQ
    clear hrow
    go_wp2_with fail
    refine (implGridSet_yes _ _ _ _ _ _ _ _ _ Ko4.out ⟨HHC.out, by omega, by omega⟩).mono ?_
    rintro e w5 ⟨A5, c5, rfl, _, hown5, hb5⟩
    have hB5 : Below w.heap.size w w5 := hB4.trans (hb5.mono hB4.size)
    have Kg5 := Lib.hid (Kg4.out.below hb5)
    have Ko5 := Lib.hid (Ko4.out.below hb5)
    clear Kg4 Ko4
    have Kx5 := Lib.hid (hown5.grid.congrL (L' := L) (g' := g) (fun r _ => rfl) (fun r c _ _ => HGB.out r c))
    clear hown5
    clear hcR hcQ
    obtain ⟨N, hN⟩ : ∃ N, N = n * L 0 := ⟨_, rfl⟩
    have HN := Lib.hid hN
    have hN1 : N ≤ 49 := by rw [hN]; exact Nat.le_trans (Nat.mul_le_mul hvn hvl) (by decide)
    have hRQ : R * L 0 + Q < N := by rw [hN]; calc R * L 0 + Q < R * L 0 + L 0 := by omega
        _ = (R + 1) * L 0 := by rw [Nat.add_mul, Nat.one_mul]
        _ ≤ n * L 0 := Nat.mul_le_mul_right _ hR
    have e0 : (R : Int) * (L 0 : Int) = ((R * L 0 : Nat) : Int) := by rw [Int.natCast_mul]
    have m0 : (0 : Int) ≤ (R : Int) * (L 0 : Int) := by rw [e0]; omega
    have m1 : (R : Int) * (L 0 : Int) ≤ 49 := by rw [e0]; omega
    clear hN
    go_wp2_with fail
    go_loopw [13] (fun i wr => ∃ k : Nat, k ≤ N ∧ i = .int .i64 k ∧ Below w5.heap.size w5 wr) (fun i _ => N - (intOf i).toNat)
    case atStart => exact ⟨0, Nat.zero_le _, rfl, Below.refl _ _⟩
    case round =>
      obtain ⟨k, hk, rfl, hbel⟩ := hrel
      have HGg := Lib.hid (Kg5.out.below hbel)
      have HGo := Lib.hid (Ko5.out.below hbel)
      by_cases hlt : k < N
      · have hkn : k < n * L 0 := by rw [← HN.out]; exact hlt
        obtain ⟨B9, o9, A9, c9, h9, hc9, _, _⟩ := HGg.out 0 (by omega)
        injection h9 with h9
        injection h9 with h9a h9b
        subst h9a h9b
        rw [Nat.add_zero] at hc9
        obtain ⟨B8, o8, A8, c8, h8, hc8, _, hrow8⟩ := HGg.out R hR
        injection h8 with h8
        injection h8 with h8a h8b
        subst h8a h8b
        obtain ⟨B7, o7, rfl, hc7⟩ := hrow8 Q (by rw [HVV.out.len R hR]; exact hQ)
        rw [HVV.out.len R hR] at hc8
        rw [← HXe.out] at hc7
        clear hrow8
        go_wp2_with fail
        refine (cellsOf_any _ _ _ _ _ _ HGg.out (by omega) (by omega) (by omega)).mono ?_
        rintro e w' ⟨rfl, rfl⟩
        rw [← HN.out]
        have x9 := Later.cell hc9
        have x8 := Later.cell hc8
        have x7 := Later.cell hc7
        have v1 : IntKind.i64.wrap ((R : Int) * (L 0 : Int)) = (R : Int) * (L 0 : Int) := IntWalk.i64_in _ (by omega)
        have v2 : IntKind.i64.wrap ((R : Int) * (L 0 : Int) + (Q : Int)) = (R : Int) * (L 0 : Int) + (Q : Int) := IntWalk.i64_in _ (by omega)
        by_cases hkk : k = R * L 0 + Q
        · have d1 : ((k : Int) == (R : Int) * (L 0 : Int) + (Q : Int)) = true := by rw [e0]; exact beq_iff_eq.2 (by omega)
          have HF1 : Hid (flat (L 0) (gset g R Q x) k = x) := (flat_gset g x hQ (by omega)).trans (if_pos hkk)
          have HF2 : Hid (flat (L 0) g k = X) := by show _ = _; rw [hkk, flat_at _ hQ, HXe.out]
          clear e0 hkk
          go_wp2_with fail
          refine wp_region_later (by kernel_rfl) (by kernel_rfl) ?_
          repeat (go_big_quiet_step ((go_at_call 19; first | exact quietL (heightOf_any _ _ _ _ _ _ _ (HGo.out.below (Later.below _)) HVS.out hkn) | exact quietL (heightOf_any _ _ _ _ _ _ _ (HGg.out.below (Later.below _)) HVV.out hkn))))
          refine wpQuiet_nil ?_
          rintro _ ⟨⟨w6, hb6⟩, rfl⟩
          have hbel6 := hbel.trans (hb6.mono hbel.size)
          rw [HF1.out, HF2.out]
          go_wp2_with fail
          all_goals first
            | (exfalso; rename_i h9; simp at h9; done)
            | skip
          go_roundw
          case rel => exact ⟨k + 1, by omega, by go_num, hbel6⟩
          case measure => simp [intOf]; omega
        · have d1 : ((k : Int) == (R : Int) * (L 0 : Int) + (Q : Int)) = false := by rw [e0]; exact beq_eq_false_iff_ne.2 (by omega)
          obtain ⟨H, hH⟩ : ∃ H, H = flat (L 0) g k := ⟨_, rfl⟩
          have HF1 : Hid (flat (L 0) (gset g R Q x) k = H) := (flat_gset g x hQ (by omega)).trans ((if_neg hkk).trans hH.symm)
          have HF2 : Hid (flat (L 0) g k = H) := hH.symm
          clear hH
          clear e0 hkk
          go_wp2_with fail
          refine wp_region_later (by kernel_rfl) (by kernel_rfl) ?_
          repeat (go_big_quiet_step ((go_at_call 19; first | exact quietL (heightOf_any _ _ _ _ _ _ _ (HGo.out.below (Later.below _)) HVS.out hkn) | exact quietL (heightOf_any _ _ _ _ _ _ _ (HGg.out.below (Later.below _)) HVV.out hkn))))
          refine wpQuiet_nil ?_
          rintro _ ⟨⟨w6, hb6⟩, rfl⟩
          have hbel6 := hbel.trans (hb6.mono hbel.size)
          rw [HF1.out, HF2.out]
          go_wp2_with fail
          go_roundw
          case rel => exact ⟨k + 1, by omega, by go_num, hbel6⟩
          case measure => simp [intOf]; omega
      · have hkN : k = N := by omega
        have hB9 : Below w.heap.size w wr := hB5.trans (hbel.mono hB5.size)
        have HGx := Lib.hid (Kx5.out.below hbel)
        go_wp2_with fail
        refine (cellsOf_any _ _ _ _ _ _ HGg.out (by omega) (by omega) (by omega)).mono ?_
        rintro e w' ⟨rfl, rfl⟩
        rw [← HN.out]
        go_wp2_with fail
        refine (sameGrid_yes _ _ _ _ _ _ _ _ HGx.out HGg.out (by omega) (fun r hr => by have := HL.out r hr; omega)).mono ?_
        rintro e w6 ⟨rfl, hb6⟩
        have HGo6 := Lib.hid (HGo.out.below hb6)
        have hB6 : Below w.heap.size w w6 := hB9.trans (hb6.mono hB9.size)
        go_wp2_with fail
        refine (implAt_any _ _ _ _ _ _ _ _ HGo6.out (by omega) HL.out (by omega) (by omega) (by omega) (by omega)).mono ?_
        rintro e w7 ⟨rfl, hb7⟩
        rw [HA.out]
        go_wp2_with fail
        go_ret
        exact ⟨rfl, hB6.trans (hb7.mono hB6.size)⟩
  · have HV := Lib.hid hv
    clear hv
    go_wp2_with fail
    refine (implGridSet_no _ _ _ _ _ _ _ _ _ HG.out (by omega) HL.out HV.out).mono ?_
    rintro e w2 ⟨A2, c2, rfl, _, hown2, hb2⟩
    have hB2 : Below w.heap.size w w2 := hB1.trans (hb2.mono hB1.size)
    have Kg2 := Lib.hid (HG.out.below hb2)
    clear HG
    have Ko2 := Lib.hid (hown2.grid)
    clear hown2
    go_wp2_with fail
    refine (specGridSet_no _ _ _ _ _ _ _ _ _ Kg2.out (by omega) HL.out HV.out).mono ?_
    rintro e w3 ⟨A3, c3, rfl, _, hg3, hb3⟩
    have HW := Lib.hid hg3
    clear hg3
    have hB3 : Below w.heap.size w w3 := hB2.trans (hb3.mono hB2.size)
    have Kg3 := Lib.hid (Kg2.out.below hb3)
    have Ko3 := Lib.hid (Ko2.out.below hb3)
    clear Kg2 Ko2
    go_wp2_with fail
    refine (sameGrid_yes _ _ _ _ _ _ _ _ Ko3.out HW.out (by omega) (fun r hr => by omega)).mono ?_
    rintro e w4 ⟨rfl, hb4⟩
    have hB4 : Below w.heap.size w w4 := hB3.trans (hb4.mono hB3.size)
    have Kg4 := Lib.hid (Kg3.out.below hb4)
    have Ko4 := Lib.hid (Ko3.out.below hb4)
    have Kw4 := Lib.hid (HW.out.below hb4)
    clear Kg3 Ko3 HW
    go_wp2_with fail
    refine (sameGrid_yes _ _ _ _ _ _ _ _ Ko4.out Kw4.out (by omega) (fun r hr => by omega)).mono ?_
    rintro e w5 ⟨rfl, hb5⟩
    have hB5 : Below w.heap.size w w5 := hB4.trans (hb5.mono hB4.size)
    have Kg5 := Lib.hid (Kg4.out.below hb5)
    have Ko5 := Lib.hid (Ko4.out.below hb5)
    have Kw5 := Lib.hid (Kw4.out.below hb5)
    clear Kg4 Ko4 Kw4
    go_wp2_with fail
    go_ret
    exact ⟨rfl, hB5⟩

end Go.Proofs.Ythndabbjkkjkhaa
