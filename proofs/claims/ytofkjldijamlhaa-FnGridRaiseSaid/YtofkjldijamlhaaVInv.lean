/- The law FnGridInvert: its walk; ranges of inverted and raised grids. -/
import Derived.Test.YtofkjldijamlhaaLawH
import Derived.Test.YtofkjldijamlhaaRng
import Derived.Test.YtofkjldijamlhaaSRai
namespace Go.Proofs.Ytofkjldijamlhaa
set_option linter.unusedVariables false
set_option linter.unusedSimpArgs false
open Go.RowKit

theorem minTo_inv (h : Nat → Int) : ∀ k, minTo (fun i => 99 - h i) k = 99 - maxTo h k
  | 0 => rfl
  | k + 1 => by unfold minTo maxTo; rw [minTo_inv h k]; omega
theorem maxTo_inv (h : Nat → Int) : ∀ k, maxTo (fun i => 99 - h i) k = 99 - minTo h k
  | 0 => rfl
  | k + 1 => by unfold minTo maxTo; rw [maxTo_inv h k]; omega
theorem minTo_raise (h : Nat → Int) (d : Int) : ∀ k, minTo (fun i => h i + d) k = minTo h k + d
  | 0 => rfl
  | k + 1 => by unfold minTo; rw [minTo_raise h d k]; omega
theorem maxTo_raise (h : Nat → Int) (d : Int) : ∀ k, maxTo (fun i => h i + d) k = maxTo h k + d
  | 0 => rfl
  | k + 1 => by unfold maxTo; rw [maxTo_raise h d k]; omega
theorem Valid.inverted {n : Nat} {L : Nat → Nat} {g : Nat → Nat → Int} (h : Valid n L g) : Valid n (fun _ => L 0) (invG g) :=
  ⟨h.1, h.2.1, h.2.2.1, h.2.2.2.1, fun r hr => ⟨rfl, fun c hc => h.inv.rng hr hc⟩⟩
theorem rng_bounds {n : Nat} {L : Nat → Nat} {g : Nat → Nat → Int} (h : Valid n L g) : 0 ≤ minTo (flat (L 0) g) (n * L 0) ∧ minTo (flat (L 0) g) (n * L 0) ≤ 99 ∧ 0 ≤ maxTo (flat (L 0) g) (n * L 0) ∧ maxTo (flat (L 0) g) (n * L 0) ≤ 99 := by
  have h0 : 0 < n * L 0 := Nat.mul_pos (by have := h.1; omega) (by have := h.2.2.1; omega)
  have fr : ∀ i, i < n * L 0 → 0 ≤ flat (L 0) g i ∧ flat (L 0) g i ≤ 99 := fun i hi => by
    have hd : i / L 0 < n := Nat.div_lt_of_lt_mul (by rw [Nat.mul_comm]; exact hi)
    exact h.rng hd (Nat.mod_lt _ (by have := h.2.2.1; omega))
  obtain ⟨i, hi, e⟩ := minTo_at (h := flat (L 0) g) (n * L 0)
  obtain ⟨j, hj, e'⟩ := maxTo_at (h := flat (L 0) g) (n * L 0)
  rw [e, e']
  have a := fr i (by omega)
  have b := fr j (by omega)
  omega
theorem rngV_inv {n : Nat} {L : Nat → Nat} {g : Nat → Nat → Int} (h : Valid n L g) : rngV n (fun _ => L 0) (invG g) = .tuple #[.int .i64 (99 - maxTo (flat (L 0) g) (n * L 0)), .int .i64 (99 - minTo (flat (L 0) g) (n * L 0)), .bool true] := by
  rw [rngV_yes h.inverted, ← minTo_inv, ← maxTo_inv]
  rfl
theorem rngV_raise {n : Nat} {L : Nat → Nat} {g : Nat → Nat → Int} {k : Int} (h : Valid n (fun _ => L 0) (raiseG k g)) : rngV n (fun _ => L 0) (raiseG k g) = .tuple #[.int .i64 (minTo (flat (L 0) g) (n * L 0) + k), .int .i64 (maxTo (flat (L 0) g) (n * L 0) + k), .bool true] := by
  rw [rngV_yes h, ← minTo_raise, ← maxTo_raise]
  rfl

set_option maxHeartbeats 4000000 in
set_option maxRecDepth 100000 in
theorem fnGridInvert_walk (A : Option Addr) (m cp : Nat) (z : Nat → Int) (w : World) (hz : RowB w A m z) (hm : m ≤ 9223372036854775807 ∧ m ≤ cp) :
    Calls Try.prog 3 #[.slice A m cp] w (RetV (.bool true) w) := by
  have HZ := Lib.hid hz
  obtain ⟨hm1, hm2⟩ := hm
  clear hz
  by_cases hbig : 1048576 < m
  · go_enter Try.func3, Try.ntmps3
    go_wp2_with fail
    go_ret
    exact ⟨rfl, Below.refl _ _⟩
  go_enter Try.func3, Try.ntmps3
  go_wp2_with fail
  refine (drawGridInvert_any _ _ _ _ _ HZ.out hm1 hm2).mono ?_
  rintro e w1 ⟨A1, n, c1, L, g, rfl, hn1, hn2, hL, hgrid, hb1⟩
  have HG := Lib.hid hgrid
  have HL : Hid (∀ r, r < n → L r ≤ 1048576) := fun r hr => by have := hL r hr; omega
  have hB1 := hb1
  clear hgrid hL hb1
  by_cases hv : Valid n L g
  · have HV := Lib.hid hv
    have HVI := Lib.hid hv.inverted
    have hvn := hv.2.1
    have hvl := hv.2.2.2.1
    have HR := Lib.hid (rngV_yes hv)
    have HRI := Lib.hid (rngV_inv hv)
    obtain ⟨q1, q2, q3, q4⟩ := rng_bounds hv
    generalize minTo (flat (L 0) g) (n * L 0) = mn at *
    generalize maxTo (flat (L 0) g) (n * L 0) = mx at *
    clear hv
    go_wp2_with fail
    refine (implGridInvert_yes _ _ _ _ _ _ HG.out HV.out).mono ?_
    rintro e w2 ⟨A2, c2, rfl, _, hown2, hb2⟩
    have hB2 : Below w.heap.size w w2 := hB1.trans (hb2.mono hB1.size)
    have Kg2 := Lib.hid (HG.out.below hb2)
    clear HG
    have Ko2 := Lib.hid (hown2.grid)
    clear hown2
    go_wp2_with fail
    refine (specGridInvert_yes _ _ _ _ _ _ Kg2.out HV.out).mono ?_
    rintro e w3 ⟨A3, c3, rfl, _, hg3, hb3⟩
    have HW := Lib.hid hg3
    clear hg3
    have hB3 : Below w.heap.size w w3 := hB2.trans (hb3.mono hB2.size)
    have Kg3 := Lib.hid (Kg2.out.below hb3)
    have Ko3 := Lib.hid (Ko2.out.below hb3)
    clear Kg2 Ko2
    go_wp2_with fail
    refine (sameGrid_yes _ _ _ _ _ _ _ _ Ko3.out HW.out (by omega) (fun r _ => by show L 0 ≤ _; omega)).mono ?_
    rintro e w4 ⟨rfl, hb4⟩
    have hB4 : Below w.heap.size w w4 := hB3.trans (hb4.mono hB3.size)
    have Kg4 := Lib.hid (Kg3.out.below hb4)
    have Ko4 := Lib.hid (Ko3.out.below hb4)
    have Kw4 := Lib.hid (HW.out.below hb4)
    clear Kg3 Ko3 HW
    go_wp2_with fail
    refine (implGridInvert_yes _ _ _ _ _ _ Ko4.out HVI.out).mono ?_
    rintro e w5 ⟨A5, c5, rfl, _, hown5, hb5⟩
    have hB5 : Below w.heap.size w w5 := hB4.trans (hb5.mono hB4.size)
    have Kg5 := Lib.hid (Kg4.out.below hb5)
    have Ko5 := Lib.hid (Ko4.out.below hb5)
    clear Kg4 Ko4
    have Kx5 := Lib.hid (hown5.grid.congrL (L' := L) (g' := g) (fun r hr => (HV.out.len r hr).symm) (fun r c _ _ => by unfold invG; omega))
    clear hown5
    go_wp2_with fail
    refine (implGridRange_any _ _ _ _ _ _ Kg5.out (by omega) HL.out).mono ?_
    rintro e w6 ⟨rfl, hb6⟩
    rw [HR.out]
    have hB6 : Below w.heap.size w w6 := hB5.trans (hb6.mono hB5.size)
    have Kg6 := Lib.hid (Kg5.out.below hb6)
    have Ko6 := Lib.hid (Ko5.out.below hb6)
    have Kx6 := Lib.hid (Kx5.out.below hb6)
    clear Kg5 Ko5 Kx5
    go_wp2_with fail
    refine (implGridRange_any _ _ _ _ _ _ Ko6.out (by omega) (fun r _ => by show L 0 ≤ _; omega)).mono ?_
    rintro e w7 ⟨rfl, hb7⟩
    rw [HRI.out]
    have hB7 : Below w.heap.size w w7 := hB6.trans (hb7.mono hB6.size)
    have Kg7 := Lib.hid (Kg6.out.below hb7)
    have Ko7 := Lib.hid (Ko6.out.below hb7)
    have Kx7 := Lib.hid (Kx6.out.below hb7)
    clear Kg6 Ko6 Kx6
    go_wp2_with fail
    refine (sameGrid_yes _ _ _ _ _ _ _ _ Kx7.out Kg7.out (by omega) (fun r hr => by have := HL.out r hr; omega)).mono ?_
    rintro e w8 ⟨rfl, hb8⟩
    have hB8 : Below w.heap.size w w8 := hB7.trans (hb8.mono hB7.size)
    have Kg8 := Lib.hid (Kg7.out.below hb8)
    have Ko8 := Lib.hid (Ko7.out.below hb8)
    have Kx8 := Lib.hid (Kx7.out.below hb8)
    clear Kg7 Ko7 Kx7
    go_wp2_with fail
    go_ret
    exact ⟨rfl, hB8⟩
  · have HV := Lib.hid hv
    clear hv
    go_wp2_with fail
    refine (implGridInvert_no _ _ _ _ _ _ HG.out (by omega) HL.out HV.out).mono ?_
    rintro e w2 ⟨A2, c2, rfl, _, hown2, hb2⟩
    have hB2 : Below w.heap.size w w2 := hB1.trans (hb2.mono hB1.size)
    have Kg2 := Lib.hid (HG.out.below hb2)
    clear HG
    have Ko2 := Lib.hid (hown2.grid)
    clear hown2
    go_wp2_with fail
    refine (specGridInvert_no _ _ _ _ _ _ Kg2.out (by omega) HL.out HV.out).mono ?_
    rintro e w3 ⟨A3, c3, rfl, _, hg3, hb3⟩
    have HW := Lib.hid hg3
    clear hg3
    have hB3 : Below w.heap.size w w3 := hB2.trans (hb3.mono hB2.size)
    have Kg3 := Lib.hid (Kg2.out.below hb3)
    have Ko3 := Lib.hid (Ko2.out.below hb3)
    clear Kg2 Ko2
    go_wp2_with fail
    refine (sameGrid_yes _ _ _ _ _ _ _ _ Ko3.out HW.out (by omega) (fun r hr => by omega)).mono ?_
    rintro e w4 ⟨rfl, hb4⟩
    have hB4 : Below w.heap.size w w4 := hB3.trans (hb4.mono hB3.size)
    have Kg4 := Lib.hid (Kg3.out.below hb4)
    have Ko4 := Lib.hid (Ko3.out.below hb4)
    have Kw4 := Lib.hid (HW.out.below hb4)
    clear Kg3 Ko3 HW
    go_wp2_with fail
    refine (sameGrid_yes _ _ _ _ _ _ _ _ Ko4.out Kw4.out (by omega) (fun r hr => by omega)).mono ?_
    rintro e w5 ⟨rfl, hb5⟩
    have hB5 : Below w.heap.size w w5 := hB4.trans (hb5.mono hB4.size)
    have Kg5 := Lib.hid (Kg4.out.below hb5)
    have Ko5 := Lib.hid (Ko4.out.below hb5)
    have Kw5 := Lib.hid (Kw4.out.below hb5)
    clear Kg4 Ko4 Kw4
    go_wp2_with fail
    go_ret
    exact ⟨rfl, hB5⟩

end Go.Proofs.Ytofkjldijamlhaa
