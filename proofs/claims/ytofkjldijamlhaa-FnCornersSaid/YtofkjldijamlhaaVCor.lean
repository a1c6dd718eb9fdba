/- The law FnCorners: its walk. -/
import Derived.Test.YtofkjldijamlhaaLawH
import Derived.Test.YtofkjldijamlhaaLevl
import Derived.Test.YtofkjldijamlhaaCor
import Derived.Test.YtofkjldijamlhaaSid
import Derived.Test.YtofkjldijamlhaaITurn
import Derived.Test.YtofkjldijamlhaaPlT
namespace Go.Proofs.Ytofkjldijamlhaa
set_option linter.unusedVariables false
set_option linter.unusedSimpArgs false
open Go.RowKit

def b01 (b : Bool) : Int := if b then 1 else 0
theorem cnt_sum (p : Nat → Bool) : ∀ k, (cnt p k : Int) = sumI (fun i => b01 (p i)) k
  | 0 => rfl
  | k + 1 => by
    unfold cnt sumI
    rw [← cnt_sum p k]
    unfold b01
    by_cases h : p k = true
    · simp [h]
    · simp [h]
theorem cnt2_sum (p : Nat → Nat → Bool) (W : Nat) : ∀ k, (cnt2 p W k : Int) = sumI (fun r => sumI (fun c => b01 (p r c)) W) k
  | 0 => rfl
  | k + 1 => by
    unfold cnt2 sumI
    rw [Int.natCast_add, cnt2_sum p W k, cnt_sum]
theorem cnt2_turn (p : Nat → Nat → Bool) (N M : Nat) : cnt2 (fun r c => p (N - 1 - c) r) N M = cnt2 p M N := by
  have h : (cnt2 (fun r c => p (N - 1 - c) r) N M : Int) = cnt2 p M N := by
    rw [cnt2_sum, cnt2_sum, sumI_exch]
    exact sumI_rev (fun r => sumI (fun c => b01 (p r c)) M) N
  exact Int.ofNat.inj h
theorem corners_turned {n C : Nat} {g : Nat → Nat → Int} {l : Int} : cnt2 (sq n (flat n (turnG n g)) l) (n - 1) (C - 1) = cnt2 (sq C (flat C g) l) (C - 1) (n - 1) := by
  rw [← cnt2_turn (sq C (flat C g) l) (n - 1) (C - 1)]
  refine cnt2_congr fun r c hr hc => ?_
  unfold sq
  rw [flat_at _ (by omega), flat_at _ (by omega), flat_at _ (by omega), flat_at _ (by omega), flat_at _ (by omega), flat_at _ (by omega), flat_at _ (by omega), flat_at _ (by omega)]
  unfold turnG
  rw [show n - 1 - 1 - c + 1 = n - 1 - c by omega, show n - 1 - (c + 1) = n - 1 - 1 - c by omega]
  exact decide_eq_decide.2 ⟨fun ⟨h1, h2, h3, h4⟩ => ⟨h2, h4, h1, h3⟩, fun ⟨h1, h2, h3, h4⟩ => ⟨h3, h1, h4, h2⟩⟩
theorem corners_up {n C : Nat} {h : Nat → Int} {l : Int} : cnt2 (sq C h (l + 1)) (C - 1) (n - 1) ≤ cnt2 (sq C h l) (C - 1) (n - 1) :=
  cnt2_mono fun r c _ _ hq => by
    unfold sq at hq ⊢
    rw [decide_eq_true_eq] at hq ⊢
    omega
theorem sumTo_add (F : Nat → Nat) (a : Nat) : ∀ b, sumTo F (a + b) = sumTo F a + sumTo (fun i => F (a + i)) b
  | 0 => rfl
  | b + 1 => by rw [show a + (b + 1) = (a + b) + 1 by omega, sumTo, sumTo_add F a b, sumTo]; omega
theorem sumTo_up {F : Nat → Nat} {a b : Nat} (h : a ≤ b) : sumTo F a ≤ sumTo F b := by
  obtain ⟨d, rfl⟩ := Nat.exists_eq_add_of_le h
  rw [sumTo_add]
  omega
theorem cnt_le_sum {p : Nat → Bool} {F : Nat → Nat} : ∀ {k : Nat}, (∀ i, i < k → p i = true → 1 ≤ F i) → cnt p k ≤ sumTo F k
  | 0, _ => Nat.le_refl _
  | k + 1, h => by
    have h1 := cnt_le_sum (p := p) (F := F) (k := k) fun i hi => h i (by omega)
    have h2 := h k (by omega)
    rw [cnt, sumTo]
    split
    · rename_i hp; have := h2 hp; omega
    · omega
theorem cnt2_le_sum {p : Nat → Nat → Bool} {F : Nat → Nat} {W C : Nat} (hW : W ≤ C) : ∀ {k : Nat}, (∀ r c, r < k → c < W → p r c = true → 1 ≤ F (r * C + c)) → cnt2 p W k ≤ sumTo F (k * C)
  | 0, _ => by rw [Nat.zero_mul]; exact Nat.le_refl _
  | k + 1, h => by
    have h1 := cnt2_le_sum (p := p) (F := F) hW (k := k) fun r c hr => h r c (by omega)
    have h2 : cnt (p k) W ≤ sumTo (fun i => F (k * C + i)) W := cnt_le_sum fun i hi => h k i (by omega) hi
    have h3 : sumTo (fun i => F (k * C + i)) W ≤ sumTo (fun i => F (k * C + i)) C := sumTo_up hW
    rw [cnt2, show (k + 1) * C = k * C + C by rw [Nat.add_mul, Nat.one_mul], sumTo_add]
    omega
theorem cntL_pos {p : Nat → Bool} {l : List Nat} {x : Nat} : ∀ {k : Nat}, (∃ i, i < k ∧ l.getD i 0 = x) → p x = true → 1 ≤ cntL p l k
  | 0, ⟨_, h, _⟩, _ => by omega
  | k + 1, ⟨i, hi, e⟩, hp => by
    unfold cntL
    by_cases hik : i = k
    · subst hik; rw [e, if_pos hp]; omega
    · have := cntL_pos (p := p) (l := l) (k := k) ⟨i, by omega, e⟩ hp
      omega
theorem corners_sides {n C : Nat} {h : Nat → Int} {l : Int} : cnt2 (sq C h l) (C - 1) (n - 1) ≤ sidesV n C h l := by
  unfold sidesV
  refine Nat.le_trans (cnt2_le_sum (F := sideN n C h l) (C := C) (by omega) fun r c hr hc hq => ?_) (sumTo_up (Nat.mul_le_mul_right _ (Nat.sub_le _ _)))
  unfold sq at hq
  rw [decide_eq_true_eq] at hq
  unfold sideN
  have hm : r * C + (c + 1) ∈ nearL n C (r * C + c) := (near_rc (by omega) (by omega) (by omega) (by omega)).2 (by unfold Adj; omega)
  obtain ⟨i, hi, e⟩ := List.getElem_of_mem hm
  refine cntL_pos (x := r * C + (c + 1)) ⟨i, hi, by rw [List.getD_eq_getElem?_getD, List.getElem?_eq_getElem hi]; exact e⟩ ?_
  unfold sideP
  rw [decide_eq_true_eq]
  exact ⟨by omega, hq.1, hq.2.1⟩
theorem cornersV_turned {n : Nat} {L : Nat → Nat} {g : Nat → Nat → Int} {l : Int} (h : Lvl n L g l) : cornersV (L 0) (fun _ => n) (turnG n g) l = cornersV n L g l := by
  have hv := h.1
  have h' : Lvl (L 0) (fun _ => n) (turnG n g) l := ⟨⟨hv.2.2.1, hv.2.2.2.1, hv.1, hv.2.1, fun r hr => ⟨rfl, fun c hc => by
    have hc' : c < n := hc
    exact hv.rng (by omega) hr⟩⟩, h.2⟩
  unfold cornersV
  rw [if_pos h, if_pos h', corners_turned]
theorem cornersV_pos {n : Nat} {L : Nat → Nat} {g : Nat → Nat → Int} {l : Int} (h : Lvl n L g l) : 0 ≤ cornersV n L g l := by unfold cornersV; rw [if_pos h]; omega
theorem cornersV_sides {n : Nat} {L : Nat → Nat} {g : Nat → Nat → Int} {l : Int} (h : Lvl n L g l) : cornersV n L g l ≤ levelSidesV n L g l := by
  unfold cornersV levelSidesV
  rw [if_pos h, if_pos h]
  exact Int.ofNat_le.2 corners_sides
theorem cornersV_up {n : Nat} {L : Nat → Nat} {g : Nat → Nat → Int} {l : Int} (h : Lvl n L g l) : cornersV n L g (l + 1) ≤ cornersV n L g l := by
  have h0 := cornersV_pos h
  unfold cornersV at h0 ⊢
  rw [if_pos h] at h0 ⊢
  split
  · exact Int.ofNat_le.2 corners_up
  · omega

set_option maxHeartbeats 1500000 in
set_option maxRecDepth 100000 in
theorem fnCorners_walk (A : Option Addr) (m cp : Nat) (z : Nat → Int) (w : World) (hz : RowB w A m z) (hm : m ≤ 9223372036854775807 ∧ m ≤ cp) :
    Calls Try.prog 10 #[.slice A m cp] w (RetV (.bool true) w) := by
  have HZ := Lib.hid hz
  obtain ⟨hm1, hm2⟩ := hm
  clear hz
  by_cases hbig : 1048576 < m
  · go_enter Try.func10, Try.ntmps10
    go_wp2_with fail
    go_ret
    exact ⟨rfl, Below.refl _ _⟩
  go_enter Try.func10, Try.ntmps10
  go_wp2_with fail
  refine (drawLevelCorners_any _ _ _ _ _ HZ.out hm1 hm2).mono ?_
  rintro e w1 ⟨A1, n, c1, L, g, x, rfl, hx1, hx2, hn1, hn2, hL, hgrid, hb1⟩
  have HG := Lib.hid hgrid
  have HL : Hid (∀ r, r < n → L r ≤ 1048576) := fun r hr => by have := hL r hr; omega
  have hB1 := hb1
  clear hgrid hL hb1
  by_cases hv : Lvl n L g x
  · have HVV := Lib.hid hv.1
    have hl1 := hv.2.1
    have hl2 := hv.2.2
    have hvn := hv.1.2.1
    have hvl := hv.1.2.2.2.1
    have HT := Lib.hid (cornersV_turned hv)
    have q1 := cornersV_pos hv
    have q2 := cornersV_sides hv
    have q3 := cornersV_up hv
    generalize hX : cornersV n L g x = X at *
    generalize hY : cornersV n L g (x + 1) = Y at *
    generalize hZ : levelSidesV n L g x = Z at *
    have HX := Lib.hid hX
    have HY := Lib.hid hY
    have HZZ := Lib.hid hZ
    clear hv hX hY hZ
    go_wp2_with fail
    refine (implLevelCorners_any _ _ _ _ _ _ _ HG.out (by omega) HL.out (by omega) (by omega)).mono ?_
    rintro e w2 ⟨rfl, hb2⟩
    rw [HX.out]
    have hB2 : Below w.heap.size w w2 := hB1.trans (hb2.mono hB1.size)
    have Kg2 := Lib.hid (HG.out.below hb2)
    clear HG
    go_wp2_with fail
    refine (specLevelCorners_any _ _ _ _ _ _ _ Kg2.out (by omega) HL.out (by omega) (by omega)).mono ?_
    rintro e w3 ⟨rfl, hb3⟩
    rw [HX.out]
    have hB3 : Below w.heap.size w w3 := hB2.trans (hb3.mono hB2.size)
    have Kg3 := Lib.hid (Kg2.out.below hb3)
    clear Kg2
    go_wp2_with fail
    refine (implGridTurn_yes _ _ _ _ _ _ Kg3.out HVV.out).mono ?_
    rintro e w4 ⟨A4, c4, rfl, _, hown4, hb4⟩
    have hB4 : Below w.heap.size w w4 := hB3.trans (hb4.mono hB3.size)
    have Kg4 := Lib.hid (Kg3.out.below hb4)
    clear Kg3
    have Kt4 := Lib.hid (hown4.grid)
    clear hown4
    go_wp2_with fail
    refine (implLevelCorners_any _ _ _ _ _ _ _ Kt4.out (by omega) (fun r _ => by show n ≤ _; omega) (by omega) (by omega)).mono ?_
    rintro e w5 ⟨rfl, hb5⟩
    rw [HT.out]
    have hB5 : Below w.heap.size w w5 := hB4.trans (hb5.mono hB4.size)
    have Kg5 := Lib.hid (Kg4.out.below hb5)
    have Kt5 := Lib.hid (Kt4.out.below hb5)
    clear Kg4 Kt4
    go_wp2_with fail
    refine (implLevelSides_any _ _ _ _ _ _ _ Kg5.out (by omega) HL.out (by omega) (by omega)).mono ?_
    rintro e w6 ⟨rfl, hb6⟩
    rw [HZZ.out]
    have hB6 : Below w.heap.size w w6 := hB5.trans (hb6.mono hB5.size)
    have Kg6 := Lib.hid (Kg5.out.below hb6)
    have Kt6 := Lib.hid (Kt5.out.below hb6)
    clear Kg5 Kt5
    go_wp2_with fail
    refine (implLevelCorners_any _ _ _ _ _ _ _ Kg6.out (by omega) HL.out (by omega) (by omega)).mono ?_
    rintro e w7 ⟨rfl, hb7⟩
    rw [HY.out]
    have hB7 : Below w.heap.size w w7 := hB6.trans (hb7.mono hB6.size)
    have Kg7 := Lib.hid (Kg6.out.below hb7)
    have Kt7 := Lib.hid (Kt6.out.below hb7)
    clear Kg6 Kt6
    go_wp2_with fail
    go_ret
    exact ⟨rfl, hB7⟩
  · have HA : Hid (cornersV n L g x = -1) := if_neg hv
    clear hv
    go_wp2_with fail
    refine (implLevelCorners_any _ _ _ _ _ _ _ HG.out (by omega) HL.out (by omega) (by omega)).mono ?_
    rintro e w2 ⟨rfl, hb2⟩
    rw [HA.out]
    have hB2 : Below w.heap.size w w2 := hB1.trans (hb2.mono hB1.size)
    have Kg2 := Lib.hid (HG.out.below hb2)
    clear HG
    go_wp2_with fail
    refine (specLevelCorners_any _ _ _ _ _ _ _ Kg2.out (by omega) HL.out (by omega) (by omega)).mono ?_
    rintro e w3 ⟨rfl, hb3⟩
    rw [HA.out]
    have hB3 : Below w.heap.size w w3 := hB2.trans (hb3.mono hB2.size)
    have Kg3 := Lib.hid (Kg2.out.below hb3)
    clear Kg2
    go_wp2_with fail
    go_ret
    exact ⟨rfl, hB3⟩

end Go.Proofs.Ytofkjldijamlhaa
