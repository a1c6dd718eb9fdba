/- The laws FnGridTurn and FnGridMirror: their walks. -/
import Derived.Test.YtjgmhgjgcegohaaLawH
import Derived.Test.YtjgmhgjgcegohaaITurn
namespace Go.Proofs.Ytjgmhgjgcegohaa
set_option linter.unusedVariables false
set_option linter.unusedSimpArgs false
open Go.RowKit

theorem Valid.turn {n : Nat} {L : Nat → Nat} {g : Nat → Nat → Int} (h : Valid n L g) : Valid (L 0) (fun _ => n) (turnG n g) :=
  ⟨h.2.2.1, h.2.2.2.1, h.1, h.2.1, fun r hr => ⟨rfl, fun c hc => (h.2.2.2.2 (n - 1 - c) (by have := h.1; omega)).2 r hr⟩⟩
theorem Valid.mirror {n : Nat} {L : Nat → Nat} {g : Nat → Nat → Int} (h : Valid n L g) : Valid n (fun _ => L 0) (mirrorG (L 0) g) :=
  ⟨h.1, h.2.1, h.2.2.1, h.2.2.2.1, fun r hr => ⟨rfl, fun c hc => (h.2.2.2.2 r hr).2 _ (by have := h.2.2.1; omega)⟩⟩

/-- So many turns of a grid: its rows, its columns, its heights. -/
def tN (n C : Nat) : Nat → Nat × Nat
  | 0 => (n, C)
  | k + 1 => ((tN n C k).2, (tN n C k).1)
def tG (n C : Nat) (g : Nat → Nat → Int) : Nat → Nat → Nat → Int
  | 0 => g
  | k + 1 => turnG (tN n C k).1 (tG n C g k)

theorem tValid {n C : Nat} {g : Nat → Nat → Int} (h : Valid n (fun _ => C) g) : ∀ k, Valid (tN n C k).1 (fun _ => (tN n C k).2) (tG n C g k)
  | 0 => h
  | k + 1 => (tValid h k).turn

theorem turn4 {n C : Nat} {g : Nat → Nat → Int} {r c : Nat} (hr : r < n) (hc : c < C) : tG C n (turnG n g) 3 r c = g r c := by
  simp only [tG, tN, turnG]
  congr 1 <;> omega
theorem turnMirror {n C : Nat} {g : Nat → Nat → Int} {r c : Nat} (_hr : r < n) (hc : c < C) : turnG C (turnG n (mirrorG C g)) r c = mirrorG C (turnG C (turnG n g)) r c := by
  simp only [turnG, mirrorG]
theorem mirror2 {C : Nat} {g : Nat → Nat → Int} {r c : Nat} (hc : c < C) : mirrorG C (mirrorG C g) r c = g r c := by
  simp only [mirrorG]
  congr 1; omega
theorem mirrorTurn {n C : Nat} {g : Nat → Nat → Int} {r c : Nat} (hr : r < C) (hc : c < n) : mirrorG n (turnG n g) r c = tG n C (mirrorG C g) 3 r c := by
  simp only [tG, tN, turnG, mirrorG]
  congr 1 <;> omega

set_option maxHeartbeats 4000000 in
set_option maxRecDepth 100000 in
theorem fnGridTurn_walk (A : Option Addr) (m cp : Nat) (z : Nat → Int) (w : World) (hz : RowB w A m z) (hm : m ≤ 9223372036854775807 ∧ m ≤ cp) :
    Calls Try.prog 12 #[.slice A m cp] w (RetV (.bool true) w) := by
  have HZ := Lib.hid hz
  obtain ⟨hm1, hm2⟩ := hm
  clear hz
  by_cases hbig : 1048576 < m
  · go_enter Try.func12, Try.ntmps12
    go_wp2_with fail
    go_ret
    exact ⟨rfl, Below.refl _ _⟩
  go_enter Try.func12, Try.ntmps12
  go_wp2_with fail
  refine (drawGridTurn_any _ _ _ _ _ HZ.out hm1 hm2).mono ?_
  rintro e w1 ⟨A1, n, c1, L, g, rfl, hn1, hn2, hL, hgrid, hb1⟩
  have HG := Lib.hid hgrid
  have HL : Hid (∀ r, r < n → L r ≤ 1048576) := fun r hr => by have := hL r hr; omega
  clear hgrid hL
  by_cases hv : Valid n L g
  · have HV := Lib.hid hv
    have hvn := hv.2.1
    have hvl := hv.2.2.2.1
    have hvl1 := hv.2.2.1
    obtain ⟨C, hC⟩ : ∃ C, C = L 0 := ⟨_, rfl⟩
    have HC := Lib.hid hC
    have HT := Lib.hid hv.turn
    have HM := Lib.hid hv.mirror
    rw [← hC] at HT HM hvl hvl1
    clear hv hC
    go_wp2_with fail
    refine (implGridTurn_yes _ _ _ _ _ _ HG.out HV.out).mono ?_
    rintro e w2 ⟨A2, c2, rfl, _, hown2, hb2⟩
    rw [← HC.out] at hown2 ⊢
    have HO2 := Lib.hid hown2.grid
    clear hown2
    have hB2 : Below w.heap.size w w2 := hb1.trans (hb2.mono hb1.size)
    go_wp2_with fail
    refine (specGridTurn_yes _ _ _ _ _ _ (HG.out.below hb2) HV.out).mono ?_
    rintro e w3 ⟨A3, c3, rfl, _, hg3, hb3⟩
    rw [← HC.out] at hg3 ⊢
    have HO3 := Lib.hid hg3
    clear hg3
    have hB3 : Below w.heap.size w w3 := hB2.trans (hb3.mono hB2.size)
    go_wp2_with fail
    refine (sameGrid_yes _ _ _ _ _ _ _ _ (HO2.out.below hb3) HO3.out (by omega) (fun r _ => by show n ≤ _; omega)).mono ?_
    rintro e w4 ⟨rfl, hb4⟩
    have hB4 : Below w.heap.size w w4 := hB3.trans (hb4.mono hB3.size)
    have H2 := Lib.hid (HO2.out.below (hb3.trans (hb4.mono hb3.size)))
    have H1 := Lib.hid (HG.out.below ((hb2.trans (hb3.mono hb2.size)).trans (hb4.mono (Nat.le_trans hb2.size hb3.size))))
    clear HO2 HO3 HG hb1 hb2 hb3 hb4 hB2 hB3
    go_wp2_with fail
    go_loopw [8, 9, 10] (fun x p i wr => ∃ (k : Nat) (A5 : Option Addr) (c5 : Nat), k ≤ 3 ∧ i = .int .i64 k ∧ p = .bool true ∧ x = .slice A5 (tN C n k).1 c5 ∧ Hid (GridF wr A5 (tN C n k).1 (fun _ => (tN C n k).2) (tG C n (turnG n g) k)) ∧ Below w4.heap.size w4 wr) (fun _ _ i _ => 3 - (intOf i).toNat)
    case atStart => exact ⟨0, A2, c2, by omega, rfl, rfl, rfl, H2.out, Below.refl _ _⟩
    case round =>
      obtain ⟨k, A5, c5, hk, rfl, rfl, rfl, HX, hbel⟩ := hrel
      by_cases hlt : k < 3
      · obtain ⟨N5, hN5⟩ : ∃ N5, N5 = (tN C n k).1 := ⟨_, rfl⟩
        obtain ⟨C5, hC5⟩ : ∃ C5, C5 = (tN C n k).2 := ⟨_, rfl⟩
        have HV5 := Lib.hid (tValid HT.out k)
        rw [← hN5, ← hC5] at HX HV5
        rw [← hN5]
        have HN5 := Lib.hid hN5
        have HC5 := Lib.hid hC5
        clear hN5 hC5
        go_wp2_with fail
        refine (implGridTurn_yes _ _ _ _ _ _ HX.out HV5.out).mono ?_
        rintro e w6 ⟨A6, c6, rfl, _, hown6, hb6⟩
        have HO6 := Lib.hid hown6.grid
        clear hown6
        go_wp2_with fail
        go_roundw
        case rel =>
          refine ⟨k + 1, A6, c6, by omega, by go_num, rfl, ?_, ?_, hbel.trans (hb6.mono hbel.size)⟩
          · show _ = Value.slice A6 (tN C n k).2 c6
            rw [← HC5.out]
          · show GridF _ A6 (tN C n k).2 (fun _ => (tN C n k).1) (turnG (tN C n k).1 (tG C n (turnG n g) k))
            rw [← HC5.out, ← HN5.out]
            exact HO6.out
        case measure => simp [intOf]; omega
      · have hk3 : k = 3 := by omega
        subst hk3
        have HX3 : Hid (GridF wr A5 n L g) := GridF.congrL HX.out (fun r hr => by rw [HV.out.len r hr, ← HC.out]; rfl) (fun r c hr hc => turn4 hr hc)
        have hn3 : (tN C n 3).1 = n := rfl
        rw [hn3]
        clear HX
        have K1 := Lib.hid (H1.out.below hbel)
        have K2 := Lib.hid (H2.out.below hbel)
        clear H1 H2
        have hB5 := hB4.trans (hbel.mono hB4.size)
        go_wp2_with fail
        refine (implGridMirror_yes _ _ _ _ _ _ K1.out HV.out).mono ?_
        rintro e w6 ⟨A6, c6, rfl, _, hown6, hb6⟩
        rw [← HC.out] at hown6
        have J6 := Lib.hid hown6.grid
        clear hown6
        have M1 := Lib.hid (K1.out.below hb6)
        have M2 := Lib.hid (K2.out.below hb6)
        have M3 := Lib.hid (HX3.out.below hb6)
        clear K1 K2 HX3
        have hB6 := hB5.trans (hb6.mono hB5.size)
        go_wp2_with fail
        refine (implGridTurn_yes _ _ _ _ _ _ J6.out HM.out).mono ?_
        rintro e w7 ⟨A7, c7, rfl, _, hown7, hb7⟩
        have J7 := Lib.hid hown7.grid
        have hV7 := Lib.hid HM.out.turn
        clear hown7 J6
        have N1 := Lib.hid (M1.out.below hb7)
        have N2 := Lib.hid (M2.out.below hb7)
        have N3 := Lib.hid (M3.out.below hb7)
        clear M1 M2 M3
        have hB7 := hB6.trans (hb7.mono hB6.size)
        go_wp2_with fail
        refine (implGridTurn_yes _ _ _ _ _ _ J7.out hV7.out).mono ?_
        rintro e w8 ⟨A8, c8, rfl, _, hown8, hb8⟩
        have J8 := Lib.hid hown8.grid
        clear hown8 J7
        have O1 := Lib.hid (N1.out.below hb8)
        have O2 := Lib.hid (N2.out.below hb8)
        have O3 := Lib.hid (N3.out.below hb8)
        clear N1 N2 N3
        have hB8 := hB7.trans (hb8.mono hB7.size)
        go_wp2_with fail
        refine (implGridTurn_yes _ _ _ _ _ _ O2.out HT.out).mono ?_
        rintro e w9 ⟨A9, c9, rfl, _, hown9, hb9⟩
        have J9 := Lib.hid hown9.grid
        have hV9 := Lib.hid HT.out.turn
        clear hown9
        have P1 := Lib.hid (O1.out.below hb9)
        have P2 := Lib.hid (O2.out.below hb9)
        have P3 := Lib.hid (O3.out.below hb9)
        have J8' := Lib.hid (J8.out.below hb9)
        clear O1 O2 O3 J8
        have hB9 := hB8.trans (hb9.mono hB8.size)
        go_wp2_with fail
        refine (implGridMirror_yes _ _ _ _ _ _ J9.out hV9.out).mono ?_
        rintro e w10 ⟨A10, c10, rfl, _, hown10, hb10⟩
        have J10 := Lib.hid hown10.grid
        clear hown10 J9
        have Q1 := Lib.hid (P1.out.below hb10)
        have Q2 := Lib.hid (P2.out.below hb10)
        have Q3 := Lib.hid (P3.out.below hb10)
        have J8'' := Lib.hid (J8'.out.below hb10)
        clear P1 P2 P3 J8'
        have hB10 := hB9.trans (hb10.mono hB9.size)
        go_wp2_with fail
        refine (sameGrid_yes _ _ _ _ _ _ _ _ Q3.out Q1.out (by omega) (fun r hr => by have := HL.out r hr; omega)).mono ?_
        rintro e w11 ⟨rfl, hb11⟩
        have hB11 := hB10.trans (hb11.mono hB10.size)
        go_wp2_with fail
        refine (sameGrid_yes _ _ _ _ _ _ _ _ (J8''.out.below hb11) ((J10.out.congrL (fun r hr => rfl) (fun r c hr hc => (turnMirror hr hc).symm)).below hb11) (by omega) (fun r hr => by show C ≤ _; omega)).mono ?_
        rintro e w12 ⟨rfl, hb12⟩
        have hB12 := hB11.trans (hb12.mono hB11.size)
        have hb10' := hb11.trans (hb12.mono hb11.size)
        obtain ⟨B, o, A0, c0, hA1, hc0, _, _⟩ := (Q1.out.below hb10') 0 (by omega)
        obtain ⟨B', o', A0', c0', hA2, hc0', _, _⟩ := (Q2.out.below hb10') 0 (by omega)
        rw [Nat.add_zero] at hc0 hc0'
        rw [← HC.out] at hc0
        subst hA1 hA2
        go_wp2_with fail
        go_ret
        exact ⟨rfl, hB12⟩
  · have HV := Lib.hid hv
    clear hv
    go_wp2_with fail
    refine (implGridTurn_no _ _ _ _ _ _ HG.out (by omega) HL.out HV.out).mono ?_
    rintro e w2 ⟨A2, c2, rfl, _, hown2, hb2⟩
    have HO2 := Lib.hid hown2.grid
    clear hown2
    have hB2 : Below w.heap.size w w2 := hb1.trans (hb2.mono hb1.size)
    go_wp2_with fail
    refine (specGridTurn_no _ _ _ _ _ _ (HG.out.below hb2) (by omega) HL.out HV.out).mono ?_
    rintro e w3 ⟨A3, c3, rfl, _, hg3, hb3⟩
    have HO3 := Lib.hid hg3
    clear hg3
    have hB3 : Below w.heap.size w w3 := hB2.trans (hb3.mono hB2.size)
    go_wp2_with fail
    refine (sameGrid_yes _ _ _ _ _ _ _ _ (HO2.out.below hb3) HO3.out (by omega) (fun r hr => by omega)).mono ?_
    rintro e w4 ⟨rfl, hb4⟩
    have hB4 : Below w.heap.size w w4 := hB3.trans (hb4.mono hB3.size)
    go_wp2_with fail
    refine (sameGrid_yes _ _ _ _ _ _ _ _ (HO2.out.below (hb3.trans (hb4.mono hb3.size))) (HO3.out.below hb4) (by omega) (fun r hr => by omega)).mono ?_
    rintro e w5 ⟨rfl, hb5⟩
    go_wp2_with fail
    go_ret
    exact ⟨rfl, hB4.trans (hb5.mono hB4.size)⟩

set_option maxHeartbeats 4000000 in
set_option maxRecDepth 100000 in
theorem fnGridMirror_walk (A : Option Addr) (m cp : Nat) (z : Nat → Int) (w : World) (hz : RowB w A m z) (hm : m ≤ 9223372036854775807 ∧ m ≤ cp) :
    Calls Try.prog 11 #[.slice A m cp] w (RetV (.bool true) w) := by
  have HZ := Lib.hid hz
  obtain ⟨hm1, hm2⟩ := hm
  clear hz
  by_cases hbig : 1048576 < m
  · go_enter Try.func11, Try.ntmps11
    go_wp2_with fail
    go_ret
    exact ⟨rfl, Below.refl _ _⟩
  go_enter Try.func11, Try.ntmps11
  go_wp2_with fail
  refine (drawGridMirror_any _ _ _ _ _ HZ.out hm1 hm2).mono ?_
  rintro e w1 ⟨A1, n, c1, L, g, rfl, hn1, hn2, hL, hgrid, hb1⟩
  have HG := Lib.hid hgrid
  have HL : Hid (∀ r, r < n → L r ≤ 1048576) := fun r hr => by have := hL r hr; omega
  clear hgrid hL
  by_cases hv : Valid n L g
  · have HV := Lib.hid hv
    have hvn := hv.2.1
    have hvl := hv.2.2.2.1
    have hvl1 := hv.2.2.1
    obtain ⟨C, hC⟩ : ∃ C, C = L 0 := ⟨_, rfl⟩
    have HC := Lib.hid hC
    have HT := Lib.hid hv.turn
    have HM := Lib.hid hv.mirror
    rw [← hC] at HT HM hvl hvl1
    clear hv hC
    go_wp2_with fail
    refine (implGridMirror_yes _ _ _ _ _ _ HG.out HV.out).mono ?_
    rintro e w2 ⟨A2, c2, rfl, _, hown2, hb2⟩
    rw [← HC.out] at hown2
    have HO2 := Lib.hid hown2.grid
    clear hown2
    have hB2 : Below w.heap.size w w2 := hb1.trans (hb2.mono hb1.size)
    go_wp2_with fail
    refine (specGridMirror_yes _ _ _ _ _ _ (HG.out.below hb2) HV.out).mono ?_
    rintro e w3 ⟨A3, c3, rfl, _, hg3, hb3⟩
    rw [← HC.out] at hg3
    have HO3 := Lib.hid hg3
    clear hg3
    have hB3 : Below w.heap.size w w3 := hB2.trans (hb3.mono hB2.size)
    go_wp2_with fail
    refine (sameGrid_yes _ _ _ _ _ _ _ _ (HO2.out.below hb3) HO3.out (by omega) (fun r _ => by show C ≤ _; omega)).mono ?_
    rintro e w4 ⟨rfl, hb4⟩
    have hB4 : Below w.heap.size w w4 := hB3.trans (hb4.mono hB3.size)
    have H2 := Lib.hid (HO2.out.below (hb3.trans (hb4.mono hb3.size)))
    have H1 := Lib.hid (HG.out.below ((hb2.trans (hb3.mono hb2.size)).trans (hb4.mono (Nat.le_trans hb2.size hb3.size))))
    clear HO2 HO3 HG hb1 hb2 hb3 hb4 hB2 hB3
    go_wp2_with fail
    refine (implGridMirror_yes _ _ _ _ _ _ H2.out HM.out).mono ?_
    rintro e w5 ⟨A5, c5, rfl, _, hown5, hb5⟩
    have J5 := Lib.hid (hown5.grid.congrL (L' := L) (g' := g) (fun r hr => by show C = L r; rw [HV.out.len r hr, HC.out]) (fun r c hr hc => mirror2 hc))
    clear hown5
    have hB5 := hB4.trans (hb5.mono hB4.size)
    have K1 := Lib.hid (H1.out.below hb5)
    have K2 := Lib.hid (H2.out.below hb5)
    clear H1 H2
    go_wp2_with fail
    refine (implGridTurn_yes _ _ _ _ _ _ K1.out HV.out).mono ?_
    rintro e w6 ⟨A6, c6, rfl, _, hown6, hb6⟩
    rw [← HC.out] at hown6 ⊢
    have J6 := Lib.hid hown6.grid
    clear hown6
    have hB6 := hB5.trans (hb6.mono hB5.size)
    have M1 := Lib.hid (K1.out.below hb6)
    have M2 := Lib.hid (K2.out.below hb6)
    have M5 := Lib.hid (J5.out.below hb6)
    clear K1 K2 J5
    go_wp2_with fail
    refine (implGridMirror_yes _ _ _ _ _ _ J6.out HT.out).mono ?_
    rintro e w7 ⟨A7, c7, rfl, _, hown7, hb7⟩
    have J7 := Lib.hid hown7.grid
    clear hown7 J6
    have hB7 := hB6.trans (hb7.mono hB6.size)
    have N1 := Lib.hid (M1.out.below hb7)
    have N2 := Lib.hid (M2.out.below hb7)
    have N5 := Lib.hid (M5.out.below hb7)
    clear M1 M2 M5
    go_wp2_with fail
    go_loopw [14, 15, 16] (fun x p i wr => ∃ (k : Nat) (A8 : Option Addr) (c8 : Nat), k ≤ 3 ∧ i = .int .i64 k ∧ p = .bool true ∧ x = .slice A8 (tN n C k).1 c8 ∧ Hid (GridF wr A8 (tN n C k).1 (fun _ => (tN n C k).2) (tG n C (mirrorG C g) k)) ∧ Below w7.heap.size w7 wr) (fun _ _ i _ => 3 - (intOf i).toNat)
    case atStart => exact ⟨0, A2, c2, by omega, rfl, rfl, rfl, N2.out, Below.refl _ _⟩
    case round =>
      obtain ⟨k, A8, c8, hk, rfl, rfl, rfl, HX, hbel⟩ := hrel
      by_cases hlt : k < 3
      · obtain ⟨N8, hN8⟩ : ∃ N8, N8 = (tN n C k).1 := ⟨_, rfl⟩
        obtain ⟨C8, hC8⟩ : ∃ C8, C8 = (tN n C k).2 := ⟨_, rfl⟩
        have HV8 := Lib.hid (tValid HM.out k)
        rw [← hN8, ← hC8] at HX HV8
        rw [← hN8]
        have HN8 := Lib.hid hN8
        have HC8 := Lib.hid hC8
        clear hN8 hC8
        go_wp2_with fail
        refine (implGridTurn_yes _ _ _ _ _ _ HX.out HV8.out).mono ?_
        rintro e w9 ⟨A9, c9, rfl, _, hown9, hb9⟩
        have HO9 := Lib.hid hown9.grid
        clear hown9
        go_wp2_with fail
        go_roundw
        case rel =>
          refine ⟨k + 1, A9, c9, by omega, by go_num, rfl, ?_, ?_, hbel.trans (hb9.mono hbel.size)⟩
          · show _ = Value.slice A9 (tN n C k).2 c9
            rw [← HC8.out]
          · show GridF _ A9 (tN n C k).2 (fun _ => (tN n C k).1) (turnG (tN n C k).1 (tG n C (mirrorG C g) k))
            rw [← HC8.out, ← HN8.out]
            exact HO9.out
        case measure => simp [intOf]; omega
      · have hk3 : k = 3 := by omega
        subst hk3
        have HX3 : Hid (GridF wr A8 C (fun _ => n) (mirrorG n (turnG n g))) := GridF.congrL HX.out (fun r hr => rfl) (fun r c hr hc => (mirrorTurn hr hc).symm)
        have hn3 : (tN n C 3).1 = C := rfl
        rw [hn3]
        clear HX
        have hB8 := hB7.trans (hbel.mono hB7.size)
        go_wp2_with fail
        refine (sameGrid_yes _ _ _ _ _ _ _ _ (N5.out.below hbel) (N1.out.below hbel) (by omega) (fun r hr => by have := HL.out r hr; omega)).mono ?_
        rintro e w9 ⟨rfl, hb9⟩
        have hB9 := hB8.trans (hb9.mono hB8.size)
        go_wp2_with fail
        refine (sameGrid_yes _ _ _ _ _ _ _ _ (J7.out.below (hbel.trans (hb9.mono hbel.size))) (HX3.out.below hb9) (by omega) (fun r hr => by show n ≤ _; omega)).mono ?_
        rintro e w10 ⟨rfl, hb10⟩
        go_wp2_with fail
        go_ret
        exact ⟨rfl, hB9.trans (hb10.mono hB9.size)⟩
  · have HV := Lib.hid hv
    clear hv
    go_wp2_with fail
    refine (implGridMirror_no _ _ _ _ _ _ HG.out (by omega) HL.out HV.out).mono ?_
    rintro e w2 ⟨A2, c2, rfl, _, hown2, hb2⟩
    have HO2 := Lib.hid hown2.grid
    clear hown2
    have hB2 : Below w.heap.size w w2 := hb1.trans (hb2.mono hb1.size)
    go_wp2_with fail
    refine (specGridMirror_no _ _ _ _ _ _ (HG.out.below hb2) (by omega) HL.out HV.out).mono ?_
    rintro e w3 ⟨A3, c3, rfl, _, hg3, hb3⟩
    have HO3 := Lib.hid hg3
    clear hg3
    have hB3 : Below w.heap.size w w3 := hB2.trans (hb3.mono hB2.size)
    go_wp2_with fail
    refine (sameGrid_yes _ _ _ _ _ _ _ _ (HO2.out.below hb3) HO3.out (by omega) (fun r hr => by omega)).mono ?_
    rintro e w4 ⟨rfl, hb4⟩
    have hB4 : Below w.heap.size w w4 := hB3.trans (hb4.mono hB3.size)
    go_wp2_with fail
    refine (sameGrid_yes _ _ _ _ _ _ _ _ (HO2.out.below (hb3.trans (hb4.mono hb3.size))) (HO3.out.below hb4) (by omega) (fun r hr => by omega)).mono ?_
    rintro e w5 ⟨rfl, hb5⟩
    go_wp2_with fail
    go_ret
    exact ⟨rfl, hB4.trans (hb5.mono hB4.size)⟩

end Go.Proofs.Ytjgmhgjgcegohaa
