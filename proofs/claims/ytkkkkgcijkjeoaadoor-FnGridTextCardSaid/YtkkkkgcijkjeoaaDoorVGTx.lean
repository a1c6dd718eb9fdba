/- The law FnGridText: its walk. -/
import Derived.Test.YtkkkkgcijkjeoaaDoorLawH
import Derived.Test.YtkkkkgcijkjeoaaDoorITxt
import Derived.Test.YtkkkkgcijkjeoaaDoorSTxt
import Derived.Test.YtkkkkgcijkjeoaaDoorIFr
namespace Go.Proofs.YtkkkkgcijkjeoaaDoor
set_option linter.unusedVariables false
set_option linter.unusedSimpArgs false
open Go.RowKit

set_option maxHeartbeats 1500000 in
set_option maxRecDepth 100000 in
theorem fnGridText_walk (A : Option Addr) (m cp : Nat) (z : Nat → Int) (mx : Int) (w : World) (hz : RowB w A m z) (hm : m ≤ 9223372036854775807 ∧ m ≤ cp) (hmx : w.cell? ⟨0, 0, none⟩ = some (.int .i64 mx)) :
    Calls Tryd.prog 3 #[.slice A m cp] w (RetV (.bool true) w) := by
  have HZ := Lib.hid hz
  obtain ⟨hm1, hm2⟩ := hm
  have HM := Lib.hid hmx
  have hw0 : 0 < w.heap.size := World.block_lt_of_cell? w _ hmx
  clear hz hmx
  by_cases hbig : 1048576 < m
  · go_enter Tryd.func3, Tryd.ntmps3
    go_wp2_with fail
    go_ret
    exact ⟨rfl, Below.refl _ _⟩
  go_enter Tryd.func3, Tryd.ntmps3
  go_wp2_with fail
  refine (drawGridText_any _ _ _ _ _ HZ.out hm1 hm2).mono ?_
  rintro e w1 ⟨A1, n, c1, L, g, rfl, hn1, hn2, hL, hgrid, hb1⟩
  have HG := Lib.hid hgrid
  have HL : Hid (∀ r, r < n → L r ≤ 1048576) := fun r hr => by have := hL r hr; omega
  have hL0 := (hL 0 (by omega)).2.1
  clear hgrid hL
  go_wp2_with fail
  refine (implGridText_any _ _ _ _ _ _ HG.out (by omega) HL.out).mono ?_
  rintro e w2 ⟨rfl, hb2⟩
  have hB2 : Below w.heap.size w w2 := hb1.trans (hb2.mono hb1.size)
  have HG2 := Lib.hid (HG.out.below hb2)
  go_wp2_with fail
  refine (specGridText_any _ _ _ _ _ _ HG2.out (by omega) HL.out).mono ?_
  rintro e w3 ⟨rfl, hb3⟩
  have hB3 : Below w.heap.size w w3 := hB2.trans (hb3.mono hB2.size)
  have HG3 := Lib.hid (HG2.out.below hb3)
  clear hb1 hb2 hb3 hB2
  by_cases hv : Valid n L g
  · have HT : textV n L g = gridT (L 0) g n := if_pos hv
    obtain ⟨hF, hnt, hrt⟩ := from_text hv
    have hlen := gridT_len (L 0) g hv.2.2.1 n
    have hNm : L 0 * n = n * L 0 := Nat.mul_comm _ _
    have hN0 : 0 < n * L 0 := Nat.mul_pos hv.1 hv.2.2.1
    have hN1 : n * L 0 ≤ 49 := Nat.le_trans (Nat.mul_le_mul hv.2.1 hv.2.2.2.1) (by decide)
    rw [HT]
    rw [hNm] at hlen
    clear HT hNm
    generalize gridT (L 0) g n = t at hF hnt hrt hlen ⊢
    have HF := Lib.hid hF
    have HR := Lib.hid hrt
    have HV := Lib.hid hv
    obtain ⟨N, hN⟩ : ∃ N, N = n * L 0 := ⟨_, rfl⟩
    have HN := Lib.hid hN
    rw [← hN] at hlen hN0 hN1
    have ht0 : (t == []) = false := beq_eq_false_iff_ne.2 (fun e => by rw [e] at hlen; simp at hlen; omega)
    have HT0 := Lib.hid ht0
    have d9 : ((t.length : Int) == 3 * (N : Int) - 1) = true := beq_iff_eq.2 (by omega)
    have hm3 := (hB3.cell (p := ⟨0, 0, none⟩) hw0).trans HM.out
    have hl9 : t.length ≤ 200 := by omega
    clear hF hrt hv hN hlen
    go_wp2_with fail
    refine (implGridFrom_any t mx _ (by omega) hm3).mono ?_
    rintro e w4 hh
    obtain ⟨Aq, cq, rfl, hcq, hown, hb4⟩ := hh.1 HF.out
    rw [hnt] at hown hcq ⊢
    have hB4 : Below w.heap.size w w4 := hB3.trans (hb4.mono hB3.size)
    have HG4 := Lib.hid (HG3.out.below hb4)
    have HQ4 := Lib.hid ((hown.congrL (L' := L) (g' := g) (fun r hr => (HR.out r hr).1) (fun r c hr hc => (HR.out r hr).2 c (by rw [← (HR.out r hr).1]; exact hc))).grid)
    clear hh hown hnt hm3
    go_wp2_with fail
    refine (sameGrid_yes _ _ _ _ _ _ _ _ HQ4.out HG4.out (by omega) (fun r hr => by have := HL.out r hr; omega)).mono ?_
    rintro e w5 ⟨rfl, hb5⟩
    have hB5 : Below w.heap.size w w5 := hB4.trans (hb5.mono hB4.size)
    have HG5 := Lib.hid (HG4.out.below hb5)
    go_wp2_with fail
    refine (cellsOf_any _ _ _ _ _ _ HG5.out (by omega) (by omega) (by omega)).mono ?_
    rintro e w' ⟨rfl, rfl⟩
    rw [← HN.out]
    go_wp2_with fail
    go_ret
    exact ⟨rfl, hB5⟩
  · have HT : textV n L g = [] := if_neg hv
    rw [HT]
    clear hv HT
    go_wp2_with fail
    go_ret
    exact ⟨rfl, hB3⟩

end Go.Proofs.YtkkkkgcijkjeoaaDoor
