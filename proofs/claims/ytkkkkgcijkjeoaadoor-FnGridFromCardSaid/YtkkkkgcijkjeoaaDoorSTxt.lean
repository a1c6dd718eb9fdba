/- The text of a grid: what the reference's function returns. -/
import Derived.Test.YtkkkkgcijkjeoaaDoorA4
import Derived.Test.YtkkkkgcijkjeoaaDoorPlX
import Derived.Test.YtkkkkgcijkjeoaaDoorLoose
import Derived.Deep.DeepCutAuto
import Derived.Laws.IdiomStrings
import Derived.Laws.Concat
namespace Go.Proofs.YtkkkkgcijkjeoaaDoor
set_option linter.unusedVariables false
set_option linter.unusedSimpArgs false
open Go.RowKit

/-- One digit, as a string. -/
def digB (p : Nat) : ByteArray := ⟨#[UInt8.ofNat (48 + p)]⟩
theorem digB_size (p : Nat) : (digB p).size = 1 := rfl

theorem l6Dec_any (p : Nat) (w : World) (hp : p ≤ 9) : Calls Tryd.prog 25 #[.int .i64 p] w (RetV (.string (digB p)) w) := by
  have hcv : (convert 22 9 (.slice (some ⟨w.heap.size, 0, none⟩) 1 1)).run Tryd.prog (w.alloc (.cells #[.int .u8 (48 + (p : Int))] 5)) = .ok (.string (digB p)) (w.alloc (.cells #[.int .u8 (48 + (p : Int))] 5)) :=
    run_convert_bytes_back (P := Tryd.prog) (w.alloc (.cells #[.int .u8 (48 + (p : Int))] 5)) 22 9 5 ⟨w.heap.size, 0, none⟩ 1 [UInt8.ofNat (48 + p)] Tryd.underlying22 Tryd.underlying5 Tryd.underlying9 (fun j hj => by
      match j, hj with
      | 0, _ =>
        have := digit_u8 p hp
        simp only [List.getElem_cons_zero]
        rw [this]
        unfold World.cell? Addr.add; simp only [if_true]; rw [heap_alloc_new]; rfl)
  go_enter Tryd.func25, Tryd.ntmps25
  go_wp2_with fail
  go_ret
  exact ⟨rfl, below_alloc _ _⟩

set_option maxHeartbeats 2000000 in
set_option maxRecDepth 100000 in
theorem specGridText_any (A : Option Addr) (n cp : Nat) (L : Nat → Nat) (g : Nat → Nat → Int) (w : World) (hg : GridF w A n L g) (hn : n ≤ 1048576) (hL : ∀ r, r < n → L r ≤ 1048576) :
    Calls Tryd.prog 8 #[.slice A n cp] w (RetV (.string ⟨(textV n L g).toArray⟩) w) := by
  have HG := Lib.hid hg
  have HL := Lib.hid hL
  clear hg hL
  by_cases hv : Valid n L g
  · have HV := Lib.hid hv
    have HT : Hid (textV n L g = gridT (L 0) g n) := if_pos hv
    have hn1 := hv.1
    have hn2 := hv.2.1
    have hl1 := hv.2.2.1
    have hl2 := hv.2.2.2.1
    obtain ⟨C, hC⟩ : ∃ C, C = L 0 := ⟨_, rfl⟩
    have HLr : Hid (∀ r, r < n → L r = C) := fun r hr => (hv.len r hr).trans hC.symm
    have HR : Hid (∀ r c, r < n → c < C → 0 ≤ g r c ∧ g r c ≤ 99) := fun r c hr hc => (hv.2.2.2.2 r hr).2 c (by rw [← hC]; exact hc)
    have HFin : Hid (∀ w' s, s = ⟨(gridT C g n).toArray⟩ → Below w.heap.size w w' → RetV (.string ⟨(textV n L g).toArray⟩) w (.returned (.string s)) w') := fun w' s hs hb => ⟨by rw [HT.out, hs, hC], hb⟩
    rw [← hC] at hl1 hl2
    clear hv hC
    -- YES
    go_enter Tryd.func8, Tryd.ntmps8
    go_wp2_with fail
    go_loopw [3, 4] (fun sv i wr => ∃ (r : Nat) (s : ByteArray), r ≤ n ∧ sv = .string s ∧ i = .int .i64 r ∧ Hid (s = ⟨(gridT C g r).toArray⟩) ∧ Below w.heap.size w wr) (fun _ i _ => n - (intOf i).toNat)
    case atStart => exact ⟨0, _, Nat.zero_le _, rfl, rfl, rfl, Below.refl _ _⟩
    case round =>
      obtain ⟨r, s, hr, rfl, rfl, HS, hB1⟩ := hrel
      have HLg := Lib.hid (gridT_len7 g hr hn2 hl1 hl2)
      have hs0 : s.size ≤ 1000 := by rw [HS.out]; simpa [ByteArray.size] using HLg.out
      by_cases hlt : r < n
      · go_wp2_with fail
        refine (specValid_yes _ _ _ _ _ _ (HG.out.below hB1) HV.out).mono ?_
        rintro e w2 ⟨rfl, hb2⟩
        have hB2 := hB1.trans (hb2.mono hB1.size)
        by_cases hr0 : r = 0
        · have d2 : decide (0 < r) = false := decide_eq_false (by omega)
          have HS2 : Hid (s = ⟨(preT C g r).toArray⟩) := by
            show _ = _
            rw [show preT C g r = gridT C g r from if_pos hr0]; exact HS.out
          clear hr0 HS hB1 hb2
          go_wp2_with fail
          go_loopw [3, 5] (fun sv i wi => ∃ (c : Nat) (s : ByteArray), c ≤ C ∧ sv = .string s ∧ i = .int .i64 c ∧ Hid (s = ⟨(preT C g r ++ rowT (g r) c).toArray⟩) ∧ Below w.heap.size w wi) (fun _ i _ => C - (intOf i).toNat)
          case atStart => exact ⟨0, _, Nat.zero_le _, rfl, rfl, by show _ = _; rw [show preT C g r ++ rowT (g r) 0 = preT C g r from List.append_nil _]; exact HS2.out, hB2⟩
          case round =>
            clear HS2 hB2
            obtain ⟨c, s, hc, rfl, rfl, HS, hB1⟩ := hrel
            have HLn := Lib.hid (preT_len g hlt hn2 hl1 hl2 hc)
            have hs0 : s.size ≤ 1000 := by rw [HS.out]; simpa [ByteArray.size] using HLn.out.1
            by_cases hltc : c < C
            · obtain ⟨B, o, A2, c2, hAe, hc2, _, hrow⟩ := (HG.out.below hB1) r hlt
              subst hAe
              rw [HLr.out r hlt] at hc2 hrow
              have HRw := Lib.hid hrow
              clear hrow
              by_cases hc0 : c = 0
              · have d3 : decide (0 < c) = false := decide_eq_false (by omega)
                have HS2 : Hid (s = ⟨(preT C g r ++ preC (g r) c).toArray⟩) := by
                  show _ = _
                  rw [show preC (g r) c = rowT (g r) c from if_pos hc0]; exact HS.out
                clear HS hc0
                have HS := HS2
                clear HS2
                go_upto_region 12 with (fail)
                clear d3
                obtain ⟨B2, o2, rfl, hcx2⟩ := HRw.out c hltc
                obtain ⟨hx0, hx9⟩ := HR.out r c hlt hltc
                have HE := Lib.hid (rowT_succ (g r) c)
                clear HRw
                generalize g r c = x at *
                obtain ⟨x, rfl⟩ := Int.eq_ofNat_of_zero_le hx0
                have HC1 := Lib.hid hc2
                have HC2 := Lib.hid hcx2
                have e1 : Int.tdiv (x : Int) 10 = ((x / 10 : Nat) : Int) := by rw [Int.tdiv_eq_ediv_of_nonneg (by omega)]; omega
                have e2 : (x : Int) / 10 = ((x / 10 : Nat) : Int) := by omega
                have e3 : Int.tmod (x : Int) 10 = ((x % 10 : Nat) : Int) := by rw [Int.tmod_eq_emod_of_nonneg (by omega)]; omega
                have e4 : (x : Int) % 10 = ((x % 10 : Nat) : Int) := by omega
                have hd1 : x / 10 ≤ 9 := by omega
                have hd2 : x % 10 ≤ 9 := by omega
                have HC9 : Hid (cellT (x : Int) = [UInt8.ofNat (48 + x / 10), UInt8.ofNat (48 + x % 10)]) := rfl
                rw [HC9.out] at HE
                clear HC9
                generalize x / 10 = p at *
                generalize x % 10 = q at *
                have hz1 := digB_size p
                have hz2 := digB_size q
                have HS9 : Hid (s ++ digB p ++ digB q = ⟨(preT C g r ++ rowT (g r) (c + 1)).toArray⟩) := by
                  show _ = _
                  rw [HE.out, HS.out]
                  unfold digB
                  rw [show (⟨#[UInt8.ofNat (48 + p)]⟩ : ByteArray) = ⟨[UInt8.ofNat (48 + p)].toArray⟩ from rfl, show (⟨#[UInt8.ofNat (48 + q)]⟩ : ByteArray) = ⟨[UInt8.ofNat (48 + q)].toArray⟩ from rfl, ByteArray.mk_append_mk, ByteArray.mk_append_mk]
                  simp
                clear hc2 hcx2
                go_wp2_with fail
                refine wp_region_phi (N := 22) (C := fun _ w4 => Below wr.heap.size wr w4) (R := fun w4 w5 => Below w4.heap.size w4 w5) (φ := fun j v w4 => ([fun v _ => v = .string s, fun v _ => v = .slice (some ⟨B, o, none⟩) n cp, fun v _ => v = .int .i64 (r : Int), fun v _ => v = .pointer (some ⟨B, o + r, none⟩), fun v _ => v = .slice (some ⟨B2, o2, none⟩) C c2, fun v _ => v = .int .i64 (c : Int), fun v _ => v = .pointer (some ⟨B2, o2 + c, none⟩), fun v _ => v = .int .i64 (x : Int), fun v _ => v = .int .i64 (p : Int), fun v _ => v = .string (digB p), fun v _ => v = .string (s ++ digB p), fun v _ => v = .slice (some ⟨B, o, none⟩) n cp, fun v _ => v = .int .i64 (r : Int), fun v _ => v = .pointer (some ⟨B, o + r, none⟩), fun v _ => v = .slice (some ⟨B2, o2, none⟩) C c2, fun v _ => v = .int .i64 (c : Int), fun v _ => v = .pointer (some ⟨B2, o2 + c, none⟩), fun v _ => v = .int .i64 (x : Int), fun v _ => v = .int .i64 (q : Int), fun v _ => v = .string (digB q), fun v _ => v = .string (s ++ digB p ++ digB q), fun v _ => v = .string (s ++ digB p ++ digB q)] : List (Value → World → Prop)).getD j (fun _ _ => True) v w4) (by kernel_rfl) (by kernel_rfl) (by kernel_rfl) ?_ (Below.refl _ _).drew ?_ ?_
                · intro j v w4 w5 hb hv
                  match j with
                  | 0 | 1 | 2 | 3 | 4 | 5 | 6 | 7 | 8 | 9 | 10 | 11 | 12 | 13 | 14 | 15 | 16 | 17 | 18 | 19 | 20 | 21 => exact hv
                  | j + 22 => exact hv
                · refine ⟨?_, ?_, ?_, ?_, ?_, ?_, ?_, ?_, ?_, ?_, ?_, ?_, ?_, ?_, ?_, ?_, ?_, ?_, ?_, ?_, ?_, ?_, trivial⟩
                  · intro k9 w4 hC hk9
                    refine givenD_go (ds' := []) (by kernel_rfl) ?_
                    simp only [givenD, List.getD_cons_zero, List.getD_cons_succ]
                    go_wp2_with fail
                    exact ⟨rfl, rfl, hC, Below.refl _ _, rfl⟩
                  · intro k9 w4 hC hk9
                    refine givenD_go (ds' := []) (by kernel_rfl) ?_
                    simp only [givenD, List.getD_cons_zero, List.getD_cons_succ]
                    go_wp2_with fail
                    exact ⟨rfl, rfl, hC, Below.refl _ _, rfl⟩
                  · intro k9 w4 hC hk9
                    refine givenD_go (ds' := []) (by kernel_rfl) ?_
                    simp only [givenD, List.getD_cons_zero, List.getD_cons_succ]
                    go_wp2_with fail
                    exact ⟨rfl, rfl, hC, Below.refl _ _, rfl⟩
                  · intro k9 w4 hC hk9
                    refine givenD_go (ds' := [(1, 34), (2, 35)]) (by kernel_rfl) ?_
                    simp only [givenD, List.getD_cons_zero, List.getD_cons_succ]
                    rintro _ rfl
                    rintro _ rfl
                    simp only [Act.put, List.setIfInBounds_toArray, List.set_cons_zero, List.set_cons_succ]
                    go_wp2_with fail
                    exact ⟨rfl, rfl, hC, Below.refl _ _, rfl⟩
                  · intro k9 w4 hC hk9
                    refine givenD_go (ds' := [(3, 36)]) (by kernel_rfl) ?_
                    simp only [givenD, List.getD_cons_zero, List.getD_cons_succ]
                    rintro _ rfl
                    simp only [Act.put, List.setIfInBounds_toArray, List.set_cons_zero, List.set_cons_succ]
                    have hcx := (hC.cell (World.block_lt_of_cell? wr _ HC1.out)).trans HC1.out
                    go_wp2_with fail
                    exact ⟨rfl, rfl, hC, Below.refl _ _, rfl⟩
                  · intro k9 w4 hC hk9
                    refine givenD_go (ds' := []) (by kernel_rfl) ?_
                    simp only [givenD, List.getD_cons_zero, List.getD_cons_succ]
                    go_wp2_with fail
                    exact ⟨rfl, rfl, hC, Below.refl _ _, rfl⟩
                  · intro k9 w4 hC hk9
                    refine givenD_go (ds' := [(4, 37), (5, 38)]) (by kernel_rfl) ?_
                    simp only [givenD, List.getD_cons_zero, List.getD_cons_succ]
                    rintro _ rfl
                    rintro _ rfl
                    simp only [Act.put, List.setIfInBounds_toArray, List.set_cons_zero, List.set_cons_succ]
                    go_wp2_with fail
                    exact ⟨rfl, rfl, hC, Below.refl _ _, rfl⟩
                  · intro k9 w4 hC hk9
                    refine givenD_go (ds' := [(6, 39)]) (by kernel_rfl) ?_
                    simp only [givenD, List.getD_cons_zero, List.getD_cons_succ]
                    rintro _ rfl
                    simp only [Act.put, List.setIfInBounds_toArray, List.set_cons_zero, List.set_cons_succ]
                    have hcx := (hC.cell (World.block_lt_of_cell? wr _ HC2.out)).trans HC2.out
                    go_wp2_with fail
                    exact ⟨rfl, rfl, hC, Below.refl _ _, rfl⟩
                  · intro k9 w4 hC hk9
                    refine givenD_go (ds' := [(7, 40)]) (by kernel_rfl) ?_
                    simp only [givenD, List.getD_cons_zero, List.getD_cons_succ]
                    rintro _ rfl
                    simp only [Act.put, List.setIfInBounds_toArray, List.set_cons_zero, List.set_cons_succ]
                    go_wp2_with fail
                    exact ⟨rfl, rfl, hC, Below.refl _ _, rfl⟩
                  · intro k9 w4 hC hk9
                    refine givenD_go (ds' := [(8, 41)]) (by kernel_rfl) ?_
                    simp only [givenD, List.getD_cons_zero, List.getD_cons_succ]
                    rintro _ rfl
                    simp only [Act.put, List.setIfInBounds_toArray, List.set_cons_zero, List.set_cons_succ]
                    go_wp2_with fail
                    refine (l6Dec_any p _ hd1).mono ?_
                    rintro e w5 ⟨rfl, hb5⟩
                    go_wp2_with fail
                    exact ⟨rfl, rfl, hC.trans (hb5.mono hC.size), hb5, rfl⟩
                  · intro k9 w4 hC hk9
                    refine givenD_go (ds' := [(0, 33), (9, 42)]) (by kernel_rfl) ?_
                    simp only [givenD, List.getD_cons_zero, List.getD_cons_succ]
                    rintro _ rfl
                    rintro _ rfl
                    simp only [Act.put, List.setIfInBounds_toArray, List.set_cons_zero, List.set_cons_succ]
                    go_wp2_with fail
                    exact ⟨rfl, rfl, hC, Below.refl _ _, rfl⟩
                  · intro k9 w4 hC hk9
                    refine givenD_go (ds' := []) (by kernel_rfl) ?_
                    simp only [givenD, List.getD_cons_zero, List.getD_cons_succ]
                    go_wp2_with fail
                    exact ⟨rfl, rfl, hC, Below.refl _ _, rfl⟩
                  · intro k9 w4 hC hk9
                    refine givenD_go (ds' := []) (by kernel_rfl) ?_
                    simp only [givenD, List.getD_cons_zero, List.getD_cons_succ]
                    go_wp2_with fail
                    exact ⟨rfl, rfl, hC, Below.refl _ _, rfl⟩
                  · intro k9 w4 hC hk9
                    refine givenD_go (ds' := [(11, 44), (12, 45)]) (by kernel_rfl) ?_
                    simp only [givenD, List.getD_cons_zero, List.getD_cons_succ]
                    rintro _ rfl
                    rintro _ rfl
                    simp only [Act.put, List.setIfInBounds_toArray, List.set_cons_zero, List.set_cons_succ]
                    go_wp2_with fail
                    exact ⟨rfl, rfl, hC, Below.refl _ _, rfl⟩
                  · intro k9 w4 hC hk9
                    refine givenD_go (ds' := [(13, 46)]) (by kernel_rfl) ?_
                    simp only [givenD, List.getD_cons_zero, List.getD_cons_succ]
                    rintro _ rfl
                    simp only [Act.put, List.setIfInBounds_toArray, List.set_cons_zero, List.set_cons_succ]
                    have hcx := (hC.cell (World.block_lt_of_cell? wr _ HC1.out)).trans HC1.out
                    go_wp2_with fail
                    exact ⟨rfl, rfl, hC, Below.refl _ _, rfl⟩
                  · intro k9 w4 hC hk9
                    refine givenD_go (ds' := []) (by kernel_rfl) ?_
                    simp only [givenD, List.getD_cons_zero, List.getD_cons_succ]
                    go_wp2_with fail
                    exact ⟨rfl, rfl, hC, Below.refl _ _, rfl⟩
                  · intro k9 w4 hC hk9
                    refine givenD_go (ds' := [(14, 47), (15, 48)]) (by kernel_rfl) ?_
                    simp only [givenD, List.getD_cons_zero, List.getD_cons_succ]
                    rintro _ rfl
                    rintro _ rfl
                    simp only [Act.put, List.setIfInBounds_toArray, List.set_cons_zero, List.set_cons_succ]
                    go_wp2_with fail
                    exact ⟨rfl, rfl, hC, Below.refl _ _, rfl⟩
                  · intro k9 w4 hC hk9
                    refine givenD_go (ds' := [(16, 49)]) (by kernel_rfl) ?_
                    simp only [givenD, List.getD_cons_zero, List.getD_cons_succ]
                    rintro _ rfl
                    simp only [Act.put, List.setIfInBounds_toArray, List.set_cons_zero, List.set_cons_succ]
                    have hcx := (hC.cell (World.block_lt_of_cell? wr _ HC2.out)).trans HC2.out
                    go_wp2_with fail
                    exact ⟨rfl, rfl, hC, Below.refl _ _, rfl⟩
                  · intro k9 w4 hC hk9
                    refine givenD_go (ds' := [(17, 50)]) (by kernel_rfl) ?_
                    simp only [givenD, List.getD_cons_zero, List.getD_cons_succ]
                    rintro _ rfl
                    simp only [Act.put, List.setIfInBounds_toArray, List.set_cons_zero, List.set_cons_succ]
                    go_wp2_with fail
                    exact ⟨rfl, rfl, hC, Below.refl _ _, rfl⟩
                  · intro k9 w4 hC hk9
                    refine givenD_go (ds' := [(18, 51)]) (by kernel_rfl) ?_
                    simp only [givenD, List.getD_cons_zero, List.getD_cons_succ]
                    rintro _ rfl
                    simp only [Act.put, List.setIfInBounds_toArray, List.set_cons_zero, List.set_cons_succ]
                    go_wp2_with fail
                    refine (l6Dec_any q _ hd2).mono ?_
                    rintro e w5 ⟨rfl, hb5⟩
                    go_wp2_with fail
                    exact ⟨rfl, rfl, hC.trans (hb5.mono hC.size), hb5, rfl⟩
                  · intro k9 w4 hC hk9
                    refine givenD_go (ds' := [(10, 43), (19, 52)]) (by kernel_rfl) ?_
                    simp only [givenD, List.getD_cons_zero, List.getD_cons_succ]
                    rintro _ rfl
                    rintro _ rfl
                    simp only [Act.put, List.setIfInBounds_toArray, List.set_cons_zero, List.set_cons_succ]
                    go_wp2_with fail
                    exact ⟨rfl, rfl, hC, Below.refl _ _, rfl⟩
                  · intro k9 w4 hC hk9
                    refine givenD_go (ds' := [(20, 53)]) (by kernel_rfl) ?_
                    simp only [givenD, List.getD_cons_zero, List.getD_cons_succ]
                    rintro _ rfl
                    simp only [Act.put, List.setIfInBounds_toArray, List.set_cons_zero, List.set_cons_succ]
                    go_wp2_with fail
                    exact ⟨rfl, rfl, hC, Below.refl _ _, rfl⟩
                · intro w4 hC
                  simp only [givenAll, List.getD_cons_zero, List.getD_cons_succ]
                  rintro _ rfl _ rfl _ rfl _ rfl _ rfl _ rfl _ rfl _ rfl _ rfl _ rfl _ rfl _ rfl _ rfl _ rfl _ rfl _ rfl _ rfl _ rfl _ rfl _ rfl _ rfl _ rfl
                  simp only [Act.put, List.setIfInBounds_toArray, List.set_cons_zero, List.set_cons_succ]
                  have hB4 := hB1.trans (hC.mono hB1.size)
                  generalize s ++ digB p ++ digB q = s9 at *
                  clear e1 e2 e3 e4
                  go_wp2_with fail
                  go_roundw
                  case rel => exact ⟨c + 1, s9, by omega, rfl, by go_num, HS9.out, hB4⟩
                  case measure => simp [intOf]; omega
              · have d3 : 0 < c := by omega
                have HS2 : Hid (s ++ ⟨#[32]⟩ = ⟨(preT C g r ++ preC (g r) c).toArray⟩) := by
                  show _ = _
                  rw [show preC (g r) c = rowT (g r) c ++ [32] from if_neg hc0, HS.out, show (⟨#[32]⟩ : ByteArray) = ⟨[(32 : UInt8)].toArray⟩ from rfl, ByteArray.mk_append_mk, List.append_assoc]
                have hsz : (s ++ (⟨#[32]⟩ : ByteArray)).size ≤ 1001 := by rw [ByteArray.size_append]; show s.size + 1 ≤ 1001; omega
                clear hc0 HS
                go_upto_region 12 with (fail)
                clear d3
                generalize s ++ ⟨#[32]⟩ = s2 at *
                clear hs0
                have hs0 := hsz
                have HS := HS2
                clear HS2 hsz
                obtain ⟨s, hs⟩ : ∃ s : ByteArray, s = s2 := ⟨_, rfl⟩
                rw [← hs] at HS hs0 ⊢
                clear hs
                obtain ⟨B2, o2, rfl, hcx2⟩ := HRw.out c hltc
                obtain ⟨hx0, hx9⟩ := HR.out r c hlt hltc
                have HE := Lib.hid (rowT_succ (g r) c)
                clear HRw
                generalize g r c = x at *
                obtain ⟨x, rfl⟩ := Int.eq_ofNat_of_zero_le hx0
                have HC1 := Lib.hid hc2
                have HC2 := Lib.hid hcx2
                have e1 : Int.tdiv (x : Int) 10 = ((x / 10 : Nat) : Int) := by rw [Int.tdiv_eq_ediv_of_nonneg (by omega)]; omega
                have e2 : (x : Int) / 10 = ((x / 10 : Nat) : Int) := by omega
                have e3 : Int.tmod (x : Int) 10 = ((x % 10 : Nat) : Int) := by rw [Int.tmod_eq_emod_of_nonneg (by omega)]; omega
                have e4 : (x : Int) % 10 = ((x % 10 : Nat) : Int) := by omega
                have hd1 : x / 10 ≤ 9 := by omega
                have hd2 : x % 10 ≤ 9 := by omega
                have HC9 : Hid (cellT (x : Int) = [UInt8.ofNat (48 + x / 10), UInt8.ofNat (48 + x % 10)]) := rfl
                rw [HC9.out] at HE
                clear HC9
                generalize x / 10 = p at *
                generalize x % 10 = q at *
                have hz1 := digB_size p
                have hz2 := digB_size q
                have HS9 : Hid (s ++ digB p ++ digB q = ⟨(preT C g r ++ rowT (g r) (c + 1)).toArray⟩) := by
                  show _ = _
                  rw [HE.out, HS.out]
                  unfold digB
                  rw [show (⟨#[UInt8.ofNat (48 + p)]⟩ : ByteArray) = ⟨[UInt8.ofNat (48 + p)].toArray⟩ from rfl, show (⟨#[UInt8.ofNat (48 + q)]⟩ : ByteArray) = ⟨[UInt8.ofNat (48 + q)].toArray⟩ from rfl, ByteArray.mk_append_mk, ByteArray.mk_append_mk]
                  simp
                clear hc2 hcx2
                go_wp2_with fail
                refine wp_region_phi (N := 22) (C := fun _ w4 => Below wr.heap.size wr w4) (R := fun w4 w5 => Below w4.heap.size w4 w5) (φ := fun j v w4 => ([fun v _ => v = .string s, fun v _ => v = .slice (some ⟨B, o, none⟩) n cp, fun v _ => v = .int .i64 (r : Int), fun v _ => v = .pointer (some ⟨B, o + r, none⟩), fun v _ => v = .slice (some ⟨B2, o2, none⟩) C c2, fun v _ => v = .int .i64 (c : Int), fun v _ => v = .pointer (some ⟨B2, o2 + c, none⟩), fun v _ => v = .int .i64 (x : Int), fun v _ => v = .int .i64 (p : Int), fun v _ => v = .string (digB p), fun v _ => v = .string (s ++ digB p), fun v _ => v = .slice (some ⟨B, o, none⟩) n cp, fun v _ => v = .int .i64 (r : Int), fun v _ => v = .pointer (some ⟨B, o + r, none⟩), fun v _ => v = .slice (some ⟨B2, o2, none⟩) C c2, fun v _ => v = .int .i64 (c : Int), fun v _ => v = .pointer (some ⟨B2, o2 + c, none⟩), fun v _ => v = .int .i64 (x : Int), fun v _ => v = .int .i64 (q : Int), fun v _ => v = .string (digB q), fun v _ => v = .string (s ++ digB p ++ digB q), fun v _ => v = .string (s ++ digB p ++ digB q)] : List (Value → World → Prop)).getD j (fun _ _ => True) v w4) (by kernel_rfl) (by kernel_rfl) (by kernel_rfl) ?_ (Below.refl _ _).drew ?_ ?_
                · intro j v w4 w5 hb hv
                  match j with
                  | 0 | 1 | 2 | 3 | 4 | 5 | 6 | 7 | 8 | 9 | 10 | 11 | 12 | 13 | 14 | 15 | 16 | 17 | 18 | 19 | 20 | 21 => exact hv
                  | j + 22 => exact hv
                · refine ⟨?_, ?_, ?_, ?_, ?_, ?_, ?_, ?_, ?_, ?_, ?_, ?_, ?_, ?_, ?_, ?_, ?_, ?_, ?_, ?_, ?_, ?_, trivial⟩
                  · intro k9 w4 hC hk9
                    refine givenD_go (ds' := []) (by kernel_rfl) ?_
                    simp only [givenD, List.getD_cons_zero, List.getD_cons_succ]
                    go_wp2_with fail
                    exact ⟨rfl, rfl, hC, Below.refl _ _, rfl⟩
                  · intro k9 w4 hC hk9
                    refine givenD_go (ds' := []) (by kernel_rfl) ?_
                    simp only [givenD, List.getD_cons_zero, List.getD_cons_succ]
                    go_wp2_with fail
                    exact ⟨rfl, rfl, hC, Below.refl _ _, rfl⟩
                  · intro k9 w4 hC hk9
                    refine givenD_go (ds' := []) (by kernel_rfl) ?_
                    simp only [givenD, List.getD_cons_zero, List.getD_cons_succ]
                    go_wp2_with fail
                    exact ⟨rfl, rfl, hC, Below.refl _ _, rfl⟩
                  · intro k9 w4 hC hk9
                    refine givenD_go (ds' := [(1, 34), (2, 35)]) (by kernel_rfl) ?_
                    simp only [givenD, List.getD_cons_zero, List.getD_cons_succ]
                    rintro _ rfl
                    rintro _ rfl
                    simp only [Act.put, List.setIfInBounds_toArray, List.set_cons_zero, List.set_cons_succ]
                    go_wp2_with fail
                    exact ⟨rfl, rfl, hC, Below.refl _ _, rfl⟩
                  · intro k9 w4 hC hk9
                    refine givenD_go (ds' := [(3, 36)]) (by kernel_rfl) ?_
                    simp only [givenD, List.getD_cons_zero, List.getD_cons_succ]
                    rintro _ rfl
                    simp only [Act.put, List.setIfInBounds_toArray, List.set_cons_zero, List.set_cons_succ]
                    have hcx := (hC.cell (World.block_lt_of_cell? wr _ HC1.out)).trans HC1.out
                    go_wp2_with fail
                    exact ⟨rfl, rfl, hC, Below.refl _ _, rfl⟩
                  · intro k9 w4 hC hk9
                    refine givenD_go (ds' := []) (by kernel_rfl) ?_
                    simp only [givenD, List.getD_cons_zero, List.getD_cons_succ]
                    go_wp2_with fail
                    exact ⟨rfl, rfl, hC, Below.refl _ _, rfl⟩
                  · intro k9 w4 hC hk9
                    refine givenD_go (ds' := [(4, 37), (5, 38)]) (by kernel_rfl) ?_
                    simp only [givenD, List.getD_cons_zero, List.getD_cons_succ]
                    rintro _ rfl
                    rintro _ rfl
                    simp only [Act.put, List.setIfInBounds_toArray, List.set_cons_zero, List.set_cons_succ]
                    go_wp2_with fail
                    exact ⟨rfl, rfl, hC, Below.refl _ _, rfl⟩
                  · intro k9 w4 hC hk9
                    refine givenD_go (ds' := [(6, 39)]) (by kernel_rfl) ?_
                    simp only [givenD, List.getD_cons_zero, List.getD_cons_succ]
                    rintro _ rfl
                    simp only [Act.put, List.setIfInBounds_toArray, List.set_cons_zero, List.set_cons_succ]
                    have hcx := (hC.cell (World.block_lt_of_cell? wr _ HC2.out)).trans HC2.out
                    go_wp2_with fail
                    exact ⟨rfl, rfl, hC, Below.refl _ _, rfl⟩
                  · intro k9 w4 hC hk9
                    refine givenD_go (ds' := [(7, 40)]) (by kernel_rfl) ?_
                    simp only [givenD, List.getD_cons_zero, List.getD_cons_succ]
                    rintro _ rfl
                    simp only [Act.put, List.setIfInBounds_toArray, List.set_cons_zero, List.set_cons_succ]
                    go_wp2_with fail
                    exact ⟨rfl, rfl, hC, Below.refl _ _, rfl⟩
                  · intro k9 w4 hC hk9
                    refine givenD_go (ds' := [(8, 41)]) (by kernel_rfl) ?_
                    simp only [givenD, List.getD_cons_zero, List.getD_cons_succ]
                    rintro _ rfl
                    simp only [Act.put, List.setIfInBounds_toArray, List.set_cons_zero, List.set_cons_succ]
                    go_wp2_with fail
                    refine (l6Dec_any p _ hd1).mono ?_
                    rintro e w5 ⟨rfl, hb5⟩
                    go_wp2_with fail
                    exact ⟨rfl, rfl, hC.trans (hb5.mono hC.size), hb5, rfl⟩
                  · intro k9 w4 hC hk9
                    refine givenD_go (ds' := [(0, 33), (9, 42)]) (by kernel_rfl) ?_
                    simp only [givenD, List.getD_cons_zero, List.getD_cons_succ]
                    rintro _ rfl
                    rintro _ rfl
                    simp only [Act.put, List.setIfInBounds_toArray, List.set_cons_zero, List.set_cons_succ]
                    go_wp2_with fail
                    exact ⟨rfl, rfl, hC, Below.refl _ _, rfl⟩
                  · intro k9 w4 hC hk9
                    refine givenD_go (ds' := []) (by kernel_rfl) ?_
                    simp only [givenD, List.getD_cons_zero, List.getD_cons_succ]
                    go_wp2_with fail
                    exact ⟨rfl, rfl, hC, Below.refl _ _, rfl⟩
                  · intro k9 w4 hC hk9
                    refine givenD_go (ds' := []) (by kernel_rfl) ?_
                    simp only [givenD, List.getD_cons_zero, List.getD_cons_succ]
                    go_wp2_with fail
                    exact ⟨rfl, rfl, hC, Below.refl _ _, rfl⟩
                  · intro k9 w4 hC hk9
                    refine givenD_go (ds' := [(11, 44), (12, 45)]) (by kernel_rfl) ?_
                    simp only [givenD, List.getD_cons_zero, List.getD_cons_succ]
                    rintro _ rfl
                    rintro _ rfl
                    simp only [Act.put, List.setIfInBounds_toArray, List.set_cons_zero, List.set_cons_succ]
                    go_wp2_with fail
                    exact ⟨rfl, rfl, hC, Below.refl _ _, rfl⟩
                  · intro k9 w4 hC hk9
                    refine givenD_go (ds' := [(13, 46)]) (by kernel_rfl) ?_
                    simp only [givenD, List.getD_cons_zero, List.getD_cons_succ]
                    rintro _ rfl
                    simp only [Act.put, List.setIfInBounds_toArray, List.set_cons_zero, List.set_cons_succ]
                    have hcx := (hC.cell (World.block_lt_of_cell? wr _ HC1.out)).trans HC1.out
                    go_wp2_with fail
                    exact ⟨rfl, rfl, hC, Below.refl _ _, rfl⟩
                  · intro k9 w4 hC hk9
                    refine givenD_go (ds' := []) (by kernel_rfl) ?_
                    simp only [givenD, List.getD_cons_zero, List.getD_cons_succ]
                    go_wp2_with fail
                    exact ⟨rfl, rfl, hC, Below.refl _ _, rfl⟩
                  · intro k9 w4 hC hk9
                    refine givenD_go (ds' := [(14, 47), (15, 48)]) (by kernel_rfl) ?_
                    simp only [givenD, List.getD_cons_zero, List.getD_cons_succ]
                    rintro _ rfl
                    rintro _ rfl
                    simp only [Act.put, List.setIfInBounds_toArray, List.set_cons_zero, List.set_cons_succ]
                    go_wp2_with fail
                    exact ⟨rfl, rfl, hC, Below.refl _ _, rfl⟩
                  · intro k9 w4 hC hk9
                    refine givenD_go (ds' := [(16, 49)]) (by kernel_rfl) ?_
                    simp only [givenD, List.getD_cons_zero, List.getD_cons_succ]
                    rintro _ rfl
                    simp only [Act.put, List.setIfInBounds_toArray, List.set_cons_zero, List.set_cons_succ]
                    have hcx := (hC.cell (World.block_lt_of_cell? wr _ HC2.out)).trans HC2.out
                    go_wp2_with fail
                    exact ⟨rfl, rfl, hC, Below.refl _ _, rfl⟩
                  · intro k9 w4 hC hk9
                    refine givenD_go (ds' := [(17, 50)]) (by kernel_rfl) ?_
                    simp only [givenD, List.getD_cons_zero, List.getD_cons_succ]
                    rintro _ rfl
                    simp only [Act.put, List.setIfInBounds_toArray, List.set_cons_zero, List.set_cons_succ]
                    go_wp2_with fail
                    exact ⟨rfl, rfl, hC, Below.refl _ _, rfl⟩
                  · intro k9 w4 hC hk9
                    refine givenD_go (ds' := [(18, 51)]) (by kernel_rfl) ?_
                    simp only [givenD, List.getD_cons_zero, List.getD_cons_succ]
                    rintro _ rfl
                    simp only [Act.put, List.setIfInBounds_toArray, List.set_cons_zero, List.set_cons_succ]
                    go_wp2_with fail
                    refine (l6Dec_any q _ hd2).mono ?_
                    rintro e w5 ⟨rfl, hb5⟩
                    go_wp2_with fail
                    exact ⟨rfl, rfl, hC.trans (hb5.mono hC.size), hb5, rfl⟩
                  · intro k9 w4 hC hk9
                    refine givenD_go (ds' := [(10, 43), (19, 52)]) (by kernel_rfl) ?_
                    simp only [givenD, List.getD_cons_zero, List.getD_cons_succ]
                    rintro _ rfl
                    rintro _ rfl
                    simp only [Act.put, List.setIfInBounds_toArray, List.set_cons_zero, List.set_cons_succ]
                    go_wp2_with fail
                    exact ⟨rfl, rfl, hC, Below.refl _ _, rfl⟩
                  · intro k9 w4 hC hk9
                    refine givenD_go (ds' := [(20, 53)]) (by kernel_rfl) ?_
                    simp only [givenD, List.getD_cons_zero, List.getD_cons_succ]
                    rintro _ rfl
                    simp only [Act.put, List.setIfInBounds_toArray, List.set_cons_zero, List.set_cons_succ]
                    go_wp2_with fail
                    exact ⟨rfl, rfl, hC, Below.refl _ _, rfl⟩
                · intro w4 hC
                  simp only [givenAll, List.getD_cons_zero, List.getD_cons_succ]
                  rintro _ rfl _ rfl _ rfl _ rfl _ rfl _ rfl _ rfl _ rfl _ rfl _ rfl _ rfl _ rfl _ rfl _ rfl _ rfl _ rfl _ rfl _ rfl _ rfl _ rfl _ rfl _ rfl
                  simp only [Act.put, List.setIfInBounds_toArray, List.set_cons_zero, List.set_cons_succ]
                  have hB4 := hB1.trans (hC.mono hB1.size)
                  generalize s ++ digB p ++ digB q = s9 at *
                  clear e1 e2 e3 e4
                  go_wp2_with fail
                  go_roundw
                  case rel => exact ⟨c + 1, s9, by omega, rfl, by go_num, HS9.out, hB4⟩
                  case measure => simp [intOf]; omega
            · have HCc : Hid (c = C) := by show c = C; omega
              obtain ⟨B', o', A3, c3, hA3, hcr, _, _⟩ := (HG.out.below hB1) r hlt
              subst hA3
              rw [HLr.out r hlt] at hcr
              have HS5 : Hid (s = ⟨(gridT C g (r + 1)).toArray⟩) := by
                have := HS.out; rw [HCc.out] at this; show _ = _; rw [gridT_succ]; exact this
              go_wp2_with fail
              go_roundw
              case rel => exact ⟨r + 1, s, by omega, rfl, by go_num, HS5.out, hB1⟩
              case measure => simp [intOf]; omega
        · have d2 : 0 < r := by omega
          have HS2 : Hid (s ++ ⟨#[47]⟩ = ⟨(preT C g r).toArray⟩) := by
            show _ = _
            rw [show preT C g r = gridT C g r ++ [47] from if_neg hr0, HS.out, show (⟨#[47]⟩ : ByteArray) = ⟨[(47 : UInt8)].toArray⟩ from rfl, ByteArray.mk_append_mk]
          clear hr0 HS hB1 hb2
          go_wp2_with fail
          go_loopw [3, 5] (fun sv i wi => ∃ (c : Nat) (s : ByteArray), c ≤ C ∧ sv = .string s ∧ i = .int .i64 c ∧ Hid (s = ⟨(preT C g r ++ rowT (g r) c).toArray⟩) ∧ Below w.heap.size w wi) (fun _ i _ => C - (intOf i).toNat)
          case atStart => exact ⟨0, _, Nat.zero_le _, rfl, rfl, by show _ = _; rw [show preT C g r ++ rowT (g r) 0 = preT C g r from List.append_nil _]; exact HS2.out, hB2⟩
          case round =>
            clear HS2 hB2
            obtain ⟨c, s, hc, rfl, rfl, HS, hB1⟩ := hrel
            have HLn := Lib.hid (preT_len g hlt hn2 hl1 hl2 hc)
            have hs0 : s.size ≤ 1000 := by rw [HS.out]; simpa [ByteArray.size] using HLn.out.1
            by_cases hltc : c < C
            · obtain ⟨B, o, A2, c2, hAe, hc2, _, hrow⟩ := (HG.out.below hB1) r hlt
              subst hAe
              rw [HLr.out r hlt] at hc2 hrow
              have HRw := Lib.hid hrow
              clear hrow
              by_cases hc0 : c = 0
              · have d3 : decide (0 < c) = false := decide_eq_false (by omega)
                have HS2 : Hid (s = ⟨(preT C g r ++ preC (g r) c).toArray⟩) := by
                  show _ = _
                  rw [show preC (g r) c = rowT (g r) c from if_pos hc0]; exact HS.out
                clear HS hc0
                have HS := HS2
                clear HS2
                go_upto_region 12 with (fail)
                clear d3
                obtain ⟨B2, o2, rfl, hcx2⟩ := HRw.out c hltc
                obtain ⟨hx0, hx9⟩ := HR.out r c hlt hltc
                have HE := Lib.hid (rowT_succ (g r) c)
                clear HRw
                generalize g r c = x at *
                obtain ⟨x, rfl⟩ := Int.eq_ofNat_of_zero_le hx0
                have HC1 := Lib.hid hc2
                have HC2 := Lib.hid hcx2
                have e1 : Int.tdiv (x : Int) 10 = ((x / 10 : Nat) : Int) := by rw [Int.tdiv_eq_ediv_of_nonneg (by omega)]; omega
                have e2 : (x : Int) / 10 = ((x / 10 : Nat) : Int) := by omega
                have e3 : Int.tmod (x : Int) 10 = ((x % 10 : Nat) : Int) := by rw [Int.tmod_eq_emod_of_nonneg (by omega)]; omega
                have e4 : (x : Int) % 10 = ((x % 10 : Nat) : Int) := by omega
                have hd1 : x / 10 ≤ 9 := by omega
                have hd2 : x % 10 ≤ 9 := by omega
                have HC9 : Hid (cellT (x : Int) = [UInt8.ofNat (48 + x / 10), UInt8.ofNat (48 + x % 10)]) := rfl
                rw [HC9.out] at HE
                clear HC9
                generalize x / 10 = p at *
                generalize x % 10 = q at *
                have hz1 := digB_size p
                have hz2 := digB_size q
                have HS9 : Hid (s ++ digB p ++ digB q = ⟨(preT C g r ++ rowT (g r) (c + 1)).toArray⟩) := by
                  show _ = _
                  rw [HE.out, HS.out]
                  unfold digB
                  rw [show (⟨#[UInt8.ofNat (48 + p)]⟩ : ByteArray) = ⟨[UInt8.ofNat (48 + p)].toArray⟩ from rfl, show (⟨#[UInt8.ofNat (48 + q)]⟩ : ByteArray) = ⟨[UInt8.ofNat (48 + q)].toArray⟩ from rfl, ByteArray.mk_append_mk, ByteArray.mk_append_mk]
                  simp
                clear hc2 hcx2
                go_wp2_with fail
                refine wp_region_phi (N := 22) (C := fun _ w4 => Below wr.heap.size wr w4) (R := fun w4 w5 => Below w4.heap.size w4 w5) (φ := fun j v w4 => ([fun v _ => v = .string s, fun v _ => v = .slice (some ⟨B, o, none⟩) n cp, fun v _ => v = .int .i64 (r : Int), fun v _ => v = .pointer (some ⟨B, o + r, none⟩), fun v _ => v = .slice (some ⟨B2, o2, none⟩) C c2, fun v _ => v = .int .i64 (c : Int), fun v _ => v = .pointer (some ⟨B2, o2 + c, none⟩), fun v _ => v = .int .i64 (x : Int), fun v _ => v = .int .i64 (p : Int), fun v _ => v = .string (digB p), fun v _ => v = .string (s ++ digB p), fun v _ => v = .slice (some ⟨B, o, none⟩) n cp, fun v _ => v = .int .i64 (r : Int), fun v _ => v = .pointer (some ⟨B, o + r, none⟩), fun v _ => v = .slice (some ⟨B2, o2, none⟩) C c2, fun v _ => v = .int .i64 (c : Int), fun v _ => v = .pointer (some ⟨B2, o2 + c, none⟩), fun v _ => v = .int .i64 (x : Int), fun v _ => v = .int .i64 (q : Int), fun v _ => v = .string (digB q), fun v _ => v = .string (s ++ digB p ++ digB q), fun v _ => v = .string (s ++ digB p ++ digB q)] : List (Value → World → Prop)).getD j (fun _ _ => True) v w4) (by kernel_rfl) (by kernel_rfl) (by kernel_rfl) ?_ (Below.refl _ _).drew ?_ ?_
                · intro j v w4 w5 hb hv
                  match j with
                  | 0 | 1 | 2 | 3 | 4 | 5 | 6 | 7 | 8 | 9 | 10 | 11 | 12 | 13 | 14 | 15 | 16 | 17 | 18 | 19 | 20 | 21 => exact hv
                  | j + 22 => exact hv
                · refine ⟨?_, ?_, ?_, ?_, ?_, ?_, ?_, ?_, ?_, ?_, ?_, ?_, ?_, ?_, ?_, ?_, ?_, ?_, ?_, ?_, ?_, ?_, trivial⟩
                  · intro k9 w4 hC hk9
                    refine givenD_go (ds' := []) (by kernel_rfl) ?_
                    simp only [givenD, List.getD_cons_zero, List.getD_cons_succ]
                    go_wp2_with fail
                    exact ⟨rfl, rfl, hC, Below.refl _ _, rfl⟩
                  · intro k9 w4 hC hk9
                    refine givenD_go (ds' := []) (by kernel_rfl) ?_
                    simp only [givenD, List.getD_cons_zero, List.getD_cons_succ]
                    go_wp2_with fail
                    exact ⟨rfl, rfl, hC, Below.refl _ _, rfl⟩
                  · intro k9 w4 hC hk9
                    refine givenD_go (ds' := []) (by kernel_rfl) ?_
                    simp only [givenD, List.getD_cons_zero, List.getD_cons_succ]
                    go_wp2_with fail
                    exact ⟨rfl, rfl, hC, Below.refl _ _, rfl⟩
                  · intro k9 w4 hC hk9
                    refine givenD_go (ds' := [(1, 34), (2, 35)]) (by kernel_rfl) ?_
                    simp only [givenD, List.getD_cons_zero, List.getD_cons_succ]
                    rintro _ rfl
                    rintro _ rfl
                    simp only [Act.put, List.setIfInBounds_toArray, List.set_cons_zero, List.set_cons_succ]
                    go_wp2_with fail
                    exact ⟨rfl, rfl, hC, Below.refl _ _, rfl⟩
                  · intro k9 w4 hC hk9
                    refine givenD_go (ds' := [(3, 36)]) (by kernel_rfl) ?_
                    simp only [givenD, List.getD_cons_zero, List.getD_cons_succ]
                    rintro _ rfl
                    simp only [Act.put, List.setIfInBounds_toArray, List.set_cons_zero, List.set_cons_succ]
                    have hcx := (hC.cell (World.block_lt_of_cell? wr _ HC1.out)).trans HC1.out
                    go_wp2_with fail
                    exact ⟨rfl, rfl, hC, Below.refl _ _, rfl⟩
                  · intro k9 w4 hC hk9
                    refine givenD_go (ds' := []) (by kernel_rfl) ?_
                    simp only [givenD, List.getD_cons_zero, List.getD_cons_succ]
                    go_wp2_with fail
                    exact ⟨rfl, rfl, hC, Below.refl _ _, rfl⟩
                  · intro k9 w4 hC hk9
                    refine givenD_go (ds' := [(4, 37), (5, 38)]) (by kernel_rfl) ?_
                    simp only [givenD, List.getD_cons_zero, List.getD_cons_succ]
                    rintro _ rfl
                    rintro _ rfl
                    simp only [Act.put, List.setIfInBounds_toArray, List.set_cons_zero, List.set_cons_succ]
                    go_wp2_with fail
                    exact ⟨rfl, rfl, hC, Below.refl _ _, rfl⟩
                  · intro k9 w4 hC hk9
                    refine givenD_go (ds' := [(6, 39)]) (by kernel_rfl) ?_
                    simp only [givenD, List.getD_cons_zero, List.getD_cons_succ]
                    rintro _ rfl
                    simp only [Act.put, List.setIfInBounds_toArray, List.set_cons_zero, List.set_cons_succ]
                    have hcx := (hC.cell (World.block_lt_of_cell? wr _ HC2.out)).trans HC2.out
                    go_wp2_with fail
                    exact ⟨rfl, rfl, hC, Below.refl _ _, rfl⟩
                  · intro k9 w4 hC hk9
                    refine givenD_go (ds' := [(7, 40)]) (by kernel_rfl) ?_
                    simp only [givenD, List.getD_cons_zero, List.getD_cons_succ]
                    rintro _ rfl
                    simp only [Act.put, List.setIfInBounds_toArray, List.set_cons_zero, List.set_cons_succ]
                    go_wp2_with fail
                    exact ⟨rfl, rfl, hC, Below.refl _ _, rfl⟩
                  · intro k9 w4 hC hk9
                    refine givenD_go (ds' := [(8, 41)]) (by kernel_rfl) ?_
                    simp only [givenD, List.getD_cons_zero, List.getD_cons_succ]
                    rintro _ rfl
                    simp only [Act.put, List.setIfInBounds_toArray, List.set_cons_zero, List.set_cons_succ]
                    go_wp2_with fail
                    refine (l6Dec_any p _ hd1).mono ?_
                    rintro e w5 ⟨rfl, hb5⟩
                    go_wp2_with fail
                    exact ⟨rfl, rfl, hC.trans (hb5.mono hC.size), hb5, rfl⟩
                  · intro k9 w4 hC hk9
                    refine givenD_go (ds' := [(0, 33), (9, 42)]) (by kernel_rfl) ?_
                    simp only [givenD, List.getD_cons_zero, List.getD_cons_succ]
                    rintro _ rfl
                    rintro _ rfl
                    simp only [Act.put, List.setIfInBounds_toArray, List.set_cons_zero, List.set_cons_succ]
                    go_wp2_with fail
                    exact ⟨rfl, rfl, hC, Below.refl _ _, rfl⟩
                  · intro k9 w4 hC hk9
                    refine givenD_go (ds' := []) (by kernel_rfl) ?_
                    simp only [givenD, List.getD_cons_zero, List.getD_cons_succ]
                    go_wp2_with fail
                    exact ⟨rfl, rfl, hC, Below.refl _ _, rfl⟩
                  · intro k9 w4 hC hk9
                    refine givenD_go (ds' := []) (by kernel_rfl) ?_
                    simp only [givenD, List.getD_cons_zero, List.getD_cons_succ]
                    go_wp2_with fail
                    exact ⟨rfl, rfl, hC, Below.refl _ _, rfl⟩
                  · intro k9 w4 hC hk9
                    refine givenD_go (ds' := [(11, 44), (12, 45)]) (by kernel_rfl) ?_
                    simp only [givenD, List.getD_cons_zero, List.getD_cons_succ]
                    rintro _ rfl
                    rintro _ rfl
                    simp only [Act.put, List.setIfInBounds_toArray, List.set_cons_zero, List.set_cons_succ]
                    go_wp2_with fail
                    exact ⟨rfl, rfl, hC, Below.refl _ _, rfl⟩
                  · intro k9 w4 hC hk9
                    refine givenD_go (ds' := [(13, 46)]) (by kernel_rfl) ?_
                    simp only [givenD, List.getD_cons_zero, List.getD_cons_succ]
                    rintro _ rfl
                    simp only [Act.put, List.setIfInBounds_toArray, List.set_cons_zero, List.set_cons_succ]
                    have hcx := (hC.cell (World.block_lt_of_cell? wr _ HC1.out)).trans HC1.out
                    go_wp2_with fail
                    exact ⟨rfl, rfl, hC, Below.refl _ _, rfl⟩
                  · intro k9 w4 hC hk9
                    refine givenD_go (ds' := []) (by kernel_rfl) ?_
                    simp only [givenD, List.getD_cons_zero, List.getD_cons_succ]
                    go_wp2_with fail
                    exact ⟨rfl, rfl, hC, Below.refl _ _, rfl⟩
                  · intro k9 w4 hC hk9
                    refine givenD_go (ds' := [(14, 47), (15, 48)]) (by kernel_rfl) ?_
                    simp only [givenD, List.getD_cons_zero, List.getD_cons_succ]
                    rintro _ rfl
                    rintro _ rfl
                    simp only [Act.put, List.setIfInBounds_toArray, List.set_cons_zero, List.set_cons_succ]
                    go_wp2_with fail
                    exact ⟨rfl, rfl, hC, Below.refl _ _, rfl⟩
                  · intro k9 w4 hC hk9
                    refine givenD_go (ds' := [(16, 49)]) (by kernel_rfl) ?_
                    simp only [givenD, List.getD_cons_zero, List.getD_cons_succ]
                    rintro _ rfl
                    simp only [Act.put, List.setIfInBounds_toArray, List.set_cons_zero, List.set_cons_succ]
                    have hcx := (hC.cell (World.block_lt_of_cell? wr _ HC2.out)).trans HC2.out
                    go_wp2_with fail
                    exact ⟨rfl, rfl, hC, Below.refl _ _, rfl⟩
                  · intro k9 w4 hC hk9
                    refine givenD_go (ds' := [(17, 50)]) (by kernel_rfl) ?_
                    simp only [givenD, List.getD_cons_zero, List.getD_cons_succ]
                    rintro _ rfl
                    simp only [Act.put, List.setIfInBounds_toArray, List.set_cons_zero, List.set_cons_succ]
                    go_wp2_with fail
                    exact ⟨rfl, rfl, hC, Below.refl _ _, rfl⟩
                  · intro k9 w4 hC hk9
                    refine givenD_go (ds' := [(18, 51)]) (by kernel_rfl) ?_
                    simp only [givenD, List.getD_cons_zero, List.getD_cons_succ]
                    rintro _ rfl
                    simp only [Act.put, List.setIfInBounds_toArray, List.set_cons_zero, List.set_cons_succ]
                    go_wp2_with fail
                    refine (l6Dec_any q _ hd2).mono ?_
                    rintro e w5 ⟨rfl, hb5⟩
                    go_wp2_with fail
                    exact ⟨rfl, rfl, hC.trans (hb5.mono hC.size), hb5, rfl⟩
                  · intro k9 w4 hC hk9
                    refine givenD_go (ds' := [(10, 43), (19, 52)]) (by kernel_rfl) ?_
                    simp only [givenD, List.getD_cons_zero, List.getD_cons_succ]
                    rintro _ rfl
                    rintro _ rfl
                    simp only [Act.put, List.setIfInBounds_toArray, List.set_cons_zero, List.set_cons_succ]
                    go_wp2_with fail
                    exact ⟨rfl, rfl, hC, Below.refl _ _, rfl⟩
                  · intro k9 w4 hC hk9
                    refine givenD_go (ds' := [(20, 53)]) (by kernel_rfl) ?_
                    simp only [givenD, List.getD_cons_zero, List.getD_cons_succ]
                    rintro _ rfl
                    simp only [Act.put, List.setIfInBounds_toArray, List.set_cons_zero, List.set_cons_succ]
                    go_wp2_with fail
                    exact ⟨rfl, rfl, hC, Below.refl _ _, rfl⟩
                · intro w4 hC
                  simp only [givenAll, List.getD_cons_zero, List.getD_cons_succ]
                  rintro _ rfl _ rfl _ rfl _ rfl _ rfl _ rfl _ rfl _ rfl _ rfl _ rfl _ rfl _ rfl _ rfl _ rfl _ rfl _ rfl _ rfl _ rfl _ rfl _ rfl _ rfl _ rfl
                  simp only [Act.put, List.setIfInBounds_toArray, List.set_cons_zero, List.set_cons_succ]
                  have hB4 := hB1.trans (hC.mono hB1.size)
                  generalize s ++ digB p ++ digB q = s9 at *
                  clear e1 e2 e3 e4
                  go_wp2_with fail
                  go_roundw
                  case rel => exact ⟨c + 1, s9, by omega, rfl, by go_num, HS9.out, hB4⟩
                  case measure => simp [intOf]; omega
              · have d3 : 0 < c := by omega
                have HS2 : Hid (s ++ ⟨#[32]⟩ = ⟨(preT C g r ++ preC (g r) c).toArray⟩) := by
                  show _ = _
                  rw [show preC (g r) c = rowT (g r) c ++ [32] from if_neg hc0, HS.out, show (⟨#[32]⟩ : ByteArray) = ⟨[(32 : UInt8)].toArray⟩ from rfl, ByteArray.mk_append_mk, List.append_assoc]
                have hsz : (s ++ (⟨#[32]⟩ : ByteArray)).size ≤ 1001 := by rw [ByteArray.size_append]; show s.size + 1 ≤ 1001; omega
                clear hc0 HS
                go_upto_region 12 with (fail)
                clear d3
                generalize s ++ ⟨#[32]⟩ = s2 at *
                clear hs0
                have hs0 := hsz
                have HS := HS2
                clear HS2 hsz
                obtain ⟨s, hs⟩ : ∃ s : ByteArray, s = s2 := ⟨_, rfl⟩
                rw [← hs] at HS hs0 ⊢
                clear hs
                obtain ⟨B2, o2, rfl, hcx2⟩ := HRw.out c hltc
                obtain ⟨hx0, hx9⟩ := HR.out r c hlt hltc
                have HE := Lib.hid (rowT_succ (g r) c)
                clear HRw
                generalize g r c = x at *
                obtain ⟨x, rfl⟩ := Int.eq_ofNat_of_zero_le hx0
                have HC1 := Lib.hid hc2
                have HC2 := Lib.hid hcx2
                have e1 : Int.tdiv (x : Int) 10 = ((x / 10 : Nat) : Int) := by rw [Int.tdiv_eq_ediv_of_nonneg (by omega)]; omega
                have e2 : (x : Int) / 10 = ((x / 10 : Nat) : Int) := by omega
                have e3 : Int.tmod (x : Int) 10 = ((x % 10 : Nat) : Int) := by rw [Int.tmod_eq_emod_of_nonneg (by omega)]; omega
                have e4 : (x : Int) % 10 = ((x % 10 : Nat) : Int) := by omega
                have hd1 : x / 10 ≤ 9 := by omega
                have hd2 : x % 10 ≤ 9 := by omega
                have HC9 : Hid (cellT (x : Int) = [UInt8.ofNat (48 + x / 10), UInt8.ofNat (48 + x % 10)]) := rfl
                rw [HC9.out] at HE
                clear HC9
                generalize x / 10 = p at *
                generalize x % 10 = q at *
                have hz1 := digB_size p
                have hz2 := digB_size q
                have HS9 : Hid (s ++ digB p ++ digB q = ⟨(preT C g r ++ rowT (g r) (c + 1)).toArray⟩) := by
                  show _ = _
                  rw [HE.out, HS.out]
                  unfold digB
                  rw [show (⟨#[UInt8.ofNat (48 + p)]⟩ : ByteArray) = ⟨[UInt8.ofNat (48 + p)].toArray⟩ from rfl, show (⟨#[UInt8.ofNat (48 + q)]⟩ : ByteArray) = ⟨[UInt8.ofNat (48 + q)].toArray⟩ from rfl, ByteArray.mk_append_mk, ByteArray.mk_append_mk]
                  simp
                clear hc2 hcx2
                go_wp2_with fail
                refine wp_region_phi (N := 22) (C := fun _ w4 => Below wr.heap.size wr w4) (R := fun w4 w5 => Below w4.heap.size w4 w5) (φ := fun j v w4 => ([fun v _ => v = .string s, fun v _ => v = .slice (some ⟨B, o, none⟩) n cp, fun v _ => v = .int .i64 (r : Int), fun v _ => v = .pointer (some ⟨B, o + r, none⟩), fun v _ => v = .slice (some ⟨B2, o2, none⟩) C c2, fun v _ => v = .int .i64 (c : Int), fun v _ => v = .pointer (some ⟨B2, o2 + c, none⟩), fun v _ => v = .int .i64 (x : Int), fun v _ => v = .int .i64 (p : Int), fun v _ => v = .string (digB p), fun v _ => v = .string (s ++ digB p), fun v _ => v = .slice (some ⟨B, o, none⟩) n cp, fun v _ => v = .int .i64 (r : Int), fun v _ => v = .pointer (some ⟨B, o + r, none⟩), fun v _ => v = .slice (some ⟨B2, o2, none⟩) C c2, fun v _ => v = .int .i64 (c : Int), fun v _ => v = .pointer (some ⟨B2, o2 + c, none⟩), fun v _ => v = .int .i64 (x : Int), fun v _ => v = .int .i64 (q : Int), fun v _ => v = .string (digB q), fun v _ => v = .string (s ++ digB p ++ digB q), fun v _ => v = .string (s ++ digB p ++ digB q)] : List (Value → World → Prop)).getD j (fun _ _ => True) v w4) (by kernel_rfl) (by kernel_rfl) (by kernel_rfl) ?_ (Below.refl _ _).drew ?_ ?_
                · intro j v w4 w5 hb hv
                  match j with
                  | 0 | 1 | 2 | 3 | 4 | 5 | 6 | 7 | 8 | 9 | 10 | 11 | 12 | 13 | 14 | 15 | 16 | 17 | 18 | 19 | 20 | 21 => exact hv
                  | j + 22 => exact hv
                · refine ⟨?_, ?_, ?_, ?_, ?_, ?_, ?_, ?_, ?_, ?_, ?_, ?_, ?_, ?_, ?_, ?_, ?_, ?_, ?_, ?_, ?_, ?_, trivial⟩
                  · intro k9 w4 hC hk9
                    refine givenD_go (ds' := []) (by kernel_rfl) ?_
                    simp only [givenD, List.getD_cons_zero, List.getD_cons_succ]
                    go_wp2_with fail
                    exact ⟨rfl, rfl, hC, Below.refl _ _, rfl⟩
                  · intro k9 w4 hC hk9
                    refine givenD_go (ds' := []) (by kernel_rfl) ?_
                    simp only [givenD, List.getD_cons_zero, List.getD_cons_succ]
                    go_wp2_with fail
                    exact ⟨rfl, rfl, hC, Below.refl _ _, rfl⟩
                  · intro k9 w4 hC hk9
                    refine givenD_go (ds' := []) (by kernel_rfl) ?_
                    simp only [givenD, List.getD_cons_zero, List.getD_cons_succ]
                    go_wp2_with fail
                    exact ⟨rfl, rfl, hC, Below.refl _ _, rfl⟩
                  · intro k9 w4 hC hk9
                    refine givenD_go (ds' := [(1, 34), (2, 35)]) (by kernel_rfl) ?_
                    simp only [givenD, List.getD_cons_zero, List.getD_cons_succ]
                    rintro _ rfl
                    rintro _ rfl
                    simp only [Act.put, List.setIfInBounds_toArray, List.set_cons_zero, List.set_cons_succ]
                    go_wp2_with fail
                    exact ⟨rfl, rfl, hC, Below.refl _ _, rfl⟩
                  · intro k9 w4 hC hk9
                    refine givenD_go (ds' := [(3, 36)]) (by kernel_rfl) ?_
                    simp only [givenD, List.getD_cons_zero, List.getD_cons_succ]
                    rintro _ rfl
                    simp only [Act.put, List.setIfInBounds_toArray, List.set_cons_zero, List.set_cons_succ]
                    have hcx := (hC.cell (World.block_lt_of_cell? wr _ HC1.out)).trans HC1.out
                    go_wp2_with fail
                    exact ⟨rfl, rfl, hC, Below.refl _ _, rfl⟩
                  · intro k9 w4 hC hk9
                    refine givenD_go (ds' := []) (by kernel_rfl) ?_
                    simp only [givenD, List.getD_cons_zero, List.getD_cons_succ]
                    go_wp2_with fail
                    exact ⟨rfl, rfl, hC, Below.refl _ _, rfl⟩
                  · intro k9 w4 hC hk9
                    refine givenD_go (ds' := [(4, 37), (5, 38)]) (by kernel_rfl) ?_
                    simp only [givenD, List.getD_cons_zero, List.getD_cons_succ]
                    rintro _ rfl
                    rintro _ rfl
                    simp only [Act.put, List.setIfInBounds_toArray, List.set_cons_zero, List.set_cons_succ]
                    go_wp2_with fail
                    exact ⟨rfl, rfl, hC, Below.refl _ _, rfl⟩
                  · intro k9 w4 hC hk9
                    refine givenD_go (ds' := [(6, 39)]) (by kernel_rfl) ?_
                    simp only [givenD, List.getD_cons_zero, List.getD_cons_succ]
                    rintro _ rfl
                    simp only [Act.put, List.setIfInBounds_toArray, List.set_cons_zero, List.set_cons_succ]
                    have hcx := (hC.cell (World.block_lt_of_cell? wr _ HC2.out)).trans HC2.out
                    go_wp2_with fail
                    exact ⟨rfl, rfl, hC, Below.refl _ _, rfl⟩
                  · intro k9 w4 hC hk9
                    refine givenD_go (ds' := [(7, 40)]) (by kernel_rfl) ?_
                    simp only [givenD, List.getD_cons_zero, List.getD_cons_succ]
                    rintro _ rfl
                    simp only [Act.put, List.setIfInBounds_toArray, List.set_cons_zero, List.set_cons_succ]
                    go_wp2_with fail
                    exact ⟨rfl, rfl, hC, Below.refl _ _, rfl⟩
                  · intro k9 w4 hC hk9
                    refine givenD_go (ds' := [(8, 41)]) (by kernel_rfl) ?_
                    simp only [givenD, List.getD_cons_zero, List.getD_cons_succ]
                    rintro _ rfl
                    simp only [Act.put, List.setIfInBounds_toArray, List.set_cons_zero, List.set_cons_succ]
                    go_wp2_with fail
                    refine (l6Dec_any p _ hd1).mono ?_
                    rintro e w5 ⟨rfl, hb5⟩
                    go_wp2_with fail
                    exact ⟨rfl, rfl, hC.trans (hb5.mono hC.size), hb5, rfl⟩
                  · intro k9 w4 hC hk9
                    refine givenD_go (ds' := [(0, 33), (9, 42)]) (by kernel_rfl) ?_
                    simp only [givenD, List.getD_cons_zero, List.getD_cons_succ]
                    rintro _ rfl
                    rintro _ rfl
                    simp only [Act.put, List.setIfInBounds_toArray, List.set_cons_zero, List.set_cons_succ]
                    go_wp2_with fail
                    exact ⟨rfl, rfl, hC, Below.refl _ _, rfl⟩
                  · intro k9 w4 hC hk9
                    refine givenD_go (ds' := []) (by kernel_rfl) ?_
                    simp only [givenD, List.getD_cons_zero, List.getD_cons_succ]
                    go_wp2_with fail
                    exact ⟨rfl, rfl, hC, Below.refl _ _, rfl⟩
                  · intro k9 w4 hC hk9
                    refine givenD_go (ds' := []) (by kernel_rfl) ?_
                    simp only [givenD, List.getD_cons_zero, List.getD_cons_succ]
                    go_wp2_with fail
                    exact ⟨rfl, rfl, hC, Below.refl _ _, rfl⟩
                  · intro k9 w4 hC hk9
                    refine givenD_go (ds' := [(11, 44), (12, 45)]) (by kernel_rfl) ?_
                    simp only [givenD, List.getD_cons_zero, List.getD_cons_succ]
                    rintro _ rfl
                    rintro _ rfl
                    simp only [Act.put, List.setIfInBounds_toArray, List.set_cons_zero, List.set_cons_succ]
                    go_wp2_with fail
                    exact ⟨rfl, rfl, hC, Below.refl _ _, rfl⟩
                  · intro k9 w4 hC hk9
                    refine givenD_go (ds' := [(13, 46)]) (by kernel_rfl) ?_
                    simp only [givenD, List.getD_cons_zero, List.getD_cons_succ]
                    rintro _ rfl
                    simp only [Act.put, List.setIfInBounds_toArray, List.set_cons_zero, List.set_cons_succ]
                    have hcx := (hC.cell (World.block_lt_of_cell? wr _ HC1.out)).trans HC1.out
                    go_wp2_with fail
                    exact ⟨rfl, rfl, hC, Below.refl _ _, rfl⟩
                  · intro k9 w4 hC hk9
                    refine givenD_go (ds' := []) (by kernel_rfl) ?_
                    simp only [givenD, List.getD_cons_zero, List.getD_cons_succ]
                    go_wp2_with fail
                    exact ⟨rfl, rfl, hC, Below.refl _ _, rfl⟩
                  · intro k9 w4 hC hk9
                    refine givenD_go (ds' := [(14, 47), (15, 48)]) (by kernel_rfl) ?_
                    simp only [givenD, List.getD_cons_zero, List.getD_cons_succ]
                    rintro _ rfl
                    rintro _ rfl
                    simp only [Act.put, List.setIfInBounds_toArray, List.set_cons_zero, List.set_cons_succ]
                    go_wp2_with fail
                    exact ⟨rfl, rfl, hC, Below.refl _ _, rfl⟩
                  · intro k9 w4 hC hk9
                    refine givenD_go (ds' := [(16, 49)]) (by kernel_rfl) ?_
                    simp only [givenD, List.getD_cons_zero, List.getD_cons_succ]
                    rintro _ rfl
                    simp only [Act.put, List.setIfInBounds_toArray, List.set_cons_zero, List.set_cons_succ]
                    have hcx := (hC.cell (World.block_lt_of_cell? wr _ HC2.out)).trans HC2.out
                    go_wp2_with fail
                    exact ⟨rfl, rfl, hC, Below.refl _ _, rfl⟩
                  · intro k9 w4 hC hk9
                    refine givenD_go (ds' := [(17, 50)]) (by kernel_rfl) ?_
                    simp only [givenD, List.getD_cons_zero, List.getD_cons_succ]
                    rintro _ rfl
                    simp only [Act.put, List.setIfInBounds_toArray, List.set_cons_zero, List.set_cons_succ]
                    go_wp2_with fail
                    exact ⟨rfl, rfl, hC, Below.refl _ _, rfl⟩
                  · intro k9 w4 hC hk9
                    refine givenD_go (ds' := [(18, 51)]) (by kernel_rfl) ?_
                    simp only [givenD, List.getD_cons_zero, List.getD_cons_succ]
                    rintro _ rfl
                    simp only [Act.put, List.setIfInBounds_toArray, List.set_cons_zero, List.set_cons_succ]
                    go_wp2_with fail
                    refine (l6Dec_any q _ hd2).mono ?_
                    rintro e w5 ⟨rfl, hb5⟩
                    go_wp2_with fail
                    exact ⟨rfl, rfl, hC.trans (hb5.mono hC.size), hb5, rfl⟩
                  · intro k9 w4 hC hk9
                    refine givenD_go (ds' := [(10, 43), (19, 52)]) (by kernel_rfl) ?_
                    simp only [givenD, List.getD_cons_zero, List.getD_cons_succ]
                    rintro _ rfl
                    rintro _ rfl
                    simp only [Act.put, List.setIfInBounds_toArray, List.set_cons_zero, List.set_cons_succ]
                    go_wp2_with fail
                    exact ⟨rfl, rfl, hC, Below.refl _ _, rfl⟩
                  · intro k9 w4 hC hk9
                    refine givenD_go (ds' := [(20, 53)]) (by kernel_rfl) ?_
                    simp only [givenD, List.getD_cons_zero, List.getD_cons_succ]
                    rintro _ rfl
                    simp only [Act.put, List.setIfInBounds_toArray, List.set_cons_zero, List.set_cons_succ]
                    go_wp2_with fail
                    exact ⟨rfl, rfl, hC, Below.refl _ _, rfl⟩
                · intro w4 hC
                  simp only [givenAll, List.getD_cons_zero, List.getD_cons_succ]
                  rintro _ rfl _ rfl _ rfl _ rfl _ rfl _ rfl _ rfl _ rfl _ rfl _ rfl _ rfl _ rfl _ rfl _ rfl _ rfl _ rfl _ rfl _ rfl _ rfl _ rfl _ rfl _ rfl
                  simp only [Act.put, List.setIfInBounds_toArray, List.set_cons_zero, List.set_cons_succ]
                  have hB4 := hB1.trans (hC.mono hB1.size)
                  generalize s ++ digB p ++ digB q = s9 at *
                  clear e1 e2 e3 e4
                  go_wp2_with fail
                  go_roundw
                  case rel => exact ⟨c + 1, s9, by omega, rfl, by go_num, HS9.out, hB4⟩
                  case measure => simp [intOf]; omega
            · have HCc : Hid (c = C) := by show c = C; omega
              obtain ⟨B', o', A3, c3, hA3, hcr, _, _⟩ := (HG.out.below hB1) r hlt
              subst hA3
              rw [HLr.out r hlt] at hcr
              have HS5 : Hid (s = ⟨(gridT C g (r + 1)).toArray⟩) := by
                have := HS.out; rw [HCc.out] at this; show _ = _; rw [gridT_succ]; exact this
              go_wp2_with fail
              go_roundw
              case rel => exact ⟨r + 1, s, by omega, rfl, by go_num, HS5.out, hB1⟩
              case measure => simp [intOf]; omega
      · have HSn : Hid (s = ⟨(gridT C g n).toArray⟩) := by have := HS.out; rw [show r = n by omega] at this; exact this
        go_wp2_with fail
        go_ret
        exact HFin.out _ _ HSn.out hB1
    -- NO
  · have HT : Hid (textV n L g = []) := if_neg hv
    have HV := Lib.hid hv
    clear hv
    rw [HT.out]
    go_enter Tryd.func8, Tryd.ntmps8
    go_wp2_with fail
    go_loopw [3, 4] (fun sv i wr => sv = .string ⟨#[]⟩ ∧ i = .int .i64 0 ∧ Below w.heap.size w wr) (fun _ _ _ => 0)
    case atStart => exact ⟨rfl, rfl, Below.refl _ _⟩
    case round =>
      obtain ⟨rfl, rfl, hB1⟩ := hrel
      by_cases hn0 : 0 < n
      · go_wp2_with fail
        refine (specValid_no _ _ _ _ _ _ (HG.out.below hB1) hn HL.out HV.out).mono ?_
        rintro e w2 ⟨rfl, hb2⟩
        go_wp2_with fail
        go_ret
        exact ⟨rfl, hB1.trans (hb2.mono hB1.size)⟩
      · have d0 : decide (0 < n) = false := decide_eq_false hn0
        go_wp2_with fail
        go_ret
        exact ⟨rfl, hB1⟩

end Go.Proofs.YtkkkkgcijkjeoaaDoor
