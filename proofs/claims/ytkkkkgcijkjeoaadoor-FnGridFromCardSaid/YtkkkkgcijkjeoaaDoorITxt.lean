/- The text of a grid: what the program's function returns. -/
import Derived.Test.YtkkkkgcijkjeoaaDoorCor
import Derived.Test.YtkkkkgcijkjeoaaDoorA4
import Derived.Test.YtkkkkgcijkjeoaaDoorBld
import Derived.Test.YtkkkkgcijkjeoaaDoorPlX
import Derived.Test.YtkkkkgcijkjeoaaDoorShelf
import Derived.Test.YtkkkkgcijkjeoaaDoorITurn
import Derived.Deep.DeepCutAuto
namespace Go.Proofs.YtkkkkgcijkjeoaaDoor
set_option linter.unusedVariables false
set_option linter.unusedSimpArgs false
open Go.RowKit

theorem byteCells_snoc (l : List UInt8) (b : UInt8) : Lib.byteCells (l ++ [b]) = Lib.byteCells l ++ [.int .u8 (b.toNat : Nat)] := by simp [Lib.byteCells]

theorem size_bc (l : List UInt8) : (Lib.byteCells l).length = l.length := by simp [Lib.byteCells]
theorem isBuilder_keep {T e : TypeId} {B b : Nat} {bs : List Value} {w w' : World} (h : Lib.IsBuilder T e B b bs w) (hb : Below w.heap.size w w') : Lib.IsBuilder T e B b bs w' := by
  have key : ∀ p, Lib.BuilderAt T e B b p bs w → Lib.BuilderAt T e B b p bs w' := fun p hp => by
    have hlt := hp.lt
    obtain ⟨h1, v, h2, h3, h4⟩ := hp
    refine ⟨h1, v, (hb.block _ hlt).trans h2, ⟨h3.1, ?_⟩, h4⟩
    rcases h3.2 with h0 | ⟨g, cap, cur, rfl, hlo, hg, r⟩
    · exact .inl h0
    · exact .inr ⟨g, cap, cur, rfl, hlo, (hb.block g (lt_of_blk hg)).trans hg, r⟩
  exact h.imp (key _) (key _)
theorem Boxed.of {w w' : World} {Bf b R C N B : Nat} {h : Nat → Int} (H : Boxed w Bf b R C N h) (hb : Below B w w') (hB : Bf < B ∧ b < B) : Boxed w' Bf b R C N h :=
  ⟨(hb.block _ hB.1).trans H.box, H.row.of_block (hb.block _ hB.2)⟩

set_option maxHeartbeats 2000000 in
set_option maxRecDepth 100000 in
theorem implGridText_any (A : Option Addr) (n cp : Nat) (L : Nat → Nat) (g : Nat → Nat → Int) (w : World) (hg : GridF w A n L g) (hn : n ≤ 1048576) (hL : ∀ r, r < n → L r ≤ 1048576) :
    Calls Tryd.prog 7 #[.slice A n cp] w (RetV (.string ⟨(textV n L g).toArray⟩) w) := by
  have HG := Lib.hid hg
  have HL := Lib.hid hL
  clear hg hL
  by_cases hv : Valid n L g
  · have HV := Lib.hid hv
    have HT : Hid (textV n L g = gridT (L 0) g n) := if_pos hv
    have hn1 := hv.1
    have hn2 := hv.2.1
    have hl1 := hv.2.2.1
    have hl2 := hv.2.2.2.1
    obtain ⟨C, hC⟩ : ∃ C, C = L 0 := ⟨_, rfl⟩
    have HC := Lib.hid hC
    have HR : Hid (∀ r c, r < n → c < C → 0 ≤ g r c ∧ g r c ≤ 99) := fun r c hr hc => (hv.2.2.2.2 r hr).2 c (by rw [← hC]; exact hc)
    have HF : Hid (∀ r c, c < C → flat C g (r * C + c) = g r c) := fun r c hc => flat_at g hc
    have HFin : Hid (∀ w', Below w.heap.size w w' → RetV (.string ⟨(textV n L g).toArray⟩) w (.returned (.string ⟨(gridT C g n).toArray⟩)) w') := fun w' hb => ⟨by rw [HT.out, hC], hb⟩
    rw [← hC] at hl1 hl2
    clear hv hC
    go_enter Tryd.func7, Tryd.ntmps7
    go_wp2_with fail
    refine (fieldOf_yes _ _ _ _ _ _ _ HG.out HV.out rfl).mono ?_
    rintro e w1 ⟨bq, rfl, hlo, hrow, hb1⟩
    rw [← HC.out] at hrow ⊢
    have HB0 := Lib.hid (Boxed.new (R := n) (C := C) hrow)
    have hbx := hb1.alloc hb1.size (.cells #[.int .i64 n, .int .i64 C, .slice (some ⟨bq, 0, none⟩) (n * C) (n * C)] 40)
    clear hrow
    go_upto_region 5 with (fail)
    -- YES
    obtain ⟨wb, hwb⟩ : ∃ W, W = w1.alloc (.cells #[.int .i64 n, .int .i64 C, .slice (some ⟨bq, 0, none⟩) (n * C) (n * C)] 40) := ⟨_, rfl⟩
    have hwz : wb.heap.size = w1.heap.size + 1 := by rw [hwb]; simp
    obtain ⟨Bd, hBd0⟩ : ∃ B, B = w1.heap.size + 1 := ⟨_, rfl⟩
    obtain ⟨Bf, hBf0⟩ : ∃ B, B = w1.heap.size := ⟨_, rfl⟩
    rw [← hwb] at HB0 hbx ⊢
    rw [← hBf0] at HB0
    rw [← hBd0, ← hBf0]
    have hI := Lib.fresh_isBuilder 45 5 wb
    rw [hwz, ← hBd0] at hI
    have HB : Hid (Boxed (wb.alloc (.cells #[.pointer none, .slice none 0 0] 45)) Bf bq n C (n * C) (flat C g)) := HB0.out.below (below_alloc _ _)
    have hbW := hbx.alloc hbx.size (.cells #[.pointer none, .slice none 0 0] 45)
    have hBd : Bf < Bd ∧ bq < Bd := by
      have := HB0.out.row.lt
      omega
    have hwB : w.heap.size ≤ Bd := by have := hb1.size; omega
    have hBs : Bd < (wb.alloc (.cells #[.pointer none, .slice none 0 0] 45)).heap.size := by simp; omega
    have HI := Lib.hid hI
    clear hI hwz hwb HB0 hbx hBd0 hBf0 hb1 hlo
    generalize World.alloc wb _ = W2 at *
    have x0 := cell_of_blk (i := 0) HB.out.box rfl
    go_wp2_with fail
    clear x0
    go_loopw [18] (fun i wr => ∃ r : Nat, r ≤ n ∧ i = .int .i64 r ∧ Hid (Lib.IsBuilder 45 5 Bd Bd (Lib.byteCells (gridT C g r)) wr) ∧ Below Bd W2 wr) (fun i _ => n - (intOf i).toNat)
    case atStart => exact ⟨0, Nat.zero_le _, rfl, HI.out, Below.refl _ _⟩
    case round =>
      clear HI
      obtain ⟨r, hr, rfl, HI1, hB1⟩ := hrel
      obtain ⟨w1, hw1⟩ : ∃ w1 : World, w1 = wr := ⟨_, rfl⟩
      rw [← hw1] at HI1 hB1 ⊢
      clear hw1
      have hz1 : Bd ≤ w1.heap.size := Nat.le_trans (Nat.le_of_lt hBs) hB1.size
      have HLg := Lib.hid (gridT_len7 g hr hn2 hl1 hl2)
      by_cases hlt : r < n
      · by_cases hr0 : r = 0
        · have d2 : decide (0 < r) = false := decide_eq_false (by omega)
          have HI2 : Hid (Lib.IsBuilder 45 5 Bd Bd (Lib.byteCells (preT C g r)) w1) := by
            show Lib.IsBuilder _ _ _ _ _ _
            rw [show preT C g r = gridT C g r from if_pos hr0]; exact HI1.out
          have hB2 := hB1
          obtain ⟨w2, hw2⟩ : ∃ w2 : World, w2 = w1 := ⟨_, rfl⟩
          rw [← hw2] at HI2 hB2 ⊢
          clear hw2 hr0 HI1 hB1 hz1
          have x1 := cell_of_blk (i := 1) (HB.out.of hB2 hBd).box rfl
          go_wp2_with fail
          go_loopw [26] (fun i wi => ∃ c : Nat, c ≤ C ∧ i = .int .i64 c ∧ Hid (Lib.IsBuilder 45 5 Bd Bd (Lib.byteCells (preT C g r ++ rowT (g r) c)) wi) ∧ Below Bd W2 wi) (fun i _ => C - (intOf i).toNat)
          case atStart => exact ⟨0, Nat.zero_le _, rfl, by rw [show preT C g r ++ rowT (g r) 0 = preT C g r from List.append_nil _]; exact HI2.out, hB2⟩
          case round =>
            clear HI2 hB2
            obtain ⟨c, hc, rfl, HI1, hB1⟩ := hrel
            have hz1 : Bd ≤ wr.heap.size := Nat.le_trans (Nat.le_of_lt hBs) hB1.size
            obtain ⟨w1, hw1⟩ : ∃ w1 : World, w1 = wr := ⟨_, rfl⟩
            rw [← hw1] at HI1 hB1 hz1 ⊢
            clear hw1
            have HLn := Lib.hid (preT_len g hlt hn2 hl1 hl2 hc)
            by_cases hltc : c < C
            · by_cases hc0 : c = 0
              · have d3 : decide (0 < c) = false := decide_eq_false (by omega)
                have HI2 : Hid (Lib.IsBuilder 45 5 Bd Bd (Lib.byteCells (preT C g r ++ preC (g r) c)) w1) := by
                  show Lib.IsBuilder _ _ _ _ _ _
                  rw [show preC (g r) c = rowT (g r) c from if_pos hc0]; exact HI1.out
                have hB2 := hB1
                have hz2 := hz1
                obtain ⟨w2, hw2⟩ : ∃ w2 : World, w2 = w1 := ⟨_, rfl⟩
                rw [← hw2] at HI2 hB2 hz2 ⊢
                clear hw2 hc0
                have HBc2 := Lib.hid (HB.out.of hB2 hBd)
                have x0 := cell_of_blk (i := 0) HBc2.out.box rfl
                have x1 := cell_of_blk (i := 1) HBc2.out.box rfl
                have x2 := cell_of_blk (i := 2) HBc2.out.box rfl
                go_wp2_with fail
                refine (at_any n C bq (n * C) r c (flat C g) _ hlt hltc (by omega) (by omega) rfl HBc2.out.row).mono ?_
                rintro e w3 ⟨rfl, hb3⟩
                rw [HF.out r c hltc]
                obtain ⟨hc0, hc9⟩ := HR.out r c hlt hltc
                have HE := Lib.hid (rowT_succ (g r) c)
                have HI3 := Lib.hid (isBuilder_keep HI2.out hb3)
                have hB3 : Below Bd W2 w3 := hB2.trans (hb3.mono hz2)
                have hz3 : Bd ≤ w3.heap.size := Nat.le_trans hz2 hb3.size
                clear hb3 x0 x1 x2
                generalize g r c = x at *
                obtain ⟨x, rfl⟩ := Int.eq_ofNat_of_zero_le hc0
                have e1 : Int.tdiv (x : Int) 10 = ((x / 10 : Nat) : Int) := by rw [Int.tdiv_eq_ediv_of_nonneg (by omega)]; omega
                have e2 : (x : Int) / 10 = ((x / 10 : Nat) : Int) := by omega
                have e3 : Int.tmod (x : Int) 10 = ((x % 10 : Nat) : Int) := by rw [Int.tmod_eq_emod_of_nonneg (by omega)]; omega
                have e4 : (x : Int) % 10 = ((x % 10 : Nat) : Int) := by omega
                have hd1 : x / 10 ≤ 9 := by omega
                have hd2 : x % 10 ≤ 9 := by omega
                have HC9 : Hid (cellT (x : Int) = [UInt8.ofNat (48 + x / 10), UInt8.ofNat (48 + x % 10)]) := rfl
                have HD1 := Lib.hid (digit_u8 (x / 10) hd1)
                have HD2 := Lib.hid (digit_u8 (x % 10) hd2)
                rw [HC9.out] at HE
                clear HC9
                generalize x / 10 = p at *
                generalize x % 10 = q at *
                go_wp2_with fail
                refine (writeByte_any _ _ _ _ _ HI3.out (by rw [size_bc]; have := HLn.out.2.2; omega) hz3).mono ?_
                rintro e w4 ⟨rfl, hI4, hb4⟩
                have HI4 : Hid (Lib.IsBuilder 45 5 Bd Bd (Lib.byteCells (preT C g r ++ preC (g r) c ++ [UInt8.ofNat (48 + p)])) w4) := by
                  show Lib.IsBuilder _ _ _ _ _ _
                  rw [byteCells_snoc, HD1.out]; exact hI4
                have hB4 : Below Bd W2 w4 := hB3.trans (hb4.mono (Nat.le_refl _))
                have hz4 : Bd ≤ w4.heap.size := Nat.le_trans hz3 hb4.size
                clear hI4 hb4
                go_wp2_with fail
                refine (writeByte_any _ _ _ _ _ HI4.out (by rw [size_bc]; have := (show (preT C g r ++ preC (g r) c ++ [UInt8.ofNat (48 + p)]).length ≤ 1001 by have := HLn.out.2.2; simp only [List.length_append, List.length_cons, List.length_nil] at this ⊢; omega); omega) hz4).mono ?_
                rintro e w5 ⟨rfl, hI5, hb5⟩
                have HI5 : Hid (Lib.IsBuilder 45 5 Bd Bd (Lib.byteCells (preT C g r ++ preC (g r) c ++ [UInt8.ofNat (48 + p)] ++ [UInt8.ofNat (48 + q)])) w5) := by
                  show Lib.IsBuilder _ _ _ _ _ _
                  rw [byteCells_snoc, HD2.out]; exact hI5
                have hB5 : Below Bd W2 w5 := hB4.trans (hb5.mono (Nat.le_refl _))
                have hz5 : Bd ≤ w5.heap.size := Nat.le_trans hz4 hb5.size
                clear hI5 hb5
                have HI9 : Hid (Lib.IsBuilder 45 5 Bd Bd (Lib.byteCells (preT C g r ++ rowT (g r) (c + 1))) w5) := by
                  show Lib.IsBuilder _ _ _ _ _ _
                  rw [HE.out, show preT C g r ++ (preC (g r) c ++ [UInt8.ofNat (48 + p), UInt8.ofNat (48 + q)]) = preT C g r ++ preC (g r) c ++ [UInt8.ofNat (48 + p)] ++ [UInt8.ofNat (48 + q)] by simp]
                  exact HI5.out
                go_wp2_with fail
                go_roundw
                case rel => exact ⟨c + 1, by omega, by go_num, HI9.out, hB5⟩
                case measure => simp [intOf]; omega
              · have d3 : 0 < c := by omega
                have HPc : Hid (preC (g r) c = rowT (g r) c ++ [32]) := if_neg hc0
                clear hc0
                go_wp2_with fail
                refine (writeByte_any _ _ _ _ _ HI1.out (by rw [size_bc]; have := HLn.out.1; omega) hz1).mono ?_
                rintro e w2 ⟨rfl, hI2, hb2⟩
                have HI2 : Hid (Lib.IsBuilder 45 5 Bd Bd (Lib.byteCells (preT C g r ++ rowT (g r) c ++ [32])) w2) := by
                  show Lib.IsBuilder _ _ _ _ _ _
                  rw [byteCells_snoc, (rfl : ((32 : UInt8).toNat : Int) = 32)]; exact hI2
                have hB2 : Below Bd W2 w2 := hB1.trans (hb2.mono (Nat.le_refl _))
                have hz2 : Bd ≤ w2.heap.size := Nat.le_trans hz1 hb2.size
                clear hI2 hb2
                have HI3 : Hid (Lib.IsBuilder 45 5 Bd Bd (Lib.byteCells (preT C g r ++ preC (g r) c)) w2) := by
                  show Lib.IsBuilder _ _ _ _ _ _
                  rw [HPc.out, ← List.append_assoc]; exact HI2.out
                clear HI2 HPc
                have HI2 := HI3
                clear HI3
                have HBc2 := Lib.hid (HB.out.of hB2 hBd)
                have x0 := cell_of_blk (i := 0) HBc2.out.box rfl
                have x1 := cell_of_blk (i := 1) HBc2.out.box rfl
                have x2 := cell_of_blk (i := 2) HBc2.out.box rfl
                go_wp2_with fail
                refine (at_any n C bq (n * C) r c (flat C g) _ hlt hltc (by omega) (by omega) rfl HBc2.out.row).mono ?_
                rintro e w3 ⟨rfl, hb3⟩
                rw [HF.out r c hltc]
                obtain ⟨hc0, hc9⟩ := HR.out r c hlt hltc
                have HE := Lib.hid (rowT_succ (g r) c)
                have HI3 := Lib.hid (isBuilder_keep HI2.out hb3)
                have hB3 : Below Bd W2 w3 := hB2.trans (hb3.mono hz2)
                have hz3 : Bd ≤ w3.heap.size := Nat.le_trans hz2 hb3.size
                clear hb3 x0 x1 x2
                generalize g r c = x at *
                obtain ⟨x, rfl⟩ := Int.eq_ofNat_of_zero_le hc0
                have e1 : Int.tdiv (x : Int) 10 = ((x / 10 : Nat) : Int) := by rw [Int.tdiv_eq_ediv_of_nonneg (by omega)]; omega
                have e2 : (x : Int) / 10 = ((x / 10 : Nat) : Int) := by omega
                have e3 : Int.tmod (x : Int) 10 = ((x % 10 : Nat) : Int) := by rw [Int.tmod_eq_emod_of_nonneg (by omega)]; omega
                have e4 : (x : Int) % 10 = ((x % 10 : Nat) : Int) := by omega
                have hd1 : x / 10 ≤ 9 := by omega
                have hd2 : x % 10 ≤ 9 := by omega
                have HC9 : Hid (cellT (x : Int) = [UInt8.ofNat (48 + x / 10), UInt8.ofNat (48 + x % 10)]) := rfl
                have HD1 := Lib.hid (digit_u8 (x / 10) hd1)
                have HD2 := Lib.hid (digit_u8 (x % 10) hd2)
                rw [HC9.out] at HE
                clear HC9
                generalize x / 10 = p at *
                generalize x % 10 = q at *
                go_wp2_with fail
                refine (writeByte_any _ _ _ _ _ HI3.out (by rw [size_bc]; have := HLn.out.2.2; omega) hz3).mono ?_
                rintro e w4 ⟨rfl, hI4, hb4⟩
                have HI4 : Hid (Lib.IsBuilder 45 5 Bd Bd (Lib.byteCells (preT C g r ++ preC (g r) c ++ [UInt8.ofNat (48 + p)])) w4) := by
                  show Lib.IsBuilder _ _ _ _ _ _
                  rw [byteCells_snoc, HD1.out]; exact hI4
                have hB4 : Below Bd W2 w4 := hB3.trans (hb4.mono (Nat.le_refl _))
                have hz4 : Bd ≤ w4.heap.size := Nat.le_trans hz3 hb4.size
                clear hI4 hb4
                go_wp2_with fail
                refine (writeByte_any _ _ _ _ _ HI4.out (by rw [size_bc]; have := (show (preT C g r ++ preC (g r) c ++ [UInt8.ofNat (48 + p)]).length ≤ 1001 by have := HLn.out.2.2; simp only [List.length_append, List.length_cons, List.length_nil] at this ⊢; omega); omega) hz4).mono ?_
                rintro e w5 ⟨rfl, hI5, hb5⟩
                have HI5 : Hid (Lib.IsBuilder 45 5 Bd Bd (Lib.byteCells (preT C g r ++ preC (g r) c ++ [UInt8.ofNat (48 + p)] ++ [UInt8.ofNat (48 + q)])) w5) := by
                  show Lib.IsBuilder _ _ _ _ _ _
                  rw [byteCells_snoc, HD2.out]; exact hI5
                have hB5 : Below Bd W2 w5 := hB4.trans (hb5.mono (Nat.le_refl _))
                have hz5 : Bd ≤ w5.heap.size := Nat.le_trans hz4 hb5.size
                clear hI5 hb5
                have HI9 : Hid (Lib.IsBuilder 45 5 Bd Bd (Lib.byteCells (preT C g r ++ rowT (g r) (c + 1))) w5) := by
                  show Lib.IsBuilder _ _ _ _ _ _
                  rw [HE.out, show preT C g r ++ (preC (g r) c ++ [UInt8.ofNat (48 + p), UInt8.ofNat (48 + q)]) = preT C g r ++ preC (g r) c ++ [UInt8.ofNat (48 + p)] ++ [UInt8.ofNat (48 + q)] by simp]
                  exact HI5.out
                go_wp2_with fail
                go_roundw
                case rel => exact ⟨c + 1, by omega, by go_num, HI9.out, hB5⟩
                case measure => simp [intOf]; omega
            · have HCc : Hid (c = C) := by show c = C; omega
              have HI5 : Hid (Lib.IsBuilder 45 5 Bd Bd (Lib.byteCells (gridT C g (r + 1))) w1) := by
                show Lib.IsBuilder _ _ _ _ _ _
                have := HI1.out; rw [HCc.out] at this; rw [gridT_succ]; exact this
              go_wp2_with fail
              go_roundw
              case rel => exact ⟨r + 1, by omega, by go_num, HI5.out, hB1⟩
              case measure => simp [intOf]; omega
        · have d2 : 0 < r := by omega
          have HPr : Hid (preT C g r = gridT C g r ++ [47]) := if_neg hr0
          clear hr0
          go_wp2_with fail
          refine (writeByte_any _ _ _ _ _ HI1.out (by rw [size_bc]; have := HLg.out; omega) hz1).mono ?_
          rintro e w2 ⟨rfl, hI2, hb2⟩
          have HI2 : Hid (Lib.IsBuilder 45 5 Bd Bd (Lib.byteCells (gridT C g r ++ [47])) w2) := by
            show Lib.IsBuilder _ _ _ _ _ _
            rw [byteCells_snoc, (rfl : ((47 : UInt8).toNat : Int) = 47)]; exact hI2
          have hB2 : Below Bd W2 w2 := hB1.trans (hb2.mono (Nat.le_refl _))
          have hz2 : Bd ≤ w2.heap.size := Nat.le_trans hz1 hb2.size
          clear hI2 hb2
          rw [← HPr.out] at HI2
          have x1 := cell_of_blk (i := 1) (HB.out.of hB2 hBd).box rfl
          clear HPr HI1 hB1 hz1 hz2
          go_wp2_with fail
          go_loopw [26] (fun i wi => ∃ c : Nat, c ≤ C ∧ i = .int .i64 c ∧ Hid (Lib.IsBuilder 45 5 Bd Bd (Lib.byteCells (preT C g r ++ rowT (g r) c)) wi) ∧ Below Bd W2 wi) (fun i _ => C - (intOf i).toNat)
          case atStart => exact ⟨0, Nat.zero_le _, rfl, by rw [show preT C g r ++ rowT (g r) 0 = preT C g r from List.append_nil _]; exact HI2.out, hB2⟩
          case round =>
            clear HI2 hB2
            obtain ⟨c, hc, rfl, HI1, hB1⟩ := hrel
            have hz1 : Bd ≤ wr.heap.size := Nat.le_trans (Nat.le_of_lt hBs) hB1.size
            obtain ⟨w1, hw1⟩ : ∃ w1 : World, w1 = wr := ⟨_, rfl⟩
            rw [← hw1] at HI1 hB1 hz1 ⊢
            clear hw1
            have HLn := Lib.hid (preT_len g hlt hn2 hl1 hl2 hc)
            by_cases hltc : c < C
            · by_cases hc0 : c = 0
              · have d3 : decide (0 < c) = false := decide_eq_false (by omega)
                have HI2 : Hid (Lib.IsBuilder 45 5 Bd Bd (Lib.byteCells (preT C g r ++ preC (g r) c)) w1) := by
                  show Lib.IsBuilder _ _ _ _ _ _
                  rw [show preC (g r) c = rowT (g r) c from if_pos hc0]; exact HI1.out
                have hB2 := hB1
                have hz2 := hz1
                obtain ⟨w2, hw2⟩ : ∃ w2 : World, w2 = w1 := ⟨_, rfl⟩
                rw [← hw2] at HI2 hB2 hz2 ⊢
                clear hw2 hc0
                have HBc2 := Lib.hid (HB.out.of hB2 hBd)
                have x0 := cell_of_blk (i := 0) HBc2.out.box rfl
                have x1 := cell_of_blk (i := 1) HBc2.out.box rfl
                have x2 := cell_of_blk (i := 2) HBc2.out.box rfl
                go_wp2_with fail
                refine (at_any n C bq (n * C) r c (flat C g) _ hlt hltc (by omega) (by omega) rfl HBc2.out.row).mono ?_
                rintro e w3 ⟨rfl, hb3⟩
                rw [HF.out r c hltc]
                obtain ⟨hc0, hc9⟩ := HR.out r c hlt hltc
                have HE := Lib.hid (rowT_succ (g r) c)
                have HI3 := Lib.hid (isBuilder_keep HI2.out hb3)
                have hB3 : Below Bd W2 w3 := hB2.trans (hb3.mono hz2)
                have hz3 : Bd ≤ w3.heap.size := Nat.le_trans hz2 hb3.size
                clear hb3 x0 x1 x2
                generalize g r c = x at *
                obtain ⟨x, rfl⟩ := Int.eq_ofNat_of_zero_le hc0
                have e1 : Int.tdiv (x : Int) 10 = ((x / 10 : Nat) : Int) := by rw [Int.tdiv_eq_ediv_of_nonneg (by omega)]; omega
                have e2 : (x : Int) / 10 = ((x / 10 : Nat) : Int) := by omega
                have e3 : Int.tmod (x : Int) 10 = ((x % 10 : Nat) : Int) := by rw [Int.tmod_eq_emod_of_nonneg (by omega)]; omega
                have e4 : (x : Int) % 10 = ((x % 10 : Nat) : Int) := by omega
                have hd1 : x / 10 ≤ 9 := by omega
                have hd2 : x % 10 ≤ 9 := by omega
                have HC9 : Hid (cellT (x : Int) = [UInt8.ofNat (48 + x / 10), UInt8.ofNat (48 + x % 10)]) := rfl
                have HD1 := Lib.hid (digit_u8 (x / 10) hd1)
                have HD2 := Lib.hid (digit_u8 (x % 10) hd2)
                rw [HC9.out] at HE
                clear HC9
                generalize x / 10 = p at *
                generalize x % 10 = q at *
                go_wp2_with fail
                refine (writeByte_any _ _ _ _ _ HI3.out (by rw [size_bc]; have := HLn.out.2.2; omega) hz3).mono ?_
                rintro e w4 ⟨rfl, hI4, hb4⟩
                have HI4 : Hid (Lib.IsBuilder 45 5 Bd Bd (Lib.byteCells (preT C g r ++ preC (g r) c ++ [UInt8.ofNat (48 + p)])) w4) := by
                  show Lib.IsBuilder _ _ _ _ _ _
                  rw [byteCells_snoc, HD1.out]; exact hI4
                have hB4 : Below Bd W2 w4 := hB3.trans (hb4.mono (Nat.le_refl _))
                have hz4 : Bd ≤ w4.heap.size := Nat.le_trans hz3 hb4.size
                clear hI4 hb4
                go_wp2_with fail
                refine (writeByte_any _ _ _ _ _ HI4.out (by rw [size_bc]; have := (show (preT C g r ++ preC (g r) c ++ [UInt8.ofNat (48 + p)]).length ≤ 1001 by have := HLn.out.2.2; simp only [List.length_append, List.length_cons, List.length_nil] at this ⊢; omega); omega) hz4).mono ?_
                rintro e w5 ⟨rfl, hI5, hb5⟩
                have HI5 : Hid (Lib.IsBuilder 45 5 Bd Bd (Lib.byteCells (preT C g r ++ preC (g r) c ++ [UInt8.ofNat (48 + p)] ++ [UInt8.ofNat (48 + q)])) w5) := by
                  show Lib.IsBuilder _ _ _ _ _ _
                  rw [byteCells_snoc, HD2.out]; exact hI5
                have hB5 : Below Bd W2 w5 := hB4.trans (hb5.mono (Nat.le_refl _))
                have hz5 : Bd ≤ w5.heap.size := Nat.le_trans hz4 hb5.size
                clear hI5 hb5
                have HI9 : Hid (Lib.IsBuilder 45 5 Bd Bd (Lib.byteCells (preT C g r ++ rowT (g r) (c + 1))) w5) := by
                  show Lib.IsBuilder _ _ _ _ _ _
                  rw [HE.out, show preT C g r ++ (preC (g r) c ++ [UInt8.ofNat (48 + p), UInt8.ofNat (48 + q)]) = preT C g r ++ preC (g r) c ++ [UInt8.ofNat (48 + p)] ++ [UInt8.ofNat (48 + q)] by simp]
                  exact HI5.out
                go_wp2_with fail
                go_roundw
                case rel => exact ⟨c + 1, by omega, by go_num, HI9.out, hB5⟩
                case measure => simp [intOf]; omega
              · have d3 : 0 < c := by omega
                have HPc : Hid (preC (g r) c = rowT (g r) c ++ [32]) := if_neg hc0
                clear hc0
                go_wp2_with fail
                refine (writeByte_any _ _ _ _ _ HI1.out (by rw [size_bc]; have := HLn.out.1; omega) hz1).mono ?_
                rintro e w2 ⟨rfl, hI2, hb2⟩
                have HI2 : Hid (Lib.IsBuilder 45 5 Bd Bd (Lib.byteCells (preT C g r ++ rowT (g r) c ++ [32])) w2) := by
                  show Lib.IsBuilder _ _ _ _ _ _
                  rw [byteCells_snoc, (rfl : ((32 : UInt8).toNat : Int) = 32)]; exact hI2
                have hB2 : Below Bd W2 w2 := hB1.trans (hb2.mono (Nat.le_refl _))
                have hz2 : Bd ≤ w2.heap.size := Nat.le_trans hz1 hb2.size
                clear hI2 hb2
                have HI3 : Hid (Lib.IsBuilder 45 5 Bd Bd (Lib.byteCells (preT C g r ++ preC (g r) c)) w2) := by
                  show Lib.IsBuilder _ _ _ _ _ _
                  rw [HPc.out, ← List.append_assoc]; exact HI2.out
                clear HI2 HPc
                have HI2 := HI3
                clear HI3
                have HBc2 := Lib.hid (HB.out.of hB2 hBd)
                have x0 := cell_of_blk (i := 0) HBc2.out.box rfl
                have x1 := cell_of_blk (i := 1) HBc2.out.box rfl
                have x2 := cell_of_blk (i := 2) HBc2.out.box rfl
                go_wp2_with fail
                refine (at_any n C bq (n * C) r c (flat C g) _ hlt hltc (by omega) (by omega) rfl HBc2.out.row).mono ?_
                rintro e w3 ⟨rfl, hb3⟩
                rw [HF.out r c hltc]
                obtain ⟨hc0, hc9⟩ := HR.out r c hlt hltc
                have HE := Lib.hid (rowT_succ (g r) c)
                have HI3 := Lib.hid (isBuilder_keep HI2.out hb3)
                have hB3 : Below Bd W2 w3 := hB2.trans (hb3.mono hz2)
                have hz3 : Bd ≤ w3.heap.size := Nat.le_trans hz2 hb3.size
                clear hb3 x0 x1 x2
                generalize g r c = x at *
                obtain ⟨x, rfl⟩ := Int.eq_ofNat_of_zero_le hc0
                have e1 : Int.tdiv (x : Int) 10 = ((x / 10 : Nat) : Int) := by rw [Int.tdiv_eq_ediv_of_nonneg (by omega)]; omega
                have e2 : (x : Int) / 10 = ((x / 10 : Nat) : Int) := by omega
                have e3 : Int.tmod (x : Int) 10 = ((x % 10 : Nat) : Int) := by rw [Int.tmod_eq_emod_of_nonneg (by omega)]; omega
                have e4 : (x : Int) % 10 = ((x % 10 : Nat) : Int) := by omega
                have hd1 : x / 10 ≤ 9 := by omega
                have hd2 : x % 10 ≤ 9 := by omega
                have HC9 : Hid (cellT (x : Int) = [UInt8.ofNat (48 + x / 10), UInt8.ofNat (48 + x % 10)]) := rfl
                have HD1 := Lib.hid (digit_u8 (x / 10) hd1)
                have HD2 := Lib.hid (digit_u8 (x % 10) hd2)
                rw [HC9.out] at HE
                clear HC9
                generalize x / 10 = p at *
                generalize x % 10 = q at *
                go_wp2_with fail
                refine (writeByte_any _ _ _ _ _ HI3.out (by rw [size_bc]; have := HLn.out.2.2; omega) hz3).mono ?_
                rintro e w4 ⟨rfl, hI4, hb4⟩
                have HI4 : Hid (Lib.IsBuilder 45 5 Bd Bd (Lib.byteCells (preT C g r ++ preC (g r) c ++ [UInt8.ofNat (48 + p)])) w4) := by
                  show Lib.IsBuilder _ _ _ _ _ _
                  rw [byteCells_snoc, HD1.out]; exact hI4
                have hB4 : Below Bd W2 w4 := hB3.trans (hb4.mono (Nat.le_refl _))
                have hz4 : Bd ≤ w4.heap.size := Nat.le_trans hz3 hb4.size
                clear hI4 hb4
                go_wp2_with fail
                refine (writeByte_any _ _ _ _ _ HI4.out (by rw [size_bc]; have := (show (preT C g r ++ preC (g r) c ++ [UInt8.ofNat (48 + p)]).length ≤ 1001 by have := HLn.out.2.2; simp only [List.length_append, List.length_cons, List.length_nil] at this ⊢; omega); omega) hz4).mono ?_
                rintro e w5 ⟨rfl, hI5, hb5⟩
                have HI5 : Hid (Lib.IsBuilder 45 5 Bd Bd (Lib.byteCells (preT C g r ++ preC (g r) c ++ [UInt8.ofNat (48 + p)] ++ [UInt8.ofNat (48 + q)])) w5) := by
                  show Lib.IsBuilder _ _ _ _ _ _
                  rw [byteCells_snoc, HD2.out]; exact hI5
                have hB5 : Below Bd W2 w5 := hB4.trans (hb5.mono (Nat.le_refl _))
                have hz5 : Bd ≤ w5.heap.size := Nat.le_trans hz4 hb5.size
                clear hI5 hb5
                have HI9 : Hid (Lib.IsBuilder 45 5 Bd Bd (Lib.byteCells (preT C g r ++ rowT (g r) (c + 1))) w5) := by
                  show Lib.IsBuilder _ _ _ _ _ _
                  rw [HE.out, show preT C g r ++ (preC (g r) c ++ [UInt8.ofNat (48 + p), UInt8.ofNat (48 + q)]) = preT C g r ++ preC (g r) c ++ [UInt8.ofNat (48 + p)] ++ [UInt8.ofNat (48 + q)] by simp]
                  exact HI5.out
                go_wp2_with fail
                go_roundw
                case rel => exact ⟨c + 1, by omega, by go_num, HI9.out, hB5⟩
                case measure => simp [intOf]; omega
            · have HCc : Hid (c = C) := by show c = C; omega
              have HI5 : Hid (Lib.IsBuilder 45 5 Bd Bd (Lib.byteCells (gridT C g (r + 1))) w1) := by
                show Lib.IsBuilder _ _ _ _ _ _
                have := HI1.out; rw [HCc.out] at this; rw [gridT_succ]; exact this
              go_wp2_with fail
              go_roundw
              case rel => exact ⟨r + 1, by omega, by go_num, HI5.out, hB1⟩
              case measure => simp [intOf]; omega
      · have hrn : Hid (gridT C g r = gridT C g n) := by show _ = _; rw [show r = n by omega]
        have HI2 : Hid (Lib.IsBuilder 45 5 Bd Bd (Lib.byteCells (gridT C g n)) w1) := by rw [← hrn.out]; exact HI1
        have hbz := hbW.trans (hB1.mono hwB)
        go_wp2_with fail
        refine (Tryd.Builder_String_any _ _ _ _ HI2.out hz1).mono ?_
        rintro e w3 ⟨rfl, hb3⟩
        go_wp2_with fail
        go_ret
        exact HFin.out _ (hbz.trans (hb3.mono hwB))
    -- NO
  · have HT : Hid (textV n L g = []) := if_neg hv
    have HV := Lib.hid hv
    clear hv
    go_enter Tryd.func7, Tryd.ntmps7
    go_wp2_with fail
    refine (fieldOf_no _ _ _ _ _ _ HG.out hn HL.out HV.out).mono ?_
    rintro e w1 ⟨rfl, hb1⟩
    go_wp2_with fail
    go_ret
    rw [HT.out]
    exact ⟨rfl, hb1.alloc hb1.size _⟩

end Go.Proofs.YtkkkkgcijkjeoaaDoor
