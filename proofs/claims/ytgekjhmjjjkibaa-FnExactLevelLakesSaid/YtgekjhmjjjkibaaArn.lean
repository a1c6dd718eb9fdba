/- The up to eight cells around a cell: what the program's and the reference's functions return. -/
import Derived.Test.YtgekjhmjjjkibaaNear
import Derived.Test.YtgekjhmjjjkibaaITurn
import Derived.Test.YtgekjhmjjjkibaaPlA
namespace Go.Proofs.Ytgekjhmjjjkibaa
set_option linter.unusedVariables false
set_option linter.unusedSimpArgs false
open Go.RowKit

theorem arAt_yes {R C r c a b : Nat} (hb : b < 3) (h0 : ¬ (a = 1 ∧ b = 1)) (h : 1 ≤ r + a ∧ r + a ≤ R ∧ 1 ≤ c + b ∧ c + b ≤ C) : arAt R C r c (3 * a + b) = [(r + a - 1) * C + (c + b - 1)] := by
  unfold arAt
  rw [show (3 * a + b) / 3 = a by omega, show (3 * a + b) % 3 = b by omega, if_pos (by omega)]
theorem arAt_no {R C r c a b : Nat} (hb : b < 3) (h : ¬ (¬ (a = 1 ∧ b = 1) ∧ 1 ≤ r + a ∧ r + a ≤ R ∧ 1 ≤ c + b ∧ c + b ≤ C)) : arAt R C r c (3 * a + b) = [] := by
  unfold arAt
  rw [show (3 * a + b) / 3 = a by omega, show (3 * a + b) % 3 = b by omega, if_neg (by omega)]
theorem arL_yes {R C r c a b : Nat} (hb : b < 3) (h0 : ¬ (a = 1 ∧ b = 1)) (h : 1 ≤ r + a ∧ r + a ≤ R ∧ 1 ≤ c + b ∧ c + b ≤ C) : arL R C r c (3 * a + (b + 1)) = arL R C r c (3 * a + b) ++ [(r + a - 1) * C + (c + b - 1)] := by
  rw [← Nat.add_assoc, arL, arAt_yes hb h0 h]
theorem arL_no {R C r c a b : Nat} (hb : b < 3) (h : ¬ (¬ (a = 1 ∧ b = 1) ∧ 1 ≤ r + a ∧ r + a ≤ R ∧ 1 ≤ c + b ∧ c + b ≤ C)) : arL R C r c (3 * a + (b + 1)) = arL R C r c (3 * a + b) := by
  rw [← Nat.add_assoc, arL, arAt_no hb h, List.append_nil]

set_option maxHeartbeats 1500000 in
set_option maxRecDepth 100000 in
theorem around_any (R C N b i : Nat) (w : World) (hC1 : 1 ≤ C) (hR : R ≤ 1000) (hC : C ≤ 1000) (hi : i < R * C) :
    Calls Try.prog 82 #[.agg #[.int .i64 R, .int .i64 C, .slice (some ⟨b, 0, none⟩) N N], .int .i64 i] w (RetNear (aroundL R C i) w) := by
  have hib : i ≤ 1000000 := Nat.le_trans (Nat.le_of_lt hi) (Nat.le_trans (Nat.mul_le_mul hR hC) (by decide))
  have HAr : Hid (aroundL R C i = arL R C (i / C) (i % C) 9) := rfl
  have hcC : i % C < C := Nat.mod_lt _ (by omega)
  have hrR : i / C < R := Nat.div_lt_of_lt_mul (by rw [Nat.mul_comm]; exact hi)
  have e1 : (i : Int) / (C : Int) = ((i / C : Nat) : Int) := by rw [Int.natCast_ediv]
  have e2 : (i : Int) % (C : Int) = ((i % C : Nat) : Int) := by rw [Int.natCast_emod]
  have e3 : Int.tmod (i : Int) (C : Int) = ((i % C : Nat) : Int) := (Int.ofNat_tmod i C).symm
  generalize aroundL R C i = al at *
  generalize i / C = r at *
  generalize i % C = c at *
  clear hi
  have hmk : ∀ w, (Instr.makeSlice 29 (.int .i64 0) (.int .i64 8)).run Try.prog w = .ok (.slice (some ⟨w.heap.size, 0, none⟩) 0 8) (w.alloc (.cells #[.int .i64 0, .int .i64 0, .int .i64 0, .int .i64 0, .int .i64 0, .int .i64 0, .int .i64 0, .int .i64 0] 3)) := fun _ => by kernel_rfl
  have HBx : Hid ((w.alloc (.cells #[.int .i64 R, .int .i64 C, .slice (some ⟨b, 0, none⟩) N N] 49)).heap[w.heap.size]? = some (.cells #[.int .i64 R, .int .i64 C, .slice (some ⟨b, 0, none⟩) N N] 49 (0, 0))) := heap_alloc_new _ _
  have hB0 := below_alloc w (.cells #[.int .i64 R, .int .i64 C, .slice (some ⟨b, 0, none⟩) N N] 49)
  have hlt0 : w.heap.size < (w.alloc (.cells #[.int .i64 R, .int .i64 C, .slice (some ⟨b, 0, none⟩) N N] 49)).heap.size := by simp
  have x1 := cell_of_blk (i := 1) HBx.out rfl
  go_enter Try.func82, Try.ntmps82
  go_wp2_with fail
  go_quiet (fail)
  go_upto_region 2 with (fail)
  clear x1
  have HBx1 : Hid (((w.alloc (.cells #[.int .i64 R, .int .i64 C, .slice (some ⟨b, 0, none⟩) N N] 49)).drewN nq).heap[w.heap.size]? = some (.cells #[.int .i64 R, .int .i64 C, .slice (some ⟨b, 0, none⟩) N N] 49 (0, 0))) := HBx.out
  have hB1 : Below w.heap.size w ((w.alloc (.cells #[.int .i64 R, .int .i64 C, .slice (some ⟨b, 0, none⟩) N N] 49)).drewN nq) := below_drewN hB0 _
  have hlt1 : w.heap.size < ((w.alloc (.cells #[.int .i64 R, .int .i64 C, .slice (some ⟨b, 0, none⟩) N N] 49)).drewN nq).heap.size := hlt0
  clear HBx hB0 hlt0
  generalize World.drewN _ nq = w1 at *
  have HO : Hid (OwnL (w1.alloc (.cells #[.int .i64 0, .int .i64 0, .int .i64 0, .int .i64 0, .int .i64 0, .int .i64 0, .int .i64 0, .int .i64 0] 3)) w1.heap.size (.slice (some ⟨w1.heap.size, 0, none⟩) 0 8) (arL R C r c (3 * 0))) := OwnS.new w1 w1.heap.size 3 _ (Nat.le_refl _) _ 8 rfl (by decide)
  have hb : Below w1.heap.size w1 (w1.alloc (.cells #[.int .i64 0, .int .i64 0, .int .i64 0, .int .i64 0, .int .i64 0, .int .i64 0, .int .i64 0, .int .i64 0] 3)) := below_alloc _ _
  have HX : Hid (∀ wx, Below w1.heap.size w1 wx → wx.heap[w.heap.size]? = some (.cells #[.int .i64 R, .int .i64 C, .slice (some ⟨b, 0, none⟩) N N] 49 (0, 0))) := fun wx hbx => (hbx.block _ hlt1).trans HBx1.out
  go_wp2_with fail
  clear hmk e1 e2 e3 HBx1
  generalize w1.alloc _ = w2 at *
  go_loopw [7, 8] (fun v q wr => ∃ a : Nat, a ≤ 3 ∧ q = .int .i64 ((a : Int) - 1) ∧ Hid (OwnL wr w1.heap.size v (arL R C r c (3 * a))) ∧ Below w1.heap.size w1 wr) (fun _ q _ => (2 - intOf q).toNat)
  case atStart => exact ⟨0, by omega, rfl, HO.out, hb⟩
  case round =>
    clear HO hb
    obtain ⟨a, ha, rfl, HO, hbel⟩ := hrel
    obtain ⟨Av, cv, rfl⟩ := HO.out.slice
    by_cases hlt : a < 3
    · have da : decide ((a : Int) - 1 ≤ 1) = true := decide_eq_true (by omega)
      go_wp2_with fail
      clear da
      go_loopw [7, 9] (fun v q wi => ∃ d : Nat, d ≤ 3 ∧ q = .int .i64 ((d : Int) - 1) ∧ Hid (OwnL wi w1.heap.size v (arL R C r c (3 * a + d))) ∧ Below w1.heap.size w1 wi) (fun _ q _ => (2 - intOf q).toNat)
      case atStart => exact ⟨0, by omega, rfl, HO.out, hbel⟩
      case round =>
        clear HO hbel
        obtain ⟨d, hd, rfl, HO, hbi⟩ := hrel
        obtain ⟨Av, cv, rfl⟩ := HO.out.slice
        by_cases hlt2 : d < 3
        · have hbx := HX.out _ hbi
          have x0 := cell_of_blk (i := 0) hbx rfl
          have x1 := cell_of_blk (i := 1) hbx rfl
          have x2 := cell_of_blk (i := 2) hbx rfl
          have hll := arL_len R C r c (3 * a + d)
          have hlo := hbi.size
          have HY := Lib.hid (arL_yes (R := R) (C := C) (r := r) (c := c) (a := a) hlt2)
          have HNo := Lib.hid (arL_no (R := R) (C := C) (r := r) (c := c) (a := a) hlt2)
          generalize arL R C r c (3 * a + d) = lq at *
          clear hbx
          by_cases q0 : a = 1 ∧ d = 1
          · obtain ⟨rfl, rfl⟩ := q0
            have HN1 := Lib.hid (HNo.out (fun hh => hh.1 ⟨rfl, rfl⟩))
            go_wp2_with fail
            go_roundw
            case rel => exact ⟨2, by omega, rfl, by rw [HN1.out]; exact HO.out, hbi⟩
            case measure => simp [intOf]
          · skip
            by_cases hin : 1 ≤ r + a ∧ r + a ≤ R ∧ 1 ≤ c + d ∧ c + d ≤ C
            · skip
              by_cases qa : a = 1
              · have d1 : ((a : Int) - 1 != 0) = false := by rw [qa]; rfl
                have d2 : ((d : Int) - 1 != 0) = true := by rw [bne_iff_ne]; omega
                clear qa
                have HY1 := Lib.hid (HY.out q0 hin)
                obtain ⟨i1, i2, i3, i4⟩ := hin
                have hm : (r + a - 1) * C ≤ 1000000 := Nat.le_trans (Nat.mul_le_mul (by omega : r + a - 1 ≤ 1000) hC) (by decide)
                have HXe : Hid (((r : Int) + ((a : Int) - 1)) * (C : Int) + ((c : Int) + ((d : Int) - 1)) = (((r + a - 1) * C + (c + d - 1) : Nat) : Int)) := by
                  show _ = _
                  rw [Int.natCast_add, Int.natCast_mul, show (((r + a - 1 : Nat)) : Int) = (r : Int) + ((a : Int) - 1) by omega, show (((c + d - 1 : Nat)) : Int) = (c : Int) + ((d : Int) - 1) by omega]
                have hm0 : (0 : Int) ≤ ((r : Int) + ((a : Int) - 1)) * (C : Int) := Int.mul_nonneg (by omega) (by omega)
                have hm1 : ((r : Int) + ((a : Int) - 1)) * (C : Int) ≤ 1000000 := by
                  have : ((r : Int) + ((a : Int) - 1)) * (C : Int) = (((r + a - 1) * C : Nat) : Int) := by rw [Int.natCast_mul, show (((r + a - 1 : Nat)) : Int) = (r : Int) + ((a : Int) - 1) by omega]
                  rw [this]; omega
                go_wp2_with fail
                refine (has_any _ _ _ _ _ _ _ _ true (by show true = true ↔ _; simp; omega)).mono ?_
                rintro e w3 ⟨rfl, hb3⟩
                have hbi3 := hbi.trans (hb3.mono hlo)
                have hbx3 := HX.out _ hbi3
                have y0 := cell_of_blk (i := 0) hbx3 rfl
                have y1 := cell_of_blk (i := 1) hbx3 rfl
                have y2 := cell_of_blk (i := 2) hbx3 rfl
                have HO3 := Lib.hid (HO.out.below hb3)
                clear x0 x1 x2 hbx3
                go_wp2_with fail
                refine (index_any _ _ _ _ (.int .i64 0) _ hm0 hm1 (by omega) (by omega) _ _ _).mono ?_
                rintro e w4 ⟨rfl, hb4⟩
                have HOa := Lib.hid (HO3.out.below hb4)
                have hbi2 := hbi3.trans (hb4.mono hbi3.size)
                have hlo2 := hbi2.size
                obtain ⟨X, hX⟩ : ∃ X, X = ((r : Int) + ((a : Int) - 1)) * (C : Int) + ((c : Int) + ((d : Int) - 1)) := ⟨_, rfl⟩
                rw [← hX] at HXe ⊢
                clear hX y0 y1 y2
                go_wp2_with (at_builtin; refine wpList_app1 rfl (.tmp 43) (.tmp 52) 29 rfl Try.underlying29 Try.infoI rfl rfl HOa.out.s (x := .int .i64 X) rfl rfl (by omega) (by decide) hlo2 ?_; intro v' w8 ho hg8; obtain ⟨A8, c8, rfl, _⟩ := ho.slice)
                have HL8 := Lib.hid (OwnL.snoc HXe.out ho)
                have hb8 := hbi2.trans (hg8.below hlo2 (fun j hj => (HOa.out.s.lt hj).1))
                clear ho hg8
                go_wp2_with fail
                go_roundw
                case rel => exact ⟨d + 1, by omega, val_int (by omega), by rw [HY1.out]; exact HL8.out, hb8⟩
                case measure => simp [intOf]; omega
              · have d1 : ((a : Int) - 1 != 0) = true := by rw [bne_iff_ne]; omega
                clear qa
                have HY1 := Lib.hid (HY.out q0 hin)
                obtain ⟨i1, i2, i3, i4⟩ := hin
                have hm : (r + a - 1) * C ≤ 1000000 := Nat.le_trans (Nat.mul_le_mul (by omega : r + a - 1 ≤ 1000) hC) (by decide)
                have HXe : Hid (((r : Int) + ((a : Int) - 1)) * (C : Int) + ((c : Int) + ((d : Int) - 1)) = (((r + a - 1) * C + (c + d - 1) : Nat) : Int)) := by
                  show _ = _
                  rw [Int.natCast_add, Int.natCast_mul, show (((r + a - 1 : Nat)) : Int) = (r : Int) + ((a : Int) - 1) by omega, show (((c + d - 1 : Nat)) : Int) = (c : Int) + ((d : Int) - 1) by omega]
                have hm0 : (0 : Int) ≤ ((r : Int) + ((a : Int) - 1)) * (C : Int) := Int.mul_nonneg (by omega) (by omega)
                have hm1 : ((r : Int) + ((a : Int) - 1)) * (C : Int) ≤ 1000000 := by
                  have : ((r : Int) + ((a : Int) - 1)) * (C : Int) = (((r + a - 1) * C : Nat) : Int) := by rw [Int.natCast_mul, show (((r + a - 1 : Nat)) : Int) = (r : Int) + ((a : Int) - 1) by omega]
                  rw [this]; omega
                go_wp2_with fail
                refine (has_any _ _ _ _ _ _ _ _ true (by show true = true ↔ _; simp; omega)).mono ?_
                rintro e w3 ⟨rfl, hb3⟩
                have hbi3 := hbi.trans (hb3.mono hlo)
                have hbx3 := HX.out _ hbi3
                have y0 := cell_of_blk (i := 0) hbx3 rfl
                have y1 := cell_of_blk (i := 1) hbx3 rfl
                have y2 := cell_of_blk (i := 2) hbx3 rfl
                have HO3 := Lib.hid (HO.out.below hb3)
                clear x0 x1 x2 hbx3
                go_wp2_with fail
                refine (index_any _ _ _ _ (.int .i64 0) _ hm0 hm1 (by omega) (by omega) _ _ _).mono ?_
                rintro e w4 ⟨rfl, hb4⟩
                have HOa := Lib.hid (HO3.out.below hb4)
                have hbi2 := hbi3.trans (hb4.mono hbi3.size)
                have hlo2 := hbi2.size
                obtain ⟨X, hX⟩ : ∃ X, X = ((r : Int) + ((a : Int) - 1)) * (C : Int) + ((c : Int) + ((d : Int) - 1)) := ⟨_, rfl⟩
                rw [← hX] at HXe ⊢
                clear hX y0 y1 y2
                go_wp2_with (at_builtin; refine wpList_app1 rfl (.tmp 43) (.tmp 52) 29 rfl Try.underlying29 Try.infoI rfl rfl HOa.out.s (x := .int .i64 X) rfl rfl (by omega) (by decide) hlo2 ?_; intro v' w8 ho hg8; obtain ⟨A8, c8, rfl, _⟩ := ho.slice)
                have HL8 := Lib.hid (OwnL.snoc HXe.out ho)
                have hb8 := hbi2.trans (hg8.below hlo2 (fun j hj => (HOa.out.s.lt hj).1))
                clear ho hg8
                go_wp2_with fail
                go_roundw
                case rel => exact ⟨d + 1, by omega, val_int (by omega), by rw [HY1.out]; exact HL8.out, hb8⟩
                case measure => simp [intOf]; omega
            · skip
              by_cases qa : a = 1
              · have d1 : ((a : Int) - 1 != 0) = false := by rw [qa]; rfl
                have d2 : ((d : Int) - 1 != 0) = true := by rw [bne_iff_ne]; omega
                clear qa
                have HN1 := Lib.hid (HNo.out (fun hh => hin hh.2))
                go_wp2_with fail
                refine (has_any _ _ _ _ _ _ _ _ false (by show false = true ↔ _; simp; omega)).mono ?_
                rintro e w3 ⟨rfl, hb3⟩
                have hbi3 := hbi.trans (hb3.mono hlo)
                have HO3 := Lib.hid (HO.out.below hb3)
                clear x0 x1 x2
                go_wp2_with fail
                go_roundw
                case rel => exact ⟨d + 1, by omega, val_int (by omega), by rw [HN1.out]; exact HO3.out, hbi3⟩
                case measure => simp [intOf]; omega
              · have d1 : ((a : Int) - 1 != 0) = true := by rw [bne_iff_ne]; omega
                clear qa
                have HN1 := Lib.hid (HNo.out (fun hh => hin hh.2))
                go_wp2_with fail
                refine (has_any _ _ _ _ _ _ _ _ false (by show false = true ↔ _; simp; omega)).mono ?_
                rintro e w3 ⟨rfl, hb3⟩
                have hbi3 := hbi.trans (hb3.mono hlo)
                have HO3 := Lib.hid (HO.out.below hb3)
                clear x0 x1 x2
                go_wp2_with fail
                go_roundw
                case rel => exact ⟨d + 1, by omega, val_int (by omega), by rw [HN1.out]; exact HO3.out, hbi3⟩
                case measure => simp [intOf]; omega
        · obtain rfl : d = 3 := by omega
          go_wp2_with fail
          go_roundw
          case rel => exact ⟨a + 1, by omega, val_int (by omega), HO.out, hbi⟩
          case measure => simp [intOf]; omega
    · obtain rfl : a = 3 := by omega
      go_wp2_with fail
      go_ret
      exact ⟨_, rfl, by rw [HAr.out]; exact OwnS.mono HO.out hB1.size, hB1.trans (hbel.mono hB1.size)⟩

set_option maxHeartbeats 1500000 in
set_option maxRecDepth 100000 in
theorem l3Around_any (A : Option Addr) (n cp i : Nat) (L : Nat → Nat) (g : Nat → Nat → Int) (w : World) (hg : GridF w A n L g) (hn1 : 1 ≤ n) (hn2 : n ≤ 1000) (hl1 : 1 ≤ L 0) (hl2 : L 0 ≤ 1000) (hi : i < n * L 0) :
    Calls Try.prog 55 #[.slice A n cp, .int .i64 i] w (RetNear (aroundL n (L 0) i) w) := by
  obtain ⟨B, o, A0, c0, rfl, hc0, _, hr0⟩ := hg 0 (by omega)
  rw [Nat.add_zero] at hc0
  clear hr0 hg
  generalize L 0 = C at *
  have hib : i ≤ 1000000 := Nat.le_trans (Nat.le_of_lt hi) (Nat.le_trans (Nat.mul_le_mul hn2 hl2) (by decide))
  have HAr : Hid (aroundL n C i = arL n C (i / C) (i % C) 9) := rfl
  have hcC : i % C < C := Nat.mod_lt _ (by omega)
  have hrR : i / C < n := Nat.div_lt_of_lt_mul (by rw [Nat.mul_comm]; exact hi)
  have e1 : (i : Int) / (C : Int) = ((i / C : Nat) : Int) := by rw [Int.natCast_ediv]
  have e2 : (i : Int) % (C : Int) = ((i % C : Nat) : Int) := by rw [Int.natCast_emod]
  have e3 : Int.tmod (i : Int) (C : Int) = ((i % C : Nat) : Int) := (Int.ofNat_tmod i C).symm
  have e5 : ((C : Int) == 0) = false := by simp; omega
  generalize aroundL n C i = al at *
  generalize i / C = r at *
  generalize i % C = c at *
  clear hi
  have HO : Hid (OwnL (w.alloc (.cells #[] 3)) w.heap.size (.slice (some ⟨w.heap.size, 0, none⟩) 0 0) (arL n C r c (3 * 0))) := OwnS.new w w.heap.size 3 _ (Nat.le_refl _) _ 0 rfl (by decide)
  have hb : Below w.heap.size w (w.alloc (.cells #[] 3)) := below_alloc _ _
  have hc0' := cell_alloc hc0 (.cells #[] 3)
  go_enter Try.func55, Try.ntmps55
  go_wp2_with fail
  clear hc0 hc0'
  generalize w.alloc _ = w1 at *
  go_loopw [5, 7] (fun v q wr => ∃ a : Nat, a ≤ 3 ∧ q = .int .i64 ((a : Int) - 1) ∧ Hid (OwnL wr w.heap.size v (arL n C r c (3 * a))) ∧ Below w.heap.size w wr) (fun _ q _ => (2 - intOf q).toNat)
  case atStart => exact ⟨0, by omega, rfl, HO.out, hb⟩
  case round =>
    clear HO hb
    obtain ⟨a, ha, rfl, HO, hbel⟩ := hrel
    obtain ⟨Av, cv, rfl⟩ := HO.out.slice
    by_cases hlt : a < 3
    · have da : decide ((a : Int) - 1 ≤ 1) = true := decide_eq_true (by omega)
      go_wp2_with fail
      clear da
      go_loopw [5, 8] (fun v q wi => ∃ d : Nat, d ≤ 3 ∧ q = .int .i64 ((d : Int) - 1) ∧ Hid (OwnL wi w.heap.size v (arL n C r c (3 * a + d))) ∧ Below w.heap.size w wi) (fun _ q _ => (2 - intOf q).toNat)
      case atStart => exact ⟨0, by omega, rfl, HO.out, hbel⟩
      case round =>
        clear HO hbel
        obtain ⟨d, hd, rfl, HO, hbi⟩ := hrel
        obtain ⟨Av, cv, rfl⟩ := HO.out.slice
        by_cases hlt2 : d < 3
        · have hll := arL_len n C r c (3 * a + d)
          have hlo := hbi.size
          have HY := Lib.hid (arL_yes (R := n) (C := C) (r := r) (c := c) (a := a) hlt2)
          have HNo := Lib.hid (arL_no (R := n) (C := C) (r := r) (c := c) (a := a) hlt2)
          generalize arL n C r c (3 * a + d) = lq at *
          by_cases q0 : a = 1 ∧ d = 1
          · obtain ⟨rfl, rfl⟩ := q0
            have HN1 := Lib.hid (HNo.out (fun hh => hh.1 ⟨rfl, rfl⟩))
            go_wp2_with fail
            go_roundw
            case rel => exact ⟨2, by omega, rfl, by rw [HN1.out]; exact HO.out, hbi⟩
            case measure => simp [intOf]
          · skip
            by_cases hin : 1 ≤ r + a ∧ r + a ≤ n ∧ 1 ≤ c + d ∧ c + d ≤ C
            · skip
              by_cases qa : a = 1
              · have d1 : ((a : Int) - 1 != 0) = false := by rw [qa]; rfl
                have d2 : ((d : Int) - 1 != 0) = true := by rw [bne_iff_ne]; omega
                clear qa
                have HY1 := Lib.hid (HY.out q0 hin)
                obtain ⟨i1, i2, i3, i4⟩ := hin
                have hm : (r + a - 1) * C ≤ 1000000 := Nat.le_trans (Nat.mul_le_mul (by omega : r + a - 1 ≤ 1000) hl2) (by decide)
                have HXe : Hid (((r : Int) + ((a : Int) - 1)) * (C : Int) + ((c : Int) + ((d : Int) - 1)) = (((r + a - 1) * C + (c + d - 1) : Nat) : Int)) := by
                  show _ = _
                  rw [Int.natCast_add, Int.natCast_mul, show (((r + a - 1 : Nat)) : Int) = (r : Int) + ((a : Int) - 1) by omega, show (((c + d - 1 : Nat)) : Int) = (c : Int) + ((d : Int) - 1) by omega]
                have hm0 : (0 : Int) ≤ ((r : Int) + ((a : Int) - 1)) * (C : Int) := Int.mul_nonneg (by omega) (by omega)
                have hm1 : ((r : Int) + ((a : Int) - 1)) * (C : Int) ≤ 1000000 := by
                  have : ((r : Int) + ((a : Int) - 1)) * (C : Int) = (((r + a - 1) * C : Nat) : Int) := by rw [Int.natCast_mul, show (((r + a - 1 : Nat)) : Int) = (r : Int) + ((a : Int) - 1) by omega]
                  rw [this]; omega
                have hlo2 := hlo
                have hbi2 := hbi
                have HOa := Lib.hid HO.out
                go_wp2_with (at_builtin; refine wpList_app1 rfl (.tmp 59) (.tmp 65) 29 rfl Try.underlying29 Try.infoI rfl rfl HOa.out.s (x := .int .i64 (((r : Int) + ((a : Int) - 1)) * (C : Int) + ((c : Int) + ((d : Int) - 1)))) rfl rfl (by omega) (by decide) hlo2 ?_; intro v' w8 ho hg8; obtain ⟨A8, c8, rfl, _⟩ := ho.slice)
                have HL8 := Lib.hid (OwnL.snoc HXe.out ho)
                have hb8 := hbi2.trans (hg8.below hlo2 (fun j hj => (HOa.out.s.lt hj).1))
                clear ho hg8
                go_wp2_with fail
                go_roundw
                case rel => exact ⟨d + 1, by omega, val_int (by omega), by rw [HY1.out]; exact HL8.out, hb8⟩
                case measure => simp [intOf]; omega
              · have d1 : ((a : Int) - 1 != 0) = true := by rw [bne_iff_ne]; omega
                clear qa
                have HY1 := Lib.hid (HY.out q0 hin)
                obtain ⟨i1, i2, i3, i4⟩ := hin
                have hm : (r + a - 1) * C ≤ 1000000 := Nat.le_trans (Nat.mul_le_mul (by omega : r + a - 1 ≤ 1000) hl2) (by decide)
                have HXe : Hid (((r : Int) + ((a : Int) - 1)) * (C : Int) + ((c : Int) + ((d : Int) - 1)) = (((r + a - 1) * C + (c + d - 1) : Nat) : Int)) := by
                  show _ = _
                  rw [Int.natCast_add, Int.natCast_mul, show (((r + a - 1 : Nat)) : Int) = (r : Int) + ((a : Int) - 1) by omega, show (((c + d - 1 : Nat)) : Int) = (c : Int) + ((d : Int) - 1) by omega]
                have hm0 : (0 : Int) ≤ ((r : Int) + ((a : Int) - 1)) * (C : Int) := Int.mul_nonneg (by omega) (by omega)
                have hm1 : ((r : Int) + ((a : Int) - 1)) * (C : Int) ≤ 1000000 := by
                  have : ((r : Int) + ((a : Int) - 1)) * (C : Int) = (((r + a - 1) * C : Nat) : Int) := by rw [Int.natCast_mul, show (((r + a - 1 : Nat)) : Int) = (r : Int) + ((a : Int) - 1) by omega]
                  rw [this]; omega
                have hlo2 := hlo
                have hbi2 := hbi
                have HOa := Lib.hid HO.out
                go_wp2_with (at_builtin; refine wpList_app1 rfl (.tmp 59) (.tmp 65) 29 rfl Try.underlying29 Try.infoI rfl rfl HOa.out.s (x := .int .i64 (((r : Int) + ((a : Int) - 1)) * (C : Int) + ((c : Int) + ((d : Int) - 1)))) rfl rfl (by omega) (by decide) hlo2 ?_; intro v' w8 ho hg8; obtain ⟨A8, c8, rfl, _⟩ := ho.slice)
                have HL8 := Lib.hid (OwnL.snoc HXe.out ho)
                have hb8 := hbi2.trans (hg8.below hlo2 (fun j hj => (HOa.out.s.lt hj).1))
                clear ho hg8
                go_wp2_with fail
                go_roundw
                case rel => exact ⟨d + 1, by omega, val_int (by omega), by rw [HY1.out]; exact HL8.out, hb8⟩
                case measure => simp [intOf]; omega
            · skip
              by_cases qa : a = 1
              · have d1 : ((a : Int) - 1 != 0) = false := by rw [qa]; rfl
                have d2 : ((d : Int) - 1 != 0) = true := by rw [bne_iff_ne]; omega
                clear qa
                have HN1 := Lib.hid (HNo.out (fun hh => hin hh.2))
                by_cases k1 : 1 ≤ r + a
                · by_cases k2 : r + a ≤ n
                  · by_cases k3 : 1 ≤ c + d
                    · have k4 : ¬ (c + d ≤ C) := fun k4 => hin ⟨k1, k2, k3, k4⟩
                      clear hin
                      go_wp2_with fail
                      go_roundw
                      case rel => exact ⟨d + 1, by omega, val_int (by omega), by rw [HN1.out]; exact HO.out, hbi⟩
                      case measure => simp [intOf]; omega
                    · clear hin
                      go_wp2_with fail
                      go_roundw
                      case rel => exact ⟨d + 1, by omega, val_int (by omega), by rw [HN1.out]; exact HO.out, hbi⟩
                      case measure => simp [intOf]; omega
                  · clear hin
                    go_wp2_with fail
                    go_roundw
                    case rel => exact ⟨d + 1, by omega, val_int (by omega), by rw [HN1.out]; exact HO.out, hbi⟩
                    case measure => simp [intOf]; omega
                · clear hin
                  go_wp2_with fail
                  go_roundw
                  case rel => exact ⟨d + 1, by omega, val_int (by omega), by rw [HN1.out]; exact HO.out, hbi⟩
                  case measure => simp [intOf]; omega
              · have d1 : ((a : Int) - 1 != 0) = true := by rw [bne_iff_ne]; omega
                clear qa
                have HN1 := Lib.hid (HNo.out (fun hh => hin hh.2))
                by_cases k1 : 1 ≤ r + a
                · by_cases k2 : r + a ≤ n
                  · by_cases k3 : 1 ≤ c + d
                    · have k4 : ¬ (c + d ≤ C) := fun k4 => hin ⟨k1, k2, k3, k4⟩
                      clear hin
                      go_wp2_with fail
                      go_roundw
                      case rel => exact ⟨d + 1, by omega, val_int (by omega), by rw [HN1.out]; exact HO.out, hbi⟩
                      case measure => simp [intOf]; omega
                    · clear hin
                      go_wp2_with fail
                      go_roundw
                      case rel => exact ⟨d + 1, by omega, val_int (by omega), by rw [HN1.out]; exact HO.out, hbi⟩
                      case measure => simp [intOf]; omega
                  · clear hin
                    go_wp2_with fail
                    go_roundw
                    case rel => exact ⟨d + 1, by omega, val_int (by omega), by rw [HN1.out]; exact HO.out, hbi⟩
                    case measure => simp [intOf]; omega
                · clear hin
                  go_wp2_with fail
                  go_roundw
                  case rel => exact ⟨d + 1, by omega, val_int (by omega), by rw [HN1.out]; exact HO.out, hbi⟩
                  case measure => simp [intOf]; omega
        · obtain rfl : d = 3 := by omega
          go_wp2_with fail
          go_roundw
          case rel => exact ⟨a + 1, by omega, val_int (by omega), HO.out, hbi⟩
          case measure => simp [intOf]; omega
    · obtain rfl : a = 3 := by omega
      go_wp2_with fail
      go_ret
      exact ⟨_, rfl, by rw [HAr.out]; exact HO.out, hbel⟩

end Go.Proofs.Ytgekjhmjjjkibaa
