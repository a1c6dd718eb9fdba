/- Corners of land: what the program's and the reference's functions return. -/
import Derived.Test.YtofkjldijamlhaaLev
import Derived.Test.YtofkjldijamlhaaCnt
namespace Go.Proofs.Ytofkjldijamlhaa
set_option linter.unusedVariables false
set_option linter.unusedSimpArgs false
open Go.RowKit

theorem at_int (R C b N : Nat) (r c : Int) (h : Nat → Int) (w : World) (hr0 : 0 ≤ r) (hr : r < R) (hc0 : 0 ≤ c) (hc : c < C) (hR : R ≤ 1000) (hC : C ≤ 1000) (hN : Hid (N = R * C)) (hrow : Hid (w.rowIs b 3 N (fun i => .int .i64 (h i)))) :
    Calls Try.prog 47 #[.agg #[.int .i64 R, .int .i64 C, .slice (some ⟨b, 0, none⟩) N N], .int .i64 r, .int .i64 c] w (RetV (.int .i64 (h (r.toNat * C + c.toNat))) w) := by
  obtain ⟨r, rfl⟩ := Int.eq_ofNat_of_zero_le hr0
  obtain ⟨c, rfl⟩ := Int.eq_ofNat_of_zero_le hc0
  simp only [Int.toNat_natCast]
  exact at_any R C b N r c h w (by omega) (by omega) hR hC hN hrow

def min4 (a b c d : Int) : Int := min (min (min a b) c) d
theorem run_min4 {P : Program} (w : World) (ts : Array TypeId) (t : TypeId) (a b c d : Int) :
    (Builtin.min_ ts t #[.int .i64 a, .int .i64 b, .int .i64 c, .int .i64 d]).run P w = .ok (.int .i64 (min4 a b c d)) w := by
  have : min4 a b c d = (if d < (if c < (if b < a then b else a) then c else (if b < a then b else a)) then d else (if c < (if b < a then b else a) then c else (if b < a then b else a))) := by
    unfold min4; repeat' split
    all_goals omega
  simp [Builtin.min_, Builtin.min2, this]
theorem le_min4 {l a b c d : Int} : l ≤ min4 a b c d ↔ l ≤ a ∧ l ≤ b ∧ l ≤ c ∧ l ≤ d := by unfold min4; omega

theorem le_min22 {l x1 x2 x3 x4 : Int} : l ≤ (if (if x4 < x3 then x4 else x3) < (if x2 < x1 then x2 else x1) then (if x4 < x3 then x4 else x3) else (if x2 < x1 then x2 else x1)) ↔ l ≤ x4 ∧ l ≤ x2 ∧ l ≤ x3 ∧ l ≤ x1 := by
  repeat' split
  all_goals omega

theorem sq_of (C : Nat) (h : Nat → Int) (l : Int) (r c : Nat) (b : Bool) (hb : b = decide (l ≤ h (r * C + c) ∧ l ≤ h (r * C + (c + 1)) ∧ l ≤ h ((r + 1) * C + c) ∧ l ≤ h ((r + 1) * C + (c + 1)))) : sq C h l r c = b := hb.symm

theorem corners_any (R C b N : Nat) (h : Nat → Int) (l : Int) (w : World) (hR1 : 1 ≤ R) (hC1 : 1 ≤ C) (hR : R ≤ 1000) (hC : C ≤ 1000) (hN : Hid (N = R * C)) (hrow : Hid (w.rowIs b 3 N (fun i => .int .i64 (h i)))) :
    Calls Try.prog 70 #[.agg #[.int .i64 R, .int .i64 C, .slice (some ⟨b, 0, none⟩) N N], .int .i64 l] w (RetV (.int .i64 (cnt2 (sq C h l) (C - 1) (R - 1))) w) := by
  have y0 := box_cell0 w (.int .i64 R) (.int .i64 C) (.slice (some ⟨b, 0, none⟩) N N) 49
  have y1 := box_cell1 w (.int .i64 R) (.int .i64 C) (.slice (some ⟨b, 0, none⟩) N N) 49
  have y2 := box_cell2 w (.int .i64 R) (.int .i64 C) (.slice (some ⟨b, 0, none⟩) N N) 49
  have hbx := below_alloc w (.cells #[.int .i64 R, .int .i64 C, .slice (some ⟨b, 0, none⟩) N N] 49)
  have HRow := Lib.hid (hrow.out.alloc (.cells #[.int .i64 R, .int .i64 C, .slice (some ⟨b, 0, none⟩) N N] 49))
  have hsz : (w.alloc (.cells #[.int .i64 R, .int .i64 C, .slice (some ⟨b, 0, none⟩) N N] 49)).heap.size = w.heap.size + 1 := by simp
  generalize hw0 : w.alloc (.cells #[.int .i64 R, .int .i64 C, .slice (some ⟨b, 0, none⟩) N N] 49) = w0 at y0 y1 y2 hbx HRow hsz
  have Y0 := Lib.hid y0
  have Y1 := Lib.hid y1
  have Y2 := Lib.hid y2
  have HW0 := Lib.hid hw0
  have HSZ := Lib.hid hsz
  clear y0 y1 y2 hw0 hsz
  go_enter Try.func70, Try.ntmps70
  go_wp2_with fail
  rw [HW0.out]
  go_loopw [5, 6] (fun v i wr => ∃ k : Nat, k ≤ R - 1 ∧ i = .int .i64 k ∧ v = .int .i64 (cnt2 (sq C h l) (C - 1) k) ∧ Below w0.heap.size w0 wr) (fun _ i _ => R - (intOf i).toNat)
  case atStart => exact ⟨0, Nat.zero_le _, rfl, rfl, Below.refl _ _⟩
  case round =>
    obtain ⟨k, hk, rfl, rfl, hbel⟩ := hrel
    have z0 := (hbel.cell (World.block_lt_of_cell? w0 _ Y0.out)).trans Y0.out
    have z1 := (hbel.cell (World.block_lt_of_cell? w0 _ Y1.out)).trans Y1.out
    by_cases hlt : k < R - 1
    · go_wp2_with fail
      obtain ⟨wo, hwo⟩ : ∃ wo : World, wo = wr := ⟨_, rfl⟩
      rw [← hwo] at hbel ⊢
      clear z0 z1 hwo
      go_loopw [5, 7] (fun v i wi => ∃ j : Nat, j ≤ C - 1 ∧ i = .int .i64 j ∧ v = .int .i64 ((cnt2 (sq C h l) (C - 1) k + cnt (sq C h l k) j : Nat)) ∧ Below w0.heap.size w0 wi) (fun _ i _ => C - (intOf i).toNat)
      case atStart => exact ⟨0, Nat.zero_le _, rfl, rfl, hbel⟩
      case round =>
        clear hbel
        obtain ⟨j, hj, rfl, rfl, hbel⟩ := hrel
        have z0 := (hbel.cell (World.block_lt_of_cell? w0 _ Y0.out)).trans Y0.out
        have z1 := (hbel.cell (World.block_lt_of_cell? w0 _ Y1.out)).trans Y1.out
        have z2 := (hbel.cell (World.block_lt_of_cell? w0 _ Y2.out)).trans Y2.out
        have hcb1 := cnt2_le (sq C h l) (C - 1) k
        have hcb2 := cnt_le (sq C h l k) j
        have hcb3 : k * (C - 1) ≤ 1000000 := Nat.le_trans (Nat.mul_le_mul (by omega : k ≤ 1000) (by omega : C - 1 ≤ 1000)) (by decide)
        by_cases hlt2 : j < C - 1
        · have HRo := Lib.hid (rowIs_kept HRow.out hbel)
          go_wp2_with fail
          have hmin := @run_min4 Try.prog
          have x0 := Later.cell z0
          have x1 := Later.cell z1
          have x2 := Later.cell z2
          refine wp_region_later (by kernel_rfl) (by kernel_rfl) ?_
          repeat (go_big_quiet_step ((go_at_call 47; exact quietL (at_int _ _ _ _ _ _ _ _ (by omega) (by omega) (by omega) (by omega) hR hC hN (rowIs_kept HRo.out (Later.below _))))))
          refine wpQuiet_nil ?_
          rintro w1 ⟨⟨_, hb1⟩, rfl⟩
          clear x0 x1 x2 hmin
          have hbel1 := hbel.trans (hb1.mono hbel.size)
          by_cases hq : l ≤ min4 (h (k * C + j)) (h (k * C + (j + 1))) (h ((k + 1) * C + j)) (h ((k + 1) * C + (j + 1)))
          · have HQ : Hid (sq C h l k j = true) := decide_eq_true (le_min4.1 hq)
            go_wp2_with fail
            go_roundw
            case rel => exact ⟨j + 1, by omega, by go_num, val_int (by simp only [cnt]; rw [HQ.out]; simp; omega), hbel1⟩
            case measure => simp [intOf]; omega
          · have HQ : Hid (sq C h l k j = false) := decide_eq_false (fun hh => hq (le_min4.2 hh))
            go_wp2_with fail
            go_roundw
            case rel => exact ⟨j + 1, by omega, by go_num, val_int (by simp only [cnt]; rw [HQ.out]; simp), hbel1⟩
            case measure => simp [intOf]; omega
        · have HJ : Hid (j = C - 1) := by show j = C - 1; omega
          go_wp2_with fail
          go_roundw
          case rel => exact ⟨k + 1, by omega, by go_num, val_int (by rw [HJ.out, cnt2]), hbel⟩
          case measure => simp [intOf]; omega
    · have HK : Hid (k = R - 1) := by show k = R - 1; omega
      go_wp2_with fail
      go_ret
      exact ⟨ret_int (by rw [HK.out]), hbx.trans (hbel.mono hbx.size)⟩

def cornersV (n : Nat) (L : Nat → Nat) (g : Nat → Nat → Int) (l : Int) : Int := if Lvl n L g l then (cnt2 (sq (L 0) (flat (L 0) g) l) (L 0 - 1) (n - 1) : Nat) else -1

theorem implLevelCorners_any (A : Option Addr) (n cp : Nat) (L : Nat → Nat) (g : Nat → Nat → Int) (l : Int) (w : World) (hg : GridF w A n L g) (hn : n ≤ 1048576) (hL : ∀ r, r < n → L r ≤ 1048576) (_h1 : -9223372036854775808 ≤ l) (_h2 : l ≤ 9223372036854775807) :
    Calls Try.prog 37 #[.slice A n cp, .int .i64 l] w (RetV (.int .i64 (cornersV n L g l)) w) := by
  have HG := Lib.hid hg
  have HL := Lib.hid hL
  clear hg hL
  by_cases hv : Lvl n L g l
  · have HE := Lib.hid (show cornersV n L g l = _ from if_pos hv)
    have HV := Lib.hid hv
    have hn1 := hv.1.1
    have hn2 := hv.1.2.1
    have hl1 := hv.1.2.2.1
    have hl2 := hv.1.2.2.2.1
    clear hv
    go_enter Try.func37, Try.ntmps37
    go_wp2_with fail
    refine (leveled_yes _ _ _ _ _ _ _ _ HG.out HV.out rfl).mono ?_
    rintro e w1 ⟨b, rfl, hlo, hrow, hb1⟩
    have HRow := Lib.hid hrow
    clear hrow
    go_wp2_with fail
    refine (corners_any _ _ _ _ _ _ _ (by omega) (by omega) (by omega) (by omega) rfl (HRow.out.alloc _)).mono ?_
    rintro e w2 ⟨rfl, hb2⟩
    go_wp2_with fail
    go_ret
    exact ⟨ret_int HE.out.symm, (hb1.alloc hb1.size _).trans (hb2.mono (by have := hb1.size; simp; omega))⟩
  · have HE := Lib.hid (show cornersV n L g l = _ from if_neg hv)
    have HV := Lib.hid hv
    clear hv
    go_enter Try.func37, Try.ntmps37
    go_wp2_with fail
    refine (leveled_no _ _ _ _ _ _ _ HG.out hn HL.out HV.out).mono ?_
    rintro e w1 ⟨rfl, hb1⟩
    go_wp2_with fail
    go_ret
    exact ⟨ret_int HE.out.symm, hb1.alloc hb1.size _⟩

theorem specLevelCorners_any (A : Option Addr) (n cp : Nat) (L : Nat → Nat) (g : Nat → Nat → Int) (l : Int) (w : World) (hg : GridF w A n L g) (hn : n ≤ 1048576) (hL : ∀ r, r < n → L r ≤ 1048576) (_h1 : -9223372036854775808 ≤ l) (_h2 : l ≤ 9223372036854775807) :
    Calls Try.prog 38 #[.slice A n cp, .int .i64 l] w (RetV (.int .i64 (cornersV n L g l)) w) := by
  have HG := Lib.hid hg
  have HL := Lib.hid hL
  clear hg hL
  by_cases hv : Lvl n L g l
  · have HE := Lib.hid (show cornersV n L g l = _ from if_pos hv)
    have HV := Lib.hid hv
    have hn1 := hv.1.1
    have hn2 := hv.1.2.1
    have hl1 := hv.1.2.2.1
    have hl2 := hv.1.2.2.2.1
    clear hv
    obtain ⟨B, o, A0, c0, rfl, hc0, _, hr0⟩ := HG.out 0 (by omega)
    rw [Nat.add_zero] at hc0
    clear hr0
    obtain ⟨C, hC⟩ : ∃ C, C = L 0 := ⟨_, rfl⟩
    obtain ⟨h, hh⟩ : ∃ h, h = flat (L 0) g := ⟨_, rfl⟩
    rw [← hh, ← hC] at HE
    rw [← hC] at hc0 hl1 hl2
    have HH := Lib.hid hh
    have HC := Lib.hid hC
    clear hh hC
    go_enter Try.func38, Try.ntmps38
    go_wp2_with fail
    refine (l3Ok_yes _ _ _ _ _ _ _ HG.out HV.out).mono ?_
    rintro e w1 ⟨rfl, hb1⟩
    have HC0 := Lib.hid hc0
    clear hc0
    go_wp2_with fail
    go_loopw [5, 6] (fun v i wr => ∃ k : Nat, k ≤ n - 1 ∧ i = .int .i64 ((k : Int) + 1) ∧ v = .int .i64 (cnt2 (sq C h l) (C - 1) k) ∧ Below w.heap.size w wr) (fun _ i _ => n - (intOf i).toNat)
    case atStart => exact ⟨0, Nat.zero_le _, rfl, rfl, hb1⟩
    case round =>
      clear hb1
      obtain ⟨k, hk, rfl, rfl, hbel⟩ := hrel
      by_cases hlt : k < n - 1
      · obtain ⟨B1, o1, A1, c1, hBB, hk1, _, hr1⟩ := HG.out k (by omega)
        injection hBB with hBB
        injection hBB with hB1 hB2
        subst hB1 hB2
        obtain ⟨B1, o1, A2, c2, hBB, hk2, _, hr2⟩ := HG.out (k + 1) (by omega)
        injection hBB with hBB
        injection hBB with hB1 hB2
        subst hB1 hB2
        rw [HV.out.1.len k (by omega), ← HC.out] at hk1 hr1
        rw [HV.out.1.len (k + 1) (by omega), ← HC.out] at hk2 hr2
        have HK1 := Lib.hid hk1
        have HK2 := Lib.hid hk2
        have HR1 := Lib.hid hr1
        have HR2 := Lib.hid hr2
        clear hk1 hk2 hr1 hr2
        go_wp2_with fail
        obtain ⟨wo, hwo⟩ : ∃ wo : World, wo = wr := ⟨_, rfl⟩
        rw [← hwo] at hbel ⊢
        clear hwo
        go_loopw [5, 7] (fun v i wi => ∃ j : Nat, j ≤ C - 1 ∧ i = .int .i64 ((j : Int) + 1) ∧ v = .int .i64 ((cnt2 (sq C h l) (C - 1) k + cnt (sq C h l k) j : Nat)) ∧ Below w.heap.size w wi) (fun _ i _ => C - (intOf i).toNat)
        case atStart => exact ⟨0, Nat.zero_le _, rfl, rfl, hbel⟩
        case round =>
          clear hbel
          obtain ⟨j, hj, rfl, rfl, hbel⟩ := hrel
          have z0 := (hbel.cell (World.block_lt_of_cell? w _ HC0.out)).trans HC0.out
          have hcb1 := cnt2_le (sq C h l) (C - 1) k
          have hcb2 := cnt_le (sq C h l k) j
          have hcb3 : k * (C - 1) ≤ 1000000 := Nat.le_trans (Nat.mul_le_mul (by omega : k ≤ 1000) (by omega : C - 1 ≤ 1000)) (by decide)
          by_cases hlt2 : j < C - 1
          · obtain ⟨Ba, oa, rfl, ha1⟩ := HR1.out j (by omega)
            obtain ⟨B1, o1, hBB, ha2⟩ := HR1.out (j + 1) (by omega)
            injection hBB with hBB
            injection hBB with hB1 hB2
            subst hB1 hB2
            obtain ⟨Bb, ob, rfl, ha3⟩ := HR2.out j (by omega)
            obtain ⟨B1, o1, hBB, ha4⟩ := HR2.out (j + 1) (by omega)
            injection hBB with hBB
            injection hBB with hB1 hB2
            subst hB1 hB2
            have e1 : g k j = h (k * C + j) := by rw [HH.out, HC.out, flat_at g (by rw [← HC.out]; omega)]
            have e2 : g k (j + 1) = h (k * C + (j + 1)) := by rw [HH.out, HC.out, flat_at g (by rw [← HC.out]; omega)]
            have e3 : g (k + 1) j = h ((k + 1) * C + j) := by rw [HH.out, HC.out, flat_at g (by rw [← HC.out]; omega)]
            have e4 : g (k + 1) (j + 1) = h ((k + 1) * C + (j + 1)) := by rw [HH.out, HC.out, flat_at g (by rw [← HC.out]; omega)]
            rw [e1] at ha1
            rw [e2] at ha2
            rw [e3] at ha3
            rw [e4] at ha4
            clear e1 e2 e3 e4
            have y1 := (hbel.cell (World.block_lt_of_cell? w _ HK1.out)).trans HK1.out
            have y2 := (hbel.cell (World.block_lt_of_cell? w _ HK2.out)).trans HK2.out
            have y3 := (hbel.cell (World.block_lt_of_cell? w _ ha1)).trans ha1
            have y4 := (hbel.cell (World.block_lt_of_cell? w _ ha2)).trans ha2
            have y5 := (hbel.cell (World.block_lt_of_cell? w _ ha3)).trans ha3
            have y6 := (hbel.cell (World.block_lt_of_cell? w _ ha4)).trans ha4
            clear ha1 ha2 ha3 ha4
            go_wp2_with fail
            go_quiet (fail)
            by_cases hq : l ≤ h (k * C + j) ∧ l ≤ h (k * C + (j + 1)) ∧ l ≤ h ((k + 1) * C + j) ∧ l ≤ h ((k + 1) * C + (j + 1))
            · have HQ : Hid (sq C h l k j = true) := decide_eq_true hq
              have hm := le_min22.2 hq
              clear hq
              go_wp2_with fail
              go_roundw
              case rel => exact ⟨j + 1, by omega, by go_num, val_int (by simp only [cnt]; rw [HQ.out]; simp; omega), below_drewN hbel _⟩
              case measure => simp [intOf]; omega
            · have HQ : Hid (sq C h l k j = false) := decide_eq_false hq
              have hm := Int.not_le.1 (mt le_min22.1 hq)
              clear hq
              go_wp2_with fail
              go_roundw
              case rel => exact ⟨j + 1, by omega, by go_num, val_int (by simp only [cnt]; rw [HQ.out]; simp), below_drewN hbel _⟩
              case measure => simp [intOf]; omega
          · have HJ : Hid (j = C - 1) := by show j = C - 1; omega
            go_wp2_with fail
            go_roundw
            case rel => exact ⟨k + 1, by omega, by go_num, val_int (by rw [HJ.out, cnt2]), hbel⟩
            case measure => simp [intOf]; omega
      · have HK : Hid (k = n - 1) := by show k = n - 1; omega
        go_wp2_with fail
        go_ret
        exact ⟨ret_int (by rw [HE.out, HK.out]), hbel⟩
  · have HE := Lib.hid (show cornersV n L g l = _ from if_neg hv)
    have HV := Lib.hid hv
    clear hv
    go_enter Try.func38, Try.ntmps38
    go_wp2_with fail
    refine (l3Ok_no _ _ _ _ _ _ _ HG.out hn HL.out HV.out).mono ?_
    rintro e w1 ⟨rfl, hb1⟩
    go_wp2_with fail
    go_ret
    exact ⟨ret_int HE.out.symm, hb1⟩

end Go.Proofs.Ytofkjldijamlhaa
