/- How many regions, their numbers and areas, whole land, regions inside regions: what the program's and the reference's functions return. -/
import Derived.Test.YtgekjhmjjjkibaaRegi
import Derived.Test.YtgekjhmjjjkibaaSNum
import Derived.Test.YtgekjhmjjjkibaaMarkI
namespace Go.Proofs.Ytgekjhmjjjkibaa
set_option linter.unusedVariables false
set_option linter.unusedSimpArgs false
open Go.RowKit

theorem own_of_row {w : World} {q lo n : Nat} {F : Nat → Int} (h : w.rowIs q 3 n (fun i => .int .i64 (F i))) (hlo : lo ≤ q) (hn : n ≤ 1000000) : OwnI w lo (.slice (some ⟨q, 0, none⟩) n n) n F := by
  obtain ⟨cs, hh, hs, hc⟩ := h
  refine ⟨by simp, .inr ⟨q, n, cs, rfl, hlo, hh, Nat.le_refl _, by unfold maxLen; omega, by omega, ?_⟩⟩
  rw [Nat.mul_one]
  apply List.ext_getElem?
  intro i
  by_cases hi : i < n
  · rw [List.getElem?_take_of_lt hi]
    have := hc i hi
    simp only [Array.getElem?_toList]
    rw [this]
    simp [hi]
  · rw [List.getElem?_take_eq_none (by omega), List.getElem?_eq_none (by simp; omega)]

noncomputable def Cnum (n : Nat) (L : Nat → Nat) (g : Nat → Nat → Int) (l : Int) : Nat → Int := fun i => regV n (L 0) (flat (L 0) g) l i

noncomputable def levelRegionsV (n : Nat) (L : Nat → Nat) (g : Nat → Nat → Int) (l : Int) : Int := if Lvl n L g l then (regN n (L 0) (flat (L 0) g) l : Nat) else -1

theorem implLevelRegions_any (A : Option Addr) (n cp : Nat) (L : Nat → Nat) (g : Nat → Nat → Int) (l : Int) (w : World) (hg : GridF w A n L g) (hn : n ≤ 1048576) (hL : ∀ r, r < n → L r ≤ 1048576) (_hl1 : -9223372036854775808 ≤ l) (_hl2 : l ≤ 9223372036854775807) :
    Calls Try.prog 22 #[.slice A n cp, .int .i64 l] w (RetV (.int .i64 (levelRegionsV n L g l)) w) := by
  have HG := Lib.hid hg
  have HL := Lib.hid hL
  clear hg hL
  by_cases hv : Lvl n L g l
  · have HE := Lib.hid (show levelRegionsV n L g l = _ from if_pos hv)
    have HV := Lib.hid hv
    have hn2 := hv.1.2.1
    have hl1 := hv.1.2.2.1
    have hl2 := hv.1.2.2.2.1
    clear hv
    go_enter Try.func22, Try.ntmps22
    go_wp2_with fail
    refine (leveled_yes _ _ _ _ _ _ _ _ HG.out HV.out rfl).mono ?_
    rintro e w1 ⟨b, rfl, hlo, hrow, hb1⟩
    have HRow := Lib.hid (hrow.alloc (.cells #[.int .i64 n, .int .i64 (L 0), .slice (some ⟨b, 0, none⟩) (n * L 0) (n * L 0)] 49))
    have hbx := hb1.alloc hb1.size (.cells #[.int .i64 n, .int .i64 (L 0), .slice (some ⟨b, 0, none⟩) (n * L 0) (n * L 0)] 49)
    clear hrow
    go_wp2_with fail
    refine (regions_any _ _ _ _ _ _ _ hl1 (by omega) (by omega) rfl HRow).mono ?_
    rintro e w2 ⟨q, rfl, hq, hrow2, hb2⟩
    clear hrow2
    go_wp2_with fail
    go_ret
    exact ⟨ret_int HE.out.symm, hbx.trans (hb2.mono hbx.size)⟩
  · have HE := Lib.hid (show levelRegionsV n L g l = _ from if_neg hv)
    have HV := Lib.hid hv
    clear hv
    go_enter Try.func22, Try.ntmps22
    go_wp2_with fail
    refine (leveled_no _ _ _ _ _ _ _ HG.out hn HL.out HV.out).mono ?_
    rintro e w1 ⟨rfl, hb1⟩
    go_wp2_with fail
    go_ret
    exact ⟨ret_int HE.out.symm, hb1.alloc hb1.size _⟩

theorem specLevelRegions_any (A : Option Addr) (n cp : Nat) (L : Nat → Nat) (g : Nat → Nat → Int) (l : Int) (w : World) (hg : GridF w A n L g) (hn : n ≤ 1048576) (hL : ∀ r, r < n → L r ≤ 1048576) (_hl1 : -9223372036854775808 ≤ l) (_hl2 : l ≤ 9223372036854775807) :
    Calls Try.prog 21 #[.slice A n cp, .int .i64 l] w (RetV (.int .i64 (levelRegionsV n L g l)) w) := by
  have HG := Lib.hid hg
  have HL := Lib.hid hL
  clear hg hL
  by_cases hv : Lvl n L g l
  · have HE := Lib.hid (show levelRegionsV n L g l = _ from if_pos hv)
    have HV := Lib.hid hv
    clear hv
    go_enter Try.func21, Try.ntmps21
    go_wp2_with fail
    refine (l3Ok_yes _ _ _ _ _ _ _ HG.out HV.out).mono ?_
    rintro e w1 ⟨rfl, hb1⟩
    go_wp2_with fail
    refine (l3Numbers_any _ _ _ _ _ _ _ (HG.out.below hb1) HV.out.1).mono ?_
    rintro e w2 ⟨A2, c2, rfl, hown, hb2⟩
    clear hown
    go_wp2_with fail
    go_ret
    exact ⟨ret_int HE.out.symm, hb1.trans (hb2.mono hb1.size)⟩
  · have HE := Lib.hid (show levelRegionsV n L g l = _ from if_neg hv)
    have HV := Lib.hid hv
    clear hv
    go_enter Try.func21, Try.ntmps21
    go_wp2_with fail
    refine (l3Ok_no _ _ _ _ _ _ _ HG.out hn HL.out HV.out).mono ?_
    rintro e w1 ⟨rfl, hb1⟩
    go_wp2_with fail
    go_ret
    exact ⟨ret_int HE.out.symm, hb1⟩

theorem implLevelNumbers_yes (A : Option Addr) (n cp : Nat) (L : Nat → Nat) (g : Nat → Nat → Int) (l : Int) (w : World) (hg : GridF w A n L g) (hv : Lvl n L g l) :
    Calls Try.prog 26 #[.slice A n cp, .int .i64 l] w (RetIIb (n * L 0) (Cnum n L g l) true w) := by
  have HG := Lib.hid hg
  have HV := Lib.hid hv
  have hn2 := hv.1.2.1
  have hl1 := hv.1.2.2.1
  have hl2 := hv.1.2.2.2.1
  have hN1 : n * L 0 ≤ 49 := Nat.le_trans (Nat.mul_le_mul hn2 hl2) (by decide)
  clear hg hv
  go_enter Try.func26, Try.ntmps26
  go_wp2_with fail
  refine (leveled_yes _ _ _ _ _ _ _ _ HG.out HV.out rfl).mono ?_
  rintro e w1 ⟨b, rfl, hlo, hrow, hb1⟩
  have HRow := Lib.hid (hrow.alloc (.cells #[.int .i64 n, .int .i64 (L 0), .slice (some ⟨b, 0, none⟩) (n * L 0) (n * L 0)] 49))
  have hbx := hb1.alloc hb1.size (.cells #[.int .i64 n, .int .i64 (L 0), .slice (some ⟨b, 0, none⟩) (n * L 0) (n * L 0)] 49)
  clear hrow
  go_wp2_with fail
  refine (regions_any _ _ _ _ _ _ _ hl1 (by omega) (by omega) rfl HRow).mono ?_
  rintro e w2 ⟨q, rfl, hq, hrow2, hb2⟩
  have HQ : Hid (OwnI w2 w.heap.size (.slice (some ⟨q, 0, none⟩) (n * L 0) (n * L 0)) (n * L 0) (Cnum n L g l)) := own_of_row hrow2 (Nat.le_trans hbx.size hq) (by omega)
  clear hrow2 hq
  go_wp2_with fail
  go_ret2
  exact ⟨_, _, rfl, HQ.out, hbx.trans (hb2.mono hbx.size)⟩
theorem implLevelNumbers_no (A : Option Addr) (n cp : Nat) (L : Nat → Nat) (g : Nat → Nat → Int) (l : Int) (w : World) (hg : GridF w A n L g) (hn : n ≤ 1048576) (hL : ∀ r, r < n → L r ≤ 1048576) (hv : ¬ Lvl n L g l) :
    Calls Try.prog 26 #[.slice A n cp, .int .i64 l] w (RetIIb 0 (fun _ => 0) false w) := by
  have HG := Lib.hid hg
  have HL := Lib.hid hL
  have HV := Lib.hid hv
  clear hg hL hv
  go_enter Try.func26, Try.ntmps26
  go_wp2_with fail
  refine (leveled_no _ _ _ _ _ _ _ HG.out hn HL.out HV.out).mono ?_
  rintro e w1 ⟨rfl, hb1⟩
  go_wp2_with fail
  go_ret2
  exact ⟨_, _, rfl, OwnS.nil _ _ _ _, hb1.alloc hb1.size _⟩

theorem specLevelNumbers_yes (A : Option Addr) (n cp : Nat) (L : Nat → Nat) (g : Nat → Nat → Int) (l : Int) (w : World) (hg : GridF w A n L g) (hv : Lvl n L g l) :
    Calls Try.prog 25 #[.slice A n cp, .int .i64 l] w (RetSIb (n * L 0) (Cnum n L g l) true w) := by
  have HG := Lib.hid hg
  have HV := Lib.hid hv
  clear hg hv
  go_enter Try.func25, Try.ntmps25
  go_wp2_with fail
  refine (l3Ok_yes _ _ _ _ _ _ _ HG.out HV.out).mono ?_
  rintro e w1 ⟨rfl, hb1⟩
  go_wp2_with fail
  refine (l3Numbers_any _ _ _ _ _ _ _ (HG.out.below hb1) HV.out.1).mono ?_
  rintro e w2 ⟨A2, c2, rfl, hown, hb2⟩
  have HO := Lib.hid hown.row
  clear hown
  go_wp2_with fail
  go_ret2
  exact ⟨_, _, rfl, HO.out, hb1.trans (hb2.mono hb1.size)⟩
theorem specLevelNumbers_no (A : Option Addr) (n cp : Nat) (L : Nat → Nat) (g : Nat → Nat → Int) (l : Int) (w : World) (hg : GridF w A n L g) (hn : n ≤ 1048576) (hL : ∀ r, r < n → L r ≤ 1048576) (hv : ¬ Lvl n L g l) :
    Calls Try.prog 25 #[.slice A n cp, .int .i64 l] w (RetSIb 0 (fun _ => 0) false w) := by
  have HG := Lib.hid hg
  have HL := Lib.hid hL
  have HV := Lib.hid hv
  clear hg hL hv
  go_enter Try.func25, Try.ntmps25
  go_wp2_with fail
  refine (l3Ok_no _ _ _ _ _ _ _ HG.out hn HL.out HV.out).mono ?_
  rintro e w1 ⟨rfl, hb1⟩
  go_wp2_with fail
  go_ret2
  exact ⟨_, _, rfl, fun k hk => absurd hk (Nat.not_lt_zero k), hb1.alloc hb1.size _⟩

theorem l2Count_any (A : Option Addr) (n c : Nat) (F : Nat → Int) (x : Int) (w : World) (h : RowF w A n F) (hn : n ≤ 1048576) :
    Calls Try.prog 63 #[.slice A n c, .int .i64 x] w (RetP (.int .i64 (cntI F x n : Nat)) w) := by
  have H := Lib.hid h
  clear h
  go_enter Try.func63, Try.ntmps63
  go_wp2_with fail
  go_loop [5, 6] (fun v i => ∃ k : Nat, k ≤ n ∧ i = .int .i64 k ∧ v = .int .i64 (cntI F x k : Nat)) (fun _ i => n - (intOf i).toNat)
  case atStart => exact ⟨0, Nat.zero_le _, rfl, rfl⟩
  case round =>
    obtain ⟨k, hk, rfl, rfl⟩ := hrel
    have hcn : cntI F x k ≤ k := cnt_le _ _
    by_cases hlt : k < n
    · obtain ⟨b', o, rfl, hc⟩ := H.out k hlt
      have HS : Hid (cntI F x (k + 1) = cntI F x k + if decide (F k = x) then 1 else 0) := rfl
      by_cases hx : F k = x
      · have d1 : (F k == x) = true := by simpa using hx
        rw [decide_eq_true hx, if_pos rfl] at HS
        clear hx
        go_wp2_with fail
        go_round
        case rel => exact ⟨k + 1, by omega, by go_num, val_int (by rw [HS.out]; omega)⟩
        case measure => simp [intOf]; omega
      · have d1 : (F k == x) = false := by simpa using hx
        rw [decide_eq_false hx, if_neg (by decide)] at HS
        clear hx
        go_wp2_with fail
        go_round
        case rel => exact ⟨k + 1, by omega, by go_num, val_int (by rw [HS.out]; omega)⟩
        case measure => simp [intOf]; omega
    · have HK : Hid (k = n) := by show k = n; omega
      go_wp2_with fail
      go_ret
      exact ⟨ret_int (by rw [HK.out]), rfl⟩

noncomputable def levelAreaV (n : Nat) (L : Nat → Nat) (g : Nat → Nat → Int) (l x : Int) : Int := @ite _ (Lvl n L g l ∧ 0 ≤ x ∧ x < regN n (L 0) (flat (L 0) g) l) (Classical.propDecidable _) ((cntI (Cnum n L g l) x (n * L 0) : Nat) : Int) (-1)
theorem levelAreaV_yes {n : Nat} {L : Nat → Nat} {g : Nat → Nat → Int} {l x : Int} (h : Lvl n L g l ∧ 0 ≤ x ∧ x < regN n (L 0) (flat (L 0) g) l) : levelAreaV n L g l x = (cntI (Cnum n L g l) x (n * L 0) : Nat) := by unfold levelAreaV; exact if_pos h
theorem levelAreaV_no {n : Nat} {L : Nat → Nat} {g : Nat → Nat → Int} {l x : Int} (h : ¬ (Lvl n L g l ∧ 0 ≤ x ∧ x < regN n (L 0) (flat (L 0) g) l)) : levelAreaV n L g l x = -1 := by unfold levelAreaV; exact if_neg h

theorem implLevelArea_any (A : Option Addr) (n cp : Nat) (L : Nat → Nat) (g : Nat → Nat → Int) (l x : Int) (w : World) (hg : GridF w A n L g) (hn : n ≤ 1048576) (hL : ∀ r, r < n → L r ≤ 1048576) (_hl1 : -9223372036854775808 ≤ l) (_hl2 : l ≤ 9223372036854775807) (_hx1 : -9223372036854775808 ≤ x) (_hx2 : x ≤ 9223372036854775807) :
    Calls Try.prog 32 #[.slice A n cp, .int .i64 l, .int .i64 x] w (RetV (.int .i64 (levelAreaV n L g l x)) w) := by
  have HG := Lib.hid hg
  have HL := Lib.hid hL
  clear hg hL
  by_cases hv : Lvl n L g l
  · have HV := Lib.hid hv
    have hn2 := hv.1.2.1
    have hl1 := hv.1.2.2.1
    have hl2 := hv.1.2.2.2.1
    have hN1 : n * L 0 ≤ 49 := Nat.le_trans (Nat.mul_le_mul hn2 hl2) (by decide)
    have hcn : regN n (L 0) (flat (L 0) g) l ≤ n * L 0 := regN_le
    have HYes := Lib.hid (levelAreaV_yes (n := n) (L := L) (g := g) (l := l) (x := x))
    have HNo := Lib.hid (levelAreaV_no (n := n) (L := L) (g := g) (l := l) (x := x))
    obtain ⟨N, hN⟩ : ∃ N, N = n * L 0 := ⟨_, rfl⟩
    have HN := Lib.hid hN
    rw [← hN] at hN1 hcn HYes
    clear hv hN
    go_enter Try.func32, Try.ntmps32
    go_wp2_with fail
    refine (leveled_yes _ _ _ N _ _ _ _ HG.out HV.out HN).mono ?_
    rintro e w1 ⟨b, rfl, hlo, hrow, hb1⟩
    have HRow := Lib.hid (hrow.alloc (.cells #[.int .i64 n, .int .i64 (L 0), .slice (some ⟨b, 0, none⟩) N N] 49))
    have hbx := hb1.alloc hb1.size (.cells #[.int .i64 n, .int .i64 (L 0), .slice (some ⟨b, 0, none⟩) N N] 49)
    clear hrow
    go_wp2_with fail
    refine (regions_any _ _ _ _ _ _ _ hl1 (by omega) (by omega) HN HRow).mono ?_
    rintro e w2 ⟨q, rfl, hq, hrow2, hb2⟩
    have HQ : Hid (w2.rowIs q 3 N (fun i => .int .i64 (Cnum n L g l i))) := hrow2
    have hbw2 := hbx.trans (hb2.mono hbx.size)
    clear hrow2 hq hb2
    generalize regN n (L 0) (flat (L 0) g) l = cR at *
    generalize Cnum n L g l = F at *
    by_cases q1 : x < 0
    · have HX := Lib.hid (HNo.out (fun hh => by omega))
      go_wp2_with fail
      go_ret
      exact ⟨ret_int HX.out.symm, hbw2⟩
    by_cases q2 : x < (cR : Int)
    · have HX := Lib.hid (HYes.out ⟨HV.out, by omega, q2⟩)
      go_wp2_with fail
      go_loop [11, 37] (fun v i => ∃ k : Nat, k ≤ N ∧ i = .int .i64 k ∧ v = .int .i64 (cntI F x k : Nat)) (fun _ i => N - (intOf i).toNat)
      case atStart => exact ⟨0, Nat.zero_le _, rfl, rfl⟩
      case round =>
        obtain ⟨k, hk, rfl, rfl⟩ := hrel
        have hcn : cntI F x k ≤ k := cnt_le _ _
        by_cases hlt : k < N
        · have hc := HQ.out.cell hlt
          have HS : Hid (cntI F x (k + 1) = cntI F x k + if decide (F k = x) then 1 else 0) := rfl
          by_cases hx : F k = x
          · have d1 : (F k == x) = true := by simpa using hx
            rw [decide_eq_true hx, if_pos rfl] at HS
            clear hx
            go_wp2_with fail
            go_round
            case rel => exact ⟨k + 1, by omega, by go_num, val_int (by rw [HS.out]; omega)⟩
            case measure => simp [intOf]; omega
          · have d1 : (F k == x) = false := by simpa using hx
            rw [decide_eq_false hx, if_neg (by decide)] at HS
            clear hx
            go_wp2_with fail
            go_round
            case rel => exact ⟨k + 1, by omega, by go_num, val_int (by rw [HS.out]; omega)⟩
            case measure => simp [intOf]; omega
        · have HK : Hid (k = N) := by show k = N; omega
          go_wp2_with fail
          go_ret
          exact ⟨ret_int (by rw [HX.out, HK.out]), hbw2⟩
    · have HX := Lib.hid (HNo.out (fun hh => q2 hh.2.2))
      go_wp2_with fail
      go_ret
      exact ⟨ret_int HX.out.symm, hbw2⟩
  · have HE := Lib.hid (levelAreaV_no (n := n) (L := L) (g := g) (l := l) (x := x) (fun hh => hv hh.1))
    have HV := Lib.hid hv
    clear hv
    go_enter Try.func32, Try.ntmps32
    go_wp2_with fail
    refine (leveled_no _ _ _ _ _ _ _ HG.out hn HL.out HV.out).mono ?_
    rintro e w1 ⟨rfl, hb1⟩
    go_wp2_with fail
    go_ret
    exact ⟨ret_int HE.out.symm, hb1.alloc hb1.size _⟩

theorem specLevelArea_any (A : Option Addr) (n cp : Nat) (L : Nat → Nat) (g : Nat → Nat → Int) (l x : Int) (w : World) (hg : GridF w A n L g) (hn : n ≤ 1048576) (hL : ∀ r, r < n → L r ≤ 1048576) (_hl1 : -9223372036854775808 ≤ l) (_hl2 : l ≤ 9223372036854775807) (_hx1 : -9223372036854775808 ≤ x) (_hx2 : x ≤ 9223372036854775807) :
    Calls Try.prog 31 #[.slice A n cp, .int .i64 l, .int .i64 x] w (RetV (.int .i64 (levelAreaV n L g l x)) w) := by
  have HG := Lib.hid hg
  have HL := Lib.hid hL
  clear hg hL
  by_cases hv : Lvl n L g l
  · have HV := Lib.hid hv
    have hN1 : n * L 0 ≤ 49 := Nat.le_trans (Nat.mul_le_mul hv.1.2.1 hv.1.2.2.2.1) (by decide)
    have HYes := Lib.hid (levelAreaV_yes (n := n) (L := L) (g := g) (l := l) (x := x))
    have HNo := Lib.hid (levelAreaV_no (n := n) (L := L) (g := g) (l := l) (x := x))
    have HZ : Hid (0 ≤ x → (cntI (Cnum n L g l) x (n * L 0) = 0 ↔ ¬ x < regN n (L 0) (flat (L 0) g) l)) := fun hx => area_zero hx
    clear hv
    go_enter Try.func31, Try.ntmps31
    go_wp2_with fail
    refine (specLevelNumbers_yes _ _ _ _ _ _ _ HG.out HV.out).mono ?_
    rintro e w1 ⟨A1, c1, rfl, hrow, hb1⟩
    have HR := Lib.hid hrow
    clear hrow
    generalize n * L 0 = N at *
    have hcN : cntI (Cnum n L g l) x N ≤ N := cnt_le _ _
    generalize hc : cntI (Cnum n L g l) x N = c at *
    have HC := Lib.hid hc
    clear hc
    by_cases q1 : x < 0
    · have HX := Lib.hid (HNo.out (fun hh => by omega))
      go_wp2_with fail
      go_ret
      exact ⟨ret_int HX.out.symm, hb1⟩
    by_cases q2 : c = 0
    · have d1 : ((c : Int) == 0) = true := beq_iff_eq.2 (by omega)
      have HX := Lib.hid (HNo.out (fun hh => by have h1 := (HZ.out (by omega)).1 q2; have h2 := hh.2.2; omega))
      go_wp2_with fail
      refine (l2Count_any _ _ _ _ _ _ HR.out (by omega)).mono ?_
      rintro e w' ⟨rfl, rfl⟩
      rw [HC.out]
      clear q2
      go_wp2_with fail
      go_ret
      exact ⟨ret_int HX.out.symm, hb1⟩
    · have d1 : ((c : Int) == 0) = false := beq_eq_false_iff_ne.2 (by omega)
      have hlt : x < regN n (L 0) (flat (L 0) g) l := Int.not_le.1 (fun hh => q2 ((HZ.out (by omega)).2 (by omega)))
      have HX := Lib.hid (HYes.out ⟨HV.out, by omega, hlt⟩)
      clear hlt
      go_wp2_with fail
      refine (l2Count_any _ _ _ _ _ _ HR.out (by omega)).mono ?_
      rintro e w' ⟨rfl, rfl⟩
      rw [HC.out]
      go_wp2_with fail
      refine (l2Count_any _ _ _ _ _ _ HR.out (by omega)).mono ?_
      rintro e w' ⟨rfl, rfl⟩
      rw [HC.out]
      go_wp2_with fail
      go_ret
      exact ⟨ret_int HX.out.symm, hb1⟩
  · have HE := Lib.hid (levelAreaV_no (n := n) (L := L) (g := g) (l := l) (x := x) (fun hh => hv hh.1))
    have HV := Lib.hid hv
    clear hv
    go_enter Try.func31, Try.ntmps31
    go_wp2_with fail
    refine (specLevelNumbers_no _ _ _ _ _ _ _ HG.out hn HL.out HV.out).mono ?_
    rintro e w1 ⟨A1, c1, rfl, hrow, hb1⟩
    clear hrow
    go_wp2_with fail
    go_ret
    exact ⟨ret_int HE.out.symm, hb1⟩

noncomputable def levelWholeV (n : Nat) (L : Nat → Nat) (g : Nat → Nat → Int) : Int := if Valid n L g then (wholeV n (L 0) (flat (L 0) g) : Nat) else -1
theorem flat_pos {n : Nat} {L : Nat → Nat} {g : Nat → Nat → Int} (hv : Valid n L g) : ∀ i, i < n * L 0 → 0 ≤ flat (L 0) g i := fun i hi => by
  obtain ⟨_, h1, h2, _⟩ := rc_in hi
  exact (hv.2.2.2.2 _ h1).2 _ h2 |>.1

theorem implLevelWhole_any (A : Option Addr) (n cp : Nat) (L : Nat → Nat) (g : Nat → Nat → Int) (w : World) (hg : GridF w A n L g) (hn : n ≤ 1048576) (hL : ∀ r, r < n → L r ≤ 1048576) :
    Calls Try.prog 24 #[.slice A n cp] w (RetV (.int .i64 (levelWholeV n L g)) w) := by
  have HG := Lib.hid hg
  have HL := Lib.hid hL
  clear hg hL
  by_cases hv : Valid n L g
  · have HE := Lib.hid (show levelWholeV n L g = _ from if_pos hv)
    have HV := Lib.hid hv
    have hn2 := hv.2.1
    have hl1 := hv.2.2.1
    have hl2 := hv.2.2.2.1
    have HZ : Hid (regN n (L 0) (flat (L 0) g) ((0 : Nat) : Int) = 1) := regN_zero (flat_pos hv) (Nat.mul_pos (by have := hv.1; omega) (by omega))
    have HW : Hid (wholeV n (L 0) (flat (L 0) g) = whl (fun l => regN n (L 0) (flat (L 0) g) (l : Int)) 0 99) := rfl
    clear hv
    go_enter Try.func24, Try.ntmps24
    go_wp2_with fail
    refine (fieldOf_yes _ _ _ _ _ _ _ HG.out HV.out rfl).mono ?_
    rintro e w1 ⟨b, rfl, hlo, hrow, hb1⟩
    have HB := Lib.hid (Boxed.new (R := n) (C := L 0) hrow)
    have hbx := hb1.alloc hb1.size (.cells #[.int .i64 n, .int .i64 (L 0), .slice (some ⟨b, 0, none⟩) (n * L 0) (n * L 0)] 49)
    clear hrow
    generalize flat (L 0) g = h at *
    go_wp2_with fail
    generalize w1.alloc _ = w2 at *
    generalize w1.heap.size = Bf at *
    go_loopw [15] (fun i wr => ∃ k : Nat, k ≤ 100 ∧ i = .int .i64 k ∧ Hid (k = 0 ∨ (1 ≤ k ∧ whl (fun l => regN n (L 0) h (l : Int)) (k - 1) (100 - k) = wholeV n (L 0) h)) ∧ Below w2.heap.size w2 wr) (fun i _ => 100 - (intOf i).toNat)
    case atStart => exact ⟨0, by omega, rfl, .inl rfl, Below.refl _ _⟩
    case round =>
      obtain ⟨k, hk, rfl, HK, hbel⟩ := hrel
      by_cases hlt : k < 100
      · have HB1 := HB.out.below hbel
        have x0 := cell_of_blk (i := 0) HB1.box rfl
        have x1 := cell_of_blk (i := 1) HB1.box rfl
        have x2 := cell_of_blk (i := 2) HB1.box rfl
        have HRow := Lib.hid HB1.row
        have hrn : regN n (L 0) h (k : Int) ≤ n * L 0 := regN_le
        have hN1 : n * L 0 ≤ 49 := Nat.le_trans (Nat.mul_le_mul hn2 hl2) (by decide)
        clear HB1
        go_wp2_with fail
        refine (regions_any _ _ _ _ _ _ _ hl1 (by omega) (by omega) rfl HRow).mono ?_
        rintro e w3 ⟨q, rfl, hq, hrow2, hb3⟩
        have hbel3 := hbel.trans (hb3.mono hbel.size)
        obtain ⟨c, hc⟩ : ∃ c, c = regN n (L 0) h (k : Int) := ⟨_, rfl⟩
        rw [← hc] at hrn ⊢
        have HC := Lib.hid hc
        clear hrow2 hq hb3 x0 x1 x2 hc
        by_cases q1 : c = 1
        · have d1 : ((c : Int) != 1) = false := by rw [q1]; rfl
          have HK1 : Hid (whl (fun l => regN n (L 0) h (l : Int)) k (99 - k) = wholeV n (L 0) h) := by
            rcases HK.out with e | e
            · show _ = _; rw [HW.out, e]
            · obtain ⟨k1, e⟩ := e
              show _ = _
              rw [← e, show 100 - k = (99 - k) + 1 by omega, whl, if_pos (by show regN n (L 0) h ((k - 1 + 1 : Nat) : Int) = 1; rw [show k - 1 + 1 = k by omega, ← HC.out]; exact q1), show k - 1 + 1 = k by omega]
          clear q1
          go_wp2_with fail
          go_roundw
          case rel => exact ⟨k + 1, by omega, by go_num, .inr ⟨by omega, by rw [Nat.add_sub_cancel, show 100 - (k + 1) = 99 - k by omega]; exact HK1.out⟩, hbel3⟩
          case measure => simp [intOf]; omega
        · have d1 : ((c : Int) != 1) = true := by rw [bne_iff_ne]; omega
          have HK1 : Hid (1 ≤ k ∧ ((k : Int) - 1 : Int) = (wholeV n (L 0) h : Nat)) := by
            rcases HK.out with e | e
            · subst e
              exact absurd (HC.out.trans HZ.out) q1
            · obtain ⟨k1, e⟩ := e
              refine ⟨k1, ?_⟩
              rw [← e, show 100 - k = (99 - k) + 1 by omega, whl, if_neg (by show ¬ regN n (L 0) h ((k - 1 + 1 : Nat) : Int) = 1; rw [show k - 1 + 1 = k by omega, ← HC.out]; exact q1)]
              omega
          have hk1 := HK1.out.1
          go_wp2_with fail
          go_ret
          exact ⟨ret_int (by rw [HE.out, ← HK1.out.2]), hbx.trans (hbel3.mono hbx.size)⟩
      · have HK1 : Hid ((wholeV n (L 0) h : Nat) = 99) := by
          rcases HK.out with e | e
          · omega
          · obtain rfl : k = 100 := by omega
            exact e.2.symm
        go_wp2_with fail
        go_ret
        exact ⟨ret_int (by rw [HE.out, HK1.out]; rfl), hbx.trans (hbel.mono hbx.size)⟩
  · have HE := Lib.hid (show levelWholeV n L g = _ from if_neg hv)
    have HV := Lib.hid hv
    clear hv
    go_enter Try.func24, Try.ntmps24
    go_wp2_with fail
    refine (fieldOf_no _ _ _ _ _ _ HG.out hn HL.out HV.out).mono ?_
    rintro e w1 ⟨rfl, hb1⟩
    go_wp2_with fail
    go_ret
    exact ⟨ret_int HE.out.symm, hb1.alloc hb1.size _⟩

theorem specLevelWhole_any (A : Option Addr) (n cp : Nat) (L : Nat → Nat) (g : Nat → Nat → Int) (w : World) (hg : GridF w A n L g) (hn : n ≤ 1048576) (hL : ∀ r, r < n → L r ≤ 1048576) :
    Calls Try.prog 23 #[.slice A n cp] w (RetV (.int .i64 (levelWholeV n L g)) w) := by
  have HG := Lib.hid hg
  have HL := Lib.hid hL
  clear hg hL
  by_cases hv : Valid n L g
  · have HE := Lib.hid (show levelWholeV n L g = _ from if_pos hv)
    have HV := Lib.hid hv
    have HLv : Hid (∀ k : Nat, k ≤ 99 → levelRegionsV n L g (k : Int) = (regN n (L 0) (flat (L 0) g) (k : Int) : Nat)) := fun k hk => if_pos ⟨hv, by omega, by omega⟩
    have HW : Hid (wholeV n (L 0) (flat (L 0) g) = whl (fun l => regN n (L 0) (flat (L 0) g) (l : Int)) 0 99) := rfl
    clear hv
    generalize hh : flat (L 0) g = h at *
    clear hh
    go_enter Try.func23, Try.ntmps23
    go_wp2_with fail
    refine (specValid_yes _ _ _ _ _ _ HG.out HV.out).mono ?_
    rintro e w1 ⟨rfl, hb1⟩
    go_wp2_with fail
    go_loopw [3] (fun i wr => ∃ k : Nat, k ≤ 99 ∧ i = .int .i64 k ∧ Hid (whl (fun l => regN n (L 0) h (l : Int)) k (99 - k) = wholeV n (L 0) h) ∧ Below w.heap.size w wr) (fun i _ => 99 - (intOf i).toNat)
    case atStart => exact ⟨0, by omega, rfl, HW.out.symm, hb1⟩
    case round =>
      obtain ⟨k, hk, rfl, HK, hbel⟩ := hrel
      by_cases hlt : k < 99
      · have HG1 := Lib.hid (HG.out.below hbel)
        have HL1 := Lib.hid (HLv.out (k + 1) (by omega))
        obtain ⟨c, hc⟩ : ∃ c, c = regN n (L 0) h ((k + 1 : Nat) : Int) := ⟨_, rfl⟩
        rw [← hc] at HL1
        have HC := Lib.hid hc
        have HK2 : Hid (wholeV n (L 0) h = if c = 1 then whl (fun l => regN n (L 0) h (l : Int)) (k + 1) (99 - (k + 1)) else k) := by
          show _ = _
          rw [← HK.out, show 99 - k = (99 - (k + 1)) + 1 by omega, whl, HC.out]
        clear hc HK
        go_wp2_with fail
        refine (specLevelRegions_any _ _ _ _ _ _ _ HG1.out hn HL.out (by omega) (by omega)).mono ?_
        rintro e w2 ⟨rfl, hb2⟩
        rw [show ((k : Int) + 1) = ((k + 1 : Nat) : Int) by omega, HL1.out]
        have hbel2 := hbel.trans (hb2.mono hbel.size)
        by_cases q1 : c = 1
        · have d1 : ((c : Int) == 1) = true := by rw [q1]; rfl
          rw [if_pos q1] at HK2
          clear q1
          go_wp2_with fail
          go_roundw
          case rel => exact ⟨k + 1, by omega, by go_num, HK2.out.symm, hbel2⟩
          case measure => simp [intOf]; omega
        · have d1 : ((c : Int) == 1) = false := beq_eq_false_iff_ne.2 (by omega)
          rw [if_neg q1] at HK2
          clear q1
          go_wp2_with fail
          go_ret
          exact ⟨ret_int (by rw [HE.out, HK2.out]), hbel2⟩
      · have HK1 : Hid (wholeV n (L 0) h = k) := by
          have := HK.out
          rw [show 99 - k = 0 by omega, whl] at this
          exact this.symm
        go_wp2_with fail
        go_ret
        exact ⟨ret_int (by rw [HE.out, HK1.out]), hbel⟩
  · have HE := Lib.hid (show levelWholeV n L g = _ from if_neg hv)
    have HV := Lib.hid hv
    clear hv
    go_enter Try.func23, Try.ntmps23
    go_wp2_with fail
    refine (specValid_no _ _ _ _ _ _ HG.out hn HL.out HV.out).mono ?_
    rintro e w1 ⟨rfl, hb1⟩
    go_wp2_with fail
    go_ret
    exact ⟨ret_int HE.out.symm, hb1⟩

end Go.Proofs.Ytgekjhmjjjkibaa
