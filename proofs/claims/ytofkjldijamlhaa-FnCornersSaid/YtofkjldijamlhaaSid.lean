/- Sides between land cells, and the shore: what the program's and the reference's functions return. -/
import Derived.Test.YtofkjldijamlhaaNxt
import Derived.Test.YtofkjldijamlhaaMark
namespace Go.Proofs.Ytofkjldijamlhaa
set_option linter.unusedVariables false
set_option linter.unusedSimpArgs false
open Go.RowKit

/-- How many of the first k numbers of a list have a property. -/
def cntL (p : Nat → Bool) (l : List Nat) : Nat → Nat
  | 0 => 0
  | k + 1 => cntL p l k + if p (l.getD k 0) then 1 else 0
theorem cntL_le (p : Nat → Bool) (l : List Nat) : ∀ k, cntL p l k ≤ k
  | 0 => Nat.le_refl _
  | k + 1 => by have := cntL_le p l k; unfold cntL; split <;> omega
theorem cntL_yes {p : Nat → Bool} {l : List Nat} {k : Nat} (h : p (l.getD k 0) = true) : cntL p l (k + 1) = cntL p l k + 1 := by rw [cntL, if_pos h]
theorem cntL_no {p : Nat → Bool} {l : List Nat} {k : Nat} (h : p (l.getD k 0) = false) : cntL p l (k + 1) = cntL p l k := by rw [cntL, h]; rfl

theorem l2Cells_any (A : Option Addr) (n c : Nat) (L : Nat → Nat) (g : Nat → Nat → Int) (w : World) (hg : GridF w A n L g) (hn1 : 1 ≤ n) (hn : n ≤ 1000) (hL : L 0 ≤ 1000) :
    Calls Try.prog 73 #[.slice A n c] w (RetP (.int .i64 ((n * L 0 : Nat))) w) := by
  obtain ⟨B, o, A0, c0, rfl, hc0, _, hr0⟩ := hg 0 (by omega)
  rw [Nat.add_zero] at hc0
  clear hr0 hg
  have hm : n * L 0 ≤ 1000000 := Nat.le_trans (Nat.mul_le_mul hn hL) (by decide)
  have hm0 : (0 : Int) ≤ (n : Int) * (L 0 : Int) := by rw [← Int.natCast_mul]; omega
  have hm1 : (n : Int) * (L 0 : Int) ≤ 1000000 := by rw [← Int.natCast_mul]; omega
  go_enter Try.func73, Try.ntmps73
  go_wp2_with fail
  go_ret
  exact ⟨ret_int (by rw [Int.natCast_mul]), rfl⟩

def sideP (h : Nat → Int) (l : Int) (i j : Nat) : Bool := decide (i < j ∧ l ≤ h i ∧ l ≤ h j)
def sideN (R C : Nat) (h : Nat → Int) (l : Int) (i : Nat) : Nat := cntL (sideP h l i) (nearL R C i) (nearL R C i).length
def sidesV (R C : Nat) (h : Nat → Int) (l : Int) : Nat := sumTo (sideN R C h l) (R * C)
theorem sumTo_bound {F : Nat → Nat} (hF : ∀ i, F i ≤ 4) : ∀ k, sumTo F k ≤ 4 * k
  | 0 => by simp [sumTo]
  | k + 1 => by have := sumTo_bound hF k; have := hF k; rw [sumTo]; omega
theorem sideN_le (R C : Nat) (h : Nat → Int) (l : Int) (i : Nat) : sideN R C h l i ≤ 4 := Nat.le_trans (cntL_le _ _ _) (nearL_len _ _ _)

set_option maxHeartbeats 1000000 in
theorem sides_any (R C N b : Nat) (h : Nat → Int) (l : Int) (w : World) (hC1 : 1 ≤ C) (hR : R ≤ 1000) (hC : C ≤ 1000) (hN : Hid (N = R * C)) (hrow : Hid (w.rowIs b 3 N (fun i => .int .i64 (h i)))) :
    Calls Try.prog 72 #[.agg #[.int .i64 R, .int .i64 C, .slice (some ⟨b, 0, none⟩) N N], .int .i64 l] w (RetV (.int .i64 (sidesV R C h l)) w) := by
  have HB := Lib.hid (Boxed.new (R := R) (C := C) hrow.out)
  have hbx := below_alloc w (.cells #[.int .i64 R, .int .i64 C, .slice (some ⟨b, 0, none⟩) N N] 49)
  have hN1 : N ≤ 1000000 := by rw [hN.out]; exact Nat.le_trans (Nat.mul_le_mul hR hC) (by decide)
  have HSV : Hid (sidesV R C h l = sumTo (sideN R C h l) N) := by rw [hN.out]; rfl
  have HSB := Lib.hid (sumTo_bound (sideN_le R C h l))
  have x2 := cell_of_blk (i := 2) HB.out.box rfl
  go_enter Try.func72, Try.ntmps72
  go_wp2_with fail
  clear x2
  generalize w.alloc _ = w0 at *
  go_loopw [5, 13] (fun v q wr => ∃ k : Nat, k ≤ N ∧ q = .int .i64 k ∧ v = .int .i64 (sumTo (sideN R C h l) k : Nat) ∧ Below w0.heap.size w0 wr) (fun _ q _ => N - (intOf q).toNat)
  case atStart => exact ⟨0, Nat.zero_le _, rfl, rfl, Below.refl _ _⟩
  case round =>
    obtain ⟨k, hk, rfl, rfl, hbel⟩ := hrel
    by_cases hlt : k < N
    · have HB1 := HB.out.below hbel
      have x0 := cell_of_blk (i := 0) HB1.box rfl
      have x1 := cell_of_blk (i := 1) HB1.box rfl
      have x2 := cell_of_blk (i := 2) HB1.box rfl
      have hck := HB1.row.cell hlt
      have HI : Hid (k < R * C) := by show k < R * C; rw [← hN.out]; exact hlt
      have HSN : Hid (sideN R C h l k = cntL (sideP h l k) (nearL R C k) (nearL R C k).length) := rfl
      have HMem : Hid (∀ q, q < (nearL R C k).length → (nearL R C k).getD q 0 < N) := fun q hq => by rw [hN.out]; exact nearL_lt HI.out (getD_in hq)
      have hl4 := nearL_len R C k
      have HB1 := Lib.hid HB1
      go_wp2_with fail
      refine (neighbors_any R C N b k _ hC1 hR hC HI.out).mono ?_
      rintro e w1 ⟨v, rfl, hown, hb1⟩
      have HB2 := Lib.hid (HB1.out.below hb1)
      have hB1 := hbel.trans (hb1.mono hbel.size)
      obtain ⟨Av, cv, rfl⟩ := hown.slice
      have HO := Lib.hid hown
      clear hown x0 x1 x2 hck HB1 hb1
      generalize nearL R C k = ll at *
      have hsb := HSB.out k
      go_wp2_with fail
      go_loopw [5, 22] (fun v q wi => ∃ m : Nat, m ≤ ll.length ∧ q = .int .i64 m ∧ v = .int .i64 (sumTo (sideN R C h l) k + cntL (sideP h l k) ll m : Nat) ∧ Below w1.heap.size w1 wi) (fun _ q _ => ll.length - (intOf q).toNat)
      case atStart => exact ⟨0, Nat.zero_le _, rfl, rfl, Below.refl _ _⟩
      case round =>
        obtain ⟨m, hm, rfl, rfl, hbi⟩ := hrel
        have hcl := cntL_le (sideP h l k) ll m
        by_cases hlt2 : m < ll.length
        · obtain ⟨bl, rfl, hce⟩ := (HO.out.below hbi).at_ hlt2
          have HB3 := HB2.out.below hbi
          have x2 := cell_of_blk (i := 2) HB3.box rfl
          have hjN := HMem.out m hlt2
          have hcj := HB3.row.cell hjN
          clear HB3
          by_cases hp : k < ll.getD m 0 ∧ l ≤ h k ∧ l ≤ h (ll.getD m 0)
          · have HC := Lib.hid (cntL_yes (p := sideP h l k) (l := ll) (k := m) (decide_eq_true hp))
            obtain ⟨p1, p2, p3⟩ := hp
            generalize ll.getD m 0 = j at *
            go_wp2_with fail
            go_roundw
            case rel => exact ⟨m + 1, by omega, by go_num, val_int (by rw [HC.out]; omega), hbi⟩
            case measure => simp [intOf]; omega
          · have HC := Lib.hid (cntL_no (p := sideP h l k) (l := ll) (k := m) (decide_eq_false hp))
            generalize ll.getD m 0 = j at *
            by_cases p1 : k < j
            · by_cases p2 : l ≤ h k
              · have p3 : ¬ l ≤ h j := fun p3 => hp ⟨p1, p2, p3⟩
                clear hp
                go_wp2_with fail
                go_roundw
                case rel => exact ⟨m + 1, by omega, by go_num, val_int (by rw [HC.out]), hbi⟩
                case measure => simp [intOf]; omega
              · clear hp
                go_wp2_with fail
                go_roundw
                case rel => exact ⟨m + 1, by omega, by go_num, val_int (by rw [HC.out]), hbi⟩
                case measure => simp [intOf]; omega
            · clear hp
              go_wp2_with fail
              go_roundw
              case rel => exact ⟨m + 1, by omega, by go_num, val_int (by rw [HC.out]), hbi⟩
              case measure => simp [intOf]; omega
        · have HM : Hid (m = ll.length) := by show m = ll.length; omega
          go_wp2_with fail
          go_roundw
          case rel => exact ⟨k + 1, by omega, by go_num, val_int (by rw [sumTo, HSN.out, HM.out]), hB1.trans (hbi.mono hB1.size)⟩
          case measure => simp [intOf]; omega
    · have HK : Hid (k = N) := by show k = N; omega
      go_wp2_with fail
      go_ret
      exact ⟨ret_int (by rw [HSV.out, HK.out]), hbx.trans (hbel.mono hbx.size)⟩

theorem l2Height_h (A : Option Addr) (n c i : Nat) (L : Nat → Nat) (g : Nat → Nat → Int) (h : Nat → Int) (w : World) (hg : GridF w A n L g) (hv : Valid n L g) (hh : Hid (h = flat (L 0) g)) (hi : i < n * L 0) :
    Calls Try.prog 74 #[.slice A n c, .int .i64 i] w (RetV (.int .i64 (h i)) w) := by
  rw [hh.out]
  exact l2Height_any A n c i L g w hg hv hi

theorem le_min2 {l a b : Int} : l ≤ (if b < a then b else a) ↔ l ≤ a ∧ l ≤ b := by split <;> omega

def levelSidesV (n : Nat) (L : Nat → Nat) (g : Nat → Nat → Int) (l : Int) : Int := if Lvl n L g l then (sidesV n (L 0) (flat (L 0) g) l : Nat) else -1

theorem implLevelSides_any (A : Option Addr) (n cp : Nat) (L : Nat → Nat) (g : Nat → Nat → Int) (l : Int) (w : World) (hg : GridF w A n L g) (hn : n ≤ 1048576) (hL : ∀ r, r < n → L r ≤ 1048576) (_hl1 : -9223372036854775808 ≤ l) (_hl2 : l ≤ 9223372036854775807) :
    Calls Try.prog 39 #[.slice A n cp, .int .i64 l] w (RetV (.int .i64 (levelSidesV n L g l)) w) := by
  have HG := Lib.hid hg
  have HL := Lib.hid hL
  clear hg hL
  by_cases hv : Lvl n L g l
  · have HE := Lib.hid (show levelSidesV n L g l = _ from if_pos hv)
    have HV := Lib.hid hv
    have hn2 := hv.1.2.1
    have hl1 := hv.1.2.2.1
    have hl2 := hv.1.2.2.2.1
    clear hv
    go_enter Try.func39, Try.ntmps39
    go_wp2_with fail
    refine (leveled_yes _ _ _ _ _ _ _ _ HG.out HV.out rfl).mono ?_
    rintro e w1 ⟨b, rfl, hlo, hrow, hb1⟩
    have HRow := Lib.hid (hrow.alloc (.cells #[.int .i64 n, .int .i64 (L 0), .slice (some ⟨b, 0, none⟩) (n * L 0) (n * L 0)] 49))
    have hbx := hb1.alloc hb1.size (.cells #[.int .i64 n, .int .i64 (L 0), .slice (some ⟨b, 0, none⟩) (n * L 0) (n * L 0)] 49)
    clear hrow
    go_wp2_with fail
    refine (sides_any _ _ _ _ _ _ _ hl1 (by omega) (by omega) rfl HRow).mono ?_
    rintro e w2 ⟨rfl, hb2⟩
    go_wp2_with fail
    go_ret
    exact ⟨ret_int HE.out.symm, hbx.trans (hb2.mono hbx.size)⟩
  · have HE := Lib.hid (show levelSidesV n L g l = _ from if_neg hv)
    have HV := Lib.hid hv
    clear hv
    go_enter Try.func39, Try.ntmps39
    go_wp2_with fail
    refine (leveled_no _ _ _ _ _ _ _ HG.out hn HL.out HV.out).mono ?_
    rintro e w1 ⟨rfl, hb1⟩
    go_wp2_with fail
    go_ret
    exact ⟨ret_int HE.out.symm, hb1.alloc hb1.size _⟩


end Go.Proofs.Ytofkjldijamlhaa
