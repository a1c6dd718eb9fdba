/- The key pass of a peak: what the program's function returns. -/
import Derived.Test.YtgekjhmjjjkibaaPKey
import Derived.Test.YtgekjhmjjjkibaaIPas
namespace Go.Proofs.Ytgekjhmjjjkibaa
set_option linter.unusedVariables false
set_option linter.unusedSimpArgs false
open Go.RowKit

theorem minTo_eq {h : Nat → Int} {N : Nat} {x : Int} (hN : 0 < N) (h1 : minTo h N ≤ x) (h2 : ∀ q, q < N → x ≤ h q) : x = minTo h N := by
  obtain ⟨j, hj, e⟩ := minTo_at (h := h) N
  have := h2 j (by omega)
  omega

set_option maxHeartbeats 1500000 in
set_option maxRecDepth 100000 in
theorem key_any (R C N b i : Nat) (h : Nat → Int) (w : World) (hC1 : 1 ≤ C) (hR : R ≤ 1000) (hC : C ≤ 1000) (hN2 : N ≤ 49) (hN : Hid (N = R * C)) (hi : i < N) (hh : Hid (∀ i, i < R * C → 0 ≤ h i ∧ h i ≤ 99)) (hrow : Hid (w.rowIs b 3 N (fun i => .int .i64 (h i)))) :
    Calls Try.prog 79 #[.agg #[.int .i64 R, .int .i64 C, .slice (some ⟨b, 0, none⟩) N N], .int .i64 i] w (RetV (.int .i64 (if kTo h (passV R C h i) i N < 0 then minTo h N else kTo h (passV R C h i) i N)) w) := by
  have HB := Lib.hid (Boxed.new (R := R) (C := C) hrow.out)
  have hbx := below_alloc w (.cells #[.int .i64 R, .int .i64 C, .slice (some ⟨b, 0, none⟩) N N] 49)
  have hhR := Lib.hid HB.out.row
  obtain ⟨y, hy⟩ : ∃ y, y = if kTo h (passV R C h i) i N < 0 then minTo h N else kTo h (passV R C h i) i N := ⟨_, rfl⟩
  rw [← hy]
  have HY := Lib.hid hy
  clear hy
  go_enter Try.func79, Try.ntmps79
  go_wp2_with fail
  refine (passes_any R C N b i h _ hC1 hR hC hN2 hN hi hh hhR).mono ?_
  rintro e w1 ⟨v, rfl, hown, hb1⟩
  obtain ⟨f, hf⟩ : ∃ f, f = passV R C h i := ⟨_, rfl⟩
  rw [← hf] at hown
  rw [← hf] at HY
  clear hf
  obtain ⟨Av, cv, rfl, _⟩ := hown.s.slice
  have HO := Lib.hid hown
  have HB1 := Lib.hid (HB.out.below hb1)
  have hbb := hbx.trans (hb1.mono hbx.size)
  clear hown HB hbx hhR
  go_wp2_with fail
  generalize World.alloc w _ = w0 at *
  go_loopw [5, 15] (fun kv iv wi => ∃ k : Nat, k ≤ N ∧ iv = .int .i64 k ∧ kv = .int .i64 (kTo h f i k) ∧ Below w1.heap.size w1 wi) (fun _ iv _ => N - (intOf iv).toNat)
  case atStart => exact ⟨0, Nat.zero_le _, rfl, rfl, Below.refl _ _⟩
  case round =>
    obtain ⟨k, hk, rfl, rfl, hbel⟩ := hrel
    have HB2 := Lib.hid (HB1.out.below hbel)
    have x0 := cell_of_blk (i := 0) HB2.out.box rfl
    have x1 := cell_of_blk (i := 1) HB2.out.box rfl
    have x2 := cell_of_blk (i := 2) HB2.out.box rfl
    by_cases hlt : k < N
    · obtain ⟨bo, rfl, _, _, hcells⟩ := (HO.out.below hbel).cells (by omega)
      have hck := (hcells k hlt).1
      clear hcells
      go_wp2_with fail
      refine (higher_any R C N b k i h _ hlt hi (by omega) (Lib.hid HB2.out.row)).mono ?_
      rintro e w4 ⟨rfl, hb4⟩
      have hbel4 := hbel.trans (hb4.mono hbel.size)
      cases hb : hiB h k i
      · have HT := Lib.hid (kTo_no (f := f) hb)
        clear hb
        go_wp2_with fail
        go_roundw
        case rel => exact ⟨k + 1, by omega, by go_num, val_int HT.out.symm, hbel4⟩
        case measure => simp [intOf]; omega
      · have HT := Lib.hid (kTo_yes (f := f) hb)
        clear hb
        go_wp2_with fail
        go_roundw
        case rel => exact ⟨k + 1, by omega, by go_num, val_int (by rw [HT.out]; split <;> omega), hbel4⟩
        case measure => simp [intOf]; omega
    · obtain rfl : N = k := by omega
      have hbz := hbb.trans (hbel.mono hbb.size)
      by_cases q : kTo h f i N < 0
      · have d1 : decide (0 ≤ kTo h f i N) = false := decide_eq_false (by omega)
        have HYp : Hid (y = minTo h N) := HY.out.trans (if_pos q)
        have hci := HB2.out.row.cell hi
        have HLe : Hid (minTo h N ≤ h i) := minTo_le hi
        have HEq : Hid (∀ x, minTo h N ≤ x → (∀ q, q < N → x ≤ h q) → x = minTo h N) := fun x h1 h2 => minTo_eq (by omega) h1 h2
        have HAll : Hid (∀ k, k < N → minTo h N ≤ h k) := fun k hk => minTo_le hk
        clear q
        go_wp2_with fail
        clear d1 hci hbel HO HB1 hb1 hbb
        obtain ⟨wo, hwo⟩ : ∃ wo : World, wo = wr := ⟨_, rfl⟩
        rw [← hwo] at HB2 hbz ⊢
        clear hwo x0 x1 x2
        go_loopw [8, 39] (fun lv iv wi => ∃ (k : Nat) (x : Int), k ≤ N ∧ iv = .int .i64 k ∧ lv = .int .i64 x ∧ Hid (minTo h N ≤ x ∧ ∀ q, q < k → x ≤ h q) ∧ Below wo.heap.size wo wi) (fun _ iv _ => N - (intOf iv).toNat)
        case atStart => exact ⟨0, h i, Nat.zero_le _, rfl, rfl, ⟨HLe.out, fun q hq => absurd hq (Nat.not_lt_zero q)⟩, Below.refl _ _⟩
        case round =>
          obtain ⟨k, x, hk, rfl, rfl, HX, hbel⟩ := hrel
          by_cases hlt : k < N
          · have hck := (HB2.out.below hbel).row.cell hlt
            have HA := Lib.hid (HAll.out k hlt)
            go_wp2_with fail
            go_roundw
            case rel =>
              refine ⟨k + 1, min x (h k), by omega, by go_num, val_int (by rw [Int.min_def]; split <;> split <;> omega), ⟨?_, fun q hq => ?_⟩, hbel⟩
              · have := HX.out.1; have := HA.out; omega
              · by_cases e : q = k
                · subst e; omega
                · have := HX.out.2 q (by omega); omega
            case measure => simp [intOf]; omega
          · have HE := Lib.hid (HEq.out x HX.out.1 (fun q hq => HX.out.2 q (by omega)))
            go_wp2_with fail
            go_ret
            exact ⟨ret_int (HE.out.trans HYp.out.symm), hbz.trans (hbel.mono hbz.size)⟩
      · have d1 : decide (0 ≤ kTo h f i N) = true := decide_eq_true (by omega)
        have HYp : Hid (y = kTo h f i N) := HY.out.trans (if_neg q)
        clear q
        go_wp2_with fail
        go_ret
        exact ⟨ret_int HYp.out.symm, hbz⟩

set_option maxHeartbeats 1500000 in
set_option maxRecDepth 100000 in
theorem implPeakKey_any (A : Option Addr) (n cp : Nat) (L : Nat → Nat) (g : Nat → Nat → Int) (i : Int) (w : World) (hg : GridF w A n L g) (hn : n ≤ 1048576) (hL : ∀ r, r < n → L r ≤ 1048576) (_h1 : -9223372036854775808 ≤ i) (_h2 : i ≤ 9223372036854775807) :
    Calls Try.prog 49 #[.slice A n cp, .int .i64 i] w (RetV (.int .i64 (peakKeyV n L g i)) w) := by
  have HG := Lib.hid hg
  have HL := Lib.hid hL
  clear hg hL
  by_cases hv : Valid n L g
  · have HV := Lib.hid hv
    have hn1 := hv.1
    have hn2 := hv.2.1
    have hl1 := hv.2.2.1
    have hl2 := hv.2.2.2.1
    obtain ⟨N, hN⟩ : ∃ N, N = n * L 0 := ⟨_, rfl⟩
    have hN1 : N ≤ 49 := by rw [hN]; exact Nat.le_trans (Nat.mul_le_mul hn2 hl2) (by decide)
    have HN := Lib.hid hN
    by_cases h : 0 ≤ i ∧ i < N
    · have HE := Lib.hid (show peakIsV n L g i = _ from if_pos ⟨hv, h.1, by rw [← hN]; exact h.2⟩)
      obtain ⟨h1, h2⟩ := h
      obtain ⟨i, rfl⟩ := Int.eq_ofNat_of_zero_le h1
      rw [Int.toNat_natCast] at HE
      have HI : Hid (i < n * L 0) := by show i < n * L 0; omega
      have hiN : i < N := by omega
      have HRg : Hid (∀ i, i < n * L 0 → 0 ≤ flat (L 0) g i ∧ flat (L 0) g i ≤ 99) := fun i hi => by
        obtain ⟨_, h1, h2, _⟩ := rc_in hi
        exact hv.rng h1 h2
      have HK1 : Hid (peakB n (L 0) (flat (L 0) g) i = true → peakKeyV n L g i = if kTo (flat (L 0) g) (passV n (L 0) (flat (L 0) g) i) i N < 0 then minTo (flat (L 0) g) N else kTo (flat (L 0) g) (passV n (L 0) (flat (L 0) g) i) i N) := fun e => by
        unfold peakKeyV keyV
        rw [if_pos (HE.out.trans e), Int.toNat_natCast, hN]
      have HK2 : Hid (peakB n (L 0) (flat (L 0) g) i = false → peakKeyV n L g i = -1) := fun e => by
        unfold peakKeyV
        rw [if_neg (by rw [HE.out, e]; decide)]
      clear hv hN HE
      go_enter Try.func49, Try.ntmps49
      go_wp2_with fail
      refine (fieldOf_yes _ _ _ N _ _ _ HG.out HV.out HN).mono ?_
      rintro e w1 ⟨b, rfl, hlo, hrow, hb1⟩
      have HRow := Lib.hid (hrow.alloc (.cells #[.int .i64 n, .int .i64 (L 0), .slice (some ⟨b, 0, none⟩) N N] 49))
      have hbx := hb1.alloc hb1.size (.cells #[.int .i64 n, .int .i64 (L 0), .slice (some ⟨b, 0, none⟩) N N] 49)
      clear hrow
      go_wp2_with fail
      refine (peak_any _ _ _ _ _ _ _ hl1 (by omega) (by omega) HI HN HRow).mono ?_
      rintro e w2 ⟨rfl, hb2⟩
      have hbx2 := hbx.trans (hb2.mono hbx.size)
      have HBx2 : Hid (w2.heap[w1.heap.size]? = some (.cells #[.int .i64 n, .int .i64 (L 0), .slice (some ⟨b, 0, none⟩) N N] 49 (0, 0))) := (hb2.block _ (by simp)).trans (heap_alloc_new _ _)
      have HRow2 := Lib.hid (rowIs_kept HRow.out hb2)
      have x0 := cell_of_blk (i := 0) HBx2.out rfl
      have x1 := cell_of_blk (i := 1) HBx2.out rfl
      have x2 := cell_of_blk (i := 2) HBx2.out rfl
      cases hp : peakB n (L 0) (flat (L 0) g) i
      · have HV2 := Lib.hid (HK2.out hp)
        clear hp
        go_wp2_with fail
        go_ret
        exact ⟨ret_int HV2.out.symm, hbx2⟩
      · have HV2 := Lib.hid (HK1.out hp)
        clear hp
        go_wp2_with fail
        refine (key_any _ _ _ _ _ _ _ hl1 (by omega) (by omega) hN1 HN hiN HRg HRow2).mono ?_
        rintro e w3 ⟨rfl, hb3⟩
        rw [← HV2.out]
        go_wp2_with fail
        go_ret
        exact ⟨rfl, hbx2.trans (hb3.mono hbx2.size)⟩
    · have HE := Lib.hid (show peakIsV n L g i = _ from if_neg (fun hh => h ⟨hh.2.1, by rw [hN]; exact hh.2.2⟩))
      have HK : Hid (peakKeyV n L g i = -1) := by show _ = _; unfold peakKeyV; rw [if_neg (by rw [HE.out]; decide)]
      clear hv hN
      go_enter Try.func49, Try.ntmps49
      go_wp2_with fail
      refine (fieldOf_yes _ _ _ N _ _ _ HG.out HV.out HN).mono ?_
      rintro e w1 ⟨b, rfl, hlo, hrow, hb1⟩
      have hbx := hb1.alloc hb1.size (.cells #[.int .i64 n, .int .i64 (L 0), .slice (some ⟨b, 0, none⟩) N N] 49)
      clear hrow
      go_wp2_with fail
      refine (peak_far _ _ _ _ _ _ _ (by omega) h).mono ?_
      rintro e w2 ⟨rfl, hb2⟩
      go_wp2_with fail
      go_ret
      exact ⟨ret_int HK.out.symm, hbx.trans (hb2.mono hbx.size)⟩
  · have HE := Lib.hid (show peakIsV n L g i = _ from if_neg (fun hh => hv hh.1))
    have HV := Lib.hid hv
    have HK : Hid (peakKeyV n L g i = -1) := by show _ = _; unfold peakKeyV; rw [if_neg (by rw [HE.out]; decide)]
    clear hv
    go_enter Try.func49, Try.ntmps49
    go_wp2_with fail
    refine (fieldOf_no _ _ _ _ _ _ HG.out hn HL.out HV.out).mono ?_
    rintro e w1 ⟨rfl, hb1⟩
    go_wp2_with fail
    go_ret
    exact ⟨ret_int HK.out.symm, hb1.alloc hb1.size _⟩

end Go.Proofs.Ytgekjhmjjjkibaa
