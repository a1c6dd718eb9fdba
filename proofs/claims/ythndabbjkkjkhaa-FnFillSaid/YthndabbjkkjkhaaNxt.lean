/- Where water flows: next; heights by index. What the program's and the reference's functions return. -/
import Derived.Test.YthndabbjkkjkhaaNear
import Derived.Test.YthndabbjkkjkhaaITurn
namespace Go.Proofs.Ythndabbjkkjkhaa
set_option linter.unusedVariables false
set_option linter.unusedSimpArgs false
open Go.RowKit

/-- The lowest of a cell and the first k cells of a list, the first of those. -/
def low (h : Nat → Int) (l : List Nat) (i : Nat) : Nat → Nat
  | 0 => i
  | k + 1 => if h (l.getD k 0) < h (low h l i k) then l.getD k 0 else low h l i k
def nextV (R C : Nat) (h : Nat → Int) (i : Nat) : Nat := low h (nearL R C i) i (nearL R C i).length

theorem getD_in {l : List Nat} {q : Nat} (hq : q < l.length) : l.getD q 0 ∈ l := by
  rw [List.getD, List.getElem?_eq_getElem hq]
  exact List.getElem_mem _
theorem low_or {h : Nat → Int} {l : List Nat} {i : Nat} : ∀ {k : Nat}, k ≤ l.length → low h l i k = i ∨ low h l i k ∈ l
  | 0, _ => .inl rfl
  | k + 1, hk => by
    unfold low
    split
    · exact .inr (getD_in (by omega))
    · exact low_or (by omega)
theorem low_lt {R C : Nat} {h : Nat → Int} {i k : Nat} (hi : i < R * C) (hk : k ≤ (nearL R C i).length) : low h (nearL R C i) i k < R * C := by
  rcases low_or (h := h) (i := i) hk with e | e
  · rw [e]; exact hi
  · exact nearL_lt hi e
theorem low_congr {h h' : Nat → Int} {l : List Nat} {i : Nat} (hi : h i = h' i) : ∀ {k : Nat}, k ≤ l.length → (∀ j, j ∈ l → h j = h' j) → low h l i k = low h' l i k
  | 0, _, _ => rfl
  | k + 1, hk, hl => by
    have ih := low_congr (h := h) (h' := h') (l := l) (i := i) hi (k := k) (by omega) hl
    have e1 := hl _ (getD_in (l := l) (q := k) (by omega))
    have e2 : h (low h l i k) = h' (low h l i k) := by
      rcases low_or (h := h) (i := i) (show k ≤ l.length by omega) with e | e
      · rw [e]; exact hi
      · exact hl _ e
    unfold low
    rw [← ih, e1, e2]

set_option maxHeartbeats 1000000 in
theorem next_any (R C N b i : Nat) (h : Nat → Int) (w : World) (hC1 : 1 ≤ C) (hR : R ≤ 1000) (hC : C ≤ 1000) (hi : Hid (i < R * C)) (hN : Hid (N = R * C)) (hrow : Hid (w.rowIs b 3 N (fun i => .int .i64 (h i)))) :
    Calls Try.prog 83 #[.agg #[.int .i64 R, .int .i64 C, .slice (some ⟨b, 0, none⟩) N N], .int .i64 i] w (RetV (.int .i64 (nextV R C h i)) w) := by
  have HB := Lib.hid (Boxed.new (R := R) (C := C) hrow.out)
  have hbx := below_alloc w (.cells #[.int .i64 R, .int .i64 C, .slice (some ⟨b, 0, none⟩) N N] 59)
  have hib : i ≤ 1000000 := Nat.le_trans (Nat.le_of_lt hi.out) (Nat.le_trans (Nat.mul_le_mul hR hC) (by decide))
  have HNV : Hid (nextV R C h i = low h (nearL R C i) i (nearL R C i).length) := rfl
  have HLn := Lib.hid (nearL_len R C i)
  have HLow : Hid (∀ k, k ≤ (nearL R C i).length → low h (nearL R C i) i k < N) := fun k hk => by rw [hN.out]; exact low_lt hi.out hk
  have HMem : Hid (∀ k, k < (nearL R C i).length → (nearL R C i).getD k 0 < N) := fun k hk => by rw [hN.out]; exact nearL_lt hi.out (getD_in hk)
  go_enter Try.func83, Try.ntmps83
  go_wp2_with fail
  refine (neighbors_any R C N b i _ hC1 hR hC hi.out).mono ?_
  rintro e w1 ⟨v, rfl, hown, hb1⟩
  have HB1 := Lib.hid (HB.out.below hb1)
  have hB1 : Below w.heap.size w w1 := hbx.trans (hb1.mono (by simp))
  obtain ⟨Av, cv, rfl⟩ := hown.slice
  have HO := Lib.hid hown
  clear hown HB hb1 hbx
  generalize nearL R C i = l at *
  have hl4 := HLn.out
  go_wp2_with fail
  go_loopw [5, 13] (fun lo q wr => ∃ k : Nat, k ≤ l.length ∧ q = .int .i64 k ∧ lo = .int .i64 (low h l i k : Nat) ∧ Below w1.heap.size w1 wr) (fun _ q _ => l.length - (intOf q).toNat)
  case atStart => exact ⟨0, Nat.zero_le _, rfl, rfl, Below.refl _ _⟩
  case round =>
    obtain ⟨k, hk, rfl, rfl, hbel⟩ := hrel
    by_cases hlt : k < l.length
    · obtain ⟨bl, rfl, hcl⟩ := (HO.out.below hbel).at_ hlt
      have HB2 := HB1.out.below hbel
      have x2 := cell_of_blk (i := 2) HB2.box rfl
      have hj := HMem.out k hlt
      have hw := HLow.out k hk
      have hc1 := HB2.row.cell hj
      have hc2 := HB2.row.cell hw
      have HLS : Hid (low h l i (k + 1) = if h (l.getD k 0) < h (low h l i k) then l.getD k 0 else low h l i k) := rfl
      clear HB2
      generalize l.getD k 0 = j at *
      generalize low h l i k = m at *
      go_wp2_with fail
      go_quiet (fail)
      by_cases hq : h j < h m
      · go_wp2_with fail
        go_roundw
        case rel => exact ⟨k + 1, by omega, by go_num, by rw [HLS.out, if_pos hq], below_drewN hbel _⟩
        case measure => simp [intOf]; omega
      · go_wp2_with fail
        go_roundw
        case rel => exact ⟨k + 1, by omega, by go_num, by rw [HLS.out, if_neg (by omega)], below_drewN hbel _⟩
        case measure => simp [intOf]; omega
    · have HK : Hid (k = l.length) := by show k = l.length; omega
      go_wp2_with fail
      go_ret
      exact ⟨ret_int (by rw [HNV.out, HK.out]), hB1.trans (hbel.mono hB1.size)⟩

theorem l2Height_any (A : Option Addr) (n c i : Nat) (L : Nat → Nat) (g : Nat → Nat → Int) (w : World) (hg : GridF w A n L g) (hv : Valid n L g) (hi : i < n * L 0) :
    Calls Try.prog 91 #[.slice A n c, .int .i64 i] w (RetV (.int .i64 (flat (L 0) g i)) w) := by
  have hn1 := hv.1
  have hn2 := hv.2.1
  have hl1 := hv.2.2.1
  have hl2 := hv.2.2.2.1
  obtain ⟨r, hr⟩ : ∃ r, r = i / L 0 := ⟨_, rfl⟩
  obtain ⟨q, hq⟩ : ∃ q, q = i % L 0 := ⟨_, rfl⟩
  have hrn : r < n := by rw [hr]; exact Nat.div_lt_of_lt_mul (by rw [Nat.mul_comm]; exact hi)
  have hqL : q < L 0 := by rw [hq]; exact Nat.mod_lt _ (by omega)
  obtain ⟨B, o, A0, c0, rfl, hc0, _, _⟩ := hg 0 (by omega)
  rw [Nat.add_zero] at hc0
  obtain ⟨B1, o1, A1, c1, hBB, hc1, _, hr1⟩ := hg r hrn
  injection hBB with hBB
  injection hBB with hB1 hB2
  subst hB1 hB2
  rw [hv.len r hrn] at hc1 hr1
  obtain ⟨B2, o2, rfl, hc2⟩ := hr1 q hqL
  have HF : Hid (flat (L 0) g i = g r q) := by rw [hr, hq]; rfl
  have e1 : (i : Int) / (L 0 : Int) = (r : Int) := by rw [hr, Int.natCast_ediv]
  have e2 : (i : Int) % (L 0 : Int) = (q : Int) := by rw [hq, Int.natCast_emod]
  have e3 : ((L 0 : Int) == 0) = false := by simp; omega
  clear hr hq hg hv hi hr1
  go_enter Try.func91, Try.ntmps91
  go_wp2_with fail
  go_quiet (fail)
  go_wp2_with fail
  go_ret
  exact ⟨ret_int HF.out.symm, below_drewN (Below.refl _ _) _⟩

set_option maxHeartbeats 1000000 in
theorem l2Next_any (A : Option Addr) (n cp i : Nat) (L : Nat → Nat) (g : Nat → Nat → Int) (w : World) (hg : GridF w A n L g) (hv : Valid n L g) (hi : i < n * L 0) :
    Calls Try.prog 85 #[.slice A n cp, .int .i64 i] w (RetV (.int .i64 (nextV n (L 0) (flat (L 0) g) i)) w) := by
  have HG := Lib.hid hg
  have HV := Lib.hid hv
  have hn1 := hv.1
  have hn2 := hv.2.1
  have hl1 := hv.2.2.1
  have hl2 := hv.2.2.2.1
  have hib : i ≤ 1000000 := Nat.le_trans (Nat.le_of_lt hi) (Nat.le_trans (Nat.mul_le_mul hn2 hl2) (by decide))
  have HI := Lib.hid hi
  have HNV : Hid (nextV n (L 0) (flat (L 0) g) i = low (flat (L 0) g) (nearL n (L 0) i) i (nearL n (L 0) i).length) := rfl
  have HLn := Lib.hid (nearL_len n (L 0) i)
  have HLow : Hid (∀ k, k ≤ (nearL n (L 0) i).length → low (flat (L 0) g) (nearL n (L 0) i) i k < n * L 0) := fun k hk => low_lt hi hk
  have HMem : Hid (∀ k, k < (nearL n (L 0) i).length → (nearL n (L 0) i).getD k 0 < n * L 0) := fun k hk => nearL_lt hi (getD_in hk)
  clear hg hv hi
  have HN1 : Hid (n * L 0 ≤ 49) := Nat.le_trans (Nat.mul_le_mul hn2 hl2) (by decide)
  go_enter Try.func85, Try.ntmps85
  go_wp2_with fail
  refine (l2Near_any _ _ _ _ _ _ _ HG.out (by omega) (by omega) (by omega) (by omega) HI.out).mono ?_
  rintro e w1 ⟨v, rfl, hown, hb1⟩
  have HG1 := Lib.hid (HG.out.below hb1)
  obtain ⟨Av, cv, rfl⟩ := hown.slice
  have HO := Lib.hid hown
  clear hown HG
  obtain ⟨h, hh⟩ : ∃ h, h = flat (L 0) g := ⟨_, rfl⟩
  have HH := Lib.hid hh
  rw [← hh] at HLow HNV
  clear hh
  generalize nearL n (L 0) i = l at *
  have hl4 := HLn.out
  go_wp2_with fail
  go_loopw [5, 7] (fun lo q wr => ∃ k : Nat, k ≤ l.length ∧ q = .int .i64 k ∧ lo = .int .i64 (low h l i k : Nat) ∧ Below w1.heap.size w1 wr) (fun _ q _ => l.length - (intOf q).toNat)
  case atStart => exact ⟨0, Nat.zero_le _, rfl, rfl, Below.refl _ _⟩
  case round =>
    obtain ⟨k, hk, rfl, rfl, hbel⟩ := hrel
    by_cases hlt : k < l.length
    · obtain ⟨bl, rfl, hcl⟩ := (HO.out.below hbel).at_ hlt
      have HG2 := Lib.hid (HG1.out.below hbel)
      have hj := Lib.hid (HMem.out k hlt)
      have hw := Lib.hid (HLow.out k hk)
      have hj49 : l.getD k 0 ≤ 49 := Nat.le_trans (Nat.le_of_lt hj.out) HN1.out
      have hm49 : low h l i k ≤ 49 := Nat.le_trans (Nat.le_of_lt hw.out) HN1.out
      have HLS : Hid (low h l i (k + 1) = if h (l.getD k 0) < h (low h l i k) then l.getD k 0 else low h l i k) := rfl
      generalize l.getD k 0 = j at *
      generalize low h l i k = m at *
      have hbl : bl < wr.heap.size := World.block_lt_of_cell? wr _ hcl
      go_wp2_with fail
      refine (l2Height_any _ _ _ _ _ _ _ HG2.out HV.out hj.out).mono ?_
      rintro e w2 ⟨rfl, hb2⟩
      have HG3 := Lib.hid (HG2.out.below hb2)
      rw [← HH.out]
      go_wp2_with fail
      refine (l2Height_any _ _ _ _ _ _ _ HG3.out HV.out hw.out).mono ?_
      rintro e w3 ⟨rfl, hb3⟩
      rw [← HH.out]
      have hb23 := hb2.trans (hb3.mono hb2.size)
      have hcl3 := (hb23.cell (by exact hbl)).trans hcl
      have hbel3 := hbel.trans (hb23.mono hbel.size)
      clear hcl hbl
      by_cases hq : h j < h m
      · go_wp2_with fail
        go_roundw
        case rel => exact ⟨k + 1, by omega, by go_num, by rw [HLS.out, if_pos hq], hbel3⟩
        case measure => simp [intOf]; omega
      · go_wp2_with fail
        go_roundw
        case rel => exact ⟨k + 1, by omega, by go_num, by rw [HLS.out, if_neg (by omega)], hbel3⟩
        case measure => simp [intOf]; omega
    · have HK : Hid (k = l.length) := by show k = l.length; omega
      go_wp2_with fail
      go_ret
      exact ⟨ret_int (by rw [← HH.out, HNV.out, HK.out]), hb1.trans (hbel.mono hb1.size)⟩

def waterNextV (n : Nat) (L : Nat → Nat) (g : Nat → Nat → Int) (r c : Int) : Int := if HasCell n L g r c then (nextV n (L 0) (flat (L 0) g) (r.toNat * L 0 + c.toNat) : Nat) else -1
theorem waterNextV_yes {n : Nat} {L : Nat → Nat} {g : Nat → Nat → Int} {r c : Int} (h : HasCell n L g r c) : waterNextV n L g r c = (nextV n (L 0) (flat (L 0) g) (r.toNat * L 0 + c.toNat) : Nat) := if_pos h
theorem waterNextV_no {n : Nat} {L : Nat → Nat} {g : Nat → Nat → Int} {r c : Int} (h : ¬ HasCell n L g r c) : waterNextV n L g r c = -1 := if_neg h

theorem implWaterNext_any (A : Option Addr) (n cp : Nat) (L : Nat → Nat) (g : Nat → Nat → Int) (r c : Int) (w : World) (hg : GridF w A n L g) (hn : n ≤ 1048576) (hL : ∀ r, r < n → L r ≤ 1048576) (_hr1 : -9223372036854775808 ≤ r) (_hr2 : r ≤ 9223372036854775807) (_hc1 : -9223372036854775808 ≤ c) (_hc2 : c ≤ 9223372036854775807) :
    Calls Try.prog 47 #[.slice A n cp, .int .i64 r, .int .i64 c] w (RetV (.int .i64 (waterNextV n L g r c)) w) := by
  have HG := Lib.hid hg
  have HL := Lib.hid hL
  clear hg hL
  by_cases hv : Valid n L g
  · have HV := Lib.hid hv
    have hn1 := hv.1
    have hn2 := hv.2.1
    have hl1 := hv.2.2.1
    have hl2 := hv.2.2.2.1
    by_cases h : 0 ≤ r ∧ r < n ∧ 0 ≤ c ∧ c < L 0
    · rw [waterNextV_yes ⟨hv, h⟩]
      clear hv
      obtain ⟨h1, h2, h3, h4⟩ := h
      obtain ⟨r, rfl⟩ := Int.eq_ofNat_of_zero_le h1
      obtain ⟨c, rfl⟩ := Int.eq_ofNat_of_zero_le h3
      simp only [Int.toNat_natCast]
      have hm : r * L 0 ≤ 49 := Nat.le_trans (Nat.mul_le_mul (by omega : r ≤ 7) hl2) (by decide)
      have hm0 : (0 : Int) ≤ (r : Int) * (L 0 : Int) := by rw [← Int.natCast_mul]; omega
      have hm1 : (r : Int) * (L 0 : Int) ≤ 1000000 := by rw [← Int.natCast_mul]; omega
      have HI : Hid (r * L 0 + c < n * L 0) := idx_lt (by omega) (by omega)
      have HE : Hid ((r : Int) * (L 0 : Int) + (c : Int) = ((r * L 0 + c : Nat) : Int)) := by show _ = _; rw [Int.natCast_add, Int.natCast_mul]
      go_enter Try.func47, Try.ntmps47
      go_wp2_with fail
      refine (fieldOf_yes _ _ _ _ _ _ _ HG.out HV.out rfl).mono ?_
      rintro e w1 ⟨b, rfl, hlo, hrow, hb1⟩
      have HB := Lib.hid (Boxed.new (R := n) (C := L 0) hrow)
      have hbx := hb1.alloc hb1.size (.cells #[.int .i64 n, .int .i64 (L 0), .slice (some ⟨b, 0, none⟩) (n * L 0) (n * L 0)] 59)
      clear hrow
      go_wp2_with fail
      refine (has_any _ _ _ _ _ _ _ _ true (by show true = true ↔ _; simp; omega)).mono ?_
      rintro e w2 ⟨rfl, hb2⟩
      have HB2 := Lib.hid (HB.out.below hb2)
      have hB2 : Below w.heap.size w w2 := hbx.trans (hb2.mono (by have := hb1.size; simp; omega))
      have x0 := Later.cell (cell_of_blk (i := 0) HB2.out.box rfl)
      have x1 := Later.cell (cell_of_blk (i := 1) HB2.out.box rfl)
      have x2 := Later.cell (cell_of_blk (i := 2) HB2.out.box rfl)
      clear HB hbx hb2
      have hidx : Hid (∀ (w : World), Calls Try.prog 61 #[.agg #[.int .i64 n, .int .i64 (L 0), .slice (some ⟨b, 0, none⟩) (n * L 0) (n * L 0)], .int .i64 r, .int .i64 c] w (RetV (.int .i64 ((r * L 0 + c : Nat) : Int)) w)) := fun w => by
        rw [← HE.out]
        exact index_any _ _ _ _ (.int .i64 0) w hm0 hm1 (by omega) (by omega) _ _ _
      go_wp2_with fail
      refine wp_region_later (by kernel_rfl) (by kernel_rfl) ?_
      repeat (first | go_big_quiet_step ((first | (go_at_call 61; exact quietL (hidx.out _)) | (go_at_call 83; exact quietL (next_any _ _ _ _ _ _ _ (by omega) (by omega) (by omega) HI rfl (HB2.out.below (Later.below _)).row)))))
      refine wpQuiet_nil ?_
      rintro _ ⟨⟨w3, hb3⟩, rfl⟩
      clear x0 x1 x2
      go_wp2_with fail
      go_ret
      exact ⟨rfl, hB2.trans (hb3.mono hB2.size)⟩
    · rw [waterNextV_no (fun hh => h hh.2)]
      clear hv
      go_enter Try.func47, Try.ntmps47
      go_wp2_with fail
      refine (fieldOf_yes _ _ _ _ _ _ _ HG.out HV.out rfl).mono ?_
      rintro e w1 ⟨b, rfl, hlo, hrow, hb1⟩
      clear hrow
      go_wp2_with fail
      refine (has_any _ _ _ _ _ _ _ _ false (by show false = true ↔ _; simp; omega)).mono ?_
      rintro e w2 ⟨rfl, hb2⟩
      go_wp2_with fail
      go_ret
      exact ⟨rfl, (hb1.alloc hb1.size _).trans (hb2.mono (by have := hb1.size; simp; omega))⟩
  · rw [waterNextV_no (fun hh => hv hh.1)]
    have HV := Lib.hid hv
    clear hv
    go_enter Try.func47, Try.ntmps47
    go_wp2_with fail
    refine (fieldOf_no _ _ _ _ _ _ HG.out hn HL.out HV.out).mono ?_
    rintro e w1 ⟨rfl, hb1⟩
    go_wp2_with fail
    go_ret
    exact ⟨rfl, hb1.alloc hb1.size _⟩

theorem specWaterNext_any (A : Option Addr) (n cp : Nat) (L : Nat → Nat) (g : Nat → Nat → Int) (r c : Int) (w : World) (hg : GridF w A n L g) (hn : n ≤ 1048576) (hL : ∀ r, r < n → L r ≤ 1048576) (_hr1 : -9223372036854775808 ≤ r) (_hr2 : r ≤ 9223372036854775807) (_hc1 : -9223372036854775808 ≤ c) (_hc2 : c ≤ 9223372036854775807) :
    Calls Try.prog 48 #[.slice A n cp, .int .i64 r, .int .i64 c] w (RetV (.int .i64 (waterNextV n L g r c)) w) := by
  have HG := Lib.hid hg
  have HL := Lib.hid hL
  clear hg hL
  by_cases h : HasCell n L g r c
  · rw [waterNextV_yes h]
    have HH := Lib.hid h
    have HV := Lib.hid h.1
    obtain ⟨hv, h1, h2, h3, h4⟩ := h
    obtain ⟨r, rfl⟩ := Int.eq_ofNat_of_zero_le h1
    obtain ⟨c, rfl⟩ := Int.eq_ofNat_of_zero_le h3
    simp only [Int.toNat_natCast]
    have hn2 := hv.2.1
    have hl2 := hv.2.2.2.1
    clear hv
    have hm : r * L 0 ≤ 49 := Nat.le_trans (Nat.mul_le_mul (by omega : r ≤ 7) hl2) (by decide)
    have hm0 : (0 : Int) ≤ (r : Int) * (L 0 : Int) := by rw [← Int.natCast_mul]; omega
    have hm1 : (r : Int) * (L 0 : Int) ≤ 1000000 := by rw [← Int.natCast_mul]; omega
    have HI : Hid (r * L 0 + c < n * L 0) := idx_lt (by omega) (by omega)
    have HE : Hid ((r : Int) * (L 0 : Int) + (c : Int) = ((r * L 0 + c : Nat) : Int)) := by show _ = _; rw [Int.natCast_add, Int.natCast_mul]
    obtain ⟨B, o, A0, c0, rfl, hc0, _, hr0⟩ := HG.out 0 (by omega)
    rw [Nat.add_zero] at hc0
    clear hr0
    go_enter Try.func48, Try.ntmps48
    go_wp2_with fail
    refine (l1Cell_yes _ _ _ _ _ _ _ _ HG.out HH.out).mono ?_
    rintro e w1 ⟨rfl, hb1⟩
    have hc1 := (hb1.cell (World.block_lt_of_cell? w _ hc0)).trans hc0
    go_wp2_with fail
    rw [HE.out]
    refine (l2Next_any _ _ _ _ _ _ _ (HG.out.below hb1) HV.out HI.out).mono ?_
    rintro e w2 ⟨rfl, hb2⟩
    go_wp2_with fail
    go_ret
    exact ⟨rfl, hb1.trans (hb2.mono hb1.size)⟩
  · rw [waterNextV_no h]
    have HH := Lib.hid h
    clear h
    go_enter Try.func48, Try.ntmps48
    go_wp2_with fail
    refine (l1Cell_no _ _ _ _ _ _ _ _ HG.out hn HL.out HH.out).mono ?_
    rintro e w1 ⟨rfl, hb1⟩
    go_wp2_with fail
    go_ret
    exact ⟨rfl, hb1⟩

end Go.Proofs.Ythndabbjkkjkhaa
