import Derived.Test.YtkkkkgcijkjeoaaDoorA1
namespace Go.Proofs.YtkkkkgcijkjeoaaDoor
set_option linter.unusedVariables false
set_option linter.unusedSimpArgs false
open Go.RowKit

theorem index_any (R C r c : Int) (cv : Value) (w : World) (h0 : 0 ≤ r * C) (h1 : r * C ≤ 1000000) (h2 : 0 ≤ c) (h3 : c ≤ 1000000) (A : Option Addr) (n m : Nat) :
    Calls Tryd.prog 39 #[.agg #[.int .i64 R, .int .i64 C, .slice A n m], .int .i64 r, .int .i64 c] w (RetV (.int .i64 (r * C + c)) w) := by
  go_enter Tryd.func39, Tryd.ntmps39
  go_wp2
  go_ret
  exact ⟨rfl, (Below.refl _ _).alloc (Nat.le_refl _) _⟩

theorem idx_lt {r R c C : Nat} (hr : r < R) (hc : c < C) : r * C + c < R * C := by
  have : (r + 1) * C ≤ R * C := Nat.mul_le_mul_right C hr
  rw [Nat.succ_mul] at this
  omega

theorem at_any (R C : Nat) (b N r c : Nat) (h : Nat → Int) (w : World) (hr : r < R) (hc : c < C) (hR : R ≤ 1000) (hC : C ≤ 1000) (hN : Hid (N = R * C)) (hrow : Hid (w.rowIs b 3 N (fun i => .int .i64 (h i)))) :
    Calls Tryd.prog 22 #[.agg #[.int .i64 R, .int .i64 C, .slice (some ⟨b, 0, none⟩) N N], .int .i64 r, .int .i64 c] w (RetV (.int .i64 (h (r * C + c))) w) := by
  have hlt : r * C + c < N := by rw [hN.out]; exact idx_lt hr hc
  have hcell := hrow.out.cell hlt
  have hm : r * C ≤ 1000000 := Nat.le_trans (Nat.mul_le_mul (Nat.le_of_lt (Nat.lt_of_lt_of_le hr hR)) hC) (by decide)
  have hm0 : (0 : Int) ≤ (r : Int) * (C : Int) := by rw [← Int.natCast_mul]; omega
  have hm1 : (r : Int) * (C : Int) ≤ 1000000 := by rw [← Int.natCast_mul]; omega
  have hc0 := Later.cell (cell_alloc hcell (.cells #[.int .i64 R, .int .i64 C, .slice (some ⟨b, 0, none⟩) N N] 40))
  have hb0 := Later.cell (box_cell0 w (.int .i64 R) (.int .i64 C) (.slice (some ⟨b, 0, none⟩) N N) 40)
  have hb1 := Later.cell (box_cell1 w (.int .i64 R) (.int .i64 C) (.slice (some ⟨b, 0, none⟩) N N) 40)
  have hb2 := Later.cell (box_cell2 w (.int .i64 R) (.int .i64 C) (.slice (some ⟨b, 0, none⟩) N N) 40)
  have hidx : Hid (∀ (w : World), Calls Tryd.prog 39 #[.agg #[.int .i64 R, .int .i64 C, .slice (some ⟨b, 0, none⟩) N N], .int .i64 r, .int .i64 c] w (RetV (.int .i64 ((r : Int) * (C : Int) + c)) w)) :=
    fun w => index_any _ _ _ _ (.int .i64 0) w hm0 hm1 (by omega) (by omega) _ _ _
  have e1 : ((r : Int) * (C : Int) + (c : Int)).toNat = r * C + c := by rw [← Int.natCast_mul]; omega
  have e2 : (r : Int) * (C : Int) + (c : Int) < (N : Int) := by rw [← Int.natCast_mul]; omega
  have e3 : (0 : Int) ≤ (r : Int) * (C : Int) + (c : Int) := by omega
  go_enter Tryd.func22, Tryd.ntmps22
  go_wp2
  refine wp_region_later (by kernel_rfl) (by kernel_rfl) ?_
  repeat (go_big_quiet_step ((go_at_call 39; exact quietL (hidx.out _))))
  refine wpQuiet_nil ?_
  rintro _ ⟨⟨w1, hb1⟩, rfl⟩
  go_wp2
  go_ret
  exact ⟨rfl, (below_alloc _ _).trans (hb1.mono (by simp))⟩


theorem isHeight_any (n : Int) (w : World) (b : Bool) (hb : Hid (b = true ↔ 0 ≤ n ∧ n ≤ 99)) :
    Calls Tryd.prog 38 #[.int .i64 n] w (RetP (.bool b) w) := by
  go_enter Tryd.func38, Tryd.ntmps38
  go_wp2
  all_goals go_ret
  all_goals exact ⟨ret_bool (by have := hb.out; cases b <;> simp at this ⊢ <;> omega), rfl⟩

def RetField (R C N : Nat) (h : Nat → Int) (w : World) (e : Ending) (w' : World) : Prop :=
  ∃ b, e = .returned (.agg #[.int .i64 R, .int .i64 C, .slice (some ⟨b, 0, none⟩) N N]) ∧ w.heap.size ≤ b ∧ w'.rowIs b 3 N (fun i => .int .i64 (h i)) ∧ Below w.heap.size w w'

theorem blank_any (R C N : Nat) (w : World) (hR : R ≤ 1000) (hC : C ≤ 1000) (hN : Hid (N = R * C)) :
    Calls Tryd.prog 37 #[.int .i64 R, .int .i64 C] w (RetField R C N (fun _ => 0) w) := by
  have hm : R * C ≤ 1000000 := Nat.le_trans (Nat.mul_le_mul hR hC) (by decide)
  have hN1 : N ≤ 1000000 := by rw [hN.out]; exact hm
  have hm0 : (0 : Int) ≤ (R : Int) * (C : Int) := by rw [← Int.natCast_mul]; omega
  have hm1 : (R : Int) * (C : Int) ≤ 1000000 := by rw [← Int.natCast_mul]; omega
  have hmk := run_make_row' (P := Tryd.prog) 38 3 (.int .i64 0) 8 Tryd.underlying38 Tryd.infoI rfl .i64 .i64 N (by omega) (by omega)
  have e1 : ((N : Nat) : Int) = (R : Int) * (C : Int) := by rw [hN.out, Int.natCast_mul]
  rw [e1] at hmk
  clear e1
  go_enter Tryd.func37, Tryd.ntmps37
  go_wp2
  refine bodyPost_ret (v := .agg #[.int .i64 R, .int .i64 C, .slice (some ⟨w.heap.size + 1, 0, none⟩) N N]) (by simp [results, Tryd.results37, go_sem]) rfl ⟨_, rfl, ?_, ?_, ?_⟩
  · omega
  · have := World.rowIs_made (w.alloc (.cells #[.int .i64 R, .int .i64 C, .slice (some ⟨w.heap.size + 1, 0, none⟩) N N] 40)) (.int .i64 0) N 3
    simpa using this
  · exact ((Below.refl _ _).alloc (Nat.le_refl _) _).alloc (by simp) _

def RetFO (R C N : Nat) (h : Nat → Int) (w : World) (e : Ending) (w' : World) : Prop :=
  ∃ b, e = .returned (.tuple #[.agg #[.int .i64 R, .int .i64 C, .slice (some ⟨b, 0, none⟩) N N], .bool true]) ∧ w.heap.size ≤ b ∧ w'.rowIs b 3 N (fun i => .int .i64 (h i)) ∧ Below w.heap.size w w'
def RetFN (w : World) (e : Ending) (w' : World) : Prop :=
  e = .returned (.tuple #[.agg #[.int .i64 0, .int .i64 0, .slice none 0 0], .bool false]) ∧ Below w.heap.size w w'

/-- What holds at the heads of fieldOf's loops: s heights are laid. -/
structure RelFO (w wr : World) (Bf b R C N : Nat) (h : Nat → Int) (s : Nat) : Prop where
  box : wr.heap[Bf]? = some (.cells #[.int .i64 R, .int .i64 C, .slice (some ⟨b, 0, none⟩) N N] 40 (0, 0))
  res : wr.heap[w.heap.size]? = some (.cells #[.int .i64 0, .int .i64 0, .slice none 0 0] 40 (0, 0))
  ne : Bf ≠ w.heap.size
  lo : w.heap.size < b
  row : wr.rowIs b 3 N (fun i => .int .i64 (if i < s then h i else 0))
  bel : Below w.heap.size w wr

theorem cell_of_blk {w : World} {b i : Nat} {cs : Array Value} {t : TypeId} (h : w.heap[b]? = some (.cells cs t (0, 0))) {v : Value} (hv : cs[i]? = some v) : w.cell? ⟨b, i, none⟩ = some v := by
  simp [World.cell?, h, hv]
theorem frozen_of_blk {w : World} {b : Nat} {cs : Array Value} {t : TypeId} (h : w.heap[b]? = some (.cells cs t (0, 0))) (i : Nat) : w.frozen? ⟨b, i, none⟩ = false := by
  simp [World.frozen?, h]
theorem lt_of_blk {w : World} {b : Nat} {o : Obj} (h : w.heap[b]? = some o) : b < w.heap.size := by
  obtain ⟨hlt, _⟩ := Array.getElem?_eq_some_iff.1 h
  exact hlt
theorem RelFO.keep {w wr w1 : World} {Bf b R C N : Nat} {h : Nat → Int} {s : Nat} (H : RelFO w wr Bf b R C N h s) (hb : Below wr.heap.size wr w1) : RelFO w w1 Bf b R C N h s :=
  ⟨(hb.block _ (lt_of_blk H.box)).trans H.box, (hb.block _ (lt_of_blk H.res)).trans H.res, H.ne, H.lo, rowIs_kept H.row hb, H.bel.trans (hb.mono H.bel.size)⟩
theorem RelFO.step {w wr : World} {Bf b R C N : Nat} {h : Nat → Int} {s : Nat} (H : RelFO w wr Bf b R C N h s) : RelFO w (wr.setCell ⟨b, s, none⟩ (.int .i64 (h s))) Bf b R C N h (s + 1) := by
  have hne : Bf ≠ b := by
    rintro rfl
    obtain ⟨cs, hh, _⟩ := H.row
    have := H.box
    rw [hh] at this
    injection this with this
    injection this with _ this
    exact absurd this (by decide)
  refine ⟨(Below.heap_setCell _ _ _ _ hne).trans H.box, (Below.heap_setCell _ _ _ _ (by have := H.lo; show _ ≠ b; omega)).trans H.res, H.ne, H.lo, (H.row.set s _).congr (fun j hj => ?_), H.bel.setCell (by have := H.lo; show _ ≤ b; omega) _⟩
  by_cases e : j = s
  · subst e; simp
  · have : (j < s + 1) = (j < s) := by apply propext; omega
    simp [e, this]
theorem RelFO.start {w w1 : World} {b : Nat} (R C N : Nat) (h : Nat → Int) (hlo : (w.alloc (.cells #[.int .i64 0, .int .i64 0, .slice none 0 0] 40)).heap.size ≤ b) (hrow : w1.rowIs b 3 N (fun _ => .int .i64 0))
    (hb : Below (w.alloc (.cells #[.int .i64 0, .int .i64 0, .slice none 0 0] 40)).heap.size (w.alloc (.cells #[.int .i64 0, .int .i64 0, .slice none 0 0] 40)) w1) :
    RelFO w (w1.alloc (.cells #[.int .i64 R, .int .i64 C, .slice (some ⟨b, 0, none⟩) N N] 40)) w1.heap.size b R C N h 0 := by
  have hs := hb.size
  simp at hs hlo
  refine ⟨heap_alloc_new _ _, ?_, by omega, by omega, (hrow.alloc _).congr (fun i _ => by simp), ?_⟩
  · rw [Below.heap_alloc _ _ _ (by omega), hb.block _ (by simp)]
    exact heap_alloc_new _ _
  · exact ((below_alloc w _).trans (hb.mono (by simp))).alloc (by omega) _

def RetFM (n N : Nat) (L : Nat → Nat) (g : Nat → Nat → Int) (w : World) (e : Ending) (w' : World) : Prop :=
  (Valid n L g ∧ RetFO n (L 0) N (flat (L 0) g) w e w') ∨ (¬ Valid n L g ∧ RetFN w e w')
def Rows (k C : Nat) (L : Nat → Nat) (g : Nat → Nat → Int) : Prop := ∀ r, r < k → L r = C ∧ ∀ c, c < C → 0 ≤ g r c ∧ g r c ≤ 99
def Cells (k : Nat) (f : Nat → Int) : Prop := ∀ c, c < k → 0 ≤ f c ∧ f c ≤ 99

theorem fieldOf_mid (A : Option Addr) (n c N : Nat) (L : Nat → Nat) (g : Nat → Nat → Int) (w : World) (hg : GridF w A n L g) (h1 : 1 ≤ n) (h2 : n ≤ 7) (h3 : 1 ≤ L 0) (h4 : L 0 ≤ 7) (hL : ∀ r, r < n → L r ≤ 1048576) (hN : Hid (N = n * L 0)) :
    Calls Tryd.prog 20 #[.slice A n c] w (RetFM n N L g w) := by
  have HG := Lib.hid hg
  have HL := Lib.hid hL
  clear hg hL
  obtain ⟨B, o, A0, c0, rfl, hc0, _, hr0⟩ := HG.out 0 (by omega)
  rw [Nat.add_zero] at hc0
  clear hr0
  have hB : B < w.heap.size := World.block_lt_of_cell? w _ hc0
  have d1 : decide ((n : Int) < 1) = false := by simp; omega
  have d2 : decide (7 < (n : Int)) = false := by simp; omega
  have d3 : decide ((L 0 : Int) < 1) = false := by simp; omega
  have d4 : decide (7 < (L 0 : Int)) = false := by simp; omega
  go_enter Tryd.func20, Tryd.ntmps20
  go_wp2_with (go_at_call 37; refine (blank_any _ _ N _ (by omega) (by omega) hN).mono ?_; rintro e w1 ⟨b, rfl, hlo, hrow, hb1⟩; have HRow := Lib.hid hrow; have HB1 := Lib.hid hb1; clear hrow hb1)
  have R0 := RelFO.start (w := w) (w1 := w1) n (L 0) N (flat (L 0) g) hlo HRow.out HB1.out
  obtain ⟨Bf, hBf⟩ : ∃ x, x = w1.heap.size := ⟨_, rfl⟩
  rw [← hBf] at R0 ⊢
  have HR0 := Lib.hid R0
  clear R0 HRow HB1 hlo hBf hc0
  go_loopw [36] (fun i wr => ∃ k : Nat, k ≤ n ∧ i = .int .i64 k ∧ Rows k (L 0) L g ∧ RelFO w wr Bf b n (L 0) N (flat (L 0) g) (k * L 0)) (fun i _ => n - (intOf i).toNat)
  case atStart => exact ⟨0, Nat.zero_le _, rfl, fun r hr => by omega, by rw [Nat.zero_mul]; exact HR0.out⟩
  case round =>
    clear HR0
    obtain ⟨k, hk, rfl, hrows, hrel⟩ := hrel
    have HREL := Lib.hid hrel
    have HRows := Lib.hid hrows
    clear hrows
    by_cases hlt : k < n
    · obtain ⟨B', o', A1, c1, hBB, hc1, _, hr1⟩ := HG.out k hlt
      injection hBB with hBB
      injection hBB with hB1 hB2
      subst hB1 hB2
      have hc1' := (hrel.bel.cell (by exact hB)).trans hc1
      clear hc1
      by_cases hlen : ¬ L k = L 0
      · have z0 := cell_of_blk (i := 0) hrel.res rfl
        have z1 := cell_of_blk (i := 1) hrel.res rfl
        have z2 := cell_of_blk (i := 2) hrel.res rfl
        have q0 := frozen_of_blk hrel.res 0
        have q1 := frozen_of_blk hrel.res 1
        have q2 := frozen_of_blk hrel.res 2
        have d5 : ((L k : Int) != (L 0 : Int)) = true := by rw [bne_iff_ne]; omega
        have hlk := HL.out k hlt
        clear hrel
        go_wp2
        refine bodyPost_ret (v := .tuple #[.agg #[.int .i64 0, .int .i64 0, .slice none 0 0], .bool false]) (by simp [results, Tryd.results20, go_sem, z0, z1, z2]) rfl (.inr ⟨?_, rfl, ?_⟩)
        · exact fun hv => hlen (hv.2.2.2.2 k hlt).1
        · exact ((HREL.out.bel.setCell (by exact Nat.le_refl _) _).setCell (by exact Nat.le_refl _) _).setCell (by exact Nat.le_refl _) _
      have hlen : L k = L 0 := Decidable.not_not.1 hlen
      rw [hlen] at hc1' hr1
      have HR1 := Lib.hid hr1
      have HLen := Lib.hid hlen
      have d5 : ((L 0 : Int) != (L 0 : Int)) = false := by simp
      clear hr1 hlen hrel
      have hm : k * L 0 ≤ 49 := Nat.le_trans (Nat.mul_le_mul (by omega : k ≤ 7) h4) (by decide)
      have hm0 : (0 : Int) ≤ (k : Int) * (L 0 : Int) := by rw [← Int.natCast_mul]; omega
      have hm1 : (k : Int) * (L 0 : Int) ≤ 1000000 := by rw [← Int.natCast_mul]; omega
      go_wp2
      obtain ⟨wo, hwo⟩ : ∃ wo : World, wo = wr := ⟨_, rfl⟩
      rw [← hwo] at HREL hc1' ⊢
      go_loopw [48] (fun i wi => ∃ j : Nat, j ≤ L 0 ∧ i = .int .i64 j ∧ Cells j (g k) ∧ RelFO w wi Bf b n (L 0) N (flat (L 0) g) (k * L 0 + j)) (fun i _ => L 0 - (intOf i).toNat)
      case atStart => exact ⟨0, Nat.zero_le _, rfl, fun r hr => by omega, HREL.out⟩
      case round =>
        clear HREL hc1' hwo
        obtain ⟨j, hj, rfl, hcells, hrel⟩ := hrel
        have HREL := Lib.hid hrel
        have HCells := Lib.hid hcells
        clear hcells
        by_cases hlt2 : j < L 0
        · obtain ⟨B2, o2, rfl, hc2⟩ := (RowF.below HR1.out hrel.bel) j hlt2
          by_cases hok : ¬ (0 ≤ g k j ∧ g k j ≤ 99)
          · have z0 := cell_of_blk (i := 0) hrel.res rfl
            have z1 := cell_of_blk (i := 1) hrel.res rfl
            have z2 := cell_of_blk (i := 2) hrel.res rfl
            have q0 := frozen_of_blk hrel.res 0
            have q1 := frozen_of_blk hrel.res 1
            have q2 := frozen_of_blk hrel.res 2
            clear hrel
            go_wp2_with (go_at_call 38; refine (isHeight_any _ _ false (by show false = true ↔ _; simpa using hok)).mono ?_; rintro e w' ⟨rfl, rfl⟩)
            refine bodyPost_ret (v := .tuple #[.agg #[.int .i64 0, .int .i64 0, .slice none 0 0], .bool false]) (by simp [results, Tryd.results20, go_sem, z0, z1, z2]) rfl (.inr ⟨?_, rfl, ?_⟩)
            · exact fun hv => hok ((hv.2.2.2.2 k hlt).2 j hlt2)
            · exact ((HREL.out.bel.setCell (by exact Nat.le_refl _) _).setCell (by exact Nat.le_refl _) _).setCell (by exact Nat.le_refl _) _
          have hok : 0 ≤ g k j ∧ g k j ≤ 99 := Decidable.not_not.1 hok
          have hltN : k * L 0 + j < N := by rw [hN.out]; exact idx_lt hlt hlt2
          have e1 : ((k : Int) * (L 0 : Int) + (j : Int)).toNat = k * L 0 + j := by rw [← Int.natCast_mul]; omega
          have e2 : (k : Int) * (L 0 : Int) + (j : Int) < (N : Int) := by rw [← Int.natCast_mul]; omega
          have e3 : (0 : Int) ≤ (k : Int) * (L 0 : Int) + (j : Int) := by omega
          have hidx : Hid (∀ (w : World), Calls Tryd.prog 39 #[.agg #[.int .i64 n, .int .i64 (L 0), .slice (some ⟨b, 0, none⟩) N N], .int .i64 k, .int .i64 j] w (RetV (.int .i64 ((k : Int) * (L 0 : Int) + j)) w)) :=
            fun w => index_any _ _ _ _ (.int .i64 0) w hm0 hm1 (by omega) (by omega) _ _ _
          go_wp2_with (go_at_call 38; refine (isHeight_any _ _ true (by show true = true ↔ _; simpa using hok)).mono ?_; rintro e w' ⟨rfl, rfl⟩)
          have x0 := Later.cell (cell_of_blk (i := 0) hrel.box rfl)
          have x1 := Later.cell (cell_of_blk (i := 1) hrel.box rfl)
          have x2 := Later.cell (cell_of_blk (i := 2) hrel.box rfl)
          clear hrel
          refine wp_region_later_tail 8 (by kernel_rfl) (by kernel_rfl) ?_
          simp only [List.take_succ_cons, List.take_zero, List.drop_succ_cons, List.drop_zero]
          repeat (go_big_quiet_step ((go_at_call 39; exact quietL (hidx.out _))))
          refine wpQuiet_nil ?_
          rintro w2 ⟨⟨_, hb2⟩, rfl⟩
          have hcw : w2.cell? ⟨b, k * L 0 + j, none⟩ = _ := (rowIs_kept HREL.out.row hb2).cell hltN
          have hfw : w2.frozen? ⟨b, k * L 0 + j, none⟩ = false := (rowIs_kept HREL.out.row hb2).frozen _
          clear x0 x1 x2
          show wpList _ _ _ _ _ w2
          go_wp2
          go_roundw
          case rel =>
            have := (HREL.out.keep hb2).step
            rw [flat_at g hlt2] at this
            refine ⟨j + 1, by omega, by go_num, fun r hr => ?_, this⟩
            by_cases e : r = j
            · subst e; exact hok
            · exact HCells.out r (by omega)
          case measure => simp [intOf]; omega
        · have hj2 : j = L 0 := by omega
          go_wp2
          go_roundw
          case rel =>
            have := HREL.out
            rw [hj2, ← Nat.succ_mul] at this
            refine ⟨k + 1, by omega, by go_num, fun r hr => ?_, this⟩
            by_cases e : r = k
            · subst e; exact ⟨HLen.out, fun c hc => HCells.out c (by omega)⟩
            · exact HRows.out r (by omega)
          case measure => simp [intOf]; omega
    · have hkn : k = n := by omega
      have y0 := cell_of_blk (i := 0) hrel.box rfl
      have y1 := cell_of_blk (i := 1) hrel.box rfl
      have y2 := cell_of_blk (i := 2) hrel.box rfl
      have z0 := cell_of_blk (i := 0) hrel.res rfl
      have z1 := cell_of_blk (i := 1) hrel.res rfl
      have z2 := cell_of_blk (i := 2) hrel.res rfl
      have q0 := frozen_of_blk hrel.res 0
      have q1 := frozen_of_blk hrel.res 1
      have q2 := frozen_of_blk hrel.res 2
      have hne := hrel.ne
      clear hrel
      go_wp2
      refine bodyPost_ret (v := .tuple #[.agg #[.int .i64 n, .int .i64 (L 0), .slice (some ⟨b, 0, none⟩) N N], .bool true]) (by simp [results, Tryd.results20, go_sem, z0, z1, z2]) rfl (.inl ⟨?_, b, rfl, ?_, ?_, ?_⟩)
      · exact ⟨h1, h2, h3, h4, by rw [← hkn]; exact HRows.out⟩
      · have := HREL.out.lo; omega
      · have h0 := HREL.out.lo
        refine World.rowIs.congr (f := fun i => .int .i64 (if i < k * L 0 then flat (L 0) g i else 0)) ?_ (fun i hi => by rw [if_pos (by rw [hkn, ← hN.out]; exact hi)])
        refine World.rowIs.setOther (World.rowIs.setOther (World.rowIs.setOther HREL.out.row ?_ _) ?_ _) ?_ _ <;> (show b ≠ w.heap.size; omega)
      · exact ((HREL.out.bel.setCell (by exact Nat.le_refl _) _).setCell (by exact Nat.le_refl _) _).setCell (by exact Nat.le_refl _) _

theorem fieldOf_yes (A : Option Addr) (n c N : Nat) (L : Nat → Nat) (g : Nat → Nat → Int) (w : World) (hg : GridF w A n L g) (hv : Valid n L g) (hN : Hid (N = n * L 0)) :
    Calls Tryd.prog 20 #[.slice A n c] w (RetFO n (L 0) N (flat (L 0) g) w) :=
  (fieldOf_mid A n c N L g w hg hv.1 hv.2.1 hv.2.2.1 hv.2.2.2.1 (fun r hr => by have := (hv.2.2.2.2 r hr).1; have := hv.2.2.2.1; omega) hN).mono fun e w' h => by
    rcases h with h | h
    · exact h.2
    · exact absurd hv h.1

/-- A row that is too short or too long, or that has a height out of range. -/
theorem fieldOf_no (A : Option Addr) (n c : Nat) (L : Nat → Nat) (g : Nat → Nat → Int) (w : World) (hg : GridF w A n L g) (hn : n ≤ 1048576) (hL : ∀ r, r < n → L r ≤ 1048576) (hv : ¬ Valid n L g) :
    Calls Tryd.prog 20 #[.slice A n c] w (RetFN w) := by
  have HG := Lib.hid hg
  have HV := Lib.hid hv
  have HL := Lib.hid hL
  clear hg hv hL
  by_cases h1 : 1 ≤ n ∧ n ≤ 7
  · obtain ⟨h1, h2⟩ := h1
    obtain ⟨B, o, A0, c0, rfl, hc0, _, hr0⟩ := HG.out 0 (by omega)
    rw [Nat.add_zero] at hc0
    clear hr0
    have hB : B < w.heap.size := World.block_lt_of_cell? w _ hc0
    have d1 : decide ((n : Int) < 1) = false := by simp; omega
    have d2 : decide (7 < (n : Int)) = false := by simp; omega
    by_cases h3 : 1 ≤ L 0 ∧ L 0 ≤ 7
    · exact (fieldOf_mid _ n c _ L g w HG.out h1 h2 h3.1 h3.2 HL.out rfl).mono fun e w' h => by
        rcases h with h | h
        · exact absurd h.1 HV.out
        · exact h.2
    · go_enter Tryd.func20, Tryd.ntmps20
      go_wp2
      all_goals
        refine bodyPost_ret (v := .tuple #[.agg #[.int .i64 0, .int .i64 0, .slice none 0 0], .bool false]) (by simp [results, Tryd.results20, go_sem]) rfl ⟨rfl, ?_⟩
        exact below_alloc _ _
  · go_enter Tryd.func20, Tryd.ntmps20
    go_wp2
    all_goals
      refine bodyPost_ret (v := .tuple #[.agg #[.int .i64 0, .int .i64 0, .slice none 0 0], .bool false]) (by simp [results, Tryd.results20, go_sem]) rfl ⟨rfl, ?_⟩
      exact below_alloc _ _

end Go.Proofs.YtkkkkgcijkjeoaaDoor
