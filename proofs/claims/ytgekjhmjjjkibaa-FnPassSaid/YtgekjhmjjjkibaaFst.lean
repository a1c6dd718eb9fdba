/- A forest of cells: newForest, root, join. -/
import Derived.Test.YtgekjhmjjjkibaaNear
import Derived.Test.YtgekjhmjjjkibaaPlR
import Derived.Test.YtgekjhmjjjkibaaDraw
namespace Go.Proofs.Ytgekjhmjjjkibaa
set_option linter.unusedVariables false
set_option linter.unusedSimpArgs false
open Go.RowKit

/-- A forest lies in block Bt, its row in block b. -/
structure Fst (w : World) (Bt b N : Nat) (up : Nat → Nat) : Prop where
  box : w.heap[Bt]? = some (.cells #[.slice (some ⟨b, 0, none⟩) N N] 86 (0, 0))
  row : w.rowIs b 3 N (fun i => .int .i64 (up i : Nat))

theorem Fst.ne {w : World} {Bt b N : Nat} {up : Nat → Nat} (H : Fst w Bt b N up) : Bt ≠ b := by
  rintro rfl
  obtain ⟨cs, hh, _⟩ := H.row
  have := H.box
  rw [hh] at this
  injection this with this
  injection this with _ this
  exact absurd this (by decide)
theorem Fst.below {w w' : World} {Bt b N : Nat} {up : Nat → Nat} (H : Fst w Bt b N up) (hb : Below w.heap.size w w') : Fst w' Bt b N up :=
  ⟨(hb.block _ (lt_of_blk H.box)).trans H.box, rowIs_kept H.row hb⟩
theorem Fst.store {w : World} {Bt b N : Nat} {up : Nat → Nat} (H : Fst w Bt b N up) (k x : Nat) : Fst (w.setCell ⟨b, k, none⟩ (.int .i64 (x : Nat))) Bt b N (updN up k x) := by
  refine ⟨(Below.heap_setCell _ _ _ _ H.ne).trans H.box, (H.row.set k _).congr fun j hj => ?_⟩
  unfold updN
  by_cases e : j = k
  · simp [e]
  · simp [e]
theorem Fst.congr {w : World} {Bt b N : Nat} {up up' : Nat → Nat} (H : Fst w Bt b N up) (e : ∀ i, i < N → up i = up' i) : Fst w Bt b N up' :=
  ⟨H.box, H.row.congr fun i hi => by rw [e i hi]⟩
theorem But.setCell {b : Nat} {w w' : World} (h : But b w w') (k : Nat) (x : Value) : But b w (w'.setCell ⟨b, k, none⟩ x) :=
  ⟨h.os, h.tape, h.output, by simpa [World.setCell] using h.size, fun j hj hne => (Below.heap_setCell _ _ _ _ hne).trans (h.block j hj hne)⟩
theorem But.drewN {b : Nat} {w w' : World} (h : But b w w') (n : Nat) : But b w (w'.drewN n) := ⟨h.os, h.tape, h.output, h.size, h.block⟩

def RetNF (N : Nat) (w : World) (e : Ending) (w' : World) : Prop :=
  ∃ Bt b, e = .returned (.pointer (some ⟨Bt, 0, none⟩)) ∧ w.heap.size ≤ Bt ∧ w.heap.size ≤ b ∧ Fst w' Bt b N (fun i => i) ∧ Below w.heap.size w w'

theorem newForest_any (N : Nat) (w : World) (hN : N ≤ 1000000) : Calls Try.prog 81 #[.int .i64 N] w (RetNF N w) := by
  have hmk := run_make_row' (P := Try.prog) 29 3 (.int .i64 0) 8 Try.underlying29 Try.infoI rfl .i64 .i64 N (by omega) (by omega)
  have HS : Hid (Fst ((w.alloc (.cells (madeCells #[.int .i64 0] N) 3)).alloc (.cells #[.slice (some ⟨w.heap.size, 0, none⟩) N N] 86)) (w.heap.size + 1) w.heap.size N (fun j => if j < 0 then j else 0)) := by
    refine ⟨?_, ?_⟩
    · have := heap_alloc_new (w.alloc (.cells (madeCells #[.int .i64 0] N) 3)) (.cells #[.slice (some ⟨w.heap.size, 0, none⟩) N N] 86)
      simpa using this
    · exact ((World.rowIs_made w _ N 3).alloc _).congr (fun _ _ => by simp)
  have hb : Below w.heap.size w ((w.alloc (.cells (madeCells #[.int .i64 0] N) 3)).alloc (.cells #[.slice (some ⟨w.heap.size, 0, none⟩) N N] 86)) := ((Below.refl _ _).alloc (Nat.le_refl _) _).alloc (by simp) _
  have x0 := cell_of_blk (i := 0) HS.out.box rfl
  go_enter Try.func81, Try.ntmps81
  go_wp2_with fail
  clear x0
  generalize World.alloc (World.alloc w _) _ = w1 at *
  go_loopw [14] (fun i wr => ∃ k : Nat, k ≤ N ∧ i = .int .i64 k ∧ Hid (Fst wr (w.heap.size + 1) w.heap.size N (fun j => if j < k then j else 0)) ∧ Below w.heap.size w wr) (fun i _ => N - (intOf i).toNat)
  case atStart => exact ⟨0, Nat.zero_le _, rfl, HS.out, hb⟩
  case round =>
    clear HS hb
    obtain ⟨k, hk, rfl, HF, hbel⟩ := hrel
    by_cases hlt : k < N
    · have x0 := cell_of_blk (i := 0) HF.out.box rfl
      have x1 := HF.out.row.cell hlt
      have x2 := HF.out.row.frozen k
      have HF1 : Hid (Fst (wr.setCell ⟨w.heap.size, k, none⟩ (.int .i64 (k : Nat))) (w.heap.size + 1) w.heap.size N (fun j => if j < k + 1 then j else 0)) := (HF.out.store k k).congr fun i hi => by
        unfold updN
        by_cases e : i = k
        · subst e; simp
        · have : (i < k + 1) = (i < k) := by apply propext; omega
          simp [e, this]
      go_wp2_with fail
      go_roundw
      case rel => exact ⟨k + 1, by omega, by go_num, HF1.out, hbel.setCell (Nat.le_refl _) _⟩
      case measure => simp [intOf]; omega
    · have HK : Hid (k = N) := by show k = N; omega
      go_wp2_with fail
      go_ret
      exact ⟨_, _, rfl, Nat.le_succ _, Nat.le_refl _, HF.out.congr (fun i hi => by have := HK.out; simp; omega), hbel⟩

def RetRt (Bt b N r : Nat) (rho : Nat → Nat) (w : World) (e : Ending) (w' : World) : Prop :=
  ∃ up, e = .returned (.int .i64 (r : Nat)) ∧ Fst w' Bt b N up ∧ RootOf N up rho ∧ But b w w'

theorem root_any (Bt b N i : Nat) (up rho : Nat → Nat) (w : World) (H : Fst w Bt b N up) (hR : RootOf N up rho) (hi : i < N) (hN : N ≤ 1000000) :
    Calls Try.prog 85 #[.pointer (some ⟨Bt, 0, none⟩), .int .i64 i] w (RetRt Bt b N (rho i) rho w) := by
  have HF := Lib.hid H
  have HR := Lib.hid hR
  clear H hR
  go_enter Try.func85, Try.ntmps85
  go_wp2_with fail
  go_loopw [1] (fun v wr => ∃ (j : Nat) (up : Nat → Nat), v = .int .i64 (j : Nat) ∧ j < N ∧ Hid (rho j = rho i) ∧ Hid (Fst wr Bt b N up) ∧ Hid (RootOf N up rho) ∧ But b w wr) (fun v _ => (intOf v).toNat)
  case atStart => exact ⟨i, up, rfl, hi, rfl, HF.out, HR.out, But.refl _ _⟩
  case round =>
    clear HF HR
    obtain ⟨j, up, rfl, hj, HE, HF, HR, hbut⟩ := hrel
    obtain ⟨h1, h2, _⟩ := HR.out j hj
    have x0 := cell_of_blk (i := 0) HF.out.box rfl
    have x1 := HF.out.row.cell hj
    by_cases hq : up j = j
    · have HV : Hid (rho j = j) := h2 hq
      rw [hq] at x1
      clear h1 h2 hq
      go_wp2_with fail
      go_ret
      exact ⟨up, ret_int (by rw [← HE.out, HV.out]), HF.out, HR.out, hbut⟩
    · have d1 : ((up j : Int) != (j : Int)) = true := by rw [bne_iff_ne]; omega
      obtain ⟨g1, g2, g3⟩ := HR.out.halve hj hq
      have x2 := HF.out.row.cell (show up j < N by omega)
      have x3 := HF.out.row.frozen j
      have HRN := Lib.hid g1
      have HE2 : Hid (rho (up (up j)) = rho i) := g2.trans HE.out
      have HFN : Hid (∀ n, Fst ((wr.drewN n).setCell ⟨b, j, none⟩ (.int .i64 (up (up j) : Nat))) Bt b N (updN up j (up (up j)))) := fun n => (HF.out.below (below_drewN (Below.refl _ _) n)).store j _
      have hn2 : up (up j) < N := by omega
      have hu1 : up j < N := by omega
      clear h1 h2 hq g1 g2
      generalize up (up j) = u2 at *
      generalize up j = u1 at *
      go_wp2_with fail
      refine wp_region_drew_tail 19 (by kernel_rfl) (by kernel_rfl) ?_
      simp only [List.take_succ_cons, List.take_zero, List.drop_succ_cons, List.drop_zero]
      repeat (go_big_quiet_step (fail))
      refine wpQuiet_nil ?_
      rintro _ ⟨nq, rfl⟩
      have HF4 := Lib.hid (HFN.out nq)
      go_upto_region 3 with (fail)
      have hbut4 : But b w ((wr.drewN nq).setCell ⟨b, j, none⟩ (.int .i64 (u2 : Nat))) := (hbut.drewN nq).setCell j _
      generalize World.setCell (wr.drewN nq) _ _ = w4 at *
      have y0 := cell_of_blk (i := 0) HF4.out.box rfl
      have y1 := HF4.out.row.cell hj
      rw [updN_at] at y1
      clear x0 x1 x2 x3 d1
      go_wp2_with fail
      go_roundw
      case rel => exact ⟨u2, _, rfl, hn2, HE2.out, HF4.out, HRN.out, hbut4⟩
      case measure => simp [intOf]; omega

def RetJn (Bt b N x y : Nat) (rho : Nat → Nat) (w : World) (e : Ending) (w' : World) : Prop :=
  ∃ up lo hi, e = .returned (.tuple #[]) ∧ ((lo = rho x ∧ hi = rho y) ∨ (hi = rho x ∧ lo = rho y)) ∧ Fst w' Bt b N up ∧ RootOf N up (joinR rho lo hi) ∧ But b w w'

theorem join_any (Bt b N x y : Nat) (up rho : Nat → Nat) (w : World) (H : Fst w Bt b N up) (hR : RootOf N up rho) (hx : x < N) (hy : y < N) (hN : N ≤ 1000000) :
    Calls Try.prog 83 #[.pointer (some ⟨Bt, 0, none⟩), .int .i64 x, .int .i64 y] w (RetJn Bt b N x y rho w) := by
  have HF := Lib.hid H
  have HR := Lib.hid hR
  have HX : Hid (rho x < N ∧ rho (rho x) = rho x) := ⟨by have := hR.root_le hx; omega, hR.root_root hx⟩
  have HY : Hid (rho y < N ∧ rho (rho y) = rho y) := ⟨by have := hR.root_le hy; omega, hR.root_root hy⟩
  clear H hR
  go_enter Try.func83, Try.ntmps83
  go_wp2_with fail
  refine (root_any _ _ _ _ _ _ _ HF.out HR.out hx hN).mono ?_
  rintro e w1 ⟨up1, rfl, hf, hr, hb1⟩
  have HF1 := Lib.hid hf
  have HR1 := Lib.hid hr
  clear hf hr HF HR
  go_wp2_with fail
  refine (root_any _ _ _ _ _ _ _ HF1.out HR1.out hy hN).mono ?_
  rintro e w2 ⟨up2, rfl, hf, hr, hb2⟩
  have HF2 := Lib.hid hf
  have HR2 := Lib.hid hr
  have hb12 := hb1.trans hb2
  have x0 := cell_of_blk (i := 0) hf.box rfl
  have HU := Lib.hid hf.row
  clear hf hr HF1 HR1
  obtain ⟨rx, hrx⟩ : ∃ rx, rx = rho x := ⟨_, rfl⟩
  obtain ⟨ry, hry⟩ : ∃ ry, ry = rho y := ⟨_, rfl⟩
  rw [← hrx] at HX ⊢
  rw [← hry] at HY ⊢
  have hx1 := HX.out.1
  have hy1 := HY.out.1
  have HEx := Lib.hid hrx
  have HEy := Lib.hid hry
  clear hrx hry
  by_cases hq : rx < ry
  · have d1 : decide (rx < ry) = true := decide_eq_true hq
    have x1 := HU.out.cell hy1
    have x2 := HU.out.frozen ry
    have HRj := Lib.hid (HR2.out.join (Nat.le_of_lt hq) hy1 HX.out.2 HY.out.2)
    go_wp2_with fail
    go_end0
    exact ⟨_, rx, ry, rfl, .inl ⟨HEx.out, HEy.out⟩, HF2.out.store ry rx, HRj.out, hb12.setCell _ _⟩
  · have d1 : decide (rx < ry) = false := decide_eq_false hq
    have x1 := HU.out.cell hx1
    have x2 := HU.out.frozen rx
    have HRj := Lib.hid (HR2.out.join (Nat.le_of_not_lt hq) hx1 HY.out.2 HX.out.2)
    go_wp2_with fail
    go_end0
    exact ⟨_, ry, rx, rfl, .inr ⟨HEx.out, HEy.out⟩, HF2.out.store rx ry, HRj.out, hb12.setCell _ _⟩

end Go.Proofs.Ytgekjhmjjjkibaa
