/- The regions of a level: what the program's function returns. -/
import Derived.Test.YtgekjhmjjjkibaaFst
import Derived.Test.YtgekjhmjjjkibaaITurn
import Derived.Test.YtgekjhmjjjkibaaPlL
namespace Go.Proofs.Ytgekjhmjjjkibaa
set_option linter.unusedVariables false
set_option linter.unusedSimpArgs false
open Go.RowKit

def RetRg (N c : Nat) (F : Nat → Int) (w : World) (e : Ending) (w' : World) : Prop :=
  ∃ q, e = .returned (.tuple #[.int .i64 (c : Nat), .slice (some ⟨q, 0, none⟩) N N]) ∧ w.heap.size ≤ q ∧ w'.rowIs q 3 N (fun i => .int .i64 (F i)) ∧ Below w.heap.size w w'

set_option maxHeartbeats 1500000 in
set_option maxRecDepth 100000 in
theorem regions_any (R C N b : Nat) (h : Nat → Int) (l : Int) (w : World) (hC1 : 1 ≤ C) (hR : R ≤ 1000) (hC : C ≤ 1000) (hN : Hid (N = R * C)) (hrow : Hid (w.rowIs b 3 N (fun i => .int .i64 (h i)))) :
    Calls Try.prog 60 #[.agg #[.int .i64 R, .int .i64 C, .slice (some ⟨b, 0, none⟩) N N], .int .i64 l] w (RetRg N (regN R C h l) (regV R C h l) w) := by
  have hN1 : N ≤ 1000000 := by rw [hN.out]; exact Nat.le_trans (Nat.mul_le_mul hR hC) (by decide)
  have HB := Lib.hid (Boxed.new (R := R) (C := C) hrow.out)
  have hbx := below_alloc w (.cells #[.int .i64 R, .int .i64 C, .slice (some ⟨b, 0, none⟩) N N] 49)
  have HMut : Hid (Mut N (nearL R C)) := by show Mut N _; rw [hN.out]; exact nearL_mut R C
  have HRN : Hid (regN R C h l = cnt (repB N (nearL R C) (fun x => l ≤ h x)) N) := by rw [hN.out]; rfl
  have HRV : Hid (∀ F, Nums N (nearL R C) (fun x => l ≤ h x) N F → ∀ i, i < N → F i = regV R C h l i) := fun F hF i hi => by
    rw [hF.done HMut.out hi, hN.out]; rfl
  have hmk := run_make_row' (P := Try.prog) 29 3 (.int .i64 0) 8 Try.underlying29 Try.infoI rfl .i64 .i64 N (by omega) (by omega)
  have x2 := cell_of_blk (i := 2) HB.out.box rfl
  go_enter Try.func60, Try.ntmps60
  go_wp2_with fail
  refine (newForest_any N _ hN1).mono ?_
  rintro e w2 ⟨Bt, bt, rfl, hB0, hb0, hf, hb2⟩
  have hlt1 : w.heap.size < (w.alloc (.cells #[.int .i64 R, .int .i64 C, .slice (some ⟨b, 0, none⟩) N N] 49)).heap.size := by simp
  clear x2
  generalize w.alloc _ = w1 at *
  have HF2 := Lib.hid hf
  have HB2 := HB.out.below hb2
  have y2 := cell_of_blk (i := 2) HB2.box rfl
  have HR2 := Lib.hid (RootOf.new (N := N))
  have HJ2 := Lib.hid (Joins.start (N := N) (near := nearL R C) (ok := fun x => l ≤ h x))
  clear hf HB2
  go_wp2_with fail
  clear y2
  go_loopw [23] (fun i wr => ∃ (k : Nat) (up rho : Nat → Nat), k ≤ N ∧ i = .int .i64 k ∧ Hid (Fst wr Bt bt N up) ∧ Hid (RootOf N up rho) ∧ Hid (Joins N (nearL R C) (fun x => l ≤ h x) rho k 0) ∧ Below w1.heap.size w1 wr) (fun i _ => N - (intOf i).toNat)
  case atStart => exact ⟨0, _, _, Nat.zero_le _, rfl, HF2.out, HR2.out, HJ2.out, hb2⟩
  case round =>
    clear HF2 HR2 HJ2 hb2
    obtain ⟨k, up, rho, hk, rfl, HF, HR, HJ, hbel⟩ := hrel
    by_cases hlt : k < N
    · have HB1 := HB.out.below hbel
      have x0 := cell_of_blk (i := 0) HB1.box rfl
      have x1 := cell_of_blk (i := 1) HB1.box rfl
      have x2 := cell_of_blk (i := 2) HB1.box rfl
      have hck := HB1.row.cell hlt
      have HI : Hid (k < R * C) := by show k < R * C; rw [← hN.out]; exact hlt
      have HMem : Hid (∀ q, q < (nearL R C k).length → (nearL R C k).getD q 0 < N) := fun q hq => by rw [hN.out]; exact nearL_lt HI.out (getD_mem hq)
      have hl4 := nearL_len R C k
      have HPass : Hid (∀ (rho : Nat → Nat) m, Joins N (nearL R C) (fun x => l ≤ h x) rho k m → ¬ (l ≤ h k ∧ l ≤ h ((nearL R C k).getD m 0)) → Joins N (nearL R C) (fun x => l ≤ h x) rho k (m + 1)) := fun _ _ H hh => H.pass hh
      have HJoin : Hid (∀ (rho : Nat → Nat) m lo top, Joins N (nearL R C) (fun x => l ≤ h x) rho k m → m < (nearL R C k).length → l ≤ h k → l ≤ h ((nearL R C k).getD m 0) → ((lo = rho k ∧ top = rho ((nearL R C k).getD m 0)) ∨ (top = rho k ∧ lo = rho ((nearL R C k).getD m 0))) → Joins N (nearL R C) (fun x => l ≤ h x) (joinR rho lo top) k (m + 1)) := fun _ _ _ _ H hm h1 h2 hh => H.join HMut.out hlt hm h1 h2 hh
      have HNext : Hid (∀ (rho : Nat → Nat), Joins N (nearL R C) (fun x => l ≤ h x) rho k (nearL R C k).length → Joins N (nearL R C) (fun x => l ≤ h x) rho (k + 1) 0) := fun _ H => H.next
      clear HB1
      go_wp2_with fail
      refine (neighbors_any R C N b k _ hC1 hR hC HI.out).mono ?_
      rintro e w3 ⟨v, rfl, hown, hb3⟩
      obtain ⟨Av, cv, rfl⟩ := hown.slice
      have HO := Lib.hid hown
      have HF3 := Lib.hid (HF.out.below hb3)
      have HBtLo : Hid (bt < wr.heap.size) := HF.out.row.lt
      have hbel3 := hbel.trans (hb3.mono hbel.size)
      obtain ⟨lo2, hlo2⟩ : ∃ x, x = wr.heap.size := ⟨_, rfl⟩
      rw [← hlo2] at HO HBtLo
      clear hown x0 x1 x2 hck hb3 HF hbel hlo2
      generalize hll : nearL R C k = ll at *
      clear hll
      go_wp2_with fail
      go_loopw [32] (fun q wi => ∃ (m : Nat) (up rho : Nat → Nat), m ≤ ll.length ∧ q = .int .i64 m ∧ Hid (Fst wi Bt bt N up) ∧ Hid (RootOf N up rho) ∧ Hid (Joins N (nearL R C) (fun x => l ≤ h x) rho k m) ∧ Hid (OwnL wi lo2 (.slice Av ll.length cv) ll) ∧ Below w1.heap.size w1 wi) (fun q _ => ll.length - (intOf q).toNat)
      case atStart => exact ⟨0, up, rho, Nat.zero_le _, rfl, HF3.out, HR.out, HJ.out, HO.out, hbel3⟩
      case round =>
        clear HF3 HR HJ HO hbel3
        obtain ⟨m, up, rho, hm, rfl, HF, HR, HJ, HO, hbi⟩ := hrel
        by_cases hlt2 : m < ll.length
        · obtain ⟨bl, rfl, hce⟩ := HO.out.at_ hlt2
          have hjN := HMem.out m hlt2
          have HB1 := HB.out.below hbi
          have x2 := cell_of_blk (i := 2) HB1.box rfl
          have hcj := HB1.row.cell hjN
          have HP1 := Lib.hid (HPass.out rho m HJ.out)
          have HJ1 := Lib.hid (fun lo top => HJoin.out rho m lo top HJ.out hlt2)
          generalize ll.getD m 0 = j at *
          clear HB1
          by_cases q1 : l ≤ h k
          · by_cases q2 : l ≤ h j
            · go_wp2_with fail
              refine (join_any _ _ _ _ _ _ _ _ HF.out HR.out hlt hjN hN1).mono ?_
              rintro e w4 ⟨up4, lo, top, rfl, hlt4, hf, hr, hb4⟩
              have HF4 := Lib.hid hf
              have HR4 := Lib.hid hr
              have HJ4 := Lib.hid (HJ1.out lo top q1 q2 hlt4)
              have HO4 : Hid (OwnL w4 lo2 (.slice (some ⟨bl, 0, none⟩) ll.length cv) ll) := OwnS.of_but HO.out.s hb4 HBtLo.out
              have hbi4 := hbi.trans (hb4.below hbi.size hb0)
              clear hf hr hlt4 hcj hce x2
              go_wp2_with fail
              go_roundw
              case rel => exact ⟨m + 1, _, _, by omega, by go_num, HF4.out, HR4.out, HJ4.out, HO4.out, hbi4⟩
              case measure => simp [intOf]; omega
            · have HP2 := Lib.hid (HP1.out (fun hh => q2 hh.2))
              go_wp2_with fail
              go_roundw
              case rel => exact ⟨m + 1, _, _, by omega, by go_num, HF.out, HR.out, HP2.out, HO.out, hbi⟩
              case measure => simp [intOf]; omega
          · have HP2 := Lib.hid (HP1.out (fun hh => q1 hh.1))
            go_wp2_with fail
            go_roundw
            case rel => exact ⟨m + 1, _, _, by omega, by go_num, HF.out, HR.out, HP2.out, HO.out, hbi⟩
            case measure => simp [intOf]; omega
        · have HM : Hid (m = ll.length) := by show m = ll.length; omega
          go_wp2_with fail
          go_roundw
          case rel => exact ⟨k + 1, _, _, by omega, by go_num, HF.out, HR.out, HNext.out rho (by rw [← HM.out]; exact HJ.out), hbi⟩
          case measure => simp [intOf]; omega
    · obtain rfl : k = N := by omega
      have HB1 := HB.out.below hbel
      have x2 := cell_of_blk (i := 2) HB1.box rfl
      clear HB1
      have HRow : Hid ((wr.alloc (.cells (madeCells #[.int .i64 0] k) 3)).rowIs wr.heap.size 3 k (fun _ => .int .i64 0)) := World.rowIs_made wr _ k 3
      have HF0 := Lib.hid (HF.out.below (below_alloc wr (.cells (madeCells #[.int .i64 0] k) 3)))
      have hb0' := hbel.trans ((below_alloc wr (.cells (madeCells #[.int .i64 0] k) 3)).mono hbel.size)
      have hbq : bt ≠ wr.heap.size := by have := HF.out.row.lt; omega
      have hqlo : w1.heap.size ≤ wr.heap.size := hbel.size
      have y2 := cell_of_blk (i := 2) (HB.out.below hb0').box rfl
      have HNum : Hid (Nums k (nearL R C) (fun x => l ≤ h x) 0 (fun _ => 0)) := fun x hx => absurd hx (Nat.not_lt_zero x)
      clear HF
      go_wp2_with fail
      clear x2 y2 hmk
      generalize wr.alloc _ = w5 at *
      generalize wr.heap.size = q at *
      go_loopw [11, 61] (fun cv i wi => ∃ (m : Nat) (up : Nat → Nat) (F : Nat → Int), m ≤ k ∧ i = .int .i64 m ∧ cv = .int .i64 ((cnt (repB k (nearL R C) (fun x => l ≤ h x)) m : Nat)) ∧ Hid (Fst wi Bt bt k up) ∧ Hid (RootOf k up rho) ∧ Hid (wi.rowIs q 3 k (fun i => .int .i64 (F i))) ∧ Hid (Nums k (nearL R C) (fun x => l ≤ h x) m F) ∧ Below w1.heap.size w1 wi) (fun _ i _ => k - (intOf i).toNat)
      case atStart => exact ⟨0, up, _, Nat.zero_le _, rfl, rfl, HF0.out, HR.out, HRow.out, HNum.out, hb0'⟩
      case round =>
        clear HF0 HR HRow HNum hb0'
        obtain ⟨m, up, F, hm, rfl, rfl, HF, HR, HRow, HNum, hbi⟩ := hrel
        have hcn := cnt_le (repB k (nearL R C) (fun x => l ≤ h x)) m
        by_cases hlt : m < k
        · have HB1 := HB.out.below hbi
          have x2 := cell_of_blk (i := 2) HB1.box rfl
          have hcm := HB1.row.cell hlt
          clear HB1
          go_wp2_with fail
          refine (root_any _ _ _ _ _ _ _ HF.out HR.out hlt hN1).mono ?_
          rintro e w6 ⟨up6, rfl, hf, hr, hb6⟩
          have HF6 := Lib.hid hf
          have HR6 := Lib.hid hr
          have HRow6 : Hid (w6.rowIs q 3 k (fun i => .int .i64 (F i))) := HRow.out.of_block (hb6.block q HRow.out.lt (Ne.symm hbq))
          have hbi6 := hbi.trans (hb6.below hbi.size hb0)
          have hrho := HR.out.root_le hlt
          have hc1 := HRow6.out.cell hlt
          have hf1 := HRow6.out.frozen m
          have hc2 := HRow6.out.cell (show rho m < k by omega)
          have HRp := Lib.hid (HJ.out.rep HR.out hlt)
          have HRt := Lib.hid (HJ.out.root HR.out hlt)
          have HFst : ∀ x : Int, Hid (Fst (w6.setCell ⟨q, m, none⟩ (.int .i64 x)) Bt bt k up6) := fun x => ⟨(Below.heap_setCell _ _ _ _ (fun e => by
            have h1 := hf.box
            obtain ⟨cs, h2, _⟩ := HRow6.out
            rw [show Bt = q from e, h2] at h1
            injection h1 with h1
            injection h1 with _ h1
            exact absurd h1 (by decide))).trans hf.box, hf.row.setOther hbq _⟩
          have HSet : ∀ x : Int, Hid ((w6.setCell ⟨q, m, none⟩ (.int .i64 x)).rowIs q 3 k (fun i => .int .i64 (upd F m x i))) := fun x => (HRow6.out.set m _).congr fun i hi => by
            unfold upd
            by_cases e : i = m
            · simp [e]
            · simp [e]
          have hbs : ∀ x : Int, Below w1.heap.size w1 (w6.setCell ⟨q, m, none⟩ (.int .i64 x)) := fun x => hbi6.setCell hqlo _
          clear hf hr hb6 HF
          by_cases q1 : l ≤ h m
          · by_cases q2 : rho m = m
            · have d1 : ((rho m : Int) == (m : Int)) = true := beq_iff_eq.2 (by omega)
              obtain ⟨n1, n2⟩ := Nums.new HNum.out (HRp.out.2 ⟨q1, q2⟩) (num' := upd F m (cnt (repB k (nearL R C) (fun x => l ≤ h x)) m : Nat)) (fun x hx => upd_ne _ _ (by omega)) (upd_at _ _ _)
              have N1 := Lib.hid n1
              have N2 := Lib.hid n2
              have HFx := HFst (cnt (repB k (nearL R C) (fun x => l ≤ h x)) m : Nat)
              have HSx := HSet (cnt (repB k (nearL R C) (fun x => l ≤ h x)) m : Nat)
              have hbx := hbs (cnt (repB k (nearL R C) (fun x => l ≤ h x)) m : Nat)
              clear n1 n2 q2 hc2 HFst HSet hbs
              go_wp2_with fail
              go_roundw
              case rel => exact ⟨m + 1, up6, _, by omega, by go_num, val_int (by rw [N2.out]; omega), HFx.out, HR6.out, HSx.out, N1.out, hbx⟩
              case measure => simp [intOf]; omega
            · have d1 : ((rho m : Int) == (m : Int)) = false := beq_eq_false_iff_ne.2 (by omega)
              obtain ⟨r1, r2⟩ := HRt.out q1
              obtain ⟨n1, n2⟩ := Nums.old HMut.out HNum.out q1 (show rho m < m by omega) r1 r2 (num' := upd F m (F (rho m))) (fun x hx => upd_ne _ _ (by omega)) (upd_at _ _ _)
              have N1 := Lib.hid n1
              have N2 := Lib.hid n2
              have HFx := HFst (F (rho m))
              have HSx := HSet (F (rho m))
              have hbx := hbs (F (rho m))
              have hrk : rho m < k := by omega
              clear n1 n2 q2 r1 r2 HFst HSet hbs
              go_wp2_with fail
              go_roundw
              case rel => exact ⟨m + 1, up6, _, by omega, by go_num, val_int (by rw [N2.out]), HFx.out, HR6.out, HSx.out, N1.out, hbx⟩
              case measure => simp [intOf]; omega
          · obtain ⟨n1, n2⟩ := Nums.water HNum.out q1 (num' := upd F m (-1)) (fun x hx => upd_ne _ _ (by omega)) (upd_at _ _ _)
            have N1 := Lib.hid n1
            have N2 := Lib.hid n2
            have HFx := HFst (-1)
            have HSx := HSet (-1)
            have hbx := hbs (-1)
            clear n1 n2 hc2 HFst HSet hbs
            go_wp2_with fail
            go_roundw
            case rel => exact ⟨m + 1, up6, _, by omega, by go_num, val_int (by rw [N2.out]), HFx.out, HR6.out, HSx.out, N1.out, hbx⟩
            case measure => simp [intOf]; omega
        · obtain rfl : m = k := by omega
          have HE := Lib.hid (HRV.out F HNum.out)
          clear HNum
          go_wp2_with fail
          go_ret2
          exact ⟨q, by rw [HRN.out]; rfl, by omega, HRow.out.congr (fun i hi => by rw [HE.out i hi]), hbx.trans (hbi.mono (by omega))⟩

end Go.Proofs.Ytgekjhmjjjkibaa
