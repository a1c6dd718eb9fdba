/- Lakes: what the program's function returns. -/
import Derived.Test.YtgekjhmjjjkibaaFst
import Derived.Test.YtgekjhmjjjkibaaArn
import Derived.Test.YtgekjhmjjjkibaaFil
namespace Go.Proofs.Ytgekjhmjjjkibaa
set_option linter.unusedVariables false
set_option linter.unusedSimpArgs false
open Go.RowKit

noncomputable def lakesV (R C : Nat) (h : Nat → Int) (l : Int) : Nat := cnt (lakB (R * C) (aroundL R C) (fun x => h x < l) (brd R C)) (R * C)

theorem Try.infoBo : (Try.prog.info? 4).map (fun i => (i.zero, i.size, i.bytes)) = some (some (.bool false), 1, 1) := by kernel_rfl

/-- Which roots a cell of the border has. -/
def Opn (k : Nat) (bd : Nat → Bool) (rho : Nat → Nat) (op : Nat → Bool) : Prop := ∀ j, op j = true ↔ ∃ y, y < k ∧ bd y = true ∧ rho y = j
theorem Opn.yes {k : Nat} {bd : Nat → Bool} {rho : Nat → Nat} {op : Nat → Bool} (h : Opn k bd rho op) (hb : bd k = true) : Opn (k + 1) bd rho (setB op (rho k)) := fun j => by
  constructor
  · intro e
    rcases of_setB e with e | e
    · exact ⟨k, by omega, hb, e.symm⟩
    · obtain ⟨y, h1, h2, h3⟩ := (h j).1 e
      exact ⟨y, by omega, h2, h3⟩
  · rintro ⟨y, h1, h2, h3⟩
    by_cases e : y = k
    · subst e; rw [← h3]; exact setB_at _ _
    · exact setB_of ((h j).2 ⟨y, by omega, h2, h3⟩)
theorem Opn.no {k : Nat} {bd : Nat → Bool} {rho : Nat → Nat} {op : Nat → Bool} (h : Opn k bd rho op) (hb : bd k = false) : Opn (k + 1) bd rho op := fun j => by
  rw [h j]
  constructor
  · rintro ⟨y, h1, h2, h3⟩; exact ⟨y, by omega, h2, h3⟩
  · rintro ⟨y, h1, h2, h3⟩
    by_cases e : y = k
    · subst e; rw [hb] at h2; cases h2
    · exact ⟨y, by omega, h2, h3⟩

set_option maxHeartbeats 1500000 in
set_option maxRecDepth 100000 in
theorem lakes_any (R C N b : Nat) (h : Nat → Int) (l : Int) (w : World) (hR1 : 1 ≤ R) (hC1 : 1 ≤ C) (hR : R ≤ 1000) (hC : C ≤ 1000) (hN : Hid (N = R * C)) (hrow : Hid (w.rowIs b 3 N (fun i => .int .i64 (h i)))) :
    Calls Try.prog 58 #[.agg #[.int .i64 R, .int .i64 C, .slice (some ⟨b, 0, none⟩) N N], .int .i64 l] w (RetV (.int .i64 (lakesV R C h l : Nat)) w) := by
  have hN1 : N ≤ 1000000 := by rw [hN.out]; exact Nat.le_trans (Nat.mul_le_mul hR hC) (by decide)
  have HB := Lib.hid (Boxed.new (R := R) (C := C) hrow.out)
  have hbx := below_alloc w (.cells #[.int .i64 R, .int .i64 C, .slice (some ⟨b, 0, none⟩) N N] 49)
  have HMut : Hid (Mut N (aroundL R C)) := by show Mut N _; rw [hN.out]; exact around_mut R C
  have HLV : Hid (lakesV R C h l = cnt (lakB N (aroundL R C) (fun x => h x < l) (brd R C)) N) := by rw [hN.out]; rfl
  have hmk := run_make_row' (P := Try.prog) 46 4 (.bool false) 1 Try.underlying46 Try.infoBo rfl .i64 .i64 N (by omega) (by omega)
  have x2 := cell_of_blk (i := 2) HB.out.box rfl
  go_enter Try.func58, Try.ntmps58
  go_wp2_with fail
  refine (newForest_any N _ hN1).mono ?_
  rintro e w2 ⟨Bt, bt, rfl, hB0, hb0, hf, hb2⟩
  clear x2
  generalize w.alloc _ = w1 at *
  have HF2 := Lib.hid hf
  have HB2 := HB.out.below hb2
  have y2 := cell_of_blk (i := 2) HB2.box rfl
  have HR2 := Lib.hid (RootOf.new (N := N))
  have HJ2 := Lib.hid (Joins.start (N := N) (near := aroundL R C) (ok := fun x => h x < l))
  clear hf HB2
  go_wp2_with fail
  clear y2
  go_loopw [22] (fun i wr => ∃ (k : Nat) (up rho : Nat → Nat), k ≤ N ∧ i = .int .i64 k ∧ Hid (Fst wr Bt bt N up) ∧ Hid (RootOf N up rho) ∧ Hid (Joins N (aroundL R C) (fun x => h x < l) rho k 0) ∧ Below w1.heap.size w1 wr) (fun i _ => N - (intOf i).toNat)
  case atStart => exact ⟨0, _, _, Nat.zero_le _, rfl, HF2.out, HR2.out, HJ2.out, hb2⟩
  case round =>
    clear HF2 HR2 HJ2 hb2
    obtain ⟨k, up, rho, hk, rfl, HF, HR, HJ, hbel⟩ := hrel
    by_cases hlt : k < N
    · have HB1 := HB.out.below hbel
      have x0 := cell_of_blk (i := 0) HB1.box rfl
      have x1 := cell_of_blk (i := 1) HB1.box rfl
      have x2 := cell_of_blk (i := 2) HB1.box rfl
      have hck := HB1.row.cell hlt
      have HI : Hid (k < R * C) := by show k < R * C; rw [← hN.out]; exact hlt
      have HMem : Hid (∀ q, q < (aroundL R C k).length → (aroundL R C k).getD q 0 < N) := fun q hq => (HMut.out k _ hlt (getD_mem hq)).1
      have hl4 := aroundL_len R C k
      have HPass : Hid (∀ (rho : Nat → Nat) m, Joins N (aroundL R C) (fun x => h x < l) rho k m → ¬ (h k < l ∧ h ((aroundL R C k).getD m 0) < l) → Joins N (aroundL R C) (fun x => h x < l) rho k (m + 1)) := fun _ _ H hh => H.pass hh
      have HJoin : Hid (∀ (rho : Nat → Nat) m lo top, Joins N (aroundL R C) (fun x => h x < l) rho k m → m < (aroundL R C k).length → h k < l → h ((aroundL R C k).getD m 0) < l → ((lo = rho k ∧ top = rho ((aroundL R C k).getD m 0)) ∨ (top = rho k ∧ lo = rho ((aroundL R C k).getD m 0))) → Joins N (aroundL R C) (fun x => h x < l) (joinR rho lo top) k (m + 1)) := fun _ _ _ _ H hm h1 h2 hh => H.join HMut.out hlt hm h1 h2 hh
      have HNext : Hid (∀ (rho : Nat → Nat), Joins N (aroundL R C) (fun x => h x < l) rho k (aroundL R C k).length → Joins N (aroundL R C) (fun x => h x < l) rho (k + 1) 0) := fun _ H => H.next
      clear HB1
      go_wp2_with fail
      refine (around_any R C N b k _ hC1 hR hC HI.out).mono ?_
      rintro e w3 ⟨v, rfl, hown, hb3⟩
      obtain ⟨Av, cv, rfl⟩ := hown.slice
      have HO := Lib.hid hown
      have HF3 := Lib.hid (HF.out.below hb3)
      have HBtLo : Hid (bt < wr.heap.size) := HF.out.row.lt
      have hbel3 := hbel.trans (hb3.mono hbel.size)
      obtain ⟨lo2, hlo2⟩ : ∃ x, x = wr.heap.size := ⟨_, rfl⟩
      rw [← hlo2] at HO HBtLo
      clear hown x0 x1 x2 hck hb3 HF hbel hlo2
      generalize hll : aroundL R C k = ll at *
      clear hll
      go_wp2_with fail
      go_loopw [31] (fun q wi => ∃ (m : Nat) (up rho : Nat → Nat), m ≤ ll.length ∧ q = .int .i64 m ∧ Hid (Fst wi Bt bt N up) ∧ Hid (RootOf N up rho) ∧ Hid (Joins N (aroundL R C) (fun x => h x < l) rho k m) ∧ Hid (OwnL wi lo2 (.slice Av ll.length cv) ll) ∧ Below w1.heap.size w1 wi) (fun q _ => ll.length - (intOf q).toNat)
      case atStart => exact ⟨0, up, rho, Nat.zero_le _, rfl, HF3.out, HR.out, HJ.out, HO.out, hbel3⟩
      case round =>
        clear HF3 HR HJ HO hbel3
        obtain ⟨m, up, rho, hm, rfl, HF, HR, HJ, HO, hbi⟩ := hrel
        by_cases hlt2 : m < ll.length
        · obtain ⟨bl, rfl, hce⟩ := HO.out.at_ hlt2
          have hjN := HMem.out m hlt2
          have HB1 := HB.out.below hbi
          have x2 := cell_of_blk (i := 2) HB1.box rfl
          have hcj := HB1.row.cell hjN
          have HP1 := Lib.hid (HPass.out rho m HJ.out)
          have HJ1 := Lib.hid (fun lo top => HJoin.out rho m lo top HJ.out hlt2)
          generalize ll.getD m 0 = j at *
          clear HB1
          by_cases q1 : h k < l
          · have d1 : decide (h k < l) = true := decide_eq_true q1
            by_cases q2 : h j < l
            · have d2 : decide (h j < l) = true := decide_eq_true q2
              go_wp2_with fail
              refine (join_any _ _ _ _ _ _ _ _ HF.out HR.out hlt hjN hN1).mono ?_
              rintro e w4 ⟨up4, lo, top, rfl, hlt4, hf, hr, hb4⟩
              have HF4 := Lib.hid hf
              have HR4 := Lib.hid hr
              have HJ4 := Lib.hid (HJ1.out lo top q1 q2 hlt4)
              have HO4 : Hid (OwnL w4 lo2 (.slice (some ⟨bl, 0, none⟩) ll.length cv) ll) := OwnS.of_but HO.out.s hb4 HBtLo.out
              have hbi4 := hbi.trans (hb4.below hbi.size hb0)
              clear hf hr hlt4 hcj hce x2
              go_wp2_with fail
              go_roundw
              case rel => exact ⟨m + 1, _, _, by omega, by go_num, HF4.out, HR4.out, HJ4.out, HO4.out, hbi4⟩
              case measure => simp [intOf]; omega
            · have d2 : decide (h j < l) = false := decide_eq_false q2
              have HP2 := Lib.hid (HP1.out (fun hh => q2 hh.2))
              go_wp2_with fail
              go_roundw
              case rel => exact ⟨m + 1, _, _, by omega, by go_num, HF.out, HR.out, HP2.out, HO.out, hbi⟩
              case measure => simp [intOf]; omega
          · have d1 : decide (h k < l) = false := decide_eq_false q1
            have HP2 := Lib.hid (HP1.out (fun hh => q1 hh.1))
            go_wp2_with fail
            go_roundw
            case rel => exact ⟨m + 1, _, _, by omega, by go_num, HF.out, HR.out, HP2.out, HO.out, hbi⟩
            case measure => simp [intOf]; omega
        · have HM : Hid (m = ll.length) := by show m = ll.length; omega
          go_wp2_with fail
          go_roundw
          case rel => exact ⟨k + 1, _, _, by omega, by go_num, HF.out, HR.out, HNext.out rho (by rw [← HM.out]; exact HJ.out), hbi⟩
          case measure => simp [intOf]; omega
    · obtain rfl : k = N := by omega
      have HB1 := HB.out.below hbel
      have x2 := cell_of_blk (i := 2) HB1.box rfl
      clear HB1
      have HRow : Hid ((wr.alloc (.cells (madeCells #[.bool false] k) 4)).rowIs wr.heap.size 4 k (fun _ => .bool false)) := World.rowIs_made wr _ k 4
      have HF0 := Lib.hid (HF.out.below (below_alloc wr (.cells (madeCells #[.bool false] k) 4)))
      have hb0' := hbel.trans ((below_alloc wr (.cells (madeCells #[.bool false] k) 4)).mono hbel.size)
      have hbq : bt ≠ wr.heap.size := by have := HF.out.row.lt; omega
      have hqlo : w1.heap.size ≤ wr.heap.size := hbel.size
      have y2 := cell_of_blk (i := 2) (HB.out.below hb0').box rfl
      have HOp : Hid (Opn 0 (brd R C) rho (fun _ => false)) := fun j => ⟨fun e => (by cases e), fun ⟨y, h1, _⟩ => absurd h1 (Nat.not_lt_zero y)⟩
      clear HF
      go_wp2_with fail
      clear x2 y2 hmk
      generalize wr.alloc _ = w5 at *
      generalize wr.heap.size = q at *
      go_loopw [60] (fun i wi => ∃ (m : Nat) (up : Nat → Nat) (op : Nat → Bool), m ≤ k ∧ i = .int .i64 m ∧ Hid (Fst wi Bt bt k up) ∧ Hid (RootOf k up rho) ∧ Hid (wi.rowIs q 4 k (fun i => .bool (op i))) ∧ Hid (Opn m (brd R C) rho op) ∧ Below w1.heap.size w1 wi) (fun i _ => k - (intOf i).toNat)
      case atStart => exact ⟨0, up, _, Nat.zero_le _, rfl, HF0.out, HR.out, HRow.out, HOp.out, hb0'⟩
      case round =>
        clear HF0 HR HRow HOp hb0'
        obtain ⟨m, up, op, hm, rfl, HF, HR, HRow, HOp, hbi⟩ := hrel
        by_cases hlt : m < k
        · have HB1 := HB.out.below hbi
          have x0 := cell_of_blk (i := 0) HB1.box rfl
          have x1 := cell_of_blk (i := 1) HB1.box rfl
          have x2 := cell_of_blk (i := 2) HB1.box rfl
          have HI : Hid (m < R * C) := by show m < R * C; rw [← hN.out]; exact hlt
          clear HB1
          go_wp2_with fail
          refine (border_any R C k b m _ hR1 hC1 hR hC HI).mono ?_
          rintro e w6 ⟨rfl, hb6⟩
          have HF6 := Lib.hid (HF.out.below hb6)
          have HRow6 := Lib.hid (rowIs_kept HRow.out hb6)
          have hbi6 := hbi.trans (hb6.mono hbi.size)
          clear HF HRow
          by_cases hbr : brd R C m = true
          · rw [hbr]
            have HO1 := Lib.hid (HOp.out.yes hbr)
            have hrho : rho m < k := by have := HR.out.root_le hlt; omega
            clear x0 x1 x2
            go_wp2_with fail
            refine (root_any _ _ _ _ _ _ _ HF6.out HR.out hlt hN1).mono ?_
            rintro e w7 ⟨up7, rfl, hf, hr, hb7⟩
            have HR7 := Lib.hid hr
            have HRow7 : Hid (w7.rowIs q 4 k (fun i => .bool (op i))) := HRow6.out.of_block (hb7.block q HRow6.out.lt (Ne.symm hbq))
            have hbi7 := hbi6.trans (hb7.below hbi6.size hb0)
            have hc1 := HRow7.out.cell hrho
            have hf1 := HRow7.out.frozen (rho m)
            have HF8 : Hid (Fst (w7.setCell ⟨q, rho m, none⟩ (.bool true)) Bt bt k up7) := ⟨(Below.heap_setCell _ _ _ _ (fun e => by
              have h1 := hf.box
              obtain ⟨cs, h2, _⟩ := HRow7.out
              rw [show Bt = q from e, h2] at h1
              injection h1 with h1
              injection h1 with _ h1
              exact absurd h1 (by decide))).trans hf.box, hf.row.setOther hbq _⟩
            have HRow8 : Hid ((w7.setCell ⟨q, rho m, none⟩ (.bool true)).rowIs q 4 k (fun i => .bool (setB op (rho m) i))) := (HRow7.out.set (rho m) _).congr fun i hi => by
              unfold setB
              by_cases e : i = rho m
              · simp [e]
              · simp [e]
            have hbi8 : Below w1.heap.size w1 (w7.setCell ⟨q, rho m, none⟩ (.bool true)) := hbi7.setCell hqlo _
            clear hf hr hb7
            go_wp2_with fail
            go_roundw
            case rel => exact ⟨m + 1, up7, _, by omega, by go_num, HF8.out, HR7.out, HRow8.out, HO1.out, hbi8⟩
            case measure => simp [intOf]; omega
          · have hbr' : brd R C m = false := by simpa using hbr
            rw [hbr']
            have HO1 := Lib.hid (HOp.out.no hbr')
            clear hbr hbr' x0 x1 x2
            go_wp2_with fail
            go_roundw
            case rel => exact ⟨m + 1, up, op, by omega, by go_num, HF6.out, HR.out, HRow6.out, HO1.out, hbi6⟩
            case measure => simp [intOf]; omega
        · obtain rfl : m = k := by omega
          have HB1 := HB.out.below hbi
          have x2 := cell_of_blk (i := 2) HB1.box rfl
          clear HB1
          have HLk : Hid (∀ i, i < m → lakB m (aroundL R C) (fun x => h x < l) (brd R C) i = (decide (h i < l) && (decide (rho i = i) && !op i))) := fun i hi => by
            rw [Bool.eq_iff_iff, lakB_iff, HJ.out.rep HR.out hi]
            simp only [Bool.and_eq_true, decide_eq_true_eq, Bool.not_eq_true']
            constructor
            · rintro ⟨⟨h1, h2⟩, h3⟩
              refine ⟨h1, h2, ?_⟩
              cases e : op i
              · rfl
              · exact absurd ((HJ.out.tch HR.out hi h1 h2).2 ((HOp.out i).1 e)) h3
            · rintro ⟨h1, h2, h3⟩
              refine ⟨⟨h1, h2⟩, fun ht => ?_⟩
              have := (HOp.out i).2 ((HJ.out.tch HR.out hi h1 h2).1 ht)
              rw [h3] at this; cases this
          clear HOp HJ
          go_wp2_with fail
          clear x2
          go_loopw [12, 75] (fun cv i wi => ∃ (p : Nat) (up : Nat → Nat), p ≤ m ∧ i = .int .i64 p ∧ cv = .int .i64 ((cnt (lakB m (aroundL R C) (fun x => h x < l) (brd R C)) p : Nat)) ∧ Hid (Fst wi Bt bt m up) ∧ Hid (RootOf m up rho) ∧ Hid (wi.rowIs q 4 m (fun i => .bool (op i))) ∧ Below w1.heap.size w1 wi) (fun _ i _ => m - (intOf i).toNat)
          case atStart => exact ⟨0, up, Nat.zero_le _, rfl, rfl, HF.out, HR.out, HRow.out, hbi⟩
          case round =>
            clear HF HR HRow hbi
            obtain ⟨p, up, hp, rfl, rfl, HF, HR, HRow, hbi⟩ := hrel
            have hcn := cnt_le (lakB m (aroundL R C) (fun x => h x < l) (brd R C)) p
            by_cases hlt : p < m
            · have HB1 := HB.out.below hbi
              have x2 := cell_of_blk (i := 2) HB1.box rfl
              have hcp := HB1.row.cell hlt
              clear HB1
              have HCn : Hid (cnt (lakB m (aroundL R C) (fun x => h x < l) (brd R C)) (p + 1) = cnt (lakB m (aroundL R C) (fun x => h x < l) (brd R C)) p + if (decide (h p < l) && (decide (rho p = p) && !op p)) then 1 else 0) := by
                show _ = _
                rw [← HLk.out p hlt]; rfl
              generalize cnt (lakB m (aroundL R C) (fun x => h x < l) (brd R C)) p = cp at *
              by_cases q1 : h p < l
              · have d1 : decide (h p < l) = true := decide_eq_true q1
                rw [d1, Bool.true_and] at HCn
                go_wp2_with fail
                refine (root_any _ _ _ _ _ _ _ HF.out HR.out hlt hN1).mono ?_
                rintro e w6 ⟨up6, rfl, hf, hr, hb6⟩
                have HF6 := Lib.hid hf
                have HR6 := Lib.hid hr
                have HRow6 : Hid (w6.rowIs q 4 m (fun i => .bool (op i))) := HRow.out.of_block (hb6.block q HRow.out.lt (Ne.symm hbq))
                have hbi6 := hbi.trans (hb6.below hbi.size hb0)
                have hc1 := HRow6.out.cell hlt
                clear hf hr hb6 HF
                by_cases q2 : rho p = p
                · have d2 : ((rho p : Int) == (p : Int)) = true := beq_iff_eq.2 (by omega)
                  rw [decide_eq_true q2, Bool.true_and] at HCn
                  clear q2
                  cases hop : op p
                  · rw [hop] at hc1 HCn
                    clear hop
                    go_wp2_with fail
                    go_roundw
                    case rel => exact ⟨p + 1, up6, by omega, by go_num, val_int (by rw [HCn.out]; simp), HF6.out, HR6.out, HRow6.out, hbi6⟩
                    case measure => simp [intOf]; omega
                  · rw [hop] at hc1 HCn
                    clear hop
                    go_wp2_with fail
                    go_roundw
                    case rel => exact ⟨p + 1, up6, by omega, by go_num, val_int (by rw [HCn.out]; simp), HF6.out, HR6.out, HRow6.out, hbi6⟩
                    case measure => simp [intOf]; omega
                · have d2 : ((rho p : Int) == (p : Int)) = false := beq_eq_false_iff_ne.2 (by omega)
                  rw [decide_eq_false q2, Bool.false_and] at HCn
                  clear q2 hc1
                  go_wp2_with fail
                  go_roundw
                  case rel => exact ⟨p + 1, up6, by omega, by go_num, val_int (by rw [HCn.out]; simp), HF6.out, HR6.out, HRow6.out, hbi6⟩
                  case measure => simp [intOf]; omega
              · have d1 : decide (h p < l) = false := decide_eq_false q1
                rw [d1, Bool.false_and] at HCn
                go_wp2_with fail
                go_roundw
                case rel => exact ⟨p + 1, up, by omega, by go_num, val_int (by rw [HCn.out]; simp), HF.out, HR.out, HRow.out, hbi⟩
                case measure => simp [intOf]; omega
            · obtain rfl : p = m := by omega
              go_wp2_with fail
              go_ret
              exact ⟨ret_int (by rw [HLV.out]), hbx.trans (hbi.mono hbx.size)⟩

end Go.Proofs.Ytgekjhmjjjkibaa
