/- The border, and the drained field: what the program's functions return. -/
import Derived.Test.YthndabbjkkjkhaaNear
import Derived.Test.YthndabbjkkjkhaaITurn
import Derived.Test.YthndabbjkkjkhaaPlF
namespace Go.Proofs.Ythndabbjkkjkhaa
set_option linter.unusedVariables false
set_option linter.unusedSimpArgs false
open Go.RowKit

set_option maxHeartbeats 1000000 in
theorem border_any (R C N b i : Nat) (w : World) (hR1 : 1 ≤ R) (hC1 : 1 ≤ C) (hR : R ≤ 1000) (hC : C ≤ 1000) (hi : Hid (i < R * C)) :
    Calls Try.prog 93 #[.agg #[.int .i64 R, .int .i64 C, .slice (some ⟨b, 0, none⟩) N N], .int .i64 i] w (RetV (.bool (brd R C i)) w) := by
  have hib : i ≤ 1000000 := Nat.le_trans (Nat.le_of_lt hi.out) (Nat.le_trans (Nat.mul_le_mul hR hC) (by decide))
  have HBR : Hid (brd R C i = decide (i / C = 0 ∨ i / C = R - 1 ∨ i % C = 0 ∨ i % C = C - 1)) := rfl
  have hcC : i % C < C := Nat.mod_lt _ (by omega)
  have hrR : i / C < R := Nat.div_lt_of_lt_mul (by rw [Nat.mul_comm]; exact hi.out)
  have e1 : (i : Int) / (C : Int) = ((i / C : Nat) : Int) := by rw [Int.natCast_ediv]
  have e2 : (i : Int) % (C : Int) = ((i % C : Nat) : Int) := by rw [Int.natCast_emod]
  have e3 : Int.tmod (i : Int) (C : Int) = ((i % C : Nat) : Int) := (Int.ofNat_tmod i C).symm
  generalize i / C = r at *
  generalize i % C = c at *
  have fin : ∀ (b : Bool) (e : Ending) (w' : World), Hid (b = decide (r = 0 ∨ r = R - 1 ∨ c = 0 ∨ c = C - 1)) → e = .returned (.bool b) → Below w.heap.size w w' → RetV (.bool (brd R C i)) w e w' := fun b e w' hb he hbl => ⟨by rw [he, HBR.out, hb.out], hbl⟩
  have Fin := Lib.hid fin
  clear fin
  have hbx : ∀ k, Below w.heap.size w ((w.alloc (.cells #[.int .i64 R, .int .i64 C, .slice (some ⟨b, 0, none⟩) N N] 59)).drewN k) := fun k => below_drewN (below_alloc _ _) k
  have HBX := Lib.hid hbx
  clear hbx
  by_cases p1 : r = 0
  · have d1 : ((r : Int) == 0) = true := by simp; omega
    have HP := Lib.hid p1
    clear p1
    go_enter Try.func93, Try.ntmps93
    go_wp2_with fail
    go_quiet (fail)
    go_wp2_with fail
    go_ret
    exact Fin.out true _ _ (by show _ = _; symm; simp [HP.out]) rfl (HBX.out _)
  have d1 : ((r : Int) == 0) = false := by simp; omega
  by_cases p2 : r = R - 1
  · have d2 : ((r : Int) == (R : Int) - 1) = true := by simp; omega
    have HP := Lib.hid p2
    clear p1 p2
    go_enter Try.func93, Try.ntmps93
    go_wp2_with fail
    go_quiet (fail)
    go_wp2_with fail
    go_ret
    exact Fin.out true _ _ (by show _ = _; symm; simp [HP.out]) rfl (HBX.out _)
  have d2 : ((r : Int) == (R : Int) - 1) = false := by simp; omega
  by_cases p3 : c = 0
  · have d3 : ((c : Int) == 0) = true := by simp; omega
    have HP := Lib.hid p3
    clear p1 p2 p3
    go_enter Try.func93, Try.ntmps93
    go_wp2_with fail
    go_quiet (fail)
    go_wp2_with fail
    go_ret
    exact Fin.out true _ _ (by show _ = _; symm; simp [HP.out]) rfl (HBX.out _)
  have d3 : ((c : Int) == 0) = false := by simp; omega
  by_cases p4 : c = C - 1
  · have d4 : ((c : Int) == (C : Int) - 1) = true := by simp; omega
    have HP := Lib.hid p4
    clear p1 p2 p3 p4
    go_enter Try.func93, Try.ntmps93
    go_wp2_with fail
    go_quiet (fail)
    go_wp2_with fail
    go_ret
    exact Fin.out true _ _ (by show _ = _; symm; simp [HP.out]) rfl (HBX.out _)
  have d4 : ((c : Int) == (C : Int) - 1) = false := by simp; omega
  have HP : Hid (¬ (r = 0 ∨ r = R - 1 ∨ c = 0 ∨ c = C - 1)) := by show ¬ _; omega
  clear p1 p2 p3 p4
  go_enter Try.func93, Try.ntmps93
  go_wp2_with fail
  go_quiet (fail)
  go_wp2_with fail
  go_ret
  exact Fin.out false _ _ (by show _ = _; symm; exact decide_eq_false HP.out) rfl (HBX.out _)

theorem blk_ne {w : World} {B q n : Nat} {cs : Array Value} {t t' : TypeId} {f : Nat → Value} (h : w.heap[B]? = some (.cells cs t (0, 0))) (h' : w.rowIs q t' n f) (hne : t ≠ t') : B ≠ q := by
  rintro rfl
  obtain ⟨c, hc, _⟩ := h'
  rw [h] at hc
  injection hc with hc
  injection hc with _ hc
  exact hne hc

/-- What holds in the loops of filled: the field f, the result's cell, the field full with the heights F. -/
structure Ful (w wr : World) (Bf Bz Bq b q R C N : Nat) (h F : Nat → Int) : Prop where
  bx : Boxed wr Bf b R C N h
  z : wr.heap[Bz]? = some (.cells #[.int .i64 0, .int .i64 0, .slice none 0 0] 59 (0, 0))
  bq : wr.heap[Bq]? = some (.cells #[.int .i64 R, .int .i64 C, .slice (some ⟨q, 0, none⟩) N N] 59 (0, 0))
  row : wr.rowIs q 3 N (fun i => .int .i64 (F i))
  nb : b ≠ q
  nz : Bz ≠ Bf ∧ Bz ≠ Bq
  lo : w.heap.size ≤ q ∧ w.heap.size ≤ Bz
  bel : Below w.heap.size w wr
theorem Ful.keep {w wr w1 : World} {Bf Bz Bq b q R C N : Nat} {h F : Nat → Int} (H : Ful w wr Bf Bz Bq b q R C N h F) (hb : Below wr.heap.size wr w1) : Ful w w1 Bf Bz Bq b q R C N h F :=
  ⟨H.bx.below hb, (hb.block _ (lt_of_blk H.z)).trans H.z, (hb.block _ (lt_of_blk H.bq)).trans H.bq, rowIs_kept H.row hb, H.nb, H.nz, H.lo, H.bel.trans (hb.mono H.bel.size)⟩
theorem Ful.store {w wr : World} {Bf Bz Bq b q R C N : Nat} {h F : Nat → Int} (H : Ful w wr Bf Bz Bq b q R C N h F) (i : Nat) (v : Int) : Ful w (wr.setCell ⟨q, i, none⟩ (.int .i64 v)) Bf Bz Bq b q R C N h (upd F i v) := by
  have n1 := blk_ne H.bx.box H.row (by decide)
  have n2 := blk_ne H.z H.row (by decide)
  have n3 := blk_ne H.bq H.row (by decide)
  refine ⟨⟨(Below.heap_setCell _ _ _ _ n1).trans H.bx.box, H.bx.row.setOther H.nb _⟩, (Below.heap_setCell _ _ _ _ n2).trans H.z, (Below.heap_setCell _ _ _ _ n3).trans H.bq, (H.row.set i _).congr fun j _ => ?_, H.nb, H.nz, H.lo, H.bel.setCell (by exact H.lo.1) _⟩
  unfold upd
  by_cases e : j = i <;> simp [e]
theorem Ful.congr {w wr : World} {Bf Bz Bq b q R C N : Nat} {h F F' : Nat → Int} (H : Ful w wr Bf Bz Bq b q R C N h F) (e : ∀ i, i < N → F i = F' i) : Ful w wr Bf Bz Bq b q R C N h F' :=
  ⟨H.bx, H.z, H.bq, H.row.congr fun i hi => by rw [e i hi], H.nb, H.nz, H.lo, H.bel⟩

def tot (F : Nat → Int) : Nat → Nat
  | 0 => 0
  | k + 1 => tot F k + (F k).toNat
theorem tot_congr {F G : Nat → Int} : ∀ {k : Nat}, (∀ i, i < k → F i = G i) → tot F k = tot G k
  | 0, _ => rfl
  | k + 1, h => by unfold tot; rw [tot_congr (fun i hi => h i (by omega)), h k (by omega)]
theorem tot_upd {F : Nat → Int} {i : Nat} {v : Int} (h0 : 0 ≤ v) (hv : v < F i) : ∀ {k : Nat}, i < k → tot (upd F i v) k < tot F k
  | 0, h => by omega
  | k + 1, h => by
    unfold tot
    by_cases e : i = k
    · subst e
      have : tot (upd F i v) i = tot F i := tot_congr fun j hj => upd_ne F v (by omega)
      rw [this, upd_at]; omega
    · have := tot_upd (F := F) (i := i) (v := v) h0 hv (k := k) (by omega)
      rw [upd_ne F v (show k ≠ i by omega)]; omega

/-- What is known of the mark that a height has changed. -/
def Chg (N : Nat) (F0 F : Nat → Int) (cb : Bool) : Prop := (cb = false → ∀ i, i < N → F i = F0 i) ∧ (cb = true → tot F N < tot F0 N)

set_option maxHeartbeats 4000000 in
theorem filled_any (R C N b : Nat) (h : Nat → Int) (w : World) (hR1 : 1 ≤ R) (hC1 : 1 ≤ C) (hR : R ≤ 1000) (hC : C ≤ 1000) (hh : Hid (∀ i, i < N → 0 ≤ h i ∧ h i ≤ 99)) (hN : Hid (N = R * C)) (hrow : Hid (w.rowIs b 3 N (fun i => .int .i64 (h i)))) :
    Calls Try.prog 87 #[.agg #[.int .i64 R, .int .i64 C, .slice (some ⟨b, 0, none⟩) N N]] w (RetField R C N (fillV R C h) w) := by
  have hN1 : N ≤ 1000000 := by rw [hN.out]; exact Nat.le_trans (Nat.mul_le_mul hR hC) (by decide)
  have hblt : b < w.heap.size := hrow.out.lt
  go_enter Try.func87, Try.ntmps87
  go_wp2_with fail
  refine (blank_any R C N _ hR hC hN).mono ?_
  rintro e w1 ⟨q, rfl, hlo, hq, hb1⟩
  simp at hlo
  have hs1 := hb1.size
  simp at hs1
  have F0 : Ful w (w1.alloc (.cells #[.int .i64 R, .int .i64 C, .slice (some ⟨q, 0, none⟩) N N] 59)) w.heap.size (w.heap.size + 1) w1.heap.size b q R C N h (fun _ => 0) := by
    have hbox : w1.heap[w.heap.size]? = some (.cells #[.int .i64 R, .int .i64 C, .slice (some ⟨b, 0, none⟩) N N] 59 (0, 0)) := by
      rw [hb1.block _ (by simp; omega), Below.heap_alloc _ _ _ (by simp)]; exact heap_alloc_new _ _
    have hz : w1.heap[w.heap.size + 1]? = some (.cells #[.int .i64 0, .int .i64 0, .slice none 0 0] 59 (0, 0)) := by
      rw [hb1.block _ (by simp)]
      have := heap_alloc_new (w.alloc (.cells #[.int .i64 R, .int .i64 C, .slice (some ⟨b, 0, none⟩) N N] 59)) (.cells #[.int .i64 0, .int .i64 0, .slice none 0 0] 59)
      simpa using this
    have hbw : Below w.heap.size w w1 := ((below_alloc w _).trans ((below_alloc _ _).mono (by simp))).trans (hb1.mono (by simp; omega))
    refine ⟨⟨?_, ?_⟩, ?_, heap_alloc_new _ _, hq.alloc _, by omega, ⟨by omega, by omega⟩, ⟨by omega, by omega⟩, hbw.alloc hbw.size _⟩
    · rw [Below.heap_alloc _ _ _ (by omega)]; exact hbox
    · exact (rowIs_below hrow.out hbw hblt).alloc _
    · rw [Below.heap_alloc _ _ _ (by omega)]; exact hz
  have HF0 := Lib.hid F0
  have x2 := cell_of_blk (i := 2) F0.bx.box rfl
  have hsz2 : w.heap.size < w1.heap.size := by omega
  clear F0 hq hb1 hs1 hlo
  go_wp2_with fail
  clear x2 hsz2
  generalize w1.alloc _ = w2 at *
  generalize w1.heap.size = Bq at *
  generalize w.heap.size + 1 = Bz at *
  go_loopw [20] (fun i wr => ∃ (k : Nat) (F : Nat → Int), k ≤ N ∧ i = .int .i64 k ∧ Hid (Ful w wr w.heap.size Bz Bq b q R C N h F) ∧ Hid (∀ j, j < k → F j = fill0 R C h j)) (fun i _ => N - (intOf i).toNat)
  case atStart => exact ⟨0, _, Nat.zero_le _, rfl, HF0.out, fun j hj => absurd hj (Nat.not_lt_zero j)⟩
  case round =>
    clear HF0
    obtain ⟨k, F, hk, rfl, HF, HD⟩ := hrel
    by_cases hlt : k < N
    · have xk := HF.out.bx.row.cell hlt
      have y2 := cell_of_blk (i := 2) HF.out.bq rfl
      have hqk := HF.out.row.cell hlt
      have hqf := HF.out.row.frozen k
      have HI : Hid (k < R * C) := by show k < R * C; rw [← hN.out]; exact hlt
      have HF1 := Lib.hid (HF.out.store k 99)
      have x0' := cell_of_blk (i := 0) HF1.out.bx.box rfl
      have x1' := cell_of_blk (i := 1) HF1.out.bx.box rfl
      have x2' := cell_of_blk (i := 2) HF1.out.bx.box rfl
      go_wp2_with fail
      refine (border_any R C N b k _ hR1 hC1 hR hC HI).mono ?_
      rintro e w3 ⟨rfl, hb3⟩
      have HF2 := Lib.hid (HF1.out.keep hb3)
      clear xk y2 hqk hqf x0' x1' x2' hb3 HF HF1
      have y2 := cell_of_blk (i := 2) HF2.out.bq rfl
      have hqk := HF2.out.row.cell hlt
      have hqf := HF2.out.row.frozen k
      by_cases hbr : brd R C k = true
      · rw [hbr]
        have HF3 := Lib.hid (HF2.out.store k (h k))
        go_wp2_with fail
        go_roundw
        case rel =>
          refine ⟨k + 1, _, by omega, by go_num, HF3.out, fun j hj => ?_⟩
          by_cases e : j = k
          · subst e; rw [upd_at]; exact (if_pos hbr).symm
          · rw [upd_ne _ _ e, upd_ne _ _ e]; exact HD.out j (by omega)
        case measure => simp [intOf]; omega
      · have hbr' : brd R C k = false := by simpa using hbr
        rw [hbr']
        clear hbr'
        go_wp2_with fail
        go_roundw
        case rel =>
          refine ⟨k + 1, _, by omega, by go_num, HF2.out, fun j hj => ?_⟩
          by_cases e : j = k
          · subst e; rw [upd_at]; exact (if_neg hbr).symm
          · rw [upd_ne _ _ e]; exact HD.out j (by omega)
        case measure => simp [intOf]; omega
    · have HF1 : Hid (Ful w wr w.heap.size Bz Bq b q R C N h (fill0 R C h)) := HF.out.congr (fun j hj => HD.out j (by omega))
      have HR0 : Hid (Snd R C h (fill0 R C h) ∧ BrdF R C h (fill0 R C h) ∧ (true = false → Stb R C h (fill0 R C h))) := ⟨snd0 (fun i hi => (hh.out i (by rw [hN.out]; exact hi)).2), brd0, fun h => absurd h (by decide)⟩
      clear HF HD
      go_wp2_with fail
      go_loopg [6] (2 * tot (fill0 R C h) N + 1) (fun gk ch wr => ∃ (cb : Bool) (F : Nat → Int), ch = .bool cb ∧ Hid (Ful w wr w.heap.size Bz Bq b q R C N h F) ∧ Hid (Snd R C h F ∧ BrdF R C h F ∧ (cb = false → Stb R C h F)) ∧ Hid (gk = 2 * tot F N + (if cb then 1 else 0)))
      case atStart => exact ⟨true, _, rfl, HF1.out, HR0.out, rfl⟩
      case round =>
        clear HF1 HR0
        obtain ⟨cb, F, rfl, HF, HR, HGk⟩ := hrel
        cases cb
        · have HFin : Hid (FillF R C h F) := fill_of_stable HR.out.1 HR.out.2.1 (HR.out.2.2 rfl)
          have x0 := cell_of_blk (i := 0) HF.out.bq rfl
          have x1 := cell_of_blk (i := 1) HF.out.bq rfl
          have x2 := cell_of_blk (i := 2) HF.out.bq rfl
          have z0 := cell_of_blk (i := 0) HF.out.z rfl
          have z1 := cell_of_blk (i := 1) HF.out.z rfl
          have z2 := cell_of_blk (i := 2) HF.out.z rfl
          have q0 := frozen_of_blk HF.out.z 0
          have q1 := frozen_of_blk HF.out.z 1
          have q2 := frozen_of_blk HF.out.z 2
          go_wp2_with fail
          refine bodyPost_ret (v := .agg #[.int .i64 R, .int .i64 C, .slice (some ⟨q, 0, none⟩) N N]) (by simp [results, Try.results87, go_sem, z0, z1, z2]) rfl ⟨q, rfl, HF.out.lo.1, ?_, ?_⟩
          · have n2 := (blk_ne HF.out.z HF.out.row (by decide)).symm
            refine World.rowIs.congr (World.rowIs.setOther (World.rowIs.setOther (World.rowIs.setOther HF.out.row n2 _) n2 _) n2 _) fun i hi => ?_
            rw [HFin.out.eq (by rw [← hN.out]; exact hi)]
          · exact ((HF.out.bel.setCell (by exact HF.out.lo.2) _).setCell (by exact HF.out.lo.2) _).setCell (by exact HF.out.lo.2) _
        · have x2 := cell_of_blk (i := 2) HF.out.bx.box rfl
          go_wp2_with fail
          clear x2
          have HS0 : Hid (Swp R C h F F 0 0) := Swp.start HR.out.1 HR.out.2.1
          obtain ⟨wo, hwo⟩ : ∃ wo : World, wo = wr := ⟨_, rfl⟩
          rw [← hwo] at HF ⊢
          clear hwo
          go_loopw [6, 42] (fun ch i wi => ∃ (k : Nat) (cb : Bool) (G : Nat → Int), k ≤ N ∧ i = .int .i64 k ∧ ch = .bool cb ∧ Hid (Ful w wi w.heap.size Bz Bq b q R C N h G) ∧ Hid (Swp R C h F G k 0) ∧ Hid (Chg N F G cb)) (fun _ i _ => N - (intOf i).toNat)
          case atStart => exact ⟨0, false, F, Nat.zero_le _, rfl, rfl, HF.out, HS0.out, ⟨fun _ _ _ => rfl, fun h => absurd h (by decide)⟩⟩
          case round =>
            clear HF HS0
            obtain ⟨k, cb, G, hk, rfl, rfl, HG, HS, HC⟩ := hrel
            by_cases hlt : k < N
            · have xk := HG.out.bx.row.cell hlt
              have x0 := cell_of_blk (i := 0) HG.out.bx.box rfl
              have x1 := cell_of_blk (i := 1) HG.out.bx.box rfl
              have x2 := cell_of_blk (i := 2) HG.out.bx.box rfl
              have HI : Hid (k < R * C) := by show k < R * C; rw [← hN.out]; exact hlt
              have HMem : Hid (∀ q, q < (nearL R C k).length → (nearL R C k).getD q 0 < N) := fun q hq => by rw [hN.out]; exact nearL_lt HI.out (getD_mem hq)
              have HRel : Hid (∀ (G : Nat → Int) m, Swp R C h F G k m → m < (nearL R C k).length → Swp R C h F (upd G k (min (G k) (max (h k) (G ((nearL R C k).getD m 0))))) k (m + 1)) := fun G m H hm => H.relax HI.out hm
              have HNx : Hid (∀ (G : Nat → Int), Swp R C h F G k (nearL R C k).length → Swp R C h F G (k + 1) 0) := fun G H => H.next
              have hl4 := nearL_len R C k
              have hk0 := (hh.out k hlt).1
              go_wp2_with fail
              refine (neighbors_any R C N b k _ hC1 hR hC HI.out).mono ?_
              rintro e w4 ⟨v, rfl, hown, hb4⟩
              have HG4 := Lib.hid (HG.out.keep hb4)
              obtain ⟨Av, cv, rfl⟩ := hown.slice
              have HO := Lib.hid hown
              have HLo : Hid (q < wr.heap.size) := HG.out.row.lt
              clear hown xk x0 x1 x2 HG hb4
              obtain ⟨lo, hlo⟩ : ∃ lo, lo = wr.heap.size := ⟨_, rfl⟩
              rw [← hlo] at HO HLo
              clear hlo
              generalize nearL R C k = ll at *
              go_wp2_with fail
              go_loopw [6, 51] (fun ch i wi => ∃ (m : Nat) (cb : Bool) (G : Nat → Int), m ≤ ll.length ∧ i = .int .i64 m ∧ ch = .bool cb ∧ Hid (Ful w wi w.heap.size Bz Bq b q R C N h G) ∧ Hid (OwnL wi lo (.slice Av ll.length cv) ll) ∧ Hid (Swp R C h F G k m) ∧ Hid (Chg N F G cb)) (fun _ i _ => ll.length - (intOf i).toNat)
              case atStart => exact ⟨0, cb, G, Nat.zero_le _, rfl, rfl, HG4.out, HO.out, HS.out, HC.out⟩
              case round =>
                clear HG4 HO HS HC
                obtain ⟨m, cb, G, hm, rfl, rfl, HG, HO, HS, HC⟩ := hrel
                by_cases hlt2 : m < ll.length
                · obtain ⟨bl, rfl, hce⟩ := HO.out.at_ hlt2
                  have hjN := HMem.out m hlt2
                  have y2 := cell_of_blk (i := 2) HG.out.bq rfl
                  have hcj := HG.out.row.cell hjN
                  have hck := HG.out.row.cell hlt
                  have hfk := HG.out.row.frozen k
                  have HS1 := Lib.hid (HRel.out G m HS.out hlt2)
                  generalize ll.getD m 0 = j at *
                  have HLT : Hid (tot G N ≤ tot F N) := by
                    show tot G N ≤ tot F N
                    have h2 := HC.out
                    cases cb
                    · exact Nat.le_of_eq (tot_congr (h2.1 rfl))
                    · exact Nat.le_of_lt (h2.2 rfl)
                  by_cases hq : (if h k < G j then G j else h k) < G k
                  · have HV0 : Hid (min (G k) (max (h k) (G j)) = (if h k < G j then G j else h k)) := by
                      show _ = _
                      revert hq; split <;> intro hq <;> omega
                    have HM0 : Hid (0 ≤ (if h k < G j then G j else h k)) := by show 0 ≤ _; split <;> omega
                    have HF2 := Lib.hid (HG.out.store k (if h k < G j then G j else h k))
                    have HO2 : Hid (OwnL (wr.setCell ⟨q, k, none⟩ (.int .i64 (if h k < G j then G j else h k))) lo (.slice (some ⟨bl, 0, none⟩) ll.length cv) ll) := OwnS.of_block HO.out.s (fun x hx => Below.heap_setCell _ _ _ _ (fun e => by
                      have h1 := (HO.out.s.lt hx).1
                      have h2 := HLo.out
                      have e : x = q := e
                      omega))
                    go_wp2_with fail
                    go_roundw
                    case rel =>
                      refine ⟨m + 1, true, upd G k (if h k < G j then G j else h k), by omega, by go_num, rfl, HF2.out, HO2.out, ?_, ⟨fun e => absurd e (by decide), fun _ => Nat.lt_of_lt_of_le (tot_upd HM0.out hq hlt) HLT.out⟩⟩
                      rw [← HV0.out]
                      exact HS1.out
                    case measure => simp [intOf]; omega
                  · have HV0 : Hid (min (G k) (max (h k) (G j)) = G k) := by
                      show _ = _
                      revert hq; split <;> intro hq <;> omega
                    go_wp2_with fail
                    go_roundw
                    case rel =>
                      refine ⟨m + 1, cb, G, by omega, by go_num, rfl, HG.out, HO.out, ?_, HC.out⟩
                      have := HS1.out
                      rw [HV0.out, upd_same] at this
                      exact this
                    case measure => simp [intOf]; omega
                · have HM : Hid (m = ll.length) := by show m = ll.length; omega
                  go_wp2_with fail
                  go_roundw
                  case rel => exact ⟨k + 1, cb, G, by omega, by go_num, rfl, HG.out, HNx.out G (by rw [← HM.out]; exact HS.out), HC.out⟩
                  case measure => simp [intOf]; omega
            · have hkN : k = N := by omega
              have HKN := Lib.hid hkN
              clear hkN
              go_wp2_with fail
              go_roundg (2 * tot G N + (if cb then 1 else 0))
              case measure =>
                have h1 := HGk.out
                have h2 := HC.out
                cases cb
                · have := tot_congr (h2.1 rfl)
                  simp at h1 ⊢; omega
                · have := h2.2 rfl
                  simp at h1 ⊢; omega
              case rel =>
                have hS : Swp R C h F G (R * C) 0 := by have := HS.out; rw [HKN.out, hN.out] at this; exact this
                exact ⟨cb, G, rfl, HG.out, ⟨hS.snd, hS.bd, fun e => hS.stable (fun i hi => HC.out.1 e i (by rw [hN.out]; exact hi))⟩, rfl⟩

end Go.Proofs.Ythndabbjkkjkhaa
