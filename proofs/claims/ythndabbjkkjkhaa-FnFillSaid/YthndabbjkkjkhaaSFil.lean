/- The border, and the drained heights: what the reference's functions return. -/
import Derived.Test.YthndabbjkkjkhaaFil
import Derived.Test.YthndabbjkkjkhaaSid
namespace Go.Proofs.Ythndabbjkkjkhaa
set_option linter.unusedVariables false
set_option linter.unusedSimpArgs false
open Go.RowKit

set_option maxHeartbeats 1000000 in
theorem l2Border_any (A : Option Addr) (n cp i : Nat) (L : Nat → Nat) (g : Nat → Nat → Int) (w : World) (hg : GridF w A n L g) (hn1 : 1 ≤ n) (hn2 : n ≤ 1000) (hl1 : 1 ≤ L 0) (hl2 : L 0 ≤ 1000) (hi : i < n * L 0) :
    Calls Try.prog 90 #[.slice A n cp, .int .i64 i] w (RetP (.bool (brd n (L 0) i)) w) := by
  obtain ⟨B, o, A0, c0, rfl, hc0, _, hr0⟩ := hg 0 (by omega)
  rw [Nat.add_zero] at hc0
  clear hr0 hg
  generalize L 0 = C at *
  have hib : i ≤ 1000000 := Nat.le_trans (Nat.le_of_lt hi) (Nat.le_trans (Nat.mul_le_mul hn2 hl2) (by decide))
  have hcC : i % C < C := Nat.mod_lt _ (by omega)
  have hrR : i / C < n := Nat.div_lt_of_lt_mul (by rw [Nat.mul_comm]; exact hi)
  have HR0 : Hid (i < C ↔ i / C = 0) := by
    show i < C ↔ i / C = 0
    rw [Nat.div_eq_zero_iff]; omega
  have HRn : Hid ((C : Int) * ((n : Int) - 1) ≤ (i : Int) ↔ i / C = n - 1) := by
    show _ ↔ i / C = n - 1
    have h1 : n - 1 ≤ i / C ↔ C * (n - 1) ≤ i := by rw [Nat.le_div_iff_mul_le (by omega), Nat.mul_comm]
    have h2 : ((C * (n - 1) : Nat) : Int) = (C : Int) * ((n : Int) - 1) := by rw [Int.natCast_mul, Int.natCast_sub hn1]; rfl
    rw [← h2, Int.ofNat_le, ← h1]
    exact ⟨fun h => Nat.le_antisymm (Nat.le_sub_one_of_lt hrR) h, fun h => Nat.le_of_eq h.symm⟩
  have hm0 : (0 : Int) ≤ (C : Int) * ((n : Int) - 1) := Int.mul_nonneg (by omega) (by omega)
  have hm1 : (C : Int) * ((n : Int) - 1) ≤ 1000000 := by
    have := Nat.mul_le_mul hl2 (by omega : n - 1 ≤ 1000)
    rw [← Int.ofNat_le, Int.natCast_mul, Int.natCast_sub hn1] at this
    exact Int.le_trans this (by decide)
  have HBR : Hid (brd n C i = decide (i / C = 0 ∨ i / C = n - 1 ∨ i % C = 0 ∨ i % C = C - 1)) := rfl
  have e2 : (i : Int) % (C : Int) = ((i % C : Nat) : Int) := by rw [Int.natCast_emod]
  have e3 : Int.tmod (i : Int) (C : Int) = ((i % C : Nat) : Int) := (Int.ofNat_tmod i C).symm
  generalize i / C = r at *
  generalize i % C = c at *
  have Fin : Hid (∀ (b : Bool) (e : Ending), Hid (b = decide (r = 0 ∨ r = n - 1 ∨ c = 0 ∨ c = C - 1)) → e = .returned (.bool b) → e = .returned (.bool (brd n C i))) := fun b e hb he => by rw [he, HBR.out, hb.out]
  clear hi
  by_cases p1 : r = 0
  · have d1 := HR0.out.2 p1
    have HP := Lib.hid p1
    clear p1
    go_enter Try.func90, Try.ntmps90
    go_wp2_with fail
    go_ret
    exact ⟨Fin.out true _ (by show _ = _; symm; simp [HP.out]) rfl, rfl⟩
  have d1 : decide (i < C) = false := decide_eq_false (mt HR0.out.1 p1)
  by_cases p2 : r = n - 1
  · have d2 := HRn.out.2 p2
    have HP := Lib.hid p2
    clear p1 p2
    go_enter Try.func90, Try.ntmps90
    go_wp2_with fail
    go_ret
    exact ⟨Fin.out true _ (by show _ = _; symm; simp [HP.out]) rfl, rfl⟩
  have d2 : decide ((C : Int) * ((n : Int) - 1) ≤ (i : Int)) = false := decide_eq_false (mt HRn.out.1 p2)
  by_cases p3 : c = 0
  · have d3 : ((c : Int) == 0) = true := by simp; omega
    have HP := Lib.hid p3
    clear p1 p2 p3
    go_enter Try.func90, Try.ntmps90
    go_wp2_with fail
    go_ret
    exact ⟨Fin.out true _ (by show _ = _; symm; simp [HP.out]) rfl, rfl⟩
  have d3 : ((c : Int) == 0) = false := by simp; omega
  by_cases p4 : c = C - 1
  · have d4 : ((c : Int) == (C : Int) - 1) = true := by simp; omega
    have HP := Lib.hid p4
    clear p1 p2 p3 p4
    go_enter Try.func90, Try.ntmps90
    go_wp2_with fail
    go_ret
    exact ⟨Fin.out true _ (by show _ = _; symm; simp [HP.out]) rfl, rfl⟩
  have d4 : ((c : Int) == (C : Int) - 1) = false := by simp; omega
  have HP : Hid (¬ (r = 0 ∨ r = n - 1 ∨ c = 0 ∨ c = C - 1)) := by show ¬ _; omega
  clear p1 p2 p3 p4
  go_enter Try.func90, Try.ntmps90
  go_wp2_with fail
  go_ret
  exact ⟨Fin.out false _ (by show _ = _; symm; exact decide_eq_false HP.out) rfl, rfl⟩

/-- A list of heights in new memory. -/
def RetIS (n : Nat) (F : Nat → Int) (w : World) (e : Ending) (w' : World) : Prop := ∃ v, e = .returned v ∧ OwnI w' w.heap.size v n F ∧ Below w.heap.size w w'

set_option maxHeartbeats 4000000 in
theorem l2Fill_any (A : Option Addr) (n cp : Nat) (L : Nat → Nat) (g : Nat → Nat → Int) (w : World) (hg : GridF w A n L g) (hv : Valid n L g) :
    Calls Try.prog 81 #[.slice A n cp] w (RetIS (n * L 0) (fillV n (L 0) (flat (L 0) g)) w) := by
  have HG := Lib.hid hg
  have HV := Lib.hid hv
  have hn1 := hv.1
  have hn2 := hv.2.1
  have hl1 := hv.2.2.1
  have hl2 := hv.2.2.2.1
  have hr : ∀ i, i < n * L 0 → 0 ≤ flat (L 0) g i ∧ flat (L 0) g i ≤ 99 := fun i hi => by
    obtain ⟨_, h1, h2, _⟩ := rc_in hi
    exact hv.rng h1 h2
  obtain ⟨h, hh⟩ : ∃ h, h = flat (L 0) g := ⟨_, rfl⟩
  rw [← hh] at hr ⊢
  have HH := Lib.hid hh
  have HR := Lib.hid hr
  obtain ⟨N, hN⟩ : ∃ N, N = n * L 0 := ⟨_, rfl⟩
  rw [← hN]
  have HN := Lib.hid hN
  have hN1 : N ≤ 49 := by rw [hN]; exact Nat.le_trans (Nat.mul_le_mul hn2 hl2) (by decide)
  obtain ⟨C, hC⟩ : ∃ C, C = L 0 := ⟨_, rfl⟩
  have HC := Lib.hid hC
  rw [← hC] at hl1 hl2
  clear hg hv hh hr hN
  have HE : Hid (OwnI (w.alloc (.cells #[] 3)) w.heap.size (.slice (some ⟨w.heap.size, 0, none⟩) 0 0) 0 (fun _ => 0)) := OwnS.new w w.heap.size 3 _ (Nat.le_refl _) #[] 0 rfl (by decide)
  have hbe := below_alloc w (.cells #[] 3)
  rw [← hC]
  clear hC
  go_enter Try.func81, Try.ntmps81
  go_wp2_with fail
  generalize w.alloc _ = w0 at *
  go_loopw [3, 4] (fun v i wr => ∃ (k : Nat) (F : Nat → Int), k ≤ N ∧ i = .int .i64 k ∧ Hid (OwnI wr w.heap.size v k F) ∧ Hid (∀ j, j < k → F j = fill0 n C h j) ∧ Below w.heap.size w wr) (fun _ i _ => N - (intOf i).toNat)
  case atStart => exact ⟨0, _, Nat.zero_le _, rfl, HE.out, fun j hj => absurd hj (Nat.not_lt_zero j), hbe⟩
  case round =>
    clear HE hbe
    obtain ⟨k, F, hk, rfl, HO, HD, hbel⟩ := hrel
    obtain ⟨Ao, co, rfl, _⟩ := HO.out.s.slice
    have HG1 := Lib.hid (HG.out.below hbel)
    go_wp2_with fail
    refine (l2Cells_any _ _ _ _ _ _ HG1.out (by omega) (by omega) (by rw [← HC.out]; omega)).mono ?_
    rintro e w' ⟨rfl, rfl⟩
    rw [← HN.out]
    by_cases hlt : k < N
    · have HI : Hid (k < n * L 0) := by show k < n * L 0; rw [← HN.out]; exact hlt
      go_wp2_with fail
      refine (l2Border_any _ _ _ _ _ _ _ HG1.out (by omega) (by omega) (by rw [← HC.out]; omega) (by rw [← HC.out]; omega) HI.out).mono ?_
      rintro e w' ⟨rfl, rfl⟩
      rw [← HC.out]
      by_cases hbr : brd n C k = true
      · rw [hbr]
        go_wp2_with fail
        refine (l2Height_h _ _ _ _ _ _ h _ HG1.out HV.out HH HI.out).mono ?_
        rintro e w2 ⟨rfl, hb2⟩
        have hs := hbel.size
        have hs2 := hb2.size
        go_wp2_with (at_builtin; refine wpList_app1 rfl (.tmp 19) (.tmp 23) 29 rfl Try.underlying29 Try.infoI rfl rfl (HO.out.below hb2).s (x := .int .i64 (h k)) rfl rfl (by omega) (by decide) (by omega) ?_; intro v' w3 ho hg3; obtain ⟨A3, c3, rfl, _⟩ := ho.slice)
        have HO3 := Lib.hid (OwnI.snoc ho)
        have hb3 : Below w.heap.size w w3 := (hbel.trans (hb2.mono hbel.size)).trans (hg3.below (by omega) (fun j hj => (HO.out.s.lt hj).1))
        clear ho hg3
        go_wp2_with fail
        go_roundw
        case rel =>
          refine ⟨k + 1, _, by omega, by go_num, HO3.out, fun j hj => ?_, hb3⟩
          by_cases e : j = k
          · subst e; rw [upd_at]; exact (if_pos hbr).symm
          · rw [upd_ne _ _ e]; exact HD.out j (by omega)
        case measure => simp [intOf]; omega
      · have hbr' : brd n C k = false := by simpa using hbr
        rw [hbr']
        clear hbr'
        have hs := hbel.size
        go_wp2_with (at_builtin; refine wpList_app1 rfl (.tmp 25) (.tmp 26) 29 rfl Try.underlying29 Try.infoI rfl rfl HO.out.s (x := .int .i64 99) rfl rfl (by omega) (by decide) (by omega) ?_; intro v' w3 ho hg3; obtain ⟨A3, c3, rfl, _⟩ := ho.slice)
        have HO3 := Lib.hid (OwnI.snoc ho)
        have hb3 : Below w.heap.size w w3 := hbel.trans (hg3.below (by omega) (fun j hj => (HO.out.s.lt hj).1))
        clear ho hg3
        go_wp2_with fail
        go_roundw
        case rel =>
          refine ⟨k + 1, _, by omega, by go_num, HO3.out, fun j hj => ?_, hb3⟩
          by_cases e : j = k
          · subst e; rw [upd_at]; exact (if_neg hbr).symm
          · rw [upd_ne _ _ e]; exact HD.out j (by omega)
        case measure => simp [intOf]; omega
    · obtain rfl : N = k := by omega
      have HF1 : Hid (OwnI wr w.heap.size (.slice Ao N co) N (fill0 n C h)) := HO.out.congr HD.out
      have HR0 : Hid (Snd n C h (fill0 n C h) ∧ BrdF n C h (fill0 n C h) ∧ SatF n C h (fill0 n C h) 0) := ⟨snd0 (fun i hi => (HR.out i (by rw [← HC.out]; exact hi)).2), brd0, SatF.zero _⟩
      clear HO HD HG1
      go_wp2_with fail
      obtain ⟨wo, hwo⟩ : ∃ wo : World, wo = wr := ⟨_, rfl⟩
      rw [← hwo] at HF1 hbel ⊢
      clear hwo
      go_loopw [5] (fun i wr => ∃ (k : Nat) (F : Nat → Int), k ≤ N ∧ i = .int .i64 k ∧ Hid (OwnI wr w.heap.size (.slice Ao N co) N F) ∧ Hid (Snd n C h F ∧ BrdF n C h F ∧ SatF n C h F k) ∧ Below w.heap.size w wr) (fun i _ => N - (intOf i).toNat)
      case atStart => exact ⟨0, _, Nat.zero_le _, rfl, HF1.out, HR0.out, hbel⟩
      case round =>
        clear HF1 HR0 hbel
        obtain ⟨kr, F, hkr, rfl, HF, HR1, hbel⟩ := hrel
        by_cases hltr : kr < N
        · go_wp2_with fail
          obtain ⟨wo2, hwo⟩ : ∃ wo : World, wo = wr := ⟨_, rfl⟩
          rw [← hwo] at HF hbel ⊢
          clear hwo
          have HS0 : Hid (Swp n C h F F 0 0) := Swp.start HR1.out.1 HR1.out.2.1
          go_loopw [6] (fun i wi => ∃ (k : Nat) (G : Nat → Int), k ≤ N ∧ i = .int .i64 k ∧ Hid (OwnI wi w.heap.size (.slice Ao N co) N G) ∧ Hid (Swp n C h F G k 0) ∧ Below w.heap.size w wi) (fun i _ => N - (intOf i).toNat)
          case atStart => exact ⟨0, F, Nat.zero_le _, rfl, HF.out, HS0.out, hbel⟩
          case round =>
            clear HF HS0 hbel
            obtain ⟨k, G, hk, rfl, HO, HS, hbel⟩ := hrel
            by_cases hlt : k < N
            · have HI : Hid (k < n * L 0) := by show k < n * L 0; rw [← HN.out]; exact hlt
              have HI' : Hid (k < n * C) := by show k < n * C; rw [HC.out]; exact HI.out
              have HMem : Hid (∀ q, q < (nearL n C k).length → (nearL n C k).getD q 0 < N) := fun q hq => by rw [HN.out, ← HC.out]; exact nearL_lt HI'.out (getD_mem hq)
              have HRel : Hid (∀ (G : Nat → Int) m, Swp n C h F G k m → m < (nearL n C k).length → Swp n C h F (upd G k (min (G k) (max (h k) (G ((nearL n C k).getD m 0))))) k (m + 1)) := fun G m H hm => H.relax HI'.out hm
              have HNx : Hid (∀ (G : Nat → Int), Swp n C h F G k (nearL n C k).length → Swp n C h F G (k + 1) 0) := fun G H => H.next
              have hl4 := nearL_len n C k
              have HG1 := Lib.hid (HG.out.below hbel)
              go_wp2_with fail
              refine (l2Near_any _ _ _ _ _ _ _ HG1.out (by omega) (by omega) (by rw [← HC.out]; omega) (by rw [← HC.out]; omega) HI.out).mono ?_
              rintro e w4 ⟨v, rfl, hown, hb4⟩
              rw [← HC.out] at hown
              have HO4 := Lib.hid (HO.out.below hb4)
              obtain ⟨Av, cv, rfl⟩ := hown.slice
              have HOL := Lib.hid hown
              have HLo : Hid (∀ x, (Value.slice Ao N co).ownBlock = some x → x < wr.heap.size) := fun x hx => (HO.out.s.lt hx).2
              have hbel4 := hbel.trans (hb4.mono hbel.size)
              obtain ⟨lo, hlo⟩ : ∃ lo, lo = wr.heap.size := ⟨_, rfl⟩
              rw [← hlo] at HOL HLo
              clear hown HO hb4 HG1 hbel hlo
              generalize nearL n C k = ll at *
              go_wp2_with fail
              go_loopw [8] (fun i wi => ∃ (m : Nat) (G : Nat → Int), m ≤ ll.length ∧ i = .int .i64 m ∧ Hid (OwnI wi w.heap.size (.slice Ao N co) N G) ∧ Hid (OwnL wi lo (.slice Av ll.length cv) ll) ∧ Hid (Swp n C h F G k m) ∧ Hid (0 < m → brd n C k = false) ∧ Below w.heap.size w wi) (fun i _ => ll.length - (intOf i).toNat)
              case atStart => exact ⟨0, G, Nat.zero_le _, rfl, HO4.out, HOL.out, HS.out, fun h => absurd h (Nat.lt_irrefl 0), hbel4⟩
              case round =>
                clear HO4 HOL HS hbel4
                obtain ⟨m, G, hm, rfl, HO, HOL, HS, HB0, hbel⟩ := hrel
                have HG1 := Lib.hid (HG.out.below hbel)
                by_cases hlt2 : m < ll.length
                · have d1 : decide (m < ll.length) = true := by simpa using hlt2
                  go_wp2_with fail
                  refine (l2Border_any _ _ _ _ _ _ _ HG1.out (by omega) (by omega) (by rw [← HC.out]; omega) (by rw [← HC.out]; omega) HI.out).mono ?_
                  rintro e w' ⟨rfl, rfl⟩
                  rw [← HC.out]
                  by_cases hbr : brd n C k = true
                  · rw [hbr]
                    have HM0 : Hid (m = 0) := by
                      show m = 0
                      rcases Nat.eq_zero_or_pos m with h | h
                      · exact h
                      · have := HB0.out h; rw [hbr] at this; cases this
                    go_wp2_with fail
                    go_roundw
                    case rel => exact ⟨k + 1, G, by omega, by go_num, HO.out, Swp.skip (by rw [← HM0.out]; exact HS.out) hbr, hbel⟩
                    case measure => simp [intOf]; omega
                  · have hbr' : brd n C k = false := by simpa using hbr
                    rw [hbr']
                    obtain ⟨bl, rfl, hce⟩ := HOL.out.at_ hlt2
                    have hjN := HMem.out m hlt2
                    obtain ⟨bo, rfl, hlo', hbo, hcells⟩ := HO.out.cells (by omega)
                    obtain ⟨hck, hfk⟩ := hcells k hlt
                    have hcj := (hcells _ hjN).1
                    clear hcells
                    have HS1 := Lib.hid (HRel.out G m HS.out hlt2)
                    have HBR := Lib.hid hbr'
                    clear hbr hbr'
                    generalize ll.getD m 0 = j at *
                    have l1 := Later.cell hce
                    have l2 := Later.cell hck
                    have l3 := Later.cell hcj
                    go_wp2_with fail
                    refine wp_region_later_tail 19 (by kernel_rfl) (by kernel_rfl) ?_
                    simp only [List.take_succ_cons, List.take_zero, List.drop_succ_cons, List.drop_zero]
                    repeat (go_big_quiet_step ((go_at_call 91; exact quietL (l2Height_h _ _ _ _ _ _ h _ (HG1.out.below (Later.below _)) HV.out HH HI.out))))
                    refine wpQuiet_nil ?_
                    rintro w3 ⟨⟨_, hb3⟩, rfl⟩
                    have hck3 : w3.cell? ⟨bo, k, none⟩ = _ := (hb3.cell (by exact hbo)).trans hck
                    have hfk3 : w3.frozen? ⟨bo, k, none⟩ = false := (hb3.frozen (by exact hbo)).trans hfk
                    obtain ⟨M, hM⟩ : ∃ M, M = (if (if h k < G j then G j else h k) < G k then (if h k < G j then G j else h k) else G k) := ⟨_, rfl⟩
                    have HV0 : Hid (min (G k) (max (h k) (G j)) = M) := by
                      show _ = _
                      rw [hM]
                      split <;> split <;> omega
                    have HO3 := Lib.hid ((HO.out.below hb3).store hlt M)
                    have HOL3 : Hid (OwnL (w3.setCell ⟨bo, k, none⟩ (.int .i64 M)) lo (.slice (some ⟨bl, 0, none⟩) ll.length cv) ll) := OwnS.of_block (HOL.out.below hb3).s (fun x hx => Below.heap_setCell _ _ _ _ (fun e => by
                      have h1 := (HOL.out.s.lt hx).1
                      have h2 := HLo.out bo rfl
                      have e : x = bo := e
                      omega))
                    have hb3' : Below w.heap.size w (w3.setCell ⟨bo, k, none⟩ (.int .i64 M)) := (hbel.trans (hb3.mono hbel.size)).setCell (by exact hlo') _
                    clear l1 l2 l3 hce hck hcj hfk
                    show wpList _ _ _ _ _ w3
                    rw [← hM]
                    clear hM
                    go_wp2_with fail
                    go_roundw
                    case rel =>
                      refine ⟨m + 1, _, by omega, by go_num, HO3.out, HOL3.out, ?_, fun _ => HBR.out, hb3'⟩
                      rw [← HV0.out]
                      exact HS1.out
                    case measure => simp [intOf]; omega
                · have HM : Hid (m = ll.length) := by show m = ll.length; omega
                  have d1 : decide (m < ll.length) = false := by simpa using hlt2
                  go_wp2_with fail
                  go_roundw
                  case rel => exact ⟨k + 1, G, by omega, by go_num, HO.out, HNx.out G (by rw [← HM.out]; exact HS.out), hbel⟩
                  case measure => simp [intOf]; omega
            · have hkN : k = N := by omega
              have HKN := Lib.hid hkN
              clear hkN
              go_wp2_with fail
              go_roundw
              case rel =>
                have hS : Swp n C h F G (n * C) 0 := by have := HS.out; rw [HKN.out, HN.out, ← HC.out] at this; exact this
                exact ⟨kr + 1, G, by omega, by go_num, HO.out, ⟨hS.snd, hS.bd, HR1.out.2.2.next HR1.out.2.1 hS⟩, hbel⟩
              case measure => simp [intOf]; omega
        · have HKN : Hid (kr = n * C) := by show kr = n * C; rw [HC.out, ← HN.out]; omega
          go_wp2_with fail
          go_ret
          have hF : FillF n C h F := fill_of_sat HR1.out.1 (by rw [← HKN.out]; exact HR1.out.2.2)
          exact ⟨_, rfl, HF.out.congr (fun i hi => hF.eq (by rw [HC.out, ← HN.out]; exact hi)), hbel⟩

end Go.Proofs.Ythndabbjkkjkhaa
