/- The passes from one cell: what the reference's function returns. -/
import Derived.Test.YtgekjhmjjjkibaaSFil
import Derived.Test.YtgekjhmjjjkibaaLvn
import Derived.Test.YtgekjhmjjjkibaaPlP
import Derived.Test.YtgekjhmjjjkibaaPk
namespace Go.Proofs.Ytgekjhmjjjkibaa
set_option linter.unusedVariables false
set_option linter.unusedSimpArgs false
open Go.RowKit

/-- A list of heights in new memory. -/
def RetPS (n : Nat) (F : Nat → Int) (w : World) (e : Ending) (w' : World) : Prop := ∃ v, e = .returned v ∧ OwnI w' w.heap.size v n F ∧ (∀ i, i < n → 0 ≤ F i) ∧ Below w.heap.size w w'

set_option maxHeartbeats 1500000 in
set_option maxRecDepth 100000 in
theorem l4Passes_any (A : Option Addr) (n cp a : Nat) (L : Nat → Nat) (g : Nat → Nat → Int) (w : World) (hg : GridF w A n L g) (hv : Valid n L g) (ha : a < n * L 0) :
    Calls Try.prog 71 #[.slice A n cp, .int .i64 a] w (RetPS (n * L 0) (passV n (L 0) (flat (L 0) g) a) w) := by
  have HG := Lib.hid hg
  have HV := Lib.hid hv
  have hn1 := hv.1
  have hn2 := hv.2.1
  have hl1 := hv.2.2.1
  have hl2 := hv.2.2.2.1
  have hr : ∀ i, i < n * L 0 → 0 ≤ flat (L 0) g i ∧ flat (L 0) g i ≤ 99 := fun i hi => by
    obtain ⟨_, h1, h2, _⟩ := rc_in hi
    exact hv.rng h1 h2
  have HI0 := Lib.hid ha
  obtain ⟨h, hh⟩ : ∃ h, h = flat (L 0) g := ⟨_, rfl⟩
  rw [← hh] at hr ⊢
  have HH := Lib.hid hh
  have HR := Lib.hid hr
  obtain ⟨N, hN⟩ : ∃ N, N = n * L 0 := ⟨_, rfl⟩
  rw [← hN]
  rw [← hN] at ha
  have HN := Lib.hid hN
  have hN1 : N ≤ 49 := by rw [hN]; exact Nat.le_trans (Nat.mul_le_mul hn2 hl2) (by decide)
  obtain ⟨C, hC⟩ : ∃ C, C = L 0 := ⟨_, rfl⟩
  have HC := Lib.hid hC
  rw [← hC] at hl1 hl2
  clear hg hv hh hr hN
  have hmk := run_make_row' (P := Try.prog) 29 3 (.int .i64 0) 8 Try.underlying29 Try.infoI rfl .i64 .i64 N (by omega) (by omega)
  have HRow : Hid ((w.alloc (.cells (madeCells #[.int .i64 0] N) 3)).rowIs w.heap.size 3 N (fun _ => .int .i64 0)) := World.rowIs_made w _ N 3
  have HE : Hid (OwnI (w.alloc (.cells (madeCells #[.int .i64 0] N) 3)) w.heap.size (.slice (some ⟨w.heap.size, 0, none⟩) N N) N (fun _ => 0)) := own_of_row HRow.out (Nat.le_refl _) (by omega)
  have hbe := below_alloc w (.cells (madeCells #[.int .i64 0] N) 3)
  clear HRow
  rw [← hC]
  clear hC
  go_enter Try.func71, Try.ntmps71
  go_wp2_with fail
  refine (l2Cells_any _ _ _ _ _ _ HG.out (by omega) (by omega) (by rw [← HC.out]; omega)).mono ?_
  rintro e w' ⟨rfl, rfl⟩
  rw [← HN.out]
  go_wp2_with fail
  clear hmk
  generalize w.alloc _ = w0 at *
  obtain ⟨bo, hbo0⟩ : ∃ b, b = w.heap.size := ⟨_, rfl⟩
  rw [← hbo0]
  have HE1 : Hid (OwnI w0 w.heap.size (.slice (some ⟨bo, 0, none⟩) N N) N (fun _ => 0)) := by show OwnI _ _ _ _ _; rw [hbo0]; exact HE.out
  have hlo' : w.heap.size ≤ bo := by omega
  clear HE hbo0
  go_loopw [6] (fun i wr => ∃ (k : Nat) (F : Nat → Int), k ≤ N ∧ i = .int .i64 k ∧ Hid (OwnI wr w.heap.size (.slice (some ⟨bo, 0, none⟩) N N) N F) ∧ Hid (∀ j, j < k → F j = -1) ∧ Below w.heap.size w wr) (fun i _ => N - (intOf i).toNat)
  case atStart => exact ⟨0, _, Nat.zero_le _, rfl, HE1.out, fun j hj => absurd hj (Nat.not_lt_zero j), hbe⟩
  case round =>
    clear HE1 hbe
    obtain ⟨k, F, hk, rfl, HO, HD, hbel⟩ := hrel
    by_cases hlt : k < N
    · obtain ⟨b, e, _, hbo, hcells⟩ := HO.out.cells (by omega)
      injection e with e
      injection e with e
      subst e
      obtain ⟨hck, hfk⟩ := hcells k hlt
      have HO3 := Lib.hid (HO.out.store hlt (-1))
      have hb3 := hbel.setCell (by exact hlo') (p := ⟨bo, k, none⟩) (.int .i64 (-1))
      clear hcells
      go_wp2_with fail
      go_roundw
      case rel =>
        refine ⟨k + 1, _, by omega, by go_num, HO3.out, fun j hj => ?_, hb3⟩
        by_cases e : j = k
        · subst e; exact upd_at _ _ _
        · rw [upd_ne _ _ e]; exact HD.out j (by omega)
      case measure => simp [intOf]; omega
    · obtain rfl : N = k := by omega
      have HG1 := Lib.hid (HG.out.below hbel)
      go_wp2_with fail
      refine (l2Height_h _ _ _ _ _ _ h _ HG1.out HV.out HH HI0.out).mono ?_
      rintro e w2 ⟨rfl, hb2⟩
      have HO2 := Lib.hid (HO.out.below hb2)
      obtain ⟨b, e, _, hbo, hcells⟩ := HO2.out.cells (by omega)
      injection e with e
      injection e with e
      subst e
      obtain ⟨hck, hfk⟩ := hcells a ha
      have hbel2 := hbel.trans (hb2.mono hbel.size)
      have HF1 : Hid (OwnI (w2.setCell ⟨bo, a, none⟩ (.int .i64 (h a))) w.heap.size (.slice (some ⟨bo, 0, none⟩) N N) N (pass0 h a)) := (HO2.out.store ha (h a)).congr fun i hi => by
        unfold pass0
        by_cases e : i = a
        · subst e; rw [upd_at, upd_at]
        · rw [upd_ne _ _ e, upd_ne _ _ e]; exact HD.out i hi
      have hb3 := hbel2.setCell (by exact hlo') (p := ⟨bo, a, none⟩) (.int .i64 (h a))
      have HR0 : Hid (SndP n C h a (pass0 h a) ∧ h a ≤ pass0 h a a ∧ SatP n C h a (pass0 h a) 0) := ⟨sndP0 (fun i hi => (HR.out i (by rw [← HC.out]; exact hi)).1) (by rw [HC.out]; exact HI0.out), by unfold pass0; rw [upd_at]; exact Int.le_refl _, SatP.zero _⟩
      clear hcells hbel hbel2 hb2
      go_upto_region 7 with (fail)
      clear HO HO2 HD HG1 hck hfk hbo
      generalize w2.setCell _ _ = wr at *
      have hbel := hb3
      clear hb3
      go_wp2_with fail
      obtain ⟨wo, hwo⟩ : ∃ wo : World, wo = wr := ⟨_, rfl⟩
      rw [← hwo] at HF1 hbel ⊢
      clear hwo
      go_loopw [7] (fun i wr => ∃ (k : Nat) (F : Nat → Int), k ≤ N ∧ i = .int .i64 k ∧ Hid (OwnI wr w.heap.size (.slice (some ⟨bo, 0, none⟩) N N) N F) ∧ Hid (SndP n C h a F ∧ h a ≤ F a ∧ SatP n C h a F k) ∧ Below w.heap.size w wr) (fun i _ => N - (intOf i).toNat)
      case atStart => exact ⟨0, _, Nat.zero_le _, rfl, HF1.out, HR0.out, hbel⟩
      case round =>
        clear HF1 HR0 hbel
        obtain ⟨kr, F, hkr, rfl, HF, HR1, hbel⟩ := hrel
        by_cases hltr : kr < N
        · go_wp2_with fail
          obtain ⟨wo2, hwo⟩ : ∃ wo : World, wo = wr := ⟨_, rfl⟩
          rw [← hwo] at HF hbel ⊢
          clear hwo
          have HS0 : Hid (SwpP n C h a F F 0 0) := SwpP.start HR1.out.1 HR1.out.2.1
          go_loopw [8] (fun i wi => ∃ (k : Nat) (G : Nat → Int), k ≤ N ∧ i = .int .i64 k ∧ Hid (OwnI wi w.heap.size (.slice (some ⟨bo, 0, none⟩) N N) N G) ∧ Hid (SwpP n C h a F G k 0) ∧ Below w.heap.size w wi) (fun i _ => N - (intOf i).toNat)
          case atStart => exact ⟨0, F, Nat.zero_le _, rfl, HF.out, HS0.out, hbel⟩
          case round =>
            clear HF HS0 hbel
            obtain ⟨k, G, hk, rfl, HO, HS, hbel⟩ := hrel
            by_cases hlt : k < N
            · have HI : Hid (k < n * L 0) := by show k < n * L 0; rw [← HN.out]; exact hlt
              have HI' : Hid (k < n * C) := by show k < n * C; rw [HC.out]; exact HI.out
              have HMem : Hid (∀ q, q < (nearL n C k).length → (nearL n C k).getD q 0 < N) := fun q hq => by rw [HN.out, ← HC.out]; exact nearL_lt HI'.out (getD_mem hq)
              have HRel : Hid (∀ (G : Nat → Int) m, SwpP n C h a F G k m → m < (nearL n C k).length → SwpP n C h a F (upd G k (max (G k) (min (h k) (G ((nearL n C k).getD m 0))))) k (m + 1)) := fun G m H hm => H.relax HI'.out hm
              have HNx : Hid (∀ (G : Nat → Int), SwpP n C h a F G k (nearL n C k).length → SwpP n C h a F G (k + 1) 0) := fun G H => H.next
              have hl4 := nearL_len n C k
              have HG1 := Lib.hid (HG.out.below hbel)
              go_wp2_with fail
              refine (l2Near_any _ _ _ _ _ _ _ HG1.out (by omega) (by omega) (by rw [← HC.out]; omega) (by rw [← HC.out]; omega) HI.out).mono ?_
              rintro e w4 ⟨v, rfl, hown, hb4⟩
              rw [← HC.out] at hown
              have HO4 := Lib.hid (HO.out.below hb4)
              obtain ⟨Av, cv, rfl⟩ := hown.slice
              have HOL := Lib.hid hown
              have HLo : Hid (∀ x, (Value.slice (some ⟨bo, 0, none⟩) N N).ownBlock = some x → x < wr.heap.size) := fun x hx => (HO.out.s.lt hx).2
              have hbel4 := hbel.trans (hb4.mono hbel.size)
              obtain ⟨lo, hlo⟩ : ∃ lo, lo = wr.heap.size := ⟨_, rfl⟩
              rw [← hlo] at HOL HLo
              clear hown HO hb4 HG1 hbel hlo
              generalize nearL n C k = ll at *
              go_wp2_with fail
              go_loopw [10] (fun i wi => ∃ (m : Nat) (G : Nat → Int), m ≤ ll.length ∧ i = .int .i64 m ∧ Hid (OwnI wi w.heap.size (.slice (some ⟨bo, 0, none⟩) N N) N G) ∧ Hid (OwnL wi lo (.slice Av ll.length cv) ll) ∧ Hid (SwpP n C h a F G k m) ∧ Below w.heap.size w wi) (fun i _ => ll.length - (intOf i).toNat)
              case atStart => exact ⟨0, G, Nat.zero_le _, rfl, HO4.out, HOL.out, HS.out, hbel4⟩
              case round =>
                clear HO4 HOL HS hbel4
                obtain ⟨m, G, hm, rfl, HO, HOL, HS, hbel⟩ := hrel
                have HG1 := Lib.hid (HG.out.below hbel)
                by_cases hlt2 : m < ll.length
                · have d1 : decide (m < ll.length) = true := by simpa using hlt2
                  obtain ⟨bl, rfl, hce⟩ := HOL.out.at_ hlt2
                  have hjN := HMem.out m hlt2
                  obtain ⟨b, e, _, hbo, hcells⟩ := HO.out.cells (by omega)
                  injection e with e
                  injection e with e
                  subst e
                  obtain ⟨hck, hfk⟩ := hcells k hlt
                  have hcj := (hcells _ hjN).1
                  clear hcells
                  have HS1 := Lib.hid (HRel.out G m HS.out hlt2)
                  generalize ll.getD m 0 = j at *
                  have l1 := Later.cell hce
                  have l2 := Later.cell hck
                  have l3 := Later.cell hcj
                  go_wp2_with fail
                  refine wp_region_later_tail 19 (by kernel_rfl) (by kernel_rfl) ?_
                  simp only [List.take_succ_cons, List.take_zero, List.drop_succ_cons, List.drop_zero]
                  repeat (go_big_quiet_step ((go_at_call 53; exact quietL (l2Height_h _ _ _ _ _ _ h _ (HG1.out.below (Later.below _)) HV.out HH HI.out))))
                  refine wpQuiet_nil ?_
                  rintro w3 ⟨⟨_, hb3⟩, rfl⟩
                  have hck3 : w3.cell? ⟨bo, k, none⟩ = _ := (hb3.cell (by exact hbo)).trans hck
                  have hfk3 : w3.frozen? ⟨bo, k, none⟩ = false := (hb3.frozen (by exact hbo)).trans hfk
                  obtain ⟨M, hM⟩ : ∃ M, M = (if G k < (if G j < h k then G j else h k) then (if G j < h k then G j else h k) else G k) := ⟨_, rfl⟩
                  have HV0 : Hid (max (G k) (min (h k) (G j)) = M) := by
                    show _ = _
                    rw [hM]
                    split <;> split <;> omega
                  have HO3 := Lib.hid ((HO.out.below hb3).store hlt M)
                  have HOL3 : Hid (OwnL (w3.setCell ⟨bo, k, none⟩ (.int .i64 M)) lo (.slice (some ⟨bl, 0, none⟩) ll.length cv) ll) := OwnS.of_block (HOL.out.below hb3).s (fun x hx => Below.heap_setCell _ _ _ _ (fun e => by
                    have h1 := (HOL.out.s.lt hx).1
                    have h2 := HLo.out bo rfl
                    have e : x = bo := e
                    omega))
                  have hb3' : Below w.heap.size w (w3.setCell ⟨bo, k, none⟩ (.int .i64 M)) := (hbel.trans (hb3.mono hbel.size)).setCell (by exact hlo') _
                  clear l1 l2 l3 hce hck hcj hfk
                  show wpList _ _ _ _ _ w3
                  rw [← hM]
                  clear hM
                  go_wp2_with fail
                  go_roundw
                  case rel =>
                    refine ⟨m + 1, _, by omega, by go_num, HO3.out, HOL3.out, ?_, hb3'⟩
                    rw [← HV0.out]
                    exact HS1.out
                  case measure => simp [intOf]; omega
                · have HM : Hid (m = ll.length) := by show m = ll.length; omega
                  have d1 : decide (m < ll.length) = false := by simpa using hlt2
                  go_wp2_with fail
                  go_roundw
                  case rel => exact ⟨k + 1, G, by omega, by go_num, HO.out, HNx.out G (by rw [← HM.out]; exact HS.out), hbel⟩
                  case measure => simp [intOf]; omega
            · have hkN : k = N := by omega
              have HKN := Lib.hid hkN
              clear hkN
              go_wp2_with fail
              go_roundw
              case rel =>
                have hS : SwpP n C h a F G (n * C) 0 := by have := HS.out; rw [HKN.out, HN.out, ← HC.out] at this; exact this
                exact ⟨kr + 1, G, by omega, by go_num, HO.out, ⟨hS.snd, hS.src, HR1.out.2.2.next HR1.out.2.1 hS⟩, hbel⟩
              case measure => simp [intOf]; omega
        · have HKN : Hid (kr = n * C) := by show kr = n * C; rw [HC.out, ← HN.out]; omega
          go_wp2_with fail
          go_ret
          have hF : PassF n C h a F := pass_of_sat HR1.out.1 (by rw [← HKN.out]; exact HR1.out.2.2)
          have hE : ∀ i, i < N → F i = passV n C h a i := fun i hi => hF.eq (by rw [HC.out, ← HN.out]; exact hi)
          exact ⟨_, rfl, HF.out.congr hE, fun i hi => by rw [← hE i hi]; exact (hF i (by rw [HC.out, ← HN.out]; exact hi) 0).2 (grid_link (fun j hj => (HR.out j (by rw [← HC.out]; exact hj)).1) (by rw [HC.out, ← HN.out]; exact hi) (by rw [HC.out]; exact HI0.out)), hbel⟩

end Go.Proofs.Ytgekjhmjjjkibaa
