/- The regions of a level: what the reference's function returns. -/
import Derived.Test.YtgekjhmjjjkibaaQu
import Derived.Test.YtgekjhmjjjkibaaSid
import Derived.Test.YtgekjhmjjjkibaaPlL
namespace Go.Proofs.Ytgekjhmjjjkibaa
set_option linter.unusedVariables false
set_option linter.unusedSimpArgs false
open Go.RowKit

/-- What the row of numbers reads while the cells with a mark get the number c. -/
def Lay (N : Nat) (F0 : Nat → Int) (c : Int) (mark : Nat → Bool) (F : Nat → Int) : Prop := ∀ x, x < N → F x = if mark x then c else F0 x
theorem Lay.mark {N : Nat} {F0 F : Nat → Int} {c : Int} {mark : Nat → Bool} (h : Lay N F0 c mark F) (j : Nat) : Lay N F0 c (setB mark j) (upd F j c) := fun x hx => by
  by_cases e : x = j
  · subst e; rw [upd_at, setB_at, if_pos rfl]
  · rw [upd_ne _ _ e, setB_ne _ e]; exact h x hx

def RetNums (N c : Nat) (F : Nat → Int) (w : World) (e : Ending) (w' : World) : Prop :=
  ∃ A cp, e = .returned (.tuple #[.slice A N cp, .int .i64 (c : Nat)]) ∧ OwnI w' w.heap.size (.slice A N cp) N F ∧ Below w.heap.size w w'

set_option maxHeartbeats 1500000 in
set_option maxRecDepth 100000 in
theorem l3Numbers_any (A : Option Addr) (n cp : Nat) (L : Nat → Nat) (g : Nat → Nat → Int) (l : Int) (w : World) (hg : GridF w A n L g) (hv : Valid n L g) :
    Calls Try.prog 59 #[.slice A n cp, .int .i64 l] w (RetNums (n * L 0) (regN n (L 0) (flat (L 0) g) l) (regV n (L 0) (flat (L 0) g) l) w) := by
  have HG := Lib.hid hg
  have HV := Lib.hid hv
  have hn1 := hv.1
  have hn2 := hv.2.1
  have hl1 := hv.2.2.1
  have hl2 := hv.2.2.2.1
  obtain ⟨h, hh⟩ : ∃ h, h = flat (L 0) g := ⟨_, rfl⟩
  rw [← hh]
  have HH := Lib.hid hh
  obtain ⟨N, hN⟩ : ∃ N, N = n * L 0 := ⟨_, rfl⟩
  have hN1 : N ≤ 49 := by rw [hN]; exact Nat.le_trans (Nat.mul_le_mul hn2 hl2) (by decide)
  have hN0 : 0 < N := by rw [hN]; exact Nat.mul_pos (by omega) (by omega)
  have HN := Lib.hid hN
  have HMut : Hid (Mut N (nearL n (L 0))) := by show Mut N _; rw [hN]; exact nearL_mut n (L 0)
  have HRN : Hid (regN n (L 0) h l = cnt (repB N (nearL n (L 0)) (fun x => l ≤ h x)) N) := by rw [hN]; rfl
  have HRV : Hid (∀ F, Lab N (nearL n (L 0)) (fun x => l ≤ h x) N F → ∀ i, i < N → F i = regV n (L 0) h l i) := fun F hF i hi => by
    rw [Lab.done HMut.out hF hi, hN]; rfl
  rw [← hN]
  clear hg hv hh hN
  have HE : Hid (OwnI (w.alloc (.cells #[] 3)) w.heap.size (.slice (some ⟨w.heap.size, 0, none⟩) 0 0) 0 (fun _ => 0)) := OwnS.new w w.heap.size 3 _ (Nat.le_refl _) #[] 0 rfl (by decide)
  have hbe := below_alloc w (.cells #[] 3)
  go_enter Try.func59, Try.ntmps59
  go_wp2_with fail
  generalize w.alloc _ = w0 at *
  go_loopw [6, 7] (fun v i wr => ∃ (k : Nat) (F : Nat → Int), k ≤ N ∧ i = .int .i64 k ∧ Hid (OwnI wr w.heap.size v k F) ∧ Hid (∀ j, j < k → F j = -1) ∧ Below w.heap.size w wr) (fun _ i _ => N - (intOf i).toNat)
  case atStart => exact ⟨0, _, Nat.zero_le _, rfl, HE.out, fun j hj => absurd hj (Nat.not_lt_zero j), hbe⟩
  case round =>
    clear HE hbe
    obtain ⟨k, F, hk, rfl, HO, HD, hbel⟩ := hrel
    obtain ⟨Ao, co, rfl, _⟩ := HO.out.s.slice
    have HG1 := Lib.hid (HG.out.below hbel)
    go_wp2_with fail
    refine (l2Cells_any _ _ _ _ _ _ HG1.out (by omega) (by omega) (by omega)).mono ?_
    rintro e w' ⟨rfl, rfl⟩
    rw [← HN.out]
    by_cases hlt : k < N
    · have hs := hbel.size
      go_wp2_with (at_builtin; refine wpList_app1 rfl (.tmp 21) (.tmp 22) 29 rfl Try.underlying29 Try.infoI rfl rfl HO.out.s (x := .int .i64 (-1)) rfl rfl (by omega) (by decide) hs ?_; intro v' w3 ho hg3; obtain ⟨A3, c3, rfl, _⟩ := ho.slice)
      have HO3 := Lib.hid (OwnI.snoc ho)
      have hb3 : Below w.heap.size w w3 := hbel.trans (hg3.below hs (fun j hj => (HO.out.s.lt hj).1))
      clear ho hg3
      go_wp2_with fail
      go_roundw
      case rel =>
        refine ⟨k + 1, _, by omega, by go_num, HO3.out, fun j hj => ?_, hb3⟩
        by_cases e : j = k
        · subst e; exact upd_at _ _ _
        · rw [upd_ne _ _ e]; exact HD.out j (by omega)
      case measure => simp [intOf]; omega
    · obtain rfl : k = N := by omega
      have HO1 : Hid (OwnI wr w.heap.size (.slice Ao k co) k (fun _ => -1)) := HO.out.congr HD.out
      obtain ⟨bo, rfl, hbo1, hbo2, _⟩ := HO1.out.cells hN0
      have HL0 : Hid (Lab k (nearL n (L 0)) (fun x => l ≤ h x) 0 (fun _ => -1)) := Lab.zero
      clear HO HD HG1
      go_wp2_with fail
      clear hbo2
      go_loopw [8, 9] (fun cv i wi => ∃ (m : Nat) (F : Nat → Int), m ≤ k ∧ i = .int .i64 m ∧ cv = .int .i64 ((cnt (repB k (nearL n (L 0)) (fun x => l ≤ h x)) m : Nat)) ∧ Hid (OwnI wi w.heap.size (.slice (some ⟨bo, 0, none⟩) k co) k F) ∧ Hid (Lab k (nearL n (L 0)) (fun x => l ≤ h x) m F) ∧ Below w.heap.size w wi) (fun _ i _ => k - (intOf i).toNat)
      case atStart => exact ⟨0, _, Nat.zero_le _, rfl, rfl, HO1.out, HL0.out, hbel⟩
      case round =>
        clear HO1 HL0 hbel
        obtain ⟨m, F, hm, rfl, rfl, HO, HLab, hbel⟩ := hrel
        have hcn := cnt_le (repB k (nearL n (L 0)) (fun x => l ≤ h x)) m
        by_cases hlt : m < k
        · obtain ⟨bo', ebo, _, hbo2, hcells⟩ := HO.out.cells hN0
          injection ebo with ebo
          injection ebo with ebo
          subst ebo
          obtain ⟨hcm, hfm⟩ := hcells m hlt
          have HCells := Lib.hid hcells
          clear hcells
          have HG1 := Lib.hid (HG.out.below hbel)
          have HI : Hid (m < n * L 0) := by show m < n * L 0; rw [← HN.out]; exact hlt
          by_cases q1 : 0 ≤ F m
          · have d1 : decide (0 ≤ F m) = true := decide_eq_true q1
            obtain ⟨n1, n2⟩ := HLab.out.skip (HLab.out.notRep hlt q1)
            have N1 := Lib.hid n1
            have N2 := Lib.hid n2
            clear n1 n2 q1
            go_wp2_with fail
            go_roundw
            case rel => exact ⟨m + 1, F, by omega, by go_num, val_int (by rw [N2.out]), HO.out, N1.out, hbel⟩
            case measure => simp [intOf]; omega
          · have d1 : decide (0 ≤ F m) = false := decide_eq_false q1
            go_wp2_with fail
            refine (l2Height_h _ _ _ _ _ _ h _ HG1.out HV.out HH HI.out).mono ?_
            rintro e w2 ⟨rfl, hb2⟩
            have hbel2 := hbel.trans (hb2.mono hbel.size)
            have HO2 := Lib.hid (HO.out.below hb2)
            by_cases q2 : l ≤ h m
            · have d2 : decide (h m < l) = false := decide_eq_false (by omega)
              have HRep := Lib.hid (HLab.out.isRep HMut.out hlt q2 (by omega))
              have HFresh : Hid (∀ x, Lnk k (nearL n (L 0)) (fun x => l ≤ h x) x m → F x = -1) := fun x hx => HLab.out.fresh HRep.out hx
              have hcm2 := (hb2.cell (by exact hbo2)).trans hcm
              have hfm2 : w2.frozen? ⟨bo, m, none⟩ = false := (hb2.frozen (by exact hbo2)).trans hfm
              obtain ⟨c, hc⟩ : ∃ c, c = cnt (repB k (nearL n (L 0)) (fun x => l ≤ h x)) m := ⟨_, rfl⟩
              rw [← hc] at hcn ⊢
              have HC := Lib.hid hc
              -- the search begins
              have hbo3 : bo < w2.heap.size := Nat.lt_of_lt_of_le hbo2 hb2.size
              have hsz : (w2.setCell ⟨bo, m, none⟩ (.int .i64 (c : Nat))).heap.size = w2.heap.size := by simp [World.setCell]
              have HB0 : Hid (Bfs w ((w2.setCell ⟨bo, m, none⟩ (.int .i64 (c : Nat))).alloc (.cells #[.int .i64 (m : Nat)] 3)) bo co w2.heap.size k (upd F m (c : Nat)) (.slice (some ⟨w2.heap.size, 0, none⟩) 1 1) 1 (fun _ => m)) := by
                rw [← hsz]
                exact ⟨(HO2.out.store hlt _).below (below_alloc _ _), OwnS.single _ _ _ _ _ (Nat.le_refl _) rfl, ⟨by rw [hsz]; exact hbo3, hbo1, by simp⟩, (hbel2.setCell hbo1 _).alloc (by rw [hsz]; exact hbel2.size) _⟩
              have HS0 : Hid (Srch k (nearL n (L 0)) (fun x => l ≤ h x) m (fun y => y == m) (Wait 0 1 (fun _ => m))) := Srch.new hlt q2 (fun y => by simp) (fun y => ⟨fun ⟨_, _, _, e⟩ => e.symm, fun e => ⟨0, Nat.le_refl _, by omega, e.symm⟩⟩)
              have HY0 : Hid (Lay k F (c : Nat) (fun y => y == m) (upd F m (c : Nat))) := fun x hx => by
                unfold upd
                by_cases e : x = m
                · simp [e]
                · simp [e]
              have HN0 : Hid (1 = cnt (fun y => y == m) k) := by
                have h1 : cnt (fun y => y == m) k = cnt (setB (fun _ => false) m) k := cnt_congr fun i _ => by unfold setB; by_cases e : i = m <;> simp [e]
                show 1 = _
                rw [h1, cnt_setB rfl hlt, cnt_zero (fun _ _ => rfl)]
              clear HO HO2 hc q1 hcm
              go_upto_region 13 with (fail)
              clear d1 d2 hcm2 hfm2 hbo2 hbo3 hsz
              generalize w2.heap.size = lo at *
              generalize World.alloc (World.setCell w2 _ _) _ = w4 at *
              go_wp2_with fail
              go_loopw [10, 11] (fun v i wi => ∃ (q ln : Nat) (mark : Nat → Bool) (F' : Nat → Int) (s : Nat → Nat), q ≤ ln ∧ i = .int .i64 q ∧ Hid (Bfs w wi bo co lo k F' v ln s) ∧ Hid (Srch k (nearL n (L 0)) (fun x => l ≤ h x) m mark (Wait q ln s)) ∧ Hid (Lay k F (c : Nat) mark F') ∧ Hid (ln = cnt mark k)) (fun _ i _ => k - (intOf i).toNat)
              case atStart => exact ⟨0, 1, _, _, _, Nat.zero_le _, rfl, HB0.out, HS0.out, HY0.out, HN0.out⟩
              case round =>
                clear HB0 HS0 HY0 HN0
                obtain ⟨q, ln, mark, F', s, hq, rfl, HB, HS, HY, HLn⟩ := hrel
                have hln : ln ≤ k := by rw [HLn.out]; exact cnt_le _ _
                obtain ⟨Av, cv, rfl, _⟩ := HB.out.st.slice
                by_cases hlt2 : q < ln
                · obtain ⟨bs, cs', hv', _, _, hcs, _⟩ := HB.out.st.cell hlt2
                  injection hv' with hv1 hv2 hv3
                  subst hv1 hv3
                  have HLx := Lib.hid (HS.out.snd (s q) (HS.out.tod _ ⟨q, Nat.le_refl _, hlt2, rfl⟩))
                  have HI2 : Hid (s q < n * L 0) := by show s q < n * L 0; rw [← HN.out]; exact HLx.out.lt
                  have HS1 : Hid (SrchAt k (nearL n (L 0)) (fun x => l ≤ h x) m mark (Wait (q + 1) ln s) (s q) 0) := HS.out.take ⟨q, Nat.le_refl _, hlt2, rfl⟩ (fun y hy => hy.pop) (fun y hy => hy.of)
                  have HG3 := Lib.hid (HG.out.below HB.out.bel)
                  have hsq : s q ≤ 49 := by have := HLx.out.lt; omega
                  go_wp2_with fail
                  refine (l2Near_any _ _ _ _ _ _ _ HG3.out (by omega) (by omega) (by omega) (by omega) HI2.out).mono ?_
                  rintro e w5 ⟨nv, rfl, hown, hb5⟩
                  obtain ⟨Al, cl, rfl⟩ := hown.slice
                  have HNe : Hid (∀ x, (Value.slice Al (nearL n (L 0) (s q)).length cl).ownBlock = some x → (Value.slice (some ⟨bs, 0, none⟩) ln cv).ownBlock ≠ some x) := fun x hx hx' => by
                    have h1 := (hown.s.lt hx).1
                    have h2 := (HB.out.st.lt hx').2
                    omega
                  have HLo : Hid (bo < wr.heap.size) := by have := HB.out.lt; show bo < _; omega
                  have HOL := Lib.hid hown
                  have HB5 := Lib.hid (HB.out.keep hb5)
                  have HMem : Hid (∀ p, p < (nearL n (L 0) (s q)).length → (nearL n (L 0) (s q)).getD p 0 < k) := fun p hp => by rw [HN.out]; exact nearL_lt HI2.out (getD_in hp)
                  have HPass : Hid (∀ (mark : Nat → Bool) (T : Nat → Prop) p, SrchAt k (nearL n (L 0)) (fun x => l ≤ h x) m mark T (s q) p → (l ≤ h ((nearL n (L 0) (s q)).getD p 0) → mark ((nearL n (L 0) (s q)).getD p 0) = true) → SrchAt k (nearL n (L 0)) (fun x => l ≤ h x) m mark T (s q) (p + 1)) := fun _ _ _ H hh => H.pass hh
                  have HMark : Hid (∀ (mark : Nat → Bool) (T T' : Nat → Prop) p, SrchAt k (nearL n (L 0)) (fun x => l ≤ h x) m mark T (s q) p → p < (nearL n (L 0) (s q)).length → l ≤ h ((nearL n (L 0) (s q)).getD p 0) → (∀ y, T' y ↔ T y ∨ y = (nearL n (L 0) (s q)).getD p 0) → SrchAt k (nearL n (L 0)) (fun x => l ≤ h x) m (setB mark ((nearL n (L 0) (s q)).getD p 0)) T' (s q) (p + 1)) := fun _ _ _ _ H hm ho hT => H.mark HMut.out hm ho hT
                  have HEnd : Hid (∀ (mark : Nat → Bool) (T : Nat → Prop), SrchAt k (nearL n (L 0)) (fun x => l ≤ h x) m mark T (s q) (nearL n (L 0) (s q)).length → Srch k (nearL n (L 0)) (fun x => l ≤ h x) m mark T) := fun _ _ H => H.end_
                  have HAdj : Hid (∀ p, p < (nearL n (L 0) (s q)).length → l ≤ h ((nearL n (L 0) (s q)).getD p 0) → F ((nearL n (L 0) (s q)).getD p 0) = -1) := fun p hp ho => by
                    have hmem := getD_in hp
                    have hmu := HMut.out _ _ HLx.out.lt hmem
                    exact HFresh.out _ (HLx.out.edge hmu.1 ho hmu.2)
                  have hl4 := nearL_len n (L 0) (s q)
                  obtain ⟨lo2, hlo2⟩ : ∃ x, x = wr.heap.size := ⟨_, rfl⟩
                  rw [← hlo2] at HOL HLo
                  clear hown hb5 HB HS hcs hlo2 HG3
                  generalize nearL n (L 0) (s q) = ll at *
                  generalize s q = x at *
                  go_wp2_with fail
                  go_loopw [10, 13] (fun v i wi => ∃ (p ln : Nat) (mark : Nat → Bool) (F' : Nat → Int) (s : Nat → Nat), p ≤ ll.length ∧ q < ln ∧ i = .int .i64 p ∧ Hid (Bfs w wi bo co lo k F' v ln s) ∧ Hid (OwnL wi lo2 (.slice Al ll.length cl) ll) ∧ Hid (∀ x, (Value.slice Al ll.length cl).ownBlock = some x → v.ownBlock ≠ some x) ∧ Hid (SrchAt k (nearL n (L 0)) (fun x => l ≤ h x) m mark (Wait (q + 1) ln s) x p) ∧ Hid (Lay k F (c : Nat) mark F') ∧ Hid (ln = cnt mark k)) (fun _ i _ => ll.length - (intOf i).toNat)
                  case atStart => exact ⟨0, ln, mark, F', s, Nat.zero_le _, hlt2, rfl, HB5.out, HOL.out, HNe.out, HS1.out, HY.out, HLn.out⟩
                  case round =>
                    clear HB5 HOL HNe HS1 HY HLn hln hlt2 hq
                    obtain ⟨p, ln, mark, F', s, hp, hqln, rfl, HB, HOL, HNe, HS, HY, HLn⟩ := hrel
                    have hln : ln ≤ k := by rw [HLn.out]; exact cnt_le _ _
                    obtain ⟨Av, cv, rfl, _⟩ := HB.out.st.slice
                    by_cases hlt2 : p < ll.length
                    · obtain ⟨bl, rfl, hce⟩ := HOL.out.at_ hlt2
                      have hjN := HMem.out p hlt2
                      have HP1 := Lib.hid (HPass.out mark _ p HS.out)
                      have HM1 := Lib.hid (HMark.out mark (Wait (q + 1) ln s) (Wait (q + 1) (ln + 1) (updN s ln (ll.getD p 0))) p HS.out hlt2)
                      have HA1 := Lib.hid (HAdj.out p hlt2)
                      obtain ⟨bo', ebo, _, hbo2, hcells⟩ := HB.out.out.cells hN0
                      injection ebo with ebo
                      injection ebo with ebo
                      subst ebo
                      obtain ⟨hcj, hfj⟩ := hcells _ hjN
                      clear hcells
                      have HYj := Lib.hid (HY.out _ hjN)
                      have HG3 := Lib.hid (HG.out.below HB.out.bel)
                      have hbl : bl < wr.heap.size := World.block_lt_of_cell? _ _ hce
                      generalize ll.getD p 0 = j at *
                      by_cases q3 : F' j < 0
                      · have d3 : decide (F' j < 0) = true := decide_eq_true q3
                        have HMj : Hid (mark j = false) := by
                          show mark j = false
                          cases e : mark j
                          · rfl
                          · have := HYj.out
                            rw [e, if_pos rfl] at this
                            omega
                        have HI3 : Hid (j < n * L 0) := by show j < n * L 0; rw [← HN.out]; exact hjN
                        go_wp2_with fail
                        refine (l2Height_h _ _ _ _ _ _ h _ HG3.out HV.out HH HI3.out).mono ?_
                        rintro e w6 ⟨rfl, hb6⟩
                        have HB6 := Lib.hid (HB.out.keep hb6)
                        have HOL6 := Lib.hid (HOL.out.below hb6)
                        have hce6 := (hb6.cell (by exact hbl)).trans hce
                        have hcj6 := (hb6.cell (by exact hbo2)).trans hcj
                        have hfj6 : w6.frozen? ⟨bo, j, none⟩ = false := (hb6.frozen (by exact hbo2)).trans hfj
                        clear hce hcj hfj
                        by_cases q4 : l ≤ h j
                        · have HB7 := Lib.hid (HB6.out.wrote hjN (c : Nat))
                          have HOL7 : Hid (OwnL (w6.setCell ⟨bo, j, none⟩ (.int .i64 (c : Nat))) lo2 (.slice (some ⟨bl, 0, none⟩) ll.length cl) ll) := OwnS.of_block HOL6.out.s (fun x hx => Below.heap_setCell _ _ _ _ (fun e => by
                            have h1 := (HOL6.out.s.lt hx).1
                            have h2 := HLo.out
                            have e : x = bo := e
                            omega))
                          have hbl7 : bl < w6.heap.size := Nat.lt_of_lt_of_le hbl hb6.size
                          have hce7 : (w6.setCell ⟨bo, j, none⟩ (.int .i64 (c : Nat))).cell? ⟨bl, p, none⟩ = some (.int .i64 (j : Nat)) := (World.cell?_of_block (Below.heap_setCell _ _ _ _ (by
                            have h1 := (HOL6.out.s.lt (k := bl) rfl).1
                            have h2 := HLo.out
                            show bl ≠ bo
                            omega))).trans hce6
                          go_upto_region 22 with (fail)
                          clear hce6 hcj6 hfj6 hbo2 d3
                          generalize World.setCell w6 _ _ = w7 at *
                          go_wp2_with (at_builtin; refine wpList_app1 rfl (.tmp 91) (.tmp 96) 29 rfl Try.underlying29 Try.infoI rfl rfl HB7.out.st (x := .int .i64 (j : Nat)) rfl rfl (by omega) (by decide) HB7.out.lt.2.2 ?_; intro v' w8 ho hg8; obtain ⟨A8, c8, rfl, _⟩ := ho.slice)
                          have HB8 := Lib.hid (HB7.out.pushed hg8 ho)
                          have HOL8 : Hid (OwnL w8 lo2 (.slice (some ⟨bl, 0, none⟩) ll.length cl) ll) := OwnS.of_block HOL7.out.s (fun x hx => hg8.block x (HOL7.out.s.lt hx).2 (HNe.out x hx))
                          have HNe8 : Hid (∀ x, (Value.slice (some ⟨bl, 0, none⟩) ll.length cl).ownBlock = some x → (Value.slice A8 (ln + 1) c8).ownBlock ≠ some x) := fun x hx hx' => by
                            rcases hg8.at_ with e | ⟨x', e, hx2⟩
                            · exact HNe.out x hx (e.symm.trans hx')
                            · rw [e] at hx'
                              injection hx' with hx'
                              have := (HOL7.out.s.lt hx).2
                              omega
                          have HY8 := Lib.hid (HY.out.mark j)
                          have HS8 := Lib.hid (HM1.out q4 (fun y => Wait.push (by omega)))
                          have HL8 : Hid (ln + 1 = cnt (setB mark j) k) := by show _ = _; rw [cnt_setB HMj.out hjN, HLn.out]
                          clear ho hg8 hce7
                          go_wp2_with fail
                          go_roundw
                          case rel => exact ⟨p + 1, ln + 1, setB mark j, _, _, by omega, by omega, by go_num, HB8.out, HOL8.out, HNe8.out, HS8.out, HY8.out, HL8.out⟩
                          case measure => simp [intOf]; omega
                        · have HP2 := Lib.hid (HP1.out (fun hh => absurd hh q4))
                          go_wp2_with fail
                          go_roundw
                          case rel => exact ⟨p + 1, ln, mark, F', s, by omega, hqln, by go_num, HB6.out, HOL6.out, HNe.out, HP2.out, HY.out, HLn.out⟩
                          case measure => simp [intOf]; omega
                      · have d3 : decide (F' j < 0) = false := decide_eq_false q3
                        have HP2 := Lib.hid (HP1.out (fun hh => by
                          cases e : mark j
                          · have h1 := HYj.out
                            rw [e, if_neg (by decide), HA1.out hh] at h1
                            omega
                          · rfl))
                        go_wp2_with fail
                        go_roundw
                        case rel => exact ⟨p + 1, ln, mark, F', s, by omega, hqln, by go_num, HB.out, HOL.out, HNe.out, HP2.out, HY.out, HLn.out⟩
                        case measure => simp [intOf]; omega
                    · have HP : Hid (p = ll.length) := by show p = ll.length; omega
                      go_wp2_with fail
                      go_roundw
                      case rel => exact ⟨q + 1, ln, mark, F', s, by omega, by go_num, HB.out, HEnd.out mark _ (by rw [← HP.out]; exact HS.out), HY.out, HLn.out⟩
                      case measure => simp [intOf]; omega
                · obtain rfl : q = ln := by omega
                  have HDone : Hid (∀ y, mark y = true ↔ Lnk k (nearL n (L 0)) (fun x => l ≤ h x) y m) := fun y => HS.out.done HMut.out (fun y => Wait.none)
                  have hadd := HLab.out.add HMut.out HRep.out (out' := F') (fun x hx hl => by rw [HY.out x hx, if_pos ((HDone.out x).2 hl), HC.out]) (fun x hx hl => by rw [HY.out x hx, if_neg (fun e => hl ((HDone.out x).1 e))])
                  have N1 := Lib.hid hadd.1
                  have N2 := Lib.hid hadd.2
                  clear hadd
                  go_wp2_with fail
                  go_roundw
                  case rel => exact ⟨m + 1, F', by omega, by go_num, val_int (by rw [N2.out, ← HC.out]; omega), HB.out.out, N1.out, HB.out.bel⟩
                  case measure => simp [intOf]; omega
            · have d2 : decide (h m < l) = true := decide_eq_true (by omega)
              obtain ⟨n1, n2⟩ := HLab.out.skip (fun hr => q2 hr.2.1)
              have N1 := Lib.hid n1
              have N2 := Lib.hid n2
              clear n1 n2
              go_wp2_with fail
              go_roundw
              case rel => exact ⟨m + 1, F, by omega, by go_num, val_int (by rw [N2.out]), HO2.out, N1.out, hbel2⟩
              case measure => simp [intOf]; omega
        · obtain rfl : m = k := by omega
          have HF := Lib.hid (HRV.out F HLab.out)
          go_wp2_with fail
          go_ret2
          exact ⟨_, _, by rw [HRN.out]; rfl, HO.out.congr HF.out, hbel⟩

end Go.Proofs.Ytgekjhmjjjkibaa
