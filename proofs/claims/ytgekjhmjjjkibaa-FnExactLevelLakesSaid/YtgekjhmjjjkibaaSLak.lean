/- Lakes: what the reference's function returns, and the program's LevelLakes. -/
import Derived.Test.YtgekjhmjjjkibaaLak
import Derived.Test.YtgekjhmjjjkibaaSNum
import Derived.Test.YtgekjhmjjjkibaaSFil
namespace Go.Proofs.Ytgekjhmjjjkibaa
set_option linter.unusedVariables false
set_option linter.unusedSimpArgs false
open Go.RowKit

section
variable {N : Nat} {near : Nat → List Nat} {ok : Nat → Prop}
/-- Just the cells are seen whose least linked cell is before k. -/
def Snb (N : Nat) (near : Nat → List Nat) (ok : Nat → Prop) (k : Nat) (sn : Nat → Bool) : Prop := ∀ x, x < N → (sn x = true ↔ ∃ r, r < k ∧ Rep N near ok r ∧ Lnk N near ok r x)
theorem Snb.zero : Snb N near ok 0 (fun _ => false) := fun _ _ => ⟨fun e => (by cases e), fun ⟨r, h, _⟩ => absurd h (Nat.not_lt_zero r)⟩
theorem Snb.skip {k : Nat} {sn : Nat → Bool} (H : Snb N near ok k sn) (hn : ¬ Rep N near ok k) : Snb N near ok (k + 1) sn := fun x hx => by
  rw [H x hx]
  constructor
  · rintro ⟨r, h1, h2, h3⟩; exact ⟨r, by omega, h2, h3⟩
  · rintro ⟨r, h1, h2, h3⟩
    by_cases e : r = k
    · subst e; exact absurd h2 hn
    · exact ⟨r, by omega, h2, h3⟩
theorem Snb.rep (hm : Mut N near) {k : Nat} {sn : Nat → Bool} (H : Snb N near ok k sn) (hk : k < N) (ho : ok k) (hs : sn k = false) : Rep N near ok k := by
  refine ⟨hk, ho, fun j hj hl => ?_⟩
  obtain ⟨r, h1, h2, h3⟩ := rep_exists hm j j (Nat.le_refl _) hl.lt hl.fit
  have := (H k hk).2 ⟨r, by omega, h2, h3.trans hl⟩
  rw [hs] at this; cases this
theorem Snb.notRep {k : Nat} {sn : Nat → Bool} (H : Snb N near ok k sn) (hk : k < N) (hs : sn k = true) : ¬ Rep N near ok k := by
  obtain ⟨r, h1, _, h3⟩ := (H k hk).1 hs
  exact fun h => h.2.2 r h1 h3
theorem Snb.fresh (hm : Mut N near) {k : Nat} {sn : Nat → Bool} (H : Snb N near ok k sn) (hr : Rep N near ok k) {x : Nat} (hx : Lnk N near ok x k) : sn x = false := by
  cases e : sn x
  · rfl
  · obtain ⟨r, h1, _, h3⟩ := (H x hx.lt).1 e
    exact absurd (h3.trans hx) (hr.2.2 r h1)
theorem Snb.add (hm : Mut N near) {k : Nat} {sn sn' mark : Nat → Bool} (H : Snb N near ok k sn) (hr : Rep N near ok k) (h1 : ∀ x, x < N → sn' x = (sn x || mark x)) (h2 : ∀ x, mark x = true ↔ Lnk N near ok x k) : Snb N near ok (k + 1) sn' := fun x hx => by
  rw [h1 x hx, Bool.or_eq_true, H x hx, h2 x]
  constructor
  · rintro (⟨r, g1, g2, g3⟩ | g)
    · exact ⟨r, by omega, g2, g3⟩
    · exact ⟨k, by omega, hr, g.symm hm⟩
  · rintro ⟨r, g1, g2, g3⟩
    by_cases e : r = k
    · subst e; exact .inr (g3.symm hm)
    · exact .inl ⟨r, by omega, g2, g3⟩
end

theorem cnt_no {p : Nat → Bool} {k : Nat} (h : p k = false) : cnt p (k + 1) = cnt p k := by simp only [cnt, h]; simp
theorem cnt_yes {p : Nat → Bool} {k : Nat} (h : p k = true) : cnt p (k + 1) = cnt p k + 1 := by simp only [cnt, h]; simp

/-- A row of bools of the call's own, and a queue in newer memory. -/
structure Bfb (w wr : World) (bo lo N : Nat) (sn : Nat → Bool) (v : Value) (n : Nat) (s : Nat → Nat) : Prop where
  out : wr.rowIs bo 4 N (fun i => .bool (sn i))
  st : OwnS wr lo 3 v n (fun k => .int .i64 (s k : Nat))
  lt : bo < lo ∧ w.heap.size ≤ bo ∧ lo ≤ wr.heap.size
  bel : Below w.heap.size w wr
section
variable {w wr : World} {bo lo N : Nat} {sn : Nat → Bool} {v : Value} {n : Nat} {s : Nat → Nat}
theorem Bfb.keep (H : Bfb w wr bo lo N sn v n s) {w1 : World} (hb : Below wr.heap.size wr w1) : Bfb w w1 bo lo N sn v n s :=
  ⟨rowIs_kept H.out hb, H.st.below hb, ⟨H.lt.1, H.lt.2.1, Nat.le_trans H.lt.2.2 hb.size⟩, H.bel.trans (hb.mono H.bel.size)⟩
theorem Bfb.wrote (H : Bfb w wr bo lo N sn v n s) (j : Nat) : Bfb w (wr.setCell ⟨bo, j, none⟩ (.bool true)) bo lo N (setB sn j) v n s :=
  ⟨(H.out.set j _).congr fun i _ => (by unfold setB; by_cases e : i = j <;> simp [e]), H.st.of_block fun k hk => Below.heap_setCell _ _ _ _ (fun e => by
    have h1 := (H.st.lt hk).1
    have h2 := H.lt.1
    have e : k = bo := e
    omega), ⟨H.lt.1, H.lt.2.1, by simpa [World.setCell] using H.lt.2.2⟩, H.bel.setCell H.lt.2.1 _⟩
theorem Bfb.pushed (H : Bfb w wr bo lo N sn v n s) {w1 : World} {v1 : Value} {y : Nat} (hg : Grew wr w1 v v1) (ho : OwnS w1 lo 3 v1 (n + 1) (fun i => if i < n then .int .i64 (s i : Nat) else .int .i64 (y : Nat))) : Bfb w w1 bo lo N sn v1 (n + 1) (updN s n y) := by
  have hv : ∀ k, v.ownBlock = some k → lo ≤ k := fun k hk => (H.st.lt hk).1
  have hb : Below lo wr w1 := hg.below H.lt.2.2 hv
  refine ⟨H.out.of_block (hb.block _ H.lt.1), ho.congr fun i hi => ?_, ⟨H.lt.1, H.lt.2.1, Nat.le_trans H.lt.2.2 hg.size⟩, H.bel.trans (hb.mono (by have := H.lt; omega))⟩
  by_cases e : i < n
  · rw [if_pos e, updN_ne s y (by omega)]
  · rw [if_neg e, show i = n by omega, updN_at]
end

noncomputable def levelLakesV (n : Nat) (L : Nat → Nat) (g : Nat → Nat → Int) (l : Int) : Int := if Lvl n L g l then (lakesV n (L 0) (flat (L 0) g) l : Nat) else -1

theorem implLevelLakes_any (A : Option Addr) (n cp : Nat) (L : Nat → Nat) (g : Nat → Nat → Int) (l : Int) (w : World) (hg : GridF w A n L g) (hn : n ≤ 1048576) (hL : ∀ r, r < n → L r ≤ 1048576) (_hl1 : -9223372036854775808 ≤ l) (_hl2 : l ≤ 9223372036854775807) :
    Calls Try.prog 19 #[.slice A n cp, .int .i64 l] w (RetV (.int .i64 (levelLakesV n L g l)) w) := by
  have HG := Lib.hid hg
  have HL := Lib.hid hL
  clear hg hL
  by_cases hv : Lvl n L g l
  · have HE := Lib.hid (show levelLakesV n L g l = _ from if_pos hv)
    have HV := Lib.hid hv
    have hn1 := hv.1.1
    have hn2 := hv.1.2.1
    have hl1 := hv.1.2.2.1
    have hl2 := hv.1.2.2.2.1
    clear hv
    go_enter Try.func19, Try.ntmps19
    go_wp2_with fail
    refine (leveled_yes _ _ _ _ _ _ _ _ HG.out HV.out rfl).mono ?_
    rintro e w1 ⟨b, rfl, hlo, hrow, hb1⟩
    have HRow := Lib.hid (hrow.alloc (.cells #[.int .i64 n, .int .i64 (L 0), .slice (some ⟨b, 0, none⟩) (n * L 0) (n * L 0)] 49))
    have hbx := hb1.alloc hb1.size (.cells #[.int .i64 n, .int .i64 (L 0), .slice (some ⟨b, 0, none⟩) (n * L 0) (n * L 0)] 49)
    clear hrow
    go_wp2_with fail
    refine (lakes_any _ _ _ _ _ _ _ hn1 hl1 (by omega) (by omega) rfl HRow).mono ?_
    rintro e w2 ⟨rfl, hb2⟩
    go_wp2_with fail
    go_ret
    exact ⟨ret_int HE.out.symm, hbx.trans (hb2.mono hbx.size)⟩
  · have HE := Lib.hid (show levelLakesV n L g l = _ from if_neg hv)
    have HV := Lib.hid hv
    clear hv
    go_enter Try.func19, Try.ntmps19
    go_wp2_with fail
    refine (leveled_no _ _ _ _ _ _ _ HG.out hn HL.out HV.out).mono ?_
    rintro e w1 ⟨rfl, hb1⟩
    go_wp2_with fail
    go_ret
    exact ⟨ret_int HE.out.symm, hb1.alloc hb1.size _⟩

set_option maxHeartbeats 1500000 in
set_option maxRecDepth 100000 in
theorem specLevelLakes_any (A : Option Addr) (n cp : Nat) (L : Nat → Nat) (g : Nat → Nat → Int) (l : Int) (w : World) (hg : GridF w A n L g) (hn : n ≤ 1048576) (hL : ∀ r, r < n → L r ≤ 1048576) (_hl1 : -9223372036854775808 ≤ l) (_hl2 : l ≤ 9223372036854775807) :
    Calls Try.prog 17 #[.slice A n cp, .int .i64 l] w (RetV (.int .i64 (levelLakesV n L g l)) w) := by
  have HG := Lib.hid hg
  have HL := Lib.hid hL
  clear hg hL
  by_cases hv : Lvl n L g l
  · have HE := Lib.hid (show levelLakesV n L g l = _ from if_pos hv)
    have HVl := Lib.hid hv
    have HV := Lib.hid hv.1
    have hn1 := hv.1.1
    have hn2 := hv.1.2.1
    have hl1 := hv.1.2.2.1
    have hl2 := hv.1.2.2.2.1
    obtain ⟨h, hh⟩ : ∃ h, h = flat (L 0) g := ⟨_, rfl⟩
    rw [← hh] at HE
    have HH := Lib.hid hh
    obtain ⟨k, hN⟩ : ∃ k, k = n * L 0 := ⟨_, rfl⟩
    have hN1 : k ≤ 49 := by rw [hN]; exact Nat.le_trans (Nat.mul_le_mul hn2 hl2) (by decide)
    have hN0 : 0 < k := by rw [hN]; exact Nat.mul_pos (by omega) (by omega)
    have HN := Lib.hid hN
    have HMut : Hid (Mut k (aroundL n (L 0))) := by show Mut k _; rw [hN]; exact around_mut n (L 0)
    have HLV : Hid (lakesV n (L 0) h l = cnt (lakB k (aroundL n (L 0)) (fun x => h x < l) (brd n (L 0))) k) := by rw [hN]; rfl
    clear hv hh hN
    have hmk := run_make_row' (P := Try.prog) 46 4 (.bool false) 1 Try.underlying46 Try.infoBo rfl .i64 .i64 k (by omega) (by omega)
    go_enter Try.func17, Try.ntmps17
    go_wp2_with fail
    refine (l3Ok_yes _ _ _ _ _ _ _ HG.out HVl.out).mono ?_
    rintro e w1 ⟨rfl, hb1⟩
    go_wp2_with fail
    refine (l2Cells_any _ _ _ _ _ _ (HG.out.below hb1) (by omega) (by omega) (by omega)).mono ?_
    rintro e w' ⟨rfl, rfl⟩
    rw [← HN.out]
    have HO0 : Hid ((w1.alloc (.cells (madeCells #[.bool false] k) 4)).rowIs w1.heap.size 4 k (fun _ => .bool false)) := World.rowIs_made w1 _ k 4
    have HS00 : Hid (Snb k (aroundL n (L 0)) (fun x => h x < l) 0 (fun _ => false)) := Snb.zero
    have hb0 := hb1.alloc hb1.size (.cells (madeCells #[.bool false] k) 4)
    have hbo1 := hb1.size
    go_wp2_with fail
    clear hmk
    generalize w1.alloc _ = w2 at *
    generalize w1.heap.size = bo at *
    go_loopw [6, 7] (fun cv i wi => ∃ (m : Nat) (sn : Nat → Bool), m ≤ k ∧ i = .int .i64 m ∧ cv = .int .i64 ((cnt (lakB k (aroundL n (L 0)) (fun x => h x < l) (brd n (L 0))) m : Nat)) ∧ Hid (wi.rowIs bo 4 k (fun i => .bool (sn i))) ∧ Hid (Snb k (aroundL n (L 0)) (fun x => h x < l) m sn) ∧ Below w.heap.size w wi) (fun _ i _ => k - (intOf i).toNat)
    case atStart => exact ⟨0, _, Nat.zero_le _, rfl, rfl, HO0.out, HS00.out, hb0⟩
    case round =>
      clear HO0 HS00 hb0
      obtain ⟨m, sn, hm, rfl, rfl, HO, HSn, hbel⟩ := hrel
      have hcn := cnt_le (lakB k (aroundL n (L 0)) (fun x => h x < l) (brd n (L 0))) m
      by_cases hlt : m < k
      · have hcm := HO.out.cell hlt
        have hfm := HO.out.frozen m
        have hbo2 : bo < wr.heap.size := HO.out.lt
        have HG1 := Lib.hid (HG.out.below hbel)
        have HI : Hid (m < n * L 0) := by show m < n * L 0; rw [← HN.out]; exact hlt
        cases hsm : sn m
        · rw [hsm] at hcm
          go_wp2_with fail
          refine (l2Height_h _ _ _ _ _ _ h _ HG1.out HV.out HH HI.out).mono ?_
          rintro e wa ⟨rfl, hba⟩
          have hbela := hbel.trans (hba.mono hbel.size)
          have HOa := Lib.hid (rowIs_kept HO.out hba)
          by_cases q2 : h m < l
          · have d2 : decide (l ≤ h m) = false := decide_eq_false (by omega)
            have HRep := Lib.hid (HSn.out.rep HMut.out hlt q2 hsm)
            have HFresh : Hid (∀ x, Lnk k (aroundL n (L 0)) (fun x => h x < l) x m → sn x = false) := fun x hx => HSn.out.fresh HMut.out HRep.out hx
            have hcm2 := HOa.out.cell hlt
            have hfm2 := HOa.out.frozen m
            obtain ⟨c, hc⟩ : ∃ c, c = cnt (lakB k (aroundL n (L 0)) (fun x => h x < l) (brd n (L 0))) m := ⟨_, rfl⟩
            rw [← hc] at hcn ⊢
            have HC := Lib.hid hc
            have hbo3 : bo < wa.heap.size := Nat.lt_of_lt_of_le hbo2 hba.size
            have hsz : (wa.setCell ⟨bo, m, none⟩ (.bool true)).heap.size = wa.heap.size := by simp [World.setCell]
            have HB0 : Hid (Bfb w ((wa.setCell ⟨bo, m, none⟩ (.bool true)).alloc (.cells #[.int .i64 (m : Nat)] 3)) bo wa.heap.size k (setB sn m) (.slice (some ⟨wa.heap.size, 0, none⟩) 1 1) 1 (fun _ => m)) := by
              rw [← hsz]
              exact ⟨((HOa.out.set m (.bool true)).congr fun i _ => (by unfold setB; by_cases e : i = m <;> simp [e])).alloc _, OwnS.single _ _ _ _ _ (Nat.le_refl _) rfl, ⟨by rw [hsz]; exact hbo3, hbo1, by simp⟩, (hbela.setCell hbo1 _).alloc (by rw [hsz]; exact hbela.size) _⟩
            have HS0 : Hid (Srch k (aroundL n (L 0)) (fun x => h x < l) m (fun y => y == m) (Wait 0 1 (fun _ => m))) := Srch.new hlt q2 (fun y => by simp) (fun y => ⟨fun ⟨_, _, _, e⟩ => e.symm, fun e => ⟨0, Nat.le_refl _, by omega, e.symm⟩⟩)
            have HY0 : Hid (∀ x, x < k → setB sn m x = (sn x || (fun y => y == m) x)) := fun x hx => by
              unfold setB
              by_cases e : x = m
              · simp [e]
              · simp [e]
            have HN0 : Hid (1 = cnt (fun y => y == m) k) := by
              have h1 : cnt (fun y => y == m) k = cnt (setB (fun _ => false) m) k := cnt_congr fun i _ => by unfold setB; by_cases e : i = m <;> simp [e]
              show 1 = _
              rw [h1, cnt_setB rfl hlt, cnt_zero (fun _ _ => rfl)]
            have HV0 : Hid ((∀ y, y < k → (fun y => y == m) y = true → ∃ p, p < 1 ∧ (fun _ : Nat => m) p = y) ∧ ∀ p, p < 1 → (fun y => y == m) ((fun _ : Nat => m) p) = true) := ⟨fun y _ hy => ⟨0, by omega, (beq_iff_eq.1 hy).symm⟩, fun p _ => by simp⟩
            have HD0 : Hid (false = true ↔ ∃ p, p < 0 ∧ brd n (L 0) ((fun _ : Nat => m) p) = true) := ⟨fun e => (by cases e), fun ⟨p, hp, _⟩ => absurd hp (Nat.not_lt_zero p)⟩
            clear HO HOa hc hcm hsm
            go_upto_region 12 with (fail)
            clear d2 hcm2 hfm2 hfm hbo2 hbo3 hsz
            generalize wa.heap.size = lo at *
            generalize World.alloc (World.setCell wa _ _) _ = w4 at *
            go_wp2_with fail
            go_loopw [8, 9, 10] (fun bv v i wi => ∃ (q ln : Nat) (mark sn' : Nat → Bool) (s : Nat → Nat) (bd : Bool), q ≤ ln ∧ i = .int .i64 q ∧ bv = .bool bd ∧ Hid (Bfb w wi bo lo k sn' v ln s) ∧ Hid (Srch k (aroundL n (L 0)) (fun x => h x < l) m mark (Wait q ln s)) ∧ Hid (∀ x, x < k → sn' x = (sn x || mark x)) ∧ Hid (ln = cnt mark k) ∧ Hid ((∀ y, y < k → mark y = true → ∃ p, p < ln ∧ s p = y) ∧ ∀ p, p < ln → mark (s p) = true) ∧ Hid (bd = true ↔ ∃ p, p < q ∧ brd n (L 0) (s p) = true)) (fun _ _ i _ => k - (intOf i).toNat)
            case atStart => exact ⟨0, 1, _, _, _, false, Nat.zero_le _, rfl, rfl, HB0.out, HS0.out, HY0.out, HN0.out, HV0.out, HD0.out⟩
            case round =>
              clear HB0 HS0 HY0 HN0 HV0 HD0
              obtain ⟨q, ln, mark, sn', s, bd, hq, rfl, rfl, HB, HS, HY, HLn, HVi, HBd⟩ := hrel
              have hln : ln ≤ k := by rw [HLn.out]; exact cnt_le _ _
              obtain ⟨Av, cv, rfl, _⟩ := HB.out.st.slice
              by_cases hlt2 : q < ln
              · obtain ⟨bs, cs', hv', _, _, hcs, _⟩ := HB.out.st.cell hlt2
                injection hv' with hv1 hv2 hv3
                subst hv1 hv3
                have HLx := Lib.hid (HS.out.snd (s q) (HS.out.tod _ ⟨q, Nat.le_refl _, hlt2, rfl⟩))
                have HI2 : Hid (s q < n * L 0) := by show s q < n * L 0; rw [← HN.out]; exact HLx.out.lt
                have HS1 : Hid (SrchAt k (aroundL n (L 0)) (fun x => h x < l) m mark (Wait (q + 1) ln s) (s q) 0) := HS.out.take ⟨q, Nat.le_refl _, hlt2, rfl⟩ (fun y hy => hy.pop) (fun y hy => hy.of)
                have HG3 := Lib.hid (HG.out.below HB.out.bel)
                have hsq : s q ≤ 49 := by have := HLx.out.lt; omega
                have HBd1 : Hid ((bd || brd n (L 0) (s q)) = true ↔ ∃ p, p < q + 1 ∧ brd n (L 0) (s p) = true) := by
                  show _ ↔ _
                  rw [Bool.or_eq_true, HBd.out]
                  constructor
                  · rintro (⟨p, h1, h2⟩ | h1)
                    · exact ⟨p, by omega, h2⟩
                    · exact ⟨q, by omega, h1⟩
                  · rintro ⟨p, h1, h2⟩
                    by_cases e : p = q
                    · subst e; exact .inr h2
                    · exact .inl ⟨p, by omega, h2⟩
                go_upto_region 15 with (fail)
                go_cut [8] (fun bw wx => bw = .bool (bd || brd n (L 0) (s q)) ∧ wx = wr)
                case first =>
                  cases bd
                  · go_wp2_with fail
                    refine (l2Border_any _ _ _ _ _ _ _ HG3.out (by omega) (by omega) (by omega) (by omega) HI2.out).mono ?_
                    rintro e w' ⟨rfl, rfl⟩
                    go_wp2_with fail
                    go_meet
                    case rel => exact ⟨by rw [Bool.false_or], rfl⟩
                  · go_wp2_with fail
                    go_meet
                    case rel => exact ⟨by rw [Bool.true_or], rfl⟩
                case rest =>
                  obtain ⟨rfl, hcw⟩ := hcut
                  have hcw := hcw.symm
                  subst hcw
                  generalize (bd || brd n (L 0) (s q)) = bd at *
                  go_wp2_with fail
                  refine (l3Around_any _ _ _ _ _ _ _ HG3.out (by omega) (by omega) (by omega) (by omega) HI2.out).mono ?_
                  rintro e w5 ⟨nv, rfl, hown, hb5⟩
                  obtain ⟨Al, cl, rfl⟩ := hown.slice
                  have HNe : Hid (∀ x, (Value.slice Al (aroundL n (L 0) (s q)).length cl).ownBlock = some x → (Value.slice (some ⟨bs, 0, none⟩) ln cv).ownBlock ≠ some x) := fun x hx hx' => by
                    have h1 := (hown.s.lt hx).1
                    have h2 := (HB.out.st.lt hx').2
                    omega
                  have HLo : Hid (bo < wr.heap.size) := by have := HB.out.lt; show bo < _; omega
                  have HOL := Lib.hid hown
                  have HB5 := Lib.hid (HB.out.keep hb5)
                  have HMem : Hid (∀ p, p < (aroundL n (L 0) (s q)).length → (aroundL n (L 0) (s q)).getD p 0 < k) := fun p hp => (HMut.out _ _ HLx.out.lt (getD_in hp)).1
                  have HPass : Hid (∀ (mark : Nat → Bool) (T : Nat → Prop) p, SrchAt k (aroundL n (L 0)) (fun x => h x < l) m mark T (s q) p → (h ((aroundL n (L 0) (s q)).getD p 0) < l → mark ((aroundL n (L 0) (s q)).getD p 0) = true) → SrchAt k (aroundL n (L 0)) (fun x => h x < l) m mark T (s q) (p + 1)) := fun _ _ _ H hh => H.pass hh
                  have HMark : Hid (∀ (mark : Nat → Bool) (T T' : Nat → Prop) p, SrchAt k (aroundL n (L 0)) (fun x => h x < l) m mark T (s q) p → p < (aroundL n (L 0) (s q)).length → h ((aroundL n (L 0) (s q)).getD p 0) < l → (∀ y, T' y ↔ T y ∨ y = (aroundL n (L 0) (s q)).getD p 0) → SrchAt k (aroundL n (L 0)) (fun x => h x < l) m (setB mark ((aroundL n (L 0) (s q)).getD p 0)) T' (s q) (p + 1)) := fun _ _ _ _ H hm ho hT => H.mark HMut.out hm ho hT
                  have HEnd : Hid (∀ (mark : Nat → Bool) (T : Nat → Prop), SrchAt k (aroundL n (L 0)) (fun x => h x < l) m mark T (s q) (aroundL n (L 0) (s q)).length → Srch k (aroundL n (L 0)) (fun x => h x < l) m mark T) := fun _ _ H => H.end_
                  have HAdj : Hid (∀ p, p < (aroundL n (L 0) (s q)).length → h ((aroundL n (L 0) (s q)).getD p 0) < l → sn ((aroundL n (L 0) (s q)).getD p 0) = false) := fun p hp ho => by
                    have hmem := getD_in hp
                    have hmu := HMut.out _ _ HLx.out.lt hmem
                    exact HFresh.out _ (HLx.out.edge hmu.1 ho hmu.2)
                  have hl4 := aroundL_len n (L 0) (s q)
                  obtain ⟨lo2, hlo2⟩ : ∃ x, x = wr.heap.size := ⟨_, rfl⟩
                  rw [← hlo2] at HOL HLo
                  clear hown hb5 HB HS hcs hlo2 HG3 HBd
                  have HKeep : Hid (∀ p, p < q + 1 → p < ln → True) := fun _ _ _ => trivial
                  obtain ⟨s0, hs0⟩ : ∃ s0, s0 = s := ⟨_, rfl⟩
                  have HS00 : Hid (∀ p, p < q + 1 → s p = s0 p) := fun p _ => by rw [hs0]
                  rw [← hs0] at HBd1
                  clear HKeep
                  have hsx : s q = s0 q := by rw [hs0]
                  clear hs0
                  generalize aroundL n (L 0) (s q) = ll at *
                  generalize s q = x at *
                  clear hsx
                  go_wp2_with fail
                  go_loopw [9, 12] (fun v i wi => ∃ (p ln : Nat) (mark sn' : Nat → Bool) (s : Nat → Nat), p ≤ ll.length ∧ q < ln ∧ i = .int .i64 p ∧ Hid (Bfb w wi bo lo k sn' v ln s) ∧ Hid (OwnL wi lo2 (.slice Al ll.length cl) ll) ∧ Hid (∀ x, (Value.slice Al ll.length cl).ownBlock = some x → v.ownBlock ≠ some x) ∧ Hid (SrchAt k (aroundL n (L 0)) (fun x => h x < l) m mark (Wait (q + 1) ln s) x p) ∧ Hid (∀ x, x < k → sn' x = (sn x || mark x)) ∧ Hid (ln = cnt mark k) ∧ Hid ((∀ y, y < k → mark y = true → ∃ p, p < ln ∧ s p = y) ∧ ∀ p, p < ln → mark (s p) = true) ∧ Hid (∀ p, p < q + 1 → s p = s0 p)) (fun _ i _ => ll.length - (intOf i).toNat)
                  case atStart => exact ⟨0, ln, mark, sn', s, Nat.zero_le _, hlt2, rfl, HB5.out, HOL.out, HNe.out, HS1.out, HY.out, HLn.out, HVi.out, HS00.out⟩
                  case round =>
                    clear HB5 HOL HNe HS1 HY HLn HVi HS00 hln hlt2 hq
                    obtain ⟨p, ln, mark, sn', s, hp, hqln, rfl, HB, HOL, HNe, HS, HY, HLn, HVi, HS00⟩ := hrel
                    have hln : ln ≤ k := by rw [HLn.out]; exact cnt_le _ _
                    obtain ⟨Av, cv, rfl, _⟩ := HB.out.st.slice
                    by_cases hlt2 : p < ll.length
                    · obtain ⟨bl, rfl, hce⟩ := HOL.out.at_ hlt2
                      have hjN := HMem.out p hlt2
                      have HP1 := Lib.hid (HPass.out mark _ p HS.out)
                      have HM1 := Lib.hid (HMark.out mark (Wait (q + 1) ln s) (Wait (q + 1) (ln + 1) (updN s ln (ll.getD p 0))) p HS.out hlt2)
                      have HA1 := Lib.hid (HAdj.out p hlt2)
                      have hcj := HB.out.out.cell hjN
                      have hfj := HB.out.out.frozen (ll.getD p 0)
                      have hbo2 : bo < wr.heap.size := HB.out.out.lt
                      have HYj := Lib.hid (HY.out _ hjN)
                      have HG3 := Lib.hid (HG.out.below HB.out.bel)
                      have hbl : bl < wr.heap.size := World.block_lt_of_cell? _ _ hce
                      generalize ll.getD p 0 = j at *
                      cases hsj : sn' j
                      · rw [hsj] at hcj
                        have HMj : Hid (mark j = false) := by
                          have := HYj.out
                          rw [hsj] at this
                          exact (Bool.or_eq_false_iff.1 this.symm).2
                        have HI3 : Hid (j < n * L 0) := by show j < n * L 0; rw [← HN.out]; exact hjN
                        clear hsj
                        go_wp2_with fail
                        refine (l2Height_h _ _ _ _ _ _ h _ HG3.out HV.out HH HI3.out).mono ?_
                        rintro e w6 ⟨rfl, hb6⟩
                        have HB6 := Lib.hid (HB.out.keep hb6)
                        have HOL6 := Lib.hid (HOL.out.below hb6)
                        have hce6 := (hb6.cell (by exact hbl)).trans hce
                        have hcj6 := (hb6.cell (by exact hbo2)).trans hcj
                        have hfj6 : w6.frozen? ⟨bo, j, none⟩ = false := (hb6.frozen (by exact hbo2)).trans hfj
                        clear hce hcj hfj
                        by_cases q4 : h j < l
                        · have d4 : decide (h j < l) = true := decide_eq_true q4
                          have HB7 := Lib.hid (HB6.out.wrote j)
                          have HOL7 : Hid (OwnL (w6.setCell ⟨bo, j, none⟩ (.bool true)) lo2 (.slice (some ⟨bl, 0, none⟩) ll.length cl) ll) := OwnS.of_block HOL6.out.s (fun x hx => Below.heap_setCell _ _ _ _ (fun e => by
                            have h1 := (HOL6.out.s.lt hx).1
                            have h2 := HLo.out
                            have e : x = bo := e
                            omega))
                          have hce7 : (w6.setCell ⟨bo, j, none⟩ (.bool true)).cell? ⟨bl, p, none⟩ = some (.int .i64 (j : Nat)) := (World.cell?_of_block (Below.heap_setCell _ _ _ _ (by
                            have h1 := (HOL6.out.s.lt (k := bl) rfl).1
                            have h2 := HLo.out
                            show bl ≠ bo
                            omega))).trans hce6
                          go_upto_region 22 with (fail)
                          clear hce6 hcj6 hfj6 hbo2 d4
                          generalize World.setCell w6 _ _ = w7 at *
                          go_wp2_with (at_builtin; refine wpList_app1 rfl (.tmp 93) (.tmp 98) 29 rfl Try.underlying29 Try.infoI rfl rfl HB7.out.st (x := .int .i64 (j : Nat)) rfl rfl (by omega) (by decide) HB7.out.lt.2.2 ?_; intro v' w8 ho hg8; obtain ⟨A8, c8, rfl, _⟩ := ho.slice)
                          have HB8 := Lib.hid (HB7.out.pushed hg8 ho)
                          have HOL8 : Hid (OwnL w8 lo2 (.slice (some ⟨bl, 0, none⟩) ll.length cl) ll) := OwnS.of_block HOL7.out.s (fun x hx => hg8.block x (HOL7.out.s.lt hx).2 (HNe.out x hx))
                          have HNe8 : Hid (∀ x, (Value.slice (some ⟨bl, 0, none⟩) ll.length cl).ownBlock = some x → (Value.slice A8 (ln + 1) c8).ownBlock ≠ some x) := fun x hx hx' => by
                            rcases hg8.at_ with e | ⟨x', e, hx2⟩
                            · exact HNe.out x hx (e.symm.trans hx')
                            · rw [e] at hx'
                              injection hx' with hx'
                              have := (HOL7.out.s.lt hx).2
                              omega
                          have HY8 : Hid (∀ x, x < k → setB sn' j x = (sn x || setB mark j x)) := fun x hx => by
                            unfold setB
                            by_cases e : x = j
                            · simp [e]
                            · simp only [if_neg e]; exact HY.out x hx
                          have HS8 := Lib.hid (HM1.out q4 (fun y => Wait.push (by omega)))
                          have HL8 : Hid (ln + 1 = cnt (setB mark j) k) := by show _ = _; rw [cnt_setB HMj.out hjN, HLn.out]
                          have HV8 : Hid ((∀ y, y < k → setB mark j y = true → ∃ p, p < ln + 1 ∧ updN s ln j p = y) ∧ ∀ p, p < ln + 1 → setB mark j (updN s ln j p) = true) := ⟨fun y hy e => by
                            rcases of_setB e with e | e
                            · exact ⟨ln, by omega, by rw [updN_at]; exact e.symm⟩
                            · obtain ⟨p', h1, h2⟩ := HVi.out.1 y hy e
                              exact ⟨p', by omega, by rw [updN_ne _ _ (by omega)]; exact h2⟩, fun p hp => by
                            by_cases e : p = ln
                            · rw [e, updN_at]; exact setB_at _ _
                            · rw [updN_ne _ _ e]; exact setB_of (HVi.out.2 p (by omega))⟩
                          have HS9 : Hid (∀ p, p < q + 1 → updN s ln j p = s0 p) := fun p hp => by rw [updN_ne _ _ (by omega)]; exact HS00.out p hp
                          clear ho hg8 hce7
                          go_wp2_with fail
                          go_roundw
                          case rel => exact ⟨p + 1, ln + 1, setB mark j, _, _, by omega, by omega, by go_num, HB8.out, HOL8.out, HNe8.out, HS8.out, HY8.out, HL8.out, HV8.out, HS9.out⟩
                          case measure => simp [intOf]; omega
                        · have d4 : decide (h j < l) = false := decide_eq_false q4
                          have HP2 := Lib.hid (HP1.out (fun hh => absurd hh q4))
                          go_wp2_with fail
                          go_roundw
                          case rel => exact ⟨p + 1, ln, mark, sn', s, by omega, hqln, by go_num, HB6.out, HOL6.out, HNe.out, HP2.out, HY.out, HLn.out, HVi.out, HS00.out⟩
                          case measure => simp [intOf]; omega
                      · rw [hsj] at hcj
                        have HP2 := Lib.hid (HP1.out (fun hh => by
                          have h1 := HYj.out
                          rw [hsj, HA1.out hh, Bool.false_or] at h1
                          exact h1.symm))
                        clear hsj
                        go_wp2_with fail
                        go_roundw
                        case rel => exact ⟨p + 1, ln, mark, sn', s, by omega, hqln, by go_num, HB.out, HOL.out, HNe.out, HP2.out, HY.out, HLn.out, HVi.out, HS00.out⟩
                        case measure => simp [intOf]; omega
                    · have HP : Hid (p = ll.length) := by show p = ll.length; omega
                      have HBd2 : Hid (bd = true ↔ ∃ p, p < q + 1 ∧ brd n (L 0) (s p) = true) := by
                        show _ ↔ _
                        rw [HBd1.out]
                        constructor
                        · rintro ⟨p', h1, h2⟩; exact ⟨p', h1, by rw [HS00.out p' h1]; exact h2⟩
                        · rintro ⟨p', h1, h2⟩; exact ⟨p', h1, by rw [← HS00.out p' h1]; exact h2⟩
                      go_wp2_with fail
                      go_roundw
                      case rel => exact ⟨q + 1, ln, mark, sn', s, bd, by omega, by go_num, rfl, HB.out, HEnd.out mark _ (by rw [← HP.out]; exact HS.out), HY.out, HLn.out, HVi.out, HBd2.out⟩
                      case measure => simp [intOf]; omega
              · obtain rfl : q = ln := by omega
                have HDone : Hid (∀ y, mark y = true ↔ Lnk k (aroundL n (L 0)) (fun x => h x < l) y m) := fun y => HS.out.done HMut.out (fun y => Wait.none)
                have HA := Lib.hid (HSn.out.add HMut.out HRep.out HY.out HDone.out)
                have HT : Hid (lakB k (aroundL n (L 0)) (fun x => h x < l) (brd n (L 0)) m = !bd) := by
                  show _ = _
                  rw [Bool.eq_iff_iff, lakB_iff, Bool.not_eq_true', ← Bool.not_eq_true, HBd.out]
                  constructor
                  · rintro ⟨_, h2⟩ ⟨p, h3, h4⟩
                    exact h2 ⟨s p, h4, (HDone.out _).1 (HVi.out.2 p h3)⟩
                  · intro h2
                    refine ⟨HRep.out, fun ⟨y, h3, h4⟩ => ?_⟩
                    obtain ⟨p, h5, h6⟩ := HVi.out.1 y h4.lt ((HDone.out y).2 h4)
                    exact h2 ⟨p, h5, by rw [h6]; exact h3⟩
                cases bd
                · have HC1 : Hid (cnt (lakB k (aroundL n (L 0)) (fun x => h x < l) (brd n (L 0))) (m + 1) = c + 1) := by show _ = _; rw [HC.out]; exact cnt_yes HT.out
                  go_wp2_with fail
                  go_roundw
                  case rel => exact ⟨m + 1, sn', by omega, by go_num, val_int (by rw [HC1.out]; omega), HB.out.out, HA.out, HB.out.bel⟩
                  case measure => simp [intOf]; omega
                · have HC1 : Hid (cnt (lakB k (aroundL n (L 0)) (fun x => h x < l) (brd n (L 0))) (m + 1) = c) := by show _ = _; rw [HC.out]; exact cnt_no HT.out
                  go_wp2_with fail
                  go_roundw
                  case rel => exact ⟨m + 1, sn', by omega, by go_num, val_int (by rw [HC1.out]), HB.out.out, HA.out, HB.out.bel⟩
                  case measure => simp [intOf]; omega
          · have d2 : decide (l ≤ h m) = true := decide_eq_true (by omega)
            have HNr : Hid (¬ Rep k (aroundL n (L 0)) (fun x => h x < l) m) := fun hr => q2 hr.2.1
            have N1 := Lib.hid (HSn.out.skip HNr.out)
            have N2 : Hid (cnt (lakB k (aroundL n (L 0)) (fun x => h x < l) (brd n (L 0))) (m + 1) = cnt (lakB k (aroundL n (L 0)) (fun x => h x < l) (brd n (L 0))) m) := cnt_no (lakB_no fun hh => HNr.out hh.1)
            go_wp2_with fail
            go_roundw
            case rel => exact ⟨m + 1, sn, by omega, by go_num, val_int (by rw [N2.out]), HOa.out, N1.out, hbela⟩
            case measure => simp [intOf]; omega
        · rw [hsm] at hcm
          have HNr := Lib.hid (HSn.out.notRep hlt hsm)
          have N1 := Lib.hid (HSn.out.skip HNr.out)
          have N2 : Hid (cnt (lakB k (aroundL n (L 0)) (fun x => h x < l) (brd n (L 0))) (m + 1) = cnt (lakB k (aroundL n (L 0)) (fun x => h x < l) (brd n (L 0))) m) := cnt_no (lakB_no fun hh => HNr.out hh.1)
          clear hsm
          go_wp2_with fail
          go_roundw
          case rel => exact ⟨m + 1, sn, by omega, by go_num, val_int (by rw [N2.out]), HO.out, N1.out, hbel⟩
          case measure => simp [intOf]; omega
      · obtain rfl : m = k := by omega
        go_wp2_with fail
        go_ret
        exact ⟨ret_int (by rw [HE.out, HLV.out]), hbel⟩
  · have HE := Lib.hid (show levelLakesV n L g l = _ from if_neg hv)
    have HV := Lib.hid hv
    clear hv
    go_enter Try.func17, Try.ntmps17
    go_wp2_with fail
    refine (l3Ok_no _ _ _ _ _ _ _ HG.out hn HL.out HV.out).mono ?_
    rintro e w1 ⟨rfl, hb1⟩
    go_wp2_with fail
    go_ret
    exact ⟨ret_int HE.out.symm, hb1⟩

end Go.Proofs.Ytgekjhmjjjkibaa
