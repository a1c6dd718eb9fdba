/- GridTurn and GridMirror: what the reference's functions return. -/
import Derived.Test.YtigbmpmhhakklaaGSet
namespace Go.Proofs.Ytigbmpmhhakklaa
set_option linter.unusedVariables false
set_option linter.unusedSimpArgs false
open Go.RowKit

def turnG (n : Nat) (g : Nat → Nat → Int) : Nat → Nat → Int := fun r c => g (n - 1 - c) r
def mirrorG (C : Nat) (g : Nat → Nat → Int) : Nat → Nat → Int := fun r c => g r (C - 1 - c)

/-- Onto a row of the call's own an integer is appended. -/
theorem own_snoc {w : World} {lo : Nat} {v : Value} {j : Nat} {f : Nat → Int} {x : Int} (h : OwnS w lo 3 v (j + 1) (fun i => if i < j then .int .i64 (f i) else .int .i64 x)) (hx : x = f j) : OwnS w lo 3 v (j + 1) (fun i => .int .i64 (f i)) := by
  refine h.congr fun i hi => ?_
  by_cases e : i < j
  · rw [if_pos e]
  · rw [if_neg e, hx, show i = j by omega]

set_option maxHeartbeats 400000 in
theorem specGridTurn_yes (A : Option Addr) (n cp : Nat) (L : Nat → Nat) (g : Nat → Nat → Int) (w : World) (hg : GridF w A n L g) (hv : Valid n L g) :
    Calls Try.prog 29 #[.slice A n cp] w (RetGS (L 0) (fun _ => n) (turnG n g) true w) := by
  have HG := Lib.hid hg
  have HV := Lib.hid hv
  have hn1 := hv.1
  have hn2 := hv.2.1
  have hl1 := hv.2.2.1
  have hl2 := hv.2.2.2.1
  clear hg hv
  obtain ⟨B, o, A0, c0, rfl, hc0, _, hr0⟩ := HG.out 0 (by omega)
  rw [Nat.add_zero] at hc0
  clear hr0
  have HE := Lib.hid (GridO.empty w w.heap.size (fun _ => n) (turnG n g) (Nat.le_refl _))
  have hbe := below_alloc w (.cells #[] 33)
  go_enter Try.func29, Try.ntmps29
  go_wp2_with fail
  refine (specValid_yes _ _ _ _ _ _ (HG.out.below hbe) HV.out).mono ?_
  rintro e w1 ⟨rfl, hb1⟩
  have HE1 := Lib.hid (HE.out.below hb1)
  have hbw1 : Below w.heap.size w w1 := hbe.trans (hb1.mono (by simp))
  have HC0 := Lib.hid hc0
  have z0 := (hbw1.cell (World.block_lt_of_cell? w _ hc0)).trans hc0
  clear hc0 hbe
  go_wp2_with fail
  clear z0
  go_loopw [4, 5] (fun v i wr => ∃ k : Nat, k ≤ L 0 ∧ i = .int .i64 k ∧ GridO wr w.heap.size v k (fun _ => n) (turnG n g) ∧ Below w.heap.size w wr) (fun _ i _ => L 0 - (intOf i).toNat)
  case atStart => exact ⟨0, Nat.zero_le _, rfl, HE1.out, hbw1⟩
  case round =>
    clear HE HE1 hb1 hbw1
    obtain ⟨k, hk, rfl, hgo, hbel⟩ := hrel
    have z0 := (hbel.cell (World.block_lt_of_cell? w _ HC0.out)).trans HC0.out
    have HGO := Lib.hid hgo
    obtain ⟨Ao, co, rfl, _, _⟩ := hgo.grid
    clear hgo
    by_cases hlt : k < L 0
    · have hsz := hbel.size
      have HN0 := Lib.hid (OwnS.new wr wr.heap.size 3 (fun i => .int .i64 (turnG n g k i)) (Nat.le_refl _) #[] 0 rfl (by decide))
      go_wp2_with fail
      obtain ⟨wo, hwo⟩ : ∃ wo : World, wo = wr := ⟨_, rfl⟩
      rw [← hwo] at HGO HN0 hbel hsz ⊢
      clear z0 hwo
      go_loopw [6, 7] (fun v i wi => ∃ j : Nat, j ≤ n ∧ i = .int .i64 ((n : Int) - 1 - j) ∧ OwnS wi wo.heap.size 3 v j (fun i => .int .i64 (turnG n g k i)) ∧ Below wo.heap.size wo wi) (fun _ i _ => (intOf i + 1).toNat)
      case atStart => exact ⟨0, Nat.zero_le _, by simp, HN0.out, below_alloc _ _⟩
      case round =>
        clear HN0
        obtain ⟨j, hj, rfl, hown, hbel2⟩ := hrel
        have HOwn := Lib.hid hown
        obtain ⟨Ar, cr, rfl, _⟩ := hown.slice
        clear hown
        have hbw := hbel.trans (hbel2.mono hsz)
        by_cases hlt2 : j < n
        · obtain ⟨B1, o1, A1, c1, hBB, hc1, _, hr1⟩ := HG.out (n - 1 - j) (by omega)
          injection hBB with hBB
          injection hBB with hB1 hB2
          subst hB1 hB2
          rw [HV.out.len (n - 1 - j) (by omega)] at hc1 hr1
          obtain ⟨B2, o2, rfl, hc2⟩ := hr1 k hlt
          have y1 := (hbw.cell (World.block_lt_of_cell? w _ hc1)).trans hc1
          have y2 := (hbw.cell (World.block_lt_of_cell? w _ hc2)).trans hc2
          have en : ((n : Int) - 1 - (j : Int)).toNat = n - 1 - j := by omega
          clear hc1 hc2 hr1
          have hs2 := hbel2.size
          go_wp2_with (at_builtin; refine wpList_app1 rfl (.tmp 29) (.tmp 37) 33 rfl Try.underlying33 Try.infoI rfl rfl HOwn.out (x := .int .i64 (g (n - 1 - j) k)) rfl rfl (by omega) (by decide) hs2 ?_; intro v1 w2 ho1 hg1; obtain ⟨A3, c3, rfl, _⟩ := ho1.slice)
          have HO1 := Lib.hid (own_snoc (f := turnG n g k) ho1 rfl)
          have hb3 : Below wo.heap.size wo w2 := hbel2.trans (hg1.below hs2 (fun q hq => (HOwn.out.lt hq).1))
          clear ho1 hg1 y1 y2 en
          go_wp2_with fail
          go_roundw
          case rel => exact ⟨j + 1, by omega, val_int (by omega), HO1.out, hb3⟩
          case measure => simp [intOf]; omega
        · have HJ : Hid (j = n) := by show j = n; omega
          obtain ⟨V, hV⟩ := HGO.out
          have HV' := Lib.hid hV
          clear hV
          have hs2 := hbel2.size
          go_wp2_with (at_builtin; refine wpList_app1 rfl (.tmp 39) (.tmp 41) 22 rfl Try.underlying22 Try.infoR rfl rfl (HV'.out.1.below hbel2) (x := .slice Ar j cr) rfl rfl (by omega) (by decide) (by omega) ?_; intro v2 w2 ho2 hg2; obtain ⟨A3, c3, rfl, _⟩ := ho2.slice)
          have hrowk := HOwn.out
          rw [HJ.out] at ho2 hrowk
          have HS := Lib.hid (HV'.out.snoc hbel2 (hrowk.mono hsz) (fun q hq => (hrowk.lt hq).1) ho2 hg2)
          have hb2 : Below w.heap.size w w2 := hbw.trans (hg2.below (by omega) (fun q hq => (HGO.out.own_lt hq).1))
          clear ho2 hg2 hrowk
          go_wp2_with fail
          go_roundw
          case rel => exact ⟨k + 1, by omega, by go_num, ⟨_, HS.out⟩, hb2⟩
          case measure => simp [intOf]; omega
    · have HK : Hid (k = L 0) := by show k = L 0; omega
      go_wp2_with fail
      go_ret2
      have H := HGO.out
      rw [HK.out] at H
      obtain ⟨A', c', e, hc', hgrid⟩ := H.grid
      exact ⟨A', c', by rw [← e, HK.out]; rfl, hc', hgrid, hbel⟩

theorem specGridTurn_no (A : Option Addr) (n cp : Nat) (L : Nat → Nat) (g : Nat → Nat → Int) (w : World) (hg : GridF w A n L g) (hn : n ≤ 1048576) (hL : ∀ r, r < n → L r ≤ 1048576) (hv : ¬ Valid n L g) :
    Calls Try.prog 29 #[.slice A n cp] w (RetGS 0 L g false w) := by
  have HG := Lib.hid hg
  have HL := Lib.hid hL
  have HV := Lib.hid hv
  clear hg hL hv
  have hbe := below_alloc w (.cells #[] 33)
  go_enter Try.func29, Try.ntmps29
  go_wp2_with fail
  refine (specValid_no _ _ _ _ _ _ (HG.out.below hbe) hn HL.out HV.out).mono ?_
  rintro e w1 ⟨rfl, hb1⟩
  go_wp2_with fail
  go_ret2
  exact ⟨_, _, rfl, Nat.le_refl _, fun r hr => by omega, hbe.trans (hb1.mono (by simp))⟩

set_option maxHeartbeats 400000 in
theorem specGridMirror_yes (A : Option Addr) (n cp : Nat) (L : Nat → Nat) (g : Nat → Nat → Int) (w : World) (hg : GridF w A n L g) (hv : Valid n L g) :
    Calls Try.prog 25 #[.slice A n cp] w (RetGS n (fun _ => L 0) (mirrorG (L 0) g) true w) := by
  have HG := Lib.hid hg
  have HV := Lib.hid hv
  have hn1 := hv.1
  have hn2 := hv.2.1
  have hl1 := hv.2.2.1
  have hl2 := hv.2.2.2.1
  clear hg hv
  have HE := Lib.hid (GridO.empty w w.heap.size (fun _ => L 0) (mirrorG (L 0) g) (Nat.le_refl _))
  have hbe := below_alloc w (.cells #[] 33)
  go_enter Try.func25, Try.ntmps25
  go_wp2_with fail
  go_loopw [4, 5] (fun v i wr => ∃ k : Nat, k ≤ n ∧ i = .int .i64 k ∧ GridO wr w.heap.size v k (fun _ => L 0) (mirrorG (L 0) g) ∧ Below w.heap.size w wr) (fun _ i _ => n - (intOf i).toNat)
  case atStart => exact ⟨0, Nat.zero_le _, rfl, HE.out, hbe⟩
  case round =>
    clear HE hbe
    obtain ⟨k, hk, rfl, hgo, hbel⟩ := hrel
    have HGO := Lib.hid hgo
    obtain ⟨Ao, co, rfl, _, _⟩ := hgo.grid
    clear hgo
    by_cases hlt : k < n
    · have hdl : decide ((k : Int) < (n : Int)) = true := by simp; omega
      obtain ⟨B, o, A1, c1, rfl, hc1, _, hr1⟩ := HG.out k hlt
      rw [HV.out.len k hlt] at hc1 hr1
      have HC1 := Lib.hid hc1
      have HR1 := Lib.hid hr1
      clear hc1 hr1
      go_wp2_with fail
      refine (specValid_yes _ _ _ _ _ _ (HG.out.below hbel) HV.out).mono ?_
      rintro e wo ⟨rfl, hbo⟩
      have hbel' := hbel.trans (hbo.mono hbel.size)
      have HGO' := Lib.hid (HGO.out.below hbo)
      have hsz := hbel'.size
      have z1 := (hbel'.cell (World.block_lt_of_cell? w _ HC1.out)).trans HC1.out
      have hblt : B < wo.heap.size := by have := World.block_lt_of_cell? w _ HC1.out; simp at this; omega
      have HN0 := Lib.hid (OwnS.new wo wo.heap.size 3 (fun i => .int .i64 (mirrorG (L 0) g k i)) (Nat.le_refl _) #[] 0 rfl (by decide))
      go_wp2_with fail
      clear z1 hblt hbel HGO hbo
      go_loopw [6, 7] (fun v i wi => ∃ j : Nat, j ≤ L 0 ∧ i = .int .i64 ((L 0 : Int) - 1 - j) ∧ OwnS wi wo.heap.size 3 v j (fun i => .int .i64 (mirrorG (L 0) g k i)) ∧ Below wo.heap.size wo wi) (fun _ i _ => (intOf i + 1).toNat)
      case atStart => exact ⟨0, Nat.zero_le _, by simp, HN0.out, below_alloc _ _⟩
      case round =>
        clear HN0
        obtain ⟨j, hj, rfl, hown, hbel2⟩ := hrel
        have HOwn := Lib.hid hown
        obtain ⟨Ar, cr, rfl, _⟩ := hown.slice
        clear hown
        have hbw := hbel'.trans (hbel2.mono hsz)
        by_cases hlt2 : j < L 0
        · obtain ⟨B2, o2, rfl, hc2⟩ := HR1.out (L 0 - 1 - j) (by omega)
          have y1 := (hbw.cell (World.block_lt_of_cell? w _ HC1.out)).trans HC1.out
          have y2 := (hbw.cell (World.block_lt_of_cell? w _ hc2)).trans hc2
          have en : ((L 0 : Int) - 1 - (j : Int)).toNat = L 0 - 1 - j := by omega
          clear hc2
          have hs2 := hbel2.size
          go_wp2_with (at_builtin; refine wpList_app1 rfl (.tmp 30) (.tmp 38) 33 rfl Try.underlying33 Try.infoI rfl rfl HOwn.out (x := .int .i64 (g k (L 0 - 1 - j))) rfl rfl (by omega) (by decide) hs2 ?_; intro v1 w2 ho1 hg1; obtain ⟨A3, c3, rfl, _⟩ := ho1.slice)
          have HO1 := Lib.hid (own_snoc (f := mirrorG (L 0) g k) ho1 rfl)
          have hb3 : Below wo.heap.size wo w2 := hbel2.trans (hg1.below hs2 (fun q hq => (HOwn.out.lt hq).1))
          clear ho1 hg1 y1 y2 en
          go_wp2_with fail
          go_roundw
          case rel => exact ⟨j + 1, by omega, val_int (by omega), HO1.out, hb3⟩
          case measure => simp [intOf]; omega
        · have HJ : Hid (j = L 0) := by show j = L 0; omega
          obtain ⟨V, hV⟩ := HGO'.out
          have HV' := Lib.hid hV
          clear hV
          have hs2 := hbel2.size
          go_wp2_with (at_builtin; refine wpList_app1 rfl (.tmp 40) (.tmp 42) 22 rfl Try.underlying22 Try.infoR rfl rfl (HV'.out.1.below hbel2) (x := .slice Ar j cr) rfl rfl (by omega) (by decide) (by omega) ?_; intro v2 w2 ho2 hg2; obtain ⟨A3, c3, rfl, _⟩ := ho2.slice)
          have hrowk := HOwn.out
          rw [HJ.out] at ho2 hrowk
          have HS := Lib.hid (HV'.out.snoc hbel2 (hrowk.mono hsz) (fun q hq => (hrowk.lt hq).1) ho2 hg2)
          have hb2 : Below w.heap.size w w2 := hbw.trans (hg2.below (by omega) (fun q hq => (HGO'.out.own_lt hq).1))
          clear ho2 hg2 hrowk
          go_wp2_with fail
          go_roundw
          case rel => exact ⟨k + 1, by omega, by go_num, ⟨_, HS.out⟩, hb2⟩
          case measure => simp [intOf]; omega
    · have HK : Hid (k = n) := by show k = n; omega
      have hdl : decide ((k : Int) < (n : Int)) = false := by simp; omega
      go_wp2_with fail
      refine (specValid_yes _ _ _ _ _ _ (HG.out.below hbel) HV.out).mono ?_
      rintro e wo ⟨rfl, hbo⟩
      go_wp2_with fail
      go_ret2
      have H := HGO.out.below hbo
      rw [HK.out] at H
      obtain ⟨A', c', e, hc', hgrid⟩ := H.grid
      exact ⟨A', c', by rw [← e, HK.out]; rfl, hc', hgrid, hbel.trans (hbo.mono hbel.size)⟩

theorem specGridMirror_no (A : Option Addr) (n cp : Nat) (L : Nat → Nat) (g : Nat → Nat → Int) (w : World) (hg : GridF w A n L g) (hn : n ≤ 1048576) (hL : ∀ r, r < n → L r ≤ 1048576) (hv : ¬ Valid n L g) :
    Calls Try.prog 25 #[.slice A n cp] w (RetGS 0 L g false w) := by
  have HG := Lib.hid hg
  have HL := Lib.hid hL
  have HV := Lib.hid hv
  clear hg hL hv
  have hbe := below_alloc w (.cells #[] 33)
  have hd0 : decide ((0 : Int) < ((0 : Nat) : Int)) = false := by simp
  go_enter Try.func25, Try.ntmps25
  go_wp2_with fail
  go_loopw [4, 5] (fun v i wr => i = .int .i64 0 ∧ v = .slice (some ⟨w.heap.size, 0, none⟩) 0 0 ∧ Below w.heap.size w wr) (fun _ i _ => 0)
  case atStart => exact ⟨rfl, rfl, hbe⟩
  case round =>
    clear hbe
    obtain ⟨rfl, rfl, hbel⟩ := hrel
    by_cases h0 : 0 < n
    · have hdl : decide ((0 : Int) < (n : Int)) = true := by simp; omega
      go_wp2_with fail
      refine (specValid_no _ _ _ _ _ _ (HG.out.below hbel) hn HL.out HV.out).mono ?_
      rintro e w1 ⟨rfl, hb1⟩
      have hbel1 := hbel.trans (hb1.mono hbel.size)
      go_wp2_with fail
      refine (specValid_no _ _ _ _ _ _ (HG.out.below hbel1) hn HL.out HV.out).mono ?_
      rintro e w2 ⟨rfl, hb2⟩
      go_wp2_with fail
      go_ret2
      exact ⟨_, _, rfl, Nat.le_refl _, fun r hr => by omega, hbel1.trans (hb2.mono hbel1.size)⟩
    · have hdl : decide ((0 : Int) < (n : Int)) = false := by simp; omega
      go_wp2_with fail
      refine (specValid_no _ _ _ _ _ _ (HG.out.below hbel) hn HL.out HV.out).mono ?_
      rintro e w1 ⟨rfl, hb1⟩
      go_wp2_with fail
      go_ret2
      exact ⟨_, _, rfl, Nat.le_refl _, fun r hr => by omega, hbel.trans (hb1.mono hbel.size)⟩

end Go.Proofs.Ytigbmpmhhakklaa
