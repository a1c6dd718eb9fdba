/- Parts of grids, grids beside and below each other, raised and inverted grids: what the reference's functions return. -/
import Derived.Test.YthndabbjkkjkhaaIPart
namespace Go.Proofs.Ythndabbjkkjkhaa
set_option linter.unusedVariables false
set_option linter.unusedSimpArgs false
open Go.RowKit

set_option maxHeartbeats 1000000 in
theorem specGridPart_nat (A : Option Addr) (n cp : Nat) (L : Nat → Nat) (g : Nat → Nat → Int) (t b l r : Nat) (w : World) (hg : GridF w A n L g) (hv : Valid n L g) (h1 : t ≤ b) (h2 : b < n) (h3 : l ≤ r) (h4 : r < L 0) :
    Calls Try.prog 32 #[.slice A n cp, .int .i64 t, .int .i64 b, .int .i64 l, .int .i64 r] w (RetGS (b - t + 1) (fun _ => r - l + 1) (partG t l g) true w) := by
  have HG := Lib.hid hg
  have HV := Lib.hid hv
  have hn1 := hv.1
  have hn2 := hv.2.1
  have hl1 := hv.2.2.1
  have hl2 := hv.2.2.2.1
  clear hg hv
  have HE := Lib.hid (GridO.empty w w.heap.size (fun _ => r - l + 1) (partG t l g) (Nat.le_refl _))
  have hbe := below_alloc w (.cells #[] 29)
  have d1 : decide (b < t) = false := by simpa using h1
  have d2 : decide (r < l) = false := by simpa using h3
  go_enter Try.func32, Try.ntmps32
  go_wp2_with fail
  refine (l1Cell_yes _ _ _ _ _ _ _ _ (HG.out.below hbe) ⟨HV.out, by omega, by omega, by omega, by omega⟩).mono ?_
  rintro e w1 ⟨rfl, hb1⟩
  have hbw1 : Below w.heap.size w w1 := hbe.trans (hb1.mono (by simp))
  go_wp2_with fail
  refine (l1Cell_yes _ _ _ _ _ _ _ _ (HG.out.below hbw1) ⟨HV.out, by omega, by omega, by omega, by omega⟩).mono ?_
  rintro e w2 ⟨rfl, hb2⟩
  have HE2 := Lib.hid ((HE.out.below hb1).below hb2)
  have hbw2 : Below w.heap.size w w2 := hbw1.trans (hb2.mono hbw1.size)
  clear HE hbe hb1 hbw1 hb2
  go_wp2_with fail
  go_loopw [12, 13] (fun v i wr => ∃ k : Nat, k ≤ b - t + 1 ∧ i = .int .i64 ((t + k : Nat)) ∧ GridO wr w.heap.size v k (fun _ => r - l + 1) (partG t l g) ∧ Below w.heap.size w wr) (fun _ i _ => b + 1 - (intOf i).toNat)
  case atStart => exact ⟨0, Nat.zero_le _, rfl, HE2.out, hbw2⟩
  case round =>
    clear HE2 hbw2
    obtain ⟨k, hk, rfl, hgo, hbel⟩ := hrel
    have HGO := Lib.hid hgo
    obtain ⟨Ao, co, rfl, _, _⟩ := hgo.grid
    clear hgo
    by_cases hlt : k < b - t + 1
    · obtain ⟨B, o, A1, c1, rfl, hc, hcc, hr⟩ := (HG.out.below hbel) (t + k) (by omega)
      rw [HV.out.len (t + k) (by omega)] at hc hr hcc
      obtain ⟨B1, o1, rfl, _⟩ := hr l (by omega)
      have hBl : B < wr.heap.size := World.block_lt_of_cell? wr _ hc
      have hsz := hbel.size
      have HRA : Hid (∀ q, q < r + 1 - l → ∃ b o, some (⟨B1, o1 + l, none⟩ : Addr) = some ⟨b, o, none⟩ ∧ (wr.alloc (.cells #[] 3)).cell? ⟨b, o + q, none⟩ = some (.int .i64 (partG t l g k q))) := fun q hq => by
        obtain ⟨B2, o2, e, hc2⟩ := hr (l + q) (by omega)
        injection e with e
        injection e with e1 e2
        subst e1 e2
        exact ⟨_, _, rfl, by rw [Nat.add_assoc]; exact cell_alloc hc2 _⟩
      clear hr
      obtain ⟨V, hV⟩ := HGO.out
      have HV' := Lib.hid hV
      clear hV
      have HE := Lib.hid (OwnS.new wr w.heap.size 3 (fun c => .int .i64 (partG t l g k c)) hsz #[] 0 rfl (by decide))
      have hm1 : r + 1 - l ≤ 7 := by omega
      have htn : t + k < n := by omega
      have htb : t + k ≤ b := by omega
      have hrc : r + 1 ≤ c1 := by omega
      have hlc : l < c1 := by omega
      have e1 : ((r : Int) + 1).toNat = r + 1 := by omega
      go_wp2_with (first
        | (at_builtin; refine wpList_appN rfl (.tmp 45) (.tmp 53) 29 rfl Try.underlying29 Try.infoI rfl rfl HE.out (S := fun c => .int .i64 (partG t l g k c)) (fun _ _ => rfl) rfl HRA.out (by omega) (by decide) (by simp; omega) ?_; intro v1 w1 ho1 hg1; obtain ⟨A2, c2, rfl, HO1, hb1, hnew⟩ := app_new ho1 hg1; clear ho1 hg1)
        | (at_builtin; refine wpList_app1 rfl (.tmp 44) (.tmp 55) 23 rfl Try.underlying23 Try.infoR rfl rfl (HV'.out.1.below hb1) (x := .slice A2 (r + 1 - l) c2) rfl rfl (by omega) (by decide) (by have := hb1.size; omega) ?_; intro v2 w2 ho2 hg2; obtain ⟨A3, c3, rfl, _⟩ := ho2.slice))
      have hlen : r + 1 - l = r - l + 1 := by omega
      rw [hlen] at HO1 hnew ho2
      have HS := Lib.hid (HV'.out.snoc hb1 HO1.out hnew.out ho2 hg2)
      have hb2 : Below w.heap.size w w2 := (hbel.trans (hb1.mono hsz)).trans (hg2.below (by have := hb1.size; omega) (fun j hj => (HGO.out.own_lt hj).1))
      clear ho2 hg2 hlen
      go_wp2_with fail
      go_roundw
      case rel => exact ⟨k + 1, by omega, by go_num, ⟨_, HS.out⟩, hb2⟩
      case measure => simp [intOf]; omega
    · have HK : Hid (k = b - t + 1) := by show k = b - t + 1; omega
      go_wp2_with fail
      go_ret2
      have H := HGO.out
      rw [HK.out] at H
      obtain ⟨A', c', e, hc', hgrid⟩ := H.grid
      exact ⟨A', c', by rw [← e, HK.out]; rfl, hc', hgrid, hbel⟩

theorem specGridPart_yes (A : Option Addr) (n cp : Nat) (L : Nat → Nat) (g : Nat → Nat → Int) (tp bt lf rt : Int) (w : World) (hg : GridF w A n L g) (hh : Prt n L g tp bt lf rt) :
    Calls Try.prog 32 #[.slice A n cp, .int .i64 tp, .int .i64 bt, .int .i64 lf, .int .i64 rt] w (RetGS (bt - tp + 1).toNat (fun _ => (rt - lf + 1).toNat) (partG tp.toNat lf.toNat g) true w) := by
  obtain ⟨hv, h1, h2, h3, h4, h5, h6⟩ := hh
  obtain ⟨t, rfl⟩ := Int.eq_ofNat_of_zero_le h1
  obtain ⟨b, rfl⟩ := Int.eq_ofNat_of_zero_le (by omega : 0 ≤ bt)
  obtain ⟨l, rfl⟩ := Int.eq_ofNat_of_zero_le h4
  obtain ⟨r, rfl⟩ := Int.eq_ofNat_of_zero_le (by omega : 0 ≤ rt)
  rw [show ((b : Int) - (t : Int) + 1).toNat = b - t + 1 by omega, show ((r : Int) - (l : Int) + 1).toNat = r - l + 1 by omega, Int.toNat_natCast, Int.toNat_natCast]
  exact specGridPart_nat A n cp L g t b l r w hg hv (by omega) (by omega) (by omega) (by omega)

theorem specGridPart_no (A : Option Addr) (n cp : Nat) (L : Nat → Nat) (g : Nat → Nat → Int) (tp bt lf rt : Int) (w : World) (hg : GridF w A n L g) (hn : n ≤ 1048576) (hL : ∀ r, r < n → L r ≤ 1048576) (h : ¬ Prt n L g tp bt lf rt) :
    Calls Try.prog 32 #[.slice A n cp, .int .i64 tp, .int .i64 bt, .int .i64 lf, .int .i64 rt] w (RetGS 0 L g false w) := by
  have hbe := below_alloc w (.cells #[] 29)
  have HG := Lib.hid (hg.below hbe)
  have HL := Lib.hid hL
  have HP := Lib.hid h
  clear hg hL h
  by_cases q1 : HasCell n L g tp lf
  · have HQ1 := Lib.hid q1
    have c1 := q1.2.1
    have c2 := q1.2.2.1
    have c3 := q1.2.2.2.1
    have c4 := q1.2.2.2.2
    by_cases q2 : HasCell n L g bt rt
    · have HQ2 := Lib.hid q2
      have h' : bt < tp ∨ rt < lf := by
        refine Classical.byContradiction fun hn => HP.out ⟨q1.1, c1, by omega, q2.2.2.1, c3, by omega, q2.2.2.2.2⟩
      clear q1 q2
      by_cases q3 : bt < tp
      · go_enter Try.func32, Try.ntmps32
        go_wp2_with fail
        refine (l1Cell_yes _ _ _ _ _ _ _ _ HG.out HQ1.out).mono ?_
        rintro e w1 ⟨rfl, hb1⟩
        go_wp2_with fail
        refine (l1Cell_yes _ _ _ _ _ _ _ _ (HG.out.below hb1) HQ2.out).mono ?_
        rintro e w2 ⟨rfl, hb2⟩
        have hb12 := hb1.trans (hb2.mono hb1.size)
        go_wp2_with fail
        go_ret2
        exact ⟨_, _, rfl, Nat.le_refl _, fun r hr => by omega, hbe.trans (hb12.mono (by simp))⟩
      · have d1 : decide (bt < tp) = false := by simpa using q3
        have q4 : rt < lf := by omega
        go_enter Try.func32, Try.ntmps32
        go_wp2_with fail
        refine (l1Cell_yes _ _ _ _ _ _ _ _ HG.out HQ1.out).mono ?_
        rintro e w1 ⟨rfl, hb1⟩
        go_wp2_with fail
        refine (l1Cell_yes _ _ _ _ _ _ _ _ (HG.out.below hb1) HQ2.out).mono ?_
        rintro e w2 ⟨rfl, hb2⟩
        have hb12 := hb1.trans (hb2.mono hb1.size)
        go_wp2_with fail
        go_ret2
        exact ⟨_, _, rfl, Nat.le_refl _, fun r hr => by omega, hbe.trans (hb12.mono (by simp))⟩
    · have HQ2 := Lib.hid q2
      clear q1 q2
      go_enter Try.func32, Try.ntmps32
      go_wp2_with fail
      refine (l1Cell_yes _ _ _ _ _ _ _ _ HG.out HQ1.out).mono ?_
      rintro e w1 ⟨rfl, hb1⟩
      go_wp2_with fail
      refine (l1Cell_no _ _ _ _ _ _ _ _ (HG.out.below hb1) hn HL.out HQ2.out).mono ?_
      rintro e w2 ⟨rfl, hb2⟩
      have hb12 := hb1.trans (hb2.mono hb1.size)
      go_wp2_with fail
      go_ret2
      exact ⟨_, _, rfl, Nat.le_refl _, fun r hr => by omega, hbe.trans (hb12.mono (by simp))⟩
  · have HQ1 := Lib.hid q1
    clear q1
    go_enter Try.func32, Try.ntmps32
    go_wp2_with fail
    refine (l1Cell_no _ _ _ _ _ _ _ _ HG.out hn HL.out HQ1.out).mono ?_
    rintro e w1 ⟨rfl, hb1⟩
    go_wp2_with fail
    go_ret2
    exact ⟨_, _, rfl, Nat.le_refl _, fun r hr => by omega, hbe.trans (hb1.mono (by simp))⟩

end Go.Proofs.Ythndabbjkkjkhaa
