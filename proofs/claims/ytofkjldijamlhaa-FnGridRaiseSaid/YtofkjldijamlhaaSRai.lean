/- Raised and inverted grids, grids beside and below each other: what the reference's functions return. -/
import Derived.Test.YtofkjldijamlhaaIRai
import Derived.Test.YtofkjldijamlhaaDraw
namespace Go.Proofs.Ytofkjldijamlhaa
set_option linter.unusedVariables false
set_option linter.unusedSimpArgs false
open Go.RowKit

/-- The heights of the rows before k, and the first j of row k, are changed. -/
def chg (F g : Nat → Nat → Int) (k j : Nat) : Nat → Nat → Int := fun r c => if r < k ∨ (r = k ∧ c < j) then F r c else g r c
theorem chg_at {F g : Nat → Nat → Int} {k j : Nat} : chg F g k j k j = g k j := if_neg (by omega)
theorem chg_set {F g : Nat → Nat → Int} {k j : Nat} (r c : Nat) : gset (chg F g k j) k j (F k j) r c = chg F g k (j + 1) r c := by
  unfold gset chg
  by_cases e : r = k ∧ c = j
  · rw [if_pos e, if_pos (by omega), e.1, e.2]
  · rw [if_neg e]
    by_cases e2 : r < k ∨ (r = k ∧ c < j)
    · rw [if_pos e2, if_pos (by omega)]
    · rw [if_neg e2, if_neg (by omega)]
theorem chg_row {F g : Nat → Nat → Int} {k j : Nat} (r c : Nat) (hc : c < j) : chg F g k j r c = chg F g (k + 1) 0 r c := by
  unfold chg
  by_cases e : r < k ∨ (r = k ∧ c < j)
  · rw [if_pos e, if_pos (by omega)]
  · rw [if_neg e, if_neg (by omega)]

set_option maxHeartbeats 1000000 in
theorem l1Change_any (A : Option Addr) (n cp : Nat) (L : Nat → Nat) (g : Nat → Nat → Int) (t m : Int) (ok : Bool) (w : World) (hg : GridF w A n L g) (hv : Valid n L g) (ht : t = 1 ∨ t = -1) (hm1 : -99 ≤ m) (hm2 : m ≤ 99) (hok : ok = true ↔ Valid n L (fun r c => t * g r c + m)) :
    Calls Try.prog 49 #[.slice A n cp, .int .i64 t, .int .i64 m] w (fun e w' => (ok = true ∧ RetGS n L (fun r c => t * g r c + m) true w e w') ∨ (ok = false ∧ RetGS 0 L g false w e w')) := by
  have HG := Lib.hid hg
  have HV := Lib.hid hv
  have hn1 := hv.1
  have hn2 := hv.2.1
  have hl1 := hv.2.2.1
  have hl2 := hv.2.2.2.1
  have HOK := Lib.hid hok
  obtain ⟨F, hF⟩ : ∃ F : Nat → Nat → Int, F = fun r c => t * g r c + m := ⟨_, rfl⟩
  rw [← hF] at HOK ⊢
  have HF : Hid (∀ r c, r < n → c < L 0 → F r c = t * g r c + m ∧ -200 ≤ t * g r c ∧ t * g r c ≤ 200) := fun r c hr hc => by
    have := hv.rng hr hc
    rw [hF]
    refine ⟨rfl, ?_⟩
    rcases ht with rfl | rfl <;> omega
  have ht1 : -1 ≤ t := by omega
  have ht2 : t ≤ 1 := by omega
  clear hg hv hok hF ht
  go_enter Try.func49, Try.ntmps49
  go_wp2_with fail
  refine (l1Copy_any _ _ _ _ _ _ HG.out (by omega) (fun r hr => HV.out.L_le r hr)).mono ?_
  rintro e w1 ⟨v, rfl, hgo, hb1⟩
  obtain ⟨V, hV⟩ := hgo
  obtain ⟨Ao, co, rfl, _⟩ := hV.1.slice
  have HV0 : Hid (GridOV w1 w.heap.size (.slice Ao n co) n L (chg F g 0 0) V) := hV.congr (fun _ _ => rfl) (fun r c _ _ => by unfold chg; rw [if_neg (by omega)])
  clear hV
  go_wp2_with fail
  go_loopw [9] (fun i wr => ∃ k : Nat, k ≤ n ∧ i = .int .i64 k ∧ Hid (GridOV wr w.heap.size (.slice Ao n co) n L (chg F g k 0) V) ∧ Below w.heap.size w wr) (fun i _ => n - (intOf i).toNat)
  case atStart => exact ⟨0, Nat.zero_le _, rfl, HV0.out, hb1⟩
  case round =>
    clear HV0 hb1
    obtain ⟨k, hk, rfl, HK, hbel⟩ := hrel
    by_cases hlt : k < n
    · go_wp2_with fail
      obtain ⟨wo, hwo⟩ : ∃ wo : World, wo = wr := ⟨_, rfl⟩
      rw [← hwo] at HK hbel ⊢
      clear hwo
      have HLk := Lib.hid (HV.out.len k hlt)
      go_loopw [10] (fun i wi => ∃ j : Nat, j ≤ L 0 ∧ i = .int .i64 j ∧ Hid (GridOV wi w.heap.size (.slice Ao n co) n L (chg F g k j) V) ∧ Below w.heap.size w wi) (fun i _ => L 0 - (intOf i).toNat)
      case atStart => exact ⟨0, Nat.zero_le _, rfl, HK.out, hbel⟩
      case round =>
        clear HK hbel
        obtain ⟨j, hj, rfl, HK, hbel⟩ := hrel
        obtain ⟨Bo, co', e0, _, hBo, hco, _⟩ := HK.out.1.cell (k := k) hlt
        injection e0 with e0 _ e1
        subst e0 e1
        obtain ⟨Br, cr, hVr, hle, _⟩ : ∃ Br cr, V k = .slice (some ⟨Br, 0, none⟩) (L 0) cr ∧ L 0 ≤ cr ∧ w.heap.size ≤ Br := by
          obtain ⟨Br, cr, h1, h2, h3, _⟩ := OwnS.cell (k := 0) (HK.out.2.1 k hlt) (by rw [HLk.out]; omega)
          rw [HLk.out] at h1 h2
          exact ⟨Br, cr, h1, h2, h3⟩
        rw [hVr] at hco
        by_cases hlt2 : j < L 0
        · obtain ⟨Br', cr', hVr', _, hlo', hcj, hfj⟩ := OwnS.cell (k := j) (HK.out.2.1 k hlt) (by rw [HLk.out]; exact hlt2)
          rw [hVr] at hVr'
          injection hVr' with e2
          injection e2 with e2
          injection e2 with e2
          subst e2
          rw [chg_at] at hcj
          obtain ⟨q1, q2, q3⟩ := HF.out k j hlt hlt2
          have HQ1 := Lib.hid q1
          have HVr := Lib.hid hVr
          have p1 : IntKind.i64.wrap (t * g k j) = t * g k j := IntWalk.i64_in _ (by omega)
          have p2 : IntKind.i64.wrap (t * g k j + m) = t * g k j + m := IntWalk.i64_in _ (by omega)
          clear q1 hVr
          go_wp2_with fail
          refine wp_region_drew_tail 17 (by kernel_rfl) (by kernel_rfl) ?_
          simp only [List.take_succ_cons, List.take_zero, List.drop_succ_cons, List.drop_zero]
          repeat (go_big_quiet_step (fail))
          refine wpQuiet_nil ?_
          rintro _ ⟨nq, rfl⟩
          have hcj2 : (wr.drewN nq).cell? ⟨Br, j, none⟩ = _ := hcj
          have hfj2 : (wr.drewN nq).frozen? ⟨Br, j, none⟩ = false := hfj
          clear p1 p2
          go_wp2_with fail
          have HS := Lib.hid ((GridOV.store (HK.out.below (below_drewN (Below.refl _ _) nq)) hlt (by rw [HLk.out]; exact hlt2) (by rw [HLk.out]; exact HVr.out) (F k j)).congr (fun _ _ => rfl) (fun r c _ _ => chg_set r c))
          have hb2 : Below w.heap.size w ((wr.drewN nq).setCell ⟨Br, j, none⟩ (.int .i64 (F k j))) := (below_drewN hbel nq).setCell (by exact hlo') _
          rw [HQ1.out] at HS hb2
          go_roundw
          case rel => exact ⟨j + 1, by omega, by go_num, HS.out, hb2⟩
          case measure => simp [intOf]; omega
        · have HJ : Hid (j = L 0) := by show j = L 0; omega
          go_wp2_with fail
          go_roundw
          case rel => exact ⟨k + 1, by omega, by go_num, HK.out.congr (fun _ _ => rfl) (fun r c hr hc => by rw [HJ.out]; exact chg_row r c (by rw [HV.out.len r hr] at hc; exact hc)), hbel⟩
          case measure => simp [intOf]; omega
    · have HFin : Hid (GridF wr Ao n L F) := by
        have : k = n := by omega
        have H := HK.out
        rw [this] at H
        obtain ⟨A', c', e, _, hgrid⟩ := GridO.grid ⟨V, H⟩
        injection e with e
        subst e
        exact hgrid.congrL (fun _ _ => rfl) (fun r c hr _ => by unfold chg; rw [if_pos (.inl hr)])
      cases ok
      · have HNV : Hid (¬ Valid n L F) := fun hh => absurd (HOK.out.2 hh) (by decide)
        go_wp2_with fail
        refine (specValid_no _ _ _ _ _ _ HFin.out (by omega) (fun r hr => HV.out.L_le r hr) HNV.out).mono ?_
        rintro e w3 ⟨rfl, hb3⟩
        have hb4 := hbel.trans (hb3.mono hbel.size)
        go_wp2_with fail
        go_ret2
        exact ⟨_, _, rfl, Nat.le_refl _, fun r hr => by omega, hb4.alloc hb4.size _⟩
      · have HVF := Lib.hid (HOK.out.1 rfl)
        have hco : n ≤ co := (by
          obtain ⟨A', c', e, h1, _⟩ := GridO.grid ⟨V, HK.out⟩
          cases e
          exact h1)
        go_wp2_with fail
        refine (specValid_yes _ _ _ _ _ _ HFin.out HVF.out).mono ?_
        rintro e w3 ⟨rfl, hb3⟩
        go_wp2_with fail
        go_ret2
        exact ⟨_, _, rfl, hco, HFin.out.below hb3, hbel.trans (hb3.mono hbel.size)⟩

theorem specGridInvert_yes (A : Option Addr) (n cp : Nat) (L : Nat → Nat) (g : Nat → Nat → Int) (w : World) (hg : GridF w A n L g) (hv : Valid n L g) :
    Calls Try.prog 14 #[.slice A n cp] w (RetGS n (fun _ => L 0) (invG g) true w) := by
  have HG := Lib.hid hg
  have HV := Lib.hid hv
  have HI : Hid (Valid n L (fun r c => -1 * g r c + 99)) := by
    show Valid n L (fun r c => -1 * g r c + 99)
    have := hv.inv
    unfold invG at this
    have e : (fun r c => -1 * g r c + 99) = fun r c => 99 - g r c := by funext r c; omega
    rw [e]; exact this
  clear hg hv
  go_enter Try.func14, Try.ntmps14
  go_wp2_with fail
  refine (specValid_yes _ _ _ _ _ _ HG.out HV.out).mono ?_
  rintro e w1 ⟨rfl, hb1⟩
  go_wp2_with fail
  refine (l1Change_any _ _ _ _ _ _ _ true _ (HG.out.below hb1) HV.out (by omega) (by omega) (by omega) ⟨fun _ => HI.out, fun _ => rfl⟩).mono ?_
  rintro e w2 hh
  rcases hh with ⟨_, A2, c2, rfl, hc2, hg2, hb2⟩ | ⟨hh, _⟩
  · have HO := Lib.hid (hg2.congrL (L' := fun _ => L 0) (g' := invG g) (fun r hr => HV.out.len r hr) (fun r c _ _ => by unfold invG; omega))
    clear hg2
    go_wp2_with fail
    go_ret2
    exact ⟨_, _, rfl, hc2, HO.out, hb1.trans (hb2.mono hb1.size)⟩
  · exact absurd hh (by decide)

theorem specGridInvert_no (A : Option Addr) (n cp : Nat) (L : Nat → Nat) (g : Nat → Nat → Int) (w : World) (hg : GridF w A n L g) (hn : n ≤ 1048576) (hL : ∀ r, r < n → L r ≤ 1048576) (hv : ¬ Valid n L g) :
    Calls Try.prog 14 #[.slice A n cp] w (RetGS 0 L g false w) := by
  have HG := Lib.hid hg
  have HL := Lib.hid hL
  have HV := Lib.hid hv
  clear hg hL hv
  go_enter Try.func14, Try.ntmps14
  go_wp2_with fail
  refine (specValid_no _ _ _ _ _ _ HG.out hn HL.out HV.out).mono ?_
  rintro e w1 ⟨rfl, hb1⟩
  go_wp2_with fail
  go_ret2
  exact ⟨_, _, rfl, Nat.le_refl _, fun r hr => by omega, hb1.alloc hb1.size _⟩

theorem specGridRaise_yes (A : Option Addr) (n cp : Nat) (L : Nat → Nat) (g : Nat → Nat → Int) (k : Int) (w : World) (hg : GridF w A n L g) (h : Rai n L g k) :
    Calls Try.prog 19 #[.slice A n cp, .int .i64 k] w (RetGS n (fun _ => L 0) (raiseG k g) true w) := by
  obtain ⟨hv, hk1, hk2, hvr⟩ := h
  have HG := Lib.hid hg
  have HV := Lib.hid hv
  have HI : Hid (Valid n L (fun r c => 1 * g r c + k)) := by
    show Valid n L (fun r c => 1 * g r c + k)
    unfold raiseG at hvr
    have e : (fun r c => 1 * g r c + k) = fun r c => g r c + k := by funext r c; omega
    rw [e]; exact hvr
  clear hg hv hvr
  go_enter Try.func19, Try.ntmps19
  go_wp2_with fail
  refine (specValid_yes _ _ _ _ _ _ HG.out HV.out).mono ?_
  rintro e w1 ⟨rfl, hb1⟩
  go_wp2_with fail
  refine (l6In_yes _ _ _ _ (by omega) (by omega)).mono ?_
  rintro e w' ⟨rfl, rfl⟩
  go_wp2_with fail
  refine (l1Change_any _ _ _ _ _ _ _ true _ (HG.out.below hb1) HV.out (by omega) (by omega) (by omega) ⟨fun _ => HI.out, fun _ => rfl⟩).mono ?_
  rintro e w2 hh
  rcases hh with ⟨_, A2, c2, rfl, hc2, hg2, hb2⟩ | ⟨hh, _⟩
  · have HO := Lib.hid (hg2.congrL (L' := fun _ => L 0) (g' := raiseG k g) (fun r hr => HV.out.len r hr) (fun r c _ _ => by unfold raiseG; omega))
    clear hg2
    go_wp2_with fail
    go_ret2
    exact ⟨_, _, rfl, hc2, HO.out, hb1.trans (hb2.mono hb1.size)⟩
  · exact absurd hh (by decide)

theorem specGridRaise_no (A : Option Addr) (n cp : Nat) (L : Nat → Nat) (g : Nat → Nat → Int) (k : Int) (w : World) (hg : GridF w A n L g) (hn : n ≤ 1048576) (hL : ∀ r, r < n → L r ≤ 1048576) (h : ¬ Rai n L g k) :
    Calls Try.prog 19 #[.slice A n cp, .int .i64 k] w (RetGS 0 L g false w) := by
  have HG := Lib.hid hg
  have HL := Lib.hid hL
  clear hg hL
  by_cases hv : Valid n L g
  · have HV := Lib.hid hv
    by_cases hk : -99 ≤ k ∧ k ≤ 99
    · have HI : Hid (¬ Valid n L (fun r c => 1 * g r c + k)) := fun hh => by
        have e : (fun r c => 1 * g r c + k) = raiseG k g := by funext r c; unfold raiseG; omega
        rw [e] at hh
        exact absurd ⟨hv, hk.1, hk.2, hh⟩ h
      obtain ⟨hk1, hk2⟩ := hk
      clear hv h
      go_enter Try.func19, Try.ntmps19
      go_wp2_with fail
      refine (specValid_yes _ _ _ _ _ _ HG.out HV.out).mono ?_
      rintro e w1 ⟨rfl, hb1⟩
      go_wp2_with fail
      refine (l6In_yes _ _ _ _ (by omega) (by omega)).mono ?_
      rintro e w' ⟨rfl, rfl⟩
      go_wp2_with fail
      refine (l1Change_any _ _ _ _ _ _ _ false _ (HG.out.below hb1) HV.out (by omega) (by omega) (by omega) ⟨fun e => absurd e (by decide), fun hh => absurd hh HI.out⟩).mono ?_
      rintro e w2 hh
      rcases hh with ⟨hh, _⟩ | ⟨_, A2, c2, rfl, hc2, hg2, hb2⟩
      · exact absurd hh (by decide)
      · clear hg2
        go_wp2_with fail
        go_ret2
        exact ⟨_, _, rfl, hc2, fun r hr => by omega, hb1.trans (hb2.mono hb1.size)⟩
    · clear hv h
      go_enter Try.func19, Try.ntmps19
      go_wp2_with fail
      refine (specValid_yes _ _ _ _ _ _ HG.out HV.out).mono ?_
      rintro e w1 ⟨rfl, hb1⟩
      go_wp2_with fail
      refine (l6In_no _ _ _ _ (by omega)).mono ?_
      rintro e w' ⟨rfl, rfl⟩
      go_wp2_with fail
      go_ret2
      exact ⟨_, _, rfl, Nat.le_refl _, fun r hr => by omega, hb1.alloc hb1.size _⟩
  · have HV := Lib.hid hv
    clear hv h
    go_enter Try.func19, Try.ntmps19
    go_wp2_with fail
    refine (specValid_no _ _ _ _ _ _ HG.out hn HL.out HV.out).mono ?_
    rintro e w1 ⟨rfl, hb1⟩
    go_wp2_with fail
    go_ret2
    exact ⟨_, _, rfl, Nat.le_refl _, fun r hr => by omega, hb1.alloc hb1.size _⟩

end Go.Proofs.Ytofkjldijamlhaa
