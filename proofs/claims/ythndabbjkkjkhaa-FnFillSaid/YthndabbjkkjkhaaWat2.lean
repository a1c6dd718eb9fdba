/- The filled grid of the reference; the program's WaterLeaves. -/
import Derived.Test.YthndabbjkkjkhaaWat
import Derived.Test.YthndabbjkkjkhaaGSet
namespace Go.Proofs.Ythndabbjkkjkhaa
set_option linter.unusedVariables false
set_option linter.unusedSimpArgs false
open Go.RowKit

def RetGOk (n : Nat) (L : Nat → Nat) (g : Nat → Nat → Int) (ok : Bool) (w : World) (e : Ending) (w' : World) : Prop :=
  ∃ A c, e = .returned (.tuple #[.slice A n c, .bool ok]) ∧ n ≤ c ∧ GridO w' w.heap.size (.slice A n c) n L g ∧ Below w.heap.size w w'
set_option maxHeartbeats 4000000 in
set_option maxRecDepth 100000 in
theorem specWaterFill_own (A : Option Addr) (n cp : Nat) (L : Nat → Nat) (g : Nat → Nat → Int) (w : World) (hg : GridF w A n L g) (hv : Valid n L g) :
    Calls Try.prog 53 #[.slice A n cp] w (RetGOk n (fun _ => L 0) (fillG n (L 0) g) true w) := by
  have HG := Lib.hid hg
  have HV := Lib.hid hv
  have hn1 := hv.1
  have hn2 := hv.2.1
  have hl1 := hv.2.2.1
  have hl2 := hv.2.2.2.1
  have hN0 : 0 < n * L 0 := Nat.mul_pos (by omega) (by omega)
  clear hg hv
  obtain ⟨B, o, A0, c0, rfl, hc0, _, hr0⟩ := HG.out 0 (by omega)
  rw [Nat.add_zero] at hc0
  have HC0 := Lib.hid hc0
  clear hr0 hc0
  have HE := Lib.hid (GridO.empty w w.heap.size (fun _ => L 0) (fillG n (L 0) g) (Nat.le_refl _))
  have hbe := below_alloc w (.cells #[] 29)
  go_enter Try.func53, Try.ntmps53
  go_wp2_with fail
  refine (specValid_yes _ _ _ _ _ _ (HG.out.below hbe) HV.out).mono ?_
  rintro e w1 ⟨rfl, hb1⟩
  have hbw1 : Below w.heap.size w w1 := hbe.trans (hb1.mono (by simp))
  go_wp2_with fail
  refine (l2Fill_any _ _ _ _ _ _ (HG.out.below hbw1) HV.out).mono ?_
  rintro e w2 ⟨v, rfl, hown, hb2⟩
  obtain ⟨Af, cf, rfl, hcf⟩ := hown.s.slice
  have HE2 := Lib.hid ((HE.out.below hb1).below hb2)
  have hbw2 : Below w.heap.size w w2 := hbw1.trans (hb2.mono hbw1.size)
  obtain ⟨bf, rfl, hlof, hbf, hcells⟩ := hown.cells hN0
  have HCell : Hid (∀ k, k < n * L 0 → w2.cell? ⟨bf, k, none⟩ = some (.int .i64 (fillV n (L 0) (flat (L 0) g) k))) := fun k hk => (hcells k hk).1
  have z0 := (hbw2.cell (World.block_lt_of_cell? w _ HC0.out)).trans HC0.out
  have hnb : w.heap.size < bf := by have := hb1.size; simp at this; omega
  clear hown hcells hb1 hb2 HE hbe hbw1
  go_wp2_with fail
  clear z0
  go_loopw [4, 7] (fun v i wr => ∃ k : Nat, k ≤ n ∧ i = .int .i64 k ∧ GridO wr w.heap.size v k (fun _ => L 0) (fillG n (L 0) g) ∧ Below w.heap.size w wr ∧ Hid (∀ k, k < n * L 0 → wr.cell? ⟨bf, k, none⟩ = some (.int .i64 (fillV n (L 0) (flat (L 0) g) k))) ∧ bf < wr.heap.size ∧ Hid (∀ j, v.ownBlock = some j → j ≠ bf)) (fun _ i _ => n - (intOf i).toNat)
  case atStart =>
    refine ⟨0, Nat.zero_le _, rfl, HE2.out, hbw2, HCell.out, hbf, fun j hj e => ?_⟩
    have : some w.heap.size = some j := hj
    injection this with this
    omega
  case round =>
    clear HE2 hbw2 HCell
    obtain ⟨k, hk, rfl, hgo, hbel, HCell, hbf, HNe⟩ := hrel
    have HGO := Lib.hid hgo
    obtain ⟨Ao, co, rfl, _, _⟩ := hgo.grid
    clear hgo
    by_cases hlt : k < n
    · have hsz := hbel.size
      have hm : k * L 0 + L 0 ≤ n * L 0 := by rw [← Nat.succ_mul]; exact Nat.mul_le_mul_right _ hlt
      have h49 : n * L 0 ≤ 49 := Nat.le_trans (Nat.mul_le_mul hn2 hl2) (by decide)
      have HRA : Hid (∀ q, q < L 0 → ∃ b o, some (⟨bf, k * L 0, none⟩ : Addr) = some ⟨b, o, none⟩ ∧ (wr.alloc (.cells #[] 3)).cell? ⟨b, o + q, none⟩ = some (.int .i64 (fillG n (L 0) g k q))) := fun q hq => ⟨_, _, rfl, cell_alloc (HCell.out (k * L 0 + q) (by omega)) _⟩
      obtain ⟨V, hV⟩ := HGO.out
      have HV' := Lib.hid hV
      clear hV
      have HE := Lib.hid (OwnS.new wr w.heap.size 3 (fun c => .int .i64 (fillG n (L 0) g k c)) hsz #[] 0 rfl (by decide))
      have e0 : (k : Int) * (L 0 : Int) = ((k * L 0 : Nat) : Int) := by rw [Int.natCast_mul]
      have m0 : (0 : Int) ≤ (k : Int) * (L 0 : Int) := by rw [e0]; omega
      have m1 : (k : Int) * (L 0 : Int) ≤ 49 := by rw [e0]; omega
      have e1 : ((k : Int) * (L 0 : Int)).toNat = k * L 0 := by rw [e0]; exact Int.toNat_natCast _
      have e2 : ((k : Int) * (L 0 : Int) + (L 0 : Int)).toNat = k * L 0 + L 0 := by rw [e0]; omega
      have m2 : (k : Int) * (L 0 : Int) + (L 0 : Int) ≤ (cf : Int) := by rw [e0]; omega
      have e3 : k * L 0 + L 0 - k * L 0 = L 0 := by omega
      clear e0
      go_wp2_with (first
        | (at_builtin; refine wpList_appN rfl (.tmp 26) (.tmp 36) 29 rfl Try.underlying29 Try.infoI rfl rfl HE.out (S := fun c => .int .i64 (fillG n (L 0) g k c)) (fun _ _ => rfl) rfl HRA.out (by omega) (by decide) (by simp; omega) ?_; intro v1 w1 ho1 hg1; obtain ⟨A2, c2, rfl, HO1, hb1, hnew⟩ := app_new ho1 hg1; clear ho1 hg1)
        | (at_builtin; refine wpList_app1 rfl (.tmp 25) (.tmp 38) 23 rfl Try.underlying23 Try.infoR rfl rfl (HV'.out.1.below hb1) (x := .slice A2 (L 0) c2) rfl rfl (by omega) (by decide) (by have := hb1.size; omega) ?_; intro v2 w2 ho2 hg2; obtain ⟨A3, c3, rfl, _⟩ := ho2.slice))
      have HS := Lib.hid (HV'.out.snoc hb1 HO1.out hnew.out ho2 hg2)
      have hb2 : Below w.heap.size w w2 := (hbel.trans (hb1.mono hsz)).trans (hg2.below (by have := hb1.size; omega) (fun j hj => (HGO.out.own_lt hj).1))
      have hs1 := hb1.size
      have hs2 := hg2.size
      have HCell2 : Hid (∀ k, k < n * L 0 → w2.cell? ⟨bf, k, none⟩ = some (.int .i64 (fillV n (L 0) (flat (L 0) g) k))) := fun j hj => by
        have h1 := (hb1.cell (by exact hbf)).trans (HCell.out j hj)
        refine (World.cell?_of_block (hg2.block bf (by omega) (fun e => HNe.out bf e rfl))).trans h1
      have HNe2 : Hid (∀ j, (Value.slice A3 (k + 1) c3).ownBlock = some j → j ≠ bf) := fun j hj => by
        rcases hg2.at_ with e | ⟨j', e, hj'⟩
        · exact HNe.out j (e.symm.trans hj)
        · rw [e] at hj; injection hj with hj; omega
      clear ho2 hg2
      go_wp2_with fail
      go_roundw
      case rel => exact ⟨k + 1, by omega, by go_num, ⟨_, HS.out⟩, hb2, HCell2.out, by omega, HNe2.out⟩
      case measure => simp [intOf]; omega
    · have HK : Hid (k = n) := by show k = n; omega
      go_wp2_with fail
      go_ret2
      have H := HGO.out
      rw [HK.out] at H
      obtain ⟨A', c', e, hc', hgrid⟩ := H.grid
      exact ⟨A', c', by rw [← e, HK.out]; rfl, hc', by rw [← e]; exact H, hbel⟩
theorem specWaterFill_yes (A : Option Addr) (n cp : Nat) (L : Nat → Nat) (g : Nat → Nat → Int) (w : World) (hg : GridF w A n L g) (hv : Valid n L g) :
    Calls Try.prog 53 #[.slice A n cp] w (RetGS n (fun _ => L 0) (fillG n (L 0) g) true w) :=
  (specWaterFill_own A n cp L g w hg hv).mono fun e w' h => by
    obtain ⟨A', c', h1, h2, h3, h4⟩ := h
    obtain ⟨A2, c2, e2, _, h5⟩ := h3.grid
    injection e2 with e2 _ e3
    subst e2
    exact ⟨A', c', h1, h2, h5, h4⟩

theorem specWaterFill_no (A : Option Addr) (n cp : Nat) (L : Nat → Nat) (g : Nat → Nat → Int) (w : World) (hg : GridF w A n L g) (hn : n ≤ 1048576) (hL : ∀ r, r < n → L r ≤ 1048576) (hv : ¬ Valid n L g) :
    Calls Try.prog 53 #[.slice A n cp] w (RetGS 0 L g false w) := by
  have HG := Lib.hid hg
  have HL := Lib.hid hL
  have HV := Lib.hid hv
  clear hg hL hv
  have hbe := below_alloc w (.cells #[] 29)
  go_enter Try.func53, Try.ntmps53
  go_wp2_with fail
  refine (specValid_no _ _ _ _ _ _ (HG.out.below hbe) hn HL.out HV.out).mono ?_
  rintro e w1 ⟨rfl, hb1⟩
  go_wp2_with fail
  go_ret2
  exact ⟨_, _, rfl, Nat.le_refl _, fun r hr => by omega, hbe.trans (hb1.mono (by simp))⟩

noncomputable def leavesV (n : Nat) (L : Nat → Nat) (g : Nat → Nat → Int) (r c : Int) : Bool := if HasCell n L g r c then lvB n (L 0) (flat (L 0) g) (r.toNat * L 0 + c.toNat) else false

set_option maxHeartbeats 1000000 in
theorem implWaterLeaves_any (A : Option Addr) (n cp : Nat) (L : Nat → Nat) (g : Nat → Nat → Int) (r c : Int) (w : World) (hg : GridF w A n L g) (hn : n ≤ 1048576) (hL : ∀ r, r < n → L r ≤ 1048576) (_hr1 : -9223372036854775808 ≤ r) (_hr2 : r ≤ 9223372036854775807) (_hc1 : -9223372036854775808 ≤ c) (_hc2 : c ≤ 9223372036854775807) :
    Calls Try.prog 38 #[.slice A n cp, .int .i64 r, .int .i64 c] w (RetV (.bool (leavesV n L g r c)) w) := by
  have HG := Lib.hid hg
  have HL := Lib.hid hL
  clear hg hL
  by_cases hv : Valid n L g
  · have HV := Lib.hid hv
    have hn1 := hv.1
    have hn2 := hv.2.1
    have hl1 := hv.2.2.1
    have hl2 := hv.2.2.2.1
    by_cases h : 0 ≤ r ∧ r < n ∧ 0 ≤ c ∧ c < L 0
    · have HE := Lib.hid (show leavesV n L g r c = _ from if_pos ⟨hv, h⟩)
      have HR := Lib.hid (flat_rng hv)
      clear hv
      obtain ⟨h1, h2, h3, h4⟩ := h
      obtain ⟨r, rfl⟩ := Int.eq_ofNat_of_zero_le h1
      obtain ⟨c, rfl⟩ := Int.eq_ofNat_of_zero_le h3
      rw [Int.toNat_natCast, Int.toNat_natCast] at HE
      have hm : r * L 0 ≤ 49 := Nat.le_trans (Nat.mul_le_mul (by omega : r ≤ 7) hl2) (by decide)
      have hm0 : (0 : Int) ≤ (r : Int) * (L 0 : Int) := by rw [← Int.natCast_mul]; omega
      have hm1 : (r : Int) * (L 0 : Int) ≤ 1000000 := by rw [← Int.natCast_mul]; omega
      have HI : Hid (r * L 0 + c < n * L 0) := idx_lt (by omega) (by omega)
      have HE2 : Hid ((r : Int) * (L 0 : Int) + (c : Int) = ((r * L 0 + c : Nat) : Int)) := by show _ = _; rw [Int.natCast_add, Int.natCast_mul]
      go_enter Try.func38, Try.ntmps38
      go_wp2_with fail
      refine (fieldOf_yes _ _ _ _ _ _ _ HG.out HV.out rfl).mono ?_
      rintro e w1 ⟨b, rfl, hlo, hrow, hb1⟩
      have HB := Lib.hid (Boxed.new (R := n) (C := L 0) hrow)
      have hbx := hb1.alloc hb1.size (.cells #[.int .i64 n, .int .i64 (L 0), .slice (some ⟨b, 0, none⟩) (n * L 0) (n * L 0)] 59)
      clear hrow
      have x0 := Later.cell (cell_of_blk (i := 0) HB.out.box rfl)
      have x1 := Later.cell (cell_of_blk (i := 1) HB.out.box rfl)
      have x2 := Later.cell (cell_of_blk (i := 2) HB.out.box rfl)
      have hidx : Hid (∀ (w : World), Calls Try.prog 61 #[.agg #[.int .i64 n, .int .i64 (L 0), .slice (some ⟨b, 0, none⟩) (n * L 0) (n * L 0)], .int .i64 r, .int .i64 c] w (RetV (.int .i64 ((r * L 0 + c : Nat) : Int)) w)) := fun w => by
        rw [← HE2.out]
        exact index_any _ _ _ _ (.int .i64 0) w hm0 hm1 (by omega) (by omega) _ _ _
      go_wp2_with fail
      refine wp_region_later (by kernel_rfl) (by kernel_rfl) ?_
      repeat (go_big_quiet_step ((first | (go_at_call 59; exact quietL (has_any _ _ _ _ _ _ _ _ true (by show true = true ↔ _; simp; omega))) | (go_at_call 61; exact quietL (hidx.out _)) | (go_at_call 82; exact quietL (leaves_any _ _ _ _ _ _ _ hn1 hl1 (by omega) (by omega) HR HI rfl (HB.out.below (Later.below _)).row)))))
      refine wpQuiet_nil ?_
      rintro _ ⟨⟨w3, hb3⟩, rfl⟩
      clear x0 x1 x2
      go_wp2_with fail
      go_ret
      exact ⟨ret_bool HE.out.symm, hbx.trans (hb3.mono hbx.size)⟩
    · have HE := Lib.hid (show leavesV n L g r c = _ from if_neg (fun hh => h hh.2))
      clear hv
      go_enter Try.func38, Try.ntmps38
      go_wp2_with fail
      refine (fieldOf_yes _ _ _ _ _ _ _ HG.out HV.out rfl).mono ?_
      rintro e w1 ⟨b, rfl, hlo, hrow, hb1⟩
      have HB := Lib.hid (Boxed.new (R := n) (C := L 0) hrow)
      have hbx := hb1.alloc hb1.size (.cells #[.int .i64 n, .int .i64 (L 0), .slice (some ⟨b, 0, none⟩) (n * L 0) (n * L 0)] 59)
      clear hrow
      have x0 := Later.cell (cell_of_blk (i := 0) HB.out.box rfl)
      have x1 := Later.cell (cell_of_blk (i := 1) HB.out.box rfl)
      have x2 := Later.cell (cell_of_blk (i := 2) HB.out.box rfl)
      go_wp2_with fail
      refine wp_region_later (by kernel_rfl) (by kernel_rfl) ?_
      repeat (go_big_quiet_step ((go_at_call 59; exact quietL (has_any _ _ _ _ _ _ _ _ false (by show false = true ↔ _; simp; omega)))))
      refine wpQuiet_nil ?_
      rintro _ ⟨⟨w3, hb3⟩, rfl⟩
      clear x0 x1 x2
      go_wp2_with fail
      go_ret
      exact ⟨ret_bool HE.out.symm, hbx.trans (hb3.mono hbx.size)⟩
  · have HE := Lib.hid (show leavesV n L g r c = _ from if_neg (fun hh => hv hh.1))
    have HV := Lib.hid hv
    clear hv
    go_enter Try.func38, Try.ntmps38
    go_wp2_with fail
    refine (fieldOf_no _ _ _ _ _ _ HG.out hn HL.out HV.out).mono ?_
    rintro e w1 ⟨rfl, hb1⟩
    have hbx := hb1.alloc hb1.size (.cells #[.int .i64 0, .int .i64 0, .slice none 0 0] 59)
    go_wp2_with fail
    refine wp_region_later (by kernel_rfl) (by kernel_rfl) ?_
    repeat (go_big_quiet_step (fail))
    refine wpQuiet_nil ?_
    rintro _ ⟨⟨w3, hb3⟩, rfl⟩
    go_wp2_with fail
    go_ret
    exact ⟨ret_bool HE.out.symm, hbx.trans (hb3.mono hbx.size)⟩

end Go.Proofs.Ythndabbjkkjkhaa
