/- Regions inside regions of a lower level: what the program's and the reference's functions return. -/
import Derived.Test.YtgekjhmjjjkibaaLvn
namespace Go.Proofs.Ytgekjhmjjjkibaa
set_option linter.unusedVariables false
set_option linter.unusedSimpArgs false
open Go.RowKit

def Ins (n : Nat) (L : Nat → Nat) (g : Nat → Nat → Int) (l lo : Int) : Prop := Lvl n L g l ∧ 0 ≤ lo ∧ lo ≤ 99 ∧ lo < l
instance (n : Nat) (L : Nat → Nat) (g : Nat → Nat → Int) (l lo : Int) : Decidable (Ins n L g l lo) := by unfold Ins; infer_instance
noncomputable def Cins (n : Nat) (L : Nat → Nat) (g : Nat → Nat → Int) (l lo : Int) : Nat → Int := fun k => inV n (L 0) (flat (L 0) g) l lo k
noncomputable def Creg (n : Nat) (L : Nat → Nat) (g : Nat → Nat → Int) (l : Int) : Nat := regN n (L 0) (flat (L 0) g) l

/-- What the numbers say of each other. -/
structure InF (N c : Nat) (U D V : Nat → Int) : Prop where
  rng : ∀ i, i < N → -1 ≤ U i ∧ U i < c
  eq : ∀ i m, i < N → U i = (m : Nat) → V m = D i
  onto : ∀ m, m < c → ∃ i, i < N ∧ U i = (m : Nat)
theorem inF {n : Nat} {L : Nat → Nat} {g : Nat → Nat → Int} {l lo : Int} (h : lo ≤ l) : InF (n * L 0) (Creg n L g l) (Cnum n L g l) (Cnum n L g lo) (Cins n L g l lo) :=
  ⟨fun i hi => regV_rng hi, fun i m hi e => in_eq h hi e, fun m hm => by
    obtain ⟨r, h1, _, h3⟩ := reg_onto hm
    exact ⟨r, h1, h3⟩⟩

/-- A row of the call's own stays while another one grows. -/
theorem keep_grew {w w' : World} {lo : Nat} {e : TypeId} {v : Value} {n : Nat} {V : Nat → Value} {v1 v2 : Value} (h : OwnS w lo e v n V) (hg : Grew w w' v1 v2) (hne : ∀ x, v.ownBlock = some x → v1.ownBlock ≠ some x) : OwnS w' lo e v n V ∧ ∀ x, v.ownBlock = some x → v2.ownBlock ≠ some x :=
  ⟨h.of_block fun k hk => hg.block k (h.lt hk).2 (hne k hk), fun x hx hx' => by
    rcases hg.at_ with e | ⟨x', e, hx2⟩
    · exact hne x hx (e.symm.trans hx')
    · rw [e] at hx'
      injection hx' with hx'
      have := (h.lt hx).2
      omega⟩

set_option maxHeartbeats 1500000 in
theorem implLevelInside_yes (A : Option Addr) (n cp : Nat) (L : Nat → Nat) (g : Nat → Nat → Int) (l lo : Int) (w : World) (hg : GridF w A n L g) (hv : Ins n L g l lo) :
    Calls Try.prog 36 #[.slice A n cp, .int .i64 l, .int .i64 lo] w (RetIIb (Creg n L g l) (Cins n L g l lo) true w) := by
  have HG := Lib.hid hg
  have HV := Lib.hid hv.1
  have hn2 := hv.1.1.2.1
  have hl1 := hv.1.1.2.2.1
  have hl2 := hv.1.1.2.2.2.1
  obtain ⟨_, h1, h2, h3⟩ := hv
  have hN1 : n * L 0 ≤ 49 := Nat.le_trans (Nat.mul_le_mul hn2 hl2) (by decide)
  have hc1 : Creg n L g l ≤ n * L 0 := regN_le
  have HIn := Lib.hid (inF (n := n) (L := L) (g := g) (l := l) (lo := lo) (by omega))
  obtain ⟨N, hN⟩ : ∃ N, N = n * L 0 := ⟨_, rfl⟩
  have HN := Lib.hid hN
  obtain ⟨c, hc⟩ : ∃ c, c = Creg n L g l := ⟨_, rfl⟩
  rw [← hN] at hN1 hc1 HIn
  rw [← hc] at hc1 HIn ⊢
  have HC := Lib.hid hc
  clear hg hN hc
  have hmk := run_make_row' (P := Try.prog) 29 3 (.int .i64 0) 8 Try.underlying29 Try.infoI rfl .i64 .i64 c (by omega) (by omega)
  go_enter Try.func36, Try.ntmps36
  go_wp2_with fail
  refine (leveled_yes _ _ _ N _ _ _ _ HG.out HV.out HN).mono ?_
  rintro e w1 ⟨b, rfl, hlo, hrow, hb1⟩
  have HB := Lib.hid (Boxed.new (R := n) (C := L 0) hrow)
  have hbx := hb1.alloc hb1.size (.cells #[.int .i64 n, .int .i64 (L 0), .slice (some ⟨b, 0, none⟩) N N] 49)
  clear hrow
  go_wp2_with fail
  refine (isHeight_any _ _ true (by show true = true ↔ _; simp; omega)).mono ?_
  rintro e w' ⟨rfl, rfl⟩
  generalize w1.alloc _ = w2 at *
  generalize w1.heap.size = Bf at *
  have x0 := cell_of_blk (i := 0) HB.out.box rfl
  have x1 := cell_of_blk (i := 1) HB.out.box rfl
  have x2 := cell_of_blk (i := 2) HB.out.box rfl
  go_wp2_with fail
  refine (regions_any _ _ _ _ _ _ _ hl1 (by omega) (by omega) HN (Lib.hid HB.out.row)).mono ?_
  rintro e w3 ⟨q, rfl, hq, hrow3, hb3⟩
  have HU3 : Hid (w3.rowIs q 3 N (fun i => .int .i64 (Cnum n L g l i))) := hrow3
  have HB3 := Lib.hid (HB.out.below hb3)
  have hbw3 := hbx.trans (hb3.mono hbx.size)
  clear hrow3 x0 x1 x2 HB
  have x0 := cell_of_blk (i := 0) HB3.out.box rfl
  have x1 := cell_of_blk (i := 1) HB3.out.box rfl
  have x2 := cell_of_blk (i := 2) HB3.out.box rfl
  rw [show regN n (L 0) (flat (L 0) g) l = c from HC.out.symm]
  go_wp2_with fail
  refine (regions_any _ _ _ _ _ _ _ hl1 (by omega) (by omega) HN (Lib.hid HB3.out.row)).mono ?_
  rintro e w4 ⟨q', rfl, hq', hrow4, hb4⟩
  have HD4 : Hid (w4.rowIs q' 3 N (fun i => .int .i64 (Cnum n L g lo i))) := hrow4
  have HU4 := Lib.hid (rowIs_kept HU3.out hb4)
  have hbw4 := hbw3.trans (hb4.mono hbw3.size)
  have HRow : Hid ((w4.alloc (.cells (madeCells #[.int .i64 0] c) 3)).rowIs w4.heap.size 3 c (fun _ => .int .i64 0)) := World.rowIs_made w4 _ c 3
  have HU5 := Lib.hid (HU4.out.alloc (.cells (madeCells #[.int .i64 0] c) 3))
  have HD5 := Lib.hid (HD4.out.alloc (.cells (madeCells #[.int .i64 0] c) 3))
  have hbw5 := hbw4.alloc hbw4.size (.cells (madeCells #[.int .i64 0] c) 3)
  have hqs : q < w4.heap.size := HU4.out.lt
  have hqs' : q' < w4.heap.size := HD4.out.lt
  have hlow := hbw4.size
  clear hrow4 x0 x1 x2 HB3 HU3 HU4 HD4 hq hq'
  go_wp2_with fail
  clear hmk
  generalize w4.alloc _ = w5 at *
  generalize w4.heap.size = z at *
  generalize Cnum n L g l = U at *
  generalize Cnum n L g lo = D at *
  generalize Cins n L g l lo = V at *
  go_loopw [51] (fun i wi => ∃ (k : Nat) (G : Nat → Int), k ≤ N ∧ i = .int .i64 k ∧ Hid (wi.rowIs z 3 c (fun j => .int .i64 (G j))) ∧ Hid (wi.rowIs q 3 N (fun j => .int .i64 (U j))) ∧ Hid (wi.rowIs q' 3 N (fun j => .int .i64 (D j))) ∧ Hid (∀ j m, j < k → U j = (m : Nat) → G m = V m) ∧ Below w.heap.size w wi) (fun i _ => N - (intOf i).toNat)
  case atStart => exact ⟨0, _, Nat.zero_le _, rfl, HRow.out, HU5.out, HD5.out, fun j m hj => absurd hj (Nat.not_lt_zero j), hbw5⟩
  case round =>
    clear HRow HU5 HD5 hbw5
    obtain ⟨k, G, hk, rfl, HZ, HU, HD, HG9, hbel⟩ := hrel
    by_cases hlt : k < N
    · have hcu := HU.out.cell hlt
      obtain ⟨r1, r2⟩ := HIn.out.rng k hlt
      by_cases hq : 0 ≤ U k
      · obtain ⟨m, hm⟩ := Int.eq_ofNat_of_zero_le hq
        have hmc : m < c := by omega
        have hE := HIn.out.eq k m hlt hm
        rw [hm] at hcu
        have hcd := HD.out.cell hlt
        have hfz := HZ.out.frozen m
        have hcz := HZ.out.cell hmc
        have HZ1 : Hid (∀ x : Int, ∀ wx : World, wx = wr.setCell ⟨z, m, none⟩ (.int .i64 x) → wx.rowIs z 3 c (fun j => .int .i64 (upd G m x j))) := fun x wx e => by
          rw [e]
          refine (HZ.out.set m _).congr fun i hi => ?_
          unfold upd
          by_cases e : i = m
          · simp [e]
          · simp [e]
        have HU1 := Lib.hid (HU.out.setOther (a := ⟨z, m, none⟩) (by show q ≠ z; omega) (.int .i64 (D k)))
        have HD1 := Lib.hid (HD.out.setOther (a := ⟨z, m, none⟩) (by show q' ≠ z; omega) (.int .i64 (D k)))
        have HG1 : Hid (∀ j m', j < k + 1 → U j = (m' : Nat) → upd G m (D k) m' = V m') := fun j m' hj e => by
          by_cases e1 : m' = m
          · rw [e1, upd_at, hE]
          · rw [upd_ne _ _ e1]
            refine HG9.out j m' ?_ e
            by_cases e2 : j = k
            · rw [e2, hm] at e; omega
            · omega
        have hbel1 : Below w.heap.size w (wr.setCell ⟨z, m, none⟩ (.int .i64 (D k))) := hbel.setCell hlow _
        clear hm hE hq r1 r2
        go_wp2_with fail
        go_roundw
        case rel => exact ⟨k + 1, _, by omega, by go_num, HZ1.out (D k) _ rfl, HU1.out, HD1.out, HG1.out, hbel1⟩
        case measure => simp [intOf]; omega
      · have d1 : decide (0 ≤ U k) = false := decide_eq_false hq
        have HG1 : Hid (∀ j m', j < k + 1 → U j = (m' : Nat) → G m' = V m') := fun j m' hj e => by
          by_cases e2 : j = k
          · rw [e2] at e; omega
          · exact HG9.out j m' (by omega) e
        clear r1 r2
        go_wp2_with fail
        go_roundw
        case rel => exact ⟨k + 1, G, by omega, by go_num, HZ.out, HU.out, HD.out, HG1.out, hbel⟩
        case measure => simp [intOf]; omega
    · have HF : Hid (∀ m, m < c → G m = V m) := fun m hm => by
        obtain ⟨i, hi, e⟩ := HIn.out.onto m hm
        exact HG9.out i m (by omega) e
      go_wp2_with fail
      go_ret2
      exact ⟨_, _, rfl, (own_of_row HZ.out hlow (by omega)).congr HF.out, hbel⟩

theorem implLevelInside_no (A : Option Addr) (n cp : Nat) (L : Nat → Nat) (g : Nat → Nat → Int) (l lo : Int) (w : World) (hg : GridF w A n L g) (hn : n ≤ 1048576) (hL : ∀ r, r < n → L r ≤ 1048576) (hv : ¬ Ins n L g l lo) :
    Calls Try.prog 36 #[.slice A n cp, .int .i64 l, .int .i64 lo] w (RetIIb 0 (fun _ => 0) false w) := by
  have HG := Lib.hid hg
  have HL := Lib.hid hL
  clear hg hL
  by_cases hl : Lvl n L g l
  · have HV := Lib.hid hl
    have hh : ¬ (0 ≤ lo ∧ lo ≤ 99 ∧ lo < l) := fun hh => hv ⟨hl, hh⟩
    clear hv hl
    by_cases q1 : 0 ≤ lo ∧ lo ≤ 99
    · go_enter Try.func36, Try.ntmps36
      go_wp2_with fail
      refine (leveled_yes _ _ _ _ _ _ _ _ HG.out HV.out rfl).mono ?_
      rintro e w1 ⟨b, rfl, hlo, hrow, hb1⟩
      clear hrow
      go_wp2_with fail
      refine (isHeight_any _ _ true (by show true = true ↔ _; simp; omega)).mono ?_
      rintro e w' ⟨rfl, rfl⟩
      go_wp2_with fail
      go_ret2
      exact ⟨_, _, rfl, OwnS.nil _ _ _ _, hb1.alloc hb1.size _⟩
    · clear hh
      go_enter Try.func36, Try.ntmps36
      go_wp2_with fail
      refine (leveled_yes _ _ _ _ _ _ _ _ HG.out HV.out rfl).mono ?_
      rintro e w1 ⟨b, rfl, hlo, hrow, hb1⟩
      clear hrow
      go_wp2_with fail
      refine (isHeight_any _ _ false (by show false = true ↔ _; simpa using q1)).mono ?_
      rintro e w' ⟨rfl, rfl⟩
      go_wp2_with fail
      go_ret2
      exact ⟨_, _, rfl, OwnS.nil _ _ _ _, hb1.alloc hb1.size _⟩
  · have HV := Lib.hid hl
    clear hv hl
    go_enter Try.func36, Try.ntmps36
    go_wp2_with fail
    refine (leveled_no _ _ _ _ _ _ _ HG.out hn HL.out HV.out).mono ?_
    rintro e w1 ⟨rfl, hb1⟩
    go_wp2_with fail
    go_ret2
    exact ⟨_, _, rfl, OwnS.nil _ _ _ _, hb1.alloc hb1.size _⟩

set_option maxHeartbeats 1500000 in
theorem specLevelInside_yes (A : Option Addr) (n cp : Nat) (L : Nat → Nat) (g : Nat → Nat → Int) (l lo : Int) (w : World) (hg : GridF w A n L g) (hv : Ins n L g l lo) :
    Calls Try.prog 35 #[.slice A n cp, .int .i64 l, .int .i64 lo] w (RetSIb (Creg n L g l) (Cins n L g l lo) true w) := by
  have HG := Lib.hid hg
  have HV := Lib.hid hv.1
  have hn2 := hv.1.1.2.1
  have hl2 := hv.1.1.2.2.2.1
  obtain ⟨_, h1, h2, h3⟩ := hv
  have HVl : Hid (Lvl n L g lo) := ⟨HV.out.1, h1, h2⟩
  have hN1 : n * L 0 ≤ 49 := Nat.le_trans (Nat.mul_le_mul hn2 hl2) (by decide)
  have hc1 : Creg n L g l ≤ n * L 0 := regN_le
  have HIn := Lib.hid (inF (n := n) (L := L) (g := g) (l := l) (lo := lo) (by omega))
  obtain ⟨c, hc⟩ : ∃ c, c = Creg n L g l := ⟨_, rfl⟩
  rw [← hc] at hc1 HIn ⊢
  have HC := Lib.hid hc
  clear hg hc
  have HE : Hid (OwnI (w.alloc (.cells #[] 3)) w.heap.size (.slice (some ⟨w.heap.size, 0, none⟩) 0 0) 0 (fun _ => 0)) := OwnS.new w w.heap.size 3 _ (Nat.le_refl _) #[] 0 rfl (by decide)
  have hbe := below_alloc w (.cells #[] 3)
  go_enter Try.func35, Try.ntmps35
  go_wp2_with fail
  refine (l3Ok_yes _ _ _ _ _ _ _ (HG.out.below hbe) HV.out).mono ?_
  rintro e w1 ⟨rfl, hb1⟩
  have HE1 := Lib.hid (HE.out.below hb1)
  have hbw1 : Below w.heap.size w w1 := hbe.trans (hb1.mono (by simp))
  have hlt1 : w.heap.size < w1.heap.size := by have := hb1.size; simp at this; omega
  clear HE hbe hb1
  go_wp2_with fail
  refine (l3Ok_yes _ _ _ _ _ _ _ (HG.out.below hbw1) HVl.out).mono ?_
  rintro e w2 ⟨rfl, hb2⟩
  have HE2 := Lib.hid (HE1.out.below hb2)
  have hbw2 := hbw1.trans (hb2.mono hbw1.size)
  have hlt2 : w.heap.size < w2.heap.size := Nat.lt_of_lt_of_le hlt1 hb2.size
  clear HE1 hb2 hbw1
  go_wp2_with fail
  refine (l3Numbers_any _ _ _ _ _ _ _ (HG.out.below hbw2) HV.out.1).mono ?_
  rintro e w3 ⟨Au, cu, rfl, hown3, hb3⟩
  have HU3 : Hid (OwnI w3 w2.heap.size (.slice Au (n * L 0) cu) (n * L 0) (Cnum n L g l)) := hown3
  have HE3 := Lib.hid (HE2.out.below hb3)
  have hbw3 := hbw2.trans (hb3.mono hbw2.size)
  have hz23 := hb3.size
  clear hown3 HE2 hb3
  rw [show regN n (L 0) (flat (L 0) g) l = c from HC.out.symm]
  go_wp2_with fail
  refine (l3Numbers_any _ _ _ _ _ _ _ (HG.out.below hbw3) HV.out.1).mono ?_
  rintro e w4 ⟨Ad, cd, rfl, hown4, hb4⟩
  have HD4 : Hid (OwnI w4 w2.heap.size (.slice Ad (n * L 0) cd) (n * L 0) (Cnum n L g lo)) := OwnS.mono hown4 hz23
  have HU4 := Lib.hid (HU3.out.below hb4)
  have HE4 := Lib.hid (HE3.out.below hb4)
  have hbw4 := hbw3.trans (hb4.mono hbw3.size)
  clear hown4 HE3 hb4 hbw3 HU3
  generalize n * L 0 = N at *
  generalize Cnum n L g l = U at *
  generalize Cnum n L g lo = D at *
  generalize Cins n L g l lo = V at *
  have HNu : Hid (∀ x, (Value.slice Au N cu).ownBlock = some x → (Value.slice (some ⟨w.heap.size, 0, none⟩) 0 0).ownBlock ≠ some x) := fun x hx hx' => by
    have h1 := (HU4.out.s.lt hx).1
    have hx' : some w.heap.size = some x := hx'
    injection hx' with hx'
    omega
  have HNd : Hid (∀ x, (Value.slice Ad N cd).ownBlock = some x → (Value.slice (some ⟨w.heap.size, 0, none⟩) 0 0).ownBlock ≠ some x) := fun x hx hx' => by
    have h1 := (HD4.out.s.lt hx).1
    have hx' : some w.heap.size = some x := hx'
    injection hx' with hx'
    omega
  generalize w2.heap.size = lo2 at *
  go_wp2_with fail
  go_loopw [8, 13] (fun v i wi => ∃ (k : Nat), k ≤ c ∧ i = .int .i64 k ∧ Hid (OwnI wi w.heap.size v k V) ∧ Hid (OwnI wi lo2 (.slice Au N cu) N U) ∧ Hid (OwnI wi lo2 (.slice Ad N cd) N D) ∧ Hid (∀ x, (Value.slice Au N cu).ownBlock = some x → v.ownBlock ≠ some x) ∧ Hid (∀ x, (Value.slice Ad N cd).ownBlock = some x → v.ownBlock ≠ some x) ∧ Below w.heap.size w wi) (fun _ i _ => c - (intOf i).toNat)
  case atStart => exact ⟨0, Nat.zero_le _, rfl, HE4.out.congr (fun i hi => absurd hi (Nat.not_lt_zero i)), HU4.out, HD4.out, HNu.out, HNd.out, hbw4⟩
  case round =>
    clear HE4 HU4 HD4 HNu HNd hbw4
    obtain ⟨k, hk, rfl, HO, HU, HD, HNu, HNd, hbel⟩ := hrel
    obtain ⟨Ao, co, rfl, _⟩ := HO.out.s.slice
    by_cases hlt : k < c
    · have HEx := Lib.hid (HIn.out.onto k hlt)
      go_wp2_with fail
      go_loop [14] (fun i => ∃ m : Nat, i = .int .i64 m ∧ m < N ∧ Hid (∀ j, j < m → U j ≠ (k : Nat))) (fun i => N - (intOf i).toNat)
      case atStart =>
        obtain ⟨i0, hi0, _⟩ := HEx.out
        exact ⟨0, rfl, by omega, fun j hj => absurd hj (Nat.not_lt_zero j)⟩
      case round =>
        obtain ⟨m, rfl, hm, HD2⟩ := hrel
        obtain ⟨bu, rfl, hu1, hu2, hucells⟩ := HU.out.cells (by omega)
        have hcu := (hucells m hm).1
        clear hucells
        by_cases hx : U m = (k : Nat)
        · have HV1 : Hid (V k = D m) := HIn.out.eq m k hm hx
          have d1 : (U m != (k : Int)) = false := by rw [hx]; simp
          obtain ⟨bd, rfl, hd1, hd2, hdcells⟩ := HD.out.cells (by omega)
          have hcd := (hdcells m hm).1
          have hlow := hbel.size
          clear hdcells hx
          go_wp2_with (at_builtin; refine wpList_app1 rfl (.tmp 57) (.tmp 62) 29 rfl Try.underlying29 Try.infoI rfl rfl HO.out.s (x := .int .i64 (D m)) rfl rfl (by omega) (by decide) hlow ?_; intro v' w8 ho hg8; obtain ⟨A8, c8, rfl, _⟩ := ho.slice)
          have HO8 : Hid (OwnI w8 w.heap.size (.slice A8 (k + 1) c8) (k + 1) V) := (OwnI.snoc ho).congr fun i hi => by
            by_cases e : i = k
            · rw [e, upd_at, HV1.out]
            · rw [upd_ne _ _ e]
          have KU := Lib.hid (keep_grew HU.out.s hg8 HNu.out)
          have KD := Lib.hid (keep_grew HD.out.s hg8 HNd.out)
          have hb8 : Below w.heap.size w w8 := hbel.trans (hg8.below hlow (fun j hj => (HO.out.s.lt hj).1))
          clear ho hg8 hcu hcd
          go_wp2_with fail
          go_roundw
          case rel => exact ⟨k + 1, by omega, by go_num, HO8.out, KU.out.1, KD.out.1, KU.out.2, KD.out.2, hb8⟩
          case measure => simp [intOf]; omega
        · have d1 : (U m != (k : Int)) = true := by rw [bne_iff_ne]; exact hx
          have HX := Lib.hid hx
          have hm1 : m + 1 < N := by
            obtain ⟨i0, hi0, e0⟩ := HEx.out
            rcases Nat.lt_or_ge i0 (m + 1) with h | h
            · exfalso
              by_cases e : i0 = m
              · rw [e] at e0; exact hx e0
              · exact HD2.out i0 (by omega) e0
            · omega
          clear hx
          go_wp2_with fail
          go_round
          case rel => exact ⟨m + 1, by go_num, hm1, fun j hj => by
            by_cases e : j = m
            · rw [e]; exact HX.out
            · exact HD2.out j (by omega)⟩
          case measure => simp [intOf]; omega
    · obtain rfl : k = c := by omega
      have HF := Lib.hid HO.out.row
      go_wp2_with fail
      go_ret2
      exact ⟨_, _, rfl, HF.out, hbel⟩

theorem specLevelInside_no (A : Option Addr) (n cp : Nat) (L : Nat → Nat) (g : Nat → Nat → Int) (l lo : Int) (w : World) (hg : GridF w A n L g) (hn : n ≤ 1048576) (hL : ∀ r, r < n → L r ≤ 1048576) (hv : ¬ Ins n L g l lo) :
    Calls Try.prog 35 #[.slice A n cp, .int .i64 l, .int .i64 lo] w (RetSIb 0 (fun _ => 0) false w) := by
  have hbe := below_alloc w (.cells #[] 3)
  have HG := Lib.hid (hg.below hbe)
  have HL := Lib.hid hL
  clear hg hL
  by_cases hl : Lvl n L g l
  · have HV := Lib.hid hl
    by_cases ho : Lvl n L g lo
    · have HVl := Lib.hid ho
      have hge : l ≤ lo := Int.not_lt.1 (fun h => hv ⟨hl, ho.2.1, ho.2.2, h⟩)
      clear hv hl ho
      go_enter Try.func35, Try.ntmps35
      go_wp2_with fail
      refine (l3Ok_yes _ _ _ _ _ _ _ HG.out HV.out).mono ?_
      rintro e w1 ⟨rfl, hb1⟩
      go_wp2_with fail
      refine (l3Ok_yes _ _ _ _ _ _ _ (HG.out.below hb1) HVl.out).mono ?_
      rintro e w2 ⟨rfl, hb2⟩
      have hb12 := hb1.trans (hb2.mono hb1.size)
      go_wp2_with fail
      go_ret2
      exact ⟨_, _, rfl, fun k hk => absurd hk (Nat.not_lt_zero k), hbe.trans (hb12.mono (by simp))⟩
    · have HVl := Lib.hid ho
      clear hv hl ho
      go_enter Try.func35, Try.ntmps35
      go_wp2_with fail
      refine (l3Ok_yes _ _ _ _ _ _ _ HG.out HV.out).mono ?_
      rintro e w1 ⟨rfl, hb1⟩
      go_wp2_with fail
      refine (l3Ok_no _ _ _ _ _ _ _ (HG.out.below hb1) hn HL.out HVl.out).mono ?_
      rintro e w2 ⟨rfl, hb2⟩
      have hb12 := hb1.trans (hb2.mono hb1.size)
      go_wp2_with fail
      go_ret2
      exact ⟨_, _, rfl, fun k hk => absurd hk (Nat.not_lt_zero k), hbe.trans (hb12.mono (by simp))⟩
  · have HV := Lib.hid hl
    clear hv hl
    go_enter Try.func35, Try.ntmps35
    go_wp2_with fail
    refine (l3Ok_no _ _ _ _ _ _ _ HG.out hn HL.out HV.out).mono ?_
    rintro e w1 ⟨rfl, hb1⟩
    go_wp2_with fail
    go_ret2
    exact ⟨_, _, rfl, fun k hk => absurd hk (Nat.not_lt_zero k), hbe.trans (hb1.mono (by simp))⟩

end Go.Proofs.Ytgekjhmjjjkibaa
