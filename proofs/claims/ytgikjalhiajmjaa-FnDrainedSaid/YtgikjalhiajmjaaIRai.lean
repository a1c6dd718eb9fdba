/- Raised and inverted grids, grids beside and below each other: what the program's functions return. -/
import Derived.Test.YtgikjalhiajmjaaIPart
namespace Go.Proofs.Ytgikjalhiajmjaa
set_option linter.unusedVariables false
set_option linter.unusedSimpArgs false
open Go.RowKit


theorem raise1_any (Bf Bk b R C N : Nat) (k : Int) (h : Nat → Int) (r c : Nat) (w : World) (H : Boxed w Bf b R C N h) (hk : w.heap[Bk]? = some (.cells #[.int .i64 k] 3 (0, 0))) (hr : r < R) (hc : c < C) (hR : R ≤ 1000) (hC : C ≤ 1000) (hN : Hid (N = R * C)) (hh : Hid (0 ≤ h (r * C + c) ∧ h (r * C + c) ≤ 99)) (hk1 : -99 ≤ k) (hk2 : k ≤ 99) :
    Calls Try.prog 69 #[.int .i64 r, .int .i64 c, .pointer (some ⟨Bf, 0, none⟩), .pointer (some ⟨Bk, 0, none⟩)] w (RetV (.int .i64 (h (r * C + c) + k)) w) := by
  have x0 := Later.cell (cell_of_blk (i := 0) H.box rfl)
  have x1 := Later.cell (cell_of_blk (i := 1) H.box rfl)
  have x2 := Later.cell (cell_of_blk (i := 2) H.box rfl)
  have y0 := Later.cell (cell_one hk)
  have HB := Lib.hid H
  clear H hk
  obtain ⟨q1, q2⟩ := hh.out
  have q3 : IntKind.i64.wrap (h (r * C + c) + k) = h (r * C + c) + k := IntWalk.i64_in _ (by omega)
  go_enter Try.func69, Try.ntmps69
  go_wp2_with fail
  refine wp_region_later (by kernel_rfl) (by kernel_rfl) ?_
  repeat (go_big_quiet_step ((go_at_call 70; exact quietL (at_any _ _ _ _ _ _ _ _ hr hc hR hC hN (HB.out.below (Later.below _)).row))))
  refine wpQuiet_nil ?_
  rintro _ ⟨⟨w1, hb1⟩, rfl⟩
  clear x0 x1 x2 y0 q3
  go_wp2_with fail
  go_ret
  exact ⟨rfl, hb1⟩

/-- The grid is raised, if that is one. -/
theorem implGridRaise_mid (A : Option Addr) (n cp : Nat) (L : Nat → Nat) (g : Nat → Nat → Int) (k : Int) (ok : Bool) (w : World) (hg : GridF w A n L g) (hv : Valid n L g) (hk1 : -99 ≤ k) (hk2 : k ≤ 99) (hok : ok = true ↔ Valid n L (raiseG k g)) :
    Calls Try.prog 39 #[.slice A n cp, .int .i64 k] w (fun e w' => (ok = true ∧ RetGI n (fun _ => L 0) (raiseG k g) true w e w') ∨ (ok = false ∧ RetGI 0 L g false w e w')) := by
  have HV := Lib.hid hv
  have hn1 := hv.1
  have hn2 := hv.2.1
  have hl1 := hv.2.2.1
  have hl2 := hv.2.2.2.1
  have HOK := Lib.hid hok
  have hcf : Hid (∀ (args : Array Value) (w : World), (callFunc 69 args).run Try.prog w = .ok (.enter 69 args) w) := fun args w => enters Try.func69 (by kernel_rfl) (by kernel_rfl) args w
  obtain ⟨N, hN⟩ : ∃ N, N = n * L 0 := ⟨_, rfl⟩
  have HN := Lib.hid hN
  have hb0 := below_alloc w (.cells #[.int .i64 k] 3)
  have HG := Lib.hid (hg.below hb0)
  have HBk := Lib.hid (heap_alloc_new w (.cells #[.int .i64 k] 3))
  have d1 : decide (k < -99) = false := by simp; omega
  have d2 : decide (99 < k) = false := by simp; omega
  have HS0 : Hid ((w.alloc (.cells #[.int .i64 k] 3)).heap.size = w.heap.size + 1) := by show _ = _; simp
  clear hg hv hN hok
  go_enter Try.func39, Try.ntmps39
  go_wp2_with fail
  generalize w.alloc _ = w0 at *
  refine (fieldOf_yes _ _ _ N _ _ _ HG.out HV.out HN).mono ?_
  rintro e w1 ⟨b, rfl, hlo, hrow, hb1⟩
  have HB := Lib.hid (Boxed.new (R := n) (C := L 0) hrow)
  have hbx := hb1.alloc hb1.size (.cells #[.int .i64 n, .int .i64 (L 0), .slice (some ⟨b, 0, none⟩) N N] 49)
  have HK1 := Lib.hid ((hbx.block _ (by rw [HS0.out]; omega)).trans HBk.out)
  have y0 := cell_one HK1.out
  have hB1 := hb0.trans (hbx.mono hb0.size)
  have hszk : w.heap.size < w1.heap.size := by have := hb1.size; rw [HS0.out] at this; omega
  clear hrow hb1 hbx
  go_wp2_with fail
  have ht : Tells (w1.alloc (.cells #[.int .i64 n, .int .i64 (L 0), .slice (some ⟨b, 0, none⟩) N N] 49)) 69 #[.pointer (some ⟨w1.heap.size, 0, none⟩), .pointer (some ⟨w.heap.size, 0, none⟩)] n (L 0) (raiseG k g) := ⟨hcf.out, fun r c w' hr hc hb => by
    refine (raise1_any w1.heap.size w.heap.size b n (L 0) N k (flat (L 0) g) r c w' (HB.out.below hb) ((hb.block _ (lt_of_blk HK1.out)).trans HK1.out) hr hc (by omega) (by omega) HN (by show 0 ≤ _ ∧ _; rw [flat_at g hc]; exact HV.out.rng hr hc) hk1 hk2).mono fun e w'' h => ?_
    rw [flat_at g (by omega)] at h
    exact h⟩
  have HT := Lib.hid ht
  clear ht
  cases ok
  · have hno : ¬ ∀ r c, r < n → c < L 0 → 0 ≤ raiseG k g r c ∧ raiseG k g r c ≤ 99 := fun hall => absurd (HOK.out.2 (HV.out.raise hall)) (by decide)
    have HNo := Lib.hid hno
    clear hno
    refine (made_no _ _ _ _ (raiseG k g) _ (by omega) (by omega) (by omega) (by omega) HT.out HNo.out).mono ?_
    rintro e w2 ⟨A2, c2, rfl, hc2, hown, hb2⟩
    clear hown
    go_wp2_with fail
    go_ret2
    exact ⟨_, _, rfl, hc2, .inl rfl, hB1.trans (hb2.mono hB1.size)⟩
  · have HY : Hid (∀ r c, r < n → c < L 0 → 0 ≤ raiseG k g r c ∧ raiseG k g r c ≤ 99) := fun r c hr hc => (HOK.out.1 rfl).rng hr hc
    refine (made_yes _ _ _ _ (raiseG k g) _ (by omega) (by omega) (by omega) (by omega) HT.out HY.out).mono ?_
    rintro e w2 ⟨A2, c2, rfl, hc2, hown, hb2⟩
    have HO := Lib.hid hown
    clear hown
    go_wp2_with fail
    go_ret2
    exact ⟨_, _, rfl, hc2, HO.out.mono hB1.size, hB1.trans (hb2.mono hB1.size)⟩

theorem implGridRaise_yes (A : Option Addr) (n cp : Nat) (L : Nat → Nat) (g : Nat → Nat → Int) (k : Int) (w : World) (hg : GridF w A n L g) (h : Rai n L g k) :
    Calls Try.prog 39 #[.slice A n cp, .int .i64 k] w (RetGI n (fun _ => L 0) (raiseG k g) true w) :=
  (implGridRaise_mid A n cp L g k true w hg h.1 h.2.1 h.2.2.1 ⟨fun _ => h.2.2.2, fun _ => rfl⟩).mono fun e w' hh => by
    rcases hh with hh | hh
    · exact hh.2
    · exact absurd hh.1 (by decide)

theorem implGridRaise_no (A : Option Addr) (n cp : Nat) (L : Nat → Nat) (g : Nat → Nat → Int) (k : Int) (w : World) (hg : GridF w A n L g) (hn : n ≤ 1048576) (hL : ∀ r, r < n → L r ≤ 1048576) (h : ¬ Rai n L g k) :
    Calls Try.prog 39 #[.slice A n cp, .int .i64 k] w (RetGI 0 L g false w) := by
  by_cases hv : Valid n L g
  · by_cases hk : -99 ≤ k ∧ k ≤ 99
    · refine (implGridRaise_mid A n cp L g k false w hg hv hk.1 hk.2 ⟨fun e => absurd e (by decide), fun hh => absurd ⟨hv, hk.1, hk.2, hh⟩ h⟩).mono fun e w' hh => ?_
      rcases hh with hh | hh
      · exact absurd hh.1 (by decide)
      · exact hh.2
    · have hb0 := below_alloc w (.cells #[.int .i64 k] 3)
      have HG := Lib.hid (hg.below hb0)
      have HV := Lib.hid hv
      have HBk := Lib.hid (heap_alloc_new w (.cells #[.int .i64 k] 3))
      have HS0 : Hid ((w.alloc (.cells #[.int .i64 k] 3)).heap.size = w.heap.size + 1) := by show _ = _; simp
      clear hg hv h hL
      by_cases q1 : k < -99
      · go_enter Try.func39, Try.ntmps39
        go_wp2_with fail
        generalize w.alloc _ = w0 at *
        refine (fieldOf_yes _ _ _ _ _ _ _ HG.out HV.out rfl).mono ?_
        rintro e w1 ⟨b, rfl, hlo, hrow, hb1⟩
        have hbx := hb1.alloc hb1.size (.cells #[.int .i64 n, .int .i64 (L 0), .slice (some ⟨b, 0, none⟩) (n * L 0) (n * L 0)] 49)
        have y0 := cell_one ((hbx.block _ (by rw [HS0.out]; omega)).trans HBk.out)
        have hB1 := hb0.trans (hbx.mono hb0.size)
        have hszk : w.heap.size < w1.heap.size := by have := hb1.size; rw [HS0.out] at this; omega
        clear hrow hb1 hbx
        go_wp2_with fail
        go_ret2
        exact ⟨_, _, rfl, Nat.le_refl _, .inl rfl, hB1⟩
      · have d1 : decide (k < -99) = false := by simp; omega
        have q2 : 99 < k := by omega
        go_enter Try.func39, Try.ntmps39
        go_wp2_with fail
        generalize w.alloc _ = w0 at *
        refine (fieldOf_yes _ _ _ _ _ _ _ HG.out HV.out rfl).mono ?_
        rintro e w1 ⟨b, rfl, hlo, hrow, hb1⟩
        have hbx := hb1.alloc hb1.size (.cells #[.int .i64 n, .int .i64 (L 0), .slice (some ⟨b, 0, none⟩) (n * L 0) (n * L 0)] 49)
        have y0 := cell_one ((hbx.block _ (by rw [HS0.out]; omega)).trans HBk.out)
        have hB1 := hb0.trans (hbx.mono hb0.size)
        have hszk : w.heap.size < w1.heap.size := by have := hb1.size; rw [HS0.out] at this; omega
        clear hrow hb1 hbx
        go_wp2_with fail
        go_ret2
        exact ⟨_, _, rfl, Nat.le_refl _, .inl rfl, hB1⟩
  · have hb0 := below_alloc w (.cells #[.int .i64 k] 3)
    have HG := Lib.hid (hg.below hb0)
    have HL := Lib.hid hL
    have HV := Lib.hid hv
    clear hg hL hv h
    go_enter Try.func39, Try.ntmps39
    go_wp2_with fail
    generalize w.alloc _ = w0 at *
    refine (fieldOf_no _ _ _ _ _ _ HG.out hn HL.out HV.out).mono ?_
    rintro e w1 ⟨rfl, hb1⟩
    go_wp2_with fail
    go_ret2
    have hbx := hb1.alloc hb1.size (.cells #[.int .i64 0, .int .i64 0, .slice none 0 0] 49)
    exact ⟨_, _, rfl, Nat.le_refl _, .inl rfl, hb0.trans (hbx.mono hb0.size)⟩



end Go.Proofs.Ytgikjalhiajmjaa
