/- Raised and inverted grids, grids beside and below each other: what the program's functions return. -/
import Derived.Test.YthndabbjkkjkhaaIPart
namespace Go.Proofs.Ythndabbjkkjkhaa
set_option linter.unusedVariables false
set_option linter.unusedSimpArgs false
open Go.RowKit


theorem raise1_any (Bf Bk b R C N : Nat) (k : Int) (h : Nat → Int) (r c : Nat) (w : World) (H : Boxed w Bf b R C N h) (hk : w.heap[Bk]? = some (.cells #[.int .i64 k] 3 (0, 0))) (hr : r < R) (hc : c < C) (hR : R ≤ 1000) (hC : C ≤ 1000) (hN : Hid (N = R * C)) (hh : Hid (0 ≤ h (r * C + c) ∧ h (r * C + c) ≤ 99)) (hk1 : -99 ≤ k) (hk2 : k ≤ 99) :
    Calls Try.prog 86 #[.int .i64 r, .int .i64 c, .pointer (some ⟨Bf, 0, none⟩), .pointer (some ⟨Bk, 0, none⟩)] w (RetV (.int .i64 (h (r * C + c) + k)) w) := by
  have x0 := Later.cell (cell_of_blk (i := 0) H.box rfl)
  have x1 := Later.cell (cell_of_blk (i := 1) H.box rfl)
  have x2 := Later.cell (cell_of_blk (i := 2) H.box rfl)
  have y0 := Later.cell (cell_one hk)
  have HB := Lib.hid H
  clear H hk
  obtain ⟨q1, q2⟩ := hh.out
  have q3 : IntKind.i64.wrap (h (r * C + c) + k) = h (r * C + c) + k := IntWalk.i64_in _ (by omega)
  go_enter Try.func86, Try.ntmps86
  go_wp2_with fail
  refine wp_region_later (by kernel_rfl) (by kernel_rfl) ?_
  repeat (go_big_quiet_step ((go_at_call 66; exact quietL (at_any _ _ _ _ _ _ _ _ hr hc hR hC hN (HB.out.below (Later.below _)).row))))
  refine wpQuiet_nil ?_
  rintro _ ⟨⟨w1, hb1⟩, rfl⟩
  clear x0 x1 x2 y0 q3
  go_wp2_with fail
  go_ret
  exact ⟨rfl, hb1⟩

/-- The grid is raised, if that is one. -/
theorem implGridRaise_mid (A : Option Addr) (n cp : Nat) (L : Nat → Nat) (g : Nat → Nat → Int) (k : Int) (ok : Bool) (w : World) (hg : GridF w A n L g) (hv : Valid n L g) (hk1 : -99 ≤ k) (hk2 : k ≤ 99) (hok : ok = true ↔ Valid n L (raiseG k g)) :
    Calls Try.prog 49 #[.slice A n cp, .int .i64 k] w (fun e w' => (ok = true ∧ RetGI n (fun _ => L 0) (raiseG k g) true w e w') ∨ (ok = false ∧ RetGI 0 L g false w e w')) := by
  have HV := Lib.hid hv
  have hn1 := hv.1
  have hn2 := hv.2.1
  have hl1 := hv.2.2.1
  have hl2 := hv.2.2.2.1
  have HOK := Lib.hid hok
  have hcf : Hid (∀ (args : Array Value) (w : World), (callFunc 86 args).run Try.prog w = .ok (.enter 86 args) w) := fun args w => enters Try.func86 (by kernel_rfl) (by kernel_rfl) args w
  obtain ⟨N, hN⟩ : ∃ N, N = n * L 0 := ⟨_, rfl⟩
  have HN := Lib.hid hN
  have hb0 := below_alloc w (.cells #[.int .i64 k] 3)
  have HG := Lib.hid (hg.below hb0)
  have HBk := Lib.hid (heap_alloc_new w (.cells #[.int .i64 k] 3))
  have d1 : decide (k < -99) = false := by simp; omega
  have d2 : decide (99 < k) = false := by simp; omega
  have HS0 : Hid ((w.alloc (.cells #[.int .i64 k] 3)).heap.size = w.heap.size + 1) := by show _ = _; simp
  clear hg hv hN hok
  go_enter Try.func49, Try.ntmps49
  go_wp2_with fail
  generalize w.alloc _ = w0 at *
  refine (fieldOf_yes _ _ _ N _ _ _ HG.out HV.out HN).mono ?_
  rintro e w1 ⟨b, rfl, hlo, hrow, hb1⟩
  have HB := Lib.hid (Boxed.new (R := n) (C := L 0) hrow)
  have hbx := hb1.alloc hb1.size (.cells #[.int .i64 n, .int .i64 (L 0), .slice (some ⟨b, 0, none⟩) N N] 59)
  have HK1 := Lib.hid ((hbx.block _ (by rw [HS0.out]; omega)).trans HBk.out)
  have y0 := cell_one HK1.out
  have hB1 := hb0.trans (hbx.mono hb0.size)
  have hszk : w.heap.size < w1.heap.size := by have := hb1.size; rw [HS0.out] at this; omega
  clear hrow hb1 hbx
  go_wp2_with fail
  have ht : Tells (w1.alloc (.cells #[.int .i64 n, .int .i64 (L 0), .slice (some ⟨b, 0, none⟩) N N] 59)) 86 #[.pointer (some ⟨w1.heap.size, 0, none⟩), .pointer (some ⟨w.heap.size, 0, none⟩)] n (L 0) (raiseG k g) := ⟨hcf.out, fun r c w' hr hc hb => by
    refine (raise1_any w1.heap.size w.heap.size b n (L 0) N k (flat (L 0) g) r c w' (HB.out.below hb) ((hb.block _ (lt_of_blk HK1.out)).trans HK1.out) hr hc (by omega) (by omega) HN (by show 0 ≤ _ ∧ _; rw [flat_at g hc]; exact HV.out.rng hr hc) hk1 hk2).mono fun e w'' h => ?_
    rw [flat_at g (by omega)] at h
    exact h⟩
  have HT := Lib.hid ht
  clear ht
  cases ok
  · have hno : ¬ ∀ r c, r < n → c < L 0 → 0 ≤ raiseG k g r c ∧ raiseG k g r c ≤ 99 := fun hall => absurd (HOK.out.2 (HV.out.raise hall)) (by decide)
    have HNo := Lib.hid hno
    clear hno
    refine (made_no _ _ _ _ (raiseG k g) _ (by omega) (by omega) (by omega) (by omega) HT.out HNo.out).mono ?_
    rintro e w2 ⟨A2, c2, rfl, hc2, hown, hb2⟩
    clear hown
    go_wp2_with fail
    go_ret2
    exact ⟨_, _, rfl, hc2, .inl rfl, hB1.trans (hb2.mono hB1.size)⟩
  · have HY : Hid (∀ r c, r < n → c < L 0 → 0 ≤ raiseG k g r c ∧ raiseG k g r c ≤ 99) := fun r c hr hc => (HOK.out.1 rfl).rng hr hc
    refine (made_yes _ _ _ _ (raiseG k g) _ (by omega) (by omega) (by omega) (by omega) HT.out HY.out).mono ?_
    rintro e w2 ⟨A2, c2, rfl, hc2, hown, hb2⟩
    have HO := Lib.hid hown
    clear hown
    go_wp2_with fail
    go_ret2
    exact ⟨_, _, rfl, hc2, HO.out.mono hB1.size, hB1.trans (hb2.mono hB1.size)⟩

theorem implGridRaise_yes (A : Option Addr) (n cp : Nat) (L : Nat → Nat) (g : Nat → Nat → Int) (k : Int) (w : World) (hg : GridF w A n L g) (h : Rai n L g k) :
    Calls Try.prog 49 #[.slice A n cp, .int .i64 k] w (RetGI n (fun _ => L 0) (raiseG k g) true w) :=
  (implGridRaise_mid A n cp L g k true w hg h.1 h.2.1 h.2.2.1 ⟨fun _ => h.2.2.2, fun _ => rfl⟩).mono fun e w' hh => by
    rcases hh with hh | hh
    · exact hh.2
    · exact absurd hh.1 (by decide)

theorem implGridRaise_no (A : Option Addr) (n cp : Nat) (L : Nat → Nat) (g : Nat → Nat → Int) (k : Int) (w : World) (hg : GridF w A n L g) (hn : n ≤ 1048576) (hL : ∀ r, r < n → L r ≤ 1048576) (h : ¬ Rai n L g k) :
    Calls Try.prog 49 #[.slice A n cp, .int .i64 k] w (RetGI 0 L g false w) := by
  by_cases hv : Valid n L g
  · by_cases hk : -99 ≤ k ∧ k ≤ 99
    · refine (implGridRaise_mid A n cp L g k false w hg hv hk.1 hk.2 ⟨fun e => absurd e (by decide), fun hh => absurd ⟨hv, hk.1, hk.2, hh⟩ h⟩).mono fun e w' hh => ?_
      rcases hh with hh | hh
      · exact absurd hh.1 (by decide)
      · exact hh.2
    · have hb0 := below_alloc w (.cells #[.int .i64 k] 3)
      have HG := Lib.hid (hg.below hb0)
      have HV := Lib.hid hv
      have HBk := Lib.hid (heap_alloc_new w (.cells #[.int .i64 k] 3))
      have HS0 : Hid ((w.alloc (.cells #[.int .i64 k] 3)).heap.size = w.heap.size + 1) := by show _ = _; simp
      clear hg hv h hL
      by_cases q1 : k < -99
      · go_enter Try.func49, Try.ntmps49
        go_wp2_with fail
        generalize w.alloc _ = w0 at *
        refine (fieldOf_yes _ _ _ _ _ _ _ HG.out HV.out rfl).mono ?_
        rintro e w1 ⟨b, rfl, hlo, hrow, hb1⟩
        have hbx := hb1.alloc hb1.size (.cells #[.int .i64 n, .int .i64 (L 0), .slice (some ⟨b, 0, none⟩) (n * L 0) (n * L 0)] 59)
        have y0 := cell_one ((hbx.block _ (by rw [HS0.out]; omega)).trans HBk.out)
        have hB1 := hb0.trans (hbx.mono hb0.size)
        have hszk : w.heap.size < w1.heap.size := by have := hb1.size; rw [HS0.out] at this; omega
        clear hrow hb1 hbx
        go_wp2_with fail
        go_ret2
        exact ⟨_, _, rfl, Nat.le_refl _, .inl rfl, hB1⟩
      · have d1 : decide (k < -99) = false := by simp; omega
        have q2 : 99 < k := by omega
        go_enter Try.func49, Try.ntmps49
        go_wp2_with fail
        generalize w.alloc _ = w0 at *
        refine (fieldOf_yes _ _ _ _ _ _ _ HG.out HV.out rfl).mono ?_
        rintro e w1 ⟨b, rfl, hlo, hrow, hb1⟩
        have hbx := hb1.alloc hb1.size (.cells #[.int .i64 n, .int .i64 (L 0), .slice (some ⟨b, 0, none⟩) (n * L 0) (n * L 0)] 59)
        have y0 := cell_one ((hbx.block _ (by rw [HS0.out]; omega)).trans HBk.out)
        have hB1 := hb0.trans (hbx.mono hb0.size)
        have hszk : w.heap.size < w1.heap.size := by have := hb1.size; rw [HS0.out] at this; omega
        clear hrow hb1 hbx
        go_wp2_with fail
        go_ret2
        exact ⟨_, _, rfl, Nat.le_refl _, .inl rfl, hB1⟩
  · have hb0 := below_alloc w (.cells #[.int .i64 k] 3)
    have HG := Lib.hid (hg.below hb0)
    have HL := Lib.hid hL
    have HV := Lib.hid hv
    clear hg hL hv h
    go_enter Try.func49, Try.ntmps49
    go_wp2_with fail
    generalize w.alloc _ = w0 at *
    refine (fieldOf_no _ _ _ _ _ _ HG.out hn HL.out HV.out).mono ?_
    rintro e w1 ⟨rfl, hb1⟩
    go_wp2_with fail
    go_ret2
    have hbx := hb1.alloc hb1.size (.cells #[.int .i64 0, .int .i64 0, .slice none 0 0] 59)
    exact ⟨_, _, rfl, Nat.le_refl _, .inl rfl, hb0.trans (hbx.mono hb0.size)⟩

theorem beside1_any (Bf Bg b b' R C N C' N' : Nat) (h h' : Nat → Int) (r c : Nat) (w : World) (H : Boxed w Bf b R C N h) (H' : Boxed w Bg b' R C' N' h') (hr : r < R) (hc : c < C + C') (hR : R ≤ 1000) (hC : C ≤ 1000) (hC' : C' ≤ 1000) (hN : Hid (N = R * C)) (hN' : Hid (N' = R * C')) :
    Calls Try.prog 71 #[.int .i64 r, .int .i64 c, .pointer (some ⟨Bf, 0, none⟩), .pointer (some ⟨Bg, 0, none⟩)] w (RetV (.int .i64 (if c < C then h (r * C + c) else h' (r * C' + (c - C)))) w) := by
  have x0 := cell_of_blk (i := 0) H.box rfl
  have x1 := cell_of_blk (i := 1) H.box rfl
  have x2 := cell_of_blk (i := 2) H.box rfl
  have y0 := cell_of_blk (i := 0) H'.box rfl
  have y1 := cell_of_blk (i := 1) H'.box rfl
  have y2 := cell_of_blk (i := 2) H'.box rfl
  have HRow := Lib.hid H.row
  have HRow' := Lib.hid H'.row
  clear H H'
  by_cases hcc : c < C
  · rw [if_pos hcc]
    go_enter Try.func71, Try.ntmps71
    go_wp2_with fail
    refine (at_any _ _ _ _ _ _ _ _ hr hcc hR hC hN HRow).mono ?_
    rintro e w1 ⟨rfl, hb1⟩
    go_wp2_with fail
    go_ret
    exact ⟨rfl, hb1⟩
  · rw [if_neg hcc]
    go_enter Try.func71, Try.ntmps71
    go_wp2_with fail
    refine (at_int _ _ _ _ _ _ _ _ (by omega) (by omega) (by omega) (by omega) hR hC' hN' HRow').mono ?_
    rintro e w1 ⟨rfl, hb1⟩
    rw [Int.toNat_natCast, show ((c : Int) - (C : Int)).toNat = c - C by omega]
    go_wp2_with fail
    go_ret
    exact ⟨rfl, hb1⟩

theorem besideG_rng {na nb : Nat} {La Lb : Nat → Nat} {ga gb : Nat → Nat → Int} (ha : Valid na La ga) (hb : Valid nb Lb gb) (e : na = nb) {r c : Nat} (hr : r < na) (hc : c < La 0 + Lb 0) : 0 ≤ besideG (La 0) ga gb r c ∧ besideG (La 0) ga gb r c ≤ 99 := by
  unfold besideG
  by_cases hcc : c < La 0
  · rw [if_pos hcc]; exact ha.rng hr hcc
  · rw [if_neg hcc]; exact hb.rng (by omega) (by omega)

theorem implGridBeside_yes (Aa : Option Addr) (na cpa : Nat) (La : Nat → Nat) (ga : Nat → Nat → Int) (Ab : Option Addr) (nb cpb : Nat) (Lb : Nat → Nat) (gb : Nat → Nat → Int) (w : World) (hga : GridF w Aa na La ga) (hgb : GridF w Ab nb Lb gb) (h : Bes na La ga nb Lb gb) :
    Calls Try.prog 24 #[.slice Aa na cpa, .slice Ab nb cpb] w (RetGI na (fun _ => La 0 + Lb 0) (besideG (La 0) ga gb) true w) := by
  obtain ⟨hva, hvb, rfl, h7⟩ := h
  have HGa := Lib.hid hga
  have HGb := Lib.hid hgb
  have HVa := Lib.hid hva
  have HVb := Lib.hid hvb
  have hn1 := hva.1
  have hn2 := hva.2.1
  have hl1 := hva.2.2.1
  have hl2 := hva.2.2.2.1
  have hl3 := hvb.2.2.1
  have hl4 := hvb.2.2.2.1
  clear hga hgb hva hvb
  have hcf : Hid (∀ (args : Array Value) (w : World), (callFunc 71 args).run Try.prog w = .ok (.enter 71 args) w) := fun args w => enters Try.func71 (by kernel_rfl) (by kernel_rfl) args w
  obtain ⟨N, hN⟩ : ∃ N, N = na * La 0 := ⟨_, rfl⟩
  have HN := Lib.hid hN
  obtain ⟨N', hN'⟩ : ∃ N, N = na * Lb 0 := ⟨_, rfl⟩
  have HN' := Lib.hid hN'
  clear hN hN'
  go_enter Try.func24, Try.ntmps24
  go_wp2_with fail
  refine (fieldOf_yes _ _ _ N _ _ _ HGa.out HVa.out HN).mono ?_
  rintro e w1 ⟨b, rfl, hlo, hrow, hb1⟩
  have HB := Lib.hid (Boxed.new (R := na) (C := La 0) hrow)
  have hbx := hb1.alloc hb1.size (.cells #[.int .i64 na, .int .i64 (La 0), .slice (some ⟨b, 0, none⟩) N N] 59)
  clear hrow
  go_wp2_with fail
  refine (fieldOf_yes _ _ _ N' _ _ _ (HGb.out.below hbx) HVb.out HN').mono ?_
  rintro e w2 ⟨b', rfl, hlo', hrow', hb2⟩
  have HB' := Lib.hid (Boxed.new (R := na) (C := Lb 0) hrow')
  have HB2 := Lib.hid ((HB.out.below hb2).below (below_alloc w2 (.cells #[.int .i64 na, .int .i64 (Lb 0), .slice (some ⟨b', 0, none⟩) N' N'] 59)))
  have hbw2 := hbx.trans (hb2.mono hbx.size)
  have hbx2 := hbw2.alloc hbw2.size (.cells #[.int .i64 na, .int .i64 (Lb 0), .slice (some ⟨b', 0, none⟩) N' N'] 59)
  have x0 := cell_of_blk (i := 0) HB2.out.box rfl
  have x1 := cell_of_blk (i := 1) HB2.out.box rfl
  have hlt12 : w1.heap.size < w2.heap.size := by have := hb2.size; simp at this; omega
  clear hrow' hb2 hbw2 HB
  go_wp2_with fail
  rw [show ((La 0 : Int) + (Lb 0 : Int)) = ((La 0 + Lb 0 : Nat) : Int) by omega]
  refine (made_yes _ _ _ _ (besideG (La 0) ga gb) _ (by omega) (by omega) (by omega) (by omega) ⟨hcf.out, fun r c w' hr hc hb => ?_⟩ (fun r c hr hc => besideG_rng HVa.out HVb.out rfl hr hc)).mono ?_
  · refine (beside1_any w1.heap.size w2.heap.size b b' na (La 0) N (Lb 0) N' (flat (La 0) ga) (flat (Lb 0) gb) r c w' (HB2.out.below hb) (HB'.out.below hb) hr hc (by omega) (by omega) (by omega) HN HN').mono fun e w'' h => ?_
    have e : (if c < La 0 then flat (La 0) ga (r * La 0 + c) else flat (Lb 0) gb (r * Lb 0 + (c - La 0))) = besideG (La 0) ga gb r c := by
      unfold besideG
      by_cases hcc : c < La 0
      · rw [if_pos hcc, if_pos hcc, flat_at ga hcc]
      · rw [if_neg hcc, if_neg hcc, flat_at gb (by omega)]
    rw [e] at h
    exact h
  · rintro e w3 ⟨A3, c3, rfl, hc3, hown, hb3⟩
    have HO := Lib.hid hown
    clear hown
    go_wp2_with fail
    go_ret2
    exact ⟨_, _, rfl, hc3, HO.out.mono hbx2.size, hbx2.trans (hb3.mono hbx2.size)⟩

theorem implGridBeside_no (Aa : Option Addr) (na cpa : Nat) (La : Nat → Nat) (ga : Nat → Nat → Int) (Ab : Option Addr) (nb cpb : Nat) (Lb : Nat → Nat) (gb : Nat → Nat → Int) (w : World) (hga : GridF w Aa na La ga) (hgb : GridF w Ab nb Lb gb) (hna : na ≤ 1048576) (hnb : nb ≤ 1048576) (hLa : ∀ r, r < na → La r ≤ 1048576) (hLb : ∀ r, r < nb → Lb r ≤ 1048576) (h : ¬ Bes na La ga nb Lb gb) :
    Calls Try.prog 24 #[.slice Aa na cpa, .slice Ab nb cpb] w (RetGI 0 La ga false w) := by
  have HGa := Lib.hid hga
  have HGb := Lib.hid hgb
  have HLa := Lib.hid hLa
  have HLb := Lib.hid hLb
  clear hga hgb hLa hLb
  by_cases hva : Valid na La ga
  · have HVa := Lib.hid hva
    have hn1 := hva.1
    have hn2 := hva.2.1
    have hl1 := hva.2.2.1
    have hl2 := hva.2.2.2.1
    by_cases hvb : Valid nb Lb gb
    · have HVb := Lib.hid hvb
      have hm1 := hvb.1
      have hm2 := hvb.2.1
      have hl3 := hvb.2.2.1
      have hl4 := hvb.2.2.2.1
      by_cases he : na = nb
      · have h7 : ¬ (La 0 + Lb 0 ≤ 7) := fun h7 => h ⟨hva, hvb, he, h7⟩
        subst he
        clear hva hvb h
        go_enter Try.func24, Try.ntmps24
        go_wp2_with fail
        refine (fieldOf_yes _ _ _ _ _ _ _ HGa.out HVa.out rfl).mono ?_
        rintro e w1 ⟨b, rfl, hlo, hrow, hb1⟩
        have HB := Lib.hid (Boxed.new (R := na) (C := La 0) hrow)
        have hbx := hb1.alloc hb1.size (.cells #[.int .i64 na, .int .i64 (La 0), .slice (some ⟨b, 0, none⟩) (na * La 0) (na * La 0)] 59)
        clear hrow
        go_wp2_with fail
        refine (fieldOf_yes _ _ _ _ _ _ _ (HGb.out.below hbx) HVb.out rfl).mono ?_
        rintro e w2 ⟨b', rfl, hlo', hrow', hb2⟩
        have HB2 := Lib.hid ((HB.out.below hb2).below (below_alloc w2 (.cells #[.int .i64 na, .int .i64 (Lb 0), .slice (some ⟨b', 0, none⟩) (na * Lb 0) (na * Lb 0)] 59)))
        have hbw2 := hbx.trans (hb2.mono hbx.size)
        have hbx2 := hbw2.alloc hbw2.size (.cells #[.int .i64 na, .int .i64 (Lb 0), .slice (some ⟨b', 0, none⟩) (na * Lb 0) (na * Lb 0)] 59)
        have x0 := cell_of_blk (i := 0) HB2.out.box rfl
        have x1 := cell_of_blk (i := 1) HB2.out.box rfl
        have hlt12 : w1.heap.size < w2.heap.size := by have := hb2.size; simp at this; omega
        clear hrow' hb2 hbw2 HB
        go_wp2_with fail
        refine (made_far _ _ _ La ga _ (by omega)).mono ?_
        rintro e w3 ⟨A3, c3, rfl, hc3, hown, hb3⟩
        have HO := Lib.hid hown
        clear hown
        go_wp2_with fail
        go_ret2
        exact ⟨_, _, rfl, hc3, .inl rfl, hbx2.trans (hb3.mono hbx2.size)⟩
      · have d1 : ((na : Int) != (nb : Int)) = true := by rw [bne_iff_ne]; omega
        clear hva hvb h
        go_enter Try.func24, Try.ntmps24
        go_wp2_with fail
        refine (fieldOf_yes _ _ _ _ _ _ _ HGa.out HVa.out rfl).mono ?_
        rintro e w1 ⟨b, rfl, hlo, hrow, hb1⟩
        have HB := Lib.hid (Boxed.new (R := na) (C := La 0) hrow)
        have hbx := hb1.alloc hb1.size (.cells #[.int .i64 na, .int .i64 (La 0), .slice (some ⟨b, 0, none⟩) (na * La 0) (na * La 0)] 59)
        clear hrow
        go_wp2_with fail
        refine (fieldOf_yes _ _ _ _ _ _ _ (HGb.out.below hbx) HVb.out rfl).mono ?_
        rintro e w2 ⟨b', rfl, hlo', hrow', hb2⟩
        have HB2 := Lib.hid ((HB.out.below hb2).below (below_alloc w2 (.cells #[.int .i64 nb, .int .i64 (Lb 0), .slice (some ⟨b', 0, none⟩) (nb * Lb 0) (nb * Lb 0)] 59)))
        have hbw2 := hbx.trans (hb2.mono hbx.size)
        have hbx2 := hbw2.alloc hbw2.size (.cells #[.int .i64 nb, .int .i64 (Lb 0), .slice (some ⟨b', 0, none⟩) (nb * Lb 0) (nb * Lb 0)] 59)
        have x0 := cell_of_blk (i := 0) HB2.out.box rfl
        have hlt12 : w1.heap.size < w2.heap.size := by have := hb2.size; simp at this; omega
        clear hrow' hb2 hbw2 HB
        go_wp2_with fail
        go_ret2
        exact ⟨_, _, rfl, Nat.le_refl _, .inl rfl, hbx2⟩
    · have HVb := Lib.hid hvb
      clear hva hvb h
      go_enter Try.func24, Try.ntmps24
      go_wp2_with fail
      refine (fieldOf_yes _ _ _ _ _ _ _ HGa.out HVa.out rfl).mono ?_
      rintro e w1 ⟨b, rfl, hlo, hrow, hb1⟩
      have hbx := hb1.alloc hb1.size (.cells #[.int .i64 na, .int .i64 (La 0), .slice (some ⟨b, 0, none⟩) (na * La 0) (na * La 0)] 59)
      clear hrow
      go_wp2_with fail
      refine (fieldOf_no _ _ _ _ _ _ (HGb.out.below hbx) hnb HLb.out HVb.out).mono ?_
      rintro e w2 ⟨rfl, hb2⟩
      have hbw2 := hbx.trans (hb2.mono hbx.size)
      go_wp2_with fail
      go_ret2
      exact ⟨_, _, rfl, Nat.le_refl _, .inl rfl, hbw2.alloc hbw2.size _⟩
  · have HVa := Lib.hid hva
    clear hva h
    by_cases hvb : Valid nb Lb gb
    · have HVb := Lib.hid hvb
      clear hvb
      go_enter Try.func24, Try.ntmps24
      go_wp2_with fail
      refine (fieldOf_no _ _ _ _ _ _ HGa.out hna HLa.out HVa.out).mono ?_
      rintro e w1 ⟨rfl, hb1⟩
      have hbx := hb1.alloc hb1.size (.cells #[.int .i64 0, .int .i64 0, .slice none 0 0] 59)
      go_wp2_with fail
      refine (fieldOf_yes _ _ _ _ _ _ _ (HGb.out.below hbx) HVb.out rfl).mono ?_
      rintro e w2 ⟨b', rfl, hlo', hrow', hb2⟩
      have hbw2 := hbx.trans (hb2.mono hbx.size)
      clear hrow'
      go_wp2_with fail
      go_ret2
      exact ⟨_, _, rfl, Nat.le_refl _, .inl rfl, hbw2.alloc hbw2.size _⟩
    · have HVb := Lib.hid hvb
      clear hvb
      go_enter Try.func24, Try.ntmps24
      go_wp2_with fail
      refine (fieldOf_no _ _ _ _ _ _ HGa.out hna HLa.out HVa.out).mono ?_
      rintro e w1 ⟨rfl, hb1⟩
      have hbx := hb1.alloc hb1.size (.cells #[.int .i64 0, .int .i64 0, .slice none 0 0] 59)
      go_wp2_with fail
      refine (fieldOf_no _ _ _ _ _ _ (HGb.out.below hbx) hnb HLb.out HVb.out).mono ?_
      rintro e w2 ⟨rfl, hb2⟩
      have hbw2 := hbx.trans (hb2.mono hbx.size)
      go_wp2_with fail
      go_ret2
      exact ⟨_, _, rfl, Nat.le_refl _, .inl rfl, hbw2.alloc hbw2.size _⟩

theorem below1_any (Bf Bg b b' R R' C N N' : Nat) (h h' : Nat → Int) (r c : Nat) (w : World) (H : Boxed w Bf b R C N h) (H' : Boxed w Bg b' R' C N' h') (hr : r < R + R') (hc : c < C) (hR : R ≤ 1000) (hR' : R' ≤ 1000) (hC : C ≤ 1000) (hN : Hid (N = R * C)) (hN' : Hid (N' = R' * C)) :
    Calls Try.prog 75 #[.int .i64 r, .int .i64 c, .pointer (some ⟨Bf, 0, none⟩), .pointer (some ⟨Bg, 0, none⟩)] w (RetV (.int .i64 (if r < R then h (r * C + c) else h' ((r - R) * C + c))) w) := by
  have x0 := cell_of_blk (i := 0) H.box rfl
  have x1 := cell_of_blk (i := 1) H.box rfl
  have x2 := cell_of_blk (i := 2) H.box rfl
  have y0 := cell_of_blk (i := 0) H'.box rfl
  have y1 := cell_of_blk (i := 1) H'.box rfl
  have y2 := cell_of_blk (i := 2) H'.box rfl
  have HRow := Lib.hid H.row
  have HRow' := Lib.hid H'.row
  clear H H'
  by_cases hcc : r < R
  · rw [if_pos hcc]
    go_enter Try.func75, Try.ntmps75
    go_wp2_with fail
    refine (at_any _ _ _ _ _ _ _ _ hcc hc hR hC hN HRow).mono ?_
    rintro e w1 ⟨rfl, hb1⟩
    go_wp2_with fail
    go_ret
    exact ⟨rfl, hb1⟩
  · rw [if_neg hcc]
    go_enter Try.func75, Try.ntmps75
    go_wp2_with fail
    refine (at_int _ _ _ _ _ _ _ _ (by omega) (by omega) (by omega) (by omega) hR' hC hN' HRow').mono ?_
    rintro e w1 ⟨rfl, hb1⟩
    rw [Int.toNat_natCast, show ((r : Int) - (R : Int)).toNat = r - R by omega]
    go_wp2_with fail
    go_ret
    exact ⟨rfl, hb1⟩

theorem belowG_rng {na nb : Nat} {La Lb : Nat → Nat} {ga gb : Nat → Nat → Int} (ha : Valid na La ga) (hb : Valid nb Lb gb) (e : La 0 = Lb 0) {r c : Nat} (hr : r < na + nb) (hc : c < La 0) : 0 ≤ belowG na ga gb r c ∧ belowG na ga gb r c ≤ 99 := by
  unfold belowG
  by_cases hcc : r < na
  · rw [if_pos hcc]; exact ha.rng hcc hc
  · rw [if_neg hcc]; exact hb.rng (by omega) (by omega)

theorem implGridBelow_yes (Aa : Option Addr) (na cpa : Nat) (La : Nat → Nat) (ga : Nat → Nat → Int) (Ab : Option Addr) (nb cpb : Nat) (Lb : Nat → Nat) (gb : Nat → Nat → Int) (w : World) (hga : GridF w Aa na La ga) (hgb : GridF w Ab nb Lb gb) (h : Blw na La ga nb Lb gb) :
    Calls Try.prog 29 #[.slice Aa na cpa, .slice Ab nb cpb] w (RetGI (na + nb) (fun _ => La 0) (belowG na ga gb) true w) := by
  obtain ⟨hva, hvb, he, h7⟩ := h
  have hm1 := hvb.1
  have hm2 := hvb.2.1
  have HGa := Lib.hid hga
  have HGb := Lib.hid hgb
  have HVa := Lib.hid hva
  have HVb := Lib.hid hvb
  have hn1 := hva.1
  have hn2 := hva.2.1
  have hl1 := hva.2.2.1
  have hl2 := hva.2.2.2.1
  have hl3 := hvb.2.2.1
  have hl4 := hvb.2.2.2.1
  have HEq := Lib.hid he
  clear hga hgb hva hvb he
  have hcf : Hid (∀ (args : Array Value) (w : World), (callFunc 75 args).run Try.prog w = .ok (.enter 75 args) w) := fun args w => enters Try.func75 (by kernel_rfl) (by kernel_rfl) args w
  obtain ⟨N, hN⟩ : ∃ N, N = na * La 0 := ⟨_, rfl⟩
  have HN := Lib.hid hN
  obtain ⟨N', hN'⟩ : ∃ N, N = nb * La 0 := ⟨_, rfl⟩
  have HN' := Lib.hid hN'
  clear hN hN'
  go_enter Try.func29, Try.ntmps29
  go_wp2_with fail
  refine (fieldOf_yes _ _ _ N _ _ _ HGa.out HVa.out HN).mono ?_
  rintro e w1 ⟨b, rfl, hlo, hrow, hb1⟩
  have HB := Lib.hid (Boxed.new (R := na) (C := La 0) hrow)
  have hbx := hb1.alloc hb1.size (.cells #[.int .i64 na, .int .i64 (La 0), .slice (some ⟨b, 0, none⟩) N N] 59)
  clear hrow
  go_wp2_with fail
  refine (fieldOf_yes _ _ _ N' _ _ _ (HGb.out.below hbx) HVb.out (by show N' = nb * Lb 0; rw [← HEq.out]; exact HN'.out)).mono ?_
  rintro e w2 ⟨b', rfl, hlo', hrow', hb2⟩
  rw [← HEq.out] at hrow' ⊢
  have HB' := Lib.hid (Boxed.new (R := nb) (C := La 0) hrow')
  have HB2 := Lib.hid ((HB.out.below hb2).below (below_alloc w2 (.cells #[.int .i64 nb, .int .i64 (La 0), .slice (some ⟨b', 0, none⟩) N' N'] 59)))
  have hbw2 := hbx.trans (hb2.mono hbx.size)
  have hbx2 := hbw2.alloc hbw2.size (.cells #[.int .i64 nb, .int .i64 (La 0), .slice (some ⟨b', 0, none⟩) N' N'] 59)
  have x0 := cell_of_blk (i := 0) HB2.out.box rfl
  have x1 := cell_of_blk (i := 1) HB2.out.box rfl
  have hlt12 : w1.heap.size < w2.heap.size := by have := hb2.size; simp at this; omega
  clear hrow' hb2 hbw2 HB
  go_wp2_with fail
  rw [show ((na : Int) + (nb : Int)) = ((na + nb : Nat) : Int) by omega]
  refine (made_yes _ _ _ _ (belowG na ga gb) _ (by omega) (by omega) (by omega) (by omega) ⟨hcf.out, fun r c w' hr hc hb => ?_⟩ (fun r c hr hc => belowG_rng HVa.out HVb.out HEq.out hr hc)).mono ?_
  · refine (below1_any w1.heap.size w2.heap.size b b' na nb (La 0) N N' (flat (La 0) ga) (flat (La 0) gb) r c w' (HB2.out.below hb) (HB'.out.below hb) hr hc (by omega) (by omega) (by omega) HN HN').mono fun e w'' h => ?_
    have e : (if r < na then flat (La 0) ga (r * La 0 + c) else flat (La 0) gb ((r - na) * La 0 + c)) = belowG na ga gb r c := by
      unfold belowG
      by_cases hcc : r < na
      · rw [if_pos hcc, if_pos hcc, flat_at ga hc]
      · rw [if_neg hcc, if_neg hcc, flat_at gb hc]
    rw [e] at h
    exact h
  · rintro e w3 ⟨A3, c3, rfl, hc3, hown, hb3⟩
    have HO := Lib.hid hown
    clear hown
    go_wp2_with fail
    go_ret2
    exact ⟨_, _, rfl, hc3, HO.out.mono hbx2.size, hbx2.trans (hb3.mono hbx2.size)⟩

theorem implGridBelow_no (Aa : Option Addr) (na cpa : Nat) (La : Nat → Nat) (ga : Nat → Nat → Int) (Ab : Option Addr) (nb cpb : Nat) (Lb : Nat → Nat) (gb : Nat → Nat → Int) (w : World) (hga : GridF w Aa na La ga) (hgb : GridF w Ab nb Lb gb) (hna : na ≤ 1048576) (hnb : nb ≤ 1048576) (hLa : ∀ r, r < na → La r ≤ 1048576) (hLb : ∀ r, r < nb → Lb r ≤ 1048576) (h : ¬ Blw na La ga nb Lb gb) :
    Calls Try.prog 29 #[.slice Aa na cpa, .slice Ab nb cpb] w (RetGI 0 La ga false w) := by
  have HGa := Lib.hid hga
  have HGb := Lib.hid hgb
  have HLa := Lib.hid hLa
  have HLb := Lib.hid hLb
  clear hga hgb hLa hLb
  by_cases hva : Valid na La ga
  · have HVa := Lib.hid hva
    have hn1 := hva.1
    have hn2 := hva.2.1
    have hl1 := hva.2.2.1
    have hl2 := hva.2.2.2.1
    by_cases hvb : Valid nb Lb gb
    · have HVb := Lib.hid hvb
      have hm1 := hvb.1
      have hm2 := hvb.2.1
      have hl3 := hvb.2.2.1
      have hl4 := hvb.2.2.2.1
      by_cases he : La 0 = Lb 0
      · have h7 : ¬ (na + nb ≤ 7) := fun h7 => h ⟨hva, hvb, he, h7⟩
        have HEq := Lib.hid he
        clear hva hvb h he
        go_enter Try.func29, Try.ntmps29
        go_wp2_with fail
        refine (fieldOf_yes _ _ _ _ _ _ _ HGa.out HVa.out rfl).mono ?_
        rintro e w1 ⟨b, rfl, hlo, hrow, hb1⟩
        have HB := Lib.hid (Boxed.new (R := na) (C := La 0) hrow)
        have hbx := hb1.alloc hb1.size (.cells #[.int .i64 na, .int .i64 (La 0), .slice (some ⟨b, 0, none⟩) (na * La 0) (na * La 0)] 59)
        clear hrow
        go_wp2_with fail
        refine (fieldOf_yes _ _ _ _ _ _ _ (HGb.out.below hbx) HVb.out rfl).mono ?_
        rintro e w2 ⟨b', rfl, hlo', hrow', hb2⟩
        rw [← HEq.out] at hrow' ⊢
        have HB2 := Lib.hid ((HB.out.below hb2).below (below_alloc w2 (.cells #[.int .i64 nb, .int .i64 (La 0), .slice (some ⟨b', 0, none⟩) (nb * La 0) (nb * La 0)] 59)))
        have hbw2 := hbx.trans (hb2.mono hbx.size)
        have hbx2 := hbw2.alloc hbw2.size (.cells #[.int .i64 nb, .int .i64 (La 0), .slice (some ⟨b', 0, none⟩) (nb * La 0) (nb * La 0)] 59)
        have x0 := cell_of_blk (i := 0) HB2.out.box rfl
        have x1 := cell_of_blk (i := 1) HB2.out.box rfl
        have hlt12 : w1.heap.size < w2.heap.size := by have := hb2.size; simp at this; omega
        clear hrow' hb2 hbw2 HB
        go_wp2_with fail
        refine (made_far _ _ _ La ga _ (by omega)).mono ?_
        rintro e w3 ⟨A3, c3, rfl, hc3, hown, hb3⟩
        have HO := Lib.hid hown
        clear hown
        go_wp2_with fail
        go_ret2
        exact ⟨_, _, rfl, hc3, .inl rfl, hbx2.trans (hb3.mono hbx2.size)⟩
      · have d1 : ((La 0 : Int) != (Lb 0 : Int)) = true := by rw [bne_iff_ne]; omega
        clear hva hvb h
        go_enter Try.func29, Try.ntmps29
        go_wp2_with fail
        refine (fieldOf_yes _ _ _ _ _ _ _ HGa.out HVa.out rfl).mono ?_
        rintro e w1 ⟨b, rfl, hlo, hrow, hb1⟩
        have HB := Lib.hid (Boxed.new (R := na) (C := La 0) hrow)
        have hbx := hb1.alloc hb1.size (.cells #[.int .i64 na, .int .i64 (La 0), .slice (some ⟨b, 0, none⟩) (na * La 0) (na * La 0)] 59)
        clear hrow
        go_wp2_with fail
        refine (fieldOf_yes _ _ _ _ _ _ _ (HGb.out.below hbx) HVb.out rfl).mono ?_
        rintro e w2 ⟨b', rfl, hlo', hrow', hb2⟩
        have HB2 := Lib.hid ((HB.out.below hb2).below (below_alloc w2 (.cells #[.int .i64 nb, .int .i64 (Lb 0), .slice (some ⟨b', 0, none⟩) (nb * Lb 0) (nb * Lb 0)] 59)))
        have hbw2 := hbx.trans (hb2.mono hbx.size)
        have hbx2 := hbw2.alloc hbw2.size (.cells #[.int .i64 nb, .int .i64 (Lb 0), .slice (some ⟨b', 0, none⟩) (nb * Lb 0) (nb * Lb 0)] 59)
        have x1 := cell_of_blk (i := 1) HB2.out.box rfl
        have hlt12 : w1.heap.size < w2.heap.size := by have := hb2.size; simp at this; omega
        clear hrow' hb2 hbw2 HB
        go_wp2_with fail
        go_ret2
        exact ⟨_, _, rfl, Nat.le_refl _, .inl rfl, hbx2⟩
    · have HVb := Lib.hid hvb
      clear hva hvb h
      go_enter Try.func29, Try.ntmps29
      go_wp2_with fail
      refine (fieldOf_yes _ _ _ _ _ _ _ HGa.out HVa.out rfl).mono ?_
      rintro e w1 ⟨b, rfl, hlo, hrow, hb1⟩
      have hbx := hb1.alloc hb1.size (.cells #[.int .i64 na, .int .i64 (La 0), .slice (some ⟨b, 0, none⟩) (na * La 0) (na * La 0)] 59)
      clear hrow
      go_wp2_with fail
      refine (fieldOf_no _ _ _ _ _ _ (HGb.out.below hbx) hnb HLb.out HVb.out).mono ?_
      rintro e w2 ⟨rfl, hb2⟩
      have hbw2 := hbx.trans (hb2.mono hbx.size)
      go_wp2_with fail
      go_ret2
      exact ⟨_, _, rfl, Nat.le_refl _, .inl rfl, hbw2.alloc hbw2.size _⟩
  · have HVa := Lib.hid hva
    clear hva h
    by_cases hvb : Valid nb Lb gb
    · have HVb := Lib.hid hvb
      clear hvb
      go_enter Try.func29, Try.ntmps29
      go_wp2_with fail
      refine (fieldOf_no _ _ _ _ _ _ HGa.out hna HLa.out HVa.out).mono ?_
      rintro e w1 ⟨rfl, hb1⟩
      have hbx := hb1.alloc hb1.size (.cells #[.int .i64 0, .int .i64 0, .slice none 0 0] 59)
      go_wp2_with fail
      refine (fieldOf_yes _ _ _ _ _ _ _ (HGb.out.below hbx) HVb.out rfl).mono ?_
      rintro e w2 ⟨b', rfl, hlo', hrow', hb2⟩
      have hbw2 := hbx.trans (hb2.mono hbx.size)
      clear hrow'
      go_wp2_with fail
      go_ret2
      exact ⟨_, _, rfl, Nat.le_refl _, .inl rfl, hbw2.alloc hbw2.size _⟩
    · have HVb := Lib.hid hvb
      clear hvb
      go_enter Try.func29, Try.ntmps29
      go_wp2_with fail
      refine (fieldOf_no _ _ _ _ _ _ HGa.out hna HLa.out HVa.out).mono ?_
      rintro e w1 ⟨rfl, hb1⟩
      have hbx := hb1.alloc hb1.size (.cells #[.int .i64 0, .int .i64 0, .slice none 0 0] 59)
      go_wp2_with fail
      refine (fieldOf_no _ _ _ _ _ _ (HGb.out.below hbx) hnb HLb.out HVb.out).mono ?_
      rintro e w2 ⟨rfl, hb2⟩
      have hbw2 := hbx.trans (hb2.mono hbx.size)
      go_wp2_with fail
      go_ret2
      exact ⟨_, _, rfl, Nat.le_refl _, .inl rfl, hbw2.alloc hbw2.size _⟩

end Go.Proofs.Ythndabbjkkjkhaa
