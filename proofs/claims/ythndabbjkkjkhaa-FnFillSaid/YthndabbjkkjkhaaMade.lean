/- A new field whose heights are told by a function. -/
import Derived.Test.YthndabbjkkjkhaaGSet
namespace Go.Proofs.Ythndabbjkkjkhaa
set_option linter.unusedVariables false
set_option linter.unusedSimpArgs false
open Go.RowKit

theorem enters {P : Program} {f : FuncId} {fn : Func} (hf : P.funcs[f]? = some fn) (hname : (fn.name == "runtime.NumGoroutine") = false) (hb : fn.body.isNone = false) (args : Array Value) (w : World) :
    (callFunc f args).run P w = .ok (.enter f args) w := by
  have h1 : fn.name ≠ "runtime.NumGoroutine" := by simpa using hname
  have h2 : ¬ fn.body = none := fun h => by simp [h] at hb
  simp [callFunc, hf, h1, h2]

/-- The function tells the height F r c of each cell, whatever new memory there is. -/
def Tells (w : World) (fid : Nat) (caps : Array Value) (R C : Nat) (F : Nat → Nat → Int) : Prop :=
  (∀ (args : Array Value) (w : World), (callFunc fid args).run Try.prog w = .ok (.enter fid args) w) ∧ ∀ (r c : Nat) (w' : World), r < R → c < C → Below w.heap.size w w' → Calls Try.prog fid (#[.int .i64 r, .int .i64 c] ++ caps) w' (RetV (.int .i64 (F r c)) w')

/-- What holds at the heads of made's loops: s heights are laid. -/
structure RelMd (w wr : World) (Bf b R C N : Nat) (h : Nat → Int) (s : Nat) : Prop where
  box : wr.heap[Bf]? = some (.cells #[.int .i64 R, .int .i64 C, .slice (some ⟨b, 0, none⟩) N N] 59 (0, 0))
  lo : w.heap.size ≤ b
  row : wr.rowIs b 3 N (fun i => .int .i64 (if i < s then h i else 0))
  bel : Below w.heap.size w wr

theorem RelMd.keep {w wr w1 : World} {Bf b R C N : Nat} {h : Nat → Int} {s : Nat} (H : RelMd w wr Bf b R C N h s) (hb : Below wr.heap.size wr w1) : RelMd w w1 Bf b R C N h s :=
  ⟨(hb.block _ (lt_of_blk H.box)).trans H.box, H.lo, rowIs_kept H.row hb, H.bel.trans (hb.mono H.bel.size)⟩
theorem RelMd.step {w wr : World} {Bf b R C N : Nat} {h : Nat → Int} {s : Nat} (H : RelMd w wr Bf b R C N h s) : RelMd w (wr.setCell ⟨b, s, none⟩ (.int .i64 (h s))) Bf b R C N h (s + 1) := by
  have hne : Bf ≠ b := by
    rintro rfl
    obtain ⟨cs, hh, _⟩ := H.row
    have := H.box
    rw [hh] at this
    injection this with this
    injection this with _ this
    exact absurd this (by decide)
  refine ⟨(Below.heap_setCell _ _ _ _ hne).trans H.box, H.lo, (H.row.set s _).congr (fun j hj => ?_), H.bel.setCell (by exact H.lo) _⟩
  by_cases e : j = s
  · subst e; simp
  · have : (j < s + 1) = (j < s) := by apply propext; omega
    simp [e, this]

def RetMd (R C : Nat) (F : Nat → Nat → Int) (w : World) (e : Ending) (w' : World) : Prop :=
  ((∀ r c, r < R → c < C → 0 ≤ F r c ∧ F r c ≤ 99) ∧ RetGI R (fun _ => C) F true w e w') ∨ (¬ (∀ r c, r < R → c < C → 0 ≤ F r c ∧ F r c ≤ 99) ∧ RetGI 0 (fun _ => C) F false w e w')

set_option maxHeartbeats 400000 in
theorem made_mid (R C fid : Nat) (caps : Array Value) (F : Nat → Nat → Int) (w : World) (hR1 : 1 ≤ R) (hR : R ≤ 7) (hC1 : 1 ≤ C) (hC : C ≤ 7) (ht : Tells w fid caps R C F) :
    Calls Try.prog 70 #[.int .i64 R, .int .i64 C, .func (.func fid) #[] caps] w (RetMd R C F w) := by
  have HT := Lib.hid ht
  clear ht
  obtain ⟨N, hN⟩ : ∃ N, N = R * C := ⟨_, rfl⟩
  have HN := Lib.hid hN
  clear hN
  have d1 : decide ((R : Int) < 1) = false := by simp; omega
  have d2 : decide (7 < (R : Int)) = false := by simp; omega
  have d3 : decide ((C : Int) < 1) = false := by simp; omega
  have d4 : decide (7 < (C : Int)) = false := by simp; omega
  go_enter Try.func70, Try.ntmps70
  go_wp2_with (go_at_call 88; refine (blank_any _ _ N _ (by omega) (by omega) HN).mono ?_; rintro e w1 ⟨b, rfl, hlo, hrow, hb1⟩; have HRow := Lib.hid hrow; have HB1 := Lib.hid hb1; clear hrow hb1)
  have HR0 : Hid (RelMd w (w1.alloc (.cells #[.int .i64 R, .int .i64 C, .slice (some ⟨b, 0, none⟩) N N] 59)) w1.heap.size b R C N (flat C F) 0) :=
    ⟨heap_alloc_new _ _, hlo, (HRow.out.alloc _).congr (fun i _ => by simp), HB1.out.alloc HB1.out.size _⟩
  obtain ⟨Bf, hBf⟩ : ∃ x, x = w1.heap.size := ⟨_, rfl⟩
  rw [← hBf] at HR0 ⊢
  clear HRow HB1 hlo hBf
  go_loopw [30] (fun i wr => ∃ k : Nat, k ≤ R ∧ i = .int .i64 k ∧ (∀ r c, r < k → c < C → 0 ≤ F r c ∧ F r c ≤ 99) ∧ RelMd w wr Bf b R C N (flat C F) (k * C)) (fun i _ => R - (intOf i).toNat)
  case atStart => exact ⟨0, Nat.zero_le _, rfl, fun r c hr => by omega, by rw [Nat.zero_mul]; exact HR0.out⟩
  case round =>
    clear HR0
    obtain ⟨k, hk, rfl, hrows, hrel⟩ := hrel
    have HREL := Lib.hid hrel
    have HRows := Lib.hid hrows
    clear hrows
    by_cases hlt : k < R
    · have hm : k * C ≤ 49 := Nat.le_trans (Nat.mul_le_mul (by omega : k ≤ 7) hC) (by decide)
      have hm0 : (0 : Int) ≤ (k : Int) * (C : Int) := by rw [← Int.natCast_mul]; omega
      have hm1 : (k : Int) * (C : Int) ≤ 1000000 := by rw [← Int.natCast_mul]; omega
      clear hrel
      go_wp2_with fail
      obtain ⟨wo, hwo⟩ : ∃ wo : World, wo = wr := ⟨_, rfl⟩
      rw [← hwo] at HREL ⊢
      go_loopw [34] (fun i wi => ∃ j : Nat, j ≤ C ∧ i = .int .i64 j ∧ (∀ c, c < j → 0 ≤ F k c ∧ F k c ≤ 99) ∧ RelMd w wi Bf b R C N (flat C F) (k * C + j)) (fun i _ => C - (intOf i).toNat)
      case atStart => exact ⟨0, Nat.zero_le _, rfl, fun c hc => by omega, HREL.out⟩
      case round =>
        clear HREL hwo
        obtain ⟨j, hj, rfl, hcells, hrel⟩ := hrel
        have HREL := Lib.hid hrel
        have HCells := Lib.hid hcells
        clear hcells
        by_cases hlt2 : j < C
        · have HTc := Lib.hid (HT.out.2 k j wr hlt hlt2 hrel.bel)
          have hcf := HT.out.1
          clear hrel
          go_wp2_with fail
          refine HTc.out.mono ?_
          rintro e w2 ⟨rfl, hb2⟩
          have HREL2 := Lib.hid (HREL.out.keep hb2)
          clear hcf HTc
          by_cases hok : ¬ (0 ≤ F k j ∧ F k j ≤ 99)
          · go_wp2_with (go_at_call 60; refine (isHeight_any _ _ false (by show false = true ↔ _; simpa using hok)).mono ?_; rintro e w' ⟨rfl, rfl⟩)
            go_ret2
            exact .inr ⟨fun hh => hok (hh k j hlt hlt2), _, _, rfl, Nat.le_refl _, .inl rfl, HREL2.out.bel⟩
          have hok : 0 ≤ F k j ∧ F k j ≤ 99 := Decidable.not_not.1 hok
          have hltN : k * C + j < N := by rw [HN.out]; exact idx_lt hlt hlt2
          have e1 : ((k : Int) * (C : Int) + (j : Int)).toNat = k * C + j := by rw [← Int.natCast_mul]; omega
          have e2 : (k : Int) * (C : Int) + (j : Int) < (N : Int) := by rw [← Int.natCast_mul]; omega
          have e3 : (0 : Int) ≤ (k : Int) * (C : Int) + (j : Int) := by omega
          have hidx : Hid (∀ (w : World), Calls Try.prog 61 #[.agg #[.int .i64 R, .int .i64 C, .slice (some ⟨b, 0, none⟩) N N], .int .i64 k, .int .i64 j] w (RetV (.int .i64 ((k : Int) * (C : Int) + j)) w)) :=
            fun w => index_any _ _ _ _ (.int .i64 0) w hm0 hm1 (by omega) (by omega) _ _ _
          go_wp2_with (go_at_call 60; refine (isHeight_any _ _ true (by show true = true ↔ _; simpa using hok)).mono ?_; rintro e w' ⟨rfl, rfl⟩)
          have x0 := Later.cell (cell_of_blk (i := 0) HREL2.out.box rfl)
          have x1 := Later.cell (cell_of_blk (i := 1) HREL2.out.box rfl)
          have x2 := Later.cell (cell_of_blk (i := 2) HREL2.out.box rfl)
          refine wp_region_later_tail 8 (by kernel_rfl) (by kernel_rfl) ?_
          simp only [List.take_succ_cons, List.take_zero, List.drop_succ_cons, List.drop_zero]
          repeat (go_big_quiet_step ((go_at_call 61; exact quietL (hidx.out _))))
          refine wpQuiet_nil ?_
          rintro w3 ⟨⟨_, hb3⟩, rfl⟩
          have hcw : w3.cell? ⟨b, k * C + j, none⟩ = _ := (rowIs_kept HREL2.out.row hb3).cell hltN
          have hfw : w3.frozen? ⟨b, k * C + j, none⟩ = false := (rowIs_kept HREL2.out.row hb3).frozen _
          clear x0 x1 x2
          show wpList _ _ _ _ _ w3
          go_wp2_with fail
          go_roundw
          case rel =>
            have := (HREL2.out.keep hb3).step
            rw [flat_at F hlt2] at this
            refine ⟨j + 1, by omega, by go_num, fun c hc => ?_, this⟩
            by_cases e : c = j
            · subst e; exact hok
            · exact HCells.out c (by omega)
          case measure => simp [intOf]; omega
        · have hj2 : j = C := by omega
          clear hrel
          go_wp2_with fail
          go_roundw
          case rel =>
            have := HREL.out
            rw [hj2, ← Nat.succ_mul] at this
            refine ⟨k + 1, by omega, by go_num, fun r c hr hc => ?_, this⟩
            by_cases e : r = k
            · subst e; exact HCells.out c (by omega)
            · exact HRows.out r c (by omega) hc
          case measure => simp [intOf]; omega
    · have hkR : k = R := by omega
      have HK := Lib.hid hkR
      have y0 := cell_of_blk (i := 0) hrel.box rfl
      have y1 := cell_of_blk (i := 1) hrel.box rfl
      have y2 := cell_of_blk (i := 2) hrel.box rfl
      clear hrel hkR
      go_wp2_with fail
      refine (lists_any _ _ _ _ (flat C F) _ (by omega) (by omega) (by omega) (by omega) HN (HREL.out.row.congr fun i hi => by rw [if_pos (by rw [HK.out, ← HN.out]; exact hi)])).mono ?_
      rintro e w4 ⟨A4, c4, rfl, hc4, hown, hb4⟩
      have HO := Lib.hid hown
      clear hown
      go_wp2_with fail
      go_ret2
      have hB := HREL.out.bel
      refine .inl ⟨fun r c hr hc => HRows.out r c (by rw [HK.out]; exact hr) hc, _, _, rfl, hc4, (HO.out.mono hB.size).congr (fun r c hr hc => flat_at F hc), hB.trans (hb4.mono hB.size)⟩

theorem made_yes (R C fid : Nat) (caps : Array Value) (F : Nat → Nat → Int) (w : World) (hR1 : 1 ≤ R) (hR : R ≤ 7) (hC1 : 1 ≤ C) (hC : C ≤ 7) (ht : Tells w fid caps R C F) (hF : ∀ r c, r < R → c < C → 0 ≤ F r c ∧ F r c ≤ 99) :
    Calls Try.prog 70 #[.int .i64 R, .int .i64 C, .func (.func fid) #[] caps] w (RetGI R (fun _ => C) F true w) :=
  (made_mid R C fid caps F w hR1 hR hC1 hC ht).mono fun e w' h => by
    rcases h with h | h
    · exact h.2
    · exact absurd hF h.1
theorem made_no (R C fid : Nat) (caps : Array Value) (F : Nat → Nat → Int) (w : World) (hR1 : 1 ≤ R) (hR : R ≤ 7) (hC1 : 1 ≤ C) (hC : C ≤ 7) (ht : Tells w fid caps R C F) (hF : ¬ ∀ r c, r < R → c < C → 0 ≤ F r c ∧ F r c ≤ 99) :
    Calls Try.prog 70 #[.int .i64 R, .int .i64 C, .func (.func fid) #[] caps] w (RetGI 0 (fun _ => C) F false w) :=
  (made_mid R C fid caps F w hR1 hR hC1 hC ht).mono fun e w' h => by
    rcases h with h | h
    · exact absurd h.1 hF
    · exact h.2

theorem made_far (R C : Int) (fv : Value) (L : Nat → Nat) (F : Nat → Nat → Int) (w : World) (h : ¬ (1 ≤ R ∧ R ≤ 7 ∧ 1 ≤ C ∧ C ≤ 7)) :
    Calls Try.prog 70 #[.int .i64 R, .int .i64 C, fv] w (RetGI 0 L F false w) := by
  by_cases h1 : R < 1
  · go_enter Try.func70, Try.ntmps70
    go_wp2_with fail
    go_ret2
    exact ⟨_, _, rfl, Nat.le_refl _, .inl rfl, Below.refl _ _⟩
  by_cases h2 : 7 < R
  · have d1 : decide (R < 1) = false := by simp; omega
    go_enter Try.func70, Try.ntmps70
    go_wp2_with fail
    go_ret2
    exact ⟨_, _, rfl, Nat.le_refl _, .inl rfl, Below.refl _ _⟩
  by_cases h3 : C < 1
  · have d1 : decide (R < 1) = false := by simp; omega
    have d2 : decide (7 < R) = false := by simp; omega
    go_enter Try.func70, Try.ntmps70
    go_wp2_with fail
    go_ret2
    exact ⟨_, _, rfl, Nat.le_refl _, .inl rfl, Below.refl _ _⟩
  · have d1 : decide (R < 1) = false := by simp; omega
    have d2 : decide (7 < R) = false := by simp; omega
    have d3 : decide (C < 1) = false := by simp; omega
    have d4 : 7 < C := by omega
    go_enter Try.func70, Try.ntmps70
    go_wp2_with fail
    go_ret2
    exact ⟨_, _, rfl, Nat.le_refl _, .inl rfl, Below.refl _ _⟩

end Go.Proofs.Ythndabbjkkjkhaa
