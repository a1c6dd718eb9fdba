/- Parts of grids, grids beside and below each other, raised and inverted grids: what the program's functions return. -/
import Derived.Test.YthndabbjkkjkhaaITurn
namespace Go.Proofs.Ythndabbjkkjkhaa
set_option linter.unusedVariables false
set_option linter.unusedSimpArgs false
open Go.RowKit

def partG (t l : Nat) (g : Nat → Nat → Int) : Nat → Nat → Int := fun r c => g (t + r) (l + c)
def besideG (C : Nat) (g g' : Nat → Nat → Int) : Nat → Nat → Int := fun r c => if c < C then g r c else g' r (c - C)
def belowG (n : Nat) (g g' : Nat → Nat → Int) : Nat → Nat → Int := fun r c => if r < n then g r c else g' (r - n) c
def raiseG (k : Int) (g : Nat → Nat → Int) : Nat → Nat → Int := fun r c => g r c + k
def invG (g : Nat → Nat → Int) : Nat → Nat → Int := fun r c => 99 - g r c

/-- Rows and columns of a grid. -/
def Prt (n : Nat) (L : Nat → Nat) (g : Nat → Nat → Int) (tp bt lf rt : Int) : Prop := Valid n L g ∧ 0 ≤ tp ∧ tp ≤ bt ∧ bt < n ∧ 0 ≤ lf ∧ lf ≤ rt ∧ rt < L 0
instance (n : Nat) (L : Nat → Nat) (g : Nat → Nat → Int) (tp bt lf rt : Int) : Decidable (Prt n L g tp bt lf rt) := by unfold Prt; infer_instance
def Bes (na : Nat) (La : Nat → Nat) (ga : Nat → Nat → Int) (nb : Nat) (Lb : Nat → Nat) (gb : Nat → Nat → Int) : Prop := Valid na La ga ∧ Valid nb Lb gb ∧ na = nb ∧ La 0 + Lb 0 ≤ 7
instance (na : Nat) (La : Nat → Nat) (ga : Nat → Nat → Int) (nb : Nat) (Lb : Nat → Nat) (gb : Nat → Nat → Int) : Decidable (Bes na La ga nb Lb gb) := by unfold Bes; infer_instance
def Blw (na : Nat) (La : Nat → Nat) (ga : Nat → Nat → Int) (nb : Nat) (Lb : Nat → Nat) (gb : Nat → Nat → Int) : Prop := Valid na La ga ∧ Valid nb Lb gb ∧ La 0 = Lb 0 ∧ na + nb ≤ 7
instance (na : Nat) (La : Nat → Nat) (ga : Nat → Nat → Int) (nb : Nat) (Lb : Nat → Nat) (gb : Nat → Nat → Int) : Decidable (Blw na La ga nb Lb gb) := by unfold Blw; infer_instance
def Rai (n : Nat) (L : Nat → Nat) (g : Nat → Nat → Int) (k : Int) : Prop := Valid n L g ∧ -99 ≤ k ∧ k ≤ 99 ∧ Valid n L (raiseG k g)
instance (n : Nat) (L : Nat → Nat) (g : Nat → Nat → Int) (k : Int) : Decidable (Rai n L g k) := by unfold Rai; infer_instance

theorem Valid.inv {n : Nat} {L : Nat → Nat} {g : Nat → Nat → Int} (h : Valid n L g) : Valid n L (invG g) :=
  ⟨h.1, h.2.1, h.2.2.1, h.2.2.2.1, fun r hr => ⟨h.len r hr, fun c hc => by have := h.rng hr hc; unfold invG; omega⟩⟩
theorem Valid.raise {n : Nat} {L : Nat → Nat} {g : Nat → Nat → Int} {k : Int} (h : Valid n L g) (hk : ∀ r c, r < n → c < L 0 → 0 ≤ g r c + k ∧ g r c + k ≤ 99) : Valid n L (raiseG k g) :=
  ⟨h.1, h.2.1, h.2.2.1, h.2.2.2.1, fun r hr => ⟨h.len r hr, fun c hc => hk r c hr hc⟩⟩

theorem cell_one {w : World} {b : Nat} {v : Value} {t : TypeId} (h : w.heap[b]? = some (.cells #[v] t (0, 0))) : w.cell? ⟨b, 0, none⟩ = some v := by simp [World.cell?, h]

theorem part1_any (Bf Bt Bl b R C N : Nat) (h : Nat → Int) (t l r c : Nat) (w : World) (H : Boxed w Bf b R C N h) (ht : w.heap[Bt]? = some (.cells #[.int .i64 t] 3 (0, 0))) (hl : w.heap[Bl]? = some (.cells #[.int .i64 l] 3 (0, 0)))
    (hr : t + r < R) (hc : l + c < C) (hR : R ≤ 1000) (hC : C ≤ 1000) (hN : Hid (N = R * C)) :
    Calls Try.prog 77 #[.int .i64 r, .int .i64 c, .pointer (some ⟨Bf, 0, none⟩), .pointer (some ⟨Bt, 0, none⟩), .pointer (some ⟨Bl, 0, none⟩)] w (RetV (.int .i64 (h ((t + r) * C + (l + c)))) w) := by
  have x0 := cell_of_blk (i := 0) H.box rfl
  have x1 := cell_of_blk (i := 1) H.box rfl
  have x2 := cell_of_blk (i := 2) H.box rfl
  have y0 := cell_one ht
  have y1 := cell_one hl
  have HRow := Lib.hid H.row
  clear H ht hl
  go_enter Try.func77, Try.ntmps77
  go_wp2_with fail
  refine (at_int _ _ _ _ _ _ _ _ (by omega) (by omega) (by omega) (by omega) hR hC hN HRow).mono ?_
  rintro e w1 ⟨rfl, hb1⟩
  rw [show ((t : Int) + (r : Int)).toNat = t + r by omega, show ((l : Int) + (c : Int)).toNat = l + c by omega]
  go_wp2_with fail
  go_ret
  exact ⟨rfl, hb1⟩

theorem implGridPart_nat (A : Option Addr) (n cp : Nat) (L : Nat → Nat) (g : Nat → Nat → Int) (t b l r : Nat) (w : World) (hg : GridF w A n L g) (hv : Valid n L g) (h1 : t ≤ b) (h2 : b < n) (h3 : l ≤ r) (h4 : r < L 0) :
    Calls Try.prog 31 #[.slice A n cp, .int .i64 t, .int .i64 b, .int .i64 l, .int .i64 r] w (RetGI (b - t + 1) (fun _ => r - l + 1) (partG t l g) true w) := by
  have HG := Lib.hid hg
  have HV := Lib.hid hv
  have hn1 := hv.1
  have hn2 := hv.2.1
  have hl1 := hv.2.2.1
  have hl2 := hv.2.2.2.1
  have HRng := Lib.hid hv.2.2.2.2
  clear hg hv
  have hcf : Hid (∀ (args : Array Value) (w : World), (callFunc 77 args).run Try.prog w = .ok (.enter 77 args) w) := fun args w => enters Try.func77 (by kernel_rfl) (by kernel_rfl) args w
  obtain ⟨N, hN⟩ : ∃ N, N = n * L 0 := ⟨_, rfl⟩
  have HN := Lib.hid hN
  clear hN
  have hbt : ((w.alloc (.cells #[.int .i64 t] 3)).alloc (.cells #[.int .i64 l] 3)).heap[w.heap.size]? = some (.cells #[.int .i64 t] 3 (0, 0)) := by
    rw [Below.heap_alloc _ _ _ (by simp)]; exact heap_alloc_new _ _
  have hbl : ((w.alloc (.cells #[.int .i64 t] 3)).alloc (.cells #[.int .i64 l] 3)).heap[w.heap.size + 1]? = some (.cells #[.int .i64 l] 3 (0, 0)) := by
    have := heap_alloc_new (w.alloc (.cells #[.int .i64 t] 3)) (.cells #[.int .i64 l] 3); simpa using this
  have hb0 : Below w.heap.size w ((w.alloc (.cells #[.int .i64 t] 3)).alloc (.cells #[.int .i64 l] 3)) := (below_alloc w _).trans ((below_alloc _ _).mono (by simp))
  have hs0 : ((w.alloc (.cells #[.int .i64 t] 3)).alloc (.cells #[.int .i64 l] 3)).heap.size = w.heap.size + 2 := by simp
  have HBt := Lib.hid hbt
  have HBl := Lib.hid hbl
  have HS0 := Lib.hid hs0
  clear hbt hbl hs0
  go_enter Try.func31, Try.ntmps31
  go_wp2_with fail
  generalize World.alloc (World.alloc w _) _ = w0 at *
  refine (fieldOf_yes _ _ _ N _ _ _ (HG.out.below hb0) HV.out HN).mono ?_
  rintro e w1 ⟨bb, rfl, hlo, hrow, hb1⟩
  have HB := Lib.hid (Boxed.new (R := n) (C := L 0) hrow)
  have hbx := hb1.alloc hb1.size (.cells #[.int .i64 n, .int .i64 (L 0), .slice (some ⟨bb, 0, none⟩) N N] 59)
  have ht1 := (hbx.block _ (by rw [HS0.out]; omega)).trans HBt.out
  have hl1' := (hbx.block _ (by rw [HS0.out]; omega)).trans HBl.out
  have y0 := cell_one ht1
  have y1 := cell_one hl1'
  have HT1 := Lib.hid ht1
  have HL1 := Lib.hid hl1'
  have hB1 : Below w.heap.size w _ := hb0.trans (hbx.mono hb0.size)
  have hs1 := hb1.size
  have HS1 : Hid (w.heap.size + 2 ≤ w1.heap.size) := by rw [← HS0.out]; exact hs1
  have hsz1 : w.heap.size < w1.heap.size := by have := HS1.out; omega
  have hsz2 : w.heap.size + 1 < w1.heap.size := by have := HS1.out; omega
  clear hrow ht1 hl1' HBt HBl hs1
  have d1 : decide (b < t) = false := by simpa using h1
  have d2 : decide (r < l) = false := by simpa using h3
  go_wp2_with fail
  refine (has_any _ _ _ _ _ _ _ _ true (by show true = true ↔ _; simp; omega)).mono ?_
  rintro e w2 ⟨rfl, hb2⟩
  have HB2 := Lib.hid (HB.out.below hb2)
  have HT2 := Lib.hid ((hb2.block _ (lt_of_blk HT1.out)).trans HT1.out)
  have HL2 := Lib.hid ((hb2.block _ (lt_of_blk HL1.out)).trans HL1.out)
  have hB2 := hB1.trans (hb2.mono hB1.size)
  have x0 := cell_of_blk (i := 0) HB2.out.box rfl
  have x1 := cell_of_blk (i := 1) HB2.out.box rfl
  have x2 := cell_of_blk (i := 2) HB2.out.box rfl
  clear y0 y1 hb2 HB HT1 HL1 hB1 hbx hb1
  go_wp2_with fail
  refine (has_any _ _ _ _ _ _ _ _ true (by show true = true ↔ _; simp; omega)).mono ?_
  rintro e w3 ⟨rfl, hb3⟩
  have HB3 := Lib.hid (HB2.out.below hb3)
  have HT3 := Lib.hid ((hb3.block _ (lt_of_blk HT2.out)).trans HT2.out)
  have HL3 := Lib.hid ((hb3.block _ (lt_of_blk HL2.out)).trans HL2.out)
  have hB3 := hB2.trans (hb3.mono hB2.size)
  have y0 := cell_one HT3.out
  have y1 := cell_one HL3.out
  clear x0 x1 x2 hb3 HB2 HT2 HL2 hB2
  go_wp2_with fail
  rw [show ((b : Int) - (t : Int) + 1) = ((b - t + 1 : Nat) : Int) by omega, show ((r : Int) - (l : Int) + 1) = ((r - l + 1 : Nat) : Int) by omega]
  refine (made_yes _ _ _ _ (partG t l g) _ (by omega) (by omega) (by omega) (by omega) ⟨hcf.out, fun x y w' hx hy hb => ?_⟩ (fun x y hx hy => ?_)).mono ?_
  · refine (part1_any w1.heap.size w.heap.size (w.heap.size + 1) bb n (L 0) N (flat (L 0) g) t l x y w' (HB3.out.below hb) ((hb.block _ (lt_of_blk HT3.out)).trans HT3.out) ((hb.block _ (lt_of_blk HL3.out)).trans HL3.out) (by omega) (by omega) (by omega) (by omega) HN).mono fun e w'' h => ?_
    rw [flat_at g (by omega)] at h
    exact h
  · exact (HRng.out (t + x) (by omega)).2 _ (by omega)
  · rintro e w4 ⟨A4, c4, rfl, hc4, hown, hb4⟩
    have HO := Lib.hid hown
    clear hown
    go_wp2_with fail
    go_ret2
    exact ⟨_, _, rfl, hc4, HO.out.mono hB3.size, hB3.trans (hb4.mono hB3.size)⟩

theorem implGridPart_yes (A : Option Addr) (n cp : Nat) (L : Nat → Nat) (g : Nat → Nat → Int) (tp bt lf rt : Int) (w : World) (hg : GridF w A n L g) (hh : Prt n L g tp bt lf rt) :
    Calls Try.prog 31 #[.slice A n cp, .int .i64 tp, .int .i64 bt, .int .i64 lf, .int .i64 rt] w (RetGI (bt - tp + 1).toNat (fun _ => (rt - lf + 1).toNat) (partG tp.toNat lf.toNat g) true w) := by
  obtain ⟨hv, h1, h2, h3, h4, h5, h6⟩ := hh
  obtain ⟨t, rfl⟩ := Int.eq_ofNat_of_zero_le h1
  obtain ⟨b, rfl⟩ := Int.eq_ofNat_of_zero_le (by omega : 0 ≤ bt)
  obtain ⟨l, rfl⟩ := Int.eq_ofNat_of_zero_le h4
  obtain ⟨r, rfl⟩ := Int.eq_ofNat_of_zero_le (by omega : 0 ≤ rt)
  rw [show ((b : Int) - (t : Int) + 1).toNat = b - t + 1 by omega, show ((r : Int) - (l : Int) + 1).toNat = r - l + 1 by omega, Int.toNat_natCast, Int.toNat_natCast]
  exact implGridPart_nat A n cp L g t b l r w hg hv (by omega) (by omega) (by omega) (by omega)

theorem implGridPart_no (A : Option Addr) (n cp : Nat) (L : Nat → Nat) (g : Nat → Nat → Int) (tp bt lf rt : Int) (w : World) (hg : GridF w A n L g) (hn : n ≤ 1048576) (hL : ∀ r, r < n → L r ≤ 1048576) (h : ¬ Prt n L g tp bt lf rt) :
    Calls Try.prog 31 #[.slice A n cp, .int .i64 tp, .int .i64 bt, .int .i64 lf, .int .i64 rt] w (RetGI 0 L g false w) := by
  have hb0 : Below w.heap.size w ((w.alloc (.cells #[.int .i64 tp] 3)).alloc (.cells #[.int .i64 lf] 3)) := (below_alloc w _).trans ((below_alloc _ _).mono (by simp))
  have HG := Lib.hid (hg.below hb0)
  have HL := Lib.hid hL
  clear hg hL
  have hbt : ((w.alloc (.cells #[.int .i64 tp] 3)).alloc (.cells #[.int .i64 lf] 3)).heap[w.heap.size]? = some (.cells #[.int .i64 tp] 3 (0, 0)) := by
    rw [Below.heap_alloc _ _ _ (by simp)]; exact heap_alloc_new _ _
  have hbl : ((w.alloc (.cells #[.int .i64 tp] 3)).alloc (.cells #[.int .i64 lf] 3)).heap[w.heap.size + 1]? = some (.cells #[.int .i64 lf] 3 (0, 0)) := by
    have := heap_alloc_new (w.alloc (.cells #[.int .i64 tp] 3)) (.cells #[.int .i64 lf] 3); simpa using this
  have hs0 : ((w.alloc (.cells #[.int .i64 tp] 3)).alloc (.cells #[.int .i64 lf] 3)).heap.size = w.heap.size + 2 := by simp
  have HBt := Lib.hid hbt
  have HBl := Lib.hid hbl
  have HS0 := Lib.hid hs0
  clear hbt hbl hs0
  by_cases hv : Valid n L g
  · have hn2 := hv.2.1
    have hl2 := hv.2.2.2.1
    have h' : ¬ (0 ≤ tp ∧ tp ≤ bt ∧ bt < n ∧ 0 ≤ lf ∧ lf ≤ rt ∧ rt < L 0) := fun hh => h ⟨hv, hh⟩
    have HV := Lib.hid hv
    clear h hv
    have main : ∀ (w1 : World) (bb : Nat), True := fun _ _ => trivial
    by_cases q1 : bt < tp
    · go_enter Try.func31, Try.ntmps31
      go_wp2_with fail
      generalize World.alloc (World.alloc w _) _ = w0 at *
      refine (fieldOf_yes _ _ _ _ _ _ _ HG.out HV.out rfl).mono ?_
      rintro e w1 ⟨bb, rfl, hlo, hrow, hb1⟩
      have hbx := hb1.alloc hb1.size (.cells #[.int .i64 n, .int .i64 (L 0), .slice (some ⟨bb, 0, none⟩) (n * L 0) (n * L 0)] 59)
      have y0 := cell_one ((hbx.block _ (by rw [HS0.out]; omega)).trans HBt.out)
      have y1 := cell_one ((hbx.block _ (by rw [HS0.out]; omega)).trans HBl.out)
      have hB1 : Below w.heap.size w _ := hb0.trans (hbx.mono hb0.size)
      have hsz1 : w.heap.size < w1.heap.size := by have := hb1.size; rw [HS0.out] at this; omega
      have hsz2 : w.heap.size + 1 < w1.heap.size := by have := hb1.size; rw [HS0.out] at this; omega
      clear hrow hb1 hbx
      go_wp2_with fail
      go_ret2
      exact ⟨_, _, rfl, Nat.le_refl _, .inl rfl, hB1⟩
    by_cases q2 : rt < lf
    · have d1 : decide (bt < tp) = false := by simpa using q1
      go_enter Try.func31, Try.ntmps31
      go_wp2_with fail
      generalize World.alloc (World.alloc w _) _ = w0 at *
      refine (fieldOf_yes _ _ _ _ _ _ _ HG.out HV.out rfl).mono ?_
      rintro e w1 ⟨bb, rfl, hlo, hrow, hb1⟩
      have hbx := hb1.alloc hb1.size (.cells #[.int .i64 n, .int .i64 (L 0), .slice (some ⟨bb, 0, none⟩) (n * L 0) (n * L 0)] 59)
      have y0 := cell_one ((hbx.block _ (by rw [HS0.out]; omega)).trans HBt.out)
      have y1 := cell_one ((hbx.block _ (by rw [HS0.out]; omega)).trans HBl.out)
      have hB1 : Below w.heap.size w _ := hb0.trans (hbx.mono hb0.size)
      have hsz1 : w.heap.size < w1.heap.size := by have := hb1.size; rw [HS0.out] at this; omega
      have hsz2 : w.heap.size + 1 < w1.heap.size := by have := hb1.size; rw [HS0.out] at this; omega
      clear hrow hb1 hbx
      go_wp2_with fail
      go_ret2
      exact ⟨_, _, rfl, Nat.le_refl _, .inl rfl, hB1⟩
    have d1 : decide (bt < tp) = false := by simpa using q1
    have d2 : decide (rt < lf) = false := by simpa using q2
    by_cases q3 : 0 ≤ tp ∧ tp < n ∧ 0 ≤ lf ∧ lf < L 0
    · go_enter Try.func31, Try.ntmps31
      go_wp2_with fail
      generalize World.alloc (World.alloc w _) _ = w0 at *
      refine (fieldOf_yes _ _ _ _ _ _ _ HG.out HV.out rfl).mono ?_
      rintro e w1 ⟨bb, rfl, hlo, hrow, hb1⟩
      have HB := Lib.hid (Boxed.new (R := n) (C := L 0) hrow)
      have hbx := hb1.alloc hb1.size (.cells #[.int .i64 n, .int .i64 (L 0), .slice (some ⟨bb, 0, none⟩) (n * L 0) (n * L 0)] 59)
      have y0 := cell_one ((hbx.block _ (by rw [HS0.out]; omega)).trans HBt.out)
      have y1 := cell_one ((hbx.block _ (by rw [HS0.out]; omega)).trans HBl.out)
      have hB1 : Below w.heap.size w _ := hb0.trans (hbx.mono hb0.size)
      have hsz1 : w.heap.size < w1.heap.size := by have := hb1.size; rw [HS0.out] at this; omega
      have hsz2 : w.heap.size + 1 < w1.heap.size := by have := hb1.size; rw [HS0.out] at this; omega
      clear hrow hb1 hbx
      go_wp2_with fail
      refine (has_any _ _ _ _ _ _ _ _ true (by show true = true ↔ _; simp; omega)).mono ?_
      rintro e w2 ⟨rfl, hb2⟩
      have HB2 := Lib.hid (HB.out.below hb2)
      have x0 := cell_of_blk (i := 0) HB2.out.box rfl
      have x1 := cell_of_blk (i := 1) HB2.out.box rfl
      have x2 := cell_of_blk (i := 2) HB2.out.box rfl
      have hB2 := hB1.trans (hb2.mono hB1.size)
      clear y0 y1 hb2 HB hB1
      go_wp2_with fail
      refine (has_any _ _ _ _ _ _ _ _ false (by show false = true ↔ _; simp; omega)).mono ?_
      rintro e w3 ⟨rfl, hb3⟩
      have hB3 := hB2.trans (hb3.mono hB2.size)
      go_wp2_with fail
      go_ret2
      exact ⟨_, _, rfl, Nat.le_refl _, .inl rfl, hB3⟩
    · go_enter Try.func31, Try.ntmps31
      go_wp2_with fail
      generalize World.alloc (World.alloc w _) _ = w0 at *
      refine (fieldOf_yes _ _ _ _ _ _ _ HG.out HV.out rfl).mono ?_
      rintro e w1 ⟨bb, rfl, hlo, hrow, hb1⟩
      have hbx := hb1.alloc hb1.size (.cells #[.int .i64 n, .int .i64 (L 0), .slice (some ⟨bb, 0, none⟩) (n * L 0) (n * L 0)] 59)
      have y0 := cell_one ((hbx.block _ (by rw [HS0.out]; omega)).trans HBt.out)
      have y1 := cell_one ((hbx.block _ (by rw [HS0.out]; omega)).trans HBl.out)
      have hB1 : Below w.heap.size w _ := hb0.trans (hbx.mono hb0.size)
      have hsz1 : w.heap.size < w1.heap.size := by have := hb1.size; rw [HS0.out] at this; omega
      have hsz2 : w.heap.size + 1 < w1.heap.size := by have := hb1.size; rw [HS0.out] at this; omega
      clear hrow hb1 hbx
      go_wp2_with fail
      refine (has_any _ _ _ _ _ _ _ _ false (by show false = true ↔ _; simp; omega)).mono ?_
      rintro e w2 ⟨rfl, hb2⟩
      have hB2 := hB1.trans (hb2.mono hB1.size)
      go_wp2_with fail
      go_ret2
      exact ⟨_, _, rfl, Nat.le_refl _, .inl rfl, hB2⟩
  · have HV := Lib.hid hv
    clear h hv
    go_enter Try.func31, Try.ntmps31
    go_wp2_with fail
    generalize World.alloc (World.alloc w _) _ = w0 at *
    refine (fieldOf_no _ _ _ _ _ _ HG.out hn HL.out HV.out).mono ?_
    rintro e w1 ⟨rfl, hb1⟩
    go_wp2_with fail
    go_ret2
    have hbx := hb1.alloc hb1.size (.cells #[.int .i64 0, .int .i64 0, .slice none 0 0] 59)
    exact ⟨_, _, rfl, Nat.le_refl _, .inl rfl, hb0.trans (hbx.mono hb0.size)⟩

end Go.Proofs.Ythndabbjkkjkhaa
