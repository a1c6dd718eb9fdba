/- GridSet: what the program's and the reference's functions return. -/
import Derived.Test.YthndabbjkkjkhaaLst
namespace Go.Proofs.Ythndabbjkkjkhaa
set_option linter.unusedVariables false
set_option linter.unusedSimpArgs false
open Go.RowKit

/-- A grid that is only read, and whether there is one. -/
def RetGS (n : Nat) (L : Nat → Nat) (g : Nat → Nat → Int) (ok : Bool) (w : World) (e : Ending) (w' : World) : Prop :=
  ∃ A c, e = .returned (.tuple #[.slice A n c, .bool ok]) ∧ n ≤ c ∧ GridF w' A n L g ∧ Below w.heap.size w w'
/-- A grid in new memory, and whether there is one. -/
def RetGI (n : Nat) (L : Nat → Nat) (g : Nat → Nat → Int) (ok : Bool) (w : World) (e : Ending) (w' : World) : Prop :=
  ∃ A c, e = .returned (.tuple #[.slice A n c, .bool ok]) ∧ n ≤ c ∧ OwnG w' w.heap.size A n L g ∧ Below w.heap.size w w'

theorem OwnG.congrL {w : World} {lo : Nat} {A : Option Addr} {n : Nat} {L L' : Nat → Nat} {g g' : Nat → Nat → Int} (h : OwnG w lo A n L g) (eL : ∀ r, r < n → L r = L' r) (e : ∀ r c, r < n → c < L r → g r c = g' r c) : OwnG w lo A n L' g' := by
  rcases h with h | ⟨B, bs, hA, hlo, hB, hrows, hinj⟩
  · exact .inl h
  · refine .inr ⟨B, bs, hA, hlo, hB.congr (fun r hr => by rw [eL r hr]), fun r hr => ⟨(hrows r hr).1, ?_⟩, hinj⟩
    rw [← eL r hr]
    exact (hrows r hr).2.congr fun c hc => by rw [e r c hr hc]

theorem GridF.congrL {w : World} {A : Option Addr} {n : Nat} {L L' : Nat → Nat} {g g' : Nat → Nat → Int} (h : GridF w A n L g) (eL : ∀ r, r < n → L r = L' r) (e : ∀ r c, r < n → c < L r → g r c = g' r c) : GridF w A n L' g' := by
  intro r hr
  obtain ⟨b, o, A', c', hA, hc, hl, hrow⟩ := h r hr
  rw [eL r hr] at hc hl
  refine ⟨b, o, A', c', hA, hc, hl, fun k hk => ?_⟩
  obtain ⟨b', o', hA', hc'⟩ := hrow k (by rw [eL r hr]; exact hk)
  exact ⟨b', o', hA', by rw [hc', e r k hr (by rw [eL r hr]; exact hk)]⟩

def gset (g : Nat → Nat → Int) (r c : Nat) (x : Int) : Nat → Nat → Int := fun r' c' => if r' = r ∧ c' = c then x else g r' c'

theorem GridOV.store {w : World} {lo : Nat} {v : Value} {n : Nat} {L : Nat → Nat} {g : Nat → Nat → Int} {V : Nat → Value} (h : GridOV w lo v n L g V) {r c b cc : Nat} (hr : r < n) (hc : c < L r) (hV : V r = .slice (some ⟨b, 0, none⟩) (L r) cc) (x : Int) :
    GridOV (w.setCell ⟨b, c, none⟩ (.int .i64 x)) lo v n L (gset g r c x) V := by
  have hb : (V r).ownBlock = some b := by rw [hV]; rfl
  refine ⟨h.1.of_block fun k hk => Below.heap_setCell _ _ _ _ (fun e => ?_), fun s hs => ?_, h.2.2⟩
  · subst e; exact own_type_ne (h.2.1 r hr) h.1 (by decide) hb hk
  · by_cases e : s = r
    · subst e
      exact ((h.2.1 s hs).store hV hc (.int .i64 x)).congr fun i hi => by
        unfold gset
        by_cases e : i = c <;> simp [e]
    · refine ((h.2.1 s hs).of_block fun k hk => Below.heap_setCell _ _ _ _ (fun e' => ?_)).congr fun i _ => by simp [gset, e]
      subst e'
      exact h.2.2 r s hr hs (fun h => e h.symm) _ hb hk

theorem specGridSet_yes (A : Option Addr) (n cp : Nat) (L : Nat → Nat) (g : Nat → Nat → Int) (r c x : Int) (w : World) (hg : GridF w A n L g) (hh : HasCell n L g r c ∧ 0 ≤ x ∧ x ≤ 99) :
    Calls Try.prog 16 #[.slice A n cp, .int .i64 r, .int .i64 c, .int .i64 x] w (RetGS n L (gset g r.toNat c.toNat x) true w) := by
  obtain ⟨h, hx⟩ := hh
  have HG := Lib.hid hg
  have HH := Lib.hid h
  have hn1 := h.1.n_le
  have hn2 := h.1.2.1
  have HL : Hid (∀ r, r < n → L r ≤ 1048576) := fun r hr => h.1.L_le r hr
  have hv := h.1
  obtain ⟨_, h1, h2, h3, h4⟩ := h
  obtain ⟨r, rfl⟩ := Int.eq_ofNat_of_zero_le h1
  obtain ⟨c, rfl⟩ := Int.eq_ofNat_of_zero_le h3
  have hlen := Lib.hid (hv.len r (by omega))
  simp only [Int.toNat_natCast]
  clear hg hv
  go_enter Try.func16, Try.ntmps16
  go_wp2_with fail
  refine (l1Cell_yes _ _ _ _ _ _ _ _ HG.out HH.out).mono ?_
  rintro e w1 ⟨rfl, hb1⟩
  go_wp2_with fail
  refine (l6In_yes _ _ _ _ hx.1 hx.2).mono ?_
  rintro e w' ⟨rfl, rfl⟩
  go_wp2_with fail
  refine (l1Copy_any _ _ _ _ _ _ (HG.out.below hb1) (by omega) HL.out).mono ?_
  rintro e w2 ⟨v, rfl, hgo, hb2⟩
  obtain ⟨V, hV⟩ := hgo
  have HV := Lib.hid hV
  obtain ⟨Bo, co, rfl, _, _, hco, _⟩ := hV.1.cell (k := r) (by omega)
  obtain ⟨Br, cr, hVr, _, _, hcr, hfr⟩ := OwnS.cell (k := c) (hV.2.1 r (by omega)) (by rw [hlen.out]; omega)
  have HVr := Lib.hid hVr
  rw [hVr, hlen.out] at hco
  clear hV hVr
  go_wp2_with fail
  go_ret2
  have HS := GridOV.store HV.out (r := r) (c := c) (by omega) (by rw [hlen.out]; omega) HVr.out x
  obtain ⟨A', c', e, hc', hgrid⟩ := GridO.grid ⟨V, HS⟩
  refine ⟨A', c', by rw [← e]; rfl, hc', hgrid, ?_⟩
  have hlo : w.heap.size ≤ Br := by
    have := ((HV.out.2.1 r (by omega)).lt (k := Br) (by rw [HVr.out]; rfl)).1
    have := hb1.size
    omega
  exact (hb1.trans (hb2.mono hb1.size)).setCell (by exact hlo) _

theorem specGridSet_no (A : Option Addr) (n cp : Nat) (L : Nat → Nat) (g : Nat → Nat → Int) (r c x : Int) (w : World) (hg : GridF w A n L g) (hn : n ≤ 1048576) (hL : ∀ r, r < n → L r ≤ 1048576) (h : ¬ (HasCell n L g r c ∧ 0 ≤ x ∧ x ≤ 99)) :
    Calls Try.prog 16 #[.slice A n cp, .int .i64 r, .int .i64 c, .int .i64 x] w (RetGS 0 L g false w) := by
  have HG := Lib.hid hg
  have HL := Lib.hid hL
  clear hg hL
  by_cases hh : HasCell n L g r c
  · have hx : ¬ (0 ≤ x ∧ x ≤ 99) := fun hx => h ⟨hh, hx⟩
    have HH := Lib.hid hh
    clear h hh
    go_enter Try.func16, Try.ntmps16
    go_wp2_with fail
    refine (l1Cell_yes _ _ _ _ _ _ _ _ HG.out HH.out).mono ?_
    rintro e w1 ⟨rfl, hb1⟩
    go_wp2_with fail
    refine (l6In_no _ _ _ _ hx).mono ?_
    rintro e w' ⟨rfl, rfl⟩
    go_wp2_with fail
    go_ret2
    exact ⟨_, _, rfl, Nat.le_refl _, fun r hr => by omega, hb1.alloc hb1.size _⟩
  · have HH := Lib.hid hh
    clear h hh
    go_enter Try.func16, Try.ntmps16
    go_wp2_with fail
    refine (l1Cell_no _ _ _ _ _ _ _ _ HG.out hn HL.out HH.out).mono ?_
    rintro e w1 ⟨rfl, hb1⟩
    go_wp2_with fail
    go_ret2
    exact ⟨_, _, rfl, Nat.le_refl _, fun r hr => by omega, hb1.alloc hb1.size _⟩

theorem implGridSet_yes (A : Option Addr) (n cp : Nat) (L : Nat → Nat) (g : Nat → Nat → Int) (r c x : Int) (w : World) (hg : GridF w A n L g) (hh : HasCell n L g r c ∧ 0 ≤ x ∧ x ≤ 99) :
    Calls Try.prog 15 #[.slice A n cp, .int .i64 r, .int .i64 c, .int .i64 x] w (RetGI n L (gset g r.toNat c.toNat x) true w) := by
  obtain ⟨h, hx⟩ := hh
  have HG := Lib.hid hg
  have HV := Lib.hid h.1
  have hn1 := h.1.1
  have hn2 := h.1.2.1
  have hl1 := h.1.2.2.1
  have hl2 := h.1.2.2.2.1
  obtain ⟨_, h1, h2, h3, h4⟩ := h
  obtain ⟨r, rfl⟩ := Int.eq_ofNat_of_zero_le h1
  obtain ⟨c, rfl⟩ := Int.eq_ofNat_of_zero_le h3
  simp only [Int.toNat_natCast]
  clear hg
  obtain ⟨N, hN⟩ : ∃ N, N = n * L 0 := ⟨_, rfl⟩
  have hltN : r * L 0 + c < N := by rw [hN]; exact idx_lt (by omega) (by omega)
  have hm : r * L 0 ≤ 49 := Nat.le_trans (Nat.mul_le_mul (by omega : r ≤ 7) hl2) (by decide)
  have HN := Lib.hid hN
  have hm0 : (0 : Int) ≤ (r : Int) * (L 0 : Int) := by rw [← Int.natCast_mul]; omega
  have hm1 : (r : Int) * (L 0 : Int) ≤ 1000000 := by rw [← Int.natCast_mul]; omega
  have e1 : ((r : Int) * (L 0 : Int) + (c : Int)).toNat = r * L 0 + c := by rw [← Int.natCast_mul]; omega
  have e2 : (r : Int) * (L 0 : Int) + (c : Int) < (N : Int) := by rw [← Int.natCast_mul]; omega
  have e3 : (0 : Int) ≤ (r : Int) * (L 0 : Int) + (c : Int) := by omega
  clear hN
  go_enter Try.func15, Try.ntmps15
  go_wp2_with fail
  refine (fieldOf_yes _ _ _ N _ _ _ HG.out HV.out HN).mono ?_
  rintro e w1 ⟨b, rfl, hlo, hrow, hb1⟩
  have HRow := Lib.hid hrow
  clear hrow
  go_wp2_with fail
  refine (has_any _ _ _ _ _ _ _ _ true (by show true = true ↔ _; simp; omega)).mono ?_
  rintro e w2 ⟨rfl, hb2⟩
  have hs1 := hb1.size
  have hs2 := hb2.size
  simp at hs2
  have hB2 : Below w.heap.size w w2 := (hb1.alloc hb1.size _).trans (hb2.mono (by simp; omega))
  have bx : w2.heap[w1.heap.size]? = some (.cells #[.int .i64 n, .int .i64 (L 0), .slice (some ⟨b, 0, none⟩) N N] 59 (0, 0)) := (hb2.block _ (by simp)).trans (heap_alloc_new _ _)
  have HBx := Lib.hid bx
  have HRow2 := Lib.hid (rowIs_kept (HRow.out.alloc _) hb2)
  have x0 := cell_of_blk (i := 0) bx rfl
  have x1 := cell_of_blk (i := 1) bx rfl
  have x2 := cell_of_blk (i := 2) bx rfl
  have y0 := Later.cell x0
  have y1 := Later.cell x1
  have y2 := Later.cell x2
  have hidx : Hid (∀ (w : World), Calls Try.prog 61 #[.agg #[.int .i64 n, .int .i64 (L 0), .slice (some ⟨b, 0, none⟩) N N], .int .i64 r, .int .i64 c] w (RetV (.int .i64 ((r : Int) * (L 0 : Int) + c)) w)) :=
    fun w => index_any _ _ _ _ (.int .i64 0) w hm0 hm1 (by omega) (by omega) _ _ _
  clear bx HRow
  go_wp2_with fail
  refine (isHeight_any _ _ true (by show true = true ↔ _; simpa using hx)).mono ?_
  rintro e w' ⟨rfl, rfl⟩
  go_wp2_with fail
  refine wp_region_later_tail 8 (by kernel_rfl) (by kernel_rfl) ?_
  simp only [List.take_succ_cons, List.take_zero, List.drop_succ_cons, List.drop_zero]
  repeat (go_big_quiet_step ((go_at_call 61; exact quietL (hidx.out _))))
  refine wpQuiet_nil ?_
  rintro w3 ⟨⟨_, hb3⟩, rfl⟩
  clear y0 y1 y2 x0 x1 x2
  have HRow3 := Lib.hid (rowIs_kept HRow2.out hb3)
  have hcw : w3.cell? ⟨b, r * L 0 + c, none⟩ = _ := HRow3.out.cell hltN
  have hfw : w3.frozen? ⟨b, r * L 0 + c, none⟩ = false := HRow3.out.frozen _
  have bx3 : w3.heap[w1.heap.size]? = _ := (hb3.block _ (by omega)).trans HBx.out
  have hne : w1.heap.size ≠ b := fun e => by
    have := HRow3.out
    rw [← e] at this
    obtain ⟨cs, hcs, _⟩ := this
    rw [bx3] at hcs
    injection hcs with hcs
    injection hcs with _ hcs
    exact absurd hcs (by decide)
  have x0 := cell_of_blk (i := 0) bx3 rfl
  have x1 := cell_of_blk (i := 1) bx3 rfl
  have x2 := cell_of_blk (i := 2) bx3 rfl
  clear bx3
  show wpList _ _ _ _ _ w3
  go_wp2_with fail
  refine (lists_any _ _ _ _ (fun i => if i = r * L 0 + c then x else flat (L 0) g i) _ (by omega) (by omega) (by omega) (by omega) HN ((HRow3.out.set _ _).congr fun i _ => by split <;> rfl)).mono ?_
  rintro e w4 ⟨A4, c4, rfl, hc4, hown, hb4⟩
  have HO := Lib.hid hown
  clear hown
  go_wp2_with fail
  go_ret2
  have hs3 := hb3.size
  have hB3 : Below w.heap.size w (w3.setCell ⟨b, r * L 0 + c, none⟩ (.int .i64 x)) := (hB2.trans (hb3.mono hB2.size)).setCell (by exact hlo) _
  refine ⟨_, _, rfl, hc4, (HO.out.mono ?_).congrL (fun s hs => (HV.out.len s hs).symm) (fun s d hs hd => ?_), hB3.trans (hb4.mono hB3.size)⟩
  · exact hB3.size
  · show (if s * L 0 + d = r * L 0 + c then x else flat (L 0) g (s * L 0 + d)) = gset g r c x s d
    have hd' : d < L 0 := hd
    unfold gset
    by_cases e : s * L 0 + d = r * L 0 + c
    · have e1 : (s * L 0 + d) / L 0 = (r * L 0 + c) / L 0 := by rw [e]
      have e2 : (s * L 0 + d) % L 0 = (r * L 0 + c) % L 0 := by rw [e]
      rw [Nat.mul_comm s, Nat.mul_comm r, Nat.mul_add_div (by omega), Nat.mul_add_div (by omega), Nat.div_eq_of_lt hd', Nat.div_eq_of_lt (by omega)] at e1
      rw [Nat.mul_comm s, Nat.mul_comm r, Nat.mul_add_mod, Nat.mul_add_mod, Nat.mod_eq_of_lt hd', Nat.mod_eq_of_lt (by omega)] at e2
      rw [if_pos e, if_pos ⟨by omega, e2⟩]
    · rw [if_neg e, if_neg (fun h => e (by rw [h.1, h.2])), flat_at g hd']

theorem implGridSet_no (A : Option Addr) (n cp : Nat) (L : Nat → Nat) (g : Nat → Nat → Int) (r c x : Int) (w : World) (hg : GridF w A n L g) (hn : n ≤ 1048576) (hL : ∀ r, r < n → L r ≤ 1048576) (h : ¬ (HasCell n L g r c ∧ 0 ≤ x ∧ x ≤ 99)) :
    Calls Try.prog 15 #[.slice A n cp, .int .i64 r, .int .i64 c, .int .i64 x] w (RetGI 0 L g false w) := by
  have HG := Lib.hid hg
  have HL := Lib.hid hL
  clear hg hL
  by_cases hv : Valid n L g
  · have hn1 := hv.1
    have hn2 := hv.2.1
    have hl1 := hv.2.2.1
    have hl2 := hv.2.2.2.1
    have HV := Lib.hid hv
    by_cases hh : 0 ≤ r ∧ r < n ∧ 0 ≤ c ∧ c < L 0
    · have hx : ¬ (0 ≤ x ∧ x ≤ 99) := fun hx => h ⟨⟨hv, hh⟩, hx⟩
      clear h hv
      go_enter Try.func15, Try.ntmps15
      go_wp2_with fail
      refine (fieldOf_yes _ _ _ _ _ _ _ HG.out HV.out rfl).mono ?_
      rintro e w1 ⟨b, rfl, hlo, hrow, hb1⟩
      clear hrow
      go_wp2_with fail
      refine (has_any _ _ _ _ _ _ _ _ true (by show true = true ↔ _; simp; omega)).mono ?_
      rintro e w2 ⟨rfl, hb2⟩
      go_wp2_with fail
      refine (isHeight_any _ _ false (by show false = true ↔ _; simpa using hx)).mono ?_
      rintro e w' ⟨rfl, rfl⟩
      go_wp2_with fail
      go_ret2
      exact ⟨_, _, rfl, Nat.le_refl _, .inl rfl, (hb1.alloc hb1.size _).trans (hb2.mono (by have := hb1.size; simp; omega))⟩
    · clear h hv
      go_enter Try.func15, Try.ntmps15
      go_wp2_with fail
      refine (fieldOf_yes _ _ _ _ _ _ _ HG.out HV.out rfl).mono ?_
      rintro e w1 ⟨b, rfl, hlo, hrow, hb1⟩
      clear hrow
      go_wp2_with fail
      refine (has_any _ _ _ _ _ _ _ _ false (by show false = true ↔ _; simp; omega)).mono ?_
      rintro e w2 ⟨rfl, hb2⟩
      go_wp2_with fail
      go_ret2
      exact ⟨_, _, rfl, Nat.le_refl _, .inl rfl, (hb1.alloc hb1.size _).trans (hb2.mono (by have := hb1.size; simp; omega))⟩
  · have HV := Lib.hid hv
    clear h hv
    go_enter Try.func15, Try.ntmps15
    go_wp2_with fail
    refine (fieldOf_no _ _ _ _ _ _ HG.out hn HL.out HV.out).mono ?_
    rintro e w1 ⟨rfl, hb1⟩
    go_wp2_with fail
    go_ret2
    exact ⟨_, _, rfl, Nat.le_refl _, .inl rfl, hb1.alloc hb1.size _⟩

end Go.Proofs.Ythndabbjkkjkhaa
