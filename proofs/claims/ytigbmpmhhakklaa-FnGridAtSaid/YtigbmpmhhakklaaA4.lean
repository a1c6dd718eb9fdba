/- GridValid and GridAt: what the program's and the reference's functions return. -/
import Derived.Test.YtigbmpmhhakklaaA2
import Derived.Test.YtigbmpmhhakklaaA3
namespace Go.Proofs.Ytigbmpmhhakklaa
set_option linter.unusedVariables false
set_option linter.unusedSimpArgs false
open Go.RowKit


theorem specValid_yes (A : Option Addr) (n c : Nat) (L : Nat → Nat) (g : Nat → Nat → Int) (w : World) (hg : GridF w A n L g) (hv : Valid n L g) :
    Calls Try.prog 61 #[.slice A n c] w (RetV (.bool true) w) :=
  specValid_any A n c L g w hg (by have := hv.2.1; omega) (fun r hr => by have := (hv.2.2.2.2 r hr).1; have := hv.2.2.2.1; omega) true (by show true = true ↔ _; simpa using hv)
theorem specValid_no (A : Option Addr) (n c : Nat) (L : Nat → Nat) (g : Nat → Nat → Int) (w : World) (hg : GridF w A n L g) (hn : n ≤ 1048576) (hL : ∀ r, r < n → L r ≤ 1048576) (hv : ¬ Valid n L g) :
    Calls Try.prog 61 #[.slice A n c] w (RetV (.bool false) w) :=
  specValid_any A n c L g w hg hn hL false (by show false = true ↔ _; simpa using hv)

instance (n : Nat) (L : Nat → Nat) (g : Nat → Nat → Int) : Decidable (Valid n L g) := by unfold Valid; infer_instance

theorem Valid.len {n : Nat} {L : Nat → Nat} {g : Nat → Nat → Int} (hv : Valid n L g) (r : Nat) (hr : r < n) : L r = L 0 := (hv.2.2.2.2 r hr).1
theorem Valid.n_le {n : Nat} {L : Nat → Nat} {g : Nat → Nat → Int} (hv : Valid n L g) : n ≤ 1048576 := by have := hv.2.1; omega
theorem Valid.L_le {n : Nat} {L : Nat → Nat} {g : Nat → Nat → Int} (hv : Valid n L g) (r : Nat) (hr : r < n) : L r ≤ 1048576 := by have := hv.len r hr; have := hv.2.2.2.1; omega

/-- There is such a cell. -/
def HasCell (n : Nat) (L : Nat → Nat) (g : Nat → Nat → Int) (r c : Int) : Prop := Valid n L g ∧ 0 ≤ r ∧ r < n ∧ 0 ≤ c ∧ c < L 0
instance (n : Nat) (L : Nat → Nat) (g : Nat → Nat → Int) (r c : Int) : Decidable (HasCell n L g r c) := by unfold HasCell; infer_instance

theorem l1Cell_yes (A : Option Addr) (n cp : Nat) (L : Nat → Nat) (g : Nat → Nat → Int) (r c : Int) (w : World) (hg : GridF w A n L g) (h : HasCell n L g r c) :
    Calls Try.prog 44 #[.slice A n cp, .int .i64 r, .int .i64 c] w (RetV (.bool true) w) := by
  obtain ⟨hv, h1, h2, h3, h4⟩ := h
  have hn1 := hv.1
  have hn2 := hv.2.1
  have hl1 := hv.2.2.1
  have hl2 := hv.2.2.2.1
  have HV := Lib.hid hv
  have HG := Lib.hid hg
  clear hg hv
  obtain ⟨B, o, A0, c0, rfl, hc0, _, hr0⟩ := HG.out 0 (by omega)
  rw [Nat.add_zero] at hc0
  clear hr0
  go_enter Try.func44, Try.ntmps44
  go_wp2_with fail
  refine (specValid_yes _ _ _ _ _ _ HG.out HV.out).mono ?_
  rintro e w1 ⟨rfl, hb1⟩
  have hc1 := (hb1.cell (World.block_lt_of_cell? w _ hc0)).trans hc0
  go_wp2_with (go_at_call 57; refine (l6In_yes _ _ _ _ (by omega) (by omega)).mono ?_; rintro e w' ⟨rfl, rfl⟩)
  go_ret
  exact ⟨rfl, hb1⟩

theorem l1Cell_no (A : Option Addr) (n cp : Nat) (L : Nat → Nat) (g : Nat → Nat → Int) (r c : Int) (w : World) (hg : GridF w A n L g) (hn : n ≤ 1048576) (hL : ∀ r, r < n → L r ≤ 1048576) (h : ¬ HasCell n L g r c) :
    Calls Try.prog 44 #[.slice A n cp, .int .i64 r, .int .i64 c] w (RetV (.bool false) w) := by
  have HG := Lib.hid hg
  have HL := Lib.hid hL
  clear hg hL
  by_cases hv : Valid n L g
  · have hn1 := hv.1
    have hn2 := hv.2.1
    have hl1 := hv.2.2.1
    have hl2 := hv.2.2.2.1
    have HV := Lib.hid hv
    obtain ⟨B, o, A0, c0, rfl, hc0, _, hr0⟩ := HG.out 0 (by omega)
    rw [Nat.add_zero] at hc0
    clear hr0
    have h' : ¬ (0 ≤ r ∧ r < n ∧ 0 ≤ c ∧ c < L 0) := fun hh => h ⟨hv, hh⟩
    clear h hv
    by_cases hr : 0 ≤ r ∧ r < n
    · have hc : ¬ (0 ≤ c ∧ c < L 0) := by omega
      clear h'
      go_enter Try.func44, Try.ntmps44
      go_wp2_with fail
      refine (specValid_yes _ _ _ _ _ _ HG.out HV.out).mono ?_
      rintro e w1 ⟨rfl, hb1⟩
      have hc1 := (hb1.cell (World.block_lt_of_cell? w _ hc0)).trans hc0
      go_wp2_with fail
      refine (l6In_yes _ _ _ _ (by omega) (by omega)).mono ?_
      rintro e w' ⟨rfl, rfl⟩
      go_wp2_with fail
      refine (l6In_no _ _ _ _ (by omega)).mono ?_
      rintro e w' ⟨rfl, rfl⟩
      go_wp2_with fail
      go_ret
      exact ⟨rfl, hb1⟩
    · clear h'
      go_enter Try.func44, Try.ntmps44
      go_wp2_with fail
      refine (specValid_yes _ _ _ _ _ _ HG.out HV.out).mono ?_
      rintro e w1 ⟨rfl, hb1⟩
      go_wp2_with fail
      refine (l6In_no _ _ _ _ (by omega)).mono ?_
      rintro e w' ⟨rfl, rfl⟩
      go_wp2_with fail
      go_ret
      exact ⟨rfl, hb1⟩
  · have HV := Lib.hid hv
    clear h hv
    go_enter Try.func44, Try.ntmps44
    go_wp2_with fail
    refine (specValid_no _ _ _ _ _ _ HG.out hn HL.out HV.out).mono ?_
    rintro e w1 ⟨rfl, hb1⟩
    go_wp2_with fail
    go_ret
    exact ⟨rfl, hb1⟩

def gridAtV (n : Nat) (L : Nat → Nat) (g : Nat → Nat → Int) (r c : Int) : Int := if HasCell n L g r c then g r.toNat c.toNat else -1
theorem gridAtV_yes {n : Nat} {L : Nat → Nat} {g : Nat → Nat → Int} {r c : Int} (h : HasCell n L g r c) : gridAtV n L g r c = g r.toNat c.toNat := if_pos h
theorem gridAtV_no {n : Nat} {L : Nat → Nat} {g : Nat → Nat → Int} {r c : Int} (h : ¬ HasCell n L g r c) : gridAtV n L g r c = -1 := if_neg h

theorem specGridAt_any (A : Option Addr) (n cp : Nat) (L : Nat → Nat) (g : Nat → Nat → Int) (r c : Int) (w : World) (hg : GridF w A n L g) (hn : n ≤ 1048576) (hL : ∀ r, r < n → L r ≤ 1048576) (_hr1 : -9223372036854775808 ≤ r) (_hr2 : r ≤ 9223372036854775807) (_hc1 : -9223372036854775808 ≤ c) (_hc2 : c ≤ 9223372036854775807) :
    Calls Try.prog 40 #[.slice A n cp, .int .i64 r, .int .i64 c] w (RetV (.int .i64 (gridAtV n L g r c)) w) := by
  have HG := Lib.hid hg
  have HL := Lib.hid hL
  clear hg hL
  by_cases h : HasCell n L g r c
  · rw [gridAtV_yes h]
    have HH := Lib.hid h
    obtain ⟨hv, h1, h2, h3, h4⟩ := h
    obtain ⟨r, rfl⟩ := Int.eq_ofNat_of_zero_le h1
    obtain ⟨c, rfl⟩ := Int.eq_ofNat_of_zero_le h3
    simp only [Int.toNat_natCast]
    have hlen := hv.len r (by omega)
    obtain ⟨B, o, A1, c1, rfl, hc1, _, hr1⟩ := HG.out r (by omega)
    rw [hlen] at hc1 hr1
    obtain ⟨B2, o2, rfl, hc2⟩ := hr1 c (by omega)
    clear hr1 hlen hv
    go_enter Try.func40, Try.ntmps40
    go_wp2_with fail
    refine (l1Cell_yes _ _ _ _ _ _ _ _ HG.out HH.out).mono ?_
    rintro e w1 ⟨rfl, hb1⟩
    have hc1' := (hb1.cell (World.block_lt_of_cell? w _ hc1)).trans hc1
    have hc2' := (hb1.cell (World.block_lt_of_cell? w _ hc2)).trans hc2
    go_wp2_with fail
    go_ret
    exact ⟨rfl, hb1⟩
  · rw [gridAtV_no h]
    have HH := Lib.hid h
    clear h
    go_enter Try.func40, Try.ntmps40
    go_wp2_with fail
    refine (l1Cell_no _ _ _ _ _ _ _ _ HG.out hn HL.out HH.out).mono ?_
    rintro e w1 ⟨rfl, hb1⟩
    go_wp2_with fail
    go_ret
    exact ⟨rfl, hb1⟩

theorem implGridAt_any (A : Option Addr) (n cp : Nat) (L : Nat → Nat) (g : Nat → Nat → Int) (r c : Int) (w : World) (hg : GridF w A n L g) (hn : n ≤ 1048576) (hL : ∀ r, r < n → L r ≤ 1048576) (_hr1 : -9223372036854775808 ≤ r) (_hr2 : r ≤ 9223372036854775807) (_hc1 : -9223372036854775808 ≤ c) (_hc2 : c ≤ 9223372036854775807) :
    Calls Try.prog 24 #[.slice A n cp, .int .i64 r, .int .i64 c] w (RetV (.int .i64 (gridAtV n L g r c)) w) := by
  have HG := Lib.hid hg
  have HL := Lib.hid hL
  clear hg hL
  by_cases hv : Valid n L g
  · have HV := Lib.hid hv
    have hn1 := hv.1
    have hn2 := hv.2.1
    have hl1 := hv.2.2.1
    have hl2 := hv.2.2.2.1
    by_cases h : 0 ≤ r ∧ r < n ∧ 0 ≤ c ∧ c < L 0
    · rw [gridAtV_yes ⟨hv, h⟩]
      clear hv
      obtain ⟨h1, h2, h3, h4⟩ := h
      obtain ⟨r, rfl⟩ := Int.eq_ofNat_of_zero_le h1
      obtain ⟨c, rfl⟩ := Int.eq_ofNat_of_zero_le h3
      simp only [Int.toNat_natCast]
      go_enter Try.func24, Try.ntmps24
      go_wp2_with fail
      refine (fieldOf_yes _ _ _ _ _ _ _ HG.out HV.out rfl).mono ?_
      rintro e w1 ⟨b, rfl, hlo, hrow, hb1⟩
      have HRow := Lib.hid hrow
      clear hrow
      go_wp2_with fail
      refine (has_any _ _ _ _ _ _ _ _ true (by show true = true ↔ _; simp; omega)).mono ?_
      rintro e w2 ⟨rfl, hb2⟩
      have hB2 : Below w.heap.size w w2 := (hb1.alloc hb1.size _).trans (hb2.mono (by have := hb1.size; simp; omega))
      have x0 := (hb2.cell (by simp)).trans (box_cell0 w1 (.int .i64 n) (.int .i64 (L 0)) (.slice (some ⟨b, 0, none⟩) (n * L 0) (n * L 0)) 47)
      have x1 := (hb2.cell (by simp)).trans (box_cell1 w1 (.int .i64 n) (.int .i64 (L 0)) (.slice (some ⟨b, 0, none⟩) (n * L 0) (n * L 0)) 47)
      have x2 := (hb2.cell (by simp)).trans (box_cell2 w1 (.int .i64 n) (.int .i64 (L 0)) (.slice (some ⟨b, 0, none⟩) (n * L 0) (n * L 0)) 47)
      go_wp2_with fail
      refine (at_any _ _ _ _ _ _ _ _ (by omega) (by omega) (by omega) (by omega) rfl (rowIs_kept (HRow.out.alloc _) hb2)).mono ?_
      rintro e w3 ⟨rfl, hb3⟩
      rw [flat_at g (by omega)]
      go_wp2_with fail
      go_ret
      exact ⟨rfl, hB2.trans (hb3.mono hB2.size)⟩
    · rw [gridAtV_no (fun hh => h hh.2)]
      clear hv
      go_enter Try.func24, Try.ntmps24
      go_wp2_with fail
      refine (fieldOf_yes _ _ _ _ _ _ _ HG.out HV.out rfl).mono ?_
      rintro e w1 ⟨b, rfl, hlo, hrow, hb1⟩
      clear hrow
      go_wp2_with fail
      refine (has_any _ _ _ _ _ _ _ _ false (by show false = true ↔ _; simp; omega)).mono ?_
      rintro e w2 ⟨rfl, hb2⟩
      go_wp2_with fail
      go_ret
      exact ⟨rfl, (hb1.alloc hb1.size _).trans (hb2.mono (by have := hb1.size; simp; omega))⟩
  · rw [gridAtV_no (fun hh => hv hh.1)]
    have HV := Lib.hid hv
    clear hv
    go_enter Try.func24, Try.ntmps24
    go_wp2_with fail
    refine (fieldOf_no _ _ _ _ _ _ HG.out hn HL.out HV.out).mono ?_
    rintro e w1 ⟨rfl, hb1⟩
    go_wp2_with fail
    go_ret
    exact ⟨rfl, hb1.alloc hb1.size _⟩

end Go.Proofs.Ytigbmpmhhakklaa
