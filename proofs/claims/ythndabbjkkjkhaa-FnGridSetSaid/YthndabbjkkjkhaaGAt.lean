/- The program's GridAt, where the reference's is not reached. -/
import Derived.Test.YthndabbjkkjkhaaA4
namespace Go.Proofs.Ythndabbjkkjkhaa
set_option linter.unusedVariables false
set_option linter.unusedSimpArgs false
open Go.RowKit

theorem implAt_any (A : Option Addr) (n cp : Nat) (L : Nat → Nat) (g : Nat → Nat → Int) (r c : Int) (w : World) (hg : GridF w A n L g) (hn : n ≤ 1048576) (hL : ∀ r, r < n → L r ≤ 1048576) (_hr1 : -9223372036854775808 ≤ r) (_hr2 : r ≤ 9223372036854775807) (_hc1 : -9223372036854775808 ≤ c) (_hc2 : c ≤ 9223372036854775807) :
    Calls Try.prog 20 #[.slice A n cp, .int .i64 r, .int .i64 c] w (RetV (.int .i64 (gridAtV n L g r c)) w) := by
  have HG := Lib.hid hg
  have HL := Lib.hid hL
  clear hg hL
  by_cases hv : Valid n L g
  · have HV := Lib.hid hv
    have hn1 := hv.1
    have hn2 := hv.2.1
    have hl1 := hv.2.2.1
    have hl2 := hv.2.2.2.1
    by_cases h : 0 ≤ r ∧ r < n ∧ 0 ≤ c ∧ c < L 0
    · rw [gridAtV_yes ⟨hv, h⟩]
      clear hv
      obtain ⟨h1, h2, h3, h4⟩ := h
      obtain ⟨r, rfl⟩ := Int.eq_ofNat_of_zero_le h1
      obtain ⟨c, rfl⟩ := Int.eq_ofNat_of_zero_le h3
      simp only [Int.toNat_natCast]
      go_enter Try.func20, Try.ntmps20
      go_wp2_with fail
      refine (fieldOf_yes _ _ _ _ _ _ _ HG.out HV.out rfl).mono ?_
      rintro e w1 ⟨b, rfl, hlo, hrow, hb1⟩
      have HRow := Lib.hid hrow
      clear hrow
      go_wp2_with fail
      refine (has_any _ _ _ _ _ _ _ _ true (by show true = true ↔ _; simp; omega)).mono ?_
      rintro e w2 ⟨rfl, hb2⟩
      have hB2 : Below w.heap.size w w2 := (hb1.alloc hb1.size _).trans (hb2.mono (by have := hb1.size; simp; omega))
      have x0 := (hb2.cell (by simp)).trans (box_cell0 w1 (.int .i64 n) (.int .i64 (L 0)) (.slice (some ⟨b, 0, none⟩) (n * L 0) (n * L 0)) 59)
      have x1 := (hb2.cell (by simp)).trans (box_cell1 w1 (.int .i64 n) (.int .i64 (L 0)) (.slice (some ⟨b, 0, none⟩) (n * L 0) (n * L 0)) 59)
      have x2 := (hb2.cell (by simp)).trans (box_cell2 w1 (.int .i64 n) (.int .i64 (L 0)) (.slice (some ⟨b, 0, none⟩) (n * L 0) (n * L 0)) 59)
      go_wp2_with fail
      refine (at_any _ _ _ _ _ _ _ _ (by omega) (by omega) (by omega) (by omega) rfl (rowIs_kept (HRow.out.alloc _) hb2)).mono ?_
      rintro e w3 ⟨rfl, hb3⟩
      rw [flat_at g (by omega)]
      go_wp2_with fail
      go_ret
      exact ⟨rfl, hB2.trans (hb3.mono hB2.size)⟩
    · rw [gridAtV_no (fun hh => h hh.2)]
      clear hv
      go_enter Try.func20, Try.ntmps20
      go_wp2_with fail
      refine (fieldOf_yes _ _ _ _ _ _ _ HG.out HV.out rfl).mono ?_
      rintro e w1 ⟨b, rfl, hlo, hrow, hb1⟩
      clear hrow
      go_wp2_with fail
      refine (has_any _ _ _ _ _ _ _ _ false (by show false = true ↔ _; simp; omega)).mono ?_
      rintro e w2 ⟨rfl, hb2⟩
      go_wp2_with fail
      go_ret
      exact ⟨rfl, (hb1.alloc hb1.size _).trans (hb2.mono (by have := hb1.size; simp; omega))⟩
  · rw [gridAtV_no (fun hh => hv hh.1)]
    have HV := Lib.hid hv
    clear hv
    go_enter Try.func20, Try.ntmps20
    go_wp2_with fail
    refine (fieldOf_no _ _ _ _ _ _ HG.out hn HL.out HV.out).mono ?_
    rintro e w1 ⟨rfl, hb1⟩
    go_wp2_with fail
    go_ret
    exact ⟨rfl, hb1.alloc hb1.size _⟩

end Go.Proofs.Ythndabbjkkjkhaa
