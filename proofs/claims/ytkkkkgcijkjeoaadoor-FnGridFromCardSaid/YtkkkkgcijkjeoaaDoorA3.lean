import Derived.Test.YtkkkkgcijkjeoaaDoorA1
namespace Go.Proofs.YtkkkkgcijkjeoaaDoor
set_option linter.unusedVariables false
set_option linter.unusedSimpArgs false
open Go.RowKit

theorem l6In_any (n lo hi : Int) (w : World) (b : Bool) (hb : Hid (b = true ↔ lo ≤ n ∧ n ≤ hi)) :
    Calls Tryd.prog 41 #[.int .i64 n, .int .i64 lo, .int .i64 hi] w (RetP (.bool b) w) := by
  go_enter Tryd.func41, Tryd.ntmps41
  go_wp2
  all_goals go_ret
  all_goals exact ⟨ret_bool (by have := hb.out; cases b <;> simp at this ⊢ <;> omega), rfl⟩
theorem l6In_yes (n lo hi : Int) (w : World) (h1 : lo ≤ n) (h2 : n ≤ hi) :
    Calls Tryd.prog 41 #[.int .i64 n, .int .i64 lo, .int .i64 hi] w (RetP (.bool true) w) := l6In_any n lo hi w true (by show true = true ↔ _; simp; omega)
theorem l6In_no (n lo hi : Int) (w : World) (h : ¬ (lo ≤ n ∧ n ≤ hi)) :
    Calls Tryd.prog 41 #[.int .i64 n, .int .i64 lo, .int .i64 hi] w (RetP (.bool false) w) := l6In_any n lo hi w false (by show false = true ↔ _; simp; omega)

def RelVO (w : World) (n : Nat) (L : Nat → Nat) (g : Nat → Nat → Int) (i : Value) (wr : World) : Prop :=
  ∃ k : Nat, k ≤ n ∧ i = .int .i64 k ∧ (∀ r, r < k → L r = L 0 ∧ ∀ c, c < L 0 → 0 ≤ g r c ∧ g r c ≤ 99) ∧ Below w.heap.size w wr
def RelVI (w : World) (m : Nat) (f : Nat → Int) (i : Value) (wr : World) : Prop :=
  ∃ k : Nat, k ≤ m ∧ i = .int .i64 k ∧ (∀ c, c < k → 0 ≤ f c ∧ f c ≤ 99) ∧ Below w.heap.size w wr

theorem specValid_any (A : Option Addr) (n c : Nat) (L : Nat → Nat) (g : Nat → Nat → Int) (w : World) (hg : GridF w A n L g) (hn : n ≤ 1048576) (hL : ∀ r, r < n → L r ≤ 1048576) (b : Bool) (hb : Hid (b = true ↔ Valid n L g)) :
    Calls Tryd.prog 24 #[.slice A n c] w (RetV (.bool b) w) := by
  have HG := Lib.hid hg
  have HL := Lib.hid hL
  clear hg hL
  by_cases h1 : 1 ≤ n ∧ n ≤ 7
  · obtain ⟨h1a, h1b⟩ := h1
    obtain ⟨B, o, A0, c0, rfl, hc0, _, hr0⟩ := HG.out 0 (by omega)
    have HR0 := Lib.hid hr0
    clear hr0
    rw [Nat.add_zero] at hc0
    by_cases h2 : 1 ≤ L 0 ∧ L 0 ≤ 7
    · obtain ⟨h2a, h2b⟩ := h2
      go_enter Tryd.func24, Tryd.ntmps24
      go_wp2_with (go_at_call 41; refine (l6In_yes _ _ _ _ (by omega) (by omega)).mono ?_; rintro e w' ⟨rfl, rfl⟩)
      go_loopw [3] (RelVO w n L g) (fun i _ => n - (intOf i).toNat)
      case atStart => exact ⟨0, Nat.zero_le _, rfl, fun r hr => by omega, Below.refl _ _⟩
      case round =>
        obtain ⟨k, hk, rfl, hdone, hbel⟩ := hrel
        have HD := Lib.hid hdone
        clear hdone
        by_cases hlt : k < n
        · obtain ⟨B', o', A1, c1, hBB, hc1, _, hr1⟩ := (GridF.below HG.out hbel) k hlt
          injection hBB with hBB
          injection hBB with hB1 hB2
          subst hB1 hB2
          have hc0' := (hbel.cell (World.block_lt_of_cell? w _ hc0)).trans hc0
          have HR1 := Lib.hid hr1
          clear hr1
          by_cases hlen : L k = L 0
          · rw [hlen] at hc1 HR1
            go_wp2
            go_quiet (fail)
            go_wp2
            obtain ⟨wo, hwo⟩ : ∃ wo : World, wo = wr.drewN nq := ⟨_, rfl⟩
            rw [← hwo]
            have hbo : Below w.heap.size w wo := by rw [hwo]; exact below_drewN hbel _
            have hc1o : wo.cell? ⟨B, o + k, none⟩ = some (.slice A1 (L 0) c1) := by rw [hwo]; exact hc1
            have HRo : Hid (RowF wo A1 (L 0) (g k)) := by rw [hwo]; exact HR1
            have hbo1 : Below wo.heap.size wo wo := Below.refl _ _
            clear hc0' hc1 hbel hwo HR1
            go_loopw [4] (RelVI wo (L 0) (g k)) (fun i _ => L 0 - (intOf i).toNat)
            case atStart => exact ⟨0, Nat.zero_le _, rfl, fun r hr => by omega, Below.refl _ _⟩
            case round =>
              obtain ⟨j, hj, rfl, hd2, hbel2⟩ := hrel
              have HD2 := Lib.hid hd2
              clear hd2
              have hc2 := (hbel2.cell (World.block_lt_of_cell? wo _ hc1o)).trans hc1o
              by_cases hlt2 : j < L 0
              · obtain ⟨B2, o2, rfl, hc3⟩ := (RowF.below HRo.out hbel2) j hlt2
                by_cases hok : 0 ≤ g k j ∧ g k j ≤ 99
                · go_wp2_with (go_at_call 41; refine (l6In_yes _ _ _ _ hok.1 hok.2).mono ?_; rintro e w' ⟨rfl, rfl⟩)
                  go_roundw
                  case rel =>
                    refine ⟨j + 1, by omega, by go_num, fun r hr => ?_, hbel2⟩
                    by_cases e : r = j
                    · subst e; exact hok
                    · exact HD2.out r (by omega)
                  case measure => simp [intOf]; omega
                · go_wp2_with (go_at_call 41; refine (l6In_no _ _ _ _ hok).mono ?_; rintro e w' ⟨rfl, rfl⟩)
                  go_ret
                  refine ⟨ret_bool ?_, hbo.trans (hbel2.mono hbo.size)⟩
                  have := hb.out
                  cases b
                  · rfl
                  · exact absurd ((this.1 rfl).2.2.2.2 k hlt).2 (fun h => hok (h j hlt2))
              · have hj2 : j = L 0 := by omega
                go_wp2
                go_roundw
                case rel =>
                  refine ⟨k + 1, by omega, by go_num, fun r hr => ?_, hbo.trans (hbel2.mono hbo.size)⟩
                  by_cases e : r = k
                  · subst e; exact ⟨hlen, fun c hc => HD2.out c (by omega)⟩
                  · exact HD.out r (by omega)
                case measure => simp [intOf]; omega
          · have hne : ((L k : Nat) : Int) ≠ ((L 0 : Nat) : Int) := by omega
            have hne' : (((L k : Nat) : Int) != ((L 0 : Nat) : Int)) = true := by rw [bne_iff_ne]; exact hne
            go_wp2
            go_quiet (fail)
            go_wp2
            go_ret
            refine ⟨ret_bool ?_, below_drewN hbel _⟩
            have := hb.out
            cases b
            · rfl
            · exact absurd ((this.1 rfl).2.2.2.2 k hlt).1 hlen
        · have : k = n := by omega
          subst this
          go_wp2
          go_ret
          refine ⟨ret_bool ?_, hbel⟩
          have := hb.out
          cases b
          · exact (this.2 ⟨h1a, h1b, h2a, h2b, HD.out⟩).symm
          · rfl
    · go_enter Tryd.func24, Tryd.ntmps24
      go_wp2_with (go_at_call 41; first | (refine (l6In_yes _ _ _ _ (by omega) (by omega)).mono ?_; rintro e w' ⟨rfl, rfl⟩) | (refine (l6In_no _ _ _ _ (by omega)).mono ?_; rintro e w' ⟨rfl, rfl⟩))
      go_ret
      exact ⟨ret_bool (by have := hb.out; cases b <;> simp [Valid] at this ⊢; omega), Below.refl _ _⟩
  · go_enter Tryd.func24, Tryd.ntmps24
    go_wp2_with (go_at_call 41; refine (l6In_no _ _ _ _ (by omega)).mono ?_; rintro e w' ⟨rfl, rfl⟩)
    go_ret
    exact ⟨ret_bool (by have := hb.out; cases b <;> simp [Valid] at this ⊢; omega), Below.refl _ _⟩

end Go.Proofs.YtkkkkgcijkjeoaaDoor
