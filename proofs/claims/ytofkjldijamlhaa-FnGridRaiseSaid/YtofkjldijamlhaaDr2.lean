/- Draws with more than a grid. -/
import Derived.Test.YtofkjldijamlhaaLawH
import Derived.Test.YtofkjldijamlhaaLoose
namespace Go.Proofs.Ytofkjldijamlhaa
set_option linter.unusedVariables false
set_option linter.unusedSimpArgs false
open Go.RowKit

/-- The class of worlds of a draw: the reader further on, all else that was there as it was. -/
def Drs (Br : Nat) (A : Option Addr) (m c : Nat) (z : Nat → Int) (p : Int) (w : World) (k : Nat) (w' : World) : Prop := ∃ p', Rdr w' Br A m c z p' ∧ p' ≤ p + k ∧ But Br w w' ∧ Br < w.heap.size
/-- A slice literal of numbers. -/
def Lit (Br n : Nat) (T : Nat → Int) (v : Value) (w : World) : Prop := ∃ b, v = .slice (some ⟨b, 0, none⟩) n n ∧ Br < b ∧ b < w.heap.size ∧ ∀ j, j < n → w.cell? ⟨b, j, none⟩ = some (.int .i64 (T j))
def LitAt (Br n : Nat) (T : Nat → Int) (v : Value) (w : World) : Prop := ∃ b y, v = .pointer (some ⟨b, y, none⟩) ∧ y < n ∧ Br < b ∧ b < w.heap.size ∧ w.cell? ⟨b, y, none⟩ = some (.int .i64 (T y))
def Upto (n : Nat) (v : Value) : Prop := ∃ y : Nat, v = .int .i64 (y : Int) ∧ y < n
def InT (n : Nat) (T : Nat → Int) (v : Value) : Prop := ∃ y, y < n ∧ v = .int .i64 (T y)

theorem block_lt_heap {w : World} {b : Nat} {o : Obj} (h : w.heap[b]? = some o) : b < w.heap.size := by
  rcases Nat.lt_or_ge b w.heap.size with h' | h'
  · exact h'
  · rw [Array.getElem?_eq_none h'] at h; cases h
theorem Drs.start {Br : Nat} {A : Option Addr} {m c : Nat} {z : Nat → Int} {p : Int} {w : World} (H : Rdr w Br A m c z p) : Drs Br A m c z p w 0 w.drew :=
  ⟨p, H.drew, by omega, ⟨rfl, rfl, rfl, Nat.le_refl _, fun _ _ _ => rfl⟩, block_lt_heap H.blk⟩
theorem Drs.same {Br : Nat} {A : Option Addr} {m c : Nat} {z : Nat → Int} {p : Int} {w w' : World} {k : Nat} (H : Drs Br A m c z p w k w') : Drs Br A m c z p w (k + 1) w' := by
  obtain ⟨p', h1, h2, h3, h4⟩ := H
  exact ⟨p', h1, by omega, h3, h4⟩
theorem Drs.made {Br : Nat} {A : Option Addr} {m c : Nat} {z : Nat → Int} {p : Int} {w w' : World} {k : Nat} (H : Drs Br A m c z p w k w') (b : Obj) : Drs Br A m c z p w (k + 1) (w'.alloc b) ∧ But Br w' (w'.alloc b) := by
  obtain ⟨p', h1, h2, h3, h4⟩ := H
  have hb := But.of_below (Br := Br) (below_alloc w' b)
  exact ⟨⟨p', h1.but (below_alloc w' b), by omega, h3.trans hb, h4⟩, hb⟩
theorem Drs.pick {Br : Nat} {A : Option Addr} {m c : Nat} {z : Nat → Int} {p : Int} {w w' w'' : World} {k : Nat} (H : Drs Br A m c z p w k w') {p' : Int} (h1 : Rdr w'' Br A m c z (p' + 1)) (h2 : p' ≤ p + k) (h3 : But Br w' w'') : Drs Br A m c z p w (k + 1) w'' := by
  obtain ⟨_, _, _, h5, h4⟩ := H
  exact ⟨p' + 1, h1, by omega, h5.trans h3, h4⟩
theorem Lit.mono {Br n : Nat} {T : Nat → Int} {v : Value} {w w' : World} (h : Lit Br n T v w) (hb : But Br w w') : Lit Br n T v w' := by
  obtain ⟨b, h1, h2, h3, h4⟩ := h
  exact ⟨b, h1, h2, by have := hb.size; omega, fun j hj => (World.cell?_of_block (hb.block b h3 (by omega))).trans (h4 j hj)⟩
theorem LitAt.mono {Br n : Nat} {T : Nat → Int} {v : Value} {w w' : World} (h : LitAt Br n T v w) (hb : But Br w w') : LitAt Br n T v w' := by
  obtain ⟨b, y, h1, hy, h2, h3, h4⟩ := h
  exact ⟨b, y, h1, hy, h2, by have := hb.size; omega, (World.cell?_of_block (hb.block b h3 (by omega))).trans h4⟩

def T3r : Nat → Int
  | 0 => 9223372036854775807
  | 1 => -9223372036854775808
  | _ => 99
def RetDI (w : World) (e : Ending) (w' : World) : Prop :=
  ∃ A n c L g x, e = .returned (.tuple #[.slice A n c, .int .i64 x]) ∧ -9223372036854775808 ≤ x ∧ x ≤ 9223372036854775807 ∧ 1 ≤ n ∧ n ≤ 9 ∧ (∀ r, r < n → 1 ≤ L r ∧ L r ≤ 10) ∧ GridF w' A n L g ∧ Below w.heap.size w w'

set_option maxHeartbeats 800000 in
set_option maxRecDepth 100000 in
theorem drawGridRaise_any (A : Option Addr) (m c : Nat) (z : Nat → Int) (w : World) (h : RowB w A m z) (hm : m ≤ 9223372036854775807) (hmc : m ≤ c) :
    Calls Try.prog 17 #[.slice A m c] w (RetDI w) := by
  have HR := Lib.hid h
  clear h
  go_enter Try.func17, Try.ntmps17
  go_wp2_with fail
  refine (l6Open_any _ _ _ _ _ HR.out hm hmc).mono ?_
  rintro e w1 ⟨m', c', rfl, hrd, hs1, hb1⟩
  have HRd := Lib.hid hrd
  have HS1 := Lib.hid hs1
  clear hrd hs1
  go_wp2_with fail
  refine (l91Grid_any _ _ _ _ _ _ _ HRd.out (by omega)).mono ?_
  rintro e w2 ⟨v, n, L, g, p', rfl, hn1, hn2, hgo, hL, hrd, hp', hb2⟩
  have HRd2 := Lib.hid hrd
  have HGo := Lib.hid hgo
  obtain ⟨Av, cv, rfl, _, hgrid⟩ := hgo.grid
  have HLL := Lib.hid hL
  clear hgo hL hgrid hrd
  go_wp2_with fail
  refine (pick_any _ _ _ _ _ _ _ _ HRd2.out (by omega) (by omega) (by omega)).mono ?_
  rintro e w3 ⟨x3, rfl, hx0, hx1, hrd, hb3⟩
  have HRd3 := Lib.hid hrd
  clear hrd
  have hb23 := hb2.trans hb3
  have fin : ∀ (x : Int) (w' : World), -9223372036854775808 ≤ x → x ≤ 9223372036854775807 → But w.heap.size w3 w' → RetDI w (.returned (.tuple #[.slice Av n cv, .int .i64 x])) w' := fun x w' h1 h2 hb => by
    have hbb := hb23.trans hb
    have hG := (HGo.out.of_but hb3 (by have := HS1.out; omega)).of_but hb (by have := HS1.out; omega)
    obtain ⟨Av', cv', he, _, hg⟩ := hG.grid
    injection he with he1 _ he2
    subst he1 he2
    exact ⟨Av, n, cv, L, g, x, rfl, h1, h2, hn1, hn2, HLL.out, hg, hb1.trans (hbb.below hb1.size (Nat.le_refl _))⟩
  go_wp2_with fail
  · refine wp_region_phi (N := 8) (C := Drs w.heap.size A m' c' z (p' + 1) w3) (R := But w.heap.size) (φ := fun j v w4 => ([fun v _ => v = .slice Av n cv, Lit w.heap.size 3 T3r, fun v _ => v = .pointer (some ⟨w.heap.size, 0, none⟩), fun v _ => Upto 3 v, LitAt w.heap.size 3 T3r, fun v _ => InT 3 T3r v, fun v _ => v = .slice Av n cv, fun v _ => InT 3 T3r v] : List (Value → World → Prop)).getD j (fun _ _ => True) v w4) (by kernel_rfl) (by kernel_rfl) (by kernel_rfl) ?_ (Drs.start HRd3.out) ?_ ?_
    · intro j v w4 w5 hb hv
      match j with
      | 1 => exact Lit.mono hv hb
      | 4 => exact LitAt.mono hv hb
      | 0 | 2 | 3 | 5 | 6 | 7 => exact hv
      | j + 8 => exact hv
    · refine ⟨?_, ?_, ?_, ?_, ?_, ?_, ?_, ?_, trivial⟩
      · intro k w4 hC hk
        refine givenD_go (ds' := []) (by kernel_rfl) ?_
        simp only [givenD, List.getD_cons_zero, List.getD_cons_succ]
        go_wp2_with fail
        refine ⟨rfl, rfl, hC.same, But.refl _ _, ?_⟩
        rfl
      · intro k w4 hC hk
        refine givenD_go (ds' := []) (by kernel_rfl) ?_
        simp only [givenD, List.getD_cons_zero, List.getD_cons_succ]
        go_wp2_with fail
        obtain ⟨hC1, hB1⟩ := hC.made (.cells #[.int .i64 9223372036854775807, .int .i64 (-9223372036854775808), .int .i64 99] 3)
        have hbr : w.heap.size < w4.heap.size := by obtain ⟨_, h1, _, _, _⟩ := hC; exact block_lt_heap h1.blk
        refine ⟨rfl, rfl, hC1, hB1, w4.heap.size, rfl, hbr, by simp, fun j hj => ?_⟩
        unfold World.cell?
        rw [heap_alloc_new]
        match j, hj with
        | 0, _ => rfl
        | 1, _ => rfl
        | 2, _ => rfl
      · intro k w4 hC hk
        refine givenD_go (ds' := []) (by kernel_rfl) ?_
        simp only [givenD, List.getD_cons_zero, List.getD_cons_succ]
        go_wp2_with fail
        refine ⟨rfl, rfl, hC.same, But.refl _ _, ?_⟩
        rfl
      · intro k w4 hC hk
        refine givenD_go (ds' := [(2, 15)]) (by kernel_rfl) ?_
        simp only [givenD, List.getD_cons_zero, List.getD_cons_succ]
        rintro _ rfl
        obtain ⟨p4, hr4, hp4, hb4, hl4⟩ := id hC
        go_wp2_with fail
        refine (pick_any _ _ _ _ _ _ _ _ hr4 (by omega) (by omega) (by omega)).mono ?_
        rintro e w5 ⟨x5, rfl, hx50, hx51, hrd5, hb5⟩
        obtain ⟨x5, rfl⟩ := Int.eq_ofNat_of_zero_le hx50
        go_wp2_with fail
        exact ⟨rfl, rfl, hC.pick hrd5 hp4 hb5, hb5, x5, rfl, by omega⟩
      · intro k w4 hC hk
        refine givenD_go (ds' := [(1, 14), (3, 16)]) (by kernel_rfl) ?_
        simp only [givenD, List.getD_cons_zero, List.getD_cons_succ]
        rintro _ ⟨b, rfl, hb, hbl, hcs⟩
        rintro _ ⟨y, rfl, hy⟩
        go_wp2_with fail
        refine ⟨rfl, rfl, hC.same, But.refl _ _, ?_⟩
        exact ⟨b, y, rfl, hy, hb, hbl, hcs y hy⟩
      · intro k w4 hC hk
        refine givenD_go (ds' := [(4, 17)]) (by kernel_rfl) ?_
        simp only [givenD, List.getD_cons_zero, List.getD_cons_succ]
        rintro _ ⟨b, y, rfl, hy, hb, hbl, hcs⟩
        go_wp2_with fail
        refine ⟨rfl, rfl, hC.same, But.refl _ _, ?_⟩
        exact ⟨y, hy, rfl⟩
      · intro k w4 hC hk
        refine givenD_go (ds' := [(0, 13)]) (by kernel_rfl) ?_
        simp only [givenD, List.getD_cons_zero, List.getD_cons_succ]
        rintro _ rfl
        go_wp2_with fail
        refine ⟨rfl, rfl, hC.same, But.refl _ _, ?_⟩
        rfl
      · intro k w4 hC hk
        refine givenD_go (ds' := [(5, 18)]) (by kernel_rfl) ?_
        simp only [givenD, List.getD_cons_zero, List.getD_cons_succ]
        rintro _ ⟨y, hy, rfl⟩
        go_wp2_with fail
        refine ⟨rfl, rfl, hC.same, But.refl _ _, ?_⟩
        exact ⟨y, hy, rfl⟩
    · intro w4 hC
      simp only [givenAll, List.getD_cons_zero, List.getD_cons_succ]
      rintro _ rfl v1 h1 _ rfl v3 h3 v4 h4 v5 h5 _ rfl _ ⟨y, hy, rfl⟩
      obtain ⟨_, _, _, hb4, _⟩ := hC
      have q1 : -9223372036854775808 ≤ T3r y := by unfold T3r; split <;> omega
      have q2 : T3r y ≤ 9223372036854775807 := by unfold T3r; split <;> omega
      clear h1 h3 h4 h5
      generalize T3r y = x at q1 q2 ⊢
      have HF := Lib.hid (fin x w4 q1 q2 hb4)
      simp only [Act.put, List.setIfInBounds_toArray, List.set_cons_zero, List.set_cons_succ]
      go_wp2_with fail
      go_ret2
      exact HF.out
  · refine (pick_any _ _ _ _ _ _ _ _ HRd3.out (by omega) (by omega) (by omega)).mono ?_
    rintro e w4 ⟨x4, rfl, hx40, hx41, hrd4, hb4⟩
    have HF := Lib.hid (fin (x4 - 3) w4 (by omega) (by omega) hb4)
    go_wp2_with fail
    go_ret2
    exact HF.out

end Go.Proofs.Ytofkjldijamlhaa
