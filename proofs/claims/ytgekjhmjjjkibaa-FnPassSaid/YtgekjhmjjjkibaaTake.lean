/- The first step is taken from the program's heap. -/
import Derived.Test.YtgekjhmjjjkibaaPut
namespace Go.Proofs.Ytgekjhmjjjkibaa
set_option linter.unusedVariables false
set_option linter.unusedSimpArgs false
open Go.RowKit

/-- The step is no longer in the heap. -/
def RetTake (w : World) (Bp lo : Nat) (v : Value) (n : Nat) (c : Nat → Nat) (p : Nat → Int) (e : Ending) (w' : World) : Prop :=
  e = .returned (.agg #[.int .i64 (c 0 : Nat), .int .i64 (p 0)]) ∧ ∃ v' c' p', Pile w' Bp lo v' n c' p' ∧ HpOk p' n ∧ (∀ a b, Has (n + 1) c p a b → Has n c' p' a b ∨ (a = c 0 ∧ b = p 0)) ∧ (∀ a b, Has n c' p' a b → Has (n + 1) c p a b) ∧ PGrew w w' Bp v v'

theorem hpDn_take {p : Nat → Int} {n : Nat} (h : HpOk p (n + 1)) : HpDn (upd p 0 (p n)) n 0 :=
  ⟨fun k h0 hk hne => by
    rw [upd_ne _ _ (show k ≠ 0 by omega), upd_ne _ _ hne]
    exact h k h0 (by omega), fun k _ _ _ h0 => absurd h0 (by omega)⟩
theorem has_take1 {n : Nat} {c : Nat → Nat} {p : Nat → Int} (x : Nat) (y : Int) (h : Has (n + 1) c p x y) : Has n (fun i => if i = 0 then c n else c i) (upd p 0 (p n)) x y ∨ (x = c 0 ∧ y = p 0) := by
  obtain ⟨k, hk, e1, e2⟩ := h
  by_cases h0 : k = 0
  · subst h0; exact .inr ⟨e1.symm, e2.symm⟩
  · by_cases hn : k = n
    · subst hn
      exact .inl ⟨0, by omega, by simpa using e1, by rw [upd_at]; exact e2⟩
    · exact .inl ⟨k, by omega, by simp only [if_neg h0]; exact e1, by rw [upd_ne _ _ h0]; exact e2⟩
theorem has_take2 {n : Nat} {c : Nat → Nat} {p : Nat → Int} (x : Nat) (y : Int) (h : Has n (fun i => if i = 0 then c n else c i) (upd p 0 (p n)) x y) : Has (n + 1) c p x y := by
  obtain ⟨k, hk, e1, e2⟩ := h
  by_cases h0 : k = 0
  · subst h0
    simp only [if_true] at e1
    rw [upd_at] at e2
    exact ⟨n, by omega, e1, e2⟩
  · simp only [if_neg h0] at e1
    rw [upd_ne _ _ h0] at e2
    exact ⟨k, by omega, e1, e2⟩
theorem two_cells {w : World} {r : Nat} {a b x y : Value} {t : TypeId} {fr : Nat × Nat} (h : w.heap[r]? = some (.cells #[a, b] t fr)) : ((w.setCell ⟨r, 0, none⟩ x).setCell ⟨r, 1, none⟩ y).heap[r]? = some (.cells #[x, y] t fr) := by
  simp only [World.setCell, Array.getElem?_modify, if_true, h]
  rfl
theorem far2 {w : World} {r b i j : Nat} {o : Option Obj} {x y : Value} (hr : r ≠ b) (h : w.heap[r]? = o) : ((w.setCell ⟨b, i, none⟩ x).setCell ⟨b, j, none⟩ y).drew.heap[r]? = o := by
  show ((w.setCell ⟨b, i, none⟩ x).setCell ⟨b, j, none⟩ y).heap[r]? = o
  rw [Below.heap_setCell _ _ _ _ hr, Below.heap_setCell _ _ _ _ hr, h]
theorem far4 {w : World} {r b Bp i j k l : Nat} {o : Option Obj} {x y z u : Value} (hr : r ≠ b ∧ r ≠ Bp) (h : w.heap[r]? = o) : ((((w.setCell ⟨b, i, none⟩ x).setCell ⟨b, j, none⟩ y).setCell ⟨b, k, none⟩ z).setCell ⟨b, l, none⟩ u).drew.heap[r]? = o := by
  show ((((w.setCell ⟨b, i, none⟩ x).setCell ⟨b, j, none⟩ y).setCell ⟨b, k, none⟩ z).setCell ⟨b, l, none⟩ u).heap[r]? = o
  rw [Below.heap_setCell _ _ _ _ hr.1, Below.heap_setCell _ _ _ _ hr.1, Below.heap_setCell _ _ _ _ hr.1, Below.heap_setCell _ _ _ _ hr.1, h]

set_option maxHeartbeats 1500000 in
set_option maxRecDepth 100000 in
theorem take_any (w : World) (Bp lo : Nat) (v : Value) (n : Nat) (c : Nat → Nat) (p : Nat → Int) (hP : Pile w Bp lo v (n + 1) c p) (hok : HpOk p (n + 1)) (hn : n ≤ 1000000) :
    Calls Try.prog 93 #[.pointer (some ⟨Bp, 0, none⟩)] w (RetTake w Bp lo v n c p) := by
  obtain ⟨b, d, cur, rfl, hlob, hcb, hnd, hcs, hat⟩ := hP.row.cells (by omega)
  have hbw := lt_of_blk hcb
  have hBw := lt_of_blk hP.box
  have hBb : Bp ≠ b := by have := hP.lt.1; omega
  have x1 := cell_of_blk (i := 1) hP.box rfl
  have x2 := cell_of_blk hcb (hat 0 (by omega)).1
  have x3 := cell_of_blk hcb (hat 0 (by omega)).2
  have x4 := cell_of_blk hcb (hat n (by omega)).1
  have x5 := cell_of_blk hcb (hat n (by omega)).2
  have HP := Lib.hid hP
  have HO := Lib.hid hok
  clear hP hok hat
  obtain ⟨W3, hW3⟩ : ∃ W, W = (w.alloc (.cells #[.int .i64 0, .int .i64 0] 77)).alloc (.cells #[.int .i64 (c 0 : Nat), .int .i64 (p 0)] 77) := ⟨_, rfl⟩
  have hb3 : Below w.heap.size w W3 := by rw [hW3]; exact (below_alloc _ _).alloc (by simp) _
  obtain ⟨r2, hr2⟩ : ∃ r, r = w.heap.size := ⟨_, rfl⟩
  obtain ⟨r3, hr3⟩ : ∃ r, r = w.heap.size + 1 := ⟨_, rfl⟩
  have HR2 : Hid (W3.heap[r2]? = some (.cells #[.int .i64 0, .int .i64 0] 77 (0, 0))) := by
    show _ = _
    rw [hW3, hr2]
    exact (Below.heap_alloc _ _ _ (by simp)).trans (heap_alloc_new w _)
  have HR3 : Hid (W3.heap[r3]? = some (.cells #[.int .i64 (c 0 : Nat), .int .i64 (p 0)] 77 (0, 0))) := by
    show _ = _
    rw [hW3, hr3]
    exact (congrArg _ (by simp)).trans (heap_alloc_new _ _)
  have HP3 := Lib.hid (HP.out.below hb3)
  have HG3 : Hid (PGrew w W3 Bp (.slice (some ⟨b, 0, none⟩) (n + 1) d) (.slice (some ⟨b, 0, none⟩) (n + 1) d)) := PGrew.of_below hb3
  have HW3 := Lib.hid hW3
  have HQ2 := Lib.hid hr2
  have HQ3 := Lib.hid hr3
  clear hW3 hr2 hr3
  go_enter Try.func93, Try.ntmps93
  go_upto_region 3 with (fail)
  rw [← HW3.out, ← HQ3.out, ← HQ2.out]
  have hr2 : r2 ≠ b ∧ r2 ≠ Bp := by have := HQ2.out; omega
  have hr3 : r3 ≠ b ∧ r3 ≠ Bp := by have := HQ3.out; omega
  have y1 := (hb3.cell (World.block_lt_of_cell? w _ x1)).trans x1
  have y2 := (hb3.cell (World.block_lt_of_cell? w _ x2)).trans x2
  have y3 := (hb3.cell (World.block_lt_of_cell? w _ x3)).trans x3
  have y4 := (hb3.cell (World.block_lt_of_cell? w _ x4)).trans x4
  have y5 := (hb3.cell (World.block_lt_of_cell? w _ x5)).trans x5
  rw [Nat.zero_mul] at y2 y3
  have f0 : W3.frozen? ⟨b, 0, none⟩ = false := (hb3.frozen (p := ⟨b, 0, none⟩) hbw).trans (by simp [World.frozen?, hcb])
  have f1 : W3.frozen? ⟨b, 1, none⟩ = false := (hb3.frozen (p := ⟨b, 1, none⟩) hbw).trans (by simp [World.frozen?, hcb])
  have f2 : W3.frozen? ⟨Bp, 1, none⟩ = false := (hb3.frozen (p := ⟨Bp, 1, none⟩) hBw).trans (by simp [World.frozen?, HP.out.box])
  clear x1 x2 x3 x4 x5 HP hcb hcs
  go_region
  obtain ⟨W4, hW4⟩ : ∃ W, W = ((W3.setCell ⟨b, 0, none⟩ (.int .i64 (c n : Nat))).setCell ⟨b, 1, none⟩ (.int .i64 (p n))).drew := ⟨_, rfl⟩
  have HP4 : Hid (Pile W4 Bp lo (.slice (some ⟨b, 0, none⟩) (n + 1) d) (n + 1) (fun i => if i = 0 then c n else c i) (upd p 0 (p n))) := by rw [hW4]; exact (HP3.out.put (k := 0) (by omega) (c n) (p n)).drew
  have HR24 : Hid (W4.heap[r2]? = some (.cells #[.int .i64 0, .int .i64 0] 77 (0, 0))) := by show _ = _; rw [hW4]; exact far2 hr2.1 HR2.out
  have HR34 : Hid (W4.heap[r3]? = some (.cells #[.int .i64 (c 0 : Nat), .int .i64 (p 0)] 77 (0, 0))) := by show _ = _; rw [hW4]; exact far2 hr3.1 HR3.out
  have HG4 : Hid (PGrew w W4 Bp (.slice (some ⟨b, 0, none⟩) (n + 1) d) (.slice (some ⟨b, 0, none⟩) (n + 1) d)) := by rw [hW4]; exact (((HG3.out.store ⟨b, 0, none⟩ _ (.inr rfl)).store ⟨b, 1, none⟩ _ (.inr rfl)).drew :)
  rw [← hW4]
  obtain ⟨c1, hc1⟩ : ∃ c1, c1 = fun i => if i = 0 then c n else c i := ⟨_, rfl⟩
  obtain ⟨p1, hp1⟩ : ∃ p1, p1 = upd p 0 (p n) := ⟨_, rfl⟩
  have HD : Hid (HpDn p1 n 0) := by rw [hp1]; exact hpDn_take HO.out
  have HT1 : Hid (∀ x y, Has (n + 1) c p x y → Has n c1 p1 x y ∨ (x = c 0 ∧ y = p 0)) := by rw [hc1, hp1]; exact has_take1
  have HT2 : Hid (∀ x y, Has n c1 p1 x y → Has (n + 1) c p x y) := by rw [hc1, hp1]; exact has_take2
  rw [← hc1, ← hp1] at HP4
  clear hW4 hc1 hp1 y1 y2 y3 y4 y5 f0 f1 f2 HP3 HG3 HR2 HR3 HW3
  have z1 := cell_of_blk (i := 1) HP4.out.box rfl
  have z2 : W4.frozen? ⟨Bp, 1, none⟩ = false := by simp [World.frozen?, HP4.out.box]
  have hnd' : n ≤ d := by omega
  have hnd'' : (n : Int) ≤ (d : Int) := by omega
  have HP1 := Lib.hid HP4.out.pop
  have HR2 : Hid ((W4.setCell ⟨Bp, 1, none⟩ (.slice (some ⟨b, 0, none⟩) n d)).heap[r2]? = some (.cells #[.int .i64 0, .int .i64 0] 77 (0, 0))) := (Below.heap_setCell _ _ _ _ hr2.2).trans HR24.out
  have HR3 : Hid ((W4.setCell ⟨Bp, 1, none⟩ (.slice (some ⟨b, 0, none⟩) n d)).heap[r3]? = some (.cells #[.int .i64 (c 0 : Nat), .int .i64 (p 0)] 77 (0, 0))) := (Below.heap_setCell _ _ _ _ hr3.2).trans HR34.out
  have HG : Hid (PGrew w (W4.setCell ⟨Bp, 1, none⟩ (.slice (some ⟨b, 0, none⟩) n d)) Bp (.slice (some ⟨b, 0, none⟩) (n + 1) d) (.slice (some ⟨b, 0, none⟩) n d)) := (HG4.out.store _ _ (.inl rfl)).value rfl
  clear HP4 HG4 HR24 HR34
  go_wp2_with fail
  clear z1 z2
  generalize W4.setCell _ _ = W5 at *
  -- REST
  go_loopw [5] (fun i wr => ∃ (k : Nat) (c' : Nat → Nat) (p' : Nat → Int), (k < n ∨ k = 0) ∧ i = .int .i64 k ∧ Hid (Pile wr Bp lo (.slice (some ⟨b, 0, none⟩) n d) n c' p') ∧ Hid (HpDn p' n k) ∧ Hid (∀ a b, Has n c' p' a b ↔ Has n c1 p1 a b) ∧ Hid (wr.heap[r2]? = some (.cells #[.int .i64 0, .int .i64 0] 77 (0, 0))) ∧ Hid (wr.heap[r3]? = some (.cells #[.int .i64 (c 0 : Nat), .int .i64 (p 0)] 77 (0, 0))) ∧ Hid (PGrew w wr Bp (.slice (some ⟨b, 0, none⟩) (n + 1) d) (.slice (some ⟨b, 0, none⟩) n d))) (fun i _ => n - (intOf i).toNat)
  case atStart => exact ⟨0, c1, p1, .inr rfl, rfl, HP1.out, HD.out, fun _ _ => Iff.rfl, HR2.out, HR3.out, HG.out⟩
  case round =>
    clear HP1 HD HR2 HR3 HG
    obtain ⟨k, c', p', hk, rfl, HP1, HD, HS, HR2, HR3, HG⟩ := hrel
    have hkM : k ≤ 1000000 := by omega
    go_wp2_with fail
    obtain ⟨wo, hwo⟩ : ∃ wo : World, wo = wr := ⟨_, rfl⟩
    rw [← hwo] at HP1 HR2 HR3 HG ⊢
    clear hwo
    go_loopw [6, 7] (fun bv tv wr => ∃ (m t : Nat), 2 * k + 1 ≤ t ∧ t ≤ 2 * k + 3 ∧ bv = .int .i64 m ∧ tv = .int .i64 t ∧ (m = k ∨ (2 * k + 1 ≤ m ∧ m < t ∧ m < n)) ∧ Hid (∀ q, 2 * k + 1 ≤ q → q < t → q < n → p' q ≤ p' m) ∧ Hid (m ≠ k → p' k < p' m) ∧ Below wo.heap.size wo wr) (fun _ tv _ => 2 * k + 3 - (intOf tv).toNat)
    case atStart => exact ⟨k, 2 * k + 1, by omega, by omega, rfl, val_int (by omega), .inl rfl, fun q h1 h2 => by omega, fun h => absurd rfl h, Below.refl _ _⟩
    case round =>
      obtain ⟨m, t, ht1, ht2, rfl, rfl, hj, HM, HJ, hbi⟩ := hrel
      by_cases q1 : t ≤ 2 * k + 2
      · have d1 : decide ((t : Int) ≤ 2 * (k : Int) + 2) = true := decide_eq_true (by omega)
        by_cases q2 : t < n
        · have d2 : decide ((t : Int) < (n : Int)) = true := decide_eq_true (by omega)
          have hjn : m < n := by omega
          obtain ⟨b', d', cur', he, _, hcb', _, _, hat'⟩ := HP1.out.row.cells (by omega)
          injection he with he1 he2 he3
          injection he1 with he1
          injection he1 with he1
          subst he1 he3
          have HC0 : Hid (wr.cell? ⟨Bp, 0, none⟩ = some (.func (.func 91) #[] #[])) := (hbi.cell (lt_of_blk HP1.out.box)).trans (cell_of_blk (i := 0) HP1.out.box rfl)
          have HC1 : Hid (wr.cell? ⟨Bp, 1, none⟩ = some (.slice (some ⟨b, 0, none⟩) n d)) := (hbi.cell (lt_of_blk HP1.out.box)).trans (cell_of_blk (i := 1) HP1.out.box rfl)
          have HI0 : Hid (wr.cell? ⟨b, t * 2, none⟩ = some (.int .i64 (c' t : Nat))) := (hbi.cell (lt_of_blk hcb')).trans (cell_of_blk hcb' (hat' t q2).1)
          have HI1 : Hid (wr.cell? ⟨b, t * 2 + 1, none⟩ = some (.int .i64 (p' t))) := (hbi.cell (lt_of_blk hcb')).trans (cell_of_blk hcb' (hat' t q2).2)
          have HU0 : Hid (wr.cell? ⟨b, m * 2, none⟩ = some (.int .i64 (c' m : Nat))) := (hbi.cell (lt_of_blk hcb')).trans (cell_of_blk hcb' (hat' m hjn).1)
          have HU1 : Hid (wr.cell? ⟨b, m * 2 + 1, none⟩ = some (.int .i64 (p' m))) := (hbi.cell (lt_of_blk hcb')).trans (cell_of_blk hcb' (hat' m hjn).2)
          have HYes : Hid (p' m < p' t → (∀ q, 2 * k + 1 ≤ q → q < t + 1 → q < n → p' q ≤ p' t) ∧ p' k < p' t) := fun h => by
            refine ⟨fun q h1 h2 h3 => ?_, ?_⟩
            · by_cases e : q = t
              · rw [e]; exact Int.le_refl _
              · have := HM.out q h1 (by omega) h3; omega
            · by_cases e : m = k
              · rw [← e]; exact h
              · have := HJ.out e; omega
          have HNo : Hid (p' t ≤ p' m → ∀ q, 2 * k + 1 ≤ q → q < t + 1 → q < n → p' q ≤ p' m) := fun h q h1 h2 h3 => by
            by_cases e : q = t
            · rw [e]; exact h
            · exact HM.out q h1 (by omega) h3
          clear hat' hcb'
          go_wp2_with fail
          clear d1 d2
          refine wp_region_phi (N := 19) (C := fun _ w4 => Below wr.heap.size wr w4) (R := fun w4 w5 => Below w4.heap.size w4 w5) (φ := fun j v w4 => ([fun v _ => v = .pointer (some ⟨Bp, 0, none⟩), fun v _ => v = .pointer (some ⟨Bp, 0, none⟩), fun v _ => v = .pointer (some ⟨Bp, 0, none⟩), fun v _ => v = .func (.func 91) #[] #[], fun v _ => v = .pointer (some ⟨Bp, 0, none⟩), fun v _ => v = .pointer (some ⟨Bp, 0, none⟩), fun v _ => v = .pointer (some ⟨Bp, 1, none⟩), fun v _ => v = .slice (some ⟨b, 0, none⟩) n d, fun v _ => v = .int .i64 (t : Nat), fun v _ => v = .pointer (some ⟨b, t * 2, none⟩), fun v _ => v = .agg #[.int .i64 (c' t : Nat), .int .i64 (p' t)], fun v _ => v = .pointer (some ⟨Bp, 0, none⟩), fun v _ => v = .pointer (some ⟨Bp, 0, none⟩), fun v _ => v = .pointer (some ⟨Bp, 1, none⟩), fun v _ => v = .slice (some ⟨b, 0, none⟩) n d, fun v _ => v = .int .i64 (m : Nat), fun v _ => v = .pointer (some ⟨b, m * 2, none⟩), fun v _ => v = .agg #[.int .i64 (c' m : Nat), .int .i64 (p' m)], fun v _ => v = .bool (decide (p' m < p' t))] : List (Value → World → Prop)).getD j (fun _ _ => True) v w4) (by kernel_rfl) (by kernel_rfl) (by kernel_rfl) ?_ (Below.refl _ _).drew ?_ ?_
          · intro j v w4 w5 hb hv
            match j with
            | 0 | 1 | 2 | 3 | 4 | 5 | 6 | 7 | 8 | 9 | 10 | 11 | 12 | 13 | 14 | 15 | 16 | 17 | 18 => exact hv
            | j + 19 => exact hv
          · refine ⟨?_, ?_, ?_, ?_, ?_, ?_, ?_, ?_, ?_, ?_, ?_, ?_, ?_, ?_, ?_, ?_, ?_, ?_, ?_, trivial⟩
            · intro k9 w4 hC hk9
              refine givenD_go (ds' := []) (by kernel_rfl) ?_
              simp only [givenD, List.getD_cons_zero, List.getD_cons_succ]
              go_wp2_with fail
              exact ⟨rfl, rfl, hC, Below.refl _ _, rfl⟩
            · intro k9 w4 hC hk9
              refine givenD_go (ds' := [(0, 57)]) (by kernel_rfl) ?_
              simp only [givenD, List.getD_cons_zero, List.getD_cons_succ]
              rintro _ rfl
              simp only [Act.put, List.setIfInBounds_toArray, List.set_cons_zero, List.set_cons_succ]
              go_wp2_with fail
              exact ⟨rfl, rfl, hC, Below.refl _ _, rfl⟩
            · intro k9 w4 hC hk9
              refine givenD_go (ds' := [(1, 58)]) (by kernel_rfl) ?_
              simp only [givenD, List.getD_cons_zero, List.getD_cons_succ]
              rintro _ rfl
              simp only [Act.put, List.setIfInBounds_toArray, List.set_cons_zero, List.set_cons_succ]
              go_wp2_with fail
              exact ⟨rfl, rfl, hC, Below.refl _ _, rfl⟩
            · intro k9 w4 hC hk9
              refine givenD_go (ds' := [(2, 59)]) (by kernel_rfl) ?_
              simp only [givenD, List.getD_cons_zero, List.getD_cons_succ]
              rintro _ rfl
              simp only [Act.put, List.setIfInBounds_toArray, List.set_cons_zero, List.set_cons_succ]
              have hcx := (hC.cell (World.block_lt_of_cell? wr _ HC0.out)).trans HC0.out
              go_wp2_with fail
              exact ⟨rfl, rfl, hC, Below.refl _ _, rfl⟩
            · intro k9 w4 hC hk9
              refine givenD_go (ds' := []) (by kernel_rfl) ?_
              simp only [givenD, List.getD_cons_zero, List.getD_cons_succ]
              go_wp2_with fail
              exact ⟨rfl, rfl, hC, Below.refl _ _, rfl⟩
            · intro k9 w4 hC hk9
              refine givenD_go (ds' := [(4, 61)]) (by kernel_rfl) ?_
              simp only [givenD, List.getD_cons_zero, List.getD_cons_succ]
              rintro _ rfl
              simp only [Act.put, List.setIfInBounds_toArray, List.set_cons_zero, List.set_cons_succ]
              go_wp2_with fail
              exact ⟨rfl, rfl, hC, Below.refl _ _, rfl⟩
            · intro k9 w4 hC hk9
              refine givenD_go (ds' := [(5, 62)]) (by kernel_rfl) ?_
              simp only [givenD, List.getD_cons_zero, List.getD_cons_succ]
              rintro _ rfl
              simp only [Act.put, List.setIfInBounds_toArray, List.set_cons_zero, List.set_cons_succ]
              go_wp2_with fail
              exact ⟨rfl, rfl, hC, Below.refl _ _, rfl⟩
            · intro k9 w4 hC hk9
              refine givenD_go (ds' := [(6, 63)]) (by kernel_rfl) ?_
              simp only [givenD, List.getD_cons_zero, List.getD_cons_succ]
              rintro _ rfl
              simp only [Act.put, List.setIfInBounds_toArray, List.set_cons_zero, List.set_cons_succ]
              have hcx := (hC.cell (World.block_lt_of_cell? wr _ HC1.out)).trans HC1.out
              go_wp2_with fail
              exact ⟨rfl, rfl, hC, Below.refl _ _, rfl⟩
            · intro k9 w4 hC hk9
              refine givenD_go (ds' := []) (by kernel_rfl) ?_
              simp only [givenD, List.getD_cons_zero, List.getD_cons_succ]
              go_wp2_with fail
              exact ⟨rfl, rfl, hC, Below.refl _ _, rfl⟩
            · intro k9 w4 hC hk9
              refine givenD_go (ds' := [(7, 64), (8, 65)]) (by kernel_rfl) ?_
              simp only [givenD, List.getD_cons_zero, List.getD_cons_succ]
              rintro _ rfl
              rintro _ rfl
              simp only [Act.put, List.setIfInBounds_toArray, List.set_cons_zero, List.set_cons_succ]
              go_wp2_with fail
              exact ⟨rfl, rfl, hC, Below.refl _ _, rfl⟩
            · intro k9 w4 hC hk9
              refine givenD_go (ds' := [(9, 66)]) (by kernel_rfl) ?_
              simp only [givenD, List.getD_cons_zero, List.getD_cons_succ]
              rintro _ rfl
              simp only [Act.put, List.setIfInBounds_toArray, List.set_cons_zero, List.set_cons_succ]
              have hcx := (hC.cell (World.block_lt_of_cell? wr _ HI0.out)).trans HI0.out
              have hcy := (hC.cell (World.block_lt_of_cell? wr _ HI1.out)).trans HI1.out
              go_wp2_with fail
              exact ⟨rfl, rfl, hC, Below.refl _ _, rfl⟩
            · intro k9 w4 hC hk9
              refine givenD_go (ds' := []) (by kernel_rfl) ?_
              simp only [givenD, List.getD_cons_zero, List.getD_cons_succ]
              go_wp2_with fail
              exact ⟨rfl, rfl, hC, Below.refl _ _, rfl⟩
            · intro k9 w4 hC hk9
              refine givenD_go (ds' := [(11, 68)]) (by kernel_rfl) ?_
              simp only [givenD, List.getD_cons_zero, List.getD_cons_succ]
              rintro _ rfl
              simp only [Act.put, List.setIfInBounds_toArray, List.set_cons_zero, List.set_cons_succ]
              go_wp2_with fail
              exact ⟨rfl, rfl, hC, Below.refl _ _, rfl⟩
            · intro k9 w4 hC hk9
              refine givenD_go (ds' := [(12, 69)]) (by kernel_rfl) ?_
              simp only [givenD, List.getD_cons_zero, List.getD_cons_succ]
              rintro _ rfl
              simp only [Act.put, List.setIfInBounds_toArray, List.set_cons_zero, List.set_cons_succ]
              go_wp2_with fail
              exact ⟨rfl, rfl, hC, Below.refl _ _, rfl⟩
            · intro k9 w4 hC hk9
              refine givenD_go (ds' := [(13, 70)]) (by kernel_rfl) ?_
              simp only [givenD, List.getD_cons_zero, List.getD_cons_succ]
              rintro _ rfl
              simp only [Act.put, List.setIfInBounds_toArray, List.set_cons_zero, List.set_cons_succ]
              have hcx := (hC.cell (World.block_lt_of_cell? wr _ HC1.out)).trans HC1.out
              go_wp2_with fail
              exact ⟨rfl, rfl, hC, Below.refl _ _, rfl⟩
            · intro k9 w4 hC hk9
              refine givenD_go (ds' := []) (by kernel_rfl) ?_
              simp only [givenD, List.getD_cons_zero, List.getD_cons_succ]
              go_wp2_with fail
              exact ⟨rfl, rfl, hC, Below.refl _ _, rfl⟩
            · intro k9 w4 hC hk9
              refine givenD_go (ds' := [(14, 71), (15, 72)]) (by kernel_rfl) ?_
              simp only [givenD, List.getD_cons_zero, List.getD_cons_succ]
              rintro _ rfl
              rintro _ rfl
              simp only [Act.put, List.setIfInBounds_toArray, List.set_cons_zero, List.set_cons_succ]
              go_wp2_with fail
              exact ⟨rfl, rfl, hC, Below.refl _ _, rfl⟩
            · intro k9 w4 hC hk9
              refine givenD_go (ds' := [(16, 73)]) (by kernel_rfl) ?_
              simp only [givenD, List.getD_cons_zero, List.getD_cons_succ]
              rintro _ rfl
              simp only [Act.put, List.setIfInBounds_toArray, List.set_cons_zero, List.set_cons_succ]
              have hcx := (hC.cell (World.block_lt_of_cell? wr _ HU0.out)).trans HU0.out
              have hcy := (hC.cell (World.block_lt_of_cell? wr _ HU1.out)).trans HU1.out
              go_wp2_with fail
              exact ⟨rfl, rfl, hC, Below.refl _ _, rfl⟩
            · intro k9 w4 hC hk9
              refine givenD_go (ds' := [(3, 60), (10, 67), (17, 74)]) (by kernel_rfl) ?_
              simp only [givenD, List.getD_cons_zero, List.getD_cons_succ]
              rintro _ rfl
              rintro _ rfl
              rintro _ rfl
              simp only [Act.put, List.setIfInBounds_toArray, List.set_cons_zero, List.set_cons_succ]
              go_wp2_with fail
              refine (ahead_any _ _ _ _ _).mono ?_
              rintro e w5 ⟨rfl, hb5⟩
              go_wp2_with fail
              exact ⟨rfl, rfl, hC.trans (hb5.mono hC.size), hb5, rfl⟩
          · intro w4 hC
            simp only [givenAll, List.getD_cons_zero, List.getD_cons_succ]
            rintro _ rfl _ rfl _ rfl _ rfl _ rfl _ rfl _ rfl _ rfl _ rfl _ rfl _ rfl _ rfl _ rfl _ rfl _ rfl _ rfl _ rfl _ rfl _ rfl
            simp only [Act.put, List.setIfInBounds_toArray, List.set_cons_zero, List.set_cons_succ]
            have hbi4 := hbi.trans (hC.mono hbi.size)
            cases d3 : decide (p' m < p' t)
            · have HNq := Lib.hid (HNo.out (Int.not_lt.1 (of_decide_eq_false d3)))
              clear d3
              go_wp2_with fail
              go_roundw
              case rel => exact ⟨m, t + 1, by omega, by omega, rfl, val_int (by omega), by omega, HNq.out, HJ.out, hbi4⟩
              case measure => simp [intOf]; omega
            · have HYq := Lib.hid (HYes.out (of_decide_eq_true d3))
              clear d3
              go_wp2_with fail
              go_roundw
              case rel => exact ⟨t, t + 1, by omega, by omega, rfl, val_int (by omega), by omega, HYq.out.1, fun _ => HYq.out.2, hbi4⟩
              case measure => simp [intOf]; omega
        · have d2 : decide ((t : Int) < (n : Int)) = false := decide_eq_false (by omega)
          have HMx : Hid (∀ x, x < n → x = 2 * k + 1 ∨ x = 2 * k + 2 → p' x ≤ p' m) := fun x hx hxx => HM.out x (by omega) (by omega) hx
          have HP4 := Lib.hid (HP1.out.below hbi)
          have HG4 := Lib.hid (HG.out.below hbi)
          have HRi2 : Hid (wr.heap[r2]? = some (.cells #[.int .i64 0, .int .i64 0] 77 (0, 0))) := (hbi.block _ (lt_of_blk HR2.out)).trans HR2.out
          have HRi3 : Hid (wr.heap[r3]? = some (.cells #[.int .i64 (c 0 : Nat), .int .i64 (p 0)] 77 (0, 0))) := (hbi.block _ (lt_of_blk HR3.out)).trans HR3.out
          by_cases qe : m = k
          · subst qe
            have HOk : Hid (HpOk p' n) := HD.out.stop fun x hx hxx => HM.out x (by omega) (by omega) hx
            have y0 := cell_of_blk (i := 0) HRi3.out rfl
            have y1 := cell_of_blk (i := 1) HRi3.out rfl
            have y2 := cell_of_blk (i := 0) HRi2.out rfl
            have y3 := cell_of_blk (i := 1) HRi2.out rfl
            have f2 : ∀ o, wr.frozen? ⟨r2, o, none⟩ = false := fun o => by simp [World.frozen?, HRi2.out]
            go_wp2_with fail
            refine bodyPost_ret (results_cell_row rfl _ _ r2 77 #[.int .i64 (c 0 : Nat), .int .i64 (p 0)] (0, 0) _ rfl (two_cells HRi2.out) Try.underlying77 rfl (by kernel_rfl)) rfl ?_
            exact ⟨rfl, _, c', p', (HP4.out.far _ hr2.2 (fun e => hr2.1 (Option.some.inj e).symm)).far _ hr2.2 (fun e => hr2.1 (Option.some.inj e).symm), HOk.out, fun x y h => (HT1.out x y h).imp_left (HS.out x y).2, fun x y h => HT2.out x y ((HS.out x y).1 h), (HG4.out.new _ _ (Nat.le_of_eq HQ2.out.symm)).new _ _ (Nat.le_of_eq HQ2.out.symm)⟩
          · have dq : ((m : Int) == (k : Int)) = false := beq_eq_false_iff_ne.2 (by omega)
            have hjn : m < n := by omega
            have hkn : k < n := by omega
            have HDq : Hid (HpDn (swapI p' k m) n m) := HD.out.go (by omega) hjn (HJ.out qe) fun x hx hxx => HM.out x (by omega) (by omega) hx
            obtain ⟨b', d', cur', he, _, hcb', _, _, hat'⟩ := HP4.out.row.cells (by omega)
            injection he with he1 he2 he3
            injection he1 with he1
            injection he1 with he1
            subst he1 he3
            have hC1 := cell_of_blk (i := 1) HP4.out.box rfl
            have hI0 := cell_of_blk hcb' (hat' k hkn).1
            have hI1 := cell_of_blk hcb' (hat' k hkn).2
            have hU0 := cell_of_blk hcb' (hat' m hjn).1
            have hU1 := cell_of_blk hcb' (hat' m hjn).2
            have f0 : wr.frozen? ⟨b, k * 2, none⟩ = false := by simp [World.frozen?, hcb']
            have f1 : wr.frozen? ⟨b, k * 2 + 1, none⟩ = false := by simp [World.frozen?, hcb']
            have f2 : wr.frozen? ⟨b, m * 2, none⟩ = false := by simp [World.frozen?, hcb']
            have f3 : wr.frozen? ⟨b, m * 2 + 1, none⟩ = false := by simp [World.frozen?, hcb']
            clear hat' hcb'
            go_wp2_with fail
            clear dq
            go_region
            go_wp2_with fail
            go_roundw
            case rel => exact ⟨m, swapI c' k m, swapI p' k m, .inl hjn, rfl, (HP4.out.swap hkn hjn qe).drew, HDq.out, fun a b => (Has.swap hkn hjn a b).trans (HS.out a b), far4 hr2 HRi2.out, far4 hr3 HRi3.out, HG4.out.swap _ _ _ _⟩
            case measure => simp [intOf]; omega
      · have d1 : decide ((t : Int) ≤ 2 * (k : Int) + 2) = false := decide_eq_false (by omega)
        have HP4 := Lib.hid (HP1.out.below hbi)
        have HG4 := Lib.hid (HG.out.below hbi)
        have HRi2 : Hid (wr.heap[r2]? = some (.cells #[.int .i64 0, .int .i64 0] 77 (0, 0))) := (hbi.block _ (lt_of_blk HR2.out)).trans HR2.out
        have HRi3 : Hid (wr.heap[r3]? = some (.cells #[.int .i64 (c 0 : Nat), .int .i64 (p 0)] 77 (0, 0))) := (hbi.block _ (lt_of_blk HR3.out)).trans HR3.out
        by_cases qe : m = k
        · subst qe
          have HOk : Hid (HpOk p' n) := HD.out.stop fun x hx hxx => HM.out x (by omega) (by omega) hx
          have y0 := cell_of_blk (i := 0) HRi3.out rfl
          have y1 := cell_of_blk (i := 1) HRi3.out rfl
          have y2 := cell_of_blk (i := 0) HRi2.out rfl
          have y3 := cell_of_blk (i := 1) HRi2.out rfl
          have f2 : ∀ o, wr.frozen? ⟨r2, o, none⟩ = false := fun o => by simp [World.frozen?, HRi2.out]
          go_wp2_with fail
          refine bodyPost_ret (results_cell_row rfl _ _ r2 77 #[.int .i64 (c 0 : Nat), .int .i64 (p 0)] (0, 0) _ rfl (two_cells HRi2.out) Try.underlying77 rfl (by kernel_rfl)) rfl ?_
          exact ⟨rfl, _, c', p', (HP4.out.far _ hr2.2 (fun e => hr2.1 (Option.some.inj e).symm)).far _ hr2.2 (fun e => hr2.1 (Option.some.inj e).symm), HOk.out, fun x y h => (HT1.out x y h).imp_left (HS.out x y).2, fun x y h => HT2.out x y ((HS.out x y).1 h), (HG4.out.new _ _ (Nat.le_of_eq HQ2.out.symm)).new _ _ (Nat.le_of_eq HQ2.out.symm)⟩
        · have dq : ((m : Int) == (k : Int)) = false := beq_eq_false_iff_ne.2 (by omega)
          have hjn : m < n := by omega
          have hkn : k < n := by omega
          have HDq : Hid (HpDn (swapI p' k m) n m) := HD.out.go (by omega) hjn (HJ.out qe) fun x hx hxx => HM.out x (by omega) (by omega) hx
          obtain ⟨b', d', cur', he, _, hcb', _, _, hat'⟩ := HP4.out.row.cells (by omega)
          injection he with he1 he2 he3
          injection he1 with he1
          injection he1 with he1
          subst he1 he3
          have hC1 := cell_of_blk (i := 1) HP4.out.box rfl
          have hI0 := cell_of_blk hcb' (hat' k hkn).1
          have hI1 := cell_of_blk hcb' (hat' k hkn).2
          have hU0 := cell_of_blk hcb' (hat' m hjn).1
          have hU1 := cell_of_blk hcb' (hat' m hjn).2
          have f0 : wr.frozen? ⟨b, k * 2, none⟩ = false := by simp [World.frozen?, hcb']
          have f1 : wr.frozen? ⟨b, k * 2 + 1, none⟩ = false := by simp [World.frozen?, hcb']
          have f2 : wr.frozen? ⟨b, m * 2, none⟩ = false := by simp [World.frozen?, hcb']
          have f3 : wr.frozen? ⟨b, m * 2 + 1, none⟩ = false := by simp [World.frozen?, hcb']
          clear hat' hcb'
          go_wp2_with fail
          clear dq
          go_region
          go_wp2_with fail
          go_roundw
          case rel => exact ⟨m, swapI c' k m, swapI p' k m, .inl hjn, rfl, (HP4.out.swap hkn hjn qe).drew, HDq.out, fun a b => (Has.swap hkn hjn a b).trans (HS.out a b), far4 hr2 HRi2.out, far4 hr3 HRi3.out, HG4.out.swap _ _ _ _⟩
          case measure => simp [intOf]; omega

end Go.Proofs.Ytgekjhmjjjkibaa
