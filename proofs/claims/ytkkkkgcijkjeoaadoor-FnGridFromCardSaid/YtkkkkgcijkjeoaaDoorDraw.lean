/- Drawn grids: the reader of a code, what it picks, and the grids that are drawn. -/
import Derived.Test.YtkkkkgcijkjeoaaDoorTurn
import Derived.Laws.BitsAllLaws
import Derived.Laws.BitsLemmas
namespace Go.Proofs.YtkkkkgcijkjeoaaDoor
set_option linter.unusedVariables false
set_option linter.unusedSimpArgs false
open Go.RowKit

/-- Nothing that was there has changed but block Br. -/
structure But (Br : Nat) (w w' : World) : Prop where
  os : w'.os = w.os
  tape : w'.tape = w.tape
  output : w'.output = w.output
  size : w.heap.size ≤ w'.heap.size
  block : ∀ k, k < w.heap.size → k ≠ Br → w'.heap[k]? = w.heap[k]?

theorem But.refl (Br : Nat) (w : World) : But Br w w := ⟨rfl, rfl, rfl, Nat.le_refl _, fun _ _ _ => rfl⟩
theorem But.trans {Br : Nat} {a b c : World} (h : But Br a b) (k : But Br b c) : But Br a c :=
  ⟨k.os.trans h.os, k.tape.trans h.tape, k.output.trans h.output, Nat.le_trans h.size k.size, fun i hi hne => (k.block i (Nat.lt_of_lt_of_le hi h.size) hne).trans (h.block i hi hne)⟩
theorem But.of_below {Br : Nat} {a b : World} (h : Below a.heap.size a b) : But Br a b := ⟨h.os, h.tape, h.output, h.size, fun k hk _ => h.block k hk⟩
theorem But.below {Br B : Nat} {a b : World} (h : But Br a b) (hB : B ≤ a.heap.size) (hBr : B ≤ Br) : Below B a b := ⟨h.os, h.tape, h.output, h.size, fun k hk => h.block k (by omega) (by omega)⟩

/-- The reader of a code lies in block Br: the bytes z, the place p. -/
structure Rdr (w : World) (Br : Nat) (A : Option Addr) (m c : Nat) (z : Nat → Int) (p : Int) : Prop where
  blk : w.heap[Br]? = some (.cells #[.slice A m c, .int .i64 p] 64 (0, 0))
  row : RowB w A m z
  far : ∀ b o, A = some ⟨b, o, none⟩ → 0 < m → b < Br
  len : m ≤ 1048576
  p0 : 0 ≤ p

theorem RowB.of_block {w w' : World} {A : Option Addr} {n : Nat} {z : Nat → Int} (h : RowB w A n z) (hb : ∀ b o, A = some ⟨b, o, none⟩ → 0 < n → w'.heap[b]? = w.heap[b]?) : RowB w' A n z := by
  intro k hk
  obtain ⟨b, o, e, hc, h0, h1⟩ := h k hk
  exact ⟨b, o, e, (World.cell?_of_block (hb b o e (by omega))).trans hc, h0, h1⟩

theorem Rdr.keep {w w' : World} {Br : Nat} {A : Option Addr} {m c : Nat} {z : Nat → Int} {p : Int} (H : Rdr w Br A m c z p) (hb : ∀ k, k ≤ Br → w'.heap[k]? = w.heap[k]?) : Rdr w' Br A m c z p :=
  ⟨(hb Br (Nat.le_refl _)).trans H.blk, H.row.of_block fun b o e hm => hb b (Nat.le_of_lt (H.far b o e hm)), H.far, H.len, H.p0⟩
theorem Rdr.but {w w' : World} {Br : Nat} {A : Option Addr} {m c : Nat} {z : Nat → Int} {p : Int} (H : Rdr w Br A m c z p) (hb : Below w.heap.size w w') : Rdr w' Br A m c z p :=
  H.keep fun k hk => hb.block k (by have := lt_of_blk H.blk; omega)

theorem cell_blk0 {w : World} {b : Nat} {x y : Value} {t : TypeId} (h : w.heap[b]? = some (.cells #[x, y] t (0, 0))) : w.cell? ⟨b, 0, none⟩ = some x := by simp [World.cell?, h]
theorem cell_blk1 {w : World} {b : Nat} {x y : Value} {t : TypeId} (h : w.heap[b]? = some (.cells #[x, y] t (0, 0))) : w.cell? ⟨b, 1, none⟩ = some y := by simp [World.cell?, h]

theorem Rdr.next {w : World} {Br : Nat} {A : Option Addr} {m c : Nat} {z : Nat → Int} {p : Int} (H : Rdr w Br A m c z p) (n : Nat) : Rdr ((w.setCell ⟨Br, 1, none⟩ (.int .i64 (p + 1))).drewN n) Br A m c z (p + 1) ∧ But Br w ((w.setCell ⟨Br, 1, none⟩ (.int .i64 (p + 1))).drewN n) := by
  have hb : ∀ k, k ≠ Br → ((w.setCell ⟨Br, 1, none⟩ (.int .i64 (p + 1))).drewN n).heap[k]? = w.heap[k]? := fun k hk => Below.heap_setCell _ _ _ _ hk
  refine ⟨⟨?_, H.row.of_block fun b o e hm => hb b (Nat.ne_of_lt (H.far b o e hm)), H.far, H.len, by have := H.p0; omega⟩, ⟨rfl, rfl, rfl, ?_, fun k _ hk => hb k hk⟩⟩
  · show (w.setCell ⟨Br, 1, none⟩ (.int .i64 (p + 1))).heap[Br]? = _
    simp [World.setCell, Array.getElem?_modify, H.blk]
  · show w.heap.size ≤ (w.setCell _ _).heap.size
    simp [World.setCell]

/-- What a pick returns. -/
def RetPick (n : Int) (Br : Nat) (A : Option Addr) (m c : Nat) (z : Nat → Int) (p : Int) (w : World) (e : Ending) (w' : World) : Prop :=
  ∃ x : Int, e = .returned (.int .i64 x) ∧ 0 ≤ x ∧ x < n ∧ Rdr w' Br A m c z (p + 1) ∧ But Br w w'

theorem xor_nat (a b : Nat) (ha : a < 9223372036854775808) (hb : b < 9223372036854775808) : bits .xor .i64 (a : Int) (b : Int) = ((a ^^^ b : Nat) : Int) := by
  have h1 : ∀ x : Nat, x < 9223372036854775808 → (BitVec.ofInt 64 (x : Int)).toNat = x := fun x hx => by
    rw [BitVec.ofInt_natCast, BitVec.toNat_ofNat]; exact Nat.mod_eq_of_lt (by omega)
  have hx : a ^^^ b < 2 ^ 63 := Nat.xor_lt_two_pow (by omega) (by omega)
  show IntKind.i64.wrap ((BitVec.ofInt 64 (a : Int) ^^^ BitVec.ofInt 64 (b : Int)).toNat : Int) = _
  rw [BitVec.toNat_xor, h1 a ha, h1 b hb, IntKind.wrap_i64]
  omega

set_option maxHeartbeats 1000000 in
set_option maxRecDepth 100000 in
theorem pick_any (n : Int) (Br : Nat) (A : Option Addr) (m c : Nat) (z : Nat → Int) (p : Int) (w : World) (H : Rdr w Br A m c z p) (hp : p ≤ 1000000) (hn1 : 1 ≤ n) (hn2 : n ≤ 1000000) :
    Calls Tryd.prog 30 #[.pointer (some ⟨Br, 0, none⟩), .int .i64 n] w (RetPick n Br A m c z p w) := by
  have x0 := cell_blk0 H.blk
  have x1 := cell_blk1 H.blk
  have q1 := frozen_of_blk H.blk 1
  have HH := Lib.hid H
  have hp0 := H.p0
  have hml := H.len
  have d1 : decide (n < 1) = false := by simp; omega
  clear H
  by_cases hm : m = 0
  · subst hm
    have d2 : (((0 : Nat) : Int) == 0) = true := by simp
    go_enter Tryd.func30, Tryd.ntmps30
    go_wp2_with fail
    go_ret
    have := HH.out.next 0
    exact ⟨0, rfl, by omega, by omega, this.1, this.2⟩
  · have d2 : ((m : Int) == 0) = false := by simp; omega
    obtain ⟨k, rfl⟩ := Int.eq_ofNat_of_zero_le hp0
    by_cases hk : k < m
    · obtain ⟨b, o, rfl, hc, hz0, hz1⟩ := HH.out.row k hk
      have hne := Nat.ne_of_lt (HH.out.far b o rfl (by omega))
      go_enter Tryd.func30, Tryd.ntmps30
      go_wp2_with fail
      go_ret
      have := HH.out.next 0
      have hmod : (z k).tmod n = z k % n := Int.tmod_eq_emod_of_nonneg hz0
      have e1 := Int.emod_nonneg (z k) (by omega : n ≠ 0)
      have e2 := Int.emod_lt_of_pos (z k) (by omega : 0 < n)
      exact ⟨z k % n, rfl, e1, e2, this.1, this.2⟩
    · have hkm : k % m < m := Nat.mod_lt _ (by omega)
      have hkm2 : (k * 7 + 3) % m < m := Nat.mod_lt _ (by omega)
      obtain ⟨b, o, rfl, hc, hz0, hz1⟩ := HH.out.row (k % m) hkm
      obtain ⟨b', o', hA, hc', hz0', hz1'⟩ := HH.out.row ((k * 7 + 3) % m) hkm2
      injection hA with hA
      injection hA with hA1 hA2
      subst hA1 hA2
      have hne := Nat.ne_of_lt (HH.out.far b o rfl (by omega))
      have e5 : (((k : Int) * 7 + 3) % (m : Int)).toNat = (k * 7 + 3) % m := by
        rw [show (k : Int) * 7 + 3 = ((k * 7 + 3 : Nat) : Int) by omega, ← Int.natCast_emod]; exact Int.toNat_natCast _
      have e6 : (0 : Int) ≤ ((k : Int) * 7 + 3) % (m : Int) := Int.emod_nonneg _ (by omega)
      have e7 : ((k : Int) * 7 + 3) % (m : Int) < (m : Int) := Int.emod_lt_of_pos _ (by omega)
      have hdiv : (k : Int) / (m : Int) = ((k / m : Nat) : Int) := by rw [Int.natCast_ediv]
      have hdl : k / m ≤ k := Nat.div_le_self k m
      have hq0 : (0 : Int) ≤ (k : Int) / (m : Int) := by rw [hdiv]; exact Int.natCast_nonneg _
      have hq1 : (k : Int) / (m : Int) ≤ 1000000 := by rw [hdiv]; exact Int.le_trans (Int.ofNat_le.2 hdl) hp
      clear hdiv hdl
      go_enter Tryd.func30, Tryd.ntmps30
      go_wp2_with fail
      refine wp_region_quiet_lit (by kernel_rfl) (by kernel_rfl) ?_
      repeat (go_big_quiet_step (fail))
      refine wpQuiet_nil ?_
      rintro _ ⟨nq, rfl⟩
      obtain ⟨X, hX⟩ : ∃ X : Nat, (X : Int) = z (k % m) * 131 + z ((k * 7 + 3) % m) * 1117 + (k : Int) * 29 + (k : Int) / (m : Int) * 53 :=
        ⟨(z (k % m) * 131 + z ((k * 7 + 3) % m) * 1117 + (k : Int) * 29 + (k : Int) / (m : Int) * 53).toNat, Int.toNat_of_nonneg (by generalize (k : Int) / (m : Int) = Qd at *; generalize z (k % m) = Za at *; generalize z ((k * 7 + 3) % m) = Zb at *; omega)⟩
      rw [← hX]
      have hXb : X ≤ 1000000000 := by
        generalize (k : Int) / (m : Int) = Qd at *
        generalize z (k % m) = Za at *
        generalize z ((k * 7 + 3) % m) = Zb at *
        omega
      have hxor : bits .xor .i64 (X : Int) ((X : Int) / 64) = ((X ^^^ (X / 64) : Nat) : Int) := xor_nat X (X / 64) (by omega) (by omega)
      have hxb : X ^^^ (X / 64) < 2 ^ 62 := Nat.xor_lt_two_pow (by omega) (by omega)
      obtain ⟨Y, hY⟩ : ∃ Y : Nat, Y = X ^^^ (X / 64) := ⟨_, rfl⟩
      rw [← hY] at hxor hxb
      clear hX hY x0 x1 hc hc' e5 e6 e7 q1
      go_wp2_with fail
      go_ret
      have := HH.out.next nq
      have e1 := Int.emod_nonneg (Y : Int) (by omega : n ≠ 0)
      have e2 := Int.emod_lt_of_pos (Y : Int) (by omega : 0 < n)
      exact ⟨(Y : Int) % n, rfl, e1, e2, this.1, this.2⟩

theorem GridOV.of_but {w w' : World} {Br lo : Nat} {v : Value} {n : Nat} {L : Nat → Nat} {g : Nat → Nat → Int} {V : Nat → Value} (h : GridOV w lo v n L g V) (hb : But Br w w') (hlo : Br < lo) : GridOV w' lo v n L g V :=
  ⟨h.1.of_block fun k hk => hb.block k (h.1.lt hk).2 (by have := (h.1.lt hk).1; omega), fun r hr => (h.2.1 r hr).of_block fun k hk => hb.block k ((h.2.1 r hr).lt hk).2 (by have := ((h.2.1 r hr).lt hk).1; omega), h.2.2⟩
theorem GridO.of_but {w w' : World} {Br lo : Nat} {v : Value} {n : Nat} {L : Nat → Nat} {g : Nat → Nat → Int} (h : GridO w lo v n L g) (hb : But Br w w') (hlo : Br < lo) : GridO w' lo v n L g :=
  let ⟨V, hV⟩ := h
  ⟨V, hV.of_but hb hlo⟩
theorem OwnS.of_but {w w' : World} {Br lo : Nat} {e : TypeId} {v : Value} {n : Nat} {V : Nat → Value} (h : OwnS w lo e v n V) (hb : But Br w w') (hlo : Br < lo) : OwnS w' lo e v n V :=
  h.of_block fun k hk => hb.block k (h.lt hk).2 (by have := (h.lt hk).1; omega)
theorem rowIs_but {w w' : World} {Br b n : Nat} {t : TypeId} {f : Nat → Value} (h : w.rowIs b t n f) (hb : But Br w w') (hne : b ≠ Br) : w'.rowIs b t n f := h.of_block (hb.block b h.lt hne)

theorem GridOV.congr {w : World} {lo : Nat} {v : Value} {n : Nat} {L L' : Nat → Nat} {g g' : Nat → Nat → Int} {V : Nat → Value} (h : GridOV w lo v n L g V) (eL : ∀ r, r < n → L r = L' r) (e : ∀ r c, r < n → c < L r → g r c = g' r c) : GridOV w lo v n L' g' V :=
  ⟨h.1, fun r hr => by rw [← eL r hr]; exact (h.2.1 r hr).congr fun c hc => by rw [e r c hr hc], h.2.2⟩

/-- A drawn grid, and the reader behind it. -/
def RetRough (rows cols : Nat) (Br : Nat) (A : Option Addr) (m c : Nat) (z : Nat → Int) (p : Int) (w : World) (e : Ending) (w' : World) : Prop :=
  ∃ v L g p', e = .returned v ∧ GridO w' w.heap.size v rows L g ∧ (∀ r, r < rows → cols ≤ L r ∧ L r ≤ cols + 1 ∧ L 0 ≤ L r) ∧ Rdr w' Br A m c z p' ∧ p' ≤ p + 150 ∧ But Br w w'

/-- Heights to pick from. -/
def Hts (w : World) (lo : Nat) (hv : Value) : Prop := ∃ (Bh : Nat) (f : Nat → Int), hv = .slice (some ⟨Bh, 0, none⟩) 8 8 ∧ lo ≤ Bh ∧ w.rowIs Bh 3 8 (fun i => .int .i64 (f i))

theorem Hts.new (w : World) (lo : Nat) (hlo : lo ≤ w.heap.size) (a0 a1 a2 a3 a4 a5 a6 a7 : Int) :
    Hts (w.alloc (.cells #[.int .i64 a0, .int .i64 a1, .int .i64 a2, .int .i64 a3, .int .i64 a4, .int .i64 a5, .int .i64 a6, .int .i64 a7] 3)) lo (.slice (some ⟨w.heap.size, 0, none⟩) 8 8) :=
  ⟨_, fun i => [a0, a1, a2, a3, a4, a5, a6, a7].getD i 0, rfl, hlo, World.rowIs_alloc w #[.int .i64 a0, .int .i64 a1, .int .i64 a2, .int .i64 a3, .int .i64 a4, .int .i64 a5, .int .i64 a6, .int .i64 a7] 3 _ (fun i hi => by
    match i, hi with
    | 0, _ => rfl
    | 1, _ => rfl
    | 2, _ => rfl
    | 3, _ => rfl
    | 4, _ => rfl
    | 5, _ => rfl
    | 6, _ => rfl
    | 7, _ => rfl)⟩
theorem Hts.of_but {w w' : World} {Br lo : Nat} {hv : Value} (h : Hts w lo hv) (hb : But Br w w') (hlo : Br < lo) : Hts w' lo hv :=
  let ⟨Bh, f, e, h1, h2⟩ := h
  ⟨Bh, f, e, h1, rowIs_but h2 hb (by omega)⟩
theorem Hts.grew {w w' : World} {lo : Nat} {hv v : Value} (h : Hts w lo hv) (hb : ∀ k, k < w.heap.size → v.ownBlock ≠ some k → w'.heap[k]? = w.heap[k]?) (hne : ∀ Bh c d, hv = .slice (some ⟨Bh, 0, none⟩) c d → v.ownBlock ≠ some Bh) : Hts w' lo hv :=
  let ⟨Bh, f, e, h1, h2⟩ := h
  ⟨Bh, f, e, h1, h2.of_block (hb Bh h2.lt (hne Bh 8 8 e))⟩

theorem But.grew {Br : Nat} {a b d : World} {v v' : Value} (h : But Br a b) (hg : Grew b d v v') (hv : ∀ k, v.ownBlock = some k → a.heap.size ≤ k) : But Br a d :=
  ⟨hg.os.trans h.os, hg.tape.trans h.tape, hg.output.trans h.output, Nat.le_trans h.size hg.size, fun k hk hne => (hg.block k (Nat.lt_of_lt_of_le hk h.size) (fun e => by have := hv k e; omega)).trans (h.block k hk hne)⟩
theorem Rdr.grew {w w' : World} {Br : Nat} {A : Option Addr} {m c : Nat} {z : Nat → Int} {p : Int} {v v' : Value} (H : Rdr w Br A m c z p) (hg : Grew w w' v v') (hv : ∀ k, v.ownBlock = some k → Br < k) : Rdr w' Br A m c z p :=
  H.keep fun k hk => hg.block k (by have := lt_of_blk H.blk; omega) (fun e => by have := hv k e; omega)
theorem Hts.of_grew {w w' : World} {lo B : Nat} {hv v v' : Value} (h : Hts w lo hv) (hlt : Hid (∀ Bh c d, hv = .slice (some ⟨Bh, 0, none⟩) c d → Bh < B)) (hg : Grew w w' v v') (hB : ∀ k, v.ownBlock = some k → B ≤ k) : Hts w' lo hv :=
  h.grew hg.block fun Bh c d e hk => by have := hlt.out Bh c d e; have := hB Bh hk; omega

theorem l6Open_any (A : Option Addr) (m c : Nat) (z : Nat → Int) (w : World) (h : RowB w A m z) (hm : m ≤ 9223372036854775807) (hmc : m ≤ c) :
    Calls Tryd.prog 19 #[.slice A m c] w fun e w' => ∃ m' c', e = .returned (.pointer (some ⟨w.heap.size, 0, none⟩)) ∧ Rdr w' w.heap.size A m' c' z 0 ∧ w'.heap.size = w.heap.size + 1 ∧ Below w.heap.size w w' := by
  have HR := Lib.hid h
  clear h
  have fin : ∀ m' c' : Nat, m' ≤ m → m' ≤ 2000 → Rdr (w.alloc (.cells #[.slice A m' c', .int .i64 0] 64)) w.heap.size A m' c' z 0 := fun m' c' h1 h2 =>
    ⟨heap_alloc_new _ _, fun k hk => by
      obtain ⟨b, o, e, hc, h0, h1⟩ := HR.out k (by omega)
      exact ⟨b, o, e, cell_alloc hc _, h0, h1⟩, fun b o e hm' => by
      obtain ⟨b', o', e', hc, _⟩ := HR.out 0 (by omega)
      rw [e] at e'
      injection e' with e'
      injection e' with e1 e2
      subst e1
      exact World.block_lt_of_cell? w _ hc, by omega, by omega⟩
  have Fin := Lib.hid fin
  clear fin
  by_cases hb : 2000 < m
  · have hc1 : 2000 ≤ c := by omega
    go_enter Tryd.func19, Tryd.ntmps19
    go_wp2_with fail
    go_ret
    exact ⟨2000, c, rfl, Fin.out 2000 c (by omega) (by omega), by simp, below_alloc _ _⟩
  · go_enter Tryd.func19, Tryd.ntmps19
    go_wp2_with fail
    go_ret
    exact ⟨m, c, rfl, Fin.out m c (by omega) (by omega), by simp, below_alloc _ _⟩

end Go.Proofs.YtkkkkgcijkjeoaaDoor
