/- A field as new lists; a copy of lists. -/
import Derived.Test.YtkkkkgcijkjeoaaDoorA4
import Derived.Test.YtkkkkgcijkjeoaaDoorOwn
namespace Go.Proofs.YtkkkkgcijkjeoaaDoor
set_option linter.unusedVariables false
set_option linter.unusedSimpArgs false
open Go.RowKit

theorem Tryd.sizeI : (Tryd.prog.info? 3).map (·.size) = some 1 := by kernel_rfl

def RetOwn (n : Nat) (L : Nat → Nat) (g : Nat → Nat → Int) (w : World) (e : Ending) (w' : World) : Prop :=
  ∃ A c, e = .returned (.slice A n c) ∧ n ≤ c ∧ OwnG w' w.heap.size A n L g ∧ Below w.heap.size w w'

/-- What holds at the head of lists' loop: k rows are made. -/
structure RelLs (w wr : World) (Bx T b R C N k : Nat) (h : Nat → Int) : Prop where
  bx : wr.heap[Bx]? = some (.cells #[.int .i64 R, .int .i64 C, .slice (some ⟨b, 0, none⟩) N N] 40 (0, 0))
  row : wr.rowIs b 3 N (fun i => .int .i64 (h i))
  top : wr.rowIs T 38 R (fun r => if r < k then .slice (some ⟨T + 1 + r, 0, none⟩) C C else .slice none 0 0)
  done : ∀ r, r < k → wr.rowIs (T + 1 + r) 3 C (fun c => .int .i64 (h (r * C + c)))
  size : wr.heap.size = T + 1 + k
  lo : w.heap.size ≤ T
  hb : b < w.heap.size
  bel : Below w.heap.size w wr

/-- A new row is made and laid into the outer one. -/
theorem RelLs.mid {w wr : World} {Bx T b R C N k : Nat} {h : Nat → Int} (H : RelLs w wr Bx T b R C N k h) (hBx : Bx < T) (w2 : World)
    (hw2 : w2 = (wr.setCell ⟨T, k, none⟩ (.slice (some ⟨wr.heap.size, 0, none⟩) C C)).alloc (.cells (madeCells #[.int .i64 0] C) 3)) :
    (∀ j, j < T + 1 + k → j ≠ T → w2.heap[j]? = wr.heap[j]?) ∧ w2.rowIs T 38 R (fun r => if r < k + 1 then .slice (some ⟨T + 1 + r, 0, none⟩) C C else .slice none 0 0) ∧ w2.rowIs (T + 1 + k) 3 C (fun _ => .int .i64 0) ∧
      w2.heap.size = T + 1 + (k + 1) ∧ w2.os = wr.os ∧ w2.tape = wr.tape ∧ w2.output = wr.output := by
  have hsz := H.size
  subst hw2
  refine ⟨fun j hj hne => ?_, ?_, ?_, by simp [World.setCell]; omega, rfl, rfl, rfl⟩
  · rw [Below.heap_alloc _ _ _ (by simp [World.setCell]; omega), Below.heap_setCell _ _ _ _ hne]
  · refine ((H.top.set k _).alloc _).congr fun j hj => ?_
    by_cases e : j = k
    · subst e; simp [hsz]
    · have : (j < k + 1) = (j < k) := by apply propext; omega
      simp [e, this]
  · have := World.rowIs_made (wr.setCell ⟨T, k, none⟩ (.slice (some ⟨wr.heap.size, 0, none⟩) C C)) (.int .i64 0) C 3
    simp [World.setCell] at this
    rw [hsz] at this
    simpa [World.setCell, hsz] using this

theorem RelLs.step {w wr w2 w3 : World} {Bx T b R C N k : Nat} {h : Nat → Int} (H : RelLs w wr Bx T b R C N k h) (hBx : Bx < T)
    (h1 : ∀ j, j < T + 1 + k → j ≠ T → w2.heap[j]? = wr.heap[j]?) (h2 : w2.rowIs T 38 R (fun r => if r < k + 1 then .slice (some ⟨T + 1 + r, 0, none⟩) C C else .slice none 0 0))
    (h3 : w2.heap.size = T + 1 + (k + 1)) (h4 : w2.os = wr.os ∧ w2.tape = wr.tape ∧ w2.output = wr.output)
    (hr3 : w3.rowIs (T + 1 + k) 3 C (fun c => .int .i64 (h (k * C + c)))) (hg3 : w2.grownBy w3 (some (T + 1 + k))) (hs3 : w3.heap.size = w2.heap.size) : RelLs w w3 Bx T b R C N (k + 1) h := by
  have hsz := H.size
  have hlo := H.lo
  have hb := H.hb
  have e : ∀ j, j < T + 1 + k → j ≠ T → w3.heap[j]? = wr.heap[j]? := fun j hj hne => by
    rw [hg3.block j (by omega) (by intro h; injection h with h; omega)]
    exact h1 j hj hne
  refine ⟨(e Bx (by omega) (by omega)).trans H.bx, H.row.of_block (e b (by omega) (by omega)), h2.of_block (hg3.block T (by omega) (by intro h; injection h with h; omega)), fun r hr => ?_, by omega, hlo, hb, ?_⟩
  · by_cases e' : r = k
    · subst e'; exact hr3
    · exact (H.done r (by omega)).of_block (e _ (by omega) (by omega))
  · refine ⟨hg3.os.trans (h4.1.trans H.bel.os), hg3.tape.trans (h4.2.1.trans H.bel.tape), hg3.output.trans (h4.2.2.trans H.bel.output), by have := H.bel.size; omega, fun j hj => ?_⟩
    rw [e j (by omega) (by omega)]
    exact H.bel.block j hj

theorem lists_any (R C b N : Nat) (h : Nat → Int) (w : World) (hR1 : 1 ≤ R) (hC1 : 1 ≤ C) (hR : R ≤ 1000) (hC : C ≤ 1000) (hN : Hid (N = R * C)) (hrow : Hid (w.rowIs b 3 N (fun i => .int .i64 (h i)))) :
    Calls Tryd.prog 28 #[.agg #[.int .i64 R, .int .i64 C, .slice (some ⟨b, 0, none⟩) N N]] w (RetOwn R (fun _ => C) (fun r c => h (r * C + c)) w) := by
  have hmk := run_make_row' (P := Tryd.prog) 23 38 (.slice none 0 0) 24 Tryd.underlying23 Tryd.infoR rfl .i64 .i64 R (by omega) (by omega)
  have hmk2 := run_make_row' (P := Tryd.prog) 38 3 (.int .i64 0) 8 Tryd.underlying38 Tryd.infoI rfl .i64 .i64 C (by omega) (by omega)
  have hblt := hrow.out.lt
  have R0 : RelLs w ((w.alloc (.cells #[.int .i64 R, .int .i64 C, .slice (some ⟨b, 0, none⟩) N N] 40)).alloc (.cells (madeCells #[.slice none 0 0] R) 38)) w.heap.size (w.heap.size + 1) b R C N 0 h := by
    refine ⟨?_, (hrow.out.alloc _).alloc _, ?_, fun r hr => by omega, by simp, by omega, hblt, ((Below.refl _ _).alloc (Nat.le_refl _) _).alloc (by simp) _⟩
    · rw [Below.heap_alloc _ _ _ (by simp)]; exact heap_alloc_new _ _
    · have := World.rowIs_made (w.alloc (.cells #[.int .i64 R, .int .i64 C, .slice (some ⟨b, 0, none⟩) N N] 40)) (.slice none 0 0) R 38
      simp at this
      exact this.congr fun _ _ => by simp
  have HR0 := Lib.hid R0
  clear R0 hblt
  obtain ⟨T, hT⟩ : ∃ T, T = w.heap.size + 1 := ⟨_, rfl⟩
  rw [← hT] at HR0
  have HT := Lib.hid hT
  go_enter Tryd.func28, Tryd.ntmps28
  go_wp2_with fail
  rw [← HT.out]
  have hBx : w.heap.size < T := by omega
  obtain ⟨Bx, hbx⟩ : ∃ Bx, Bx = w.heap.size := ⟨_, rfl⟩
  rw [← hbx] at HR0 hBx ⊢
  clear hT hbx
  go_loopw [10] (fun i wr => ∃ k : Nat, k ≤ R ∧ i = .int .i64 k ∧ RelLs w wr Bx T b R C N k h) (fun i _ => R - (intOf i).toNat)
  case atStart => exact ⟨0, Nat.zero_le _, rfl, HR0.out⟩
  case round =>
    clear HR0
    obtain ⟨k, hk, rfl, hrel⟩ := hrel
    have HREL := Lib.hid hrel
    by_cases hlt : k < R
    · have c0 := cell_of_blk (i := 0) hrel.bx rfl
      have c1 := cell_of_blk (i := 1) hrel.bx rfl
      have c2 := cell_of_blk (i := 2) hrel.bx rfl
      have ct := hrel.top.cell hlt
      have ft := hrel.top.frozen k
      have hTl := hrel.top.lt
      have hBl := lt_of_blk hrel.bx
      clear hrel
      go_wp2_with fail
      generalize hw2 : World.alloc _ (Obj.cells (madeCells #[Value.int .i64 0] C) _) = w2
      obtain ⟨m1, m2, m3, m4, m5⟩ := HREL.out.mid hBx w2 hw2.symm
      have hblt := HREL.out.hb
      have hlo := HREL.out.lo
      have m6 : w2.heap[Bx]? = _ := (m1 Bx (by omega) (by omega)).trans HREL.out.bx
      have c0 := cell_of_blk (i := 0) m6 rfl
      have c1 := cell_of_blk (i := 1) m6 rfl
      have c2 := cell_of_blk (i := 2) m6 rfl
      have ct := m2.cell hlt
      rw [if_pos (by omega)] at ct
      have hm0 : (0 : Int) ≤ (k : Int) * (C : Int) := by rw [← Int.natCast_mul]; omega
      have hkC : k * C + C ≤ N := by rw [hN.out, ← Nat.succ_mul]; exact Nat.mul_le_mul_right C hlt
      have hNb : N ≤ 1000000 := by rw [hN.out]; exact Nat.le_trans (Nat.mul_le_mul hR hC) (by decide)
      have e0 : ((k : Int) + 1) * (C : Int) = ((k * C + C : Nat) : Int) := by rw [Int.natCast_add, Int.natCast_mul, Int.add_mul, Int.one_mul]
      have e1 : ((k : Int) * (C : Int)).toNat = k * C := by rw [← Int.natCast_mul]; exact Int.toNat_natCast _
      have e2 : (((k : Int) + 1) * (C : Int)).toNat = k * C + C := by rw [e0]; exact Int.toNat_natCast _
      have hm1 : (k : Int) * (C : Int) ≤ ((k : Int) + 1) * (C : Int) := by rw [e0, ← Int.natCast_mul]; omega
      have hm2 : ((k : Int) + 1) * (C : Int) ≤ (N : Int) := by rw [e0]; omega
      clear e0
      have M1 := Lib.hid m1
      have M2 := Lib.hid m2
      have M3 := Lib.hid m3
      have M4 := Lib.hid m4
      have M5 := Lib.hid m5
      have M6 := Lib.hid (HREL.out.row.of_block (m1 b (by omega) (by omega)))
      clear m1 m2 m3 m4 m5 m6 hw2
      refine wp_region_drew_tail 16 (by kernel_rfl) (by kernel_rfl) ?_
      simp only [List.take_succ_cons, List.take_zero, List.drop_succ_cons, List.drop_zero]
      repeat (go_big_quiet_step (fail))
      refine wpQuiet_nil ?_
      rintro _ ⟨nq, rfl⟩
      refine wpList_copyAll (w := w2.drewN nq) rfl (.tmp 22) (.tmp 34) 38 38 rfl Tryd.underlying38 Tryd.sizeI (g := T + 1 + k) (n := C) (f := fun c => .int .i64 (h (k * C + c))) rfl rfl M3.out (fun j hj => M6.out.cell (by omega)) (fun _ _ => rfl) ?_
      intro w3 hr3 hg3 hs3
      have HStep := Lib.hid (HREL.out.step hBx M1.out M2.out M4.out M5.out hr3 ⟨hg3.os, hg3.tape, hg3.output, hg3.size, hg3.block⟩ hs3)
      clear hr3 hg3 hs3 ct c0 c1 c2
      go_wp2_with fail
      go_roundw
      case rel => exact ⟨k + 1, by omega, by go_num, HStep.out⟩
      case measure => simp [intOf]; omega
    · have HK : Hid (k = R) := by show k = R; omega
      clear hrel
      go_wp2_with fail
      go_ret
      have H := HREL.out
      rw [HK.out] at H
      refine ⟨_, _, rfl, Nat.le_refl _, .inr ⟨T, fun r => T + 1 + r, rfl, H.lo, H.top.congr (fun r hr => by simp [hr]), fun r hr => ⟨by have := H.lo; dsimp only; omega, H.done r hr⟩, fun r s _ _ h => by dsimp only at h; omega⟩, H.bel⟩

/-- A grid of the call's own that grows by append: the outer row, and each row in a block of its own. -/
def GridOV (w : World) (lo : Nat) (v : Value) (n : Nat) (L : Nat → Nat) (g : Nat → Nat → Int) (V : Nat → Value) : Prop :=
  OwnS w lo 38 v n V ∧ (∀ r, r < n → OwnS w lo 3 (V r) (L r) (fun c => .int .i64 (g r c))) ∧ ∀ r s, r < n → s < n → r ≠ s → ∀ k, (V r).ownBlock = some k → (V s).ownBlock ≠ some k
def GridO (w : World) (lo : Nat) (v : Value) (n : Nat) (L : Nat → Nat) (g : Nat → Nat → Int) : Prop := ∃ V, GridOV w lo v n L g V

theorem GridO.grid {w : World} {lo : Nat} {v : Value} {n : Nat} {L : Nat → Nat} {g : Nat → Nat → Int} (h : GridO w lo v n L g) : ∃ A c, v = .slice A n c ∧ n ≤ c ∧ GridF w A n L g := by
  obtain ⟨V, h1, h2, _⟩ := h
  obtain ⟨A, c, rfl, hc⟩ := h1.slice
  refine ⟨A, c, rfl, hc, fun r hr => ?_⟩
  obtain ⟨b, c', e, _, _, hcell, _⟩ := h1.cell hr
  injection e with e
  subst e
  obtain ⟨A', c'', hV, hcc⟩ := (h2 r hr).slice
  rw [hV] at hcell
  refine ⟨b, 0, A', c'', rfl, by rw [Nat.zero_add]; exact hcell, hcc, fun k hk => ?_⟩
  obtain ⟨b2, c2, e2, _, _, hcell2, _⟩ := (h2 r hr).cell hk
  rw [hV] at e2
  injection e2 with e2
  exact ⟨b2, 0, e2, by rw [Nat.zero_add]; exact hcell2⟩

theorem GridOV.below {w w' : World} {lo : Nat} {v : Value} {n : Nat} {L : Nat → Nat} {g : Nat → Nat → Int} {V : Nat → Value} (h : GridOV w lo v n L g V) (hb : Below w.heap.size w w') : GridOV w' lo v n L g V :=
  ⟨h.1.below hb, fun r hr => (h.2.1 r hr).below hb, h.2.2⟩

theorem GridO.below {w w' : World} {lo : Nat} {v : Value} {n : Nat} {L : Nat → Nat} {g : Nat → Nat → Int} (h : GridO w lo v n L g) (hb : Below w.heap.size w w') : GridO w' lo v n L g :=
  let ⟨V, hV⟩ := h
  ⟨V, hV.below hb⟩

theorem GridO.empty (w : World) (lo : Nat) (L : Nat → Nat) (g : Nat → Nat → Int) (hlo : lo ≤ w.heap.size) : GridO (w.alloc (.cells #[] 38)) lo (.slice (some ⟨w.heap.size, 0, none⟩) 0 0) 0 L g :=
  ⟨fun _ => .slice none 0 0, OwnS.new w lo 38 _ hlo #[] 0 rfl (by decide), fun r hr => by omega, fun r _ hr => by omega⟩

theorem own_type_ne {w : World} {lo lo' : Nat} {e e' : TypeId} {v v' : Value} {n n' : Nat} {V V' : Nat → Value} (h : OwnS w lo e v n V) (h' : OwnS w lo' e' v' n' V') (hne : e ≠ e') {k : Nat} (hk : v.ownBlock = some k) : v'.ownBlock ≠ some k := by
  intro hk'
  obtain ⟨c, hc⟩ := h.type hk
  obtain ⟨c', hc'⟩ := h'.type hk'
  rw [hc] at hc'
  injection hc' with hc'
  injection hc' with _ hc'
  exact hne hc'

/-- One row more. -/
theorem GridOV.snoc {w w1 w2 : World} {lo : Nat} {v v1 v2 : Value} {n : Nat} {L : Nat → Nat} {g : Nat → Nat → Int} {V : Nat → Value} (h : GridOV w lo v n L g V) (hb : Below w.heap.size w w1)
    (h1 : OwnS w1 lo 3 v1 (L n) (fun c => .int .i64 (g n c))) (hnew : ∀ k, v1.ownBlock = some k → w.heap.size ≤ k) (h2 : OwnS w2 lo 38 v2 (n + 1) (fun i => if i < n then V i else v1)) (hg : Grew w1 w2 v v2) :
    GridOV w2 lo v2 (n + 1) L g (fun i => if i < n then V i else v1) := by
  have hv := h.1.below hb
  have keep : ∀ {u : Value} {m : Nat} {U : Nat → Value}, OwnS w1 lo 3 u m U → OwnS w2 lo 3 u m U := fun {u m U} hu =>
    hu.of_block fun k hk => hg.block k (hu.lt hk).2 (own_type_ne hu hv (by decide) hk)
  refine ⟨h2, fun r hr => ?_, fun r s hr hs hne k => ?_⟩ <;> dsimp only
  · by_cases e : r < n
    · rw [if_pos e]; exact keep ((h.2.1 r e).below hb)
    · rw [if_neg e, show r = n by omega]; exact keep h1
  · by_cases er : r < n
    · rw [if_pos er]
      by_cases es : s < n
      · rw [if_pos es]; exact h.2.2 r s er es hne k
      · rw [if_neg es]
        intro hk hk'
        have := ((h.2.1 r er).lt hk).2
        have := hnew k hk'
        omega
    · rw [if_neg er]
      have es : s < n := by omega
      rw [if_pos es]
      intro hk hk'
      have := ((h.2.1 s es).lt hk').2
      have := hnew k hk
      omega

theorem GridO.own_lt {w : World} {lo : Nat} {v : Value} {n : Nat} {L : Nat → Nat} {g : Nat → Nat → Int} (h : GridO w lo v n L g) {k : Nat} (hk : v.ownBlock = some k) : lo ≤ k ∧ k < w.heap.size := by
  obtain ⟨V, h1, _⟩ := h
  exact h1.lt hk

theorem OwnS.alloc' {w : World} {lo : Nat} {e : TypeId} {v : Value} {n : Nat} {V : Nat → Value} (h : OwnS w lo e v n V) (o : Obj) : OwnS (w.alloc o) lo e v n V := h.alloc o

def RetGO (n : Nat) (L : Nat → Nat) (g : Nat → Nat → Int) (w : World) (e : Ending) (w' : World) : Prop :=
  ∃ v, e = .returned v ∧ GridO w' w.heap.size v n L g ∧ Below w.heap.size w w'

/-- A new row, made by one append to an empty one. -/
theorem app_new {wr w1 : World} {lo m : Nat} {v1 : Value} {f : Nat → Int} (ho1 : OwnS w1 lo 3 v1 (0 + m) (fun i => if i < 0 then Value.int .i64 (f i) else .int .i64 (f (i - 0))))
    (hg1 : Grew (wr.alloc (.cells #[] 3)) w1 (.slice (some ⟨wr.heap.size, 0, none⟩) 0 0) v1) :
    ∃ A c, v1 = .slice A m c ∧ Hid (OwnS w1 lo 3 (.slice A m c) m (fun i => .int .i64 (f i))) ∧ Below wr.heap.size wr w1 ∧ Hid (∀ j, (Value.slice A m c).ownBlock = some j → wr.heap.size ≤ j) := by
  rw [Nat.zero_add] at ho1
  obtain ⟨A, c, rfl, _⟩ := ho1.slice
  refine ⟨A, c, rfl, ho1.congr (fun i _ => by simp), (below_alloc wr (.cells #[] 3)).trans (hg1.below (by simp) (fun j hj => by have : some wr.heap.size = some j := hj; injection this with this; omega)), fun j hj => ?_⟩
  rcases hg1.at_ with e | ⟨j', e, hj'⟩
  · have : some wr.heap.size = some j := e.symm.trans hj
    injection this with this
    omega
  · rw [e] at hj; injection hj with hj; simp at hj'; omega


end Go.Proofs.YtkkkkgcijkjeoaaDoor
