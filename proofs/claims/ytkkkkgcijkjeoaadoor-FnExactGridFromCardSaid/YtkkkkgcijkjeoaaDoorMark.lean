/- Grids of the call's own, marked and read back: what markIntSS and heldIntSS do. -/
import Derived.Test.YtkkkkgcijkjeoaaDoorA1
namespace Go.Proofs.YtkkkkgcijkjeoaaDoor
set_option linter.unusedVariables false
set_option linter.unusedSimpArgs false
open Go.RowKit

/-- As OwnG, all blocks below 'hi'. -/
def OwnGB (w : World) (lo hi : Nat) (A : Option Addr) (n : Nat) (L : Nat → Nat) (g : Nat → Nat → Int) : Prop :=
  n = 0 ∨ ∃ (B : Nat) (bs : Nat → Nat), A = some ⟨B, 0, none⟩ ∧ lo ≤ B ∧ B < hi ∧ w.rowIs B 38 n (fun r => .slice (some ⟨bs r, 0, none⟩) (L r) (L r)) ∧
    (∀ r, r < n → lo ≤ bs r ∧ bs r < hi ∧ w.rowIs (bs r) 3 (L r) (fun c => .int .i64 (g r c))) ∧ ∀ r s, r < n → s < n → bs r = bs s → r = s

section
variable {w w' : World} {lo hi : Nat} {A : Option Addr} {n : Nat} {L : Nat → Nat} {g : Nat → Nat → Int}

theorem OwnG.bound (h : OwnG w lo A n L g) : OwnGB w lo w.heap.size A n L g := by
  rcases h with h | ⟨B, bs, hA, hlo, hB, hrows, hinj⟩
  · exact .inl h
  · exact .inr ⟨B, bs, hA, hlo, hB.lt, hB, fun r hr => ⟨(hrows r hr).1, (hrows r hr).2.lt, (hrows r hr).2⟩, hinj⟩

theorem OwnGB.own (h : OwnGB w lo hi A n L g) : OwnG w lo A n L g := by
  rcases h with h | ⟨B, bs, hA, hlo, _, hB, hrows, hinj⟩
  · exact .inl h
  · exact .inr ⟨B, bs, hA, hlo, hB, fun r hr => ⟨(hrows r hr).1, (hrows r hr).2.2⟩, hinj⟩

theorem OwnGB.grid (h : OwnGB w lo hi A n L g) : GridF w A n L g := h.own.grid

/-- Nothing between lo and hi has changed. -/
theorem OwnGB.kept (h : OwnGB w lo hi A n L g) (hk : ∀ k, lo ≤ k → k < hi → w'.heap[k]? = w.heap[k]?) : OwnGB w' lo hi A n L g := by
  rcases h with h | ⟨B, bs, hA, hlo, hhi, hB, hrows, hinj⟩
  · exact .inl h
  · exact .inr ⟨B, bs, hA, hlo, hhi, hB.of_block (hk B hlo hhi), fun r hr => ⟨(hrows r hr).1, (hrows r hr).2.1, (hrows r hr).2.2.of_block (hk _ (hrows r hr).1 (hrows r hr).2.1)⟩, hinj⟩

theorem OwnGB.below {B : Nat} (h : OwnGB w lo hi A n L g) (hb : Below B w w') (hB : hi ≤ B) : OwnGB w' lo hi A n L g := h.kept fun k _ hk => hb.block k (by omega)
end

def sumTo (L : Nat → Nat) : Nat → Nat
  | 0 => 0
  | k + 1 => sumTo L k + L k
theorem sumTo_le {L : Nat → Nat} {b : Nat} : ∀ {n : Nat}, (∀ r, r < n → L r ≤ b) → sumTo L n ≤ n * b
  | 0, _ => by simp [sumTo]
  | n + 1, h => by
    have := sumTo_le (n := n) (fun r hr => h r (by omega))
    have := h n (by omega)
    rw [sumTo, Nat.succ_mul]; omega
theorem sumTo_mono {L : Nat → Nat} : ∀ {k n : Nat}, k ≤ n → sumTo L k ≤ sumTo L n
  | k, 0, h => by rw [show k = 0 by omega]; exact Nat.le_refl _
  | k, n + 1, h => by
    by_cases e : k = n + 1
    · rw [e]; exact Nat.le_refl _
    · have := @sumTo_mono L k n (by omega)
      simp only [sumTo]; omega

/-- Only block b has changed. -/
structure Only (b : Nat) (w w' : World) : Prop where
  os : w'.os = w.os
  tape : w'.tape = w.tape
  output : w'.output = w.output
  size : w'.heap.size = w.heap.size
  block : ∀ k, k ≠ b → w'.heap[k]? = w.heap[k]?

def RetMark (b n : Nat) (k0 : Int) (w : World) (e : Ending) (w' : World) : Prop :=
  e = .returned (.int .i64 (k0 + n)) ∧ w'.rowIs b 3 n (fun i => .int .i64 (k0 + i)) ∧ Only b w w'

theorem markIntS_any (b n c : Nat) (k0 : Int) (f : Nat → Int) (w : World) (hrow : w.rowIs b 3 n (fun i => .int .i64 (f i))) (h0 : 0 ≤ k0) (h1 : k0 ≤ 1099511627776000) (hn : n ≤ 1048576) :
    Calls Tryd.prog 34 #[.slice (some ⟨b, 0, none⟩) n c, .int .i64 k0] w (RetMark b n k0 w) := by
  have HR := Lib.hid hrow
  clear hrow
  go_enter Tryd.func34, Tryd.ntmps34
  go_wp2_with fail
  go_loopw [1, 5] (fun v i wr => ∃ k : Nat, k ≤ n ∧ i = .int .i64 k ∧ v = .int .i64 (k0 + k) ∧ wr.rowIs b 3 n (fun i => .int .i64 (if i < k then k0 + i else f i)) ∧ Only b w wr) (fun _ i _ => n - (intOf i).toNat)
  case atStart => exact ⟨0, Nat.zero_le _, rfl, by simp, HR.out.congr (fun i _ => by simp), rfl, rfl, rfl, rfl, fun _ _ => rfl⟩
  case round =>
    obtain ⟨k, hk, rfl, rfl, hr, ho⟩ := hrel
    by_cases hlt : k < n
    · have hc := hr.cell hlt
      have hf := hr.frozen k
      have HRr := Lib.hid hr
      have HO := Lib.hid ho
      clear hr ho
      go_wp2_with fail
      go_roundw
      case rel =>
        refine ⟨k + 1, by omega, by go_num, val_int (by omega), (HRr.out.set k _).congr (fun i hi => ?_), ?_⟩
        · by_cases e : i = k
          · subst e; simp
          · have : (i < k + 1) = (i < k) := by apply propext; omega
            simp [e, this]
        · exact ⟨HO.out.os, HO.out.tape, HO.out.output, by simp [World.setCell, HO.out.size], fun j hj => (Below.heap_setCell _ _ _ _ hj).trans (HO.out.block j hj)⟩
      case measure => simp [intOf]; omega
    · have HK : Hid (k = n) := by show k = n; omega
      have HRr := Lib.hid hr
      have HO := Lib.hid ho
      clear hr ho
      go_wp2_with fail
      go_ret
      exact ⟨ret_int (by rw [HK.out]), HRr.out.congr (fun i hi => by rw [if_pos (by rw [HK.out]; exact hi)]), HO.out⟩


def RetMarks (k0 lo hi : Nat) (A : Option Addr) (n : Nat) (L : Nat → Nat) (w : World) (e : Ending) (w' : World) : Prop :=
  e = .returned (.int .i64 ((k0 + sumTo L n : Nat))) ∧ OwnGB w' lo hi A n L (fun r c => ((k0 + sumTo L r + c : Nat))) ∧ w'.heap.size = w.heap.size ∧
    (∀ k, k < lo ∨ hi ≤ k → w'.heap[k]? = w.heap[k]?) ∧ Below lo w w'

/-- What holds at the head of markIntSS's loop. -/
structure RelMk (k0 : Nat) (w wr : World) (lo hi B : Nat) (bs : Nat → Nat) (n k : Nat) (L : Nat → Nat) (g : Nat → Nat → Int) : Prop where
  size : wr.heap.size = w.heap.size
  far : ∀ j, j < lo ∨ hi ≤ j → wr.heap[j]? = w.heap[j]?
  top : wr.rowIs B 38 n (fun r => .slice (some ⟨bs r, 0, none⟩) (L r) (L r))
  done : ∀ r, r < k → wr.rowIs (bs r) 3 (L r) (fun c => .int .i64 ((k0 + sumTo L r + c : Nat)))
  rest : ∀ r, k ≤ r → r < n → wr.rowIs (bs r) 3 (L r) (fun c => .int .i64 (g r c))
  same : wr.os = w.os ∧ wr.tape = w.tape ∧ wr.output = w.output

theorem rowIs_ne {w : World} {b b' n n' : Nat} {t t' : TypeId} {f f' : Nat → Value} (h : w.rowIs b t n f) (h' : w.rowIs b' t' n' f') (hne : t ≠ t') : b ≠ b' := by
  rintro rfl
  obtain ⟨c, hc, _⟩ := h
  obtain ⟨c', hc', _⟩ := h'
  rw [hc] at hc'
  injection hc' with hc'
  injection hc' with _ hc'
  exact hne hc'

theorem RelMk.step {k0 : Nat} {w wr w1 : World} {lo hi B : Nat} {bs : Nat → Nat} {n k : Nat} {L : Nat → Nat} {g : Nat → Nat → Int} (H : RelMk k0 w wr lo hi B bs n k L g) (hk : k < n) (hbs : ∀ r, r < n → lo ≤ bs r ∧ bs r < hi)
    (hinj : ∀ r s, r < n → s < n → bs r = bs s → r = s) (hrow : w1.rowIs (bs k) 3 (L k) (fun i => .int .i64 (((k0 + sumTo L k : Nat) : Int) + i))) (ho : Only (bs k) wr w1) : RelMk k0 w w1 lo hi B bs n (k + 1) L g := by
  refine ⟨ho.size.trans H.size, fun j hj => (ho.block j (by have := hbs k hk; omega)).trans (H.far j hj), H.top.of_block (ho.block _ (rowIs_ne H.top (H.rest k (Nat.le_refl _) hk) (by decide))), fun r hr => ?_, fun r hr1 hr2 => ?_,
    ho.os.trans H.same.1, ho.tape.trans H.same.2.1, ho.output.trans H.same.2.2⟩
  · by_cases e : r = k
    · subst e
      exact hrow.congr (fun i _ => by simp)
    · exact (H.done r (by omega)).of_block (ho.block _ (fun h => e (hinj r k (by omega) hk h)))
  · exact (H.rest r (by omega) hr2).of_block (ho.block _ (fun h => by have := hinj r k hr2 hk h; omega))

theorem markIntSS_any (k0 : Nat) (A : Option Addr) (n c lo hi : Nat) (L : Nat → Nat) (g : Nat → Nat → Int) (w : World) (hown : OwnGB w lo hi A n L g) (hn : n ≤ 1048576) (hL : ∀ r, r < n → L r ≤ 1048576) (hk0 : k0 ≤ 1099511627777) :
    Calls Tryd.prog 16 #[.slice A n c, .int .i64 k0] w (RetMarks k0 lo hi A n L w) := by
  rcases hown with rfl | ⟨B, bs, rfl, hlo, hhi, hB, hrows, hinj⟩
  · clear hL
    have hd : decide ((0 : Int) < ((0 : Nat) : Int)) = false := by simp
    go_enter Tryd.func16, Tryd.ntmps16
    go_wp2_with fail
    go_loopw [1, 5] (fun v i wr => i = .int .i64 0 ∧ v = .int .i64 k0 ∧ wr = w) (fun _ i _ => 0)
    case atStart => exact ⟨rfl, rfl, rfl⟩
    case round =>
      obtain ⟨rfl, rfl, rfl⟩ := hrel
      go_wp2_with fail
      go_ret
      exact ⟨rfl, .inl rfl, rfl, fun _ _ => rfl, Below.refl _ _⟩
  · have HL := Lib.hid hL
    have R0 : RelMk k0 w w lo hi B bs n 0 L g := ⟨rfl, fun _ _ => rfl, hB, fun r hr => by omega, fun r _ hr => (hrows r hr).2.2, rfl, rfl, rfl⟩
    have HR0 := Lib.hid R0
    have HBS : Hid (∀ r, r < n → lo ≤ bs r ∧ bs r < hi) := fun r hr => ⟨(hrows r hr).1, (hrows r hr).2.1⟩
    have HInj := Lib.hid hinj
    clear hL R0 hrows hinj hB
    go_enter Tryd.func16, Tryd.ntmps16
    go_wp2_with fail
    go_loopw [1, 5] (fun v i wr => ∃ k : Nat, k ≤ n ∧ i = .int .i64 k ∧ v = .int .i64 ((k0 + sumTo L k : Nat)) ∧ RelMk k0 w wr lo hi B bs n k L g) (fun _ i _ => n - (intOf i).toNat)
    case atStart => exact ⟨0, Nat.zero_le _, rfl, rfl, HR0.out⟩
    case round =>
      clear HR0
      obtain ⟨k, hk, rfl, rfl, hrel⟩ := hrel
      have HREL := Lib.hid hrel
      have hsum : sumTo L k ≤ 1099511627776 := Nat.le_trans (sumTo_le (fun r hr => HL.out r (by omega))) (Nat.le_trans (Nat.mul_le_mul_right _ (by omega : k ≤ 1048576)) (by decide))
      by_cases hlt : k < n
      · have hc := hrel.top.cell hlt
        have hlk := HL.out k hlt
        clear hrel
        go_wp2_with fail
        refine (markIntS_any _ _ _ _ _ _ (HREL.out.rest k (Nat.le_refl _) hlt) (by omega) (by omega) hlk).mono ?_
        rintro e w1 ⟨rfl, hr1, ho1⟩
        have HStep := Lib.hid (HREL.out.step hlt HBS.out HInj.out hr1 ho1)
        clear hr1 ho1
        go_wp2_with fail
        go_roundw
        case rel => exact ⟨k + 1, by omega, by go_num, val_int (by simp only [sumTo]; omega), HStep.out⟩
        case measure => simp [intOf]; omega
      · have HK : Hid (k = n) := by show k = n; omega
        clear hrel
        go_wp2_with fail
        go_ret
        have H := HREL.out
        rw [HK.out] at H
        exact ⟨ret_int (by rw [HK.out]), .inr ⟨B, bs, rfl, hlo, hhi, H.top, fun r hr => ⟨(HBS.out r hr).1, (HBS.out r hr).2, H.done r hr⟩, HInj.out⟩, H.size, H.far,
          ⟨H.same.1, H.same.2.1, H.same.2.2, by rw [H.size]; exact Nat.le_refl _, fun j hj => H.far j (.inl hj)⟩⟩


theorem heldIntS_any (A : Option Addr) (n c : Nat) (k0 : Int) (w : World) (hr : RowF w A n (fun i => k0 + i)) (h0 : 0 ≤ k0) (h1 : k0 ≤ 1099511627776000) (hn : n ≤ 1048576) :
    Calls Tryd.prog 35 #[.slice A n c, .int .i64 k0] w (RetP (.int .i64 (k0 + n)) w) := by
  have HR := Lib.hid hr
  clear hr
  go_enter Tryd.func35, Tryd.ntmps35
  go_wp2_with fail
  go_loop [1, 5] (fun v i => ∃ k : Nat, k ≤ n ∧ i = .int .i64 k ∧ v = .int .i64 (k0 + k)) (fun _ i => n - (intOf i).toNat)
  case atStart => exact ⟨0, Nat.zero_le _, rfl, by simp⟩
  case round =>
    obtain ⟨k, hk, rfl, rfl⟩ := hrel
    by_cases hlt : k < n
    · obtain ⟨b, o, rfl, hc⟩ := HR.out k hlt
      go_wp2_with fail
      go_round
      case rel => exact ⟨k + 1, by omega, by go_num, val_int (by omega)⟩
      case measure => simp [intOf]; omega
    · have HK : Hid (k = n) := by show k = n; omega
      go_wp2_with fail
      go_ret
      exact ⟨ret_int (by rw [HK.out]), rfl⟩


theorem heldIntSS_any (A : Option Addr) (n c : Nat) (L : Nat → Nat) (w : World) (hg : GridF w A n L (fun r c => ((1 + sumTo L r + c : Nat)))) (hn : n ≤ 1048576) (hL : ∀ r, r < n → L r ≤ 1048576) :
    Calls Tryd.prog 17 #[.slice A n c, .int .i64 1] w (RetP (.int .i64 ((1 + sumTo L n : Nat))) w) := by
  have HL := Lib.hid hL
  have HG := Lib.hid hg
  clear hL hg
  go_enter Tryd.func17, Tryd.ntmps17
  go_wp2_with fail
  go_loop [1, 5] (fun v i => ∃ k : Nat, k ≤ n ∧ i = .int .i64 k ∧ v = .int .i64 ((1 + sumTo L k : Nat))) (fun _ i => n - (intOf i).toNat)
  case atStart => exact ⟨0, Nat.zero_le _, rfl, rfl⟩
  case round =>
    obtain ⟨k, hk, rfl, rfl⟩ := hrel
    have hsum : sumTo L k ≤ 1099511627776 := Nat.le_trans (sumTo_le (fun r hr => HL.out r (by omega))) (Nat.le_trans (Nat.mul_le_mul_right _ (by omega : k ≤ 1048576)) (by decide))
    by_cases hlt : k < n
    · obtain ⟨b, o, A', c', rfl, hc, _, hr⟩ := HG.out k hlt
      have hlk := HL.out k hlt
      have HR : Hid (RowF w A' (L k) (fun i => ((1 + sumTo L k : Nat) : Int) + i)) := by
        intro i hi
        obtain ⟨b, o, e, hc⟩ := hr i hi
        exact ⟨b, o, e, by rw [hc]; simp⟩
      clear hr
      go_wp2_with fail
      refine (heldIntS_any _ _ _ _ _ HR.out (by omega) (by omega) hlk).mono ?_
      rintro e w' ⟨rfl, rfl⟩
      go_wp2_with fail
      go_round
      case rel => exact ⟨k + 1, by omega, by go_num, val_int (by simp only [sumTo]; omega)⟩
      case measure => simp [intOf]; omega
    · have HK : Hid (k = n) := by show k = n; omega
      go_wp2_with fail
      go_ret
      exact ⟨ret_int (by rw [HK.out]), rfl⟩


end Go.Proofs.YtkkkkgcijkjeoaaDoor
