import Derived.Test.YtkkkkgcijkjeoaaProg
import Derived.Test.YtkkkkgcijkjeoaaMem
namespace Go.Proofs.Ytkkkkgcijkjeoaa
set_option linter.unusedVariables false
set_option linter.unusedSimpArgs false
open Go.RowKit

theorem Try.infoI : (Try.prog.info? 3).map (fun i => (i.zero, i.size, i.bytes)) = some (some (.int .i64 0), 1, 8) := by kernel_rfl
theorem Try.infoR : (Try.prog.info? 29).map (fun i => (i.zero, i.size, i.bytes)) = some (some (.slice none 0 0), 1, 24) := by kernel_rfl

def RetSz (n : Nat) (l : Int) (w : World) (e : Ending) (w' : World) : Prop := e = .returned (.int .i64 (if (n : Int) ≤ l then l - n else -1)) ∧ w = w'
theorem szIntS_any (A : Option Addr) (n c : Nat) (l : Int) (w : World) (hl : 0 ≤ l) (hl2 : l ≤ 1048576) (hn : n ≤ 9223372036854775807) :
    Calls Try.prog 9 #[.slice A n c, .int .i64 l] w (RetSz n l w) := by
  go_enter Try.func9, Try.ntmps9
  go_wp2
  all_goals go_ret
  all_goals exact ⟨ret_int (by split <;> omega), rfl⟩


def RetRow (n : Nat) (f : Nat → Int) (w : World) (e : Ending) (w' : World) : Prop :=
  e = .returned (.slice (some ⟨w.heap.size, 0, none⟩) n n) ∧ w'.rowIs w.heap.size 3 n (fun i => .int .i64 (f i)) ∧ w'.heap.size = w.heap.size + 1 ∧ Below w.heap.size w w'

def RelToS (w : World) (n : Nat) (f : Nat → Int) (i : Value) (wr : World) : Prop :=
  ∃ k : Nat, k ≤ n ∧ i = .int .i64 k ∧ wr.rowIs w.heap.size 3 n (fun j => .int .i64 (if j < k then f j else 0)) ∧ wr.heap.size = w.heap.size + 1 ∧ Below w.heap.size w wr

theorem toIntS_any (A : Option Addr) (n c : Nat) (f : Nat → Int) (w : World) (hr : RowF w A n f) (hn : n ≤ 1048576) :
    Calls Try.prog 12 #[.slice A n c] w (RetRow n f w) := by
  have hmk := run_make_row' (P := Try.prog) 29 3 (.int .i64 0) 8 Try.underlying29 Try.infoI rfl .i64 .i64 n (by omega) (by omega)
  have HR := Lib.hid hr
  clear hr
  go_enter Try.func12, Try.ntmps12
  go_wp2
  go_loopw [4] (RelToS w n f) (fun i _ => n - (intOf i).toNat)
  case atStart =>
    exact ⟨0, Nat.zero_le _, rfl, (World.rowIs_made w _ n 3).congr (fun _ _ => by simp), by simp, (Below.refl _ _).alloc (Nat.le_refl _) _⟩
  case round =>
    obtain ⟨k, hk, rfl, hrow, hsz, hbel⟩ := hrel
    by_cases hlt : k < n
    · obtain ⟨b, o, rfl, hc⟩ := HR.out k hlt
      have hb := World.block_lt_of_cell? w _ hc
      have hc' := (hbel.cell (by exact hb)).trans hc
      have hcell := hrow.cell hlt
      have hfr := hrow.frozen k
      have HRow := Lib.hid hrow
      have HSz := Lib.hid hsz
      clear hrow hsz hc
      go_wp2
      go_roundw
      case rel =>
        refine ⟨k + 1, by omega, by go_num, (HRow.out.set k _).congr (fun j hj => ?_), by simp [HSz.out], hbel.setCell (Nat.le_refl _) _⟩
        by_cases e : j = k
        · subst e; simp
        · have : (j < k + 1) = (j < k) := by apply propext; omega
          simp [e, this]
      case measure => simp [intOf]; omega
    · have : k = n := by omega
      subst this
      go_wp2
      go_ret
      exact ⟨rfl, hrow.congr (fun i hi => by simp [hi]), hsz, hbel⟩


def RetSzz (n : Nat) (L : Nat → Nat) (w : World) (e : Ending) (w' : World) : Prop :=
  ∃ l : Int, e = .returned (.int .i64 l) ∧ -1 ≤ l ∧ l ≤ 1048576 ∧ (0 ≤ l → n ≤ 1048576 ∧ ∀ r, r < n → L r ≤ 1048576) ∧ w = w'

def RelSzz (n : Nat) (L : Nat → Nat) (l i : Value) : Prop :=
  ∃ (k : Nat) (l0 : Int), k ≤ n ∧ i = .int .i64 k ∧ l = .int .i64 l0 ∧ 0 ≤ l0 ∧ l0 ≤ 1048576 ∧ ∀ r, r < k → L r ≤ 1048576

theorem szIntSS_any (A : Option Addr) (n c : Nat) (L : Nat → Nat) (g : Nat → Nat → Int) (l : Int) (w : World) (hg : GridF w A n L g) (hn : n ≤ 9223372036854775807) (hL : ∀ r, r < n → L r ≤ 9223372036854775807) (hl0 : 0 ≤ l) (hl1 : l ≤ 1048576) :
    Calls Try.prog 4 #[.slice A n c, .int .i64 l] w (RetSzz n L w) := by
  have HG := Lib.hid hg
  have HL := Lib.hid hL
  clear hg hL
  by_cases hbig : (n : Int) ≤ l
  · go_enter Try.func4, Try.ntmps4
    go_wp2
    go_loop [1, 5] (RelSzz n L) (fun _ i => n - (intOf i).toNat)
    case atStart => exact ⟨0, l - n, Nat.zero_le _, rfl, rfl, by omega, by omega, fun r hr => by omega⟩
    case round =>
      obtain ⟨k, l0, hk, rfl, rfl, h0, h1, hall⟩ := hrel
      have HA := Lib.hid hall
      clear hall
      by_cases hlt : k < n
      · obtain ⟨b, o, A', c', rfl, hc, _, hrow⟩ := HG.out k hlt
        have hl := HL.out k hlt
        clear hrow
        by_cases hle : (L k : Int) ≤ l0
        · go_wp2_with (go_at_call 9; refine (szIntS_any _ _ _ _ _ h0 h1 hl).mono ?_; rintro e w' ⟨rfl, rfl⟩; rw [if_pos hle])
          go_round
          case rel =>
            refine ⟨k + 1, l0 - L k, by omega, by go_num, rfl, by omega, by omega, fun r hr => ?_⟩
            by_cases e : r = k
            · subst e; omega
            · exact HA.out r (by omega)
          case measure => simp [intOf]; omega
        · go_wp2_with (go_at_call 9; refine (szIntS_any _ _ _ _ _ h0 h1 hl).mono ?_; rintro e w' ⟨rfl, rfl⟩; rw [if_neg hle])
          go_ret
          exact ⟨-1, rfl, by omega, by omega, fun h => by omega, rfl⟩
      · have : k = n := by omega
        subst this
        go_wp2
        go_ret
        exact ⟨l0, rfl, by omega, by omega, fun _ => ⟨by omega, HA.out⟩, rfl⟩
  · go_enter Try.func4, Try.ntmps4
    go_wp2
    go_ret
    exact ⟨-1, rfl, by omega, by omega, fun h => by omega, rfl⟩


def RetGrid (n : Nat) (L : Nat → Nat) (g : Nat → Nat → Int) (w : World) (e : Ending) (w' : World) : Prop :=
  ∃ A, e = .returned (.slice A n n) ∧ OwnG w' w.heap.size A n L g ∧ Below w.heap.size w w'

def RelToSS (w : World) (n : Nat) (L : Nat → Nat) (g : Nat → Nat → Int) (i : Value) (wr : World) : Prop :=
  ∃ k : Nat, k ≤ n ∧ i = .int .i64 k ∧ wr.rowIs w.heap.size 29 n (fun r => if r < k then .slice (some ⟨w.heap.size + 1 + r, 0, none⟩) (L r) (L r) else .slice none 0 0) ∧
    (∀ r, r < k → wr.rowIs (w.heap.size + 1 + r) 3 (L r) (fun c => .int .i64 (g r c))) ∧ wr.heap.size = w.heap.size + 1 + k ∧ Below w.heap.size w wr

theorem toIntSS_any (A : Option Addr) (n c : Nat) (L : Nat → Nat) (g : Nat → Nat → Int) (w : World) (hg : GridF w A n L g) (hn : n ≤ 1048576) (hL : ∀ r, r < n → L r ≤ 1048576) :
    Calls Try.prog 6 #[.slice A n c] w (RetGrid n L g w) := by
  have hmk := run_make_row' (P := Try.prog) 22 29 (.slice none 0 0) 24 Try.underlying22 Try.infoR rfl .i64 .i64 n (by omega) (by omega)
  have HG := Lib.hid hg
  have HL := Lib.hid hL
  clear hg hL
  go_enter Try.func6, Try.ntmps6
  go_wp2
  go_loopw [4] (RelToSS w n L g) (fun i _ => n - (intOf i).toNat)
  case atStart =>
    exact ⟨0, Nat.zero_le _, rfl, (World.rowIs_made w _ n 29).congr (fun _ _ => by simp), fun r hr => by omega, by simp, (Below.refl _ _).alloc (Nat.le_refl _) _⟩
  case round =>
    obtain ⟨k, hk, rfl, hrow, hrows, hsz, hbel⟩ := hrel
    have HRow := Lib.hid hrow
    have HRows := Lib.hid hrows
    have HSz := Lib.hid hsz
    clear hrow hrows hsz
    by_cases hlt : k < n
    · obtain ⟨b, o, A', c', rfl, hc, _, hr⟩ := HG.out k hlt
      have hb := World.block_lt_of_cell? w _ hc
      have hc' := (hbel.cell (by exact hb)).trans hc
      have HR := Lib.hid (hr.below hbel)
      clear hc hr
      have hl := HL.out k hlt
      go_wp2_with (go_at_call 12; refine (toIntS_any _ _ _ _ _ HR.out hl).mono ?_; rintro e w1 ⟨rfl, hr1, hs1, hb1⟩; have HR1 := Lib.hid hr1; have HS1 := Lib.hid hs1; clear hr1 hs1; have hcl := (rowIs_kept HRow.out hb1).cell hlt; have hfl := (rowIs_kept HRow.out hb1).frozen k)
      go_roundw
      case rel =>
        have hr1 := HR1.out
        have hs1 := HS1.out
        rw [HSz.out] at hr1 hs1
        have hrow := rowIs_kept HRow.out hb1
        have hbel1 := hbel.trans (hb1.mono hbel.size)
        refine ⟨k + 1, by omega, by go_num, (hrow.set k _).congr (fun j hj => ?_), fun r hr => ?_, by simp [hs1]; omega, hbel1.setCell (Nat.le_refl _) _⟩
        · by_cases e : j = k
          · subst e; simp [HSz.out]
          · have : (j < k + 1) = (j < k) := by apply propext; omega
            simp [e, this]
        · refine World.rowIs.setOther ?_ (by show w.heap.size + 1 + r ≠ w.heap.size; omega) _
          by_cases e : r = k
          · subst e; exact hr1
          · exact rowIs_kept (HRows.out r (by omega)) hb1
      case measure => simp [intOf]; omega
    · have : k = n := by omega
      subst this
      go_wp2
      go_ret
      refine ⟨_, rfl, .inr ⟨w.heap.size, fun r => w.heap.size + 1 + r, rfl, Nat.le_refl _, HRow.out.congr (fun r hr => by simp [hr]), fun r hr => ⟨by dsimp only; omega, HRows.out r hr⟩, fun r s _ _ h => by dsimp only at h; omega⟩, hbel⟩


def RelB (w : World) (n : Nat) (i : Value) (wr : World) : Prop := ∃ k : Nat, k ≤ n ∧ i = .int .i64 k ∧ Below w.heap.size w wr

theorem eqIntS_yes (A A' : Option Addr) (n c c' : Nat) (f : Nat → Int) (w : World) (h : RowF w A n f) (h' : RowF w A' n f) (hn : n ≤ 9223372036854775807) :
    Calls Try.prog 17 #[.slice A n c, .slice A' n c'] w (RetV (.bool true) w) := by
  have H := Lib.hid h
  have H' := Lib.hid h'
  clear h h'
  go_enter Try.func17, Try.ntmps17
  go_wp2
  go_loopw [5] (RelB w n) (fun i _ => n - (intOf i).toNat)
  case atStart => exact ⟨0, Nat.zero_le _, rfl, Below.refl _ _⟩
  case round =>
    obtain ⟨k, hk, rfl, hbel⟩ := hrel
    by_cases hlt : k < n
    · obtain ⟨b, o, rfl, hc⟩ := (RowF.below H.out hbel) k hlt
      obtain ⟨b', o', rfl, hc'⟩ := (RowF.below H'.out hbel) k hlt
      go_wp2
      go_quiet (fail)
      go_wp2
      go_roundw
      case rel => exact ⟨k + 1, by omega, by go_num, below_drewN hbel _⟩
      case measure => simp [intOf]; omega
    · have : k = n := by omega
      subst this
      go_wp2
      go_ret
      exact ⟨rfl, hbel⟩


theorem eqIntSS_yes (A A' : Option Addr) (n c c' : Nat) (L : Nat → Nat) (g : Nat → Nat → Int) (w : World) (h : GridF w A n L g) (h' : GridF w A' n L g) (hn : n ≤ 9223372036854775807) (hL : ∀ r, r < n → L r ≤ 9223372036854775807) :
    Calls Try.prog 8 #[.slice A n c, .slice A' n c'] w (RetV (.bool true) w) := by
  have H := Lib.hid h
  have H' := Lib.hid h'
  have HL := Lib.hid hL
  clear h h' hL
  go_enter Try.func8, Try.ntmps8
  go_wp2
  go_loopw [5] (RelB w n) (fun i _ => n - (intOf i).toNat)
  case atStart => exact ⟨0, Nat.zero_le _, rfl, Below.refl _ _⟩
  case round =>
    obtain ⟨k, hk, rfl, hbel⟩ := hrel
    by_cases hlt : k < n
    · obtain ⟨b, o, A1, c1, rfl, hc, _, hr⟩ := (GridF.below H.out hbel) k hlt
      obtain ⟨b', o', A2, c2, rfl, hc', _, hr'⟩ := (GridF.below H'.out hbel) k hlt
      have HR := Lib.hid hr
      have HR' := Lib.hid hr'
      have hl := HL.out k hlt
      clear hr hr'
      go_wp2
      have hx := Later.cell hc
      have hx' := Later.cell hc'
      refine wp_region_later (by kernel_rfl) (by kernel_rfl) ?_
      repeat (first | go_big_quiet_step ((go_at_call 17; exact quietL (eqIntS_yes _ _ _ _ _ _ _ (HR.out.below (Later.below _)) (HR'.out.below (Later.below _)) hl))))
      refine wpQuiet_nil ?_
      rintro _ ⟨⟨w1, hb1⟩, rfl⟩
      clear hx hx'
      go_wp2
      go_roundw
      case rel => exact ⟨k + 1, by omega, by go_num, hbel.trans (hb1.mono hbel.size)⟩
      case measure => simp [intOf]; omega
    · have : k = n := by omega
      subst this
      go_wp2
      go_ret
      exact ⟨rfl, hbel⟩


end Go.Proofs.Ytkkkkgcijkjeoaa
