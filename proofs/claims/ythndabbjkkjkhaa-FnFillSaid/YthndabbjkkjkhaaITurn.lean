/- GridTurn and GridMirror: what the program's functions return. -/
import Derived.Test.YthndabbjkkjkhaaMade
import Derived.Test.YthndabbjkkjkhaaTurn
import Derived.Test.YthndabbjkkjkhaaCor
namespace Go.Proofs.Ythndabbjkkjkhaa
set_option linter.unusedVariables false
set_option linter.unusedSimpArgs false
open Go.RowKit

/-- A field in a box: its block, its row of heights. -/
structure Boxed (w : World) (Bf b R C N : Nat) (h : Nat → Int) : Prop where
  box : w.heap[Bf]? = some (.cells #[.int .i64 R, .int .i64 C, .slice (some ⟨b, 0, none⟩) N N] 59 (0, 0))
  row : w.rowIs b 3 N (fun i => .int .i64 (h i))
theorem Boxed.below {w w' : World} {Bf b R C N : Nat} {h : Nat → Int} (H : Boxed w Bf b R C N h) (hb : Below w.heap.size w w') : Boxed w' Bf b R C N h :=
  ⟨(hb.block _ (lt_of_blk H.box)).trans H.box, rowIs_kept H.row hb⟩
theorem Boxed.new {w : World} {b R C N : Nat} {h : Nat → Int} (hrow : w.rowIs b 3 N (fun i => .int .i64 (h i))) : Boxed (w.alloc (.cells #[.int .i64 R, .int .i64 C, .slice (some ⟨b, 0, none⟩) N N] 59)) w.heap.size b R C N h :=
  ⟨heap_alloc_new _ _, hrow.alloc _⟩

theorem Valid.rng {n : Nat} {L : Nat → Nat} {g : Nat → Nat → Int} (h : Valid n L g) {r c : Nat} (hr : r < n) (hc : c < L 0) : 0 ≤ g r c ∧ g r c ≤ 99 := (h.2.2.2.2 r hr).2 c hc

theorem turn1_any (Bf b R C N : Nat) (h : Nat → Int) (r c : Nat) (w : World) (H : Boxed w Bf b R C N h) (hr : r < C) (hc : c < R) (hR : R ≤ 1000) (hC : C ≤ 1000) (hN : Hid (N = R * C)) :
    Calls Try.prog 80 #[.int .i64 r, .int .i64 c, .pointer (some ⟨Bf, 0, none⟩)] w (RetV (.int .i64 (h ((R - 1 - c) * C + r))) w) := by
  have x0 := cell_of_blk (i := 0) H.box rfl
  have x1 := cell_of_blk (i := 1) H.box rfl
  have x2 := cell_of_blk (i := 2) H.box rfl
  have HRow := Lib.hid H.row
  clear H
  have e1 : Hid (((R : Int) - 1 - (c : Int)).toNat = R - 1 - c) := by show _ = _; omega
  go_enter Try.func80, Try.ntmps80
  go_wp2_with fail
  refine (at_int _ _ _ _ _ _ _ _ (by omega) (by omega) (by omega) (by omega) hR hC hN HRow).mono ?_
  rintro e w1 ⟨rfl, hb1⟩
  rw [e1.out, Int.toNat_natCast]
  go_wp2_with fail
  go_ret
  exact ⟨rfl, hb1⟩

theorem implGridTurn_yes (A : Option Addr) (n cp : Nat) (L : Nat → Nat) (g : Nat → Nat → Int) (w : World) (hg : GridF w A n L g) (hv : Valid n L g) :
    Calls Try.prog 36 #[.slice A n cp] w (RetGI (L 0) (fun _ => n) (turnG n g) true w) := by
  have HG := Lib.hid hg
  have HV := Lib.hid hv
  have hn1 := hv.1
  have hn2 := hv.2.1
  have hl1 := hv.2.2.1
  have hl2 := hv.2.2.2.1
  have HRng := Lib.hid hv.2.2.2.2
  clear hg hv
  have hcf : Hid (∀ (args : Array Value) (w : World), (callFunc 80 args).run Try.prog w = .ok (.enter 80 args) w) := fun args w => enters Try.func80 (by kernel_rfl) (by kernel_rfl) args w
  obtain ⟨N, hN⟩ : ∃ N, N = n * L 0 := ⟨_, rfl⟩
  have HN := Lib.hid hN
  clear hN
  go_enter Try.func36, Try.ntmps36
  go_wp2_with fail
  refine (fieldOf_yes _ _ _ N _ _ _ HG.out HV.out HN).mono ?_
  rintro e w1 ⟨b, rfl, hlo, hrow, hb1⟩
  have HB := Lib.hid (Boxed.new (R := n) (C := L 0) hrow)
  clear hrow
  go_wp2_with fail
  refine (made_yes _ _ _ _ (turnG n g) _ (by omega) (by omega) (by omega) (by omega) ⟨hcf.out, fun r c w' hr hc hb => ?_⟩ (fun r c hr hc => ?_)).mono ?_
  · refine (turn1_any w1.heap.size b n (L 0) N (flat (L 0) g) r c w' (HB.out.below hb) hr hc (by omega) (by omega) HN).mono fun e w'' h => ?_
    rw [flat_at g hr] at h
    exact h
  · exact (HRng.out (n - 1 - c) (by omega)).2 r hr
  · rintro e w2 ⟨A2, c2, rfl, hc2, hown, hb2⟩
    have HO := Lib.hid hown
    clear hown
    go_wp2_with fail
    go_ret2
    have hB := hb1.alloc hb1.size (.cells #[.int .i64 n, .int .i64 (L 0), .slice (some ⟨b, 0, none⟩) N N] 59)
    exact ⟨_, _, rfl, hc2, HO.out.mono hB.size, hB.trans (hb2.mono hB.size)⟩

theorem implGridTurn_no (A : Option Addr) (n cp : Nat) (L : Nat → Nat) (g : Nat → Nat → Int) (w : World) (hg : GridF w A n L g) (hn : n ≤ 1048576) (hL : ∀ r, r < n → L r ≤ 1048576) (hv : ¬ Valid n L g) :
    Calls Try.prog 36 #[.slice A n cp] w (RetGI 0 L g false w) := by
  have HG := Lib.hid hg
  have HL := Lib.hid hL
  have HV := Lib.hid hv
  clear hg hL hv
  go_enter Try.func36, Try.ntmps36
  go_wp2_with fail
  refine (fieldOf_no _ _ _ _ _ _ HG.out hn HL.out HV.out).mono ?_
  rintro e w1 ⟨rfl, hb1⟩
  go_wp2_with fail
  go_ret2
  exact ⟨_, _, rfl, Nat.le_refl _, .inl rfl, hb1.alloc hb1.size _⟩

theorem mirror1_any (Bf b R C N : Nat) (h : Nat → Int) (r c : Nat) (w : World) (H : Boxed w Bf b R C N h) (hr : r < R) (hc : c < C) (hR : R ≤ 1000) (hC : C ≤ 1000) (hN : Hid (N = R * C)) :
    Calls Try.prog 79 #[.int .i64 r, .int .i64 c, .pointer (some ⟨Bf, 0, none⟩)] w (RetV (.int .i64 (h (r * C + (C - 1 - c)))) w) := by
  have x0 := cell_of_blk (i := 0) H.box rfl
  have x1 := cell_of_blk (i := 1) H.box rfl
  have x2 := cell_of_blk (i := 2) H.box rfl
  have HRow := Lib.hid H.row
  clear H
  have e1 : Hid (((C : Int) - 1 - (c : Int)).toNat = C - 1 - c) := by show _ = _; omega
  go_enter Try.func79, Try.ntmps79
  go_wp2_with fail
  refine (at_int _ _ _ _ _ _ _ _ (by omega) (by omega) (by omega) (by omega) hR hC hN HRow).mono ?_
  rintro e w1 ⟨rfl, hb1⟩
  rw [e1.out, Int.toNat_natCast]
  go_wp2_with fail
  go_ret
  exact ⟨rfl, hb1⟩

theorem implGridMirror_yes (A : Option Addr) (n cp : Nat) (L : Nat → Nat) (g : Nat → Nat → Int) (w : World) (hg : GridF w A n L g) (hv : Valid n L g) :
    Calls Try.prog 34 #[.slice A n cp] w (RetGI n (fun _ => L 0) (mirrorG (L 0) g) true w) := by
  have HG := Lib.hid hg
  have HV := Lib.hid hv
  have hn1 := hv.1
  have hn2 := hv.2.1
  have hl1 := hv.2.2.1
  have hl2 := hv.2.2.2.1
  have HRng := Lib.hid hv.2.2.2.2
  clear hg hv
  have hcf : Hid (∀ (args : Array Value) (w : World), (callFunc 79 args).run Try.prog w = .ok (.enter 79 args) w) := fun args w => enters Try.func79 (by kernel_rfl) (by kernel_rfl) args w
  obtain ⟨N, hN⟩ : ∃ N, N = n * L 0 := ⟨_, rfl⟩
  have HN := Lib.hid hN
  clear hN
  go_enter Try.func34, Try.ntmps34
  go_wp2_with fail
  refine (fieldOf_yes _ _ _ N _ _ _ HG.out HV.out HN).mono ?_
  rintro e w1 ⟨b, rfl, hlo, hrow, hb1⟩
  have HB := Lib.hid (Boxed.new (R := n) (C := L 0) hrow)
  clear hrow
  go_wp2_with fail
  refine (made_yes _ _ _ _ (mirrorG (L 0) g) _ (by omega) (by omega) (by omega) (by omega) ⟨hcf.out, fun r c w' hr hc hb => ?_⟩ (fun r c hr hc => ?_)).mono ?_
  · refine (mirror1_any w1.heap.size b n (L 0) N (flat (L 0) g) r c w' (HB.out.below hb) hr hc (by omega) (by omega) HN).mono fun e w'' h => ?_
    rw [flat_at g (by omega)] at h
    exact h
  · exact (HRng.out r hr).2 _ (by omega)
  · rintro e w2 ⟨A2, c2, rfl, hc2, hown, hb2⟩
    have HO := Lib.hid hown
    clear hown
    go_wp2_with fail
    go_ret2
    have hB := hb1.alloc hb1.size (.cells #[.int .i64 n, .int .i64 (L 0), .slice (some ⟨b, 0, none⟩) N N] 59)
    exact ⟨_, _, rfl, hc2, HO.out.mono hB.size, hB.trans (hb2.mono hB.size)⟩

theorem implGridMirror_no (A : Option Addr) (n cp : Nat) (L : Nat → Nat) (g : Nat → Nat → Int) (w : World) (hg : GridF w A n L g) (hn : n ≤ 1048576) (hL : ∀ r, r < n → L r ≤ 1048576) (hv : ¬ Valid n L g) :
    Calls Try.prog 34 #[.slice A n cp] w (RetGI 0 L g false w) := by
  have HG := Lib.hid hg
  have HL := Lib.hid hL
  have HV := Lib.hid hv
  clear hg hL hv
  go_enter Try.func34, Try.ntmps34
  go_wp2_with fail
  refine (fieldOf_no _ _ _ _ _ _ HG.out hn HL.out HV.out).mono ?_
  rintro e w1 ⟨rfl, hb1⟩
  go_wp2_with fail
  go_ret2
  exact ⟨_, _, rfl, Nat.le_refl _, .inl rfl, hb1.alloc hb1.size _⟩

end Go.Proofs.Ythndabbjkkjkhaa
