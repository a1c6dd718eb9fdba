/- Sinks: what the program's and the reference's functions return. -/
import Derived.Test.YthndabbjkkjkhaaSid
import Derived.Test.YthndabbjkkjkhaaMarkI
namespace Go.Proofs.Ythndabbjkkjkhaa
set_option linter.unusedVariables false
set_option linter.unusedSimpArgs false
open Go.RowKit

/-- The first k cells that are sinks. -/
def snkL (R C : Nat) (h : Nat → Int) (k : Nat) : List Nat := (List.range k).filter fun i => nextV R C h i == i
theorem snkL_yes {R C : Nat} {h : Nat → Int} {k : Nat} (e : nextV R C h k = k) : snkL R C h (k + 1) = snkL R C h k ++ [k] := by
  unfold snkL
  rw [List.range_succ, List.filter_append, List.filter_cons_of_pos (by simpa using e), List.filter_nil]
theorem snkL_no {R C : Nat} {h : Nat → Int} {k : Nat} (e : ¬ nextV R C h k = k) : snkL R C h (k + 1) = snkL R C h k := by
  unfold snkL
  rw [List.range_succ, List.filter_append, List.filter_cons_of_neg (by simpa using e), List.filter_nil, List.append_nil]
theorem snkL_len (R C : Nat) (h : Nat → Int) (k : Nat) : (snkL R C h k).length ≤ k := by
  have := List.length_filter_le (fun i => nextV R C h i == i) (List.range k)
  unfold snkL; simpa using this
theorem OwnL.i {w : World} {lo : Nat} {v : Value} {l : List Nat} (h : OwnL w lo v l) : OwnI w lo v l.length (fun k => ((l.getD k 0 : Nat) : Int)) := h

set_option maxHeartbeats 1000000 in
theorem implWaterSinks_yes (A : Option Addr) (n cp : Nat) (L : Nat → Nat) (g : Nat → Nat → Int) (w : World) (hg : GridF w A n L g) (hv : Valid n L g) :
    Calls Try.prog 40 #[.slice A n cp] w (RetII (snkL n (L 0) (flat (L 0) g) (n * L 0)).length (fun k => (((snkL n (L 0) (flat (L 0) g) (n * L 0)).getD k 0 : Nat) : Int)) w) := by
  have HG := Lib.hid hg
  have HV := Lib.hid hv
  have hn1 := hv.1
  have hn2 := hv.2.1
  have hl1 := hv.2.2.1
  have hl2 := hv.2.2.2.1
  obtain ⟨N, hN⟩ : ∃ N, N = n * L 0 := ⟨_, rfl⟩
  have hN1 : N ≤ 49 := by rw [hN]; exact Nat.le_trans (Nat.mul_le_mul hn2 hl2) (by decide)
  have HN := Lib.hid hN
  obtain ⟨h, hh⟩ : ∃ h, h = flat (L 0) g := ⟨_, rfl⟩
  have HH := Lib.hid hh
  rw [← hh, ← hN]
  clear hg hv hN hh
  go_enter Try.func40, Try.ntmps40
  go_wp2_with fail
  refine (fieldOf_yes _ _ _ N _ _ _ HG.out HV.out HN).mono ?_
  rintro e w1 ⟨b, rfl, hlo, hrow, hb1⟩
  rw [← HH.out] at hrow
  have HB := Lib.hid ((Boxed.new (R := n) (C := L 0) hrow).below (below_alloc _ (.cells #[] 3)))
  have hbx := hb1.alloc hb1.size (.cells #[.int .i64 n, .int .i64 (L 0), .slice (some ⟨b, 0, none⟩) N N] 59)
  have hbx2 := hbx.alloc hbx.size (.cells #[] 3)
  have hO : OwnL ((w1.alloc (.cells #[.int .i64 n, .int .i64 (L 0), .slice (some ⟨b, 0, none⟩) N N] 59)).alloc (.cells #[] 3)) (w1.heap.size + 1) (.slice (some ⟨w1.heap.size + 1, 0, none⟩) 0 0) [] := by
    have := OwnS.new (w1.alloc (.cells #[.int .i64 n, .int .i64 (L 0), .slice (some ⟨b, 0, none⟩) N N] 59)) (w1.heap.size + 1) 3 (fun k => .int .i64 ((([] : List Nat).getD k 0 : Nat))) (by simp) #[] 0 rfl (by decide)
    simpa [OwnL] using this
  have HO := Lib.hid hO
  clear hO
  have hblo : b < w1.heap.size + 1 := by have := hrow.lt; omega
  have hszl : w1.heap.size + 1 ≤ ((w1.alloc (.cells #[.int .i64 n, .int .i64 (L 0), .slice (some ⟨b, 0, none⟩) N N] 59)).alloc (.cells #[] 3)).heap.size := by simp
  have x2 := cell_of_blk (i := 2) HB.out.box rfl
  have hlw : w.heap.size ≤ w1.heap.size + 1 := by have := hb1.size; omega
  clear hrow hb1 hbx
  go_wp2_with fail
  clear x2
  generalize World.alloc (World.alloc w1 _) _ = w2 at *
  obtain ⟨Bf, hBf⟩ : ∃ Bf, Bf = w1.heap.size := ⟨_, rfl⟩
  rw [← hBf] at HB HO hblo hszl hlw ⊢
  clear hBf
  go_loopw [5, 18] (fun v i wr => ∃ k : Nat, k ≤ N ∧ i = .int .i64 k ∧ Hid (OwnL wr (Bf + 1) v (snkL n (L 0) h k)) ∧ Hid (Boxed wr Bf b n (L 0) N h) ∧ Below w.heap.size w wr ∧ Bf + 1 ≤ wr.heap.size) (fun _ i _ => N - (intOf i).toNat)
  case atStart => exact ⟨0, Nat.zero_le _, rfl, HO.out, HB.out, hbx2, hszl⟩
  case round =>
    clear HO HB hbx2 hszl
    obtain ⟨k, hk, rfl, HO, HB, hbel, hszl⟩ := hrel
    obtain ⟨Ao, co, rfl⟩ := HO.out.slice
    have hlen := snkL_len n (L 0) h k
    by_cases hlt : k < N
    · have x0 := cell_of_blk (i := 0) HB.out.box rfl
      have x1 := cell_of_blk (i := 1) HB.out.box rfl
      have x2 := cell_of_blk (i := 2) HB.out.box rfl
      have HI : Hid (k < n * L 0) := by show k < n * L 0; rw [← HN.out]; exact hlt
      go_wp2_with fail
      refine (next_any n (L 0) N b k h _ hl1 (by omega) (by omega) HI HN HB.out.row).mono ?_
      rintro e w3 ⟨rfl, hb3⟩
      have HB3 := Lib.hid (HB.out.below hb3)
      have HO3 := Lib.hid (HO.out.below hb3)
      have hbel3 := hbel.trans (hb3.mono hbel.size)
      have hs3 := hb3.size
      clear x0 x1 x2 hb3
      by_cases hq : nextV n (L 0) h k = k
      · have HL := Lib.hid (snkL_yes hq)
        have HQ := Lib.hid hq
        rw [hq]
        clear hq
        go_wp2_with (at_builtin; refine wpList_app1 rfl (.tmp 26) (.tmp 28) 29 rfl Try.underlying29 Try.infoI rfl rfl HO3.out.s (x := .int .i64 (k : Nat)) rfl rfl (by omega) (by decide) (by omega) ?_; intro v' w4 ho hg4; obtain ⟨A4, c4, rfl, _⟩ := ho.slice)
        have HO4 := Lib.hid (OwnL.snoc (x := k) rfl ho)
        have hbg : Below (Bf + 1) w3 w4 := hg4.below (by omega) (fun j hj => (HO3.out.s.lt hj).1)
        have HB4 : Hid (Boxed w4 Bf b n (L 0) N h) := ⟨(hbg.block _ (by omega)).trans HB3.out.box, HB3.out.row.of_block (hbg.block _ (by omega))⟩
        have hbel4 : Below w.heap.size w w4 := hbel3.trans (hbg.mono hlw)
        have hs4 := hg4.size
        clear ho hg4 hbg
        go_wp2_with fail
        go_roundw
        case rel => exact ⟨k + 1, by omega, by go_num, by rw [HL.out]; exact HO4.out, HB4.out, hbel4, by omega⟩
        case measure => simp [intOf]; omega
      · have HL := Lib.hid (snkL_no hq)
        have d1 : (((nextV n (L 0) h k : Nat) : Int) == (k : Int)) = false := by simpa using (fun e => hq (by omega))
        clear hq
        go_wp2_with fail
        go_roundw
        case rel => exact ⟨k + 1, by omega, by go_num, by rw [HL.out]; exact HO3.out, HB3.out, hbel3, by omega⟩
        case measure => simp [intOf]; omega
    · have HK : Hid (k = N) := by show k = N; omega
      go_wp2_with fail
      go_ret
      have H := HO.out
      rw [HK.out] at H
      exact ⟨_, _, by rw [HK.out]; rfl, H.i.s.mono hlw, hbel⟩

theorem implWaterSinks_no (A : Option Addr) (n cp : Nat) (L : Nat → Nat) (g : Nat → Nat → Int) (w : World) (hg : GridF w A n L g) (hn : n ≤ 1048576) (hL : ∀ r, r < n → L r ≤ 1048576) (hv : ¬ Valid n L g) :
    Calls Try.prog 40 #[.slice A n cp] w (RetII 0 (fun _ => 0) w) := by
  have HG := Lib.hid hg
  have HL := Lib.hid hL
  have HV := Lib.hid hv
  clear hg hL hv
  go_enter Try.func40, Try.ntmps40
  go_wp2_with fail
  refine (fieldOf_no _ _ _ _ _ _ HG.out hn HL.out HV.out).mono ?_
  rintro e w1 ⟨rfl, hb1⟩
  go_wp2_with fail
  go_ret
  exact ⟨_, _, rfl, OwnS.nil _ _ _ _, hb1.alloc hb1.size _⟩

set_option maxHeartbeats 1000000 in
theorem specWaterSinks_yes (A : Option Addr) (n cp : Nat) (L : Nat → Nat) (g : Nat → Nat → Int) (w : World) (hg : GridF w A n L g) (hv : Valid n L g) :
    Calls Try.prog 41 #[.slice A n cp] w (RetSI (snkL n (L 0) (flat (L 0) g) (n * L 0)).length (fun k => (((snkL n (L 0) (flat (L 0) g) (n * L 0)).getD k 0 : Nat) : Int)) w) := by
  have HG := Lib.hid hg
  have HV := Lib.hid hv
  have hn1 := hv.1
  have hn2 := hv.2.1
  have hl1 := hv.2.2.1
  have hl2 := hv.2.2.2.1
  obtain ⟨N, hN⟩ : ∃ N, N = n * L 0 := ⟨_, rfl⟩
  have hN1 : N ≤ 49 := by rw [hN]; exact Nat.le_trans (Nat.mul_le_mul hn2 hl2) (by decide)
  have HN := Lib.hid hN
  obtain ⟨h, hh⟩ : ∃ h, h = flat (L 0) g := ⟨_, rfl⟩
  have HH := Lib.hid hh
  rw [← hh, ← hN]
  clear hg hv hN hh
  have hbe := below_alloc w (.cells #[] 3)
  have HO : Hid (OwnL (w.alloc (.cells #[] 3)) w.heap.size (.slice (some ⟨w.heap.size, 0, none⟩) 0 0) []) := OwnS.new w w.heap.size 3 _ (Nat.le_refl _) #[] 0 rfl (by decide)
  go_enter Try.func41, Try.ntmps41
  go_wp2_with fail
  refine (specValid_yes _ _ _ _ _ _ (HG.out.below hbe) HV.out).mono ?_
  rintro e w1 ⟨rfl, hb1⟩
  have HO1 := Lib.hid (HO.out.below hb1)
  have hbw : Below w.heap.size w w1 := hbe.trans (hb1.mono (by simp))
  clear HO hbe hb1
  go_wp2_with fail
  go_loopw [3, 4] (fun v i wr => ∃ k : Nat, k ≤ N ∧ i = .int .i64 k ∧ Hid (OwnL wr w.heap.size v (snkL n (L 0) h k)) ∧ Below w.heap.size w wr) (fun _ i _ => N - (intOf i).toNat)
  case atStart => exact ⟨0, Nat.zero_le _, rfl, HO1.out, hbw⟩
  case round =>
    clear HO1 hbw
    obtain ⟨k, hk, rfl, HO, hbel⟩ := hrel
    obtain ⟨Ao, co, rfl⟩ := HO.out.slice
    have hlen := snkL_len n (L 0) h k
    have HG1 := Lib.hid (HG.out.below hbel)
    go_wp2_with fail
    refine (l2Cells_any _ _ _ _ _ _ HG1.out (by omega) (by omega) (by omega)).mono ?_
    rintro e w' ⟨rfl, rfl⟩
    rw [← HN.out]
    by_cases hlt : k < N
    · have HI : Hid (k < n * L 0) := by show k < n * L 0; rw [← HN.out]; exact hlt
      go_wp2_with fail
      refine (l2Next_any _ _ _ _ _ _ _ HG1.out HV.out HI.out).mono ?_
      rintro e w3 ⟨rfl, hb3⟩
      rw [← HH.out]
      have HO3 := Lib.hid (HO.out.below hb3)
      have hbel3 := hbel.trans (hb3.mono hbel.size)
      have hs3 := hbel3.size
      clear hb3
      by_cases hq : nextV n (L 0) h k = k
      · have HL := Lib.hid (snkL_yes hq)
        rw [hq]
        clear hq
        go_wp2_with (at_builtin; refine wpList_app1 rfl (.tmp 21) (.tmp 23) 29 rfl Try.underlying29 Try.infoI rfl rfl HO3.out.s (x := .int .i64 (k : Nat)) rfl rfl (by omega) (by decide) (by omega) ?_; intro v' w4 ho hg4; obtain ⟨A4, c4, rfl, _⟩ := ho.slice)
        have HO4 := Lib.hid (OwnL.snoc (x := k) rfl ho)
        have hbel4 : Below w.heap.size w w4 := hbel3.trans (hg4.below (by omega) (fun j hj => (HO3.out.s.lt hj).1))
        clear ho hg4
        go_wp2_with fail
        go_roundw
        case rel => exact ⟨k + 1, by omega, by go_num, by rw [HL.out]; exact HO4.out, hbel4⟩
        case measure => simp [intOf]; omega
      · have HL := Lib.hid (snkL_no hq)
        have d1 : (((nextV n (L 0) h k : Nat) : Int) == (k : Int)) = false := by simpa using (fun e => hq (by omega))
        clear hq
        go_wp2_with fail
        go_roundw
        case rel => exact ⟨k + 1, by omega, by go_num, by rw [HL.out]; exact HO3.out, hbel3⟩
        case measure => simp [intOf]; omega
    · have HK : Hid (k = N) := by show k = N; omega
      go_wp2_with fail
      go_ret
      have H := HO.out
      rw [HK.out] at H
      exact ⟨_, _, by rw [HK.out]; rfl, H.i.row, hbel⟩

theorem specWaterSinks_no (A : Option Addr) (n cp : Nat) (L : Nat → Nat) (g : Nat → Nat → Int) (w : World) (hg : GridF w A n L g) (hn : n ≤ 1048576) (hL : ∀ r, r < n → L r ≤ 1048576) (hv : ¬ Valid n L g) :
    Calls Try.prog 41 #[.slice A n cp] w (RetSI 0 (fun _ => 0) w) := by
  have HG := Lib.hid hg
  have HL := Lib.hid hL
  have HV := Lib.hid hv
  clear hg hL hv
  have hbe := below_alloc w (.cells #[] 3)
  go_enter Try.func41, Try.ntmps41
  go_wp2_with fail
  refine (specValid_no _ _ _ _ _ _ (HG.out.below hbe) hn HL.out HV.out).mono ?_
  rintro e w1 ⟨rfl, hb1⟩
  go_wp2_with fail
  go_ret
  exact ⟨_, _, rfl, fun k hk => by omega, hbe.trans (hb1.mono (by simp))⟩

end Go.Proofs.Ythndabbjkkjkhaa
