/- The passes from one cell: what the program's function returns. -/
import Derived.Test.YtgekjhmjjjkibaaTake
import Derived.Test.YtgekjhmjjjkibaaNear
import Derived.Test.YtgekjhmjjjkibaaITurn
import Derived.Test.YtgekjhmjjjkibaaPlP
import Derived.Laws.EntriesVeiled
namespace Go.Proofs.Ytgekjhmjjjkibaa
set_option linter.unusedVariables false
set_option linter.unusedSimpArgs false
open Go.RowKit

theorem unk_upd {F : Nat → Int} {i : Nat} {v : Int} (h0 : 0 ≤ v) (hF : F i < 0) : ∀ {k : Nat}, i < k → cnt (fun x => decide (upd F i v x < 0)) k + 1 = cnt (fun x => decide (F x < 0)) k
  | 0, h => by omega
  | k + 1, h => by
    unfold cnt
    by_cases e : i = k
    · subst e
      have : cnt (fun x => decide (upd F i v x < 0)) i = cnt (fun x => decide (F x < 0)) i := cnt_congr fun j hj => by rw [upd_ne F v (by omega)]
      rw [this, upd_at, if_neg (by simp; omega), if_pos (by simpa using hF)]
    · have := unk_upd (F := F) (i := i) (v := v) h0 hF (k := k) (by omega)
      rw [upd_ne F v (show k ≠ i by omega)]; omega
theorem unk_all (N : Nat) : cnt (fun x => decide ((fun _ : Nat => (-1 : Int)) x < 0)) N = N := by
  induction N with
  | zero => rfl
  | succ n ih => unfold cnt; rw [ih]; rfl

/-- The passes from a cell, in new memory. -/
def RetPI (N : Nat) (F : Nat → Int) (w : World) (e : Ending) (w' : World) : Prop := ∃ v, e = .returned v ∧ OwnI w' w.heap.size v N F ∧ Below w.heap.size w w'

/-- What holds in the loop: the field's box, the passes that are known, the heap of open steps. -/
structure Pas (w wr : World) (Bf b bo Bp R C N : Nat) (h F : Nat → Int) (v : Value) (n : Nat) (c : Nat → Nat) (p : Nat → Int) : Prop where
  bx : Boxed wr Bf b R C N h
  out : OwnI wr w.heap.size (.slice (some ⟨bo, 0, none⟩) N N) N F
  pl : Pile wr Bp (Bp + 1) v n c p
  lt : b < w.heap.size ∧ w.heap.size ≤ Bf ∧ Bf < bo ∧ bo < Bp
  bel : Below w.heap.size w wr
section
variable {w wr w1 : World} {Bf b bo Bp R C N : Nat} {h F : Nat → Int} {v v1 : Value} {n n1 : Nat} {c c1 : Nat → Nat} {p p1 : Nat → Int}
theorem Pas.keep (H : Pas w wr Bf b bo Bp R C N h F v n c p) (hb : Below wr.heap.size wr w1) : Pas w w1 Bf b bo Bp R C N h F v n c p :=
  ⟨H.bx.below hb, H.out.below hb, H.pl.below hb, H.lt, H.bel.trans (hb.mono H.bel.size)⟩
theorem Pas.wrote (H : Pas w wr Bf b bo Bp R C N h F v n c p) {j : Nat} (hj : j < N) (x : Int) : Pas w (wr.setCell ⟨bo, j, none⟩ (.int .i64 x)) Bf b bo Bp R C N h (upd F j x) v n c p := by
  obtain ⟨l1, l2, l3, l4⟩ := H.lt
  refine ⟨⟨(Below.heap_setCell _ _ _ _ (by show Bf ≠ bo; omega)).trans H.bx.box, H.bx.row.setOther (by show b ≠ bo; omega) _⟩, H.out.store hj x, H.pl.far _ (by show bo ≠ Bp; omega) (fun e => ?_), H.lt, H.bel.setCell (by show w.heap.size ≤ bo; omega) _⟩
  have := (H.pl.row.lt e).1
  have e2 : (⟨bo, j, none⟩ : Addr).block = bo := rfl
  omega
theorem PGrew.belowB (hg : PGrew wr w1 Bp v v1) (hv : ∀ k, v.ownBlock = some k → Bp < k) (hB : Bp ≤ wr.heap.size) : Below Bp wr w1 :=
  ⟨hg.os, hg.tape, hg.output, hg.size, fun k hk => hg.block k (by omega) (by omega) (fun e => by have := hv k e; omega)⟩
theorem Pas.grown (H : Pas w wr Bf b bo Bp R C N h F v n c p) (hg : PGrew wr w1 Bp v v1) (hp : Pile w1 Bp (Bp + 1) v1 n1 c1 p1) : Pas w w1 Bf b bo Bp R C N h F v1 n1 c1 p1 := by
  obtain ⟨l1, l2, l3, l4⟩ := H.lt
  have hB := Nat.le_of_lt (lt_of_blk H.pl.box)
  have hb := hg.belowB (fun k hk => (H.pl.row.lt hk).1) hB
  exact ⟨⟨(hb.block _ (by omega)).trans H.bx.box, H.bx.row.of_block (hb.block _ (by omega))⟩, OwnS.of_block H.out.s (fun k hk => hb.block _ (by have hk : some bo = some k := hk; injection hk with hk; omega)), hp, H.lt, H.bel.trans (hb.mono (by omega))⟩
/-- A block that is neither the pile's box nor its row. -/
def Safe (wr : World) (Bp : Nat) (v : Value) (x : Nat) : Prop := x < wr.heap.size ∧ x ≠ Bp ∧ v.ownBlock ≠ some x
theorem Safe.below {x : Nat} (hs : Safe wr Bp v x) (hb : Below wr.heap.size wr w1) : Safe w1 Bp v x := ⟨Nat.lt_of_lt_of_le hs.1 hb.size, hs.2⟩
theorem Safe.grown {x : Nat} (hs : Safe wr Bp v x) (hg : PGrew wr w1 Bp v v1) : Safe w1 Bp v1 x := ⟨Nat.lt_of_lt_of_le hs.1 hg.size, hs.2.1, fun e => by
  rcases hg.at_ with h | ⟨k, h, hk⟩
  · exact hs.2.2 (h ▸ e)
  · rw [h] at e; injection e with e; have := hs.1; omega⟩
theorem Safe.same {x : Nat} (hs : Safe wr Bp v x) (hg : PGrew wr w1 Bp v v1) : w1.heap[x]? = wr.heap[x]? := hg.block x hs.1 hs.2.1 hs.2.2
theorem Safe.new {x : Nat} (H : Pile wr Bp (Bp + 1) v n c p) (hb : Below wr.heap.size wr w1) (h1 : wr.heap.size ≤ x) (h2 : x < w1.heap.size) : Safe w1 Bp v x :=
  ⟨h2, by have := lt_of_blk H.box; omega, fun e => by have := (H.row.lt e).2; omega⟩
end

set_option maxHeartbeats 1500000 in
set_option maxRecDepth 100000 in
theorem passes_any (R C N b a : Nat) (h : Nat → Int) (w : World) (hC1 : 1 ≤ C) (hR : R ≤ 1000) (hC : C ≤ 1000) (hN2 : N ≤ 49) (hN : Hid (N = R * C)) (ha : a < N) (hh : Hid (∀ i, i < R * C → 0 ≤ h i ∧ h i ≤ 99)) (hrow : Hid (w.rowIs b 3 N (fun i => .int .i64 (h i)))) :
    Calls Try.prog 73 #[.agg #[.int .i64 R, .int .i64 C, .slice (some ⟨b, 0, none⟩) N N], .int .i64 a] w (RetPI N (passV R C h a) w) := by
  have hblt := hrow.out.lt
  have HB0 := Lib.hid (Boxed.new (R := R) (C := C) hrow.out)
  have hbx := below_alloc w (.cells #[.int .i64 R, .int .i64 C, .slice (some ⟨b, 0, none⟩) N N] 49)
  have hmk := run_make_row' (P := Try.prog) 29 3 (.int .i64 0) 8 Try.underlying29 Try.infoI rfl .i64 .i64 N (by omega) (by omega)
  have x2 := cell_of_blk (i := 2) HB0.out.box rfl
  have HRow : Hid (((w.alloc (.cells #[.int .i64 R, .int .i64 C, .slice (some ⟨b, 0, none⟩) N N] 49)).alloc (.cells (madeCells #[.int .i64 0] N) 3)).rowIs (w.heap.size + 1) 3 N (fun _ => .int .i64 0)) := by
    have := World.rowIs_made (w.alloc (.cells #[.int .i64 R, .int .i64 C, .slice (some ⟨b, 0, none⟩) N N] 49)) (.int .i64 0) N 3
    rwa [show (w.alloc (.cells #[.int .i64 R, .int .i64 C, .slice (some ⟨b, 0, none⟩) N N] 49)).heap.size = w.heap.size + 1 by simp] at this
  have HOut : Hid (OwnI ((w.alloc (.cells #[.int .i64 R, .int .i64 C, .slice (some ⟨b, 0, none⟩) N N] 49)).alloc (.cells (madeCells #[.int .i64 0] N) 3)) w.heap.size (.slice (some ⟨w.heap.size + 1, 0, none⟩) N N) N (fun _ => 0)) := own_of_row HRow.out (Nat.le_succ _) (by omega)
  have HBx1 : Hid (Boxed ((w.alloc (.cells #[.int .i64 R, .int .i64 C, .slice (some ⟨b, 0, none⟩) N N] 49)).alloc (.cells (madeCells #[.int .i64 0] N) 3)) w.heap.size b R C N h) := HB0.out.below (below_alloc _ _)
  have hbel0 := hbx.alloc hbx.size (.cells (madeCells #[.int .i64 0] N) 3)
  clear HRow HB0 hbx
  go_enter Try.func73, Try.ntmps73
  go_wp2_with fail
  clear hmk x2
  generalize World.alloc (World.alloc w _) _ = w0 at *
  obtain ⟨Bf, hBf⟩ : ∃ B, B = w.heap.size := ⟨_, rfl⟩
  obtain ⟨bo, hbo⟩ : ∃ B, B = w.heap.size + 1 := ⟨_, rfl⟩
  rw [← hbo] at HOut ⊢
  rw [← hBf] at HBx1
  have HQ1 := Lib.hid hBf
  have HQ2 := Lib.hid hbo
  go_loopw [17] (fun i wr => ∃ (k : Nat) (F : Nat → Int), k ≤ N ∧ i = .int .i64 k ∧ Hid (OwnI wr w.heap.size (.slice (some ⟨bo, 0, none⟩) N N) N F) ∧ Hid (∀ j, j < k → F j = -1) ∧ Hid (Boxed wr Bf b R C N h) ∧ Below w.heap.size w wr) (fun i _ => N - (intOf i).toNat)
  case atStart => exact ⟨0, _, Nat.zero_le _, rfl, HOut.out, fun j hj => absurd hj (Nat.not_lt_zero j), HBx1.out, hbel0⟩
  case round =>
    clear HOut HBx1 hbel0
    obtain ⟨k, F, hk, rfl, HO, HD, HX, hbel⟩ := hrel
    by_cases hlt : k < N
    · obtain ⟨b1, e, _, hbo1, hcells⟩ := HO.out.cells (by omega)
      injection e with e
      injection e with e
      subst e
      obtain ⟨hck, hfk⟩ := hcells k hlt
      have HO3 := Lib.hid (HO.out.store hlt (-1))
      have hb3 := hbel.setCell (show w.heap.size ≤ bo by omega) (p := ⟨bo, k, none⟩) (.int .i64 (-1))
      have HX3 : Hid (Boxed (wr.setCell ⟨bo, k, none⟩ (.int .i64 (-1))) Bf b R C N h) := ⟨(Below.heap_setCell _ _ _ _ (show Bf ≠ bo by omega)).trans HX.out.box, HX.out.row.setOther (show b ≠ bo by omega) _⟩
      clear hcells hBf hbo
      go_wp2_with fail
      go_roundw
      case rel =>
        refine ⟨k + 1, _, by omega, by go_num, HO3.out, fun j hj => ?_, HX3.out, hb3⟩
        by_cases e : j = k
        · subst e; exact upd_at _ _ _
        · rw [upd_ne _ _ e]; exact HD.out j (by omega)
      case measure => simp [intOf]; omega
    · obtain rfl : N = k := by omega
      have HO1 : Hid (OwnI wr w.heap.size (.slice (some ⟨bo, 0, none⟩) N N) N (fun _ => -1)) := HO.out.congr fun i hi => HD.out i hi
      clear HO HD hBf hbo
      have l1 := HQ1.out
      have l2 := HQ2.out
      obtain ⟨Bp, hBp⟩ : ∃ B, B = wr.heap.size := ⟨_, rfl⟩
      have hwl := hbel.size
      have hbo2 : bo < wr.heap.size := by
        obtain ⟨b1, e, _, h2, _⟩ := HO1.out.cells (by omega)
        injection e with e
        injection e with e
        omega
      have HPas : Hid (Pas w (wr.alloc (.cells #[.func (.func 91) #[] #[], .slice none 0 0] 81)) Bf b bo Bp R C N h (fun _ => -1) (.slice none 0 0) 0 (fun _ => 0) (fun _ => 0)) :=
        ⟨HX.out.below (below_alloc _ _), HO1.out.below (below_alloc _ _), ⟨by rw [hBp]; exact heap_alloc_new _ _, OwnP.nil _ _ _ _, by omega, by rw [hBp]; simp⟩, by omega, hbel.alloc hbel.size _⟩
      have x0 := cell_of_blk (i := 2) HPas.out.bx.box rfl
      have x1 := HPas.out.bx.row.cell ha
      have HOk0 : Hid (HpOk (fun _ => 0) 0) := fun k _ hk => absurd hk (Nat.not_lt_zero k)
      clear HO1 HX hbel hwl hbo2
      go_upto_region 8 with (fail)
      rw [← HQ1.out, ← hBp]
      clear l1 l2 hBp
      generalize wr.alloc _ = w1 at *
      go_wp2_with fail
      refine (put_any _ Bp (Bp + 1) _ 0 _ _ a (h a) HPas.out.pl HOk0.out (by omega)).mono ?_
      rintro e w2 ⟨rfl, v2, c2, p2, hP2, hok2, hhas2, hg2⟩
      have HPas2 := Lib.hid (HPas.out.grown hg2 hP2)
      have HOk2 := Lib.hid hok2
      have HDij : Hid (Dij R C h a (fun _ => -1) (Has (0 + 1) c2 p2)) := Dij.start (fun i hi => (hh.out i hi).1) (by rw [← hN.out]; exact ha) fun x y => (hhas2 x y).trans ⟨fun hx => hx.elim (fun ⟨k, hk, _⟩ => absurd hk (Nat.not_lt_zero k)) id, .inr⟩
      have HU0 := Lib.hid (unk_all N)
      clear x0 x1 HPas HOk0 hP2 hok2 hhas2 hg2
      go_wp2_with fail
      go_loopg [8] (5 * N + 1) (fun gk _ wi => ∃ (F : Nat → Int) (v : Value) (n : Nat) (c : Nat → Nat) (p : Nat → Int), Hid (Pas w wi Bf b bo Bp R C N h F v n c p) ∧ Hid (HpOk p n) ∧ Hid (Dij R C h a F (Has n c p)) ∧ Hid (gk = 5 * cnt (fun x => decide (F x < 0)) N + n ∧ n + 4 * cnt (fun x => decide (F x < 0)) N ≤ 4 * N + 1))
      case atStart => exact ⟨_, v2, 0 + 1, c2, p2, HPas2.out, HOk2.out, HDij.out, by rw [HU0.out], by rw [HU0.out]; omega⟩
      case round =>
        clear HPas2 HOk2 HDij HU0
        obtain ⟨F, v, n, c, p, HPs, HOk, HD, HGk⟩ := hrel
        obtain ⟨Av, dv, rfl, hnd⟩ := HPs.out.pl.row.slice
        have x1 := cell_of_blk (i := 1) HPs.out.pl.box rfl
        cases n with
        | zero =>
          have HFin : Hid (∀ i, i < N → F i = passV R C h a i) := fun i hi => (HD.out.done (fun i hi => (hh.out i hi).1) (by rw [← hN.out]; exact ha) (fun x y ⟨k, hk, _⟩ => absurd hk (Nat.not_lt_zero k))).eq (by rw [← hN.out]; exact hi)
          go_wp2_with fail
          go_ret
          exact ⟨_, rfl, HPs.out.out.congr HFin.out, HPs.out.bel⟩
        | succ n =>
          have hnN : n ≤ 900000 := by have := HGk.out.2; omega
          have HIt : Hid (c 0 < R * C ∧ 0 ≤ p 0 ∧ LnkT R C h (p 0) (c 0) a) := HD.out.it _ _ ⟨0, by omega, rfl, rfl⟩
          have hc0 : c 0 < N := by rw [hN.out]; exact HIt.out.1
          have hp0 : 0 ≤ p 0 := HIt.out.2.1
          go_wp2_with fail
          refine (take_any _ Bp (Bp + 1) _ n c p HPs.out.pl HOk.out (by omega)).mono ?_
          rintro e w3 ⟨rfl, v3, c3, p3, hP3, hok3, hh3, hh4, hg3⟩
          have HPs3 := Lib.hid (HPs.out.grown hg3 hP3)
          have HOk3 := Lib.hid hok3
          have HH3 := Lib.hid hh3
          have HH4 := Lib.hid hh4
          have HMax : Hid (∀ x y, Has (n + 1) c p x y → y ≤ p 0) := fun x y ⟨k, hk, _, e2⟩ => by rw [← e2]; exact HOk.out.max k k (Nat.le_refl _) hk
          clear x1 hP3 hok3 hh3 hh4 hg3 HPs HOk hnd
          have HPs4 : Hid (Pas w (w3.alloc (.cells #[.int .i64 (c 0 : Nat), .int .i64 (p 0)] 77)) Bf b bo Bp R C N h F v3 n c3 p3) := HPs3.out.keep (below_alloc _ _)
          have HR4 : Hid ((w3.alloc (.cells #[.int .i64 (c 0 : Nat), .int .i64 (p 0)] 77)).heap[w3.heap.size]? = some (.cells #[.int .i64 (c 0 : Nat), .int .i64 (p 0)] 77 (0, 0))) := heap_alloc_new _ _
          have HSf : Hid (Safe (w3.alloc (.cells #[.int .i64 (c 0 : Nat), .int .i64 (p 0)] 77)) Bp v3 w3.heap.size) := Safe.new HPs3.out.pl (below_alloc _ _) (Nat.le_refl _) (by simp)
          obtain ⟨r8, hr8⟩ : ∃ r, r = w3.heap.size := ⟨_, rfl⟩
          have hBr : Bp < r8 := by have := lt_of_blk HPs3.out.pl.box; omega
          rw [← hr8] at HR4 HSf
          go_upto_region 11 with (fail)
          rw [← hr8]
          clear hr8 HPs3
          generalize w3.alloc _ = w4 at *
          have y0 := cell_of_blk (i := 0) HR4.out rfl
          have y1 := cell_of_blk (i := 1) HR4.out rfl
          obtain ⟨b1, e, _, hbo1, hcells⟩ := HPs4.out.out.cells (by omega)
          injection e with e
          injection e with e
          subst e
          obtain ⟨hck, hfk⟩ := hcells (c 0) hc0
          clear hcells
          by_cases q : 0 ≤ F (c 0)
          · have d1 : decide (0 ≤ F (c 0)) = true := decide_eq_true q
            have HSk : Hid (Dij R C h a F (Has n c3 p3)) := HD.out.skip q HH3.out HH4.out
            clear q
            go_wp2_with fail
            go_roundg (5 * cnt (fun x => decide (F x < 0)) N + n)
            case measure => have := HGk.out; omega
            case rel => exact ⟨F, v3, n, c3, p3, HPs4.out, HOk3.out, HSk.out, rfl, by have := HGk.out; omega⟩
          · have d1 : decide (0 ≤ F (c 0)) = false := decide_eq_false q
            have HTk : Hid (DijAt R C h a (upd F (c 0) (p 0)) (Has n c3 p3) (c 0) 0) := HD.out.take (by omega) ⟨0, by omega, rfl, rfl⟩ HMax.out HH3.out HH4.out
            have HUn : Hid (cnt (fun x => decide (upd F (c 0) (p 0) x < 0)) N + 1 = cnt (fun x => decide (F x < 0)) N) := unk_upd hp0 (by omega) hc0
            have HPs5 := Lib.hid (HPs4.out.wrote hc0 (p 0))
            have HSf5 : Hid (Safe (w4.setCell ⟨bo, c 0, none⟩ (.int .i64 (p 0))) Bp v3 r8) := ⟨by simpa [World.setCell] using HSf.out.1, HSf.out.2⟩
            have HR5 : Hid ((w4.setCell ⟨bo, c 0, none⟩ (.int .i64 (p 0))).heap[r8]? = some (.cells #[.int .i64 (c 0 : Nat), .int .i64 (p 0)] 77 (0, 0))) := by
              have hlt := HPs4.out.lt
              exact (Below.heap_setCell _ _ _ _ (by show r8 ≠ bo; omega)).trans HR4.out
            have HI : Hid (c 0 < R * C) := HIt.out.1
            clear q HD HPs4 HSf HR4 HH3 HH4 HMax HIt
            go_upto_region 13 with (fail)
            clear y0 y1 hck hfk d1
            generalize w4.setCell _ _ = w5 at *
            obtain ⟨F5, hF5⟩ : ∃ F5, F5 = upd F (c 0) (p 0) := ⟨_, rfl⟩
            have HFc : Hid (F5 (c 0) = p 0) := by show _ = _; rw [hF5, upd_at]
            rw [← hF5] at HTk HUn HPs5
            clear hF5
            have x0 := cell_of_blk (i := 0) HPs5.out.bx.box rfl
            have x1 := cell_of_blk (i := 1) HPs5.out.bx.box rfl
            have x2 := cell_of_blk (i := 2) HPs5.out.bx.box rfl
            have y0 := cell_of_blk (i := 0) HR5.out rfl
            have hl4 := nearL_len R C (c 0)
            have HMem : Hid (∀ q, q < (nearL R C (c 0)).length → (nearL R C (c 0)).getD q 0 < N) := fun q hq => by rw [hN.out]; exact nearL_lt HI.out (getD_mem hq)
            go_wp2_with fail
            refine (neighbors_any R C N b (c 0) _ hC1 hR hC HI.out).mono ?_
            rintro e w6 ⟨vn, rfl, hown, hb6⟩
            obtain ⟨An, cn, rfl⟩ := hown.slice
            have HSn : Hid (∀ x, (Value.slice An (nearL R C (c 0)).length cn).ownBlock = some x → Safe w6 Bp v3 x) := fun x hx => Safe.new HPs5.out.pl hb6 (hown.s.lt hx).1 (hown.s.lt hx).2
            have HOL := Lib.hid hown
            have HPs6 := Lib.hid (HPs5.out.keep hb6)
            have HSf6 := Lib.hid (HSf5.out.below hb6)
            have HR6 : Hid (w6.heap[r8]? = some (.cells #[.int .i64 (c 0 : Nat), .int .i64 (p 0)] 77 (0, 0))) := (hb6.block _ (lt_of_blk HR5.out)).trans HR5.out
            have HPas1 : Hid (∀ (op : Nat → Int → Prop) m, DijAt R C h a F5 op (c 0) m → 0 ≤ F5 ((nearL R C (c 0)).getD m 0) → DijAt R C h a F5 op (c 0) (m + 1)) := fun _ _ H hk => H.pass hk
            have HPush : Hid (∀ (op op' : Nat → Int → Prop) m, DijAt R C h a F5 op (c 0) m → m < (nearL R C (c 0)).length → (∀ x y, op' x y ↔ op x y ∨ (x = (nearL R C (c 0)).getD m 0 ∧ y = min (p 0) (h ((nearL R C (c 0)).getD m 0)))) → DijAt R C h a F5 op' (c 0) (m + 1)) := fun op op' m H hm hop => H.push (fun i hi => (hh.out i hi).1) hm (by rw [HFc.out]; exact hop)
            have HEnd : Hid (∀ (op : Nat → Int → Prop), DijAt R C h a F5 op (c 0) (nearL R C (c 0)).length → Dij R C h a F5 op) := fun _ H => H.end_
            clear x0 x1 x2 y0 hown hb6 HPs5 HSf5 HR5
            obtain ⟨lo, hlo⟩ : ∃ lo, lo = w5.heap.size := ⟨_, rfl⟩
            rw [← hlo] at HOL
            generalize nearL R C (c 0) = ll at *
            go_wp2_with fail
            go_loopw [55] (fun i wi => ∃ (m : Nat) (v : Value) (n' : Nat) (c' : Nat → Nat) (p' : Nat → Int), m ≤ ll.length ∧ i = .int .i64 m ∧ n' ≤ n + m ∧ Hid (Pas w wi Bf b bo Bp R C N h F5 v n' c' p') ∧ Hid (HpOk p' n') ∧ Hid (DijAt R C h a F5 (Has n' c' p') (c 0) m) ∧ Hid (OwnL wi lo (.slice An ll.length cn) ll) ∧ Hid (∀ x, (Value.slice An ll.length cn).ownBlock = some x → Safe wi Bp v x) ∧ Hid (wi.heap[r8]? = some (.cells #[.int .i64 (c 0 : Nat), .int .i64 (p 0)] 77 (0, 0))) ∧ Hid (Safe wi Bp v r8)) (fun i _ => ll.length - (intOf i).toNat)
            case atStart => exact ⟨0, v3, n, c3, p3, Nat.zero_le _, rfl, by omega, HPs6.out, HOk3.out, HTk.out, HOL.out, HSn.out, HR6.out, HSf6.out⟩
            case round =>
              clear HPs6 HOk3 HTk HOL HSn HR6 HSf6
              obtain ⟨m, v, n', c', p', hm, rfl, hnm, HPs, HOk, HD, HOL, HSn, HR, HSf⟩ := hrel
              by_cases hlt : m < ll.length
              · obtain ⟨bl, rfl, hce⟩ := HOL.out.at_ hlt
                have hjN := HMem.out m hlt
                have HP1 := Lib.hid (HPas1.out _ m HD.out)
                have HP2 := Lib.hid (fun op' => HPush.out _ op' m HD.out hlt)
                generalize ll.getD m 0 = jj at *
                obtain ⟨b1, e, _, hbo1, hcells⟩ := HPs.out.out.cells (by omega)
                injection e with e
                injection e with e
                subst e
                have hck := (hcells jj hjN).1
                clear hcells
                by_cases q : F5 jj < 0
                · have y1 := cell_of_blk (i := 1) HR.out rfl
                  have x2 := cell_of_blk (i := 2) HPs.out.bx.box rfl
                  have hcj := HPs.out.bx.row.cell hjN
                  go_wp2_with fail
                  refine wp_region_drew_tail 10 (by kernel_rfl) (by kernel_rfl) ?_
                  simp only [List.take_succ_cons, List.take_zero, List.drop_succ_cons, List.drop_zero]
                  repeat (go_big_quiet_step (fail))
                  refine wpQuiet_nil ?_
                  rintro _ ⟨nq, rfl⟩
                  have hbd : Below wr.heap.size wr (wr.drewN nq) := below_drewN (Below.refl _ _) _
                  have HPsd := Lib.hid (HPs.out.keep hbd)
                  have HOLd := Lib.hid (OwnL.below HOL.out hbd)
                  have HSnd : Hid (∀ x, (Value.slice (some ⟨bl, 0, none⟩) ll.length cn).ownBlock = some x → Safe (wr.drewN nq) Bp v x) := fun x hx => (HSn.out x hx).below hbd
                  have HRd : Hid ((wr.drewN nq).heap[r8]? = some (.cells #[.int .i64 (c 0 : Nat), .int .i64 (p 0)] 77 (0, 0))) := HR.out
                  have HSfd := Lib.hid (HSf.out.below hbd)
                  go_wp2_with fail
                  all_goals (refine (put_any _ Bp (Bp + 1) _ n' c' p' jj _ HPsd.out.pl HOk.out (by omega)).mono ?_)
                  all_goals (rintro e w7 ⟨rfl, v7, c7, p7, hP7, hok7, hhas7, hg7⟩)
                  all_goals (have HPs7 := Lib.hid (HPsd.out.grown hg7 hP7))
                  all_goals (have HOk7 := Lib.hid hok7)
                  all_goals (have HD7 := Lib.hid (HP2.out _ (fun x y => (hhas7 x y).trans (by rw [Int.min_def]; split <;> first | exact Iff.rfl | (exfalso; omega)))))
                  all_goals (have HOL7 : Hid (OwnL w7 lo (.slice (some ⟨bl, 0, none⟩) ll.length cn) ll) := OwnS.of_block HOLd.out.s fun x hx => (HSnd.out x hx).same hg7)
                  all_goals (have HSn7 : Hid (∀ x, (Value.slice (some ⟨bl, 0, none⟩) ll.length cn).ownBlock = some x → Safe w7 Bp v7 x) := fun x hx => (HSnd.out x hx).grown hg7)
                  all_goals (have HR7 : Hid (w7.heap[r8]? = some (.cells #[.int .i64 (c 0 : Nat), .int .i64 (p 0)] 77 (0, 0))) := (HSfd.out.same hg7).trans HRd.out)
                  all_goals (have HSf7 := Lib.hid (HSfd.out.grown hg7))
                  all_goals (clear hP7 hok7 hhas7 hg7)
                  all_goals (go_wp2_with fail)
                  all_goals go_roundw
                  all_goals first
                    | exact ⟨m + 1, v7, n' + 1, c7, p7, by omega, by go_num, by omega, HPs7.out, HOk7.out, HD7.out, HOL7.out, HSn7.out, HR7.out, HSf7.out⟩
                    | (simp [intOf]; omega)
                · have HP3 := Lib.hid (HP1.out (by omega))
                  go_wp2_with fail
                  go_roundw
                  case rel => exact ⟨m + 1, v, n', c', p', by omega, by go_num, by omega, HPs.out, HOk.out, HP3.out, HOL.out, HSn.out, HR.out, HSf.out⟩
                  case measure => simp [intOf]; omega
              · have HM : Hid (m = ll.length) := by show m = ll.length; omega
                go_wp2_with fail
                go_roundg (5 * cnt (fun x => decide (F5 x < 0)) N + n')
                case measure => have := HGk.out; have := HUn.out; omega
                case rel => exact ⟨F5, v, n', c', p', HPs.out, HOk.out, HEnd.out _ (by rw [← HM.out]; exact HD.out), rfl, by have := HGk.out; have := HUn.out; omega⟩

end Go.Proofs.Ytgekjhmjjjkibaa
