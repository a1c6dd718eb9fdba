/- A step is put into the program's heap. -/
import Derived.Test.YtgekjhmjjjkibaaPil
import Derived.Test.YtgekjhmjjjkibaaLoose
import Derived.Deep.AppendLies
import Derived.Deep.RegionLaw
import Derived.BigRegion
namespace Go.Proofs.Ytgekjhmjjjkibaa
set_option linter.unusedVariables false
set_option linter.unusedSimpArgs false
open Go.RowKit

/-- The step is in the heap. -/
def RetPut (w : World) (Bp lo : Nat) (v : Value) (n : Nat) (c : Nat → Nat) (p : Nat → Int) (x : Nat) (y : Int) (e : Ending) (w' : World) : Prop :=
  e = .returned (.tuple #[]) ∧ ∃ v' c' p', Pile w' Bp lo v' (n + 1) c' p' ∧ HpOk p' (n + 1) ∧ (∀ a b, Has (n + 1) c' p' a b ↔ Has n c p a b ∨ (a = x ∧ b = y)) ∧ PGrew w w' Bp v v'

theorem hpUp_put {p : Nat → Int} {n : Nat} (h : HpOk p n) (y : Int) : HpUp (fun k => if k < n then p k else y) (n + 1) n := by
  refine ⟨by omega, fun k h0 hk hne => ?_, fun k h0 hk e h1 => by omega⟩
  show (if k < n then p k else y) ≤ (if (k - 1) / 2 < n then p ((k - 1) / 2) else y)
  rw [if_pos (show k < n by omega), if_pos (show (k - 1) / 2 < n by omega)]
  exact h k h0 (by omega)
theorem has_put {n : Nat} (c : Nat → Nat) (p : Nat → Int) (x : Nat) (y : Int) (a : Nat) (b : Int) : Has (n + 1) (fun k => if k < n then c k else x) (fun k => if k < n then p k else y) a b ↔ Has n c p a b ∨ (a = x ∧ b = y) := by
  constructor
  · rintro ⟨k, hk, e1, e2⟩
    by_cases hlt : k < n
    · simp only [if_pos hlt] at e1 e2; exact .inl ⟨k, hlt, e1, e2⟩
    · simp only [if_neg hlt] at e1 e2; exact .inr ⟨e1.symm, e2.symm⟩
  · rintro (⟨k, hk, e1, e2⟩ | ⟨rfl, rfl⟩)
    · exact ⟨k, by omega, by simp only [if_pos hk]; exact e1, by simp only [if_pos hk]; exact e2⟩
    · exact ⟨n, by omega, by simp, by simp⟩
theorem put_appended {w W2 w' : World} {Bp lo n : Nat} {v : Value} {c : Nat → Nat} {p : Nat → Int} {x : Nat} {y : Int} {g cap : Nat} (HP : Pile w Bp lo v n c p)
    (HBox : W2.heap[Bp]? = some (.cells #[.func (.func 91) #[] #[], v] 81 (0, 0))) (hb2 : Below w.heap.size w W2)
    (hown : w'.ownsRow lo 77 2 (.slice (some ⟨g, 0, none⟩) (n + 1) cap) (n + 1) (((List.range (n * 2)).map fun k => .int .i64 (if k % 2 = 0 then ((c (k / 2) : Nat) : Int) else p (k / 2))) ++ [.int .i64 x, .int .i64 y]))
    (hgrow : W2.grownBy w' v.ownBlock) (hat : v.ownBlock = some g ∨ g = W2.heap.size) (hlt : g < w'.heap.size) :
    Pile (w'.setCell ⟨Bp, 1, none⟩ (.slice (some ⟨g, 0, none⟩) (n + 1) cap)) Bp lo (.slice (some ⟨g, 0, none⟩) (n + 1) cap) (n + 1) (fun k => if k < n then c k else x) (fun k => if k < n then p k else y) ∧
      PGrew w (w'.setCell ⟨Bp, 1, none⟩ (.slice (some ⟨g, 0, none⟩) (n + 1) cap)) Bp v (.slice (some ⟨g, 0, none⟩) (n + 1) cap) := by
  have hBl := lt_of_blk HBox
  have hNE : some Bp ≠ v.ownBlock := fun e => HP.blk e.symm rfl
  have hbx := (hgrow.block Bp hBl hNE).trans HBox
  have hs := OwnP.snoc (c := fun k => ((c k : Nat) : Int)) (p := p) hown
  have hgB : g ≠ Bp := by
    rcases hat with h | h
    · exact fun e => hNE (by rw [h, e])
    · omega
  refine ⟨⟨?_, ?_, HP.lt.1, ?_⟩, ?_⟩
  · simp only [World.setCell, Array.getElem?_modify, if_true, hbx]
    rfl
  · refine OwnP.congr (hs.of_block fun k hk => ?_) (fun k hk => ?_) (fun k hk => ?_)
    · have hk : g = k := by simpa [Value.ownBlock] using hk
      subst hk
      exact Below.heap_setCell _ _ _ _ hgB
    · show (if k < n then ((c k : Nat) : Int) else (x : Int)) = ((if k < n then c k else x : Nat) : Int)
      split <;> rfl
    · rfl
  · have h1 := HP.lt.2
    have h2 := hb2.size
    have h3 := hgrow.size
    simp only [World.setCell, Array.size_modify]
    omega
  · refine PGrew.store (v' := .slice (some ⟨g, 0, none⟩) (n + 1) cap) ⟨hgrow.os.trans hb2.os, hgrow.tape.trans hb2.tape, hgrow.output.trans hb2.output, Nat.le_trans hb2.size hgrow.size, fun k hk hB hv => ?_, ?_⟩ _ _ (.inl rfl)
    · exact (hgrow.block k (Nat.lt_of_lt_of_le hk hb2.size) (fun e => hv e.symm)).trans (hb2.block k hk)
    · rcases hat with h | h
      · exact .inl h.symm
      · exact .inr ⟨g, rfl, by have := hb2.size; omega⟩

set_option maxHeartbeats 1500000 in
set_option maxRecDepth 100000 in
theorem put_any (w : World) (Bp lo : Nat) (v : Value) (n : Nat) (c : Nat → Nat) (p : Nat → Int) (x : Nat) (y : Int) (hP : Pile w Bp lo v n c p) (hok : HpOk p n) (hn : n ≤ 1000000) :
    Calls Try.prog 92 #[.pointer (some ⟨Bp, 0, none⟩), .agg #[.int .i64 x, .int .i64 y]] w (RetPut w Bp lo v n c p x y) := by
  have HP := Lib.hid hP
  have HO := Lib.hid hok
  have hb0 := lt_of_blk hP.box
  clear hP hok
  skip
  have hx0 : (w.alloc (.cells #[.int .i64 x, .int .i64 y] 77)).heap[Bp]? = _ := (Below.heap_alloc w _ Bp hb0).trans HP.out.box
  have k0 := cell_of_blk (i := 0) hx0 rfl
  have k1 := cell_of_blk (i := 1) hx0 rfl
  have hx1 : (w.alloc (.cells #[.int .i64 x, .int .i64 y] 77)).heap[w.heap.size]? = _ := heap_alloc_new w _
  have k2 := cell_of_blk (i := 0) hx1 rfl
  have k3 := cell_of_blk (i := 1) hx1 rfl
  have hf : (w.alloc (.cells #[.int .i64 x, .int .i64 y] 77)).frozen? ⟨Bp, 1, none⟩ = false := by simp [World.frozen?, hx0]
  have hb1 : Below w.heap.size w (w.alloc (.cells #[.int .i64 x, .int .i64 y] 77)) := below_alloc _ _
  generalize hW1 : w.alloc (.cells #[.int .i64 x, .int .i64 y] 77) = W1 at *
  obtain ⟨W2, hW2⟩ : ∃ W, W = (W1.alloc (.cells #[.int .i64 x, .int .i64 y] 77)).drew := ⟨_, rfl⟩
  have hb2 : Below w.heap.size w W2 := by rw [hW2]; exact (hb1.alloc hb1.size _).drew
  have hs2 : W2.heap.size = W1.heap.size + 1 := by rw [hW2]; simp [World.drew]
  have HOw : Hid (W2.ownsRow lo 77 2 v n ((List.range (n * 2)).map fun k => .int .i64 (if k % 2 = 0 then ((c (k / 2) : Nat) : Int) else p (k / 2)))) := HP.out.row.below hb2
  have HNews : Hid (∀ j u, [Value.int .i64 x, Value.int .i64 y][j]? = some u → W2.cell? ((⟨W1.heap.size, 0, none⟩ : Addr).add j) = some u) := by
    show ∀ j u, _
    rw [hW2]
    exact World.news_of_block (cs := #[.int .i64 x, .int .i64 y]) (heap_alloc_new W1 _)
  have HBox : Hid (W2.heap[Bp]? = some (.cells #[.func (.func 91) #[] #[], v] 81 (0, 0))) := (hb2.block _ hb0).trans HP.out.box
  have HBl : Hid ((⟨Bp, 1, none⟩ : Addr).block < W2.heap.size) := lt_of_blk HBox.out
  have HNE : Hid (some (⟨Bp, 1, none⟩ : Addr).block ≠ v.ownBlock) := fun e => HP.out.blk e.symm rfl
  have HE1 : Hid (W2.cell? ⟨Bp, 1, none⟩ = some v) := cell_of_blk (i := 1) HBox.out rfl
  have k4 : (W1.alloc (.cells #[.int .i64 x, .int .i64 y] 77)).cell? ⟨Bp, 1, none⟩ = some v := by rw [hW2] at HE1; exact HE1.out
  have HE2 : Hid (W2.frozen? ⟨Bp, 1, none⟩ = false) := by show _ = _; simp [World.frozen?, HBox.out]
  obtain ⟨i0, hi0, hz0, hz1, hz2⟩ := info_parts2 (P := Try.prog) (e := 77) (z := .agg #[.int .i64 0, .int .i64 0]) (bytes := 16) (by kernel_rfl)
  have HI := Lib.hid hi0
  have HZ := Lib.hid hz0
  have HZ1 := Lib.hid hz1
  have HZ2 := Lib.hid hz2
  have HW2 := Lib.hid hW2
  clear hW2 hi0 hz0 hz1 hz2
  have HLo : Hid (lo ≤ W2.heap.size) := Nat.le_trans HP.out.lt.2 hb2.size
  go_enter Try.func92, Try.ntmps92
  go_upto_region 1 with (fail)
  go_cut [13] (fun v1 wc => Pile wc Bp lo v1 (n + 1) (fun k => if k < n then c k else x) (fun k => if k < n then p k else y) ∧ PGrew w wc Bp v v1)
  case first =>
    go_region_law (rw [← HW2.out]; refine step_append_lies W2 rfl (.tmp 10) (.tmp 12) 79 rfl lo 77 i0 _ 2 16 Try.underlying79 HI.out HZ.out HZ1.out HZ2.out rfl (by decide) v n _ (by simp [Act.eval, Act.put]) HOw.out ⟨W1.heap.size, 0, none⟩ 1 1 [.int .i64 x, .int .i64 y] (by simp [Act.eval, Act.put]) rfl HNews.out (by simp [Value.oneCell']) (by decide) (by unfold maxLen; omega) (by omega) HLo.out W2.heap.size rfl ?_; intro g cap w' hown hgrow hat hlt; have e1 := (hgrow.cell_far ⟨Bp, 1, none⟩ HBl.out HNE.out).trans HE1.out; have e2 := (hgrow.frozen_far ⟨Bp, 1, none⟩ HBl.out HNE.out).trans HE2.out)
    all_goals (go_wp2_with fail; go_meet; case rel => exact put_appended HP.out HBox.out hb2 hown hgrow hat hlt)
  case rest =>
    obtain ⟨hPc, hgr⟩ := hcut
    obtain ⟨b, d, cur, rfl, hlob, hcb, hnd, hcs, _⟩ := hPc.row.cells (by omega)
    obtain ⟨c1, hc1⟩ : ∃ c1, c1 = fun k => if k < n then c k else x := ⟨_, rfl⟩
    obtain ⟨p1, hp1⟩ : ∃ p1, p1 = fun k => if k < n then p k else y := ⟨_, rfl⟩
    rw [← hc1, ← hp1] at hPc
    have HP1 := Lib.hid hPc
    have HG1 := Lib.hid hgr
    have HU : Hid (HpUp p1 (n + 1) n) := by rw [hp1]; exact hpUp_put HO.out y
    have HS : Hid (∀ a b, Has (n + 1) c1 p1 a b ↔ Has n c p a b ∨ (a = x ∧ b = y)) := by rw [hc1, hp1]; exact fun a b => has_put c p x y a b
    have y1 := cell_of_blk (i := 1) hPc.box rfl
    clear hPc hgr hc1 hp1 hcb hcs hlob HOw HNews HBox HI HZ HZ1 HZ2 HW2 HLo HBl HNE HE1 HE2 hx0 k0 k1 hx1 k2 k3 k4 hf hb1 hb2 hs2 hW1
    go_wp2_with fail
    go_loopw [4] (fun i wr => ∃ (k : Nat) (c' : Nat → Nat) (p' : Nat → Int), k < n + 1 ∧ i = .int .i64 k ∧ Hid (Pile wr Bp lo (.slice (some ⟨b, 0, none⟩) (n + 1) d) (n + 1) c' p') ∧ Hid (HpUp p' (n + 1) k) ∧ Hid (∀ a b, Has (n + 1) c' p' a b ↔ Has n c p a b ∨ (a = x ∧ b = y)) ∧ Hid (PGrew w wr Bp v (.slice (some ⟨b, 0, none⟩) (n + 1) d))) (fun i _ => (intOf i).toNat)
    case atStart => exact ⟨n, c1, p1, by omega, rfl, HP1.out, HU.out, HS.out, HG1.out⟩
    case round =>
      clear HP1 HU HS HG1 y1
      obtain ⟨k, c', p', hk, rfl, HP1, HU, HS, HG⟩ := hrel
      rcases Nat.eq_zero_or_pos k with h0 | h0
      · subst h0
        go_wp2_with fail
        go_end0
        exact ⟨rfl, _, c', p', HP1.out, HU.out.stop (.inl rfl), HS.out, HG.out⟩
      · -- LOOP
        obtain ⟨u, hu⟩ : ∃ u, u = (k - 1) / 2 := ⟨_, rfl⟩
        have hun : u < n + 1 := by omega
        have huk : u ≠ k := by omega
        have hul : u < k := by omega
        have e1 : Int.tdiv ((k : Int) - 1) 2 = (u : Int) := by rw [Int.tdiv_eq_ediv_of_nonneg (by omega)]; omega
        have e2 : ((k : Int) - 1) / 2 = (u : Int) := by omega
        have e3 : ((k - 1 : Nat) : Int) / 2 = (u : Int) := by omega
        obtain ⟨b', d', cur, he, hlob, hcb, _, hcs, hat⟩ := HP1.out.row.cells (by omega)
        injection he with he1 he2 he3
        injection he1 with he1
        injection he1 with he1
        subst he1 he3
        have HC0 : Hid (wr.cell? ⟨Bp, 0, none⟩ = some (.func (.func 91) #[] #[])) := cell_of_blk (i := 0) HP1.out.box rfl
        have HC1 : Hid (wr.cell? ⟨Bp, 1, none⟩ = some (.slice (some ⟨b, 0, none⟩) (n + 1) d)) := cell_of_blk (i := 1) HP1.out.box rfl
        have HI0 : Hid (wr.cell? ⟨b, k * 2, none⟩ = some (.int .i64 (c' k : Nat))) := cell_of_blk hcb (hat k hk).1
        have HI1 : Hid (wr.cell? ⟨b, k * 2 + 1, none⟩ = some (.int .i64 (p' k))) := cell_of_blk hcb (hat k hk).2
        have HU0 : Hid (wr.cell? ⟨b, u * 2, none⟩ = some (.int .i64 (c' u : Nat))) := cell_of_blk hcb (hat u hun).1
        have HU1 : Hid (wr.cell? ⟨b, u * 2 + 1, none⟩ = some (.int .i64 (p' u))) := cell_of_blk hcb (hat u hun).2
        have HF : Hid (∀ o, wr.frozen? ⟨b, o, none⟩ = false) := fun o => by simp [World.frozen?, hcb]
        have HU' : Hid (k = 0 ∨ p' k ≤ p' u → HpOk p' (n + 1)) := fun h => HU.out.stop (by rw [← hu]; omega)
        have HUg : Hid (p' u < p' k → HpUp (swapI p' k u) (n + 1) u) := fun h => by have := HU.out.go h0 (by rw [← hu]; exact h); rwa [← hu] at this
        have HUu := Lib.hid hu
        clear hat hcs hlob hcb hu
        go_wp2_with fail
        refine wp_region_phi (N := 20) (C := fun _ w4 => Below wr.heap.size wr w4) (R := fun w4 w5 => Below w4.heap.size w4 w5) (φ := fun j v w4 => ([fun v _ => v = .pointer (some ⟨Bp, 0, none⟩), fun v _ => v = .pointer (some ⟨Bp, 0, none⟩), fun v _ => v = .pointer (some ⟨Bp, 0, none⟩), fun v _ => v = .func (.func 91) #[] #[], fun v _ => v = .pointer (some ⟨Bp, 0, none⟩), fun v _ => v = .pointer (some ⟨Bp, 0, none⟩), fun v _ => v = .pointer (some ⟨Bp, 1, none⟩), fun v _ => v = .slice (some ⟨b, 0, none⟩) (n + 1) d, fun v _ => v = .int .i64 (k : Nat), fun v _ => v = .pointer (some ⟨b, k * 2, none⟩), fun v _ => v = .agg #[.int .i64 (c' k : Nat), .int .i64 (p' k)], fun v _ => v = .pointer (some ⟨Bp, 0, none⟩), fun v _ => v = .pointer (some ⟨Bp, 0, none⟩), fun v _ => v = .pointer (some ⟨Bp, 1, none⟩), fun v _ => v = .slice (some ⟨b, 0, none⟩) (n + 1) d, fun v _ => v = .int .i64 (u : Nat), fun v _ => v = .pointer (some ⟨b, u * 2, none⟩), fun v _ => v = .agg #[.int .i64 (c' u : Nat), .int .i64 (p' u)], fun v _ => v = .bool (decide (p' u < p' k)), fun v _ => v = .bool (!decide (p' u < p' k))] : List (Value → World → Prop)).getD j (fun _ _ => True) v w4) (by kernel_rfl) (by kernel_rfl) (by kernel_rfl) ?_ (Below.refl _ _).drew ?_ ?_
        · intro j v w4 w5 hb hv
          match j with
          | 0 | 1 | 2 | 3 | 4 | 5 | 6 | 7 | 8 | 9 | 10 | 11 | 12 | 13 | 14 | 15 | 16 | 17 | 18 | 19 => exact hv
          | j + 20 => exact hv
        · refine ⟨?_, ?_, ?_, ?_, ?_, ?_, ?_, ?_, ?_, ?_, ?_, ?_, ?_, ?_, ?_, ?_, ?_, ?_, ?_, ?_, trivial⟩
          · intro k9 w4 hC hk9
            refine givenD_go (ds' := []) (by kernel_rfl) ?_
            simp only [givenD, List.getD_cons_zero, List.getD_cons_succ]
            go_wp2_with fail
            exact ⟨rfl, rfl, hC, Below.refl _ _, rfl⟩
          · intro k9 w4 hC hk9
            refine givenD_go (ds' := [(0, 27)]) (by kernel_rfl) ?_
            simp only [givenD, List.getD_cons_zero, List.getD_cons_succ]
            rintro _ rfl
            simp only [Act.put, List.setIfInBounds_toArray, List.set_cons_zero, List.set_cons_succ]
            go_wp2_with fail
            exact ⟨rfl, rfl, hC, Below.refl _ _, rfl⟩
          · intro k9 w4 hC hk9
            refine givenD_go (ds' := [(1, 28)]) (by kernel_rfl) ?_
            simp only [givenD, List.getD_cons_zero, List.getD_cons_succ]
            rintro _ rfl
            simp only [Act.put, List.setIfInBounds_toArray, List.set_cons_zero, List.set_cons_succ]
            go_wp2_with fail
            exact ⟨rfl, rfl, hC, Below.refl _ _, rfl⟩
          · intro k9 w4 hC hk9
            refine givenD_go (ds' := [(2, 29)]) (by kernel_rfl) ?_
            simp only [givenD, List.getD_cons_zero, List.getD_cons_succ]
            rintro _ rfl
            simp only [Act.put, List.setIfInBounds_toArray, List.set_cons_zero, List.set_cons_succ]
            have hcx := (hC.cell (World.block_lt_of_cell? wr _ HC0.out)).trans HC0.out
            go_wp2_with fail
            exact ⟨rfl, rfl, hC, Below.refl _ _, rfl⟩
          · intro k9 w4 hC hk9
            refine givenD_go (ds' := []) (by kernel_rfl) ?_
            simp only [givenD, List.getD_cons_zero, List.getD_cons_succ]
            go_wp2_with fail
            exact ⟨rfl, rfl, hC, Below.refl _ _, rfl⟩
          · intro k9 w4 hC hk9
            refine givenD_go (ds' := [(4, 31)]) (by kernel_rfl) ?_
            simp only [givenD, List.getD_cons_zero, List.getD_cons_succ]
            rintro _ rfl
            simp only [Act.put, List.setIfInBounds_toArray, List.set_cons_zero, List.set_cons_succ]
            go_wp2_with fail
            exact ⟨rfl, rfl, hC, Below.refl _ _, rfl⟩
          · intro k9 w4 hC hk9
            refine givenD_go (ds' := [(5, 32)]) (by kernel_rfl) ?_
            simp only [givenD, List.getD_cons_zero, List.getD_cons_succ]
            rintro _ rfl
            simp only [Act.put, List.setIfInBounds_toArray, List.set_cons_zero, List.set_cons_succ]
            go_wp2_with fail
            exact ⟨rfl, rfl, hC, Below.refl _ _, rfl⟩
          · intro k9 w4 hC hk9
            refine givenD_go (ds' := [(6, 33)]) (by kernel_rfl) ?_
            simp only [givenD, List.getD_cons_zero, List.getD_cons_succ]
            rintro _ rfl
            simp only [Act.put, List.setIfInBounds_toArray, List.set_cons_zero, List.set_cons_succ]
            have hcx := (hC.cell (World.block_lt_of_cell? wr _ HC1.out)).trans HC1.out
            go_wp2_with fail
            exact ⟨rfl, rfl, hC, Below.refl _ _, rfl⟩
          · intro k9 w4 hC hk9
            refine givenD_go (ds' := []) (by kernel_rfl) ?_
            simp only [givenD, List.getD_cons_zero, List.getD_cons_succ]
            go_wp2_with fail
            exact ⟨rfl, rfl, hC, Below.refl _ _, rfl⟩
          · intro k9 w4 hC hk9
            refine givenD_go (ds' := [(7, 34), (8, 35)]) (by kernel_rfl) ?_
            simp only [givenD, List.getD_cons_zero, List.getD_cons_succ]
            rintro _ rfl
            rintro _ rfl
            simp only [Act.put, List.setIfInBounds_toArray, List.set_cons_zero, List.set_cons_succ]
            go_wp2_with fail
            exact ⟨rfl, rfl, hC, Below.refl _ _, rfl⟩
          · intro k9 w4 hC hk9
            refine givenD_go (ds' := [(9, 36)]) (by kernel_rfl) ?_
            simp only [givenD, List.getD_cons_zero, List.getD_cons_succ]
            rintro _ rfl
            simp only [Act.put, List.setIfInBounds_toArray, List.set_cons_zero, List.set_cons_succ]
            have hcx := (hC.cell (World.block_lt_of_cell? wr _ HI0.out)).trans HI0.out
            have hcy := (hC.cell (World.block_lt_of_cell? wr _ HI1.out)).trans HI1.out
            go_wp2_with fail
            exact ⟨rfl, rfl, hC, Below.refl _ _, rfl⟩
          · intro k9 w4 hC hk9
            refine givenD_go (ds' := []) (by kernel_rfl) ?_
            simp only [givenD, List.getD_cons_zero, List.getD_cons_succ]
            go_wp2_with fail
            exact ⟨rfl, rfl, hC, Below.refl _ _, rfl⟩
          · intro k9 w4 hC hk9
            refine givenD_go (ds' := [(11, 38)]) (by kernel_rfl) ?_
            simp only [givenD, List.getD_cons_zero, List.getD_cons_succ]
            rintro _ rfl
            simp only [Act.put, List.setIfInBounds_toArray, List.set_cons_zero, List.set_cons_succ]
            go_wp2_with fail
            exact ⟨rfl, rfl, hC, Below.refl _ _, rfl⟩
          · intro k9 w4 hC hk9
            refine givenD_go (ds' := [(12, 39)]) (by kernel_rfl) ?_
            simp only [givenD, List.getD_cons_zero, List.getD_cons_succ]
            rintro _ rfl
            simp only [Act.put, List.setIfInBounds_toArray, List.set_cons_zero, List.set_cons_succ]
            go_wp2_with fail
            exact ⟨rfl, rfl, hC, Below.refl _ _, rfl⟩
          · intro k9 w4 hC hk9
            refine givenD_go (ds' := [(13, 40)]) (by kernel_rfl) ?_
            simp only [givenD, List.getD_cons_zero, List.getD_cons_succ]
            rintro _ rfl
            simp only [Act.put, List.setIfInBounds_toArray, List.set_cons_zero, List.set_cons_succ]
            have hcx := (hC.cell (World.block_lt_of_cell? wr _ HC1.out)).trans HC1.out
            go_wp2_with fail
            exact ⟨rfl, rfl, hC, Below.refl _ _, rfl⟩
          · intro k9 w4 hC hk9
            refine givenD_go (ds' := []) (by kernel_rfl) ?_
            simp only [givenD, List.getD_cons_zero, List.getD_cons_succ]
            go_wp2_with fail
            exact ⟨rfl, rfl, hC, Below.refl _ _, rfl⟩
          · intro k9 w4 hC hk9
            refine givenD_go (ds' := [(14, 41), (15, 42)]) (by kernel_rfl) ?_
            simp only [givenD, List.getD_cons_zero, List.getD_cons_succ]
            rintro _ rfl
            rintro _ rfl
            simp only [Act.put, List.setIfInBounds_toArray, List.set_cons_zero, List.set_cons_succ]
            go_wp2_with fail
            exact ⟨rfl, rfl, hC, Below.refl _ _, rfl⟩
          · intro k9 w4 hC hk9
            refine givenD_go (ds' := [(16, 43)]) (by kernel_rfl) ?_
            simp only [givenD, List.getD_cons_zero, List.getD_cons_succ]
            rintro _ rfl
            simp only [Act.put, List.setIfInBounds_toArray, List.set_cons_zero, List.set_cons_succ]
            have hcx := (hC.cell (World.block_lt_of_cell? wr _ HU0.out)).trans HU0.out
            have hcy := (hC.cell (World.block_lt_of_cell? wr _ HU1.out)).trans HU1.out
            go_wp2_with fail
            exact ⟨rfl, rfl, hC, Below.refl _ _, rfl⟩
          · intro k9 w4 hC hk9
            refine givenD_go (ds' := [(3, 30), (10, 37), (17, 44)]) (by kernel_rfl) ?_
            simp only [givenD, List.getD_cons_zero, List.getD_cons_succ]
            rintro _ rfl
            rintro _ rfl
            rintro _ rfl
            simp only [Act.put, List.setIfInBounds_toArray, List.set_cons_zero, List.set_cons_succ]
            go_wp2_with fail
            refine (ahead_any _ _ _ _ _).mono ?_
            rintro e w5 ⟨rfl, hb5⟩
            go_wp2_with fail
            exact ⟨rfl, rfl, hC.trans (hb5.mono hC.size), hb5, rfl⟩
          · intro k9 w4 hC hk9
            refine givenD_go (ds' := [(18, 45)]) (by kernel_rfl) ?_
            simp only [givenD, List.getD_cons_zero, List.getD_cons_succ]
            rintro _ rfl
            simp only [Act.put, List.setIfInBounds_toArray, List.set_cons_zero, List.set_cons_succ]
            go_wp2_with fail
            exact ⟨rfl, rfl, hC, Below.refl _ _, rfl⟩
        · intro w4 hC
          simp only [givenAll, List.getD_cons_zero, List.getD_cons_succ]
          rintro _ rfl _ rfl _ rfl _ rfl _ rfl _ rfl _ rfl _ rfl _ rfl _ rfl _ rfl _ rfl _ rfl _ rfl _ rfl _ rfl _ rfl _ rfl _ rfl _ rfl
          simp only [Act.put, List.setIfInBounds_toArray, List.set_cons_zero, List.set_cons_succ]
          have HP4 := Lib.hid (HP1.out.below hC)
          have HG4 := Lib.hid (HG.out.below hC)
          cases d1 : decide (p' u < p' k)
          rotate_left
          · have q := of_decide_eq_true d1
            have HUq := Lib.hid (HUg.out q)
            have hC0 := (hC.cell (World.block_lt_of_cell? wr _ HC0.out)).trans HC0.out
            have hC1 := (hC.cell (World.block_lt_of_cell? wr _ HC1.out)).trans HC1.out
            have hI0 := (hC.cell (World.block_lt_of_cell? wr _ HI0.out)).trans HI0.out
            have hI1 := (hC.cell (World.block_lt_of_cell? wr _ HI1.out)).trans HI1.out
            have hU0 := (hC.cell (World.block_lt_of_cell? wr _ HU0.out)).trans HU0.out
            have hU1 := (hC.cell (World.block_lt_of_cell? wr _ HU1.out)).trans HU1.out
            have hb4 : b < wr.heap.size := World.block_lt_of_cell? wr _ HI0.out
            have f0 := (hC.frozen (p := ⟨b, k * 2, none⟩) hb4).trans (HF.out _)
            have f1 := (hC.frozen (p := ⟨b, k * 2 + 1, none⟩) hb4).trans (HF.out _)
            have f2 := (hC.frozen (p := ⟨b, u * 2, none⟩) hb4).trans (HF.out _)
            have f3 := (hC.frozen (p := ⟨b, u * 2 + 1, none⟩) hb4).trans (HF.out _)
            clear q e1 e2 e3
            go_wp2_with fail
            clear d1
            go_region
            go_wp2_with fail
            go_roundw
            case rel => exact ⟨u, swapI c' k u, swapI p' k u, hun, rfl, (HP4.out.swap hk hun huk).drew, HUq.out, fun a b => (Has.swap hk hun a b).trans (HS.out a b), HG4.out.swap _ _ _ _⟩
            case measure => simp [intOf]; omega
          · have q := of_decide_eq_false d1
            have HOk := Lib.hid (HU'.out (.inr (Int.not_lt.1 q)))
            clear q
            go_wp2_with fail
            go_end0
            exact ⟨rfl, _, c', p', HP4.out, HOk.out, HS.out, HG4.out⟩

end Go.Proofs.Ytgekjhmjjjkibaa
