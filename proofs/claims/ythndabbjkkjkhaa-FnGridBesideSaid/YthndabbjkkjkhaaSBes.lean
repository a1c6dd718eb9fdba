/- Grids beside and below each other: what the reference's functions return. -/
import Derived.Test.YthndabbjkkjkhaaIRai
import Derived.Test.YthndabbjkkjkhaaDraw
import Derived.Test.YthndabbjkkjkhaaStage
namespace Go.Proofs.Ythndabbjkkjkhaa
set_option linter.unusedVariables false
set_option linter.unusedSimpArgs false
open Go.RowKit

/-- Onto a row of the call's own a row is appended. -/
theorem own_app {w : World} {lo : Nat} {v : Value} {n m : Nat} {f F : Nat → Int} (h : OwnS w lo 3 v (n + m) (fun i => if i < n then .int .i64 (F i) else .int .i64 (f (i - n)))) (e : ∀ i, n ≤ i → i < n + m → f (i - n) = F i) : OwnS w lo 3 v (n + m) (fun i => .int .i64 (F i)) :=
  h.congr fun i hi => by
    by_cases hh : i < n
    · rw [if_pos hh]
    · rw [if_neg hh, e i (by omega) hi]

/-- A row of the call's own, newer than wr. -/
def NewRow (wr : World) (lo n : Nat) (f : Nat → Int) (v : Value) (w' : World) : Prop :=
  ∃ A c, v = .slice A n c ∧ OwnS w' lo 3 (.slice A n c) n (fun i => .int .i64 (f i)) ∧ ∀ j, (Value.slice A n c).ownBlock = some j → wr.heap.size ≤ j
/-- A literal of one row. -/
def One (wr w : World) (n : Nat) (f : Nat → Int) (v : Value) (w' : World) : Prop :=
  ∃ (w0 : World) (A : Option Addr) (c : Nat), v = .slice (some ⟨w0.heap.size, 0, none⟩) 1 1 ∧ w' = w0.alloc (.cells #[.slice A n c] 29) ∧ Below wr.heap.size wr w0 ∧ Below w.heap.size w w0 ∧ OwnS w0 w.heap.size 3 (.slice A n c) n (fun i => .int .i64 (f i)) ∧ ∀ j, (Value.slice A n c).ownBlock = some j → wr.heap.size ≤ j
def Grown (w : World) (n : Nat) (L : Nat → Nat) (g : Nat → Nat → Int) (v : Value) (w' : World) : Prop := GridO w' w.heap.size v n L g ∧ Below w.heap.size w w'
theorem new_at {wr w4 w5 : World} {v v5 : Value} (hg : Grew w4 w5 v v5) (hn : ∀ j, v.ownBlock = some j → wr.heap.size ≤ j) (hs : wr.heap.size ≤ w4.heap.size) : ∀ j, v5.ownBlock = some j → wr.heap.size ≤ j := fun j hj => by
  rcases hg.at_ with e | ⟨j', e, hj'⟩
  · exact hn j (e.symm.trans hj)
  · rw [e] at hj; injection hj with hj; omega
theorem NewRow.appA {wr w4 w5 : World} {lo m : Nat} {v v5 : Value} {f : Nat → Int} (ho : OwnS w5 lo 3 v5 (0 + m) (fun i => if i < 0 then Value.int .i64 (f i) else .int .i64 (f (i - 0)))) (hg : Grew w4 w5 v v5) (hn : ∀ j, v.ownBlock = some j → wr.heap.size ≤ j) (hs : wr.heap.size ≤ w4.heap.size) : NewRow wr lo m f v5 w5 := by
  rw [Nat.zero_add] at ho
  have hn5 := new_at hg hn hs
  obtain ⟨A, c, rfl, _⟩ := ho.slice
  exact ⟨A, c, rfl, ho.congr (fun i _ => by simp), hn5⟩
theorem NewRow.appB {wr w4 w5 : World} {lo n m : Nat} {v v5 : Value} {k : Nat} {ga gb : Nat → Nat → Int} (ho : OwnS w5 lo 3 v5 (n + m) (fun i => if i < n then Value.int .i64 (ga k i) else .int .i64 (gb k (i - n)))) (hg : Grew w4 w5 v v5) (hn : ∀ j, v.ownBlock = some j → wr.heap.size ≤ j) (hs : wr.heap.size ≤ w4.heap.size) : NewRow wr lo (n + m) (besideG n ga gb k) v5 w5 := by
  have hn5 := new_at hg hn hs
  obtain ⟨A, c, rfl, _⟩ := ho.slice
  refine ⟨A, c, rfl, ho.congr (fun i _ => ?_), hn5⟩
  unfold besideG
  by_cases hh : i < n
  · rw [if_pos hh, if_pos hh]
  · rw [if_neg hh, if_neg hh]

set_option maxHeartbeats 1000000 in
theorem specGridBeside_mid (Aa : Option Addr) (na cpa : Nat) (La : Nat → Nat) (ga : Nat → Nat → Int) (Ab : Option Addr) (cpb : Nat) (Lb : Nat → Nat) (gb : Nat → Nat → Int) (ok : Bool) (w : World) (hga : GridF w Aa na La ga) (hgb : GridF w Ab na Lb gb) (hva : Valid na La ga) (hvb : Valid na Lb gb) (hok : ok = true ↔ La 0 + Lb 0 ≤ 7) :
    Calls Try.prog 22 #[.slice Aa na cpa, .slice Ab na cpb] w (fun e w' => (ok = true ∧ RetGS na (fun _ => La 0 + Lb 0) (besideG (La 0) ga gb) true w e w') ∨ (ok = false ∧ RetGS 0 La ga false w e w')) := by
  have HGa := Lib.hid hga
  have HGb := Lib.hid hgb
  have HVa := Lib.hid hva
  have HVb := Lib.hid hvb
  have hn1 := hva.1
  have hn2 := hva.2.1
  have hl1 := hva.2.2.1
  have hl2 := hva.2.2.2.1
  have hl3 := hvb.2.2.1
  have hl4 := hvb.2.2.2.1
  have HOK := Lib.hid hok
  have HE := Lib.hid (GridO.empty w w.heap.size (fun _ => La 0 + Lb 0) (besideG (La 0) ga gb) (Nat.le_refl _))
  have hbe := below_alloc w (.cells #[] 29)
  have d0 : ((na : Int) != (na : Int)) = false := by simp
  clear hga hgb hva hvb hok
  go_enter Try.func22, Try.ntmps22
  go_wp2_with fail
  refine (specValid_yes _ _ _ _ _ _ (HGa.out.below hbe) HVa.out).mono ?_
  rintro e w1 ⟨rfl, hb1⟩
  have hbw1 : Below w.heap.size w w1 := hbe.trans (hb1.mono (by simp))
  go_wp2_with fail
  refine (specValid_yes _ _ _ _ _ _ (HGb.out.below hbw1) HVb.out).mono ?_
  rintro e w2 ⟨rfl, hb2⟩
  have HE2 := Lib.hid ((HE.out.below hb1).below hb2)
  have hbw2 : Below w.heap.size w w2 := hbw1.trans (hb2.mono hbw1.size)
  clear HE hbe hb1 hbw1 hb2
  go_wp2_with fail
  go_loopw [6, 7] (fun v i wr => ∃ k : Nat, k ≤ na ∧ i = .int .i64 k ∧ GridO wr w.heap.size v k (fun _ => La 0 + Lb 0) (besideG (La 0) ga gb) ∧ Below w.heap.size w wr) (fun _ i _ => na - (intOf i).toNat)
  case atStart => exact ⟨0, Nat.zero_le _, rfl, HE2.out, hbw2⟩
  case round =>
    clear HE2 hbw2
    obtain ⟨k, hk, rfl, hgo, hbel⟩ := hrel
    have HGO := Lib.hid hgo
    obtain ⟨Ao, co, rfl, hco, _⟩ := hgo.grid
    clear hgo
    by_cases hlt : k < na
    · obtain ⟨B, o, A1, c1, rfl, hca, _, hra⟩ := HGa.out k hlt
      obtain ⟨B', o', A1', c1', rfl, hcb, _, hrb⟩ := HGb.out k hlt
      rw [HVa.out.len k hlt] at hca hra
      rw [HVb.out.len k hlt] at hcb hrb
      have hsz := hbel.size
      obtain ⟨V, hV⟩ := HGO.out
      have HV := Lib.hid hV
      clear hV
      have HCa := Lib.hid hca
      have HCb := Lib.hid hcb
      have HRa := Lib.hid hra
      have HRb := Lib.hid hrb
      clear hca hcb hra hrb
      -- STAGE
      go_wp2_with fail
      refine wp_region_stage (T := 5) (tags := [none, some 0, none, none, none, none, some 1, none, none, none, none, some 2, some 3, some 4, none]) (C := (fun m4 w4 => Below w.heap.size w w4 ∧ (m4 ≤ 3 → Below wr.heap.size wr w4))) (R := (fun _ _ _ => True)) (RQ := fun _ w4 w5 => w4 = w5) (φ := fun j v m4 w4 => ([fun v _ _ => v = .slice Ao k co, At 1 (NewRow wr w.heap.size 0 (ga k)), fun v _ _ => v = .slice (some ⟨B, o, none⟩) na cpa, fun v _ _ => v = .int .i64 k, fun v _ _ => v = .pointer (some ⟨B, o + k, none⟩), fun v _ _ => v = .slice A1 (La 0) c1, At 2 (NewRow wr w.heap.size (La 0) (ga k)), fun v _ _ => v = .slice (some ⟨B', o', none⟩) na cpb, fun v _ _ => v = .int .i64 k, fun v _ _ => v = .pointer (some ⟨B', o' + k, none⟩), fun v _ _ => v = .slice A1' (Lb 0) c1', At 3 (NewRow wr w.heap.size (La 0 + Lb 0) (besideG (La 0) ga gb k)), At 4 (One wr w (La 0 + Lb 0) (besideG (La 0) ga gb k)), At 5 (Grown w (k + 1) (fun _ => La 0 + Lb 0) (besideG (La 0) ga gb)), At 5 (Grown w (k + 1) (fun _ => La 0 + Lb 0) (besideG (La 0) ga gb))] : List (Value → Nat → World → Prop)).getD j (fun _ _ _ => True) v m4 w4) (by kernel_rfl) (by kernel_rfl) (by kernel_rfl) ?_ ?_ ⟨hbel.drew, fun _ => (Below.refl _ _).drew⟩ ?_ ?_
      · intro j v m4 w4 w5 _ hv
        match j with
        | 1 => exact At.next hv
        | 6 => exact At.next hv
        | 11 => exact At.next hv
        | 12 => exact At.next hv
        | 13 => exact At.next hv
        | 14 => exact At.next hv
        | 0 | 2 | 3 | 4 | 5 | 7 | 8 | 9 | 10 => exact hv
        | j + 15 => exact hv
      · rintro j v m4 w4 _ rfl hv
        exact hv
      · refine ⟨?_, ?_, ?_, ?_, ?_, ?_, ?_, ?_, ?_, ?_, ?_, ?_, ?_, ?_, ?_, trivial⟩
        · intro m4 w4 hm4 hC
          refine givenD_go (ds' := []) (by kernel_rfl) ?_
          simp only [givenD, List.getD_cons_zero, List.getD_cons_succ]
          go_wp2_with fail
          exact ⟨rfl, rfl, hC, rfl, rfl⟩
        · intro w4 hC
          refine givenD_go (ds' := []) (by kernel_rfl) ?_
          simp only [givenD, List.getD_cons_zero, List.getD_cons_succ]
          go_wp2_with fail
          exact ⟨rfl, rfl, ⟨hC.1.alloc hC.1.size _, fun _ => (hC.2 (by omega)).alloc (hC.2 (by omega)).size _⟩, trivial, At.now ⟨_, _, rfl, OwnS.new w4 w.heap.size 3 _ hC.1.size #[] 0 rfl (by decide), fun j hj => by have : some w4.heap.size = some j := hj; injection this with this; have := (hC.2 (by omega)).size; omega⟩⟩
        · intro m4 w4 hm4 hC
          refine givenD_go (ds' := []) (by kernel_rfl) ?_
          simp only [givenD, List.getD_cons_zero, List.getD_cons_succ]
          go_wp2_with fail
          exact ⟨rfl, rfl, hC, rfl, rfl⟩
        · intro m4 w4 hm4 hC
          refine givenD_go (ds' := []) (by kernel_rfl) ?_
          simp only [givenD, List.getD_cons_zero, List.getD_cons_succ]
          go_wp2_with fail
          exact ⟨rfl, rfl, hC, rfl, rfl⟩
        · intro m4 w4 hm4 hC
          refine givenD_go (ds' := [(2, 33), (3, 34)]) (by kernel_rfl) ?_
          simp only [givenD, List.getD_cons_zero, List.getD_cons_succ]
          rintro _ rfl
          rintro _ rfl
          simp only [Act.put, List.setIfInBounds_toArray, List.set_cons_zero, List.set_cons_succ]
          go_wp2_with fail
          exact ⟨rfl, rfl, hC, rfl, rfl⟩
        · intro m4 w4 hm4 hC
          refine givenD_go (ds' := [(4, 35)]) (by kernel_rfl) ?_
          simp only [givenD, List.getD_cons_zero, List.getD_cons_succ]
          rintro _ rfl
          simp only [Act.put, List.setIfInBounds_toArray, List.set_cons_zero, List.set_cons_succ]
          have hcx := (hC.1.cell (World.block_lt_of_cell? w _ HCa.out)).trans HCa.out
          go_wp2_with fail
          exact ⟨rfl, rfl, hC, rfl, rfl⟩
        · intro w4 hC
          refine givenD_go (ds' := [(1, 32), (5, 36)]) (by kernel_rfl) ?_
          simp only [givenD, List.getD_cons_zero, List.getD_cons_succ]
          rintro _ h1
          rintro _ rfl
          simp only [Act.put, List.setIfInBounds_toArray, List.set_cons_zero, List.set_cons_succ]
          obtain ⟨Ax, cx, rfl, hox, hnx⟩ := h1.out
          have hb4 := hC.2 (by omega)
          have hs4 := hb4.size
          refine wpList_appN rfl (.tmp 32) (.tmp 36) 29 rfl Try.underlying29 Try.infoI rfl rfl hox (S := fun c => .int .i64 (ga k c)) (fun _ _ => rfl) rfl (HRa.out.below hC.1) (by omega) (by decide) (by omega) ?_
          intro v5 w5 ho5 hg5
          have hb5 : Below wr.heap.size w4 w5 := hg5.below hs4 hnx
          have hb6 : Below w.heap.size w4 w5 := hg5.below (by omega) (fun j hj => by have := hnx j hj; omega)
          refine ⟨rfl, rfl, ⟨hC.1.trans hb6, fun _ => hb4.trans hb5⟩, trivial, At.now ?_⟩
          exact NewRow.appA ho5 hg5 hnx hs4
        · intro m4 w4 hm4 hC
          refine givenD_go (ds' := []) (by kernel_rfl) ?_
          simp only [givenD, List.getD_cons_zero, List.getD_cons_succ]
          go_wp2_with fail
          exact ⟨rfl, rfl, hC, rfl, rfl⟩
        · intro m4 w4 hm4 hC
          refine givenD_go (ds' := []) (by kernel_rfl) ?_
          simp only [givenD, List.getD_cons_zero, List.getD_cons_succ]
          go_wp2_with fail
          exact ⟨rfl, rfl, hC, rfl, rfl⟩
        · intro m4 w4 hm4 hC
          refine givenD_go (ds' := [(7, 38), (8, 39)]) (by kernel_rfl) ?_
          simp only [givenD, List.getD_cons_zero, List.getD_cons_succ]
          rintro _ rfl
          rintro _ rfl
          simp only [Act.put, List.setIfInBounds_toArray, List.set_cons_zero, List.set_cons_succ]
          go_wp2_with fail
          exact ⟨rfl, rfl, hC, rfl, rfl⟩
        · intro m4 w4 hm4 hC
          refine givenD_go (ds' := [(9, 40)]) (by kernel_rfl) ?_
          simp only [givenD, List.getD_cons_zero, List.getD_cons_succ]
          rintro _ rfl
          simp only [Act.put, List.setIfInBounds_toArray, List.set_cons_zero, List.set_cons_succ]
          have hcx := (hC.1.cell (World.block_lt_of_cell? w _ HCb.out)).trans HCb.out
          go_wp2_with fail
          exact ⟨rfl, rfl, hC, rfl, rfl⟩
        · intro w4 hC
          refine givenD_go (ds' := [(10, 41), (6, 37)]) (by kernel_rfl) ?_
          simp only [givenD, List.getD_cons_zero, List.getD_cons_succ]
          rintro _ rfl
          rintro _ h6
          simp only [Act.put, List.setIfInBounds_toArray, List.set_cons_zero, List.set_cons_succ]
          obtain ⟨Ax, cx, rfl, hox, hnx⟩ := h6.out
          have hb4 := hC.2 (by omega)
          have hs4 := hb4.size
          refine wpList_appN rfl (.tmp 37) (.tmp 41) 29 rfl Try.underlying29 Try.infoI rfl rfl hox (S := fun c => .int .i64 (gb k c)) (fun _ _ => rfl) rfl (HRb.out.below hC.1) (by omega) (by decide) (by omega) ?_
          intro v5 w5 ho5 hg5
          have hb5 : Below wr.heap.size w4 w5 := hg5.below hs4 hnx
          have hb6 : Below w.heap.size w4 w5 := hg5.below (by omega) (fun j hj => by have := hnx j hj; omega)
          refine ⟨rfl, rfl, ⟨hC.1.trans hb6, fun _ => hb4.trans hb5⟩, trivial, At.now ?_⟩
          exact NewRow.appB ho5 hg5 hnx hs4
        · intro w4 hC
          refine givenD_go (ds' := [(11, 42)]) (by kernel_rfl) ?_
          simp only [givenD, List.getD_cons_zero, List.getD_cons_succ]
          rintro _ h11
          simp only [Act.put, List.setIfInBounds_toArray, List.set_cons_zero, List.set_cons_succ]
          obtain ⟨Ax, cx, rfl, hox, hnx⟩ := h11.out
          have hb4 := hC.2 (by omega)
          go_wp2_with fail
          exact ⟨rfl, rfl, ⟨hC.1.alloc hC.1.size _, fun h => by omega⟩, trivial, At.now ⟨w4, Ax, cx, rfl, rfl, hb4, hC.1, hox, hnx⟩⟩
        · intro w4 hC
          refine givenD_go (ds' := [(0, 31), (12, 43)]) (by kernel_rfl) ?_
          simp only [givenD, List.getD_cons_zero, List.getD_cons_succ]
          rintro _ rfl
          rintro _ h12
          simp only [Act.put, List.setIfInBounds_toArray, List.set_cons_zero, List.set_cons_succ]
          obtain ⟨w0, Ax, cx, rfl, rfl, hb4, hw0, hox, hnx⟩ := h12.out
          have hs4 := hb4.size
          refine wpList_app1 rfl (.tmp 31) (.tmp 43) 23 rfl Try.underlying23 Try.infoR rfl rfl (HV.out.1.below hb4) (x := .slice Ax (La 0 + Lb 0) cx) rfl rfl (by omega) (by decide) (by omega) ?_
          intro v5 w5 ho5 hg5
          have hb5 : Below w.heap.size w0 w5 := hg5.below (by omega) (fun j hj => (HGO.out.own_lt hj).1)
          exact ⟨rfl, rfl, ⟨hw0.trans hb5, fun h => by omega⟩, trivial, At.now ⟨⟨_, HV.out.snoc hb4 hox hnx ho5 hg5⟩, hw0.trans hb5⟩⟩
        · intro m4 w4 hm4 hC
          refine givenD_go (ds' := [(13, 44)]) (by kernel_rfl) ?_
          simp only [givenD, List.getD_cons_zero, List.getD_cons_succ]
          rintro _ h13
          simp only [Act.put, List.setIfInBounds_toArray, List.set_cons_zero, List.set_cons_succ]
          go_wp2_with fail
          exact ⟨rfl, rfl, hC, rfl, h13⟩
      · intro w4 hC
        simp only [givenAll, List.getD_cons_zero, List.getD_cons_succ]
        rintro _ rfl v1 h1 _ rfl _ rfl _ rfl _ rfl v6 h6 _ rfl _ rfl _ rfl _ rfl v11 h11 v12 h12 v13 h13 v14 h14
        obtain ⟨hgo4, hb4⟩ := h14.out
        have HS := Lib.hid hgo4
        obtain ⟨A4, c4, rfl, _, _⟩ := hgo4.grid
        clear h1 h6 h11 h12 h13 h14 hgo4 hC
        simp only [Act.put, List.setIfInBounds_toArray, List.set_cons_zero, List.set_cons_succ]
        go_wp2_with fail
        go_roundw
        case rel => exact ⟨k + 1, by omega, by go_num, HS.out, hb4⟩
        case measure => simp [intOf]; omega
    · have hkn : k = na := by omega
      have HFin : Hid (GridF wr Ao k (fun _ => La 0 + Lb 0) (besideG (La 0) ga gb)) := by
        obtain ⟨A', c', e, _, hgrid⟩ := HGO.out.grid
        cases e
        exact hgrid
      cases ok
      · have HNV : Hid (¬ Valid k (fun _ => La 0 + Lb 0) (besideG (La 0) ga gb)) := fun hh => absurd (HOK.out.2 hh.2.2.2.1) (by decide)
        clear hkn
        go_wp2_with fail
        refine (specValid_no _ _ _ _ _ _ HFin.out (by omega) (fun r hr => by show La 0 + Lb 0 ≤ _; omega) HNV.out).mono ?_
        rintro e w3 ⟨rfl, hb3⟩
        have hb4 := hbel.trans (hb3.mono hbel.size)
        go_wp2_with fail
        go_ret2
        exact ⟨_, _, rfl, Nat.le_refl _, fun r hr => by omega, hb4.alloc hb4.size _⟩
      · have h7 := HOK.out.1 rfl
        have HVF : Hid (Valid k (fun _ => La 0 + Lb 0) (besideG (La 0) ga gb)) := ⟨by omega, by omega, by show 1 ≤ La 0 + Lb 0; omega, h7, fun r hr => ⟨rfl, fun c hc => besideG_rng HVa.out HVb.out rfl (by omega) hc⟩⟩
        have HK := Lib.hid hkn
        clear hkn
        go_wp2_with fail
        refine (specValid_yes _ _ _ _ _ _ HFin.out HVF.out).mono ?_
        rintro e w3 ⟨rfl, hb3⟩
        go_wp2_with fail
        go_ret2
        have H := HFin.out.below hb3
        rw [HK.out] at H hco
        exact ⟨_, _, by rw [HK.out]; rfl, hco, H, hbel.trans (hb3.mono hbel.size)⟩

theorem specGridBeside_yes (Aa : Option Addr) (na cpa : Nat) (La : Nat → Nat) (ga : Nat → Nat → Int) (Ab : Option Addr) (nb cpb : Nat) (Lb : Nat → Nat) (gb : Nat → Nat → Int) (w : World) (hga : GridF w Aa na La ga) (hgb : GridF w Ab nb Lb gb) (h : Bes na La ga nb Lb gb) :
    Calls Try.prog 22 #[.slice Aa na cpa, .slice Ab nb cpb] w (RetGS na (fun _ => La 0 + Lb 0) (besideG (La 0) ga gb) true w) := by
  obtain ⟨hva, hvb, rfl, h7⟩ := h
  exact (specGridBeside_mid Aa na cpa La ga Ab cpb Lb gb true w hga hgb hva hvb ⟨fun _ => h7, fun _ => rfl⟩).mono fun e w' hh => by
    rcases hh with hh | hh
    · exact hh.2
    · exact absurd hh.1 (by decide)

theorem specGridBeside_no (Aa : Option Addr) (na cpa : Nat) (La : Nat → Nat) (ga : Nat → Nat → Int) (Ab : Option Addr) (nb cpb : Nat) (Lb : Nat → Nat) (gb : Nat → Nat → Int) (w : World) (hga : GridF w Aa na La ga) (hgb : GridF w Ab nb Lb gb) (hna : na ≤ 1048576) (hnb : nb ≤ 1048576) (hLa : ∀ r, r < na → La r ≤ 1048576) (hLb : ∀ r, r < nb → Lb r ≤ 1048576) (h : ¬ Bes na La ga nb Lb gb) :
    Calls Try.prog 22 #[.slice Aa na cpa, .slice Ab nb cpb] w (RetGS 0 La ga false w) := by
  by_cases hva : Valid na La ga
  · by_cases hvb : Valid nb Lb gb
    · by_cases he : na = nb
      · subst he
        exact (specGridBeside_mid Aa na cpa La ga Ab cpb Lb gb false w hga hgb hva hvb ⟨fun e => absurd e (by decide), fun h7 => absurd ⟨hva, hvb, rfl, h7⟩ h⟩).mono fun e w' hh => by
          rcases hh with hh | hh
          · exact absurd hh.1 (by decide)
          · exact hh.2
      · have hbe := below_alloc w (.cells #[] 29)
        have HGa := Lib.hid (hga.below hbe)
        have HGb := Lib.hid (hgb.below hbe)
        have HVa := Lib.hid hva
        have HVb := Lib.hid hvb
        have hm1 := hva.2.1
        have hm2 := hvb.2.1
        have d1 : ((na : Int) != (nb : Int)) = true := by rw [bne_iff_ne]; omega
        clear hga hgb hva hvb h hLa hLb
        go_enter Try.func22, Try.ntmps22
        go_wp2_with fail
        refine (specValid_yes _ _ _ _ _ _ HGa.out HVa.out).mono ?_
        rintro e w1 ⟨rfl, hb1⟩
        go_wp2_with fail
        refine (specValid_yes _ _ _ _ _ _ (HGb.out.below hb1) HVb.out).mono ?_
        rintro e w2 ⟨rfl, hb2⟩
        have hb12 := hb1.trans (hb2.mono hb1.size)
        go_wp2_with fail
        go_ret2
        exact ⟨_, _, rfl, Nat.le_refl _, fun r hr => by omega, hbe.trans (hb12.mono (by simp))⟩
    · have hbe := below_alloc w (.cells #[] 29)
      have HGa := Lib.hid (hga.below hbe)
      have HGb := Lib.hid (hgb.below hbe)
      have HVa := Lib.hid hva
      have HVb := Lib.hid hvb
      have HLb := Lib.hid hLb
      clear hga hgb hva hvb h hLa hLb
      go_enter Try.func22, Try.ntmps22
      go_wp2_with fail
      refine (specValid_yes _ _ _ _ _ _ HGa.out HVa.out).mono ?_
      rintro e w1 ⟨rfl, hb1⟩
      go_wp2_with fail
      refine (specValid_no _ _ _ _ _ _ (HGb.out.below hb1) hnb HLb.out HVb.out).mono ?_
      rintro e w2 ⟨rfl, hb2⟩
      have hb12 := hb1.trans (hb2.mono hb1.size)
      go_wp2_with fail
      go_ret2
      exact ⟨_, _, rfl, Nat.le_refl _, fun r hr => by omega, hbe.trans (hb12.mono (by simp))⟩
  · have hbe := below_alloc w (.cells #[] 29)
    have HGa := Lib.hid (hga.below hbe)
    have HVa := Lib.hid hva
    have HLa := Lib.hid hLa
    clear hga hgb hva h hLa hLb
    go_enter Try.func22, Try.ntmps22
    go_wp2_with fail
    refine (specValid_no _ _ _ _ _ _ HGa.out hna HLa.out HVa.out).mono ?_
    rintro e w1 ⟨rfl, hb1⟩
    go_wp2_with fail
    go_ret2
    exact ⟨_, _, rfl, Nat.le_refl _, fun r hr => by omega, hbe.trans (hb1.mono (by simp))⟩

end Go.Proofs.Ythndabbjkkjkhaa
