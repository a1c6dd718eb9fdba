/- A grid out of a text: what the reference's function returns. -/
import Derived.Test.YtkkkkgcijkjeoaaDoorIFr
import Derived.Test.YtkkkkgcijkjeoaaDoorSCt
import Derived.Test.YtkkkkgcijkjeoaaDoorSTxt
import Derived.Test.YtkkkkgcijkjeoaaDoorStage
namespace Go.Proofs.YtkkkkgcijkjeoaaDoor
set_option linter.unusedVariables false
set_option linter.unusedSimpArgs false
open Go.RowKit

theorem nonempty_few {c : UInt8} {s : List UInt8} (h : ∀ p ∈ cutC c s, p ≠ []) : (cutC c s).length ≤ s.length := by
  match s with
  | [] => exact absurd rfl (h [] (by simp [cutC]))
  | x :: r =>
    have hn := cutC_num c r
    unfold cutC at h ⊢
    by_cases hx : x = c
    · rw [if_pos hx] at h
      exact absurd rfl (h [] (by simp))
    · rw [if_neg hx]
      have hl : (consHead x (cutC c r)).length = (cutC c r).length := by
        match hc : cutC c r with
        | [] => exact absurd hc (cutC_ne c r)
        | q :: qs => rfl
      rw [hl]
      simpa using hn
theorem mem_getD {α : Type} {p d : α} {ls : List α} (h : p ∈ ls) : ∃ i, i < ls.length ∧ ls.getD i d = p := by
  obtain ⟨i, hi, e⟩ := List.mem_iff_getElem.1 h
  exact ⟨i, hi, by simp [hi, e]⟩
theorem two_few {l : List UInt8} (h : AllW (fun p => p.length = 2) l) : nT l ≤ l.length ∧ ∀ r, r < nT l → LT l r ≤ l.length := by
  constructor
  · refine nonempty_few fun p hp e => ?_
    obtain ⟨i, hi, he⟩ := mem_getD (d := []) hp
    have h0 : (linesT l).getD i [] = [] := he.trans e
    have hL : wordsT l i = [[]] := by unfold wordsT; rw [h0]; rfl
    have := h i hi 0 (by unfold LT; rw [hL]; decide)
    unfold wordT at this
    rw [hL] at this
    cases this
  · intro r hr
    refine Nat.le_trans (nonempty_few fun p hp e => ?_) (line_len l r)
    obtain ⟨i, hi, he⟩ := mem_getD (d := []) hp
    have := h r hr i hi
    rw [show wordT l r i = p from he, e] at this
    cases this

/-- A text read as a grid, by the reference. -/
def RetFs (l : List UInt8) (w : World) (e : Ending) (w' : World) : Prop :=
  (FromI l → RetGS (nT l) (LT l) (gT l) true w e w') ∧ (¬ FromI l → RetGS 0 (fun _ => 0) (fun _ _ => 0) false w e w')
theorem RetFs.no {l : List UInt8} {w w' : World} {c : Nat} {A : Option Addr} (h : ¬ FromI l) (hb : Below w.heap.size w w') : RetFs l w (.returned (.tuple #[.slice A 0 c, .bool false])) w' :=
  ⟨fun h' => absurd h' h, fun _ => ⟨A, c, rfl, Nat.zero_le _, fun r hr => absurd hr (Nat.not_lt_zero r), hb⟩⟩
/-- The pieces in a block. -/
def RetCu (ls : List (List UInt8)) (w : World) (e : Ending) (w' : World) : Prop :=
  ∃ B c, e = .returned (.slice (some ⟨B, 0, none⟩) ls.length c) ∧ ls.length ≤ c ∧ w.heap.size ≤ B ∧ Strs w' B ls ∧ Below w.heap.size w w'
theorem cut_any (c : UInt8) (p : List UInt8) (x : Int) (hx : x = (c.toNat : Nat)) (w : World) (hl : p.length ≤ 2000000) :
    Calls Tryd.prog 32 #[.string ⟨p.toArray⟩, .int .u8 x] w (RetCu (cutC c p) w) := by
  subst hx
  refine (l1Cut_any c p w hl).mono ?_
  rintro e w' ⟨v, rfl, ho, hb⟩
  obtain ⟨b, cc, cur, rfl, hlo, hc, hn, _, hk⟩ := ho.s.row (List.length_pos_iff.2 (cutC_ne c p))
  exact ⟨b, cc, rfl, hn, hlo, ⟨cur, hc, hk⟩, hb⟩
def OneI (wi : World) (x : Int) (v : Value) (w : World) : Prop := ∃ w0, v = .slice (some ⟨w0.heap.size, 0, none⟩) 1 1 ∧ w = w0.alloc (.cells #[.int .i64 x] 3) ∧ Below wi.heap.size wi w0
def RowW (wo wi : World) (Bw : Nat) (l : List UInt8) (k q : Nat) (v : Value) (w : World) : Prop :=
  OwnS w wo.heap.size 3 v (q + 1) (fun c => .int .i64 (gT l k c)) ∧ Strs w Bw (wordsT l k) ∧ Below wo.heap.size wo w
theorem RowW.made {wo wi w0 w5 : World} {Bw : Nat} {l : List UInt8} {k q : Nat} {v v5 : Value} {x : Int} (hr : OwnS wi wo.heap.size 3 v q (fun c => .int .i64 (gT l k c))) (hst : Strs wi Bw (wordsT l k)) (hbi : Below wo.heap.size wo wi) (hb0 : Below wi.heap.size wi w0) (hx : gT l k q = x)
    (ho : OwnS w5 wo.heap.size 3 v5 (q + 1) (fun i => if i < q then .int .i64 (gT l k i) else .int .i64 x)) (hg : Grew w0 w5 v v5) : RowW wo wi Bw l k q v5 w5 := by
  have hs := hbi.size
  refine ⟨ho.congr fun i hi => ?_, (hst.below hb0).grew hg (hr.below hb0) (by decide), (hbi.trans (hb0.mono hs)).trans (hg.below (Nat.le_trans hs hb0.size) (fun j hj => ((hr.below hb0).lt hj).1))⟩
  by_cases e : i < q
  · rw [if_pos e]
  · rw [if_neg e, ← hx, show i = q by omega]

set_option maxHeartbeats 2000000 in
set_option maxRecDepth 100000 in
theorem specGridFrom_any (l : List UInt8) (w : World) (hs : l.length ≤ 1048576) :
    Calls Tryd.prog 13 #[.string ⟨l.toArray⟩] w (RetFs l w) := by
  have hn1 := nT_le l
  have HL1 : Hid (∀ r, LT l r ≤ l.length + 1) := LT_le l
  have HG0 : Hid (GridO (w.alloc (.cells #[] 38)) w.heap.size (.slice (some ⟨w.heap.size, 0, none⟩) 0 0) 0 (LT l) (gT l)) := GridO.empty w w.heap.size _ _ (Nat.le_refl _)
  have hb0 := below_alloc w (.cells #[] 38)
  go_enter Tryd.func13, Tryd.ntmps13
  go_wp2_with fail
  refine (cut_any 47 l 47 rfl _ (by omega)).mono ?_
  rintro e w1 ⟨Bl, cl, rfl, hcl, hBl, hst, hb1⟩
  have HG1 := Lib.hid (HG0.out.below hb1)
  have hW1 := hb0.trans (hb1.mono hb0.size)
  have HS1 : Hid (Strs w1 Bl (linesT l)) := hst
  rw [show (cutC 47 l).length = nT l from rfl] at hcl ⊢
  clear hst HG0 hb0 hb1 hBl
  go_wp2_with fail
  go_loopw [4, 6] (fun gv iv wr => ∃ k : Nat, k ≤ nT l ∧ iv = .int .i64 k ∧ Hid (GridO wr w.heap.size gv k (LT l) (gT l)) ∧ Hid (∀ r, r < k → ∀ c, c < LT l r → (wordT l r c).length = 2) ∧ Hid (Strs wr Bl (linesT l)) ∧ Below w.heap.size w wr) (fun _ iv _ => nT l - (intOf iv).toNat)
  case atStart => exact ⟨0, Nat.zero_le _, rfl, HG1.out, fun r hr => absurd hr (Nat.not_lt_zero r), HS1.out, hW1⟩
  case round =>
    clear HG1 HS1 hW1
    obtain ⟨k, hk, rfl, HG, HD, HS, hB⟩ := hrel
    obtain ⟨Ag, cg, rfl, hkc, _⟩ := HG.out.grid
    have hsz := hB.size
    by_cases hlt : k < nT l
    · have hce := HS.out.cell hlt
      have hll := line_len l k
      have HW : Hid (cutC 32 ((linesT l).getD k []) = wordsT l k) := rfl
      obtain ⟨p, hp⟩ : ∃ p, p = (linesT l).getD k [] := ⟨_, rfl⟩
      rw [← hp] at hce hll HW
      clear hp
      obtain ⟨wo, hwo⟩ : ∃ wo : World, wo = wr := ⟨_, rfl⟩
      rw [← hwo] at HG HS hB hsz hce ⊢
      clear hwo
      have HR0 : Hid (OwnS (wo.alloc (.cells #[] 3)) wo.heap.size 3 (.slice (some ⟨wo.heap.size, 0, none⟩) 0 0) 0 (fun c => .int .i64 (gT l k c))) := OwnS.new wo wo.heap.size 3 _ (Nat.le_refl _) #[] 0 rfl (by decide)
      have hbo := below_alloc wo (.cells #[] 3)
      have hlo := hbo.size
      have hceo := (hbo.cell (World.block_lt_of_cell? wo _ hce)).trans hce
      go_wp2_with fail
      refine (cut_any 32 p 32 rfl _ (by omega)).mono ?_
      rintro e w2 ⟨Bw, cw, rfl, hcw, hBw, hst, hb2⟩
      rw [HW.out] at hst hcw ⊢
      have HRw := Lib.hid (HR0.out.below hb2)
      have HSw := Lib.hid hst
      have hb2' := hbo.trans (hb2.mono hlo)
      rw [show (wordsT l k).length = LT l k from rfl] at hcw ⊢
      have hLk := HL1.out k
      clear HR0 hst hbo hb2 hce hceo hBw
      go_wp2_with fail
      go_loopw [7, 9] (fun rv iv wi => ∃ q : Nat, q ≤ LT l k ∧ iv = .int .i64 q ∧ Hid (OwnS wi wo.heap.size 3 rv q (fun c => .int .i64 (gT l k c))) ∧ Hid (∀ c, c < q → (wordT l k c).length = 2) ∧ Hid (Strs wi Bw (wordsT l k)) ∧ Below wo.heap.size wo wi) (fun _ iv _ => LT l k - (intOf iv).toNat)
      case atStart => exact ⟨0, Nat.zero_le _, rfl, HRw.out, fun c hc => absurd hc (Nat.not_lt_zero c), HSw.out, hb2'⟩
      case round =>
        clear HRw HSw hb2'
        obtain ⟨q, hj, rfl, HR, HDw, HSw, hbi⟩ := hrel
        obtain ⟨Ar, cr, rfl, hrc⟩ := HR.out.slice
        have hsi := hbi.size
        obtain ⟨wi, hwi⟩ : ∃ wi : World, wi = wr := ⟨_, rfl⟩
        rw [← hwi] at HR HSw hbi hsi ⊢
        clear hwi
        by_cases hltj : q < LT l k
        · have hcw1 := HSw.out.cell hltj
          have HWd : Hid ((wordsT l k).getD q [] = wordT l k q) := rfl
          rw [HWd.out] at hcw1
          have hwl := word_len l k q
          by_cases h2 : (wordT l k q).length = 2
          · obtain ⟨a, b, hab⟩ : ∃ a b, wordT l k q = [a, b] := by
              match hh : wordT l k q, h2 with
              | [a, b], _ => exact ⟨a, b, rfl⟩
            obtain ⟨x, hx⟩ : ∃ x, x = a.toNat := ⟨_, rfl⟩
            obtain ⟨y, hy⟩ : ∃ y, y = b.toNat := ⟨_, rfl⟩
            have hxl : x < 256 := by rw [hx]; exact a.toNat_lt
            have hyl : y < 256 := by rw [hy]; exact b.toNat_lt
            have HVl : Hid (gT l k q = 10 * ((x : Int) - 48) + (y : Int) - 48) := by
              show gT l k q = _
              unfold gT valT
              rw [hab, show byteT [a, b] 0 = (a.toNat : Nat) from rfl, show byteT [a, b] 1 = (b.toNat : Nat) from rfl, ← hx, ← hy]
              omega
            have e0 : ((⟨#[a, b]⟩ : ByteArray)[0]'(Nat.zero_lt_succ 1)).toNat = x := by rw [hx]; rfl
            have e1 : ((⟨#[a, b]⟩ : ByteArray)[1]'(Nat.lt_succ_self 1)).toNat = y := by rw [hy]; rfl
            have HL2 := Lib.hid h2
            have HLj : Hid (q < (wordsT l k).length) := hltj
            have HWq : Hid (Value.string ⟨((wordsT l k).getD q []).toArray⟩ = .string ⟨#[a, b]⟩) := by show _ = _; rw [HWd.out, hab]
            rw [hab] at hcw1 hwl
            have HCW := Lib.hid hcw1
            clear hx hy hab h2
            have hcw1 : wi.cell? ⟨Bw, q, none⟩ = some (.string ⟨#[a, b]⟩) := HCW.out
            go_wp2_with fail
            clear hcw1
            refine wp_region_stage (T := 2) (tags := [none, none, none, none, none, none, none, none, none, none, none, none, none, none, none, none, none, some 0, some 1, none]) (C := (fun m4 w4 => w4.cell? ⟨Bw, q, none⟩ = some (.string ⟨#[a, b]⟩) ∧ (m4 ≤ 1 → Below wi.heap.size wi w4))) (R := (fun _ _ _ => True)) (RQ := fun _ w4 w5 => w4 = w5) (φ := fun j v m4 w4 => ([fun v _ _ => v = .slice Ar q cr, fun v _ _ => v = .slice (some ⟨Bw, 0, none⟩) (LT l k) cw, fun v _ _ => v = .int .i64 (q : Int), fun v _ _ => v = .pointer (some ⟨Bw, q, none⟩), fun v _ _ => v = .string ⟨#[a, b]⟩, fun v _ _ => v = .int .u8 (x : Int), fun v _ _ => v = .int .i64 (x : Int), fun v _ _ => v = .int .i64 ((x : Int) - 48), fun v _ _ => v = .int .i64 (10 * ((x : Int) - 48)), fun v _ _ => v = .slice (some ⟨Bw, 0, none⟩) (LT l k) cw, fun v _ _ => v = .int .i64 (q : Int), fun v _ _ => v = .pointer (some ⟨Bw, q, none⟩), fun v _ _ => v = .string ⟨#[a, b]⟩, fun v _ _ => v = .int .u8 (y : Int), fun v _ _ => v = .int .i64 (y : Int), fun v _ _ => v = .int .i64 (10 * ((x : Int) - 48) + (y : Int)), fun v _ _ => v = .int .i64 (10 * ((x : Int) - 48) + (y : Int) - 48), At 1 (OneI wi (10 * ((x : Int) - 48) + (y : Int) - 48)), At 2 (RowW wo wi Bw l k q), At 2 (RowW wo wi Bw l k q)] : List (Value → Nat → World → Prop)).getD j (fun _ _ _ => True) v m4 w4) (by kernel_rfl) (by kernel_rfl) (by kernel_rfl) ?_ ?_ ⟨HCW.out, fun _ => (Below.refl _ _).drew⟩ ?_ ?_
            · intro j v m4 w4 w5 _ hv
              match j with
              | 17 => exact At.next hv
              | 18 => exact At.next hv
              | 19 => exact At.next hv
              | 0 | 1 | 2 | 3 | 4 | 5 | 6 | 7 | 8 | 9 | 10 | 11 | 12 | 13 | 14 | 15 | 16 => exact hv
              | j + 20 => exact hv
            · rintro j v m4 w4 _ rfl hv
              exact hv
            · refine ⟨?_, ?_, ?_, ?_, ?_, ?_, ?_, ?_, ?_, ?_, ?_, ?_, ?_, ?_, ?_, ?_, ?_, ?_, ?_, ?_, trivial⟩
              · intro m4 w4 hm4 hC
                refine givenD_go (ds' := []) (by kernel_rfl) ?_
                simp only [givenD, List.getD_cons_zero, List.getD_cons_succ]
                go_wp2_with fail
                exact ⟨rfl, rfl, hC, rfl, rfl⟩
              · intro m4 w4 hm4 hC
                refine givenD_go (ds' := []) (by kernel_rfl) ?_
                simp only [givenD, List.getD_cons_zero, List.getD_cons_succ]
                go_wp2_with fail
                exact ⟨rfl, rfl, hC, rfl, rfl⟩
              · intro m4 w4 hm4 hC
                refine givenD_go (ds' := []) (by kernel_rfl) ?_
                simp only [givenD, List.getD_cons_zero, List.getD_cons_succ]
                go_wp2_with fail
                exact ⟨rfl, rfl, hC, rfl, rfl⟩
              · intro m4 w4 hm4 hC
                refine givenD_go (ds' := [(1, 39), (2, 40)]) (by kernel_rfl) ?_
                simp only [givenD, List.getD_cons_zero, List.getD_cons_succ]
                rintro _ rfl
                rintro _ rfl
                simp only [Act.put, List.setIfInBounds_toArray, List.set_cons_zero, List.set_cons_succ]
                go_wp2_with fail
                exact ⟨rfl, rfl, hC, rfl, rfl⟩
              · intro m4 w4 hm4 hC
                refine givenD_go (ds' := [(3, 41)]) (by kernel_rfl) ?_
                simp only [givenD, List.getD_cons_zero, List.getD_cons_succ]
                rintro _ rfl
                simp only [Act.put, List.setIfInBounds_toArray, List.set_cons_zero, List.set_cons_succ]
                have hcx := hC.1
                go_wp2_with fail
                exact ⟨rfl, rfl, hC, rfl, rfl⟩
              · intro m4 w4 hm4 hC
                refine givenD_go (ds' := [(4, 42)]) (by kernel_rfl) ?_
                simp only [givenD, List.getD_cons_zero, List.getD_cons_succ]
                rintro _ rfl
                simp only [Act.put, List.setIfInBounds_toArray, List.set_cons_zero, List.set_cons_succ]
                go_wp2_with fail
                exact ⟨rfl, rfl, hC, rfl, rfl⟩
              · intro m4 w4 hm4 hC
                refine givenD_go (ds' := [(5, 43)]) (by kernel_rfl) ?_
                simp only [givenD, List.getD_cons_zero, List.getD_cons_succ]
                rintro _ rfl
                simp only [Act.put, List.setIfInBounds_toArray, List.set_cons_zero, List.set_cons_succ]
                go_wp2_with fail
                exact ⟨rfl, rfl, hC, rfl, rfl⟩
              · intro m4 w4 hm4 hC
                refine givenD_go (ds' := [(6, 44)]) (by kernel_rfl) ?_
                simp only [givenD, List.getD_cons_zero, List.getD_cons_succ]
                rintro _ rfl
                simp only [Act.put, List.setIfInBounds_toArray, List.set_cons_zero, List.set_cons_succ]
                go_wp2_with fail
                exact ⟨rfl, rfl, hC, rfl, rfl⟩
              · intro m4 w4 hm4 hC
                refine givenD_go (ds' := [(7, 45)]) (by kernel_rfl) ?_
                simp only [givenD, List.getD_cons_zero, List.getD_cons_succ]
                rintro _ rfl
                simp only [Act.put, List.setIfInBounds_toArray, List.set_cons_zero, List.set_cons_succ]
                go_wp2_with fail
                exact ⟨rfl, rfl, hC, rfl, rfl⟩
              · intro m4 w4 hm4 hC
                refine givenD_go (ds' := []) (by kernel_rfl) ?_
                simp only [givenD, List.getD_cons_zero, List.getD_cons_succ]
                go_wp2_with fail
                exact ⟨rfl, rfl, hC, rfl, rfl⟩
              · intro m4 w4 hm4 hC
                refine givenD_go (ds' := []) (by kernel_rfl) ?_
                simp only [givenD, List.getD_cons_zero, List.getD_cons_succ]
                go_wp2_with fail
                exact ⟨rfl, rfl, hC, rfl, rfl⟩
              · intro m4 w4 hm4 hC
                refine givenD_go (ds' := [(9, 47), (10, 48)]) (by kernel_rfl) ?_
                simp only [givenD, List.getD_cons_zero, List.getD_cons_succ]
                rintro _ rfl
                rintro _ rfl
                simp only [Act.put, List.setIfInBounds_toArray, List.set_cons_zero, List.set_cons_succ]
                go_wp2_with fail
                exact ⟨rfl, rfl, hC, rfl, rfl⟩
              · intro m4 w4 hm4 hC
                refine givenD_go (ds' := [(11, 49)]) (by kernel_rfl) ?_
                simp only [givenD, List.getD_cons_zero, List.getD_cons_succ]
                rintro _ rfl
                simp only [Act.put, List.setIfInBounds_toArray, List.set_cons_zero, List.set_cons_succ]
                have hcx := hC.1
                go_wp2_with fail
                exact ⟨rfl, rfl, hC, rfl, rfl⟩
              · intro m4 w4 hm4 hC
                refine givenD_go (ds' := [(12, 50)]) (by kernel_rfl) ?_
                simp only [givenD, List.getD_cons_zero, List.getD_cons_succ]
                rintro _ rfl
                simp only [Act.put, List.setIfInBounds_toArray, List.set_cons_zero, List.set_cons_succ]
                go_wp2_with fail
                exact ⟨rfl, rfl, hC, rfl, rfl⟩
              · intro m4 w4 hm4 hC
                refine givenD_go (ds' := [(13, 51)]) (by kernel_rfl) ?_
                simp only [givenD, List.getD_cons_zero, List.getD_cons_succ]
                rintro _ rfl
                simp only [Act.put, List.setIfInBounds_toArray, List.set_cons_zero, List.set_cons_succ]
                go_wp2_with fail
                exact ⟨rfl, rfl, hC, rfl, rfl⟩
              · intro m4 w4 hm4 hC
                refine givenD_go (ds' := [(8, 46), (14, 52)]) (by kernel_rfl) ?_
                simp only [givenD, List.getD_cons_zero, List.getD_cons_succ]
                rintro _ rfl
                rintro _ rfl
                simp only [Act.put, List.setIfInBounds_toArray, List.set_cons_zero, List.set_cons_succ]
                go_wp2_with fail
                exact ⟨rfl, rfl, hC, rfl, rfl⟩
              · intro m4 w4 hm4 hC
                refine givenD_go (ds' := [(15, 53)]) (by kernel_rfl) ?_
                simp only [givenD, List.getD_cons_zero, List.getD_cons_succ]
                rintro _ rfl
                simp only [Act.put, List.setIfInBounds_toArray, List.set_cons_zero, List.set_cons_succ]
                go_wp2_with fail
                exact ⟨rfl, rfl, hC, rfl, rfl⟩
              · intro w4 hC
                refine givenD_go (ds' := [(16, 54)]) (by kernel_rfl) ?_
                simp only [givenD, List.getD_cons_zero, List.getD_cons_succ]
                rintro _ rfl
                simp only [Act.put, List.setIfInBounds_toArray, List.set_cons_zero, List.set_cons_succ]
                have hb4 := hC.2 (by omega)
                have hb5 := hb4.alloc hb4.size (.cells #[.int .i64 (10 * ((x : Int) - 48) + (y : Int) - 48)] 3)
                go_wp2_with fail
                exact ⟨rfl, rfl, ⟨(hb5.cell (World.block_lt_of_cell? wi _ HCW.out)).trans HCW.out, fun _ => hb5⟩, trivial, At.now ⟨w4, rfl, rfl, hb4⟩⟩
              · intro w4 hC
                refine givenD_go (ds' := [(0, 38), (17, 55)]) (by kernel_rfl) ?_
                simp only [givenD, List.getD_cons_zero, List.getD_cons_succ]
                rintro _ rfl
                rintro _ h17
                simp only [Act.put, List.setIfInBounds_toArray, List.set_cons_zero, List.set_cons_succ]
                obtain ⟨w0, rfl, rfl, hb0⟩ := h17.out
                have hs0 := hb0.size
                refine wpList_app1 rfl (.tmp 38) (.tmp 55) 38 rfl Tryd.underlying38 Tryd.infoI rfl rfl (HR.out.below hb0) (x := .int .i64 (10 * ((x : Int) - 48) + (y : Int) - 48)) rfl rfl (by omega) (by decide) (by omega) ?_
                intro v5 w5 ho5 hg5
                have hr := RowW.made HR.out HSw.out hbi hb0 HVl.out ho5 hg5
                exact ⟨rfl, rfl, ⟨(hr.2.1.cell HLj.out).trans (congrArg some HWq.out), fun h => by omega⟩, trivial, At.now hr⟩
              · intro m4 w4 hm4 hC
                refine givenD_go (ds' := [(18, 56)]) (by kernel_rfl) ?_
                simp only [givenD, List.getD_cons_zero, List.getD_cons_succ]
                rintro _ h18
                simp only [Act.put, List.setIfInBounds_toArray, List.set_cons_zero, List.set_cons_succ]
                go_wp2_with fail
                exact ⟨rfl, rfl, hC, rfl, h18⟩
            · intro w4 hC
              simp only [givenAll, List.getD_cons_zero, List.getD_cons_succ]
              rintro _ rfl _ rfl _ rfl _ rfl _ rfl _ rfl _ rfl _ rfl _ rfl _ rfl _ rfl _ rfl _ rfl _ rfl _ rfl _ rfl _ rfl v17 h17 v18 h18 v19 h19
              obtain ⟨ho5, hst5, hb5⟩ := h19.out
              obtain ⟨A5, c5, rfl, _⟩ := ho5.slice
              have HR5 := Lib.hid ho5
              have HS5 := Lib.hid hst5
              clear h17 h18 h19 ho5 hst5 hC e0 e1
              simp only [Act.put, List.setIfInBounds_toArray, List.set_cons_zero, List.set_cons_succ]
              go_wp2_with fail
              go_roundw
              case rel =>
                refine ⟨q + 1, by omega, by go_num, HR5.out, fun c hc => ?_, HS5.out, hb5⟩
                by_cases e : c = q
                · rw [e]; exact HL2.out
                · exact HDw.out c (by omega)
              case measure => simp [intOf]; omega
          · have HNo : Hid (¬ FromI l) := fun h => h2 ((from_iff l).1 h |>.1 k hlt q hltj)
            have d2 : (((wordT l k q).length : Int) != 2) = true := by rw [bne_iff_ne]; omega
            clear h2
            go_wp2_with fail
            go_ret2
            exact RetFs.no HNo.out ((hB.trans (hbi.mono hsz)).alloc (hB.trans (hbi.mono hsz)).size _)
        · have hjk : Hid (q = LT l k) := by show q = LT l k; omega
          obtain ⟨V, hV⟩ := HG.out
          have HVo := Lib.hid hV
          have HVi := Lib.hid (hV.below hbi)
          have HSi := Lib.hid (HS.out.below hbi)
          have hRk := HR.out
          rw [hjk.out] at hRk
          have HRk := Lib.hid hRk
          clear hV hRk HR
          have HD9 : Hid (∀ r, r < k + 1 → ∀ c, c < LT l r → (wordT l r c).length = 2) := fun r hr c hc => by
            by_cases e : r = k
            · rw [e] at hc ⊢; exact HDw.out c (by have := hjk.out; omega)
            · exact HD.out r (by omega) c hc
          go_wp2_with (at_builtin; refine wpList_app1 rfl (.tmp 57) (.tmp 59) 23 rfl Tryd.underlying23 Tryd.infoR rfl rfl HVi.out.1 (x := .slice Ar q cr) rfl rfl (by omega) (by decide) (by omega) ?_; intro v2 w4 ho2 hg2; obtain ⟨A4, c4, rfl, _⟩ := ho2.slice)
          rw [← hjk.out] at HRk
          have HG4 : Hid (GridO w4 w.heap.size (.slice A4 (k + 1) c4) (k + 1) (LT l) (gT l)) := ⟨_, GridOV.snoc HVo.out hbi (by rw [← hjk.out]; exact HRk.out.mono hsz) (fun q hq => (HRk.out.lt hq).1) ho2 hg2⟩
          have HS4 := Lib.hid (HSi.out.grew hg2 HVi.out.1 (by decide))
          have hB4 := (hB.trans (hbi.mono hsz)).trans (hg2.below (Nat.le_trans hsz hsi) (fun q hq => (HVi.out.1.lt hq).1))
          clear ho2 hg2
          go_wp2_with fail
          go_roundw
          case rel => exact ⟨k + 1, by omega, by go_num, HG4.out, HD9.out, HS4.out, hB4⟩
          case measure => simp [intOf]; omega
    · have hkn : Hid (k = nT l) := by show k = nT l; omega
      have HGn := HG.out
      rw [hkn.out] at HGn
      obtain ⟨_, _, he, _, hgf⟩ := HGn.grid
      injection he with he1 he2 he3
      subst he1 he3
      have HGf := Lib.hid hgf
      have HDn : Hid (AllW (fun p => p.length = 2) l) := fun r hr c hc => HD.out r (by rw [hkn.out]; exact hr) c hc
      obtain ⟨hf1, hf2⟩ := two_few HDn.out
      have HF2 := Lib.hid hf2
      have hcN : nT l ≤ cg := by have := hkn.out; omega
      clear HGn hgf HG HD HS hf2
      go_wp2_with fail
      rw [hkn.out]
      refine (specGridText_any Ag (nT l) cg (LT l) (gT l) _ HGf.out (by omega) (fun r hr => by have := HF2.out r hr; omega)).mono ?_
      rintro e w2 ⟨rfl, hb2⟩
      have hB2 := hB.trans (hb2.mono hsz)
      by_cases he : textV (nT l) (LT l) (gT l) = l
      · have HF := Lib.hid ((from_iff l).2 ⟨HDn.out, he⟩)
        have HG2 := Lib.hid (HGf.out.below hb2)
        rw [he]
        clear he
        go_wp2_with fail
        go_ret2
        exact ⟨fun _ => ⟨Ag, cg, rfl, hcN, HG2.out, hB2⟩, fun h => absurd HF.out h⟩
      · have HNo : Hid (¬ FromI l) := fun h => he ((from_iff l).1 h).2
        generalize textV (nT l) (LT l) (gT l) = t at he ⊢
        have dn : (t == l) = false := beq_eq_false_iff_ne.2 he
        clear he
        go_wp2_with fail
        go_ret2
        exact RetFs.no HNo.out (hB2.alloc hB2.size _)

end Go.Proofs.YtkkkkgcijkjeoaaDoor
