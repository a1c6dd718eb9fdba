/- Drawn grids of so many rows and columns. -/
import Derived.Test.YtkkkkgcijkjeoaaDoorDraw
namespace Go.Proofs.YtkkkkgcijkjeoaaDoor
set_option linter.unusedVariables false
set_option linter.unusedSimpArgs false
open Go.RowKit

/-- What holds at the head of the outer loop: k rows are drawn. -/
def RelRo (w : World) (rows cols Br : Nat) (A : Option Addr) (m c : Nat) (z : Nat → Int) (p : Int) (hv v i : Value) (wr : World) : Prop :=
  ∃ (k : Nat) (g : Nat → Nat → Int) (p' : Int), k ≤ rows ∧ i = .int .i64 k ∧ Hts wr w.heap.size hv ∧ GridO wr w.heap.size v k (fun _ => cols) g ∧ Rdr wr Br A m c z p' ∧ p' ≤ p + 1 + 10 * k ∧ But Br w wr

/-- What holds at the head of the inner loop: j heights of a row are drawn. -/
def RelRi (wo : World) (w : World) (cols Br : Nat) (A : Option Addr) (m c : Nat) (z : Nat → Int) (p : Int) (hv v i : Value) (wi : World) : Prop :=
  ∃ (j : Nat) (f : Nat → Int) (p' : Int), j ≤ cols ∧ i = .int .i64 j ∧ Hts wi w.heap.size hv ∧ OwnS wi wo.heap.size 3 v j (fun q => .int .i64 (f q)) ∧ Rdr wi Br A m c z p' ∧ p' ≤ p + j ∧ But Br wo wi

theorem Hts.lt {w : World} {lo : Nat} {hv : Value} (h : Hts w lo hv) : ∀ Bh c d, hv = .slice (some ⟨Bh, 0, none⟩) c d → Bh < w.heap.size := by
  obtain ⟨B, f, rfl, _, hr⟩ := h
  intro Bh c d e
  injection e with e
  injection e with e
  injection e with e
  subst e
  exact hr.lt

theorem Hts.type {w : World} {lo lo' : Nat} {hv v : Value} {n : Nat} {V : Nat → Value} (h : Hts w lo hv) (hown : OwnS w lo' 38 v n V) : ∀ Bh c d, hv = .slice (some ⟨Bh, 0, none⟩) c d → v.ownBlock ≠ some Bh := by
  obtain ⟨B, f, rfl, _, hr⟩ := h
  intro Bh c d e hk
  injection e with e
  injection e with e
  injection e with e
  subst e
  obtain ⟨cur, hc⟩ := hown.type hk
  obtain ⟨cs, hcs, _⟩ := hr
  rw [hc] at hcs
  injection hcs with hcs
  injection hcs with _ hcs
  exact absurd hcs (by decide)

/-- One row more; the row was made since. -/
theorem GridOV.snoc2 {wo w1 w2 : World} {lo : Nat} {v v1 v2 : Value} {n : Nat} {L : Nat → Nat} {g : Nat → Nat → Int} {V : Nat → Value} (h0 : GridOV wo lo v n L g V) (h : GridOV w1 lo v n L g V) (hlo : lo ≤ wo.heap.size)
    (h1 : OwnS w1 wo.heap.size 3 v1 (L n) (fun c => .int .i64 (g n c))) (h2 : OwnS w2 lo 38 v2 (n + 1) (fun i => if i < n then V i else v1)) (hg : Grew w1 w2 v v2) :
    GridOV w2 lo v2 (n + 1) L g (fun i => if i < n then V i else v1) := by
  have keep : ∀ {lo' : Nat} {u : Value} {m : Nat} {U : Nat → Value}, OwnS w1 lo' 3 u m U → OwnS w2 lo' 3 u m U := fun {lo' u m U} hu =>
    hu.of_block fun k hk => hg.block k (hu.lt hk).2 (own_type_ne hu h.1 (by decide) hk)
  refine ⟨h2, fun r hr => ?_, fun r s hr hs hne k => ?_⟩ <;> dsimp only
  · by_cases e : r < n
    · rw [if_pos e]; exact keep (h.2.1 r e)
    · rw [if_neg e, show r = n by omega]; exact (keep h1).mono hlo
  · by_cases er : r < n
    · rw [if_pos er]
      by_cases es : s < n
      · rw [if_pos es]; exact h.2.2 r s er es hne k
      · rw [if_neg es]
        intro hk hk'
        have := ((h0.2.1 r er).lt hk).2
        have := (h1.lt hk').1
        omega
    · rw [if_neg er]
      have es : s < n := by omega
      rw [if_pos es]
      intro hk hk'
      have := ((h0.2.1 s es).lt hk').2
      have := (h1.lt hk).1
      omega

/-- A row that has grown is laid into the outer row again. -/
theorem GridOV.regrow {w w1 : World} {lo : Nat} {v : Value} {n : Nat} {L : Nat → Nat} {g : Nat → Nat → Int} {V : Nat → Value} (h : GridOV w lo v n L g V) {r : Nat} (hr : r < n) {v1 : Value} {m : Nat} {f : Nat → Int}
    (h1 : OwnS w1 lo 3 v1 m (fun c => .int .i64 (f c))) (hg : Grew w w1 (V r) v1) {Bo co : Nat} (hv : v = .slice (some ⟨Bo, 0, none⟩) n co) :
    GridOV (w1.setCell ⟨Bo, r, none⟩ v1) lo v n (fun s => if s = r then m else L s) (fun s c => if s = r then f c else g s c) (fun s => if s = r then v1 else V s) := by
  have hBo : v.ownBlock = some Bo := by rw [hv]; rfl
  have hout : OwnS w1 lo 38 v n V := h.1.of_block fun k hk => hg.block k (h.1.lt hk).2 (own_type_ne h.1 (h.2.1 r hr) (by decide) hk)
  have keep : ∀ {u : Value} {q : Nat} {U : Nat → Value}, OwnS w1 lo 3 u q U → OwnS (w1.setCell ⟨Bo, r, none⟩ v1) lo 3 u q U := fun {u q U} hu =>
    hu.of_block fun k hk => Below.heap_setCell _ _ _ _ (fun e => by subst e; exact own_type_ne hu hout (by decide) hk hBo)
  refine ⟨hout.store hv hr v1, fun s hs => ?_, fun s t hs ht hne k => ?_⟩ <;> dsimp only
  · by_cases e : s = r
    · simp only [e, if_true]; exact keep h1
    · simp only [e, if_false]
      exact keep ((h.2.1 s hs).of_block fun k hk => hg.block k ((h.2.1 s hs).lt hk).2 (h.2.2 s r hs hr e k hk))
  · by_cases es : s = r
    · subst es
      have et : ¬ t = s := fun e => hne e.symm
      simp only [if_true, et, if_false]
      intro hk hk'
      rcases hg.at_ with e | ⟨k', e, hk2⟩
      · rw [e] at hk; exact h.2.2 s t hs ht hne k hk hk'
      · rw [e] at hk; injection hk with hk; have := ((h.2.1 t ht).lt hk').2; omega
    · simp only [es, if_false]
      by_cases et : t = r
      · subst et
        simp only [if_true]
        intro hk hk'
        rcases hg.at_ with e | ⟨k', e, hk2⟩
        · rw [e] at hk'; exact h.2.2 s t hs ht hne k hk hk'
        · rw [e] at hk'; injection hk' with hk'; have := ((h.2.1 s hs).lt hk).2; omega
      · simp only [et, if_false]; exact h.2.2 s t hs ht hne k

theorem Rdr.drew {w : World} {Br : Nat} {A : Option Addr} {m c : Nat} {z : Nat → Int} {p : Int} (H : Rdr w Br A m c z p) : Rdr w.drew Br A m c z p := H.keep fun _ _ => rfl

def T3 (y : Nat) : Int := [-1, 100, 99].getD y 0
theorem table3 {y : Nat} (hy : y < 3) : (#[.int .i64 (-1), .int .i64 100, .int .i64 99] : Array Value)[y]? = some (.int .i64 (T3 y)) := by
  match y, hy with
  | 0, _ => rfl
  | 1, _ => rfl
  | 2, _ => rfl

/-- The pick comes first, then the table. -/
theorem rough_a {w w2 w5 : World} {Br Bo b0 y cols c0 m c : Nat} {A : Option Addr} {z : Nat → Int} {p' : Int} {x0 : Value} (hy : y < 3) (hBr : Br < w.heap.size) (hBol : Bo < w2.heap.size) (hb0l : b0 < w2.heap.size) (hBo : w.heap.size ≤ Bo) (hb0 : w.heap.size ≤ b0)
    (hco : w2.cell? ⟨Bo, 0, none⟩ = some (.slice (some ⟨b0, 0, none⟩) cols c0)) (hc0 : w2.cell? ⟨b0, 0, none⟩ = some x0) (hf0 : w2.frozen? ⟨b0, 0, none⟩ = false) (hrd : Rdr w5 Br A m c z p') (hbut : But Br w2.drew w5) :
    (Rdr w5 Br A m c z p' ∧ But Br w2 w5) ∧ w5.cell? ⟨Bo, 0, none⟩ = some (.slice (some ⟨b0, 0, none⟩) cols c0) ∧
      (w5.alloc (.cells #[.int .i64 (-1), .int .i64 100, .int .i64 99] 3)).cell? ⟨w5.heap.size, y, none⟩ = some (.int .i64 (T3 y)) ∧ w5.cell? ⟨b0, 0, none⟩ = some x0 ∧ w5.frozen? ⟨b0, 0, none⟩ = false ∧ b0 < w5.heap.size ∧ Bo < w5.heap.size := by
  have hb : But Br w2 w5 := ⟨hbut.os, hbut.tape, hbut.output, hbut.size, hbut.block⟩
  refine ⟨⟨hrd, hb⟩, (World.cell?_of_block (hb.block Bo hBol (by omega))).trans hco, ?_, (World.cell?_of_block (hb.block b0 hb0l (by omega))).trans hc0, (World.frozen?_of_block (hb.block b0 hb0l (by omega))).trans hf0, by have := hb.size; omega, by have := hb.size; omega⟩
  unfold World.cell?
  rw [heap_alloc_new]
  exact table3 hy
/-- The table comes first, then the pick. -/
theorem rough_b {w w2 w5 : World} {Br Bo b0 y cols c0 m c : Nat} {A : Option Addr} {z : Nat → Int} {p' : Int} {x0 : Value} (hy : y < 3) (hBr : Br < w.heap.size) (hBol : Bo < w2.heap.size) (hb0l : b0 < w2.heap.size) (hBo : w.heap.size ≤ Bo) (hb0 : w.heap.size ≤ b0)
    (hco : w2.cell? ⟨Bo, 0, none⟩ = some (.slice (some ⟨b0, 0, none⟩) cols c0)) (hc0 : w2.cell? ⟨b0, 0, none⟩ = some x0) (hf0 : w2.frozen? ⟨b0, 0, none⟩ = false) (hrd : Rdr w5 Br A m c z p') (hbut : But Br (w2.alloc (.cells #[.int .i64 (-1), .int .i64 100, .int .i64 99] 3)).drew w5) :
    (Rdr w5 Br A m c z p' ∧ But Br w2 w5) ∧ w5.cell? ⟨Bo, 0, none⟩ = some (.slice (some ⟨b0, 0, none⟩) cols c0) ∧
      w5.cell? ⟨w2.heap.size, y, none⟩ = some (.int .i64 (T3 y)) ∧ w5.cell? ⟨b0, 0, none⟩ = some x0 ∧ w5.frozen? ⟨b0, 0, none⟩ = false ∧ b0 < w5.heap.size ∧ Bo < w5.heap.size := by
  have hb' : But Br (w2.alloc (.cells #[.int .i64 (-1), .int .i64 100, .int .i64 99] 3)) w5 := ⟨hbut.os, hbut.tape, hbut.output, hbut.size, hbut.block⟩
  have hb : But Br w2 w5 := (But.of_below (below_alloc w2 _)).trans hb'
  refine ⟨⟨hrd, hb⟩, (World.cell?_of_block (hb.block Bo hBol (by omega))).trans hco, ?_, (World.cell?_of_block (hb.block b0 hb0l (by omega))).trans hc0, (World.frozen?_of_block (hb.block b0 hb0l (by omega))).trans hf0, by have := hb.size; omega, by have := hb.size; omega⟩
  refine (World.cell?_of_block (hb'.block w2.heap.size (by simp) (by omega))).trans ?_
  unfold World.cell?
  rw [heap_alloc_new]
  exact table3 hy

theorem rough_fin {w w2 w5 W : World} {rows cols k Br Bo b0 co c0 m c y : Nat} {A : Option Addr} {z : Nat → Int} {p p' : Int} {g : Nat → Nat → Int} {V : Nat → Value} (hk : Hid (k = rows)) (hV : Hid (GridOV w2 w.heap.size (.slice (some ⟨Bo, 0, none⟩) k co) k (fun _ => cols) g V))
    (hV0 : Hid (V 0 = .slice (some ⟨b0, 0, none⟩) cols c0)) (hc : 1 ≤ cols) (hBr : Br < w.heap.size) (hbut : But Br w w2) (hb0 : w.heap.size ≤ b0) (hp : 1 ≤ k ∧ p' ≤ p + 149) (hF : Hid (Rdr w5 Br A m c z (p' + 1) ∧ But Br w2 w5))
    (hW : W = w5.setCell ⟨b0, 0, none⟩ (.int .i64 (T3 y)) ∨ W = (w5.setCell ⟨b0, 0, none⟩ (.int .i64 (T3 y))).alloc (.cells #[.int .i64 (-1), .int .i64 100, .int .i64 99] 3)) :
    RetRough rows cols Br A m c z p w (.returned (.slice (some ⟨Bo, 0, none⟩) k co)) W := by
  obtain ⟨hR, hB⟩ := hF.out
  have hV5 := (hV.out.of_but hB hBr).store (r := 0) (c := 0) (by omega) (by exact hc) hV0.out (T3 y)
  have hb5 : But Br w w5 := hbut.trans hB
  have key : RetRough rows cols Br A m c z p w (.returned (.slice (some ⟨Bo, 0, none⟩) k co)) (w5.setCell ⟨b0, 0, none⟩ (.int .i64 (T3 y))) := by
    refine ⟨_, fun _ => cols, _, p' + 1, rfl, ⟨V, by rw [← hk.out]; exact hV5⟩, fun r _ => ⟨Nat.le_refl _, Nat.le_succ _, Nat.le_refl _⟩, hR.keep fun q hq => Below.heap_setCell _ _ _ _ (by show q ≠ b0; omega), by omega, ?_⟩
    exact ⟨hb5.os, hb5.tape, hb5.output, by simpa [World.setCell] using hb5.size, fun q hq hne => (Below.heap_setCell _ _ _ _ (by show q ≠ b0; omega)).trans (hb5.block q hq hne)⟩
  rcases hW with rfl | rfl
  · exact key
  · obtain ⟨v, L, g', p2, e, h1, h2, h3, h4, h5⟩ := key
    exact ⟨v, L, g', p2, e, h1.below (below_alloc _ _), h2, h3.but (below_alloc _ _), h4, h5.trans (But.of_below (below_alloc _ _))⟩

set_option maxHeartbeats 2000000 in
set_option maxRecDepth 100000 in
theorem l91Rough_any (rows cols : Nat) (Br : Nat) (A : Option Addr) (m c : Nat) (z : Nat → Int) (p : Int) (w : World) (H : Rdr w Br A m c z p) (hp : p ≤ 100000) (hr1 : 1 ≤ rows) (hr2 : rows ≤ 9) (hc1 : 1 ≤ cols) (hc2 : cols ≤ 9) :
    Calls Tryd.prog 36 #[.pointer (some ⟨Br, 0, none⟩), .int .i64 rows, .int .i64 cols] w (RetRough rows cols Br A m c z p w) := by
  have HH := Lib.hid H
  have hBr := lt_of_blk H.blk
  have hp0 := H.p0
  clear H
  have HT0 := Lib.hid (Hts.new w w.heap.size (Nat.le_refl _) 1 2 3 4 6 9 5 2)
  have HH0 := Lib.hid (HH.out.but (below_alloc w (.cells #[.int .i64 1, .int .i64 2, .int .i64 3, .int .i64 4, .int .i64 6, .int .i64 9, .int .i64 5, .int .i64 2] 3)))
  go_enter Tryd.func36, Tryd.ntmps36
  go_wp2_with fail
  refine (pick_any _ _ _ _ _ _ _ _ HH0.out (by omega) (by omega) (by omega)).mono ?_
  rintro e w1 ⟨x, rfl, hx0, hx1, hrd, hbut⟩
  have HRd := Lib.hid hrd
  have hb1 : But Br w w1 := (But.of_below (below_alloc w _)).trans hbut
  have HT1 := Lib.hid (HT0.out.of_but hbut hBr)
  have hs1 := hb1.size
  clear hrd hbut HT0 HH0
  have HT2 := Lib.hid (Hts.new w1 w.heap.size hs1 0 10 25 40 55 70 99 12)
  have HR2 := Lib.hid (HRd.out.but (below_alloc w1 (.cells #[.int .i64 0, .int .i64 10, .int .i64 25, .int .i64 40, .int .i64 55, .int .i64 70, .int .i64 99, .int .i64 12] 3)))
  have HB2 : Hid (But Br w (w1.alloc (.cells #[.int .i64 0, .int .i64 10, .int .i64 25, .int .i64 40, .int .i64 55, .int .i64 70, .int .i64 99, .int .i64 12] 3))) := hb1.trans (But.of_below (below_alloc w1 _))
  have HStart : Hid (∀ (hv : Value) (wb : World), Hts wb w.heap.size hv → Rdr wb Br A m c z (p + 1) → But Br w wb → RelRo w rows cols Br A m c z p hv (.slice (some ⟨wb.heap.size, 0, none⟩) 0 0) (.int .i64 0) (wb.alloc (.cells #[] 38))) :=
    fun hv wb h1 h2 h3 => ⟨0, fun _ _ => 0, p + 1, Nat.zero_le _, rfl, h1.of_but (But.of_below (below_alloc wb _)) hBr, GridO.empty wb w.heap.size _ _ h3.size, h2.but (below_alloc wb _), by omega, h3.trans (But.of_below (below_alloc wb _))⟩
  have HSp := Lib.hid (HStart.out _ _ HT2.out HR2.out HB2.out)
  rw [show (w1.alloc (.cells #[.int .i64 0, .int .i64 10, .int .i64 25, .int .i64 40, .int .i64 55, .int .i64 70, .int .i64 99, .int .i64 12] 3)).heap.size = w1.heap.size + 1 by simp] at HSp
  have HSn := Lib.hid (HStart.out _ _ HT1.out HRd.out hb1)
  clear HStart HT2 HR2 HB2 HT1 HRd hb1 hs1
  by_cases hx : x = 0
  case' pos =>
    obtain ⟨Bh, hBh⟩ : ∃ Bh, Bh = w1.heap.size := ⟨_, rfl⟩
    have HBh := Lib.hid hBh
    rw [← hBh] at HSp
    have HS := HSp
    have dx : (x == 0) = true := by simpa using hx
    clear hBh HSp HSn hx
  case' neg =>
    obtain ⟨Bh, hBh⟩ : ∃ Bh, Bh = w.heap.size := ⟨_, rfl⟩
    have HBh := Lib.hid hBh
    rw [← hBh] at HSn
    have HS := HSn
    have dx : (x == 0) = false := by simpa using hx
    clear hBh HSp HSn hx
  all_goals
    go_wp2_with fail
    rw [← HBh.out]
    clear HBh
    go_loopw [8, 9] (RelRo w rows cols Br A m c z p (.slice (some ⟨Bh, 0, none⟩) 8 8)) (fun _ i _ => rows - (intOf i).toNat)
    case atStart => exact HS.out
    case round =>
      clear HS
      obtain ⟨k, g, p', hk, rfl, hts, hgo, hrd, hpb, hbut⟩ := hrel
      have HTS := Lib.hid hts
      have HGO := Lib.hid hgo
      have HRD := Lib.hid hrd
      have hp1 := hrd.p0
      obtain ⟨Ao, co, rfl, _, _⟩ := hgo.grid
      have hsz := hbut.size
      clear hgo hrd hts
      by_cases hlt : k < rows
      · have HI0 : Hid (RelRi wr w cols Br A m c z p' (.slice (some ⟨Bh, 0, none⟩) 8 8) (.slice (some ⟨wr.heap.size, 0, none⟩) 0 0) (.int .i64 0) (wr.alloc (.cells #[] 3))) :=
          ⟨0, fun _ => 0, p', Nat.zero_le _, rfl, HTS.out.of_but (But.of_below (below_alloc wr _)) hBr, OwnS.new wr wr.heap.size 3 _ (Nat.le_refl _) #[] 0 rfl (by decide), HRD.out.but (below_alloc wr _), by omega, But.of_below (below_alloc wr _)⟩
        have HTlt := Lib.hid HTS.out.lt
        go_wp2_with fail
        obtain ⟨wo, hwo⟩ : ∃ wo : World, wo = wr := ⟨_, rfl⟩
        rw [← hwo] at HI0 HGO HRD hbut hsz HTlt ⊢
        clear hwo HTS
        go_loopw [10, 11] (RelRi wo w cols Br A m c z p' (.slice (some ⟨Bh, 0, none⟩) 8 8)) (fun _ i _ => cols - (intOf i).toNat)
        case atStart => exact HI0.out
        case round =>
          clear HI0
          obtain ⟨j, f, p2, hj, rfl, hts, hown, hrd, hpb2, hbut2⟩ := hrel
          have HTS := Lib.hid hts
          have HOwn := Lib.hid hown
          have HRD2 := Lib.hid hrd
          have hp2 := hrd.p0
          obtain ⟨Ar, cr, rfl, _⟩ := hown.slice
          have hs2 := hbut2.size
          clear hown hrd hts
          by_cases hlt2 : j < cols
          · go_wp2_with fail
            refine (pick_any _ _ _ _ _ _ _ _ HRD2.out (by omega) (by omega) (by omega)).mono ?_
            rintro e w2 ⟨y, rfl, hy0, hy1, hrd, hbut3⟩
            obtain ⟨y, rfl⟩ := Int.eq_ofNat_of_zero_le hy0
            obtain ⟨B0, f0, e0, hB0, hr0⟩ := HTS.out.of_but hbut3 hBr
            injection e0 with e0
            injection e0 with e0
            injection e0 with e0
            subst e0
            have hcy := hr0.cell (i := y) (by omega)
            have HTS3 := Lib.hid (HTS.out.of_but hbut3 hBr)
            have HRD3 := Lib.hid hrd
            have HOwn3 := Lib.hid (HOwn.out.of_but hbut3 (by omega))
            have hs3 := hbut3.size
            clear hr0 hrd
            go_wp2_with (at_builtin; refine wpList_app1 rfl (.tmp 29) (.tmp 35) 38 rfl Tryd.underlying38 Tryd.infoI rfl rfl HOwn3.out (x := .int .i64 (f0 y)) rfl rfl (by omega) (by decide) (by omega) ?_; intro v1 w3 ho1 hg1; obtain ⟨A3, c3, rfl, _⟩ := ho1.slice)
            have hown3 : ∀ q, (Value.slice Ar j cr).ownBlock = some q → wo.heap.size ≤ q := fun q hq => (HOwn3.out.lt hq).1
            have HRel : Hid (RelRi wo w cols Br A m c z p' (.slice (some ⟨Bh, 0, none⟩) 8 8) (.slice A3 (j + 1) c3) (.int .i64 ((j + 1 : Nat))) w3) :=
              ⟨j + 1, fun q => if q < j then f q else f0 y, p2 + 1, by omega, rfl, HTS3.out.of_grew HTlt hg1 hown3, ho1.congr (fun q _ => by by_cases hq : q < j <;> simp [hq]), HRD3.out.grew hg1 (fun q hq => by have := hown3 q hq; omega), by omega,
                (hbut2.trans hbut3).grew hg1 hown3⟩
            clear ho1 hg1 hcy hown3
            go_wp2_with fail
            go_roundw
            case rel => exact HRel.out
            case measure => simp [intOf]; omega
          · have HJ : Hid (j = cols) := by show j = cols; omega
            obtain ⟨V, hV⟩ := HGO.out
            have HV' := Lib.hid (hV.of_but hbut2 (by omega))
            have HVo := Lib.hid hV
            clear hV
            go_wp2_with (at_builtin; refine wpList_app1 rfl (.tmp 37) (.tmp 39) 23 rfl Tryd.underlying23 Tryd.infoR rfl rfl HV'.out.1 (x := .slice Ar j cr) rfl rfl (by omega) (by decide) (by omega) ?_; intro v2 w2 ho2 hg2; obtain ⟨A3, c3, rfl, _⟩ := ho2.slice)
            have hrowk := HOwn.out
            rw [HJ.out] at hrowk ho2
            have hV0 : GridOV wo w.heap.size (.slice Ao k co) k (fun _ => cols) (fun r q => if r < k then g r q else f q) V := by
              exact (HVo.out).congr (fun _ _ => rfl) (fun r q hr _ => by simp [hr])
            have HSn := Lib.hid (GridOV.snoc2 hV0 (HV'.out.congr (fun _ _ => rfl) (fun r q hr _ => by simp [hr])) hsz (hrowk.congr fun q _ => by simp) ho2 hg2)
            have hown2 : ∀ q, (Value.slice Ao k co).ownBlock = some q → w.heap.size ≤ q := fun q hq => (HV'.out.1.lt hq).1
            have HRel : Hid (RelRo w rows cols Br A m c z p (.slice (some ⟨Bh, 0, none⟩) 8 8) (.slice A3 (k + 1) c3) (.int .i64 ((k + 1 : Nat))) w2) :=
              ⟨k + 1, _, p2, by omega, rfl, HTS.out.grew hg2.block (HTS.out.type HV'.out.1), ⟨_, HSn.out⟩, HRD2.out.grew hg2 (fun q hq => by have := hown2 q hq; omega), by omega, ((hbut.trans hbut2)).grew hg2 hown2⟩
            clear ho2 hg2 hrowk hV0 hown2
            go_wp2_with fail
            go_roundw
            case rel => exact HRel.out
            case measure => simp [intOf]; omega
      · have HK : Hid (k = rows) := by show k = rows; omega
        go_wp2_with fail
        refine (pick_any _ _ _ _ _ _ _ _ HRD.out (by omega) (by omega) (by omega)).mono ?_
        rintro e w2 ⟨y, rfl, hy0, hy1, hrd, hbut3⟩
        have HRD3 := Lib.hid hrd
        have HGO3 := Lib.hid (HGO.out.of_but hbut3 hBr)
        have hbut4 := hbut.trans hbut3
        have hs4 := hbut4.size
        clear hrd
        by_cases hya : y = 0
        · have dy : (y == 0) = true := by simpa using hya
          clear hya
          obtain ⟨V, hV⟩ := HGO3.out
          have HV3 := Lib.hid hV
          obtain ⟨Bo, co', e0, _, hBo, hco, _⟩ := hV.1.cell (k := 0) (by omega)
          injection e0 with e0 _ e1
          subst e0 e1
          obtain ⟨b0, c0, eV, _, hb0, hc0, hf0⟩ := OwnS.cell (k := 0) (hV.2.1 0 (by omega)) (by exact hc1)
          have HEV := Lib.hid eV
          rw [eV] at hco
          clear hV eV
          have hBol : Bo < w2.heap.size := World.block_lt_of_cell? w2 _ hco
          have hb0l : b0 < w2.heap.size := World.block_lt_of_cell? w2 _ hc0
          have HRa : Hid (Rdr w2.drew Br A m c z (p' + 1)) := HRD3.out.drew
          have HRb : Hid (Rdr (w2.alloc (.cells #[.int .i64 (-1), .int .i64 100, .int .i64 99] 3)).drew Br A m c z (p' + 1)) := (HRD3.out.but (below_alloc w2 _)).drew
          go_wp2_with fail
          go_region_with ((go_at_call 30; first | (refine (pick_any _ _ _ _ _ _ _ _ HRa.out (by omega) (by omega) (by omega)).mono ?_; rintro e w5 ⟨y5, rfl, hy50, hy51, hrd5, hbut5⟩; obtain ⟨y5, rfl⟩ := Int.eq_ofNat_of_zero_le hy50; have HF := rough_a (y := y5) (by omega) hBr hBol hb0l hBo hb0 hco hc0 hf0 hrd5 hbut5; have f1 := HF.2.1; have f2 := HF.2.2.1; have f3 := HF.2.2.2.1; have f4 := HF.2.2.2.2.1; have f5 := HF.2.2.2.2.2.1; have f6 := HF.2.2.2.2.2.2; have HFin := Lib.hid HF.1; clear HF hrd5 hbut5) | (refine (pick_any _ _ _ _ _ _ _ _ HRb.out (by omega) (by omega) (by omega)).mono ?_; rintro e w5 ⟨y5, rfl, hy50, hy51, hrd5, hbut5⟩; obtain ⟨y5, rfl⟩ := Int.eq_ofNat_of_zero_le hy50; have HF := rough_b (y := y5) (by omega) hBr hBol hb0l hBo hb0 hco hc0 hf0 hrd5 hbut5; have f1 := HF.2.1; have f2 := HF.2.2.1; have f3 := HF.2.2.2.1; have f4 := HF.2.2.2.2.1; have f5 := HF.2.2.2.2.2.1; have f6 := HF.2.2.2.2.2.2; have HFin := Lib.hid HF.1; clear HF hrd5 hbut5)))
          all_goals go_wp2_with fail
          all_goals go_ret
          all_goals exact rough_fin (W := _) HK HV3 HEV hc1 hBr hbut4 hb0 (by omega) HFin (by first | exact .inl rfl | exact .inr rfl)
        by_cases hyb : y = 1
        · have dy : (y == 0) = false := by simpa using hya
          have dy1 : (y == 1) = true := by simpa using hyb
          clear hya hyb
          obtain ⟨V, hV⟩ := HGO3.out
          have HV3 := Lib.hid hV
          obtain ⟨Bo, co', e0, _, hBo, hco, hfo⟩ := hV.1.cell (k := rows - 1) (by omega)
          injection e0 with e0 _ e1
          subst e0 e1
          obtain ⟨Ar, cr, eV, _⟩ := (hV.2.1 (rows - 1) (by omega)).slice
          have HEV := Lib.hid eV
          have HRw := Lib.hid (hV.2.1 (rows - 1) (by omega))
          rw [eV] at hco HRw
          clear hV eV
          go_wp2_with (at_builtin; refine wpList_app1 rfl (.tmp 63) (.tmp 64) 38 rfl Tryd.underlying38 Tryd.infoI rfl rfl HRw.out (x := .int .i64 3) rfl rfl (by omega) (by decide) (by omega) ?_; intro v1 w3 ho1 hg1; obtain ⟨A3, c3, rfl, _⟩ := ho1.slice; have hcoo := (World.cell?_of_block (hg1.block Bo (World.block_lt_of_cell? w2 _ hco) (own_type_ne HV3.out.1 HRw.out (by decide) rfl))).trans hco; have hfoo := (World.frozen?_of_block (a := ⟨Bo, rows - 1, none⟩) (hg1.block Bo (World.block_lt_of_cell? w2 _ hco) (own_type_ne HV3.out.1 HRw.out (by decide) rfl))).trans hfo)
          go_ret
          have hg2 : Grew w2 w3 (V (rows - 1)) (.slice A3 (cols + 1) c3) := by rw [HEV.out]; exact hg1
          have hfin := GridOV.regrow HV3.out (r := rows - 1) (by omega) (m := cols + 1) (f := fun q => if q < cols then g (rows - 1) q else 3) (ho1.congr fun q _ => by by_cases hq : q < cols <;> simp [hq]) hg2 rfl
          have hrowlo : ∀ q, (V (rows - 1)).ownBlock = some q → w.heap.size ≤ q := fun q hq => ((HV3.out.2.1 (rows - 1) (by omega)).lt hq).1
          have hb5 : But Br w w3 := hbut4.grew hg2 hrowlo
          have hR5 : Rdr w3 Br A m c z (p' + 1) := HRD3.out.grew hg2 (fun q hq => by have := hrowlo q hq; omega)
          refine ⟨.slice (some ⟨Bo, 0, none⟩) rows co, _, _, p' + 1, by rw [← HK.out]; rfl, ⟨_, by rw [HK.out] at hfin; exact hfin⟩, fun r hr => ?_, hR5.keep fun q hq => Below.heap_setCell _ _ _ _ (by show q ≠ Bo; omega), by omega, ?_⟩
          · refine ⟨?_, ?_, ?_⟩ <;> (repeat' split) <;> omega
          · exact ⟨hb5.os, hb5.tape, hb5.output, by simpa [World.setCell] using hb5.size, fun q hq hne => (Below.heap_setCell _ _ _ _ (by show q ≠ Bo; omega)).trans (hb5.block q hq hne)⟩
        · have dy : (y == 0) = false := by simpa using hya
          have dy1 : (y == 1) = false := by simpa using hyb
          clear hya hyb
          go_wp2_with fail
          go_ret
          rw [HK.out] at HGO3
          exact ⟨_, _, _, _, by rw [HK.out]; rfl, HGO3.out, fun r _ => ⟨Nat.le_refl _, Nat.le_succ _, Nat.le_refl _⟩, HRD3.out, by omega, hbut4⟩

end Go.Proofs.YtkkkkgcijkjeoaaDoor
