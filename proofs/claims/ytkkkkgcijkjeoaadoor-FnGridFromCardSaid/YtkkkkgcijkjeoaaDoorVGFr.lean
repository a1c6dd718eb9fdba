/- The law FnGridFrom: its draw and its walk. -/
import Derived.Test.YtkkkkgcijkjeoaaDoorLawH
import Derived.Test.YtkkkkgcijkjeoaaDoorITxt
import Derived.Test.YtkkkkgcijkjeoaaDoorSFr
namespace Go.Proofs.YtkkkkgcijkjeoaaDoor
set_option linter.unusedVariables false
set_option linter.unusedSimpArgs false
open Go.RowKit

theorem Strs.but {w w' : World} {Br B : Nat} {ls : List (List UInt8)} (h : Strs w B ls) (hb : But Br w w') (hne : B ≠ Br) : Strs w' B ls := by
  have hl := h.lt
  obtain ⟨cur, hc, hk⟩ := h
  exact ⟨cur, (hb.block B hl hne).trans hc, hk⟩
theorem Strs.lit (w : World) (ls : List (List UInt8)) : Strs (w.alloc (.cells (ls.map fun l => Value.string ⟨l.toArray⟩).toArray 9)) w.heap.size ls :=
  ⟨_, heap_alloc_new w _, fun k hk => by simp [hk]⟩
/-- One of a list of texts. -/
def RetOf (Br : Nat) (ls : List (List UInt8)) (w : World) (e : Ending) (w' : World) : Prop := ∃ y, y < ls.length ∧ e = .returned (.string ⟨(ls.getD y []).toArray⟩) ∧ But Br w w'
set_option maxHeartbeats 1000000 in
set_option maxRecDepth 100000 in
theorem ofT_any (Br B : Nat) (A : Option Addr) (m c : Nat) (z : Nat → Int) (p : Int) (ls : List (List UInt8)) (w : World) (H : Rdr w Br A m c z p) (hp : p ≤ 100000) (hS : Strs w B ls) (hB : B ≠ Br) (h1 : 1 ≤ ls.length) (h2 : ls.length ≤ 1000) :
    Calls Tryd.prog 31 #[.pointer (some ⟨Br, 0, none⟩), .slice (some ⟨B, 0, none⟩) ls.length ls.length] w (RetOf Br ls w) := by
  have HH := Lib.hid H
  have HS := Lib.hid hS
  have HG : Hid (∀ y, y < ls.length → ∃ v, v = Value.string ⟨(ls.getD y []).toArray⟩) := fun y _ => ⟨_, rfl⟩
  clear H hS
  obtain ⟨n, hn⟩ : ∃ n, n = ls.length := ⟨_, rfl⟩
  rw [← hn] at h1 h2 ⊢
  have HN := Lib.hid hn
  clear hn
  go_enter Tryd.func31, Tryd.ntmps31
  go_wp2_with fail
  refine (pick_any _ _ _ _ _ _ _ _ HH.out (by omega) (by omega) (by omega)).mono ?_
  rintro e w1 ⟨x, rfl, hx0, hx1, hrd, hb1⟩
  obtain ⟨x, rfl⟩ := Int.eq_ofNat_of_zero_le hx0
  have hxn : x < n := by omega
  have hc := (HS.out.but hb1 hB).cell (k := x) (by rw [← HN.out]; exact hxn)
  have HF : Hid (RetOf Br ls w (.returned (.string ⟨(ls.getD x []).toArray⟩)) w1) := ⟨x, by rw [← HN.out]; exact hxn, rfl, hb1⟩
  clear hrd hb1 HS HH
  generalize (ls.getD x []) = q at *
  go_wp2_with fail
  go_ret
  exact HF.out
/-- A short text. -/
def RetT (w : World) (e : Ending) (w' : World) : Prop := ∃ l : List UInt8, e = .returned (.string ⟨l.toArray⟩) ∧ l.length ≤ 1000 ∧ Below w.heap.size w w'
theorem textV_len (n : Nat) (L : Nat → Nat) (g : Nat → Nat → Int) : (textV n L g).length ≤ 200 := by
  by_cases hv : Valid n L g
  · rw [show textV n L g = gridT (L 0) g n from if_pos hv]
    have hlen := gridT_len (L 0) g hv.2.2.1 n
    have hN1 : L 0 * n ≤ 49 := Nat.le_trans (Nat.mul_le_mul hv.2.2.2.1 hv.2.1) (by decide)
    omega
  · rw [show textV n L g = [] from if_neg hv]; simp
def tailsT : List (List UInt8) := [[32, 49], [47], [47, 48, 49], [32, 48, 120], [32]]
def textsT : List (List UInt8) := [[], [55], [48, 55, 32, 49, 50, 47, 51, 48, 32, 57, 57], [48, 55, 47, 49], [49, 48, 48], [48, 55, 32, 32, 49, 50]]
theorem tails_len {y : Nat} (h : y < tailsT.length) : (tailsT.getD y []).length ≤ 20 := by
  match y, h with
  | 0, _ | 1, _ | 2, _ | 3, _ | 4, _ => decide
theorem texts_len {y : Nat} (h : y < textsT.length) : (textsT.getD y []).length ≤ 20 := by
  match y, h with
  | 0, _ | 1, _ | 2, _ | 3, _ | 4, _ | 5, _ => decide
theorem bytes_app (l q : List UInt8) : (⟨l.toArray⟩ : ByteArray) ++ ⟨q.toArray⟩ = ⟨(l ++ q).toArray⟩ := by
  rw [ByteArray.mk_append_mk]
set_option maxHeartbeats 1500000 in
set_option maxRecDepth 100000 in
theorem drawGridFrom_any (A : Option Addr) (m c : Nat) (z : Nat → Int) (w : World) (h : RowB w A m z) (hm : m ≤ 9223372036854775807) (hmc : m ≤ c) :
    Calls Tryd.prog 12 #[.slice A m c] w (RetT w) := by
  have HR := Lib.hid h
  clear h
  go_enter Tryd.func12, Tryd.ntmps12
  go_wp2_with fail
  refine (l6Open_any _ _ _ _ _ HR.out hm hmc).mono ?_
  rintro e w1 ⟨m', c', rfl, hrd, hs1, hb1⟩
  have HRd := Lib.hid hrd
  have HS1 := Lib.hid hs1
  clear hrd hs1
  go_wp2_with fail
  refine (l91Grid_any _ _ _ _ _ _ _ HRd.out (by omega)).mono ?_
  rintro e w2 ⟨v, n, L, g, p', rfl, hn1, hn2, hgo, hL, hrd2, hp2, hb2⟩
  obtain ⟨Av, cv, rfl, _, hgrid⟩ := hgo.grid
  have HG := Lib.hid hgrid
  have HL : Hid (∀ r, r < n → L r ≤ 1048576) := fun r hr => by have := hL r hr; omega
  have HR2 := Lib.hid hrd2
  have hB2 : Below w.heap.size w w2 := hb1.trans (hb2.below hb1.size (Nat.le_refl _))
  clear hgo hL hgrid hb2 hrd2
  go_wp2_with fail
  refine (specGridText_any _ _ _ _ _ _ HG.out (by omega) HL.out).mono ?_
  rintro e w3 ⟨rfl, hb3⟩
  have hB3 := hB2.trans (hb3.mono hB2.size)
  have HR3 := Lib.hid (HR2.out.but hb3)
  have htl := textV_len n L g
  generalize textV n L g = t at htl ⊢
  clear hb3 hB2
  go_wp2_with fail
  refine (pick_any _ _ _ _ _ _ _ _ HR3.out (by omega) (by omega) (by omega)).mono ?_
  rintro e w4 ⟨x, rfl, hx0, hx1, hrd4, hb4⟩
  have hB4 := hB3.trans (hb4.below hB3.size (Nat.le_refl _))
  have HR4 := Lib.hid hrd4
  have hbr : w.heap.size < w4.heap.size := (Array.getElem?_eq_some_iff.1 hrd4.blk).1
  clear hrd4 hb4
  by_cases hxa : x = 0
  · subst hxa
    have HSt : Hid (Strs (w4.alloc (.cells #[.string ⟨#[32, 49]⟩, .string ⟨#[47]⟩, .string ⟨#[47, 48, 49]⟩, .string ⟨#[32, 48, 120]⟩, .string ⟨#[32]⟩] 9)) w4.heap.size tailsT) := Strs.lit w4 tailsT
    have hba := below_alloc w4 (.cells #[.string ⟨#[32, 49]⟩, .string ⟨#[47]⟩, .string ⟨#[47, 48, 49]⟩, .string ⟨#[32, 48, 120]⟩, .string ⟨#[32]⟩] 9)
    have HR5 := Lib.hid (HR4.out.but hba)
    have hB5 := hB4.trans (hba.mono hB4.size)
    go_wp2_with fail
    refine (ofT_any _ _ _ _ _ _ _ tailsT _ HR5.out (by omega) HSt.out (by omega) (by decide) (by decide)).mono ?_
    rintro e w6 ⟨y, hy, rfl, hb6⟩
    have hB6 := hB5.trans (hb6.below hB5.size (Nat.le_refl _))
    have hql := tails_len hy
    have HE := Lib.hid (bytes_app t (tailsT.getD y []))
    generalize tailsT.getD y [] = q at *
    clear hba hb6 hy HSt
    go_wp2_with fail
    go_ret
    exact ⟨t ++ q, by rw [← HE.out]; rfl, by rw [List.length_append]; omega, hB6⟩
  · by_cases hxb : x = 1
    · subst hxb
      have HSt : Hid (Strs (w4.alloc (.cells #[.string ⟨#[]⟩, .string ⟨#[55]⟩, .string ⟨#[48, 55, 32, 49, 50, 47, 51, 48, 32, 57, 57]⟩, .string ⟨#[48, 55, 47, 49]⟩, .string ⟨#[49, 48, 48]⟩, .string ⟨#[48, 55, 32, 32, 49, 50]⟩] 9)) w4.heap.size textsT) := Strs.lit w4 textsT
      have hba := below_alloc w4 (.cells #[.string ⟨#[]⟩, .string ⟨#[55]⟩, .string ⟨#[48, 55, 32, 49, 50, 47, 51, 48, 32, 57, 57]⟩, .string ⟨#[48, 55, 47, 49]⟩, .string ⟨#[49, 48, 48]⟩, .string ⟨#[48, 55, 32, 32, 49, 50]⟩] 9)
      have HR5 := Lib.hid (HR4.out.but hba)
      have hB5 := hB4.trans (hba.mono hB4.size)
      go_wp2_with fail
      refine (ofT_any _ _ _ _ _ _ _ textsT _ HR5.out (by omega) HSt.out (by omega) (by decide) (by decide)).mono ?_
      rintro e w6 ⟨y, hy, rfl, hb6⟩
      have hB6 := hB5.trans (hb6.below hB5.size (Nat.le_refl _))
      have hql := texts_len hy
      generalize textsT.getD y [] = q at *
      clear hba hb6 hy HSt
      go_wp2_with fail
      go_ret
      exact ⟨q, rfl, by omega, hB6⟩
    · go_wp2_with fail
      go_ret
      exact ⟨t, rfl, by omega, hB4⟩

set_option maxHeartbeats 1500000 in
set_option maxRecDepth 100000 in
theorem fnGridFrom_walk (A : Option Addr) (m cp : Nat) (z : Nat → Int) (mx : Int) (w : World) (hz : RowB w A m z) (hm : m ≤ 9223372036854775807 ∧ m ≤ cp) (hmx : w.cell? ⟨0, 0, none⟩ = some (.int .i64 mx)) :
    Calls Tryd.prog 4 #[.slice A m cp] w (RetV (.bool true) w) := by
  have HZ := Lib.hid hz
  obtain ⟨hm1, hm2⟩ := hm
  have HM := Lib.hid hmx
  have hw0 : 0 < w.heap.size := World.block_lt_of_cell? w _ hmx
  clear hz hmx
  by_cases hbig : 1048576 < m
  · go_enter Tryd.func4, Tryd.ntmps4
    go_wp2_with fail
    go_ret
    exact ⟨rfl, Below.refl _ _⟩
  go_enter Tryd.func4, Tryd.ntmps4
  go_wp2_with fail
  refine (drawGridFrom_any _ _ _ _ _ HZ.out hm1 hm2).mono ?_
  rintro e w1 ⟨l, rfl, hl, hb1⟩
  have hM1 := (hb1.cell (p := ⟨0, 0, none⟩) hw0).trans HM.out
  by_cases hF : FromI l
  · have HF := Lib.hid hF
    have HT : Hid (textV (nT l) (LT l) (gT l) = l) := ((from_iff l).1 hF).2
    have hv := hF.2.2
    have HV := Lib.hid hv
    have hv2 := hv.2.1
    have HL : Hid (∀ r, r < nT l → LT l r ≤ 1048576) := fun r hr => by have := (hv.2.2.2.2 r hr).1; have := hv.2.2.2.1; omega
    have HNo : Hid (¬ FromI (l ++ [48])) := fun h => by
      have h1 := h.len
      have h2 := hF.len
      rw [List.length_append] at h1
      simp only [List.length_cons, List.length_nil] at h1
      omega
    have HE : Hid ((⟨l.toArray⟩ : ByteArray) ++ ⟨#[48]⟩ = ⟨(l ++ [48]).toArray⟩) := bytes_app l [48]
    clear hF hv
    go_wp2_with fail
    refine (implGridFrom_any l mx _ (by omega) hM1).mono ?_
    rintro e w2 hh
    obtain ⟨Aq, cq, rfl, hcq, hown, hb2⟩ := hh.1 HF.out
    have hB2 := hb1.trans (hb2.mono hb1.size)
    have HQ2 := Lib.hid hown.grid
    clear hh hown hb2 hM1
    go_wp2_with fail
    refine (specGridFrom_any l _ (by omega)).mono ?_
    rintro e w3 hh
    obtain ⟨As, cs, rfl, hcs, hgs, hb3⟩ := hh.1 HF.out
    have hB3 := hB2.trans (hb3.mono hB2.size)
    have HQ3 := Lib.hid (HQ2.out.below hb3)
    have HS3 := Lib.hid hgs
    clear hh hgs hb3
    go_wp2_with fail
    refine (sameGrid_yes _ _ _ _ _ _ _ _ HQ3.out HS3.out (by omega) (fun r hr => by have := HL.out r hr; omega)).mono ?_
    rintro e w4 ⟨rfl, hb4⟩
    have hB4 := hB3.trans (hb4.mono hB3.size)
    have HQ4 := Lib.hid (HQ3.out.below hb4)
    have hM4 := (hB4.cell (p := ⟨0, 0, none⟩) hw0).trans HM.out
    clear hb4
    go_wp2_with fail
    have hc := implGridFrom_any (l ++ [48]) mx _ (by rw [List.length_append]; simp only [List.length_cons, List.length_nil]; omega) hM4
    rw [← HE.out] at hc
    refine hc.mono ?_
    rintro e w5 hh
    obtain ⟨Az, cz, rfl, _, _, hb5⟩ := hh.2 HNo.out
    have hB5 := hB4.trans (hb5.mono hB4.size)
    have HQ5 := Lib.hid (HQ4.out.below hb5)
    clear hh hb5 hM4 hc
    go_wp2_with fail
    refine (implValid_yes _ _ _ _ _ _ HQ5.out HV.out).mono ?_
    rintro e w6 ⟨rfl, hb6⟩
    have hB6 := hB5.trans (hb6.mono hB5.size)
    have HQ6 := Lib.hid (HQ5.out.below hb6)
    clear hb6
    go_wp2_with fail
    refine (implGridText_any _ _ _ _ _ _ HQ6.out (by omega) HL.out).mono ?_
    rintro e w7 ⟨rfl, hb7⟩
    have hB7 := hB6.trans (hb7.mono hB6.size)
    rw [HT.out]
    go_wp2_with fail
    go_ret
    exact ⟨rfl, hB7⟩
  · have HF := Lib.hid hF
    clear hF
    go_wp2_with fail
    refine (implGridFrom_any l mx _ (by omega) hM1).mono ?_
    rintro e w2 hh
    obtain ⟨Aq, cq, rfl, hcq, hown, hb2⟩ := hh.2 HF.out
    have hB2 := hb1.trans (hb2.mono hb1.size)
    clear hh hown hb2 hM1
    go_wp2_with fail
    refine (specGridFrom_any l _ (by omega)).mono ?_
    rintro e w3 hh
    obtain ⟨As, cs, rfl, hcs, hgs, hb3⟩ := hh.2 HF.out
    have hB3 := hB2.trans (hb3.mono hB2.size)
    clear hh hgs hb3
    go_wp2_with fail
    refine (sameGrid_yes _ _ 0 _ _ (fun _ => 0) (fun _ _ => 0) _ (fun r hr => absurd hr (Nat.not_lt_zero r)) (fun r hr => absurd hr (Nat.not_lt_zero r)) (by omega) (fun r hr => by omega)).mono ?_
    rintro e w4 ⟨rfl, hb4⟩
    have hB4 := hB3.trans (hb4.mono hB3.size)
    go_wp2_with fail
    refine (sameGrid_yes _ _ 0 _ _ (fun _ => 0) (fun _ _ => 0) _ (fun r hr => absurd hr (Nat.not_lt_zero r)) (fun r hr => absurd hr (Nat.not_lt_zero r)) (by omega) (fun r hr => by omega)).mono ?_
    rintro e w5 ⟨rfl, hb5⟩
    have hB5 := hB4.trans (hb5.mono hB4.size)
    go_wp2_with fail
    go_ret
    exact ⟨rfl, hB5⟩

end Go.Proofs.YtkkkkgcijkjeoaaDoor
