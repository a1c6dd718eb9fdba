/- Grids below each other: what the reference's function returns. -/
import Derived.Test.YthndabbjkkjkhaaIRai
namespace Go.Proofs.Ythndabbjkkjkhaa
set_option linter.unusedVariables false
set_option linter.unusedSimpArgs false
open Go.RowKit

theorem grid_of_own {w : World} {lo : Nat} {v : Value} {n : Nat} {L : Nat → Nat} {g : Nat → Nat → Int} {V : Nat → Value} (h1 : OwnS w lo 29 v n V) (h2 : ∀ r, r < n → OwnS w lo 3 (V r) (L r) (fun c => .int .i64 (g r c))) : ∃ A c, v = .slice A n c ∧ n ≤ c ∧ GridF w A n L g := by
  obtain ⟨A, c, rfl, hc⟩ := h1.slice
  refine ⟨A, c, rfl, hc, fun r hr => ?_⟩
  obtain ⟨b, c', e, _, _, hcell, _⟩ := h1.cell hr
  injection e with e
  subst e
  obtain ⟨A', c'', hV, hcc⟩ := (h2 r hr).slice
  rw [hV] at hcell
  refine ⟨b, 0, A', c'', rfl, by rw [Nat.zero_add]; exact hcell, hcc, fun k hk => ?_⟩
  obtain ⟨b2, c2, e2, _, _, hcell2, _⟩ := (h2 r hr).cell hk
  rw [hV] at e2
  injection e2 with e2
  exact ⟨b2, 0, e2, by rw [Nat.zero_add]; exact hcell2⟩

def belowL (n : Nat) (L L' : Nat → Nat) : Nat → Nat := fun r => if r < n then L r else L' (r - n)

theorem belowL_valid {na nb : Nat} {La Lb : Nat → Nat} {ga gb : Nat → Nat → Int} (ha : Valid na La ga) (hb : Valid nb Lb gb) : Valid (na + nb) (belowL na La Lb) (belowG na ga gb) ↔ Blw na La ga nb Lb gb := by
  have a1 := ha.1
  have b1 := hb.1
  have e0 : belowL na La Lb 0 = La 0 := if_pos (by omega)
  constructor
  · intro h
    refine ⟨ha, hb, ?_, h.2.1⟩
    have := (h.2.2.2.2 na (by omega)).1
    rw [e0] at this
    unfold belowL at this
    rw [if_neg (by omega), Nat.sub_self] at this
    exact this.symm
  · rintro ⟨_, _, e, h7⟩
    refine ⟨by omega, h7, by rw [e0]; exact ha.2.2.1, by rw [e0]; exact ha.2.2.2.1, fun r hr => ?_⟩
    rw [e0]
    refine ⟨?_, fun c hc => belowG_rng ha hb e hr hc⟩
    unfold belowL
    by_cases h : r < na
    · rw [if_pos h]; exact ha.len r h
    · rw [if_neg h, hb.len (r - na) (by omega), e]

/-- What append makes of two lists of rows. -/
theorem below_grid {w w1 w2 w3 : World} {v1 v2 v3 : Value} {na nb : Nat} {La Lb : Nat → Nat} {ga gb : Nat → Nat → Int} {V1 V2 : Nat → Value} (h1 : GridOV w1 w.heap.size v1 na La ga V1) (h2 : GridOV w2 w1.heap.size v2 nb Lb gb V2) (hb1 : Below w.heap.size w w1) (hb2 : Below w1.heap.size w1 w2)
    (h3 : OwnS w3 w.heap.size 29 v3 (na + nb) (fun i => if i < na then V1 i else V2 (i - na))) (hg : Grew w2 w3 v1 v3) : (∃ A c, v3 = .slice A (na + nb) c ∧ na + nb ≤ c ∧ GridF w3 A (na + nb) (belowL na La Lb) (belowG na ga gb)) ∧ Below w.heap.size w w3 := by
  have hv := h1.1.below hb2
  have keep : ∀ {u : Value} {m : Nat} {U : Nat → Value}, OwnS w2 w.heap.size 3 u m U → OwnS w3 w.heap.size 3 u m U := fun {u m U} hu =>
    hu.of_block fun k hk => hg.block k (hu.lt hk).2 (own_type_ne hu hv (by decide) hk)
  refine ⟨grid_of_own h3 fun r hr => ?_, (hb1.trans (hb2.mono hb1.size)).trans (hg.below (Nat.le_trans hb1.size hb2.size) fun j hj => (h1.1.lt hj).1)⟩
  unfold belowL belowG
  by_cases h : r < na
  · simp only [if_pos h]
    exact keep ((h1.2.1 r h).below hb2)
  · simp only [if_neg h]
    exact keep ((h2.2.1 (r - na) (by omega)).mono hb1.size)

theorem specGridBelow_any (Aa : Option Addr) (na cpa : Nat) (La : Nat → Nat) (ga : Nat → Nat → Int) (Ab : Option Addr) (nb cpb : Nat) (Lb : Nat → Nat) (gb : Nat → Nat → Int) (w : World) (hga : GridF w Aa na La ga) (hgb : GridF w Ab nb Lb gb) (hna : na ≤ 1048576) (hnb : nb ≤ 1048576) (hLa : ∀ r, r < na → La r ≤ 1048576) (hLb : ∀ r, r < nb → Lb r ≤ 1048576) :
    Calls Try.prog 28 #[.slice Aa na cpa, .slice Ab nb cpb] w (fun e w' => (Blw na La ga nb Lb gb ∧ RetGS (na + nb) (fun _ => La 0) (belowG na ga gb) true w e w') ∨ (¬ Blw na La ga nb Lb gb ∧ RetGS 0 La ga false w e w')) := by
  have HGa := Lib.hid hga
  have HGb := Lib.hid hgb
  have HLa := Lib.hid hLa
  have HLb := Lib.hid hLb
  clear hga hgb hLa hLb
  go_enter Try.func28, Try.ntmps28
  go_wp2_with fail
  refine (l1Copy_any _ _ _ _ _ _ HGa.out hna HLa.out).mono ?_
  rintro e w1 ⟨v1, rfl, hgo1, hb1⟩
  obtain ⟨A1, c1, rfl, _, _⟩ := hgo1.grid
  obtain ⟨V1, hV1⟩ := hgo1
  have HV1 := Lib.hid hV1
  clear hV1
  go_wp2_with fail
  refine (l1Copy_any _ _ _ _ _ _ (HGb.out.below hb1) hnb HLb.out).mono ?_
  rintro e w2 ⟨v2, rfl, hgo2, hb2⟩
  obtain ⟨A2, c2, rfl, _, _⟩ := hgo2.grid
  obtain ⟨V2, hV2⟩ := hgo2
  have HV2 := Lib.hid hV2
  clear hV2
  have hs2 : w.heap.size ≤ w2.heap.size := Nat.le_trans hb1.size hb2.size
  go_wp2_with (at_builtin; refine wpList_appN rfl (.tmp 8) (.tmp 10) 23 rfl Try.underlying23 Try.infoR rfl rfl (HV1.out.1.below hb2) (S := V2) (fun k hk => by obtain ⟨_, _, e, _⟩ := (HV2.out.2.1 k hk).slice; rw [e]; rfl) rfl (fun k hk => by obtain ⟨b, _, e, _, _, h, _⟩ := HV2.out.1.cell hk; injection e with e _ _; exact ⟨b, 0, e, by rw [Nat.zero_add]; exact h⟩) (by omega) (by decide) hs2 ?_; intro v3 w3 ho3 hg3; obtain ⟨⟨A3, c3, rfl, hc3, hgr3⟩, hb3⟩ := below_grid HV1.out HV2.out hb1 hb2 ho3 hg3; have HG3 := Lib.hid hgr3; clear hgr3 ho3 hg3 hs2)
  have hL3 : Hid (∀ r, r < na + nb → belowL na La Lb r ≤ 1048576) := fun r hr => by
    unfold belowL
    by_cases h : r < na
    · rw [if_pos h]; exact HLa.out r h
    · rw [if_neg h]; exact HLb.out (r - na) (by omega)
  clear HV1 HV2 hb1 hb2
  by_cases hva : Valid na La ga
  · have HVa := Lib.hid hva
    by_cases hvb : Valid nb Lb gb
    · have HVb := Lib.hid hvb
      by_cases hvo : Valid (na + nb) (belowL na La Lb) (belowG na ga gb)
      · have HB := Lib.hid ((belowL_valid hva hvb).1 hvo)
        have HVo := Lib.hid hvo
        clear hva hvb hvo
        go_wp2_with fail
        refine (specValid_yes _ _ _ _ _ _ (HGa.out.below hb3) HVa.out).mono ?_
        rintro e w4 ⟨rfl, hb4⟩
        have hB4 := hb3.trans (hb4.mono hb3.size)
        go_wp2_with fail
        refine (specValid_yes _ _ _ _ _ _ (HGb.out.below hB4) HVb.out).mono ?_
        rintro e w5 ⟨rfl, hb5⟩
        have hB5 := hB4.trans (hb5.mono hB4.size)
        have HG5 := Lib.hid ((HG3.out.below hb4).below hb5)
        go_wp2_with fail
        refine (specValid_yes _ _ _ _ _ _ HG5.out HVo.out).mono ?_
        rintro e w6 ⟨rfl, hb6⟩
        have HG6 := Lib.hid (HG5.out.below hb6)
        go_wp2_with fail
        go_ret2
        refine .inl ⟨HB.out, _, _, rfl, hc3, HG6.out.congrL (fun r hr => ?_) (fun _ _ _ _ => rfl), hB5.trans (hb6.mono hB5.size)⟩
        have h1 := HVo.out.len r hr
        have h2 : belowL na La Lb 0 = La 0 := if_pos (by have := HVa.out.1; omega)
        rw [h1, h2]
      · have HB : Hid (¬ Blw na La ga nb Lb gb) := fun h => hvo ((belowL_valid hva hvb).2 h)
        have HVo := Lib.hid hvo
        clear hva hvb hvo
        go_wp2_with fail
        refine (specValid_yes _ _ _ _ _ _ (HGa.out.below hb3) HVa.out).mono ?_
        rintro e w4 ⟨rfl, hb4⟩
        have hB4 := hb3.trans (hb4.mono hb3.size)
        go_wp2_with fail
        refine (specValid_yes _ _ _ _ _ _ (HGb.out.below hB4) HVb.out).mono ?_
        rintro e w5 ⟨rfl, hb5⟩
        have hB5 := hB4.trans (hb5.mono hB4.size)
        have HG5 := Lib.hid ((HG3.out.below hb4).below hb5)
        go_wp2_with fail
        refine (specValid_no _ _ _ _ _ _ HG5.out (by have := HVa.out.2.1; have := HVb.out.2.1; omega) hL3.out HVo.out).mono ?_
        rintro e w6 ⟨rfl, hb6⟩
        have hB6 := hB5.trans (hb6.mono hB5.size)
        go_wp2_with fail
        go_ret2
        exact .inr ⟨HB.out, _, _, rfl, Nat.le_refl _, fun r hr => by omega, hB6.alloc hB6.size _⟩
    · have HB : Hid (¬ Blw na La ga nb Lb gb) := fun h => hvb h.2.1
      have HVb := Lib.hid hvb
      clear hva hvb
      go_wp2_with fail
      refine (specValid_yes _ _ _ _ _ _ (HGa.out.below hb3) HVa.out).mono ?_
      rintro e w4 ⟨rfl, hb4⟩
      have hB4 := hb3.trans (hb4.mono hb3.size)
      go_wp2_with fail
      refine (specValid_no _ _ _ _ _ _ (HGb.out.below hB4) hnb HLb.out HVb.out).mono ?_
      rintro e w5 ⟨rfl, hb5⟩
      have hB5 := hB4.trans (hb5.mono hB4.size)
      go_wp2_with fail
      go_ret2
      exact .inr ⟨HB.out, _, _, rfl, Nat.le_refl _, fun r hr => by omega, hB5.alloc hB5.size _⟩
  · have HB : Hid (¬ Blw na La ga nb Lb gb) := fun h => hva h.1
    have HVa := Lib.hid hva
    clear hva
    go_wp2_with fail
    refine (specValid_no _ _ _ _ _ _ (HGa.out.below hb3) hna HLa.out HVa.out).mono ?_
    rintro e w4 ⟨rfl, hb4⟩
    have hB4 := hb3.trans (hb4.mono hb3.size)
    go_wp2_with fail
    go_ret2
    exact .inr ⟨HB.out, _, _, rfl, Nat.le_refl _, fun r hr => by omega, hB4.alloc hB4.size _⟩

theorem specGridBelow_yes (Aa : Option Addr) (na cpa : Nat) (La : Nat → Nat) (ga : Nat → Nat → Int) (Ab : Option Addr) (nb cpb : Nat) (Lb : Nat → Nat) (gb : Nat → Nat → Int) (w : World) (hga : GridF w Aa na La ga) (hgb : GridF w Ab nb Lb gb) (h : Blw na La ga nb Lb gb) :
    Calls Try.prog 28 #[.slice Aa na cpa, .slice Ab nb cpb] w (RetGS (na + nb) (fun _ => La 0) (belowG na ga gb) true w) :=
  (specGridBelow_any Aa na cpa La ga Ab nb cpb Lb gb w hga hgb h.1.n_le h.2.1.n_le h.1.L_le h.2.1.L_le).mono fun e w' hh => by
    rcases hh with hh | hh
    · exact hh.2
    · exact absurd h hh.1
theorem specGridBelow_no (Aa : Option Addr) (na cpa : Nat) (La : Nat → Nat) (ga : Nat → Nat → Int) (Ab : Option Addr) (nb cpb : Nat) (Lb : Nat → Nat) (gb : Nat → Nat → Int) (w : World) (hga : GridF w Aa na La ga) (hgb : GridF w Ab nb Lb gb) (hna : na ≤ 1048576) (hnb : nb ≤ 1048576) (hLa : ∀ r, r < na → La r ≤ 1048576) (hLb : ∀ r, r < nb → Lb r ≤ 1048576) (h : ¬ Blw na La ga nb Lb gb) :
    Calls Try.prog 28 #[.slice Aa na cpa, .slice Ab nb cpb] w (RetGS 0 La ga false w) :=
  (specGridBelow_any Aa na cpa La ga Ab nb cpb Lb gb w hga hgb hna hnb hLa hLb).mono fun e w' hh => by
    rcases hh with hh | hh
    · exact absurd hh.1 h
    · exact hh.2

end Go.Proofs.Ythndabbjkkjkhaa
