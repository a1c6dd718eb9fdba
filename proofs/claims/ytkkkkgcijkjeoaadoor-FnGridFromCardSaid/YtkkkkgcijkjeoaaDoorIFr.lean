/- A grid out of a text: what the program's function returns. -/
import Derived.Test.YtkkkkgcijkjeoaaDoorFrm
import Derived.Test.YtkkkkgcijkjeoaaDoorITurn
namespace Go.Proofs.YtkkkkgcijkjeoaaDoor
set_option linter.unusedVariables false
set_option linter.unusedSimpArgs false
open Go.RowKit

/-- A text read as a grid. -/
def RetFr (l : List UInt8) (w : World) (e : Ending) (w' : World) : Prop :=
  (FromI l → RetGI (nT l) (LT l) (gT l) true w e w') ∧ (¬ FromI l → RetGI 0 (fun _ => 0) (fun _ _ => 0) false w e w')
theorem RetFr.no {l : List UInt8} {w w' : World} {c : Nat} {A : Option Addr} (h : ¬ FromI l) (hb : Below w.heap.size w w') : RetFr l w (.returned (.tuple #[.slice A 0 c, .bool false])) w' :=
  ⟨fun h' => absurd h' h, fun _ => ⟨A, c, rfl, Nat.zero_le _, .inl rfl, hb⟩⟩
theorem split_list (c : UInt8) (p : List UInt8) (m : Int) (w : World) (hs : p.length ≤ 4000000) (hm : w.cell? ⟨0, 0, none⟩ = some (.int .i64 m)) :
    Calls Tryd.prog 26 #[.string ⟨p.toArray⟩, .string ⟨#[c]⟩] w (RetSp (cutC c p) w) := by
  have := split_any c ⟨p.toArray⟩ m w (by simpa [ByteArray.size] using hs) hm
  simpa using this

set_option maxHeartbeats 2000000 in
set_option maxRecDepth 100000 in
theorem implGridFrom_any (l : List UInt8) (m : Int) (w : World) (hs : l.length ≤ 2000000) (hm : w.cell? ⟨0, 0, none⟩ = some (.int .i64 m)) :
    Calls Tryd.prog 9 #[.string ⟨l.toArray⟩] w (RetFr l w) := by
  by_cases hbig : 147 < l.length
  · have HNo : Hid (¬ FromI l) := fun h => by have := h.1; omega
    go_enter Tryd.func9, Tryd.ntmps9
    go_wp2_with fail
    go_ret2
    exact RetFr.no HNo.out (Below.refl _ _)
  · have HM := Lib.hid hm
    have hw0 : 0 < w.heap.size := World.block_lt_of_cell? w _ hm
    have hn1 := nT_le l
    have HL1 : Hid (∀ r, LT l r ≤ l.length + 1) := LT_le l
    have HG0 : Hid (GridO (w.alloc (.cells #[] 38)) w.heap.size (.slice (some ⟨w.heap.size, 0, none⟩) 0 0) 0 (LT l) (gT l)) := GridO.empty w w.heap.size _ _ (Nat.le_refl _)
    have hb0 := below_alloc w (.cells #[] 38)
    have hm0 := (hb0.cell (p := ⟨0, 0, none⟩) hw0).trans HM.out
    clear hm
    go_enter Tryd.func9, Tryd.ntmps9
    go_wp2_with fail
    refine (split_list 47 l m _ (by omega) hm0).mono ?_
    rintro e w1 ⟨Bl, rfl, hBl, hst, hb1⟩
    have HG1 := Lib.hid (HG0.out.below hb1)
    have hW1 := hb0.trans (hb1.mono hb0.size)
    have HS1 : Hid (Strs w1 Bl (linesT l)) := hst
    rw [show (cutC 47 l).length = nT l from rfl]
    clear hst HG0 hb0 hb1 hm0 hBl
    go_wp2_with fail
    go_loopw [4, 21] (fun gv iv wr => ∃ k : Nat, k ≤ nT l ∧ iv = .int .i64 k ∧ Hid (GridO wr w.heap.size gv k (LT l) (gT l)) ∧ Hid (∀ r, r < k → ∀ c, c < LT l r → DigW (wordT l r c)) ∧ Hid (Strs wr Bl (linesT l)) ∧ Below w.heap.size w wr) (fun _ iv _ => nT l - (intOf iv).toNat)
    case atStart => exact ⟨0, Nat.zero_le _, rfl, HG1.out, fun r hr => absurd hr (Nat.not_lt_zero r), HS1.out, hW1⟩
    case round =>
      clear HG1 HS1 hW1
      obtain ⟨k, hk, rfl, HG, HD, HS, hB⟩ := hrel
      obtain ⟨Ag, cg, rfl, hkc, _⟩ := HG.out.grid
      have hsz := hB.size
      by_cases hlt : k < nT l
      · have hce := HS.out.cell hlt
        have hll := line_len l k
        have HW : Hid (cutC 32 ((linesT l).getD k []) = wordsT l k) := rfl
        obtain ⟨p, hp⟩ : ∃ p, p = (linesT l).getD k [] := ⟨_, rfl⟩
        rw [← hp] at hce hll HW
        clear hp
        obtain ⟨wo, hwo⟩ : ∃ wo : World, wo = wr := ⟨_, rfl⟩
        rw [← hwo] at HG HS hB hsz hce ⊢
        clear hwo
        have HR0 : Hid (OwnS (wo.alloc (.cells #[] 3)) wo.heap.size 3 (.slice (some ⟨wo.heap.size, 0, none⟩) 0 0) 0 (fun c => .int .i64 (gT l k c))) := OwnS.new wo wo.heap.size 3 _ (Nat.le_refl _) #[] 0 rfl (by decide)
        have hbo := below_alloc wo (.cells #[] 3)
        have hmo := ((hB.trans (hbo.mono hsz)).cell (p := ⟨0, 0, none⟩) hw0).trans HM.out
        have hlo := hbo.size
        have hceo := (hbo.cell (World.block_lt_of_cell? wo _ hce)).trans hce
        go_wp2_with fail
        refine (split_list 32 p m _ (by omega) hmo).mono ?_
        rintro e w2 ⟨Bw, rfl, hBw, hst, hb2⟩
        rw [HW.out] at hst ⊢
        have HRw := Lib.hid (HR0.out.below hb2)
        have HSw := Lib.hid hst
        have hb2' := hbo.trans (hb2.mono hlo)
        rw [show (wordsT l k).length = LT l k from rfl]
        have hLk := HL1.out k
        clear HR0 hst hbo hb2 hmo hce hceo hBw
        go_wp2_with fail
        go_loopw [7, 29] (fun rv iv wi => ∃ j : Nat, j ≤ LT l k ∧ iv = .int .i64 j ∧ Hid (OwnS wi wo.heap.size 3 rv j (fun c => .int .i64 (gT l k c))) ∧ Hid (∀ c, c < j → DigW (wordT l k c)) ∧ Hid (Strs wi Bw (wordsT l k)) ∧ Below wo.heap.size wo wi) (fun _ iv _ => LT l k - (intOf iv).toNat)
        case atStart => exact ⟨0, Nat.zero_le _, rfl, HRw.out, fun c hc => absurd hc (Nat.not_lt_zero c), HSw.out, hb2'⟩
        case round =>
          clear HRw HSw hb2'
          obtain ⟨j, hj, rfl, HR, HDw, HSw, hbi⟩ := hrel
          obtain ⟨Ar, cr, rfl, hrc⟩ := HR.out.slice
          have hsi := hbi.size
          by_cases hltj : j < LT l k
          · have hcw := HSw.out.cell hltj
            have HWd : Hid ((wordsT l k).getD j [] = wordT l k j) := rfl
            rw [HWd.out] at hcw
            have hwl := word_len l k j
            have HVal : Hid (DigW (wordT l k j) → digV (wordT l k j) = gT l k j) := fun h => (dig_yes h).1
            have HDg : Hid (digOk (wordT l k j) = true → DigW (wordT l k j)) := dig_ok
            have HNd : Hid (digOk (wordT l k j) = false → ¬ FromI l) := fun h hf => by
              have := (dig_yes (hf.2.1 k hlt j hltj)).2
              rw [h] at this; cases this
            go_wp2_with fail
            refine (twoDigits_any (wordT l k j) _ (by omega)).mono ?_
            rintro e w3 ⟨rfl, hb3⟩
            have hbi3 := hbi.trans (hb3.mono hsi)
            cases hok : digOk (wordT l k j)
            · have HNo := Lib.hid (HNd.out hok)
              clear hok
              go_wp2_with fail
              go_ret2
              exact RetFr.no HNo.out (hB.trans (hbi3.mono hsz))
            · have HDj := Lib.hid (HDg.out hok)
              have HR3 := Lib.hid (HR.out.below hb3)
              have HS3 := Lib.hid (HSw.out.below hb3)
              have HVj := Lib.hid (HVal.out HDj.out)
              have hs3 := hbi3.size
              clear hok HVal HDg HNd
              rw [HVj.out]
              generalize hx : gT l k j = x
              have HX := Lib.hid hx
              clear hx
              go_wp2_with (at_builtin; refine wpList_app1 rfl (.tmp 40) (.tmp 42) 38 rfl Tryd.underlying38 Tryd.infoI rfl rfl HR3.out (x := .int .i64 x) rfl rfl (by omega) (by decide) hs3 ?_; intro v4 w4 ho hg; obtain ⟨A4, c4, rfl, _⟩ := ho.slice)
              have HR4 : Hid (OwnS w4 wo.heap.size 3 (.slice A4 (j + 1) c4) (j + 1) (fun c => .int .i64 (gT l k c))) := ho.congr fun i hi => by
                by_cases e : i < j
                · rw [if_pos e]
                · rw [if_neg e, ← HX.out, show i = j by omega]
              have HS4 := Lib.hid (HS3.out.grew hg HR3.out (by decide))
              have hbi4 := hbi3.trans (hg.below hs3 (fun q hq => (HR3.out.lt hq).1))
              clear ho hg
              go_wp2_with fail
              go_roundw
              case rel =>
                refine ⟨j + 1, by omega, by go_num, HR4.out, fun c hc => ?_, HS4.out, hbi4⟩
                by_cases e : c = j
                · rw [e]; exact HDj.out
                · exact HDw.out c (by omega)
              case measure => simp [intOf]; omega
          · have hjk : Hid (j = LT l k) := by show j = LT l k; omega
            obtain ⟨V, hV⟩ := HG.out
            have HVo := Lib.hid hV
            have HVi := Lib.hid (hV.below hbi)
            have HSi := Lib.hid (HS.out.below hbi)
            have hRk := HR.out
            rw [hjk.out] at hRk
            have HRk := Lib.hid hRk
            clear hV hRk HR
            have HD9 : Hid (∀ r, r < k + 1 → ∀ c, c < LT l r → DigW (wordT l r c)) := fun r hr c hc => by
              by_cases e : r = k
              · rw [e] at hc ⊢; exact HDw.out c (by have := hjk.out; omega)
              · exact HD.out r (by omega) c hc
            go_wp2_with (at_builtin; refine wpList_app1 rfl (.tmp 45) (.tmp 47) 23 rfl Tryd.underlying23 Tryd.infoR rfl rfl HVi.out.1 (x := .slice Ar j cr) rfl rfl (by omega) (by decide) (by omega) ?_; intro v2 w4 ho2 hg2; obtain ⟨A4, c4, rfl, _⟩ := ho2.slice)
            rw [← hjk.out] at HRk
            have HG4 : Hid (GridO w4 w.heap.size (.slice A4 (k + 1) c4) (k + 1) (LT l) (gT l)) := ⟨_, GridOV.snoc HVo.out hbi (by rw [← hjk.out]; exact HRk.out.mono hsz) (fun q hq => (HRk.out.lt hq).1) ho2 hg2⟩
            have HS4 := Lib.hid (HSi.out.grew hg2 HVi.out.1 (by decide))
            have hB4 := (hB.trans (hbi.mono hsz)).trans (hg2.below (Nat.le_trans hsz hsi) (fun q hq => (HVi.out.1.lt hq).1))
            clear ho2 hg2
            go_wp2_with fail
            go_roundw
            case rel => exact ⟨k + 1, by omega, by go_num, HG4.out, HD9.out, HS4.out, hB4⟩
            case measure => simp [intOf]; omega
      · have hkn : Hid (k = nT l) := by show k = nT l; omega
        have HGn := HG.out
        rw [hkn.out] at HGn
        obtain ⟨_, _, he, _, hgf⟩ := HGn.grid
        injection he with he1 he2 he3
        subst he1 he3
        have HGf := Lib.hid hgf
        have HDn : Hid (AllW DigW l) := fun r hr c hc => HD.out r (by rw [hkn.out]; exact hr) c hc
        clear HGn hgf HG HD HS
        have hL1 := HL1.out
        by_cases hv : Valid (nT l) (LT l) (gT l)
        · have hF : FromI l := ⟨by omega, HDn.out, hv⟩
          have HF := Lib.hid hF
          have HV := Lib.hid hv
          have hv1 := hv.1
          have hv2 := hv.2.1
          have hv3 := hv.2.2.1
          have hv4 := hv.2.2.2.1
          clear hv hF
          go_wp2_with fail
          rw [hkn.out]
          refine (fieldOf_yes _ _ _ _ _ _ _ HGf.out HV.out rfl).mono ?_
          rintro e w2 ⟨bq, rfl, hlo, hrow, hb2⟩
          have HB0 := Lib.hid (Boxed.new (R := nT l) (C := LT l 0) hrow)
          have hB2 := hB.trans (hb2.mono hsz)
          have hbx := hB2.alloc hB2.size (.cells #[.int .i64 (nT l), .int .i64 (LT l 0), .slice (some ⟨bq, 0, none⟩) (nT l * LT l 0) (nT l * LT l 0)] 40)
          clear hrow
          go_wp2_with fail
          refine (lists_any _ _ _ _ _ _ hv1 hv3 (by omega) (by omega) rfl (Lib.hid HB0.out.row)).mono ?_
          rintro e w3 ⟨A3, c3, rfl, hc3, hown, hb3⟩
          have HFin : Hid (RetFr l w (.returned (.tuple #[.slice A3 (nT l) c3, .bool true])) w3) :=
            ⟨fun _ => ⟨A3, c3, rfl, hc3, (hown.mono hbx.size).congrL (fun r hr => ((HV.out.2.2.2.2 r hr).1).symm) (fun r c hr hc => flat_at (gT l) hc), hbx.trans (hb3.mono hbx.size)⟩, fun h => absurd HF.out h⟩
          clear hown hb3
          go_wp2_with fail
          go_ret2
          exact HFin.out
        · have hF : ¬ FromI l := fun h => hv h.2.2
          have HF := Lib.hid hF
          have HV := Lib.hid hv
          clear hv hF
          go_wp2_with fail
          rw [hkn.out]
          refine (fieldOf_no _ _ _ _ _ _ HGf.out (by omega) (fun r _ => by have := HL1.out r; omega) HV.out).mono ?_
          rintro e w2 ⟨rfl, hb2⟩
          go_wp2_with fail
          go_ret2
          have hB2 := hB.trans (hb2.mono hsz)
          exact RetFr.no HF.out (hB2.alloc hB2.size _)

end Go.Proofs.YtkkkkgcijkjeoaaDoor
