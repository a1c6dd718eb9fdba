/- The law FnExactGridFrom: its walk. -/
import Derived.Test.YtkkkkgcijkjeoaaDoorSFr
import Derived.Test.YtkkkkgcijkjeoaaDoorMark
namespace Go.Proofs.YtkkkkgcijkjeoaaDoor
set_option linter.unusedVariables false
set_option linter.unusedSimpArgs false
open Go.RowKit

set_option maxHeartbeats 1000000 in
set_option maxRecDepth 100000 in
theorem fnExactGridFrom_walk (l : List UInt8) (m : Int) (w : World) (hm : w.cell? ⟨0, 0, none⟩ = some (.int .i64 m)) (hl : l.length ≤ 9223372036854775807) :
    Calls Tryd.prog 5 #[.string ⟨l.toArray⟩] w (RetV (.bool true) w) := by
  have HM := Lib.hid hm
  have hw0 : 0 < w.heap.size := World.block_lt_of_cell? w _ hm
  clear hm
  by_cases hbig : l.length ≤ 1048576
  case neg =>
    go_enter Tryd.func5, Tryd.ntmps5
    go_wp2_with fail
    go_ret
    exact ⟨rfl, Below.refl _ _⟩
  by_cases hc : FromI l
  · have hv := hc.2.2
    have hB1 : nT l ≤ 1048576 := by have := hv.2.1; omega
    have HB2 : Hid (∀ r, r < nT l → LT l r ≤ 1048576) := fun r hr => by have := (hv.2.2.2.2 r hr).1; have := hv.2.2.2.1; omega
    have HC := Lib.hid hc
    clear hc hv
    go_enter Tryd.func5, Tryd.ntmps5
    go_wp2_with fail
    refine (specGridFrom_any l _ hbig).mono ?_
    rintro e w1 hh
    obtain ⟨As, cs, rfl, hcs, hgs, hb1⟩ := hh.1 HC.out
    clear hh
    have hW1 := hb1
    have hz1 := hb1.size
    have HS := Lib.hid hgs
    have hm1 := (hW1.cell (p := ⟨0, 0, none⟩) hw0).trans HM.out
    clear hgs
    go_wp2_with fail
    refine (implGridFrom_any l m _ (by omega) hm1).mono ?_
    rintro e w4 hh
    obtain ⟨Aq, cq, rfl, hcq, hown, hb4⟩ := hh.1 HC.out
    clear hh hm1
    have hW4 : Below w.heap.size w w4 := hW1.trans (hb4.mono hW1.size)
    have hz4 := hb4.size
    have HQ4 := Lib.hid hown.bound
    clear hown
    go_wp2_with fail
    refine (eqIntSS_yes _ _ _ _ _ _ _ _ HQ4.out.grid (HS.out.below hb4) (by omega) (fun r hr => by have := HB2.out r hr; omega)).mono ?_
    rintro e w5 ⟨rfl, hb5⟩
    have hW5 : Below w.heap.size w w5 := hW4.trans (hb5.mono hW4.size)
    have hz5 := hb5.size
    have HQ5 := Lib.hid (HQ4.out.below hb5 (by omega))
    have hS5 : Below w1.heap.size w1 w5 := hb4.trans (hb5.mono (by omega))
    go_wp2_with fail
    refine (markIntSS_any 1 _ _ _ _ _ _ _ _ HQ5.out hB1 HB2.out (by omega)).mono ?_
    rintro e w10 ⟨rfl, hmo, hz10, hfar, hmk⟩
    have hW10 : Below w.heap.size w w10 := hW5.trans (hmk.mono (by omega))
    have hS10 : Below w1.heap.size w1 w10 := hS5.trans (hmk.mono (by omega))
    have HK := Lib.hid hmo
    have hm10 := (hW10.cell (p := ⟨0, 0, none⟩) hw0).trans HM.out
    clear hfar hmk hmo
    go_wp2_with fail
    refine (heldIntSS_any _ _ _ _ _ HK.out.grid hB1 HB2.out).mono ?_
    rintro e w' ⟨rfl, rfl⟩
    go_wp2_with fail
    refine (implGridFrom_any l m _ (by omega) hm10).mono ?_
    rintro e w12 hh
    obtain ⟨Ah, ch, rfl, hch, hown, hb12⟩ := hh.1 HC.out
    clear hh hm10
    have hW12 : Below w.heap.size w w12 := hW10.trans (hb12.mono hW10.size)
    have hz12 := hb12.size
    have HH := Lib.hid hown
    clear hown
    go_wp2_with fail
    refine (eqIntSS_yes _ _ _ _ _ _ _ _ HH.out.grid (HS.out.below (hS10.trans (hb12.mono (by omega)))) (by omega) (fun r hr => by have := HB2.out r hr; omega)).mono ?_
    rintro e w13 ⟨rfl, hb13⟩
    have hW13 : Below w.heap.size w w13 := hW12.trans (hb13.mono hW12.size)
    have hz13 := hb13.size
    go_wp2_with fail
    refine (heldIntSS_any _ _ _ _ _ (HK.out.below (hb12.trans (hb13.mono (by omega))) (by omega)).grid hB1 HB2.out).mono ?_
    rintro e w' ⟨rfl, rfl⟩
    go_wp2_with fail
    go_ret
    exact ⟨rfl, hW13⟩
  · have hB1 : 0 ≤ 1048576 := Nat.zero_le _
    have HB2 : Hid (∀ r, r < 0 → (fun _ : Nat => 0) r ≤ 1048576) := fun r hr => by omega
    have HC := Lib.hid hc
    clear hc
    go_enter Tryd.func5, Tryd.ntmps5
    go_wp2_with fail
    refine (specGridFrom_any l _ hbig).mono ?_
    rintro e w1 hh
    obtain ⟨As, cs, rfl, hcs, hgs, hb1⟩ := hh.2 HC.out
    clear hh
    have hW1 := hb1
    have hz1 := hb1.size
    have HS := Lib.hid hgs
    have hm1 := (hW1.cell (p := ⟨0, 0, none⟩) hw0).trans HM.out
    clear hgs
    go_wp2_with fail
    refine (implGridFrom_any l m _ (by omega) hm1).mono ?_
    rintro e w4 hh
    obtain ⟨Aq, cq, rfl, hcq, hown, hb4⟩ := hh.2 HC.out
    clear hh hm1
    have hW4 : Below w.heap.size w w4 := hW1.trans (hb4.mono hW1.size)
    have hz4 := hb4.size
    have HQ4 := Lib.hid hown.bound
    clear hown
    go_wp2_with fail
    refine (eqIntSS_yes _ _ _ _ _ _ _ _ HQ4.out.grid (HS.out.below hb4) (by omega) (fun r hr => by have := HB2.out r hr; omega)).mono ?_
    rintro e w5 ⟨rfl, hb5⟩
    have hW5 : Below w.heap.size w w5 := hW4.trans (hb5.mono hW4.size)
    have hz5 := hb5.size
    have HQ5 := Lib.hid (HQ4.out.below hb5 (by omega))
    have hS5 : Below w1.heap.size w1 w5 := hb4.trans (hb5.mono (by omega))
    go_wp2_with fail
    refine (markIntSS_any 1 _ _ _ _ _ _ _ _ HQ5.out hB1 HB2.out (by omega)).mono ?_
    rintro e w10 ⟨rfl, hmo, hz10, hfar, hmk⟩
    have hW10 : Below w.heap.size w w10 := hW5.trans (hmk.mono (by omega))
    have hS10 : Below w1.heap.size w1 w10 := hS5.trans (hmk.mono (by omega))
    have HK := Lib.hid hmo
    have hm10 := (hW10.cell (p := ⟨0, 0, none⟩) hw0).trans HM.out
    clear hfar hmk hmo
    go_wp2_with fail
    refine (heldIntSS_any _ _ _ _ _ HK.out.grid hB1 HB2.out).mono ?_
    rintro e w' ⟨rfl, rfl⟩
    go_wp2_with fail
    refine (implGridFrom_any l m _ (by omega) hm10).mono ?_
    rintro e w12 hh
    obtain ⟨Ah, ch, rfl, hch, hown, hb12⟩ := hh.2 HC.out
    clear hh hm10
    have hW12 : Below w.heap.size w w12 := hW10.trans (hb12.mono hW10.size)
    have hz12 := hb12.size
    have HH := Lib.hid hown
    clear hown
    go_wp2_with fail
    refine (eqIntSS_yes _ _ _ _ _ _ _ _ HH.out.grid (HS.out.below (hS10.trans (hb12.mono (by omega)))) (by omega) (fun r hr => by have := HB2.out r hr; omega)).mono ?_
    rintro e w13 ⟨rfl, hb13⟩
    have hW13 : Below w.heap.size w w13 := hW12.trans (hb13.mono hW12.size)
    have hz13 := hb13.size
    go_wp2_with fail
    refine (heldIntSS_any _ _ _ _ _ (HK.out.below (hb12.trans (hb13.mono (by omega))) (by omega)).grid hB1 HB2.out).mono ?_
    rintro e w' ⟨rfl, rfl⟩
    go_wp2_with fail
    go_ret
    exact ⟨rfl, hW13⟩

end Go.Proofs.YtkkkkgcijkjeoaaDoor
