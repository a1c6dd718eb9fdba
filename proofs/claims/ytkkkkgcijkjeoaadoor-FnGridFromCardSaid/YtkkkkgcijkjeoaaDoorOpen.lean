/- What the readings of the arguments say of memory: a slice of slices of integers is a grid; a slice of bytes is a row. -/
import Derived.Test.YtkkkkgcijkjeoaaDoorMem
import Derived.Test.YtkkkkgcijkjeoaaDoorRows
import Derived.ProofKit
import Derived.OpenShut
import Derived.ChangeOld
import Derived.Deep.Matrix
namespace Go.Proofs.YtkkkkgcijkjeoaaDoor
set_option linter.unusedVariables false
set_option linter.unusedSimpArgs false
open Go.ChangeShapes Go.WideShapes Go.ChangeAt Go.RowKit

theorem Tryd.own : ownKnob Tryd.prog.godebug = none := by kernel_rfl
theorem Tryd.laidOut : laidOutB Tryd.prog = true := by kernel_rfl

theorem addr_plain {w : World} {a : Addr} {k : Nat} {v : Value} (h : w.cell? (a.add k) = some v) : a.add k = ⟨a.block, a.off + k, none⟩ := by
  have hs := World.cell?_spot h
  obtain ⟨b, o, sp⟩ := a
  unfold Addr.add at hs ⊢
  by_cases hk : k = 0
  · subst hk
    simp at hs ⊢
    exact hs
  · simp [hk] at hs ⊢

theorem open_grid {H : Type} {enc : TypeId × Value → H} {W : World} {a : Option Addr} {len cap : Nat} {d : DataW H} {p : List MemPlace}
    (h : DataW.Trod enc Tryd.prog W 0 (fun _ => true) true 23 (.slice a len cap) d p) :
    ∃ (L : Nat → Nat) (g : Nat → Nat → Int), GridF W a len L g ∧ len ≤ 9223372036854775807 ∧ ∀ r, r < len → L r ≤ 9223372036854775807 := by
  obtain ⟨fuel, hf⟩ := h
  rcases Deep.open_int_rows Tryd.underlying23 Tryd.underlying38 Tryd.underlying3 (by kernel_rfl) (by kernel_rfl) hf with ⟨hcs, _⟩ | ⟨x, l, c, A, L, C, Z, hcs, _, hl, hm, _, hrows⟩
  · simp [Value.cells] at hcs
    obtain ⟨rfl, rfl, rfl⟩ := hcs
    exact ⟨fun _ => 0, fun _ _ => 0, fun r hr => by omega, by omega, fun r hr => by omega⟩
  · simp [Value.cells] at hcs
    obtain ⟨rfl, rfl, rfl⟩ := hcs
    unfold maxLen at hm
    refine ⟨L, fun r k => (Z r).getD k 0, fun r hr => ?_, by omega, fun r hr => ?_⟩
    · obtain ⟨hc, h1, h2, h3, _, h5, h6⟩ := hrows r (by omega)
      obtain ⟨b, o, sp⟩ := x
      have hsp : sp = none := by
        have h00 := (hrows 0 (by omega)).1
        have := World.cell?_spot h00
        simpa [Addr.add] using this
      subst hsp
      rw [addr_plain hc] at hc
      refine ⟨b, o, A r, C r, rfl, hc, h1, fun k hk => ?_⟩
      cases hA : A r with
      | none => have := h5 hA; omega
      | some a' =>
        obtain ⟨_, hcell⟩ := h6 a' hA
        obtain ⟨b', o', sp'⟩ := a'
        have hk' := hcell k (by omega)
        have hsp : sp' = none := by
          have := World.cell?_spot (hcell 0 (by omega))
          simpa [Addr.add] using this
        subst hsp
        rw [addr_plain hk'] at hk'
        exact ⟨b', o', rfl, hk'⟩
    · obtain ⟨_, h1, h2, _⟩ := hrows r (by omega)
      unfold maxLen at h2
      omega

theorem open_bytes {H : Type} {enc : TypeId × Value → H} {W : World} {a : Option Addr} {len cap : Nat} {d : DataW H} {p : List MemPlace}
    (h : DataW.Trod enc Tryd.prog W 0 (fun _ => true) true 22 (.slice a len cap) d p) :
    ∃ z : Nat → Int, RowB W a len z ∧ len ≤ 9223372036854775807 ∧ len ≤ cap := by
  obtain ⟨fuel, hf⟩ := h
  rcases open_ints Tryd.underlying22 Tryd.underlying5 (by kernel_rfl) hf with ⟨hcs, _⟩ | ⟨x, l, c, zs, hcs, _, hl, hm, hz, _, hcell, hwz⟩
  · simp [Value.cells] at hcs
    obtain ⟨rfl, rfl, rfl⟩ := hcs
    exact ⟨fun _ => 0, fun r hr => by omega, by omega, by omega⟩
  · simp [Value.cells] at hcs
    obtain ⟨rfl, rfl, rfl⟩ := hcs
    unfold maxLen at hm
    simp at hz
    refine ⟨fun k => zs.getD k 0, fun k hk => ?_, by omega, hl⟩
    have hk' := hcell k (by omega)
    obtain ⟨b, o, sp⟩ := x
    have hsp : sp = none := by
      have := World.cell?_spot (hcell 0 (by omega))
      simpa [Addr.add] using this
    subst hsp
    rw [addr_plain hk'] at hk'
    have hw := hwz (zs.getD k 0) (by
      rw [List.getD, List.getElem?_eq_getElem (show k < zs.length by omega)]
      exact List.getElem_mem _)
    have hb : 0 ≤ zs.getD k 0 ∧ zs.getD k 0 ≤ 255 := by simpa [Lit.wf, IntKind.min, IntKind.max, IntKind.signed, IntKind.bits] using hw
    exact ⟨b, o, rfl, hk', hb.1, hb.2⟩

end Go.Proofs.YtkkkkgcijkjeoaaDoor
