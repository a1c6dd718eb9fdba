/- Parts of grids with the numbers of rows and columns told; mirrored, turned, joined grids are grids. -/
import Derived.Test.YthndabbjkkjkhaaIRai
namespace Go.Proofs.Ythndabbjkkjkhaa
set_option linter.unusedVariables false
set_option linter.unusedSimpArgs false
open Go.RowKit

theorem implGridPart_to (n' C' t l : Nat) (A : Option Addr) (n cp : Nat) (L : Nat → Nat) (g : Nat → Nat → Int) (tp bt lf rt : Int) (w : World) (hg : GridF w A n L g) (hv : Valid n L g) (h1 : tp = t) (h2 : lf = l) (h3 : (n' : Int) = bt - tp + 1) (h4 : (C' : Int) = rt - lf + 1) (h5 : 1 ≤ n') (h6 : t + n' ≤ n) (h7 : 1 ≤ C') (h8 : l + C' ≤ L 0) :
    Calls Try.prog 31 #[.slice A n cp, .int .i64 tp, .int .i64 bt, .int .i64 lf, .int .i64 rt] w (RetGI n' (fun _ => C') (partG t l g) true w) := by
  have h := implGridPart_yes A n cp L g tp bt lf rt w hg ⟨hv, by omega, by omega, by omega, by omega, by omega, by omega⟩
  rw [show (bt - tp + 1).toNat = n' by omega, show (rt - lf + 1).toNat = C' by omega, show tp.toNat = t by omega, show lf.toNat = l by omega] at h
  exact h

theorem Valid.mirr {n : Nat} {L : Nat → Nat} {g : Nat → Nat → Int} (h : Valid n L g) : Valid n (fun _ => L 0) (mirrorG (L 0) g) :=
  ⟨h.1, h.2.1, h.2.2.1, h.2.2.2.1, fun r hr => ⟨rfl, fun c hc => h.rng hr (by have hc : c < L 0 := hc; omega)⟩⟩
theorem Valid.trn {n : Nat} {L : Nat → Nat} {g : Nat → Nat → Int} (h : Valid n L g) : Valid (L 0) (fun _ => n) (turnG n g) :=
  ⟨h.2.2.1, h.2.2.2.1, h.1, h.2.1, fun r hr => ⟨rfl, fun c hc => h.rng (by have hc : c < n := hc; omega) hr⟩⟩
theorem Valid.part {n : Nat} {L : Nat → Nat} {g : Nat → Nat → Int} (h : Valid n L g) {t l n' C' : Nat} (h5 : 1 ≤ n') (h6 : t + n' ≤ n) (h7 : 1 ≤ C') (h8 : l + C' ≤ L 0) : Valid n' (fun _ => C') (partG t l g) :=
  ⟨h5, by have := h.2.1; omega, h7, by have h0 := h.2.2.2.1; show C' ≤ 7; omega, fun r hr => ⟨rfl, fun c hc => h.rng (by omega) (by have hc : c < C' := hc; omega)⟩⟩
theorem Bes.valid {na nb : Nat} {La Lb : Nat → Nat} {ga gb : Nat → Nat → Int} (h : Bes na La ga nb Lb gb) : Valid na (fun _ => La 0 + Lb 0) (besideG (La 0) ga gb) :=
  ⟨h.1.1, h.1.2.1, by have h0 := h.1.2.2.1; show 1 ≤ La 0 + Lb 0; omega, h.2.2.2, fun r hr => ⟨rfl, fun c hc => besideG_rng h.1 h.2.1 h.2.2.1 hr hc⟩⟩
theorem Blw.valid {na nb : Nat} {La Lb : Nat → Nat} {ga gb : Nat → Nat → Int} (h : Blw na La ga nb Lb gb) : Valid (na + nb) (fun _ => La 0) (belowG na ga gb) :=
  ⟨by have := h.1.1; omega, h.2.2.2, h.1.2.2.1, h.1.2.2.2.1, fun r hr => ⟨rfl, fun c hc => belowG_rng h.1 h.2.1 h.2.2.1 hr hc⟩⟩

end Go.Proofs.Ythndabbjkkjkhaa
