/- GridSet: what the program's and the reference's functions return. -/
import Derived.Test.YtkkkkgcijkjeoaaDoorLst
namespace Go.Proofs.YtkkkkgcijkjeoaaDoor
set_option linter.unusedVariables false
set_option linter.unusedSimpArgs false
open Go.RowKit

/-- A grid that is only read, and whether there is one. -/
def RetGS (n : Nat) (L : Nat → Nat) (g : Nat → Nat → Int) (ok : Bool) (w : World) (e : Ending) (w' : World) : Prop :=
  ∃ A c, e = .returned (.tuple #[.slice A n c, .bool ok]) ∧ n ≤ c ∧ GridF w' A n L g ∧ Below w.heap.size w w'
/-- A grid in new memory, and whether there is one. -/
def RetGI (n : Nat) (L : Nat → Nat) (g : Nat → Nat → Int) (ok : Bool) (w : World) (e : Ending) (w' : World) : Prop :=
  ∃ A c, e = .returned (.tuple #[.slice A n c, .bool ok]) ∧ n ≤ c ∧ OwnG w' w.heap.size A n L g ∧ Below w.heap.size w w'

theorem OwnG.congrL {w : World} {lo : Nat} {A : Option Addr} {n : Nat} {L L' : Nat → Nat} {g g' : Nat → Nat → Int} (h : OwnG w lo A n L g) (eL : ∀ r, r < n → L r = L' r) (e : ∀ r c, r < n → c < L r → g r c = g' r c) : OwnG w lo A n L' g' := by
  rcases h with h | ⟨B, bs, hA, hlo, hB, hrows, hinj⟩
  · exact .inl h
  · refine .inr ⟨B, bs, hA, hlo, hB.congr (fun r hr => by rw [eL r hr]), fun r hr => ⟨(hrows r hr).1, ?_⟩, hinj⟩
    rw [← eL r hr]
    exact (hrows r hr).2.congr fun c hc => by rw [e r c hr hc]

theorem GridF.congrL {w : World} {A : Option Addr} {n : Nat} {L L' : Nat → Nat} {g g' : Nat → Nat → Int} (h : GridF w A n L g) (eL : ∀ r, r < n → L r = L' r) (e : ∀ r c, r < n → c < L r → g r c = g' r c) : GridF w A n L' g' := by
  intro r hr
  obtain ⟨b, o, A', c', hA, hc, hl, hrow⟩ := h r hr
  rw [eL r hr] at hc hl
  refine ⟨b, o, A', c', hA, hc, hl, fun k hk => ?_⟩
  obtain ⟨b', o', hA', hc'⟩ := hrow k (by rw [eL r hr]; exact hk)
  exact ⟨b', o', hA', by rw [hc', e r k hr (by rw [eL r hr]; exact hk)]⟩

def gset (g : Nat → Nat → Int) (r c : Nat) (x : Int) : Nat → Nat → Int := fun r' c' => if r' = r ∧ c' = c then x else g r' c'

theorem GridOV.store {w : World} {lo : Nat} {v : Value} {n : Nat} {L : Nat → Nat} {g : Nat → Nat → Int} {V : Nat → Value} (h : GridOV w lo v n L g V) {r c b cc : Nat} (hr : r < n) (hc : c < L r) (hV : V r = .slice (some ⟨b, 0, none⟩) (L r) cc) (x : Int) :
    GridOV (w.setCell ⟨b, c, none⟩ (.int .i64 x)) lo v n L (gset g r c x) V := by
  have hb : (V r).ownBlock = some b := by rw [hV]; rfl
  refine ⟨h.1.of_block fun k hk => Below.heap_setCell _ _ _ _ (fun e => ?_), fun s hs => ?_, h.2.2⟩
  · subst e; exact own_type_ne (h.2.1 r hr) h.1 (by decide) hb hk
  · by_cases e : s = r
    · subst e
      exact ((h.2.1 s hs).store hV hc (.int .i64 x)).congr fun i hi => by
        unfold gset
        by_cases e : i = c <;> simp [e]
    · refine ((h.2.1 s hs).of_block fun k hk => Below.heap_setCell _ _ _ _ (fun e' => ?_)).congr fun i _ => by simp [gset, e]
      subst e'
      exact h.2.2 r s hr hs (fun h => e h.symm) _ hb hk



end Go.Proofs.YtkkkkgcijkjeoaaDoor
