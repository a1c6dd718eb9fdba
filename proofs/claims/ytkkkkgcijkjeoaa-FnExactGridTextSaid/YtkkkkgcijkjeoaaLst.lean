/- A field as new lists; a copy of lists. -/
import Derived.Test.YtkkkkgcijkjeoaaA4
import Derived.Test.YtkkkkgcijkjeoaaOwn
namespace Go.Proofs.Ytkkkkgcijkjeoaa
set_option linter.unusedVariables false
set_option linter.unusedSimpArgs false
open Go.RowKit

theorem Try.sizeI : (Try.prog.info? 3).map (·.size) = some 1 := by kernel_rfl

def RetOwn (n : Nat) (L : Nat → Nat) (g : Nat → Nat → Int) (w : World) (e : Ending) (w' : World) : Prop :=
  ∃ A c, e = .returned (.slice A n c) ∧ n ≤ c ∧ OwnG w' w.heap.size A n L g ∧ Below w.heap.size w w'


/-- A grid of the call's own that grows by append: the outer row, and each row in a block of its own. -/
def GridOV (w : World) (lo : Nat) (v : Value) (n : Nat) (L : Nat → Nat) (g : Nat → Nat → Int) (V : Nat → Value) : Prop :=
  OwnS w lo 29 v n V ∧ (∀ r, r < n → OwnS w lo 3 (V r) (L r) (fun c => .int .i64 (g r c))) ∧ ∀ r s, r < n → s < n → r ≠ s → ∀ k, (V r).ownBlock = some k → (V s).ownBlock ≠ some k
def GridO (w : World) (lo : Nat) (v : Value) (n : Nat) (L : Nat → Nat) (g : Nat → Nat → Int) : Prop := ∃ V, GridOV w lo v n L g V

theorem GridO.grid {w : World} {lo : Nat} {v : Value} {n : Nat} {L : Nat → Nat} {g : Nat → Nat → Int} (h : GridO w lo v n L g) : ∃ A c, v = .slice A n c ∧ n ≤ c ∧ GridF w A n L g := by
  obtain ⟨V, h1, h2, _⟩ := h
  obtain ⟨A, c, rfl, hc⟩ := h1.slice
  refine ⟨A, c, rfl, hc, fun r hr => ?_⟩
  obtain ⟨b, c', e, _, _, hcell, _⟩ := h1.cell hr
  injection e with e
  subst e
  obtain ⟨A', c'', hV, hcc⟩ := (h2 r hr).slice
  rw [hV] at hcell
  refine ⟨b, 0, A', c'', rfl, by rw [Nat.zero_add]; exact hcell, hcc, fun k hk => ?_⟩
  obtain ⟨b2, c2, e2, _, _, hcell2, _⟩ := (h2 r hr).cell hk
  rw [hV] at e2
  injection e2 with e2
  exact ⟨b2, 0, e2, by rw [Nat.zero_add]; exact hcell2⟩

theorem GridOV.below {w w' : World} {lo : Nat} {v : Value} {n : Nat} {L : Nat → Nat} {g : Nat → Nat → Int} {V : Nat → Value} (h : GridOV w lo v n L g V) (hb : Below w.heap.size w w') : GridOV w' lo v n L g V :=
  ⟨h.1.below hb, fun r hr => (h.2.1 r hr).below hb, h.2.2⟩

theorem GridO.below {w w' : World} {lo : Nat} {v : Value} {n : Nat} {L : Nat → Nat} {g : Nat → Nat → Int} (h : GridO w lo v n L g) (hb : Below w.heap.size w w') : GridO w' lo v n L g :=
  let ⟨V, hV⟩ := h
  ⟨V, hV.below hb⟩

theorem GridO.empty (w : World) (lo : Nat) (L : Nat → Nat) (g : Nat → Nat → Int) (hlo : lo ≤ w.heap.size) : GridO (w.alloc (.cells #[] 29)) lo (.slice (some ⟨w.heap.size, 0, none⟩) 0 0) 0 L g :=
  ⟨fun _ => .slice none 0 0, OwnS.new w lo 29 _ hlo #[] 0 rfl (by decide), fun r hr => by omega, fun r _ hr => by omega⟩

theorem own_type_ne {w : World} {lo lo' : Nat} {e e' : TypeId} {v v' : Value} {n n' : Nat} {V V' : Nat → Value} (h : OwnS w lo e v n V) (h' : OwnS w lo' e' v' n' V') (hne : e ≠ e') {k : Nat} (hk : v.ownBlock = some k) : v'.ownBlock ≠ some k := by
  intro hk'
  obtain ⟨c, hc⟩ := h.type hk
  obtain ⟨c', hc'⟩ := h'.type hk'
  rw [hc] at hc'
  injection hc' with hc'
  injection hc' with _ hc'
  exact hne hc'

/-- One row more. -/
theorem GridOV.snoc {w w1 w2 : World} {lo : Nat} {v v1 v2 : Value} {n : Nat} {L : Nat → Nat} {g : Nat → Nat → Int} {V : Nat → Value} (h : GridOV w lo v n L g V) (hb : Below w.heap.size w w1)
    (h1 : OwnS w1 lo 3 v1 (L n) (fun c => .int .i64 (g n c))) (hnew : ∀ k, v1.ownBlock = some k → w.heap.size ≤ k) (h2 : OwnS w2 lo 29 v2 (n + 1) (fun i => if i < n then V i else v1)) (hg : Grew w1 w2 v v2) :
    GridOV w2 lo v2 (n + 1) L g (fun i => if i < n then V i else v1) := by
  have hv := h.1.below hb
  have keep : ∀ {u : Value} {m : Nat} {U : Nat → Value}, OwnS w1 lo 3 u m U → OwnS w2 lo 3 u m U := fun {u m U} hu =>
    hu.of_block fun k hk => hg.block k (hu.lt hk).2 (own_type_ne hu hv (by decide) hk)
  refine ⟨h2, fun r hr => ?_, fun r s hr hs hne k => ?_⟩ <;> dsimp only
  · by_cases e : r < n
    · rw [if_pos e]; exact keep ((h.2.1 r e).below hb)
    · rw [if_neg e, show r = n by omega]; exact keep h1
  · by_cases er : r < n
    · rw [if_pos er]
      by_cases es : s < n
      · rw [if_pos es]; exact h.2.2 r s er es hne k
      · rw [if_neg es]
        intro hk hk'
        have := ((h.2.1 r er).lt hk).2
        have := hnew k hk'
        omega
    · rw [if_neg er]
      have es : s < n := by omega
      rw [if_pos es]
      intro hk hk'
      have := ((h.2.1 s es).lt hk').2
      have := hnew k hk
      omega

theorem GridO.own_lt {w : World} {lo : Nat} {v : Value} {n : Nat} {L : Nat → Nat} {g : Nat → Nat → Int} (h : GridO w lo v n L g) {k : Nat} (hk : v.ownBlock = some k) : lo ≤ k ∧ k < w.heap.size := by
  obtain ⟨V, h1, _⟩ := h
  exact h1.lt hk

theorem OwnS.alloc' {w : World} {lo : Nat} {e : TypeId} {v : Value} {n : Nat} {V : Nat → Value} (h : OwnS w lo e v n V) (o : Obj) : OwnS (w.alloc o) lo e v n V := h.alloc o

def RetGO (n : Nat) (L : Nat → Nat) (g : Nat → Nat → Int) (w : World) (e : Ending) (w' : World) : Prop :=
  ∃ v, e = .returned v ∧ GridO w' w.heap.size v n L g ∧ Below w.heap.size w w'

/-- A new row, made by one append to an empty one. -/
theorem app_new {wr w1 : World} {lo m : Nat} {v1 : Value} {f : Nat → Int} (ho1 : OwnS w1 lo 3 v1 (0 + m) (fun i => if i < 0 then Value.int .i64 (f i) else .int .i64 (f (i - 0))))
    (hg1 : Grew (wr.alloc (.cells #[] 3)) w1 (.slice (some ⟨wr.heap.size, 0, none⟩) 0 0) v1) :
    ∃ A c, v1 = .slice A m c ∧ Hid (OwnS w1 lo 3 (.slice A m c) m (fun i => .int .i64 (f i))) ∧ Below wr.heap.size wr w1 ∧ Hid (∀ j, (Value.slice A m c).ownBlock = some j → wr.heap.size ≤ j) := by
  rw [Nat.zero_add] at ho1
  obtain ⟨A, c, rfl, _⟩ := ho1.slice
  refine ⟨A, c, rfl, ho1.congr (fun i _ => by simp), (below_alloc wr (.cells #[] 3)).trans (hg1.below (by simp) (fun j hj => by have : some wr.heap.size = some j := hj; injection this with this; omega)), fun j hj => ?_⟩
  rcases hg1.at_ with e | ⟨j', e, hj'⟩
  · have : some wr.heap.size = some j := e.symm.trans hj
    injection this with this
    omega
  · rw [e] at hj; injection hj with hj; simp at hj'; omega


end Go.Proofs.Ytkkkkgcijkjeoaa
