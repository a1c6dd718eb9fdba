/- GridTurn and GridMirror: what the program's functions return. -/
import Derived.Test.YtkkkkgcijkjeoaaDoorMade
import Derived.Test.YtkkkkgcijkjeoaaDoorTurn
import Derived.Test.YtkkkkgcijkjeoaaDoorCor
namespace Go.Proofs.YtkkkkgcijkjeoaaDoor
set_option linter.unusedVariables false
set_option linter.unusedSimpArgs false
open Go.RowKit

/-- A field in a box: its block, its row of heights. -/
structure Boxed (w : World) (Bf b R C N : Nat) (h : Nat → Int) : Prop where
  box : w.heap[Bf]? = some (.cells #[.int .i64 R, .int .i64 C, .slice (some ⟨b, 0, none⟩) N N] 40 (0, 0))
  row : w.rowIs b 3 N (fun i => .int .i64 (h i))
theorem Boxed.below {w w' : World} {Bf b R C N : Nat} {h : Nat → Int} (H : Boxed w Bf b R C N h) (hb : Below w.heap.size w w') : Boxed w' Bf b R C N h :=
  ⟨(hb.block _ (lt_of_blk H.box)).trans H.box, rowIs_kept H.row hb⟩
theorem Boxed.new {w : World} {b R C N : Nat} {h : Nat → Int} (hrow : w.rowIs b 3 N (fun i => .int .i64 (h i))) : Boxed (w.alloc (.cells #[.int .i64 R, .int .i64 C, .slice (some ⟨b, 0, none⟩) N N] 40)) w.heap.size b R C N h :=
  ⟨heap_alloc_new _ _, hrow.alloc _⟩

theorem Valid.rng {n : Nat} {L : Nat → Nat} {g : Nat → Nat → Int} (h : Valid n L g) {r c : Nat} (hr : r < n) (hc : c < L 0) : 0 ≤ g r c ∧ g r c ≤ 99 := (h.2.2.2.2 r hr).2 c hc



end Go.Proofs.YtkkkkgcijkjeoaaDoor
