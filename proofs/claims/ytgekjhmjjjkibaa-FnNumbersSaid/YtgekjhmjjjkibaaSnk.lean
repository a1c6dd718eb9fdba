/- Sinks: what the program's and the reference's functions return. -/
import Derived.Test.YtgekjhmjjjkibaaSid
import Derived.Test.YtgekjhmjjjkibaaMarkI
namespace Go.Proofs.Ytgekjhmjjjkibaa
set_option linter.unusedVariables false
set_option linter.unusedSimpArgs false
open Go.RowKit

/-- The first k cells that are sinks. -/
def snkL (R C : Nat) (h : Nat → Int) (k : Nat) : List Nat := (List.range k).filter fun i => nextV R C h i == i
theorem snkL_yes {R C : Nat} {h : Nat → Int} {k : Nat} (e : nextV R C h k = k) : snkL R C h (k + 1) = snkL R C h k ++ [k] := by
  unfold snkL
  rw [List.range_succ, List.filter_append, List.filter_cons_of_pos (by simpa using e), List.filter_nil]
theorem snkL_no {R C : Nat} {h : Nat → Int} {k : Nat} (e : ¬ nextV R C h k = k) : snkL R C h (k + 1) = snkL R C h k := by
  unfold snkL
  rw [List.range_succ, List.filter_append, List.filter_cons_of_neg (by simpa using e), List.filter_nil, List.append_nil]
theorem snkL_len (R C : Nat) (h : Nat → Int) (k : Nat) : (snkL R C h k).length ≤ k := by
  have := List.length_filter_le (fun i => nextV R C h i == i) (List.range k)
  unfold snkL; simpa using this
theorem OwnL.i {w : World} {lo : Nat} {v : Value} {l : List Nat} (h : OwnL w lo v l) : OwnI w lo v l.length (fun k => ((l.getD k 0 : Nat) : Int)) := h



end Go.Proofs.Ytgekjhmjjjkibaa
