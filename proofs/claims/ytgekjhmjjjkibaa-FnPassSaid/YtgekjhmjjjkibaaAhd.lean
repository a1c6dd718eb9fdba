/- The order of the program's heap of steps. -/
import Derived.Test.YtgekjhmjjjkibaaPFld
namespace Go.Proofs.Ytgekjhmjjjkibaa
set_option linter.unusedVariables false
set_option linter.unusedSimpArgs false
open Go.RowKit

theorem ahead_any (c p c' p' : Int) (w : World) :
    Calls Try.prog 91 #[.agg #[.int .i64 c, .int .i64 p], .agg #[.int .i64 c', .int .i64 p']] w (RetV (.bool (decide (p' < p))) w) := by
  go_enter Try.func91, Try.ntmps91
  go_wp2_with fail
  go_ret
  exact ⟨rfl, (below_alloc _ _).alloc (by simp) _⟩

end Go.Proofs.Ytgekjhmjjjkibaa
