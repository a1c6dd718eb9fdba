/- The constants. -/
import Derived.Test.YtjgmhgjgcegohaaProg
import Derived.Test.YtjgmhgjgcegohaaMem
namespace Go.Proofs.Ytjgmhgjgcegohaa
open Go.RowKit

theorem fnExactConstants_walk (w : World) : Calls Try.prog 3 #[] w (RetV (.bool true) w) := by
  go_enter Try.func3, Try.ntmps3
  go_wp2
  go_ret
  exact ⟨rfl, Below.refl _ _⟩

end Go.Proofs.Ytjgmhgjgcegohaa
