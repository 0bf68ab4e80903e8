/- The walk of AbleNames. -/
import Derived.Test.YtbdbhacniejagaaD
namespace Go.Proofs.Ytbdbhacniejagaa
open Go.RowKit
theorem names_walk (w : World) : Calls Try.prog 4 #[] w fun e w' => e = .returned (.bool true) ∧ Below w.heap.size w w' := by
  go_enter Try.func4, Try.ntmps4
  go_wp2_with (go_at_call 12; refine (lives_any _).mono ?_; rintro e w' ⟨rfl, hb⟩)
  go_ret
  exact ⟨rfl, hb⟩
end Go.Proofs.Ytbdbhacniejagaa
