/- The walk of AbleParts, for its row. -/
import Derived.Test.YtbdbhacniejagaaS
import Derived.Test.YtbdbhacniejagaaF
namespace Go.Proofs.Ytbdbhacniejagaa
open Go.RowKit Go.Shelf
theorem parts_walk (a b : Int) (wa : (Lit.int .u8 a).wf = true) (wb : (Lit.int .u8 b).wf = true) (w : World) :
    Calls Try.prog 9 #[.int .u8 a, .int .u8 b] w fun e w' => e = .returned (.bool true) ∧ Below w.heap.size w w' := by
  obtain ⟨a0, a1⟩ := wf_u8 wa
  obtain ⟨b0, b1⟩ := wf_u8 wb
  exact callsIn_wide.1 (parts_in a b (a % 64).toNat (b % 64).toNat (by omega) (by omega) (by omega) (by omega) a0 a1 b0 b1 w)
end Go.Proofs.Ytbdbhacniejagaa
