/- What the rows' lists of laid variables give the walks, and a world for the witnesses. -/
import Derived.Test.YtmiipfdndgjndaaDoorRows
import Derived.Test.YtmiipfdndgjndaaDoorAW
import Derived.ProofKit
import Derived.LaidMore
import Derived.OpenShut
import Derived.Stop.Joined
import Derived.Lib.LaidTab
import Derived.MakeChecks
namespace Go.Proofs.YtmiipfdndgjndaaDoor
open Go.ChangeShapes Go.WideShapes Go.ChangeAt Go.RowKit
abbrev laidL : List (String × DataW Unit) := Rows.wordNamesRow.laid
theorem door_met (os : Os) (args : Array Value) : laidMetH Tryd.prog laidL ((World.doorLaid Tryd.prog 62 os).forCall (fun _ _ => 0) ⟨#[], args, []⟩).memory :=
  laidMetH_of_parts3 (fuel := 8) (laidMet_of_run' 8 (by kernel_rfl) (by kernel_rfl)) (by kernel_rfl) (by kernel_rfl)
theorem gPow : Tryd.prog.globalNamed "internal/strconv.uint64pow10" = some 0 := by kernel_rfl
theorem gRange : Tryd.prog.globalNamed "strconv.ErrRange" = some 2 := by kernel_rfl
theorem tPow : (Tryd.prog.globals[0]?).map (·.type) = some 137 := by kernel_rfl
theorem tRange : (Tryd.prog.globals[2]?).map (·.type) = some 115 := by kernel_rfl
theorem cells137 : Tryd.prog.cellsOf 137 = 20 := by kernel_rfl
theorem cells101 : Tryd.prog.cellsOf 101 = 1 := by kernel_rfl
theorem arr_eq {cs : Array Value} {x : Value} (h : cs.toList = [x]) : cs = #[x] := by
  cases cs with | mk l => exact congrArg Array.mk h
/-- What the list gives the walks. -/
theorem of_laid {W : World} (h : laidMetH Tryd.prog laidL W) : Tab W.heap.size W ∧ ErrVar W := by
  rw [MakeChecks.laidMetH_plain _ _ _ (by kernel_rfl)] at h
  obtain ⟨ps, ⟨g0, t0, cs0, f0, p0, q0, hg0, ht0, hv0, hd0, ⟨g1, t1, cs1, f1, p1, q1, hg1, ht1, hv1, hd1, ⟨g2, t2, cs2, f2, p2, q2, hg2, ht2, hv2, hd2, ⟨g3, t3, cs3, f3, p3, q3, hg3, ht3, hv3, hd3, _, _⟩, _⟩, _⟩, _⟩, _, _⟩ := h
  constructor
  · refine Lib.tabBelow_of_tabIs ?_
    obtain rfl := Option.some.inj (gPow.symm.trans hg2)
    obtain rfl := Option.some.inj (tPow.symm.trans ht2)
    unfold Lib.TabIs
    rw [hv2]
    have := Lib.cells_of_tab (zs := Lib.pow10Tab) Tryd.underlying137 Tryd.underlying101 cells101 cells137 hd2
    rw [← this]
  · obtain rfl := Option.some.inj (gRange.symm.trans hg3)
    obtain rfl := Option.some.inj (tRange.symm.trans ht3)
    obtain ⟨f4, u, v, hc, _, _⟩ := iface_of_trod Tryd.underlying115 hd3
    exact ⟨u, v, hv3.trans (congrArg some (arr_eq hc))⟩
end Go.Proofs.YtmiipfdndgjndaaDoor
