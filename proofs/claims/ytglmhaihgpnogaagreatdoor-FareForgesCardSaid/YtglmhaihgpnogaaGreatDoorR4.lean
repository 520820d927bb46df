/- What the rows list of the tables. -/
import Derived.Test.YtglmhaihgpnogaaGreatDoorR3
import Derived.Test.YtglmhaihgpnogaaGreatDoorSh2
import Derived.Lib.LaidTab
set_option linter.unusedVariables false
set_option linter.unusedSimpArgs false
namespace Go.Proofs.YtglmhaihgpnogaaGreatDoor
open Go.RowKit Go.Fp
open Go.ChangeShapes Go.WideShapes Go.ChangeAt Go.Deep

theorem gTab : Tryz.prog.globalNamed tabName = some 1 := by kernel_rfl
theorem gt_of {W : World} (hL : laidMet Tryz.prog Rows.fareForgesRow.laid W) : GOn GT (W : Base) := fun hp w ho => by
  have h1 : laidMet Tryz.prog ((tabName, Lib.tabData .u64 Lib.pow10Tab) :: (Rows.fareForgesRow.laid.drop 3)) W := (laidMet.tail (laidMet.tail hL))
  have h2 := Lib.tabIs_of_head (n := 20) (t := 139) (e := 119) gTab (by kernel_rfl) (by kernel_rfl) (by kernel_rfl) (by kernel_rfl) (by kernel_rfl) h1
  exact ⟨glo_below ho (glo_head (laidMet.tail (laidMet.tail (laidMet.tail (laidMet.tail (show laidMet Tryz.prog Rows.fareForgesRow.laid W from hL)))))), tab_below (fun i hi => ho.below.block i hi) h2⟩

end Go.Proofs.YtglmhaihgpnogaaGreatDoor
