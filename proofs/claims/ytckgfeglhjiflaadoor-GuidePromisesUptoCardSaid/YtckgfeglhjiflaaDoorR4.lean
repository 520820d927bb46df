/- What the rows list of the tables. -/
import Derived.Test.YtckgfeglhjiflaaDoorRows
import Derived.Test.YtckgfeglhjiflaaDoorXA
import Derived.Test.YtckgfeglhjiflaaDoorX5
import Derived.Test.YtckgfeglhjiflaaDoorSh2
import Derived.Lib.LaidTab
import Derived.Stop.LaidErr
import Derived.LaidLaws
set_option linter.unusedVariables false
set_option linter.unusedSimpArgs false
namespace Go.Proofs.YtckgfeglhjiflaaDoor
open Go.RowKit Go.Fp
open Go.ChangeShapes Go.WideShapes Go.ChangeAt Go.Deep

theorem gTab : Tryd.prog.globalNamed tabName = some 0 := by kernel_rfl
theorem gt_of {W : World} (hL : laidMet Tryd.prog Rows.guidePromisesRow.laid W) : GOn GT (W : Base) := fun hp w ho => by
  have h1 : laidMet Tryd.prog ((tabName, Lib.tabData .u64 Lib.pow10Tab) :: (Rows.guidePromisesRow.laid.drop 3)) W := (laidMet.tail (laidMet.tail hL))
  have h2 := Lib.tabIs_of_head (n := 20) (t := 222) (e := 173) gTab (by kernel_rfl) (by kernel_rfl) (by kernel_rfl) (by kernel_rfl) (by kernel_rfl) h1
  exact ⟨tab_below (fun i hi => ho.below.block i hi) h2⟩

end Go.Proofs.YtckgfeglhjiflaaDoor
