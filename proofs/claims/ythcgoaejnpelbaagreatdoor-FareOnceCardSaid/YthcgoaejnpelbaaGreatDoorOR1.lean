/- What the rows of these laws give, read by what cells stand for. -/
import Derived.Test.YthcgoaejnpelbaaGreatDoorX5
import Derived.Test.YthcgoaejnpelbaaGreatDoorOT
set_option linter.unusedVariables false
set_option linter.unusedSimpArgs false
namespace Go.Proofs.YthcgoaejnpelbaaGreatDoor
open Go.RowKit Go.Fp
open Go.ChangeShapes Go.WideShapes Go.ChangeAt Go.Deep

theorem ownK : ownKnob Tryz.prog.godebug = none := by kernel_rfl
theorem laidK : laidOutB Tryz.prog = true := by kernel_rfl
def ok3 (x : Int) : Prop := -9223372036854775808 ≤ x ∧ x ≤ 9223372036854775807
theorem op3 : Opens Tryz.prog 3 (RT.int .i64) ok3 := opens_mono (opens_int Tryz.underlying3) (fun _ h => i64_wf h)
def ok22 (l : List Int) : Prop := l.length ≤ 9223372036854775807 ∧ ∀ a ∈ l, ok3 a
theorem op22 : Opens Tryz.prog 22 (RT.list (RT.int .i64)) ok22 := opens_list Tryz.underlying22 (by kernel_rfl) op3

end Go.Proofs.YthcgoaejnpelbaaGreatDoor
