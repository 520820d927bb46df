/- What the rows of these laws give, read by what cells stand for. -/
import Derived.Test.YtakehdnblmonlaaX5
import Derived.Test.YtakehdnblmonlaaCT
set_option linter.unusedVariables false
set_option linter.unusedSimpArgs false
namespace Go.Proofs.Ytakehdnblmonlaa
open Go.RowKit Go.Fp
open Go.ChangeShapes Go.WideShapes Go.ChangeAt Go.Deep

theorem ownK : ownKnob Try.prog.godebug = none := by kernel_rfl
theorem laidK : laidOutB Try.prog = true := by kernel_rfl
def ok3 (x : Int) : Prop := -9223372036854775808 ≤ x ∧ x ≤ 9223372036854775807
theorem op3 : Opens Try.prog 3 (RT.int .i64) ok3 := opens_mono (opens_int Try.underlying3) (fun _ h => i64_wf h)
def ok22 (l : List Int) : Prop := l.length ≤ 9223372036854775807 ∧ ∀ a ∈ l, ok3 a
theorem op22 : Opens Try.prog 22 (RT.list (RT.int .i64)) ok22 := opens_list Try.underlying22 (by kernel_rfl) op3
def ok45 (l : List (List Int)) : Prop := l.length ≤ 9223372036854775807 ∧ ∀ a ∈ l, ok22 a
theorem op45 : Opens Try.prog 45 (RT.list (RT.list (RT.int .i64))) ok45 := opens_list Try.underlying45 (by kernel_rfl) op22

end Go.Proofs.Ytakehdnblmonlaa
