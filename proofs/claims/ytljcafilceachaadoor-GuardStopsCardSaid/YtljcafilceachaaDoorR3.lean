/- What the rows list of the errors of strconv. -/
import Derived.Test.YtljcafilceachaaDoorRows
import Derived.Test.YtljcafilceachaaDoorXA
import Derived.Test.YtljcafilceachaaDoorX5
import Derived.Stop.LaidErr
import Derived.LaidLaws
set_option linter.unusedVariables false
set_option linter.unusedSimpArgs false
namespace Go.Proofs.YtljcafilceachaaDoor
open Go.RowKit Go.Fp
open Go.ChangeShapes Go.WideShapes Go.ChangeAt Go.Deep

def sentName : DataW Unit → String
  | .iface n _ => n
  | _ => "none"
theorem rowE (u : TypeId) (h : Tryd.prog.typeName? 3 u = some (sentName Rows.laid_strconv_ErrRange)) : u = 234 :=
  typeName_ptr_named (nm := "errors.errorString") (by kernel_rfl) (by kernel_rfl) (by decide) u (h.trans (by kernel_rfl))
theorem gErrSyntax : Tryd.prog.globalNamed "strconv.ErrSyntax" = some 2 := by kernel_rfl
theorem tErrSyntax : (Tryd.prog.globals[2]?).map (·.type) = some 149 := by kernel_rfl
theorem gErrRange : Tryd.prog.globalNamed "strconv.ErrRange" = some 3 := by kernel_rfl
theorem tErrRange : (Tryd.prog.globals[3]?).map (·.type) = some 149 := by kernel_rfl
theorem cellsE : Tryd.prog.cellsOf 236 = 1 := by kernel_rfl
theorem cellsS : Tryd.prog.cellsOf 9 = 1 := by kernel_rfl
theorem glo_head {r : List (String × DataW Unit)} {W : World} (h : laidMet Tryd.prog (("strconv.ErrRange", Rows.laid_strconv_ErrRange) :: ("strconv.ErrSyntax", Rows.laid_strconv_ErrSyntax) :: r) W) : GLo 2 3 W := by
  obtain ⟨a0, s0, hv0, -, -, -⟩ := laid_sentinel h gErrRange tErrRange Tryd.underlying149 rowE Tryd.underlying234 Tryd.underlying236 rfl rfl Tryd.underlying9 cellsE cellsS
  have c0 := World.var?_cell gErrRange hv0 0
  obtain ⟨a1, s1, hv1, -, -, -⟩ := laid_sentinel h.tail gErrSyntax tErrSyntax Tryd.underlying149 rowE Tryd.underlying234 Tryd.underlying236 rfl rfl Tryd.underlying9 cellsE cellsS
  have c1 := World.var?_cell gErrSyntax hv1 0
  exact ⟨⟨_, _, by simpa using c1⟩, _, _, by simpa using c0⟩

end Go.Proofs.YtljcafilceachaaDoor
