/- Plain: GuardRadio, as the row asks it. -/
import Derived.Test.YtbggpdpcndpaoaaDoorZG
import Derived.Test.YtbggpdpcndpaoaaDoorZR1
set_option linter.unusedVariables false
namespace Go.Proofs.YtbggpdpcndpaoaaDoor
theorem radioRow {P Q : Prop} (l : List Fishkeep1Act) (_ : P) (_ : Q) : mFishkeep1GuardRadio l = some true := radioPlain l
end Go.Proofs.YtbggpdpcndpaoaaDoor
