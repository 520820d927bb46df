/- The plain law of LineTurns, of what a row gives. -/
import Derived.Test.YtcibjjhanafojaaDoorLL5
import Derived.Test.YtcibjjhanafojaaDoorUR1
set_option linter.unusedVariables false
set_option linter.unusedSimpArgs false
namespace Go.Proofs.YtcibjjhanafojaaDoor
open Go.RowKit Go.Fp
theorem lineTurnsPlain (n : ApiNet) (l : List ApiStep) (k0 : ok28 n) (k1 : ok29 l) (sz : l.length * 24 ≤ 140737488351232) : mFishkeep1LineTurns n l = some true := turnsPlain n l (fun s hs => k0.1.2 s hs)
end Go.Proofs.YtcibjjhanafojaaDoor
