/- The plain law of LineRuns, of what a row gives. -/
import Derived.Test.YtcibjjhanafojaaDoorNLR3
import Derived.Test.YtcibjjhanafojaaDoorNR1
set_option linter.unusedVariables false
set_option linter.unusedSimpArgs false
namespace Go.Proofs.YtcibjjhanafojaaDoor
open Go.RowKit Go.Fp
theorem lineRunsPlain (n : ApiNet) (k0 : ok28 n) : mFishkeep1LineRuns n = some true := runs_plain (fun s hs => k0.1.2 s hs)
end Go.Proofs.YtcibjjhanafojaaDoor
