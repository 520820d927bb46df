/- The plain law of LineFar, of what a row gives. -/
import Derived.Test.YtcibjjhanafojaaDoorFLF4
import Derived.Test.YtcibjjhanafojaaDoorFR1
set_option linter.unusedVariables false
set_option linter.unusedSimpArgs false
namespace Go.Proofs.YtcibjjhanafojaaDoor
open Go.RowKit Go.Fp
theorem lineFarPlain (n : ApiNet) (k0 : ok28 n) : mFishkeep1LineFar n = some true := far_plain (fun s hs => k0.1.2 s hs)
end Go.Proofs.YtcibjjhanafojaaDoor
