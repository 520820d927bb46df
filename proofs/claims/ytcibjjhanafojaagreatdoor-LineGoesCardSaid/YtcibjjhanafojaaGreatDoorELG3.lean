/- The plain law of LineGoes, of what a row gives. -/
import Derived.Test.YtcibjjhanafojaaGreatDoorELG2
import Derived.Test.YtcibjjhanafojaaGreatDoorER1
set_option linter.unusedVariables false
set_option linter.unusedSimpArgs false
namespace Go.Proofs.YtcibjjhanafojaaGreatDoor
open Go.RowKit Go.Fp
theorem lineGoesPlain (n : ApiNet) (from_ to most : Int) (k0 : ok28 n) (k1 : ok3 from_) (k2 : ok3 to) (k3 : ok3 most) : mFishkeep1LineGoes n from_ to most = some true := goes_plain (fun s hs => k0.1.2 s hs) from_ to most
end Go.Proofs.YtcibjjhanafojaaGreatDoor
