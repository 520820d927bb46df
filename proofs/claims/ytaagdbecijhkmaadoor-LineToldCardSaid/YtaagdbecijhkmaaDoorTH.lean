/- Plain: LineTold, as the row asks it. -/
import Derived.Test.YtaagdbecijhkmaaDoorTG
import Derived.Test.YtaagdbecijhkmaaDoorTR1
set_option linter.unusedVariables false
namespace Go.Proofs.YtaagdbecijhkmaaDoor
theorem toldRow (n : ApiNet) (k : ok28 n) : mFishkeep1LineTold n = some true := toldPlain n (fun s hs => k.1.2 s hs)
end Go.Proofs.YtaagdbecijhkmaaDoor
