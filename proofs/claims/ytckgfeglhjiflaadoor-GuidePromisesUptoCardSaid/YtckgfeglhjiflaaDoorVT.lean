/- Closed facts on the tables of the program that the walks name. -/
import Derived.Test.YtckgfeglhjiflaaDoorRows
import Derived.Test.YtckgfeglhjiflaaDoorVD
set_option linter.unusedVariables false
set_option linter.unusedSimpArgs false
namespace Go.Proofs.YtckgfeglhjiflaaDoor.Inv
open Go.RowKit Go.Fp

end Go.Proofs.YtckgfeglhjiflaaDoor.Inv
