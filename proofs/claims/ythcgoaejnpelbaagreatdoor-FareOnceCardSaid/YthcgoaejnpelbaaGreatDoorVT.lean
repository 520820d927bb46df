/- Closed facts on the tables of the program that the walks name. -/
import Derived.Test.YthcgoaejnpelbaaGreatDoorRows
import Derived.Test.YthcgoaejnpelbaaGreatDoorVD
set_option linter.unusedVariables false
set_option linter.unusedSimpArgs false
namespace Go.Proofs.YthcgoaejnpelbaaGreatDoor.Inv
open Go.RowKit Go.Fp

end Go.Proofs.YthcgoaejnpelbaaGreatDoor.Inv
