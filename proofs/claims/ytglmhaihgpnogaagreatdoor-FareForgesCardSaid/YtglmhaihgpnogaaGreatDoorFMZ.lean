/- Plain: FareForges, for what a row gives. -/
import Derived.Test.YtglmhaihgpnogaaGreatDoorFM9
import Derived.Test.YtglmhaihgpnogaaGreatDoorZR1
set_option linter.unusedVariables false
namespace Go.Proofs.YtglmhaihgpnogaaGreatDoor
open Go.RowKit Go.Fp
theorem forgesRow (p q e : Int) (s : FareTicket) (k b : Int) (_ : ok3 p) (_ : ok3 q) (_ : ok3 e) (h : ok24 s) (_ : ok3 k) (hb : ok5 b) : mFishkeep2FareForges p q e s k b = some true :=
  forgesPlain p q e s k b h.2.2.2.2.2.1 hb.1 hb.2
end Go.Proofs.YtglmhaihgpnogaaGreatDoor
