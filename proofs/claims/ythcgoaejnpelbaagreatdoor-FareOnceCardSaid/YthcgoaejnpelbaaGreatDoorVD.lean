/- The models of the functions, as the extractor printed them. -/
import Derived.Test.YthcgoaejnpelbaaGreatDoorOP6
import Derived.Test.YthcgoaejnpelbaaGreatDoorXG
import Derived.Test.YthcgoaejnpelbaaGreatDoorXM
import Derived.Test.YthcgoaejnpelbaaGreatDoorXP
set_option linter.unusedVariables false
set_option linter.unusedSimpArgs false
namespace Go.Proofs.YthcgoaejnpelbaaGreatDoor.Inv
open Go.RowKit Go.Fp



/-- fishplate/fare.NewCar -/
noncomputable def mFareNewCar (x1 : Int) (x2 : Int) (x3 : Int) : Option (Unit) :=
  ((mFareWithin x1 1 20).bind fun x38 =>
  if x38 = true then (
  (mFareWithin x2 1 4).bind fun x41 =>
  if x41 = true then (
  (mFareWithin x3 2 12).bind fun x44 =>
  some (!x44))
  else (
  some true))
  else (
  some true)).bind (fun x36 =>
  if x36 = true then (
  some ())
  else (
  none))

noncomputable def mFishkeep2FareOnce_L622 (l7 : (List Int)) : (Unit) → Option ((Unit) ⊕ ((Unit) ⊕ (Bool))) := fun _ =>
  if 4 ≤ (l7.length : Int) then (
  (idx l7 0).bind fun x763 =>
  (idx l7 1).bind fun _ =>
  (idx l7 2).bind fun _ =>
  (idx l7 3).bind fun _ =>
  (cutS l7 4 (l7.length : Int)).bind fun _ =>
  if x763 = 0 then (
  none)
  else (
  none))
  else (
  some (.inr (.inl ())))

/-- fishplate/fishkeep2.FareOnce -/
noncomputable def mFishkeep2FareOnce (x1 : Int) (x2 : Int) (x3 : Int) (l7 : (List Int)) : Option (Bool) :=
  (mFishkeep2AwakeFare).bind fun _ =>
  (mFareNewCar x1 x2 x3).bind fun _ =>
  (mFishkeep2Fares).bind fun x417 =>
  if x417 = true then (
  if (2 : Int) ≠ (0 : Int) then (
  some true)
  else (
  (loopM (mFishkeep2FareOnce_L622 l7) ()).bind fun t => Sum.elim (fun _ =>
  none) (fun r820 => some r820) t))
  else (
  some false)

end Go.Proofs.YthcgoaejnpelbaaGreatDoor.Inv
