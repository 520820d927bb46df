/- The models of the functions, as the extractor printed them. -/
import Derived.Test.YtckgfeglhjiflaaDoorWP5
import Derived.Test.YtckgfeglhjiflaaDoorSh2
import Derived.Test.YtckgfeglhjiflaaDoorXL
import Derived.Test.YtckgfeglhjiflaaDoorXP
import Derived.Test.YtckgfeglhjiflaaDoorXS
import Derived.Test.YtckgfeglhjiflaaDoorXZ
import Derived.Test.YtckgfeglhjiflaaDoorXK
set_option linter.unusedVariables false
set_option linter.unusedSimpArgs false
namespace Go.Proofs.YtckgfeglhjiflaaDoor.Inv
open Go.RowKit Go.Fp



noncomputable def mGuideNewDesk (a : ApiDay) (d : Int) : Option (Int) :=
 (mGuideCheckLeast a d).bind fun c =>
 if c ≠ 0 then (
 some c)
 else (
 (mGuideOwn a).bind (unc2 fun _ _ =>
 none))

noncomputable def mFishkeep2GuidePromises_L519 (a : List Int) : (Unit) → Option ((Unit) ⊕ ((Unit) ⊕ (Bool))) := fun _ =>
 if 3 ≤ (a.length : Int) then (
 (idx a 0).bind fun _ =>
 (idx a 1).bind fun _ =>
 (idx a 2).bind fun _ =>
 (cutS a 3 (a.length : Int)).bind fun _ =>
 none)
 else (
 some (.inr (.inl ())))

noncomputable def mFishkeep2GuidePromises (a : ApiDay) (c : Int) (_ : List ApiDay) (_ : List GuideJourney) (d : List Int) : Option (Bool) :=
 (mFishkeep2AwakeGuide).bind fun e =>
 if e = true then (
 (mGuideNewDesk a c).bind fun f =>
 (mFishkeep2Guides).bind fun g =>
 if g = true then (
 if f ≠ 0 then (
 some true)
 else (
 (loopM (mFishkeep2GuidePromises_L519 d) ()).bind fun t => Sum.elim (fun _ =>
 some true) (fun h => some h) t))
 else (
 some false))
 else (
 some false)

end Go.Proofs.YtckgfeglhjiflaaDoor.Inv
