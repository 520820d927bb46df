/- Extraction: a field that is a slice and holds nothing. -/
import Derived.Test.YtglmhaihgpnogaaGreatDoorXG
namespace Go.Fp
open Go.RowKit

def RT.nilK : RT Unit := ⟨1, fun _ vs _ => vs = [.slice Option.none 0 0], fun h => by rw [h]; rfl, fun h u hu => by rw [h] at hu; simp at hu; subst hu; rfl, fun _ h => h⟩
end Go.Fp
