/- Extraction, part 14: arrays in own and in frozen blocks. -/
import Derived.Test.YtckgfeglhjiflaaDoorXD
import Derived.Lib.AppendZerosOnto
namespace Go.Fp
open Go.RowKit

section
variable {P : Program} {n : NT} {m : Nat} {dk0 : Hp} {rq : Option Nat} {b : Base} {e : Env} {hp : Hp} {ty : TypeId}
def posN (i : Int) : Option Nat := if 0 < i then some i.toNat else none
end
end Go.Fp
