/- Extraction, part 8: bytes of strings, fields of values, more of max and min, equality of bools, maps. -/
import Derived.Test.YtbhomnclohcecaaX7
import Derived.Laws.IdiomStrings
import Derived.MapKept
namespace Go.Fp
open Go.RowKit

/- ---- the bytes of a string ---- -/
def sBytes (s : ByteArray) : List Int := s.data.toList.map (fun b => (b.toNat : Int))
section
variable {P : Program} {n : NT} {m : Nat} {dk0 : Hp} {rq : Option Nat} {b : Base} {e : Env} {hp : Hp} {ty : TypeId}
/- ---- fields of values ---- -/
def fldV (P : Program) (t f off ft : Nat) : Bool := match P.underlying t with
  | some (.struct fs) => (match fs[f]? with
    | some fd => Nat.beq fd.offset off && Nat.beq fd.type ft
    | none => false)
  | _ => false
/- ---- small operations ---- -/
def boolT (P : Program) (t : TypeId) : Bool := match P.underlying t with
  | some .bool => true
  | _ => false
end
end Go.Fp
