/- Extraction, part 14: arrays in own and in frozen blocks. -/
import Derived.Test.YthcgoaejnpelbaaGreatDoorXD
import Derived.Lib.AppendZerosOnto
namespace Go.Fp
open Go.RowKit

section
variable {P : Program} {n : NT} {m : Nat} {dk0 : Hp} {rq : Option Nat} {b : Base} {e : Env} {hp : Hp} {ty : TypeId}
def posN (i : Int) : Option Nat := if 0 < i then some i.toNat else none
theorem st_len0 {x : Operand} {t el sz c : Nat} {A : Option Addr} (hx : val e x = some (.slice A 0 c)) (h : slT P t el sz = true) :
    Stable P n b (.call { callee := .builtin .len, args := #[x], argTypes := #[t] }) ty e hp (.int .i64 0) := st_len hx h
end
end Go.Fp
