/- Extraction, part A: errors as 'nil or not', calls of the library by the shelf's contracts. -/
import Derived.Test.YtcibjjhanafojaaGreatDoorX9
import Derived.Lib.AtoiAll
import Derived.Lib.AtoiErrMem
import Derived.WideLaws
set_option linter.unusedVariables false
namespace Go.Fp
open Go.RowKit

/-- An error: nil, or some value. -/
def ErrV (v : Value) (q : Bool) : Prop := match q with
  | true => v = .nilIface
  | false => ∃ t u, v = .iface t u
theorem ErrV.nil : ErrV .nilIface true := rfl
section
variable {P : Program} {n : NT} {m : Nat} {dk0 : Hp} {rq : Option Nat} {b : Base} {e : Env} {hp : Hp} {ty : TypeId}
def ifT (P : Program) (t : TypeId) : Prop := P.underlying t = some (.interface (P.methodsAt t))
end
/-- What strconv.Atoi yields, and whether its error is nil. -/
def atoiM (s : ByteArray) : Option (Int × Bool) := if s.size ≤ 281474976710656 then (match Lib.atoiAll s.data.toList with
  | .ok v => some (v, true)
  | Lib.NumEnd.syntax => some (0, false)
  | .range => some (Lib.atoiSat s.data.toList, false)) else none
/-- What start-up code has laid, as far as it is read: two errors of package strconv. -/
def GLo (gs gr : Nat) (w : World) : Prop := (∃ t u, w.cell? ⟨gs, 0, none⟩ = some (.iface t u)) ∧ ∃ t u, w.cell? ⟨gr, 0, none⟩ = some (.iface t u)
theorem GLo.mono {gs gr : Nat} {w w' : World} (hk : Keeps w w') (h : GLo gs gr w) : GLo gs gr w' := by
  obtain ⟨⟨t, u, h1⟩, t', u', h2⟩ := h
  exact ⟨⟨t, u, hk _ _ h1⟩, t', u', hk _ _ h2⟩
theorem GLo.le {gs gr : Nat} {b b' : Base} (h : GLo gs gr b.w) (hle : b.Le b') : GLo gs gr b'.w := h.mono hle.cells
theorem GLo.old {gs gr : Nat} {b : Base} {hp : Hp} {w : World} (h : GLo gs gr b.w) (ho : Own b hp w) : GLo gs gr w := h.mono ho.keeps
end Go.Fp
