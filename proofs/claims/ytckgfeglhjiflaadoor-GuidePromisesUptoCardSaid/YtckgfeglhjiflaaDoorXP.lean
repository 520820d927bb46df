/- Extraction: pointers and nil. -/
import Derived.Test.YtckgfeglhjiflaaDoorXG
import Derived.Laws.Pointers
set_option linter.unusedVariables false
set_option linter.unusedSimpArgs false
namespace Go.Fp
open Go.RowKit
section
variable {P : Program} {n : NT} {b : Base} {e : Env} {hp : Hp} {ty : TypeId}
def ptrT (P : Program) (t : TypeId) : Bool := match P.underlying t with
  | some (.pointer _) => true
  | _ => false
theorem ptrT_spec {t : TypeId} (h : ptrT P t = true) : P.underlying t = some (.pointer (P.pointee t)) := by
  unfold ptrT at h
  unfold Program.pointee
  split at h
  · rename_i h1
    rw [h1]
  · cases h
theorem st_eqpn {x y : Operand} {t u : TypeId} {p : Option Addr} {r : Bool} (hx : val e x = some (.pointer p)) (hy : val e y = some (.pointer none)) (hr : p.isNone = r) (h : ptrT P t = true) : Stable P n b (.binOp .eql t x y u) ty e hp (.bool r) := fun a w hf _ _ _ _ _ => by
  have h1 := run_eql_pointer_nil (P := P) w t p (ptrT_spec h)
  subst hr
  simp only [execOp, hf.eval hx, hf.eval hy, eqGuard, Sem.run_bind]
  simp [h1]
end
end Go.Fp
