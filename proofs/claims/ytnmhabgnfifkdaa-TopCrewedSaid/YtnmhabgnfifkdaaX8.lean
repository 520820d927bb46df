/- Extraction, part 8: bytes of strings, fields of values, more of max and min, equality of bools, maps. -/
import Derived.Test.YtnmhabgnfifkdaaX7
import Derived.Laws.IdiomStrings
import Derived.MapKept
namespace Go.Fp
open Go.RowKit

/- ---- the bytes of a string ---- -/
def sBytes (s : ByteArray) : List Int := s.data.toList.map (fun b => (b.toNat : Int))
section
variable {P : Program} {n : NT} {m : Nat} {dk0 : Hp} {rq : Option Nat} {b : Base} {e : Env} {hp : Hp} {ty : TypeId}
/- ---- fields of values ---- -/
def fldV (P : Program) (t f off ft : Nat) : Bool := match P.underlying t with
  | some (.struct fs) => (match fs[f]? with
    | some fd => Nat.beq fd.offset off && Nat.beq fd.type ft
    | none => false)
  | _ => false
/- ---- small operations ---- -/
def boolT (P : Program) (t : TypeId) : Bool := match P.underlying t with
  | some .bool => true
  | _ => false
theorem boolT_spec {t : TypeId} (h : boolT P t = true) : P.underlying t = some .bool := by
  unfold boolT at h
  split at h
  · assumption
  · cases h
theorem st_beql {x y : Operand} {t u : TypeId} {i j : Bool} (hx : val e x = some (.bool i)) (hy : val e y = some (.bool j)) (h : boolT P t = true) : Stable P n b (.binOp .eql t x y u) ty e hp (.bool (decide (i = j))) := fun a w hf _ _ _ _ _ => by
  have he : (i == j) = decide (i = j) := by cases i <;> cases j <;> rfl
  have hq : (Op.equalIn 10000 t (.bool i) (.bool j)).run P w = .ok (i == j) w := run_equalIn_bool' w 9999 t i j (boolT_spec h)
  rw [he] at hq
  simp [execOp, hf.eval hx, hf.eval hy, eqGuard, binOp, Op.equal, Op.maxDepth, hq]
theorem st_bneq {x y : Operand} {t u : TypeId} {i j : Bool} (hx : val e x = some (.bool i)) (hy : val e y = some (.bool j)) (h : boolT P t = true) : Stable P n b (.binOp .neq t x y u) ty e hp (.bool (decide (i ≠ j))) := fun a w hf _ _ _ _ _ => by
  have he : (!(i == j)) = decide (i ≠ j) := by cases i <;> cases j <;> rfl
  have hq : (Op.equalIn 10000 t (.bool i) (.bool j)).run P w = .ok (i == j) w := run_equalIn_bool' w 9999 t i j (boolT_spec h)
  rw [← he]
  simp [execOp, hf.eval hx, hf.eval hy, eqGuard, binOp, Op.equal, Op.maxDepth, hq]
end
end Go.Fp
