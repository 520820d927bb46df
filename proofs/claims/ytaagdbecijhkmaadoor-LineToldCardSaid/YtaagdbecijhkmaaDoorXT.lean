/- Extraction: values of type any whose dynamic types are int, bool or string. -/
import Derived.Test.YtaagdbecijhkmaaDoorXG
set_option linter.unusedVariables false
set_option linter.unusedSimpArgs false
namespace Go.Fp
open Go.RowKit
inductive Dyn where
  | i (x : Int)
  | b (x : Bool)
  | s (x : ByteArray)
/-- The interface value, by the numbers of the three types. -/
def Dyn.val (ti tb ts : TypeId) : Dyn → Value
  | .i x => .iface ti (.int .i64 x)
  | .b x => .iface tb (.bool x)
  | .s x => .iface ts (.string x)
def RT.dyn (ti tb ts : TypeId) : RT Dyn := ⟨1, fun _ vs x => vs = [x.val ti tb ts], fun h => by rw [h]; rfl, fun {w vs x} h u hu => by rw [h] at hu; simp at hu; subst hu; cases x <;> rfl, fun _ h => h⟩
def dynVi : Dyn → Int
  | .i x => x
  | _ => 0
def dynVb : Dyn → Bool
  | .b x => x
  | _ => false
def dynVs : Dyn → ByteArray
  | .s x => x
  | _ => ByteArray.empty
def dynIsi : Dyn → Bool
  | .i _ => true
  | _ => false
def dynIsb : Dyn → Bool
  | .b _ => true
  | _ => false
def dynIss : Dyn → Bool
  | .s _ => true
  | _ => false
section
variable {P : Program} {n : NT} {b : Base} {e : Env} {hp : Hp} {ty ti tb ts : TypeId}
theorem st_mki {x : Operand} {z : Int} (hx : val e x = some (.int .i64 z)) (ht : P.underlying ti = some (.int .i64)) : Stable P n b (.makeInterface ti x) ty e hp ((Dyn.i z).val ti tb ts) := fun a w hf _ _ _ _ _ => by
  simp [execOp, hf.eval hx, Instr.makeInterface, run_underlying ht, Dyn.val]
theorem st_mkb {x : Operand} {z : Bool} (hx : val e x = some (.bool z)) (ht : P.underlying tb = some .bool) : Stable P n b (.makeInterface tb x) ty e hp ((Dyn.b z).val ti tb ts) := fun a w hf _ _ _ _ _ => by
  simp [execOp, hf.eval hx, Instr.makeInterface, run_underlying ht, Dyn.val]
theorem st_mks {x : Operand} {z : ByteArray} (hx : val e x = some (.string z)) (ht : P.underlying ts = some .string) : Stable P n b (.makeInterface ts x) ty e hp ((Dyn.s z).val ti tb ts) := fun a w hf _ _ _ _ _ => by
  simp [execOp, hf.eval hx, Instr.makeInterface, run_underlying ht, Dyn.val]
theorem run_zero {t : TypeId} {z : Value} (hz : (P.info? t).bind (·.zero) = some z) (w : World) : (zeroValue t).run P w = .ok z w := by
  cases hi : P.info? t with
  | none => simp [hi] at hz
  | some i =>
    have hz' : i.zero = some z := by simpa [hi] using hz
    simp [zeroValue, typeInfo, hi, hz']
theorem st_tai {x : Operand} {xt : TypeId} {d : Dyn} (hx : val e x = some (d.val ti tb ts)) (ht : P.underlying ti = some (.int .i64)) (hz : (P.info? ti).bind (·.zero) = some (.int .i64 0)) (h1 : ti ≠ tb := by decide) (h2 : ti ≠ ts := by decide) :
    Stable P n b (.typeAssert x xt ti true) ty e hp (.tuple #[.int .i64 (dynVi d), .bool (dynIsi d)]) := fun a w hf _ _ _ _ _ => by
  have hr := run_zero (P := P) hz w
  cases d with
  | i z => simp [execOp, hf.eval hx, Instr.typeAssert, run_underlying ht, Dyn.val, dynVi, dynIsi]
  | b z => simp [execOp, hf.eval hx, Instr.typeAssert, run_underlying ht, Dyn.val, dynVi, dynIsi, h1.symm, hr]
  | s z => simp [execOp, hf.eval hx, Instr.typeAssert, run_underlying ht, Dyn.val, dynVi, dynIsi, h2.symm, hr]
theorem st_tab {x : Operand} {xt : TypeId} {d : Dyn} (hx : val e x = some (d.val ti tb ts)) (ht : P.underlying tb = some .bool) (hz : (P.info? tb).bind (·.zero) = some (.bool false)) (h1 : ti ≠ tb := by decide) (h2 : tb ≠ ts := by decide) :
    Stable P n b (.typeAssert x xt tb true) ty e hp (.tuple #[.bool (dynVb d), .bool (dynIsb d)]) := fun a w hf _ _ _ _ _ => by
  have hr := run_zero (P := P) hz w
  cases d with
  | b z => simp [execOp, hf.eval hx, Instr.typeAssert, run_underlying ht, Dyn.val, dynVb, dynIsb]
  | i z => simp [execOp, hf.eval hx, Instr.typeAssert, run_underlying ht, Dyn.val, dynVb, dynIsb, h1, hr]
  | s z => simp [execOp, hf.eval hx, Instr.typeAssert, run_underlying ht, Dyn.val, dynVb, dynIsb, h2.symm, hr]
theorem st_tas {x : Operand} {xt : TypeId} {d : Dyn} (hx : val e x = some (d.val ti tb ts)) (ht : P.underlying ts = some .string) (hz : (P.info? ts).bind (·.zero) = some (.string ByteArray.empty)) (h1 : ti ≠ ts := by decide) (h2 : tb ≠ ts := by decide) :
    Stable P n b (.typeAssert x xt ts true) ty e hp (.tuple #[.string (dynVs d), .bool (dynIss d)]) := fun a w hf _ _ _ _ _ => by
  have hr := run_zero (P := P) hz w
  cases d with
  | s z => simp [execOp, hf.eval hx, Instr.typeAssert, run_underlying ht, Dyn.val, dynVs, dynIss]
  | i z => simp [execOp, hf.eval hx, Instr.typeAssert, run_underlying ht, Dyn.val, dynVs, dynIss, h1, hr]
  | b z => simp [execOp, hf.eval hx, Instr.typeAssert, run_underlying ht, Dyn.val, dynVs, dynIss, h2, hr]
end
end Go.Fp
