/- Extraction, part 8: bytes of strings, fields of values, more of max and min, equality of bools, maps. -/
import Derived.Test.YtckgfeglhjiflaaDoorX7
import Derived.Laws.IdiomStrings
import Derived.MapKept
namespace Go.Fp
open Go.RowKit

/- ---- the bytes of a string ---- -/
def sBytes (s : ByteArray) : List Int := s.data.toList.map (fun b => (b.toNat : Int))
section
variable {P : Program} {n : NT} {m : Nat} {dk0 : Hp} {rq : Option Nat} {b : Base} {e : Env} {hp : Hp} {ty : TypeId}
/- ---- fields of values ---- -/
def fldV (P : Program) (t f off ft : Nat) : Bool := match P.underlying t with
  | some (.struct fs) => (match fs[f]? with
    | some fd => Nat.beq fd.offset off && Nat.beq fd.type ft
    | none => false)
  | _ => false
theorem fldV_spec {t f off ft : Nat} (h : fldV P t f off ft = true) : ∃ fs fd, P.underlying t = some (.struct fs) ∧ fs[f]? = some fd ∧ fd.offset = off ∧ fd.type = ft := by
  unfold fldV at h
  split at h
  · rename_i fs hu
    split at h
    · rename_i fd hfd
      simp only [Bool.and_eq_true] at h
      exact ⟨fs, fd, hu, hfd, Nat.eq_of_beq_eq_true h.1, Nat.eq_of_beq_eq_true h.2⟩
    · cases h
  · cases h
theorem st_vfield1 {x : Operand} {t f off ft : Nat} {cs : List Value} {v : Value} (hx : val e x = some (.agg cs.toArray)) (h : fldV P t f off ft = true) (ho : oneT P ft = true) (hv : cs[off]? = some v) : Stable P n b (.field t x f) ty e hp v := fun a w hf _ _ _ _ _ => by
  obtain ⟨fs, fd, h1, h2, h3, h4⟩ := fldV_spec h
  subst h3; subst h4
  simp [execOp, hf.eval hx, Instr.field, run_underlying h1, h2, asAgg, part, run_isAgg_one ho, hv]
/- ---- small operations ---- -/
def boolT (P : Program) (t : TypeId) : Bool := match P.underlying t with
  | some .bool => true
  | _ => false
theorem boolT_spec {t : TypeId} (h : boolT P t = true) : P.underlying t = some .bool := by
  unfold boolT at h
  split at h
  · assumption
  · cases h
theorem st_beql {x y : Operand} {t u : TypeId} {i j : Bool} (hx : val e x = some (.bool i)) (hy : val e y = some (.bool j)) (h : boolT P t = true) : Stable P n b (.binOp .eql t x y u) ty e hp (.bool (decide (i = j))) := fun a w hf _ _ _ _ _ => by
  have he : (i == j) = decide (i = j) := by cases i <;> cases j <;> rfl
  have hq : (Op.equalIn 10000 t (.bool i) (.bool j)).run P w = .ok (i == j) w := run_equalIn_bool' w 9999 t i j (boolT_spec h)
  rw [he] at hq
  simp [execOp, hf.eval hx, hf.eval hy, eqGuard, binOp, Op.equal, Op.maxDepth, hq]
theorem st_bneq {x y : Operand} {t u : TypeId} {i j : Bool} (hx : val e x = some (.bool i)) (hy : val e y = some (.bool j)) (h : boolT P t = true) : Stable P n b (.binOp .neq t x y u) ty e hp (.bool (decide (i ≠ j))) := fun a w hf _ _ _ _ _ => by
  have he : (!(i == j)) = decide (i ≠ j) := by cases i <;> cases j <;> rfl
  have hq : (Op.equalIn 10000 t (.bool i) (.bool j)).run P w = .ok (i == j) w := run_equalIn_bool' w 9999 t i j (boolT_spec h)
  rw [← he]
  simp [execOp, hf.eval hx, hf.eval hy, eqGuard, binOp, Op.equal, Op.maxDepth, hq]
end
end Go.Fp
