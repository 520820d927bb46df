/- Extraction, part 4: strings, integers of all kinds, conversions, comparisons of structs. -/
import Derived.Test.YtckgfeglhjiflaaDoorX3
namespace Go.Fp
open Go.RowKit

/- ---- words of the models ---- -/
def sIdx (s : ByteArray) (i : Int) : Option Int := if 0 ≤ i then (s[i.toNat]?).map (fun b => (b.toNat : Int)) else none
def sCut (s : ByteArray) (i j : Int) : Option ByteArray := if 0 ≤ i ∧ i ≤ j ∧ j ≤ (s.size : Int) then some (s.extract i.toNat j.toNat) else none
def sAdd (s t : ByteArray) : Option ByteArray := if ((s.size + t.size : Nat) : Int) ≤ 9223372036854775807 then some (s ++ t) else none
def sEq (s t : ByteArray) : Bool := s.toList == t.toList
def shN (y : Int) : Option Unit := if y < 0 then none else some ()
theorem shN_some {y : Int} {u : Unit} (h : shN y = some u) : ¬ y < 0 := by
  unfold shN at h
  split at h
  · cases h
  · assumption
def shlI (k : IntKind) (x y : Int) : Int := k.wrap (x * 2 ^ (min y.toNat k.bits))
def shrI (k : IntKind) (x y : Int) : Int := x.fdiv (2 ^ (min y.toNat k.bits))
def andI (k : IntKind) (x y : Int) : Int := k.wrap (BitVec.ofInt k.bits x &&& BitVec.ofInt k.bits y).toNat
def orI (k : IntKind) (x y : Int) : Int := k.wrap (BitVec.ofInt k.bits x ||| BitVec.ofInt k.bits y).toNat
def xorI (k : IntKind) (x y : Int) : Int := k.wrap (BitVec.ofInt k.bits x ^^^ BitVec.ofInt k.bits y).toNat
def strT (P : Program) (t : TypeId) : Bool := match P.underlying t with
  | some .string => true
  | _ => false
theorem strT_spec {P : Program} {t : TypeId} (h : strT P t = true) : P.underlying t = some .string := by
  unfold strT at h
  split at h
  · assumption
  · cases h
def intT (P : Program) (t : TypeId) (k : IntKind) : Bool := match P.underlying t with
  | some (.int k') => k' == k
  | _ => false
theorem intT_spec {P : Program} {t : TypeId} {k : IntKind} (h : intT P t k = true) : P.underlying t = some (.int k) := by
  unfold intT at h
  split at h
  · rename_i k' hk
    have : k' = k := by simpa using h
    subst this
    exact hk
  · cases h

section
variable {P : Program} {n : NT} {m : Nat} {dk0 : Hp} {rq : Option Nat} {b : Base} {e : Env} {hp : Hp} {ty : TypeId}
theorem st_sidx {x ix : Operand} {t : TypeId} {s : ByteArray} {k : IntKind} {i r : Int} (hx : val e x = some (.string s)) (hix : val e ix = some (.int k i)) (hi : sIdx s i = some r) (h : strT P t = true) : Stable P n b (.index t x ix) ty e hp (.int .u8 r) := fun a w hf _ _ _ _ _ => by
  unfold sIdx at hi
  split at hi
  · rename_i h0
    cases hs : s[i.toNat]? with
    | none => rw [hs] at hi; cases hi
    | some c =>
      rw [hs] at hi
      simp only [Option.map_some, Option.some.injEq] at hi
      subst hi
      simp [execOp, hf.eval hx, hf.eval hix, Instr.index, asIntOf, run_underlying (strT_spec h), h0, hs]
  · cases hi
theorem st_sadd {x y : Operand} {t u : TypeId} {s r q : ByteArray} (hx : val e x = some (.string s)) (hy : val e y = some (.string r)) (hq : sAdd s r = some q) : Stable P n b (.binOp .add t x y u) ty e hp (.string q) := fun a w hf _ _ _ _ _ => by
  unfold sAdd at hq
  split at hq
  · rename_i h0
    injection hq with hq
    subst hq
    simp only [execOp, hf.eval hx, hf.eval hy, eqGuard, binOp, Op.stringOp]
    simp
    omega
  · cases hq
theorem st_conv {x : Operand} {t u : TypeId} {k k' : IntKind} {i : Int} (hx : val e x = some (.int k i)) (ht : intT P t k = true) (hu : intT P u k' = true) : Stable P n b (.convert t u x) ty e hp (.int k' (k'.wrap i)) := fun a w hf _ _ _ _ _ => by
  simp [execOp, hf.eval hx, convert, run_underlying (intT_spec ht), run_underlying (intT_spec hu), Conv.intToInt]
theorem st_shr {x y : Operand} {t u : TypeId} {k k' : IntKind} {i j : Int} (hx : val e x = some (.int k i)) (hy : val e y = some (.int k' j)) (hj : ¬ j < 0) : Stable P n b (.binOp .shr t x y u) ty e hp (.int k (shrI k i j)) := fun a w hf _ _ _ _ _ => by
  simp only [execOp, hf.eval hx, hf.eval hy, eqGuard, binOp, Op.shift, shrI]
  simp [hj]
end
end Go.Fp
