/- The framework, part 8: new memory behind the named blocks; freezing it; reading a slice of the call's own by what it reads as. -/
import Derived.Test.YtckgfeglhjiflaaDoorK7
namespace Go.Fp
open Go.RowKit

section
variable {P : Program} {n : NT} {m : Nat} {dk0 : Hp} {rq : Option Nat} {w0 : Base} {ops : Array Oper} {Q : Exit → Act → World → Prop} {e : Env} {hp : Hp} {ty : TypeId} {f : FuncId} {args : List Value} {Φ : Value → Hp → Prop}

theorem perm_mid (F q R : Hp) : (q ++ (F ++ R)).Perm (F ++ (q ++ R)) := by
  rw [← List.append_assoc, ← List.append_assoc]
  exact List.Perm.append_right R List.perm_append_comm
theorem st_load_rd {x : Operand} {t : TypeId} {A : Option Addr} {k : Nat} {v : Value} (hx : val e x = some (.pointer (A.map (·.add k)))) (ht : oneT P t = true) (hrd : ∀ w, Own w0 hp w → cellO w A k = some v) :
    Stable P n w0 (.load t x) ty e hp v := fun a w hf ho _ _ _ _ => by
  have hv := hrd w ho
  cases A with
  | none => simp [cellO] at hv
  | some p =>
    simp only [Option.map_some] at hx
    have hc : w.cell? (p.add k) = some v := hv
    simp [execOp, hf.eval hx, Instr.loadAt, Instr.sureAddr, loadVar, run_isAgg_one ht, hc]

theorem Seg.isSome {el sz m : Nat} {A : Option Addr} {c : Nat} {xs : List Value} {hs : Hp} (h : Seg el sz (.slice A m c) m xs hs) (hm : 0 < m) : A.isSome = true := by
  obtain ⟨g, cap, pr, tl, hv, _⟩ := h.pos hm
  injection hv with h1
  rw [h1]; rfl
end
section
variable {P : Program} {n : NT} {m : Nat} {dk0 : Hp} {rq : Option Nat} {w0 : Base} {e : Env} {hp : Hp} {ty : TypeId}
end
end Go.Fp
