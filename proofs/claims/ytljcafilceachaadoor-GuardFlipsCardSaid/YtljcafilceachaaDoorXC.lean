/- Extraction, part C: slices of arrays. -/
import Derived.Test.YtljcafilceachaaDoorXA
set_option linter.unusedVariables false
set_option linter.unusedSimpArgs false
namespace Go.Fp
open Go.RowKit
section
variable {P : Program} {n : Nat} {b : Base} {e : Env} {hp : Hp} {ty : TypeId}
theorem st_slcarr {x : Operand} {hi : Option Operand} {t m el sz g : Nat} (k : Nat) (hx : val e x = some (.pointer (some ⟨g, 0, none⟩))) (hhi : (hi = none ∧ k = m) ∨ ∃ q kd i, hi = some q ∧ val e q = some (.int kd i) ∧ i = (k : Int)) (hk : k ≤ m) (hm : 0 < m) (h : arrT P t m el sz = true) :
    Stable P n b (.slice t x none hi none) ty e hp (.slice (some ⟨g, 0, none⟩) k m) := fun a w hf _ _ _ _ _ => by
  obtain ⟨h1, h2⟩ := arrT_spec h
  obtain ⟨inf, h3, h4⟩ := sizT_spec h2
  have hm0 : ¬ m = 0 := by omega
  rcases hhi with ⟨rfl, rfl⟩ | ⟨q, kd, i, rfl, hq, rfl⟩
  · simp [execOp, hf.eval hx, Instr.sliceAt, run_underlying h1, Instr.sliceBounds, Instr.sureAddr, sizeOf, typeInfo, h3, hm0, Addr.add]
  · simp [execOp, hf.eval hx, hf.eval hq, Instr.sliceAt, run_underlying h1, Instr.sliceBounds, Instr.sliceBound, asIntOf, Instr.sureAddr, hk, sizeOf, typeInfo, h3, hm0, Addr.add]
end
theorem FZ.arr {α : Type} {r : RT α} {b : Base} {hp : Hp} {w : World} {i g c : Nat} {t : TypeId} {cs : List Value} {css : List (List Value)} {rest : List Value} {l : List α} (ho : Own b hp w) (hi : hp[i]? = some (g, Cl t cs)) (hc : cs = css.flatten ++ rest) (ha : All2 (r.rep w) css l) (hl : l.length ≤ c ∧ c ≤ 9223372036854775807) : FZ r w (some ⟨g, 0, none⟩) c l := by
  refine ⟨hl, css, ?_, ha⟩
  have h1 := Rd.own ho hi
  rw [hc] at h1
  exact h1.left
end Go.Fp
