/- Extraction: a slice with a capacity of its own, x[:k:k]. -/
import Derived.Test.YthcgoaejnpelbaaGreatDoorXG
set_option linter.unusedVariables false
set_option linter.unusedSimpArgs false
namespace Go.Fp
open Go.RowKit
section
variable {α : Type} {P : Program} {n : NT} {b : Base} {e : Env} {hp : Hp} {ty : TypeId} {A : Option Addr} {c : Nat} {l : List α}
theorem OS.capm {el : TypeId} {o : OT α} {w : World} {hs : Hp} (h : OS el o w (.slice A l.length c) l hs) : OS el o w (.slice A l.length l.length) l hs := by
  obtain ⟨css, hss, hq, h1, h2, h3⟩ := h
  refine ⟨css, hss, hq, ?_, h2, h3⟩
  rcases h1 with ⟨A', hv, hm, hx, hq0⟩ | ⟨g, cap, pr, tl, hv, hq0, hl1, hl2, hmc, hcm⟩
  · injection hv with e1 e2 e3
    exact .inl ⟨A, by rw [hm], hm, hx, hq0⟩
  · injection hv with e1 e2 e3
    subst e1
    exact .inr ⟨g, l.length, pr, tl, rfl, hq0, hl1, by rw [List.length_append]; omega, Nat.le_refl _, by omega⟩
theorem subA0 {sz : Nat} : subA A c 0 sz = A := by
  unfold subA
  by_cases h : c = 0
  · rw [if_pos h]
  · rw [if_neg h]
    cases A with
    | none => rfl
    | some p => simp [add_zero']
theorem OS.sub3 {el sz : Nat} {o : OT α} {hs : Hp} (hsz : o.sz = sz) (h : OS el o b.w (.slice A l.length c) l hs) {k : Nat} (hkl : k ≤ l.length) : ∃ hs', hs'.Sublist hs ∧ OS el o b.w (.slice A (l.take k).length (l.take k).length) (l.take k) hs' := by
  obtain ⟨hs', h1, h2⟩ := OS.sub hsz h (Nat.zero_le k) hkl
  rw [List.drop_zero, subA0] at h2
  exact ⟨hs', h1, h2.capm⟩
theorem st_part3 {x hi mx : Operand} {t el sz : Nat} (k : Nat) {i i' : Int} {kd kd' : IntKind} (hx : val e x = some (.slice A l.length c)) (hhi : val e hi = some (.int kd i)) (hi1 : i = (k : Int)) (hmx : val e mx = some (.int kd' i')) (hm1 : i' = (k : Int)) (hkl : k ≤ l.length) (hlc : l.length ≤ c) (h : slT P t el sz = true) :
    Stable P n b (.slice t x none (some hi) (some mx)) ty e hp (.slice A (l.take k).length (l.take k).length) := fun a w hf _ _ _ _ _ => by
  obtain ⟨h1, inf, h2, h3⟩ := slT_spec h
  subst hi1; subst hm1
  have hlen : (l.take k).length = k := by simp [Nat.min_eq_left hkl]
  rw [hlen]
  have hkc : k ≤ c := by omega
  simp [execOp, hf.eval hx, hf.eval hhi, hf.eval hmx, Instr.sliceAt, run_underlying h1, Instr.slice, Instr.sliceBounds, Instr.sliceBound, asIntOf, hkc, sizeOf, typeInfo, h2]
  intro _
  cases A with
  | none => rfl
  | some p => simp [add_zero']
end
end Go.Fp
