/- Plain: the ends of a section. -/
import Derived.Test.YtcibjjhanafojaaGreatDoorSLL3
import Derived.KernelRfl
set_option linter.unusedVariables false
set_option linter.unusedSimpArgs false
namespace Go.Proofs.YtcibjjhanafojaaGreatDoor
open Go.RowKit Go.Fp

def outsL (k i : Int) : List Int := if k = 2 ∧ i = 0 then [1, 2] else if k = 2 then [0] else [xorI .i64 i 1]
theorem kind3 {k i : Int} (h : 0 ≤ i ∧ i < endsI k) : k = 1 ∧ (i = 0 ∨ i = 1) ∨ k = 2 ∧ (i = 0 ∨ i = 1 ∨ i = 2) ∨ k = 3 ∧ (i = 0 ∨ i = 1 ∨ i = 2 ∨ i = 3) := by
  unfold endsI at h
  split at h
  · exact .inl ⟨by assumption, by omega⟩
  · split at h
    · exact .inr (.inl ⟨by assumption, by omega⟩)
    · split at h
      · exact .inr (.inr ⟨by assumption, by omega⟩)
      · omega
theorem outs_in {k i o : Int} (h : 0 ≤ i ∧ i < endsI k) (ho : o ∈ outsL k i) : 0 ≤ o ∧ o < endsI k := by
  have x0 := xor_all 0
  have x1 := xor_all 1
  have x2 := xor_all 2
  have x3 := xor_all 3
  simp at x0 x1 x2 x3
  rcases kind3 h with ⟨rfl, rfl | rfl⟩ | ⟨rfl, rfl | rfl | rfl⟩ | ⟨rfl, rfl | rfl | rfl | rfl⟩ <;> simp [outsL, x0, x1, x2, x3] at ho <;> first | (subst ho; decide) | (rcases ho with rfl | rfl <;> decide)
theorem outs_sym {k i o : Int} (hi : 0 ≤ i ∧ i < endsI k) (ho : 0 ≤ o ∧ o < endsI k) (h : o ∈ outsL k i) : i ∈ outsL k o := by
  have hb := endsI_bd k
  unfold outsL at h ⊢
  by_cases hk : k = 2
  · subst hk
    have e : endsI 2 = 3 := rfl
    rw [e] at hi ho
    by_cases h0 : i = 0
    · rw [if_pos ⟨rfl, h0⟩] at h
      have : o ≠ 0 := fun e => by subst e; simp at h
      rw [if_neg (fun h' => this h'.2), if_pos rfl, h0]
      simp
    · rw [if_neg (fun h' => h0 h'.2), if_pos rfl] at h
      have : o = 0 := by simpa using h
      rw [if_pos ⟨rfl, this⟩]
      have : i = 1 ∨ i = 2 := by omega
      rcases this with e | e <;> simp [e]
  · rw [if_neg (fun h' => hk h'.1), if_neg hk] at h ⊢
    have e : o = xorI .i64 i 1 := by simpa using h
    have key : ∀ j : Fin 4, xorI .i64 (xorI .i64 (j.val : Int) 1) 1 = (j.val : Int) := by decide +kernel
    have := key ⟨i.toNat, by omega⟩
    simp only at this
    rw [show ((i.toNat : Nat) : Int) = i by omega] at this
    rw [e, this]
    simp
end Go.Proofs.YtcibjjhanafojaaGreatDoor
