/- Plain: a search by halves, whatever it looks at. -/
import Derived.Test.YtnlnohallnfbmaaGreatDoorQS5
set_option linter.unusedVariables false
set_option linter.unusedSimpArgs false
namespace Go.Proofs.YtnlnohallnfbmaaGreatDoor
open Go.RowKit Go.Fp

/-- p holds below some place and not from there on; the search finds it. -/
theorem halves {step : (Int × Int) → Option ((Int × Int) ⊕ Int)} {lo hi : Nat} (p : Nat → Prop) [DecidablePred p] (hlh : lo ≤ hi) (hmono : ∀ c d, lo ≤ c → c ≤ d → d < hi → p d → p c)
    (hstep : ∀ i j : Nat, lo ≤ i → i < j → j ≤ hi → step ((i : Int), (j : Int)) = some (.inl (if p ((i + j) / 2) then (((i + j) / 2 + 1 : Nat) : Int) else (i : Int), if p ((i + j) / 2) then (j : Int) else (((i + j) / 2 : Nat) : Int))))
    (hlast : ∀ i : Nat, lo ≤ i → i ≤ hi → step ((i : Int), (i : Int)) = some (.inr (i : Int))) :
    ∃ r : Nat, loopM step ((lo : Int), (hi : Int)) = some (r : Int) ∧ lo ≤ r ∧ r ≤ hi ∧ (∀ c, lo ≤ c → c < r → p c) ∧ ∀ c, r ≤ c → c < hi → ¬ p c := by
  obtain ⟨t, e1, r, rfl, e2⟩ := loopM_inv (step := step)
    (fun q => ∃ i j : Nat, q = ((i : Int), (j : Int)) ∧ lo ≤ i ∧ i ≤ j ∧ j ≤ hi ∧ (∀ c, lo ≤ c → c < i → p c) ∧ ∀ c, j ≤ c → c < hi → ¬ p c)
    (fun t => ∃ r : Nat, t = (r : Int) ∧ lo ≤ r ∧ r ≤ hi ∧ (∀ c, lo ≤ c → c < r → p c) ∧ ∀ c, r ≤ c → c < hi → ¬ p c)
    (fun q => (q.2 - q.1).toNat) (fun q hq => by
      obtain ⟨i, j, rfl, h1, h2, h3, h4, h5⟩ := hq
      by_cases hij : i < j
      · left
        refine ⟨_, hstep i j h1 hij h3, ?_, ?_⟩
        · by_cases hp : p ((i + j) / 2)
          · rw [if_pos hp, if_pos hp]
            exact ⟨(i + j) / 2 + 1, j, rfl, by omega, by omega, h3, fun c c1 c2 => hmono c ((i + j) / 2) c1 (by omega) (by omega) hp, h5⟩
          · rw [if_neg hp, if_neg hp]
            exact ⟨i, (i + j) / 2, rfl, h1, by omega, by omega, h4, fun c c1 c2 hc => hp (hmono _ c (by omega) c1 c2 hc)⟩
        · by_cases hp : p ((i + j) / 2)
          · simp only [if_pos hp]; omega
          · simp only [if_neg hp]; omega
      · have : i = j := by omega
        subst this
        exact .inr ⟨_, hlast i h1 h3, i, rfl, h1, h3, h4, h5⟩) ((lo : Int), (hi : Int)) ⟨lo, hi, rfl, Nat.le_refl _, hlh, Nat.le_refl _, fun c _ _ => by omega, fun c _ _ => by omega⟩
  exact ⟨r, e1, e2⟩

end Go.Proofs.YtnlnohallnfbmaaGreatDoor
