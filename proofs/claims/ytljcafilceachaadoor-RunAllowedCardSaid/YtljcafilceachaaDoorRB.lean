/- Plain: RunAllowed. -/
import Derived.Test.YtljcafilceachaaDoorRA
set_option linter.unusedVariables false
set_option linter.unusedSimpArgs false
namespace Go.Proofs.YtljcafilceachaaDoor
open Go.RowKit Go.Fp

theorem mid_bd {a c : Int} (h0 : 0 ≤ a) (h : a < c) : a < Int.tdiv ((a + c) + 1) 2 ∧ Int.tdiv ((a + c) + 1) 2 ≤ c := by
  rw [Int.tdiv_eq_ediv_of_nonneg (by omega)]
  omega
theorem allowed_model {s : ApiStock} (hc : mRunCheck s = some 0) (hs : Good s) {left t : Int} (hl : 0 ≤ left) (ht : 0 ≤ t) (ht' : t ≤ 6000) :
    ∃ v, mRunAllowed s left t = some (v, 0) ∧ min t s.Top ≤ v ∧ v ≤ s.Top ∧ way (s.Brake - 40) t v ≤ left ∧ (v < s.Top → left < way (s.Brake - 40) t (v + 1)) := by
  have hb := hs.brake
  have htop := hs.top
  unfold mRunAllowed
  simp only [hc, Option.bind_some, within_eq]
  rw [if_neg (by simp), if_neg (by omega)]
  simp only [ht, ht', and_self, decide_true, Bool.not_true, Option.bind_some]
  rw [if_neg (by decide)]
  obtain ⟨v, hv, hq⟩ := loopM_inv (step := mRunAllowed_L146 s left t)
    (fun p => min t s.Top ≤ p.1 ∧ p.1 ≤ p.2 ∧ p.2 ≤ s.Top ∧ way (s.Brake - 40) t p.1 ≤ left ∧ (p.2 < s.Top → left < way (s.Brake - 40) t (p.2 + 1)))
    (fun v => min t s.Top ≤ v ∧ v ≤ s.Top ∧ way (s.Brake - 40) t v ≤ left ∧ (v < s.Top → left < way (s.Brake - 40) t (v + 1))) (fun p => (p.2 - p.1).toNat) (fun p hp => by
    obtain ⟨x, y⟩ := p
    obtain ⟨q1, q2, q3, q4, q5⟩ := hp
    simp only at q1 q2 q3 q4 q5
    simp only [mRunAllowed_L146, unc2]
    by_cases h : x < y
    · have hm := mid_bd (a := x) (c := y) (by omega) h
      rw [if_pos h, chk_ok (by omega) (by omega), Option.bind_some, chk_ok (by omega) (by omega), Option.bind_some]
      simp only [ne0, if_neg (show ¬ (2 : Int) = 0 by decide), Option.bind_some]
      rw [chk_ok (by omega) (by omega), Option.bind_some, into_model hs (by omega) (by omega) ht ht', Option.bind_some]
      by_cases hw : way (s.Brake - 40) t (Int.tdiv ((x + y) + 1) 2) ≤ left
      · rw [if_pos hw]
        refine .inl ⟨_, rfl, ⟨by simp only; omega, by simp only; omega, q3, hw, q5⟩, by simp only; omega⟩
      · rw [if_neg hw, chk_ok (by omega) (by omega), Option.bind_some]
        refine .inl ⟨_, rfl, ⟨q1, by simp only; omega, by simp only; omega, q4, fun _ => ?_⟩, by simp only; omega⟩
        simp only
        rw [show Int.tdiv ((x + y) + 1) 2 - 1 + 1 = Int.tdiv ((x + y) + 1) 2 by omega]
        omega
    · rw [if_neg h]
      obtain rfl : x = y := by omega
      exact .inr ⟨x, rfl, q1, q3, q4, q5⟩) (min t s.Top, s.Top) ⟨Int.le_refl _, by simp only; omega, Int.le_refl _, by simp only; rw [way_stop (by omega)]; exact hl, fun h => by simp only at h; omega⟩
  exact ⟨v, by rw [hv]; rfl, hq⟩
theorem allowedPlain (s : ApiStock) (x t : Int) (hs : ok43 s) (hx : ok3 x) (ht : ok3 t) : mFishkeep1RunAllowed s x t = some true := by
  obtain ⟨e, he, hg⟩ := check_spec (s := s) hs.1
  unfold mFishkeep1RunAllowed
  rw [awake, Option.bind_some, if_pos rfl]
  by_cases h0 : e ≠ 0
  · have : mRunAllowed s x t = some (0, e) := by
      unfold mRunAllowed
      rw [he, Option.bind_some, if_pos h0]
    rw [this, Option.bind_some]
    simp [unc2, h0]
  · have h0' : e = 0 := by omega
    subst h0'
    have good := hg rfl
    have hb := good.brake
    have htop := good.top
    by_cases h1 : x < 0 ∨ ¬ (0 ≤ t ∧ t ≤ 6000)
    · have : mRunAllowed s x t = some (0, 2) := by
        unfold mRunAllowed
        rw [he, Option.bind_some, if_neg (by simp)]
        by_cases h2 : x < 0
        · simp [h2]
        · have h3 : ¬ (0 ≤ t ∧ t ≤ 6000) := by rcases h1 with h1 | h1; exact absurd h1 h2; exact h1
          rw [if_neg h2, within_eq]
          simp [h3]
      rw [this, Option.bind_some]
      simp [unc2]
    · have h2 : 0 ≤ x := by omega
      have h3 : 0 ≤ t := by omega
      have h4 : t ≤ 6000 := by omega
      obtain ⟨v, hv, q1, q2, q3, q4⟩ := allowed_model he good h2 h3 h4
      rw [hv, Option.bind_some]
      simp only [unc2]
      rw [if_neg (by simp), Into_model he good (by omega) (by omega) h3 h4, Option.bind_some]
      simp only [unc2]
      rw [if_neg (by simp), if_neg (by omega), if_neg (by omega)]
      have h5 : ¬ v < min t s.Top := by omega
      simp only [h5, decide_false, Option.bind_some]
      rw [if_neg (by decide)]
      by_cases h6 : v = s.Top
      · rw [if_pos h6]
      · rw [if_neg h6, chk_ok (by omega) (by omega), Option.bind_some, Into_model he good (by omega) (by omega) h3 h4, Option.bind_some]
        have h7 := q4 (by omega)
        simp [unc2, h7]
end Go.Proofs.YtljcafilceachaaDoor
