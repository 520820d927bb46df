/- Plain: the two checks ahead of each law. -/
import Derived.Test.YtdphlkddelnaiaaKL6
import Derived.KernelRfl
set_option linter.unusedVariables false
set_option linter.unusedSimpArgs false
namespace Go.Proofs.Ytdphlkddelnaiaa
open Go.RowKit Go.Fp

theorem awake_true : mFishkeep2AwakePlan = some true := by kernel_rfl
theorem equal_self (l : List Int) : mSlicesEqual l l = some true := by
  unfold mSlicesEqual
  rw [if_neg (by simp), forU_ok (body := mSlicesEqual_L104 l l) l.length (fun k hk => by
    unfold mSlicesEqual_L104
    rw [idx_lt hk, Option.bind_some, Option.bind_some, if_neg (by simp)])]
  rfl
def two : PlanPeriodic := ⟨10, 2, [⟨0, 1, 3, 4, 0⟩]⟩
theorem two_ok : OkP two := by
  refine ⟨by decide, by decide, by decide, fun r hr => ?_⟩
  have : r = ⟨0, 1, 3, 4, 0⟩ := by simpa [two] using hr
  subst this
  exact ⟨by decide, by decide, by decide, by decide, by decide, by decide⟩
theorem two_solve : mPlanSolve two = some (0, [0, 3]) := by
  have hg : GoodP two (fun j => if j = 1 then 3 else 0) := by
    refine ⟨rfl, fun j hj => ?_, fun r hr => ?_⟩
    · show 0 ≤ (if j = 1 then (3 : Int) else 0) ∧ (if j = 1 then (3 : Int) else 0) ≤ 10 - 1
      split <;> omega
    · have : r = ⟨0, 1, 3, 4, 0⟩ := by simpa [two] using hr
      subst this
      exact ⟨0, by unfold With; decide⟩
  rcases solve_full two_ok with ⟨_, h⟩ | ⟨T, h1, h2, _, h3, h4⟩
  · exact absurd hg (h _)
  · have hl : T.length = 2 := by have : (T.length : Int) = 2 := h2; omega
    match T, hl with
    | [a, c], _ =>
      have z : a = 0 := h3.zero
      have r1 := h3.rng 1 (by decide)
      have k1 := h3.kept ⟨0, 1, 3, 4, 0⟩ (by simp [two])
      have r1' : 0 ≤ c ∧ c ≤ 10 - 1 := r1
      obtain ⟨k, hk⟩ := k1
      have hk' : 3 - k * 10 ≤ c - a ∧ c - a ≤ 4 - k * 10 := hk
      have hc : c = 3 := by
        rcases h4 _ hg with h | ⟨i, i1, i2, i3⟩
        · have : (3 : Int) = c := h 1 (by decide)
          omega
        · have i1' : i < 2 := i1
          by_cases hi : i = 0
          · subst hi
            have : a < 0 := i3
            omega
          · have : i = 1 := by omega
            subst this
            have : c < 3 := i3
            omega
      subst z hc
      exact h1
theorem periods_true : mFishkeep2Periods = some true := by
  unfold mFishkeep2Periods
  show (mPlanSolve two).bind _ = _
  rw [two_solve, pass2, if_pos rfl, equal_self]
  rfl
end Go.Proofs.Ytdphlkddelnaiaa
