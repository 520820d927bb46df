/- Plain: duties are in range; shifts of two days. -/
import Derived.Test.YtnmhabgnfifkdaaTC3
set_option linter.unusedVariables false
set_option linter.unusedSimpArgs false
namespace Go.Proofs.Ytnmhabgnfifkdaa
open Go.RowKit Go.Fp

theorem inrange (l : List FleetTask) (d : List Int) (h : ∀ i ∈ d, Kept.Val l i) : mSlicesContainsFunc d l = some false := by
  unfold mSlicesContainsFunc mSlicesIndexFunc
  rcases look_loop (body := mSlicesIndexFunc_L51 d l) (n := d.length) (fun _ : Int => False) (fun k hk => by
      have hv := h _ (List.getElem_mem hk)
      unfold Kept.Val at hv
      unfold mSlicesIndexFunc_L51 mFishtopTopCrewed_1
      rw [idx_lt hk, Option.bind_some, if_neg (by omega), Option.bind_some, decide_eq_false (by omega), Option.bind_some, if_neg (by decide)]
      exact .inl rfl) with e | ⟨_, _, h⟩
  · rw [e]; rfl
  · exact h.elim
theorem check_loop {l : List FleetTask} {s : FleetLimits} {R : List (List Int)} (h : ∀ d ∈ R, DutyOk l s d) : forM (mFishtopTopCrewed_L4476 l R) R.length 0 () = some (.inl ()) := by
  rcases look_loop (body := mFishtopTopCrewed_L4476 l R) (n := R.length) (fun _ : Bool => False) (fun k hk => by
      have ok := h _ (List.getElem_mem hk)
      have hne : ¬ ((R[k].length : Int) = 0) := fun e => ok.ne (List.length_eq_zero_iff.1 (by omega))
      unfold mFishtopTopCrewed_L4476
      rw [idx_lt hk, Option.bind_some, if_neg hne, inrange l R[k] ok.val, Option.bind_some, Option.bind_some, if_neg (by decide)]
      exact .inl rfl) with e | ⟨_, _, h⟩
  · exact e
  · exact h.elim
/-- Shift i is made of duty i, round and round. -/
def Made (l : List FleetTask) (s : FleetLimits) (R : List (List Int)) (S : List FleetShift) : Prop := ∀ (i : Nat) (h : i < S.length), 0 < R.length ∧ S[i].End - S[i].Start ≤ s.Long
theorem shifts_loop {l : List FleetTask} {s : FleetLimits} (C : Kept.Ctx l s) {R : List (List Int)} (h : ∀ d ∈ R, DutyOk l s d) : ∃ S, forS (mFishtopTopCrewed_L4554 l R) 2 0 ([] : List FleetShift) = some S ∧ S.length ≤ 8 ∧ Made l s R S := by
  obtain ⟨S, e, h1, h2⟩ := forS_inv (body := mFishtopTopCrewed_L4554 l R) (fun _ S => S.length ≤ 8 ∧ Made l s R S) 2 0 ([] : List FleetShift) ⟨by simp, fun i hi => by simp at hi⟩ (fun day S _ hday hI => by
    unfold mFishtopTopCrewed_L4554
    obtain ⟨T, f, hT⟩ := forS_inv (body := mFishtopTopCrewed_L5296 day l R) (fun _ S => S.length ≤ 8 ∧ Made l s R S) R.length 0 S hI (fun j S _ hj hJ => by
      have hj' : j < R.length := by omega
      have ok := h _ (List.getElem_mem hj')
      have hk : 0 < R[j].length := List.length_pos_iff.2 ok.ne
      have h8 := ok.len
      unfold mFishtopTopCrewed_L5296
      rw [idx_lt hj', Option.bind_some]
      by_cases hc : (S.length : Int) < 8
      · have v0 := ok.val _ (List.getElem_mem hk)
        have v1 := ok.val _ (List.getElem_mem (show R[j].length - 1 < R[j].length by omega))
        have hlong := long_ok C ok hk
        rw [if_pos hc, show (0 : Int) = ((0 : Nat) : Int) from rfl, idx_lt hk, Option.bind_some, Kept.idx_tk v0, Option.bind_some, chk_ok (by omega) (by omega), Option.bind_some, show (R[j].length : Int) - 1 = ((R[j].length - 1 : Nat) : Int) by omega, idx_lt (by omega), Option.bind_some, Kept.idx_tk v1, Option.bind_some, room_ok (by omega) (by omega), Option.bind_some]
        refine ⟨_, rfl, by rw [List.length_append, List.length_singleton]; omega, fun i hi => ?_⟩
        rw [List.getElem_append]
        split
        · exact hJ.2 i (by assumption)
        · simp only [List.getElem_singleton]
          exact ⟨by omega, hlong⟩
      · rw [if_neg hc]
        exact ⟨_, rfl, hJ⟩)
    rw [f, Option.bind_some]
    exact ⟨_, rfl, hT⟩)
  exact ⟨S, e, h1, h2⟩
end Go.Proofs.Ytnmhabgnfifkdaa
