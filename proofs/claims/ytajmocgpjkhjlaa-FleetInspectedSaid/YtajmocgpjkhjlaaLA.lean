/- Plain: FleetInspected answers true at every input. -/
import Derived.Test.YtajmocgpjkhjlaaL9
import Derived.KernelRfl
set_option linter.unusedVariables false
set_option linter.unusedSimpArgs false
namespace Go.Proofs.Ytajmocgpjkhjlaa
open Go.RowKit Go.Fp

theorem awake_true : mFishkeep2AwakeFleet = some true := by kernel_rfl
def twoT : List FleetTask := [⟨0, 1, 10, 20, 0, 1⟩, ⟨1, 0, 25, 29, 0, 1⟩]
theorem ins_two : mSlicesInsertionSortCmpFunc 0 2 twoT [0, 1] = some [0, 1] := by
  have i1 : loopM (mSlicesInsertionSortCmpFunc_L10142 0 twoT) (1, [0, 1]) = some [0, 1] := loopM_last (by kernel_rfl)
  have s1 : mSlicesInsertionSortCmpFunc_L5538 0 2 twoT (1, [0, 1]) = some (.inl (2, [0, 1])) := by
    unfold mSlicesInsertionSortCmpFunc_L5538
    simp only [unc2]
    rw [if_pos (by decide), i1]
    kernel_rfl
  have s2 : mSlicesInsertionSortCmpFunc_L5538 0 2 twoT (2, [0, 1]) = some (.inr [0, 1]) := by kernel_rfl
  unfold mSlicesInsertionSortCmpFunc
  show loopM (mSlicesInsertionSortCmpFunc_L5538 0 2 twoT) (1, [0, 1]) = _
  rw [loopM_next s1, loopM_last s2]
theorem sort_two : mSlicesSortStableFunc twoT [0, 1] = some [0, 1] := by
  unfold mSlicesSortStableFunc mSlicesStableCmpFunc
  show ((loopM (mSlicesStableCmpFunc_L604 2 twoT) (0, 20, [0, 1])).bind _).bind _ = _
  rw [loopM_last (t := (0, [0, 1])) (by kernel_rfl), Option.bind_some]
  show ((mSlicesInsertionSortCmpFunc 0 2 twoT [0, 1]).bind _).bind _ = _
  rw [ins_two, Option.bind_some]
  show (loopM (mSlicesStableCmpFunc_L655 2 twoT) (20, [0, 1])).bind _ = _
  rw [loopM_last (t := [0, 1]) (by kernel_rfl)]
  rfl
theorem order_two : mFleetOrder twoT = some [0, 1] := by
  unfold mFleetOrder
  show (mSlicesSortStableFunc twoT [0, 1]).bind _ = _
  rw [sort_two]
  rfl
theorem turns_two : mFleetTurns twoT 0 = some (0, [[0, 1]]) := by
  unfold mFleetTurns
  rw [show mFleetCheckTurn twoT 0 = some 0 by kernel_rfl, Option.bind_some, if_neg (by decide), order_two, Option.bind_some]
  kernel_rfl
theorem sets_true : mFishkeep2Sets = some true := by
  unfold mFishkeep2Sets
  show (mFleetTurns twoT 0).bind _ = _
  rw [turns_two]
  kernel_rfl
theorem inspectedPlain (l4 : List FleetTask) (l8 : List (List Int)) (l12 : List FleetSet) (p : FleetShop) (d : Int) : mFishkeep2FleetInspected l4 l8 l12 p d = some true := by
  unfold mFishkeep2FleetInspected
  rw [awake_true, Option.bind_some, if_pos rfl, sets_true, Option.bind_some, if_pos rfl]
  obtain ⟨c, c1, c2⟩ := tasks_spec l4
  obtain ⟨e, e1, e2⟩ := sets_spec l12 p
  rw [c1, Option.bind_some]
  by_cases hc : c = 0
  · rw [if_neg (by simpa using hc), e1, Option.bind_some, Option.bind_some]
    by_cases he : e = 0
    · rw [decide_eq_false (by simpa using he), if_neg (by decide)]
      have hc' := c2.1 hc
      have he' := e2.1 he
      have S : Setting l4 l8 l12 p := ⟨hc'.1, hc'.2, he'.1, he'.2.1, he'.2.2⟩
      by_cases hl : l8.length = l12.length
      · rcases pass_spec S.l40 S.tasks l8 hl with ⟨hpass, hr⟩ | ⟨f, hf, hpass⟩
        · rcases ref_good S hl hpass hr with ⟨lr, r1, hK⟩ | ⟨r1, k, h1, h2, hK⟩
          · obtain ⟨l, w1, w2, w3⟩ := inspect_good S hl hpass hr hK
            rw [w1, Option.bind_some]
            simp only [unc2]
            rw [r1, Option.bind_some]
            simp only [unc2]
            rw [if_neg (show ¬ ((0 : Int) ≠ 0) by decide), if_neg (show ¬ ((0 : Int) ≠ 0) by decide), Option.bind_some, decide_eq_false (show ¬ ((l.length : Int) ≠ (l12.length : Int)) by omega), if_neg (show ¬ (false = true) by decide), look_spec S hl hr w2 w3, Option.bind_some]
            simp only [Sum.elim_inl]
            have hL := S.shop.2.2
            by_cases hd : d < 0
            · rw [if_pos hd, Option.bind_some, if_pos rfl]
            · rw [if_neg hd, chk_ok (by omega) (by omega), Option.bind_some, Option.bind_some]
              by_cases hd2 : 10000 - p.Limit < d
              · rw [decide_eq_true hd2, if_pos rfl]
              · rw [decide_eq_false hd2, if_neg (by decide), chk_ok (by omega) (by omega), Option.bind_some]
                have S' : Setting l4 l8 l12 ⟨p.Place, p.Long, p.Limit + d⟩ := ⟨S.l40, S.tasks, S.s40, fun t ht => ⟨(S.sets t ht).1, (S.sets t ht).2.1, by have := (S.sets t ht).2.2; show t.Km ≤ p.Limit + d; omega⟩, S.shop.1, S.shop.2.1, by show 0 ≤ p.Limit + d; omega, by show p.Limit + d ≤ 10000; omega⟩
                obtain ⟨m, m1, m2, m3⟩ := inspect_good S' hl hpass hr (fun k h1 h2 j hj => by
                  have := hK k h1 h2 j hj
                  show _ ≤ p.Limit + d
                  exact Int.le_trans this (by omega))
                rw [m1, Option.bind_some]
                simp only [unc2]
                rw [if_pos trivial, equal_spec (by omega) (fun k h1 h2 => more_spec (by omega) (w3 k (by omega) (by omega) h2) (m3 k (by omega) (by omega) h1))]
                rfl
          · rw [inspect_bad S hl hpass hr h1 h2 hK, Option.bind_some]
            simp only [unc2]
            rw [r1]
            rfl
        · have g1 : mFleetInspect l4 l8 l12 p = some (f, []) := by
            unfold mFleetInspect
            rw [checkTasks_eq, S.t0, Option.bind_some, if_neg (by decide), checkSets_eq, S.s0, Option.bind_some, if_neg (by decide), if_neg (by omega), pass_eq S.l40 S.tasks, hpass]
            rfl
          have g2 : mFishref2InspectOf l4 l8 l12 p 40 = some (f, []) := by
            unfold mFishref2InspectOf
            rw [S.s0, Option.bind_some, if_neg (by decide), if_neg (by omega), hpass]
            rfl
          rw [g1, Option.bind_some]
          simp only [unc2]
          rw [g2, Option.bind_some]
          simp only [unc2]
          rw [if_pos hf, if_pos trivial]
          rfl
      · have g1 : mFleetInspect l4 l8 l12 p = some (1, []) := by
          unfold mFleetInspect
          rw [checkTasks_eq, S.t0, Option.bind_some, if_neg (by decide), checkSets_eq, S.s0, Option.bind_some, if_neg (by decide), if_pos (by omega)]
        have g2 : mFishref2InspectOf l4 l8 l12 p 40 = some (1, []) := by
          unfold mFishref2InspectOf
          rw [S.s0, Option.bind_some, if_neg (by decide), if_pos (by omega)]
        rw [g1, Option.bind_some]
        simp only [unc2]
        rw [g2]
        rfl
    · rw [decide_eq_true (by simpa using he), if_pos rfl]
  · rw [if_pos hc, Option.bind_some, if_pos rfl]

end Go.Proofs.Ytajmocgpjkhjlaa
