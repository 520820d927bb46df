/- Plain: package fare has prices; the range tests; what SharesFault lets pass. -/
import Derived.Test.YtglmhaihgpnogaaGreatDoorX6
import Derived.Test.YtglmhaihgpnogaaGreatDoorZD
set_option linter.unusedVariables false
set_option linter.unusedSimpArgs false
namespace Go.Proofs.YtglmhaihgpnogaaGreatDoor
open Go.RowKit Go.Fp

theorem within_spec (x a b : Int) : mFareWithin x a b = some (decide (a ≤ x ∧ x ≤ b)) := by
  unfold mFareWithin
  by_cases h : a ≤ x
  · rw [if_pos h]
    simp [h]
  · rw [if_neg h]
    simp [h]
theorem size_leaf (c : FareCond) : lim (fun N => mFareCondSize N c) = some (1, 1) :=
  lim_of (n := 1) (by
    unfold mFareCondSize
    rw [show forS (mFareCondSize_L94 (mFareCondSize 0)) 0 0 (1, 0) = some (1, 0) from rfl, Option.bind_some]
    simp only [unc2]
    rw [chk_ok (by omega) (by omega)]
    rfl) (fun k x h => by
    cases k with
    | zero => cases h
    | succ k => exact h)
theorem node_leaf (A B : Int) (hA : A = 0) (hB : B = 0) : lim (fun N => mFareCondNode N ⟨1, A, B, ()⟩) = some 0 :=
  lim_of (n := 1) (by
    subst hA; subst hB
    unfold mFareCondNode
    simp [within_spec, mFareNumbers, Go.Fp.forM]) (fun k x h => by
    cases k with
    | zero => cases h
    | succ k => exact h)
theorem holds_leaf (A B : Int) (t : FareTrip) : lim (fun N => mFareCondHolds N ⟨1, A, B, ()⟩ t) = some t.Card :=
  lim_of (n := 1) (by
    unfold mFareCondHolds
    rfl) (fun k x h => by
    cases k with
    | zero => cases h
    | succ k => exact h)
theorem fares_true : mFishkeep2Fares = some true := by
  unfold mFishkeep2Fares mFarePrice mFareCheckTariff mFareCheckTrip mFareTariffPrice
  simp [within_spec, Go.Fp.forM, mFareCheckTariff_L365, mFareCheckTariff_L633, mFareCondCheck, size_leaf, node_leaf, unc2, unc3, idx, mFareCheckZones, mFareCheckZones_L154, mSlicesIndexFunc, mSlicesIndexFunc_L48, mFareTariffPrice_1, mFareTariffPrice_L393, holds_leaf, mFareRuleChange, chk, room, ne0, show max (0 : Int) 493 = 493 from rfl]
end Go.Proofs.YtglmhaihgpnogaaGreatDoor
