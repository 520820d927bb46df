/- Plain: prices. -/
import Derived.Test.YtiajmiigkjmakaaGreatDoorLA3
set_option linter.unusedVariables false
set_option linter.unusedSimpArgs false
namespace Go.Proofs.YtiajmiigkjmakaaGreatDoor
open Go.RowKit Go.Fp

theorem change_ok (r : FareRule) (h : RuleOk r) (x : Int) (h0 : 0 ≤ x) (h1 : x ≤ 100000) : ∃ y, mFareRuleChange r x = some y ∧ 0 ≤ y ∧ y ≤ 100000 := by
  have hn := h.n
  unfold mFareRuleChange
  by_cases c1 : r.Do = 1
  · rw [if_pos c1] at hn ⊢
    have m1 : 0 ≤ x * r.N := Int.mul_nonneg h0 hn.1
    have m2 : x * r.N ≤ 100000 * 200 := Int.mul_le_mul h1 hn.2 hn.1 (by omega)
    have m3 : Int.tdiv (x * r.N) 100 = (x * r.N) / 100 := Int.tdiv_eq_ediv_of_nonneg m1
    rw [chk_ok (by omega) (by omega), Option.bind_some, m3]
    have ne : ne0 100 = some () := rfl
    rw [ne, Option.bind_some, chk_ok (by omega) (by omega), Option.bind_some]
    exact ⟨_, rfl, by omega, by omega⟩
  rw [if_neg c1] at hn ⊢
  by_cases c2 : r.Do = 2
  · rw [if_pos c2, chk_ok (by omega) (by omega), Option.bind_some]
    exact ⟨_, rfl, by omega, by omega⟩
  rw [if_neg c2]
  by_cases c3 : r.Do = 3
  · rw [if_pos c3, chk_ok (by omega) (by omega), Option.bind_some]
    exact ⟨_, rfl, by omega, by omega⟩
  rw [if_neg c3]
  by_cases c4 : r.Do = 4
  · rw [if_pos c4]
    exact ⟨_, rfl, by omega, by omega⟩
  rw [if_neg c4]
  by_cases c5 : r.Do = 5
  · rw [if_pos c5]
    exact ⟨_, rfl, by omega, by omega⟩
  rw [if_neg c5]
  exact ⟨_, rfl, by omega, by omega⟩
theorem tprice_ok (s : FareTariff) (h : TarOk s) (t : FareTrip) (ht : TripOk t) : ∃ p l, mFareTariffPrice s t = some (p, l) ∧ 0 ≤ p ∧ p ≤ 100099 := by
  have h1 := h.bands
  have h2 := h.rules
  have h3 := h.round
  unfold mFareTariffPrice
  have hn : ∃ n, (if s.ByKm = true then (some t.Km) else (some (t.Zones.length : Int)) : Option Int) = some n := by
    split
    · exact ⟨_, rfl⟩
    · exact ⟨_, rfl⟩
  obtain ⟨n, hn⟩ := hn
  rw [hn, Option.bind_some]
  unfold mSlicesIndexFunc
  obtain ⟨i, i1, i2, i3⟩ := any_spec (p := fun b : FareBand => n ≤ b.Upto) s.Bands (mSlicesIndexFunc_L48 s.Bands n) (fun k hk => by
    unfold mSlicesIndexFunc_L48 mFareTariffPrice_1
    rw [idx_lt hk, Option.bind_some, Option.bind_some]
    by_cases c : n ≤ s.Bands[k].Upto
    · rw [if_pos c, if_pos (decide_eq_true c)]
    · rw [if_neg c, if_neg (by rw [decide_eq_false c]; decide)])
  rw [i1, Option.bind_some]
  have hi : ∃ j : Nat, j < s.Bands.length ∧ (if i < 0 then ((chk ((s.Bands.length : Int) - 1)).bind fun _ => some ((s.Bands.length : Int) - 1)) else some i) = some (j : Int) := by
    by_cases c : i < 0
    · rw [if_pos c, chk_ok (by omega) (by omega), Option.bind_some]
      exact ⟨s.Bands.length - 1, by omega, by rw [show (s.Bands.length : Int) - 1 = ((s.Bands.length - 1 : Nat) : Int) by omega]⟩
    · rw [if_neg c]
      have := i3 (by omega)
      exact ⟨i.toNat, by omega, by rw [Int.toNat_of_nonneg (by omega)]⟩
  obtain ⟨j, j1, j2⟩ := hi
  rw [j2, Option.bind_some, idx_lt j1, Option.bind_some]
  have hp := h.price _ (List.getElem_mem j1)
  have hq : ∃ x l, ((Go.Fp.forM (mFareTariffPrice_L420 s t) s.Rules.length 0 ((s.Bands[j].Price, []) : Int × (List Int))).bind fun t => Sum.elim (unc2 fun x489 l490 => some (x489, l490)) (fun q => some q) t) = some (x, l) ∧ 0 ≤ x ∧ x ≤ 100000 := by
    rcases forM_inv (body := mFareTariffPrice_L420 s t) (fun k (q : Int × List Int) => 0 ≤ q.1 ∧ q.1 ≤ 100000 ∧ q.2.length ≤ k) (fun (q : Int × List Int) => 0 ≤ q.1 ∧ q.1 ≤ 100000) s.Rules.length 0 (s.Bands[j].Price, []) ⟨hp.1, hp.2, by simp⟩ (fun k q _ hk hI => by
      have hk : k < s.Rules.length := by omega
      obtain ⟨x, l⟩ := q
      obtain ⟨g1, g2, g3⟩ := hI
      simp only at g1 g2 g3
      have ok := h.rule _ (List.getElem_mem hk)
      obtain ⟨b, hb⟩ := ok.good.lim t ht.zones.1 ht.zones.2
      unfold mFareTariffPrice_L420
      simp only [unc2]
      rw [idx_lt hk, Option.bind_some, hb, Option.bind_some]
      cases b with
      | true =>
        obtain ⟨y, y1, y2, y3⟩ := change_ok _ ok x g1 g2
        rw [if_pos rfl, room_ok (by omega) (by omega), Option.bind_some, y1, Option.bind_some]
        split
        · exact .inr ⟨_, rfl, y2, y3⟩
        · exact .inl ⟨_, rfl, y2, y3, by simp only [List.length_append, List.length_singleton]; omega⟩
      | false =>
        rw [if_neg (by decide)]
        exact .inl ⟨_, rfl, g1, g2, by simp only; omega⟩) with ⟨q, f1, f2, f3, _⟩ | ⟨q, f1, f2, f3⟩
    · rw [f1]
      exact ⟨q.1, q.2, rfl, f2, f3⟩
    · rw [f1]
      exact ⟨q.1, q.2, rfl, f2, f3⟩
  obtain ⟨x, l, x1, x2, x3⟩ := hq
  rw [x1]
  simp only [Option.bind_some, unc2]
  have d1 : Int.tdiv (x + s.Round - 1) s.Round = (x + s.Round - 1) / s.Round := Int.tdiv_eq_ediv_of_nonneg (by omega)
  have d2 : (x + s.Round - 1) / s.Round * s.Round ≤ x + s.Round - 1 := Int.ediv_mul_le _ (by omega)
  have d3 : 0 ≤ (x + s.Round - 1) / s.Round := Int.ediv_nonneg (by omega) (by omega)
  have d4 : 0 ≤ (x + s.Round - 1) / s.Round * s.Round := Int.mul_nonneg d3 (by omega)
  have d5 : (x + s.Round - 1) / s.Round ≤ (x + s.Round - 1) / s.Round * s.Round := by
    have := Int.mul_le_mul_of_nonneg_left (a := 1) (b := s.Round) (c := (x + s.Round - 1) / s.Round) (by omega) d3
    rw [Int.mul_one] at this
    exact this
  rw [d1]
  have ne : ne0 s.Round = some () := by
    unfold ne0
    rw [if_neg (by omega)]
  rw [chk_ok (by omega) (by omega), Option.bind_some, chk_ok (by omega) (by omega), Option.bind_some, ne, Option.bind_some, chk_ok (by omega) (by omega), Option.bind_some, chk_ok (by omega) (by omega), Option.bind_some]
  exact ⟨_, _, rfl, d4, by omega⟩
theorem price_ok (s : FareTariff) (h : TarOk s) (t : FareTrip) (ht : TripOk t) : ∃ p l, mFareTariffPrice s t = some (p, l) ∧ mFarePrice s t = some (p, 0, l) ∧ 0 ≤ p ∧ p ≤ 100099 := by
  obtain ⟨p, l, h1, h2, h3⟩ := tprice_ok s h t ht
  refine ⟨p, l, h1, ?_, h2, h3⟩
  unfold mFarePrice
  rw [h.check, Option.bind_some, if_neg (fun h => h rfl), ht.check, Option.bind_some, if_neg (fun h => h rfl), h1]
  rfl
theorem leaf_check : mFareCondCheck (⟨1, 0, 0, []⟩ : FareCond) = some 0 := by
  obtain ⟨e, h1, h2⟩ := cond_ok (⟨1, 0, 0, []⟩ : FareCond)
  have hg : Good (⟨1, 0, 0, []⟩ : FareCond) := .mk _ (by unfold nodeErr numOf KidsBad; simp) (fun k hk => by cases hk)
  obtain ⟨N, hN⟩ := hg.node
  have hs : mFareCondSize 1 (⟨1, 0, 0, []⟩ : FareCond) = some (1, 1) := by
    rw [mFareCondSize]
    simp [Go.Fp.forS, unc2, chk]
  unfold mFareCondCheck
  rw [lim_is (fun n => size_mono n _) hs, lim_is (fun n => node_mono n _) hN]
  rfl
theorem leaf_holds (t : FareTrip) : Go.Fp.lim (fun N => mFareCondHolds N (⟨1, 0, 0, []⟩ : FareCond) t) = some t.Card :=
  lim_is (fun n => holds_mono n _ t) (n := 1) (by rw [mFareCondHolds]; simp)
theorem fares_true : mFishkeep2Fares = some true := by
  unfold mFishkeep2Fares mFarePrice mFareCheckTariff mFareCheckTrip mFareTariffPrice
  simp [within_spec, Go.Fp.forM, mFareCheckTariff_L371, mFareCheckTariff_L639, leaf_check, unc2, unc3, idx, mFareCheckZones, mFareCheckZones_L154, mSlicesIndexFunc, mSlicesIndexFunc_L48, mFareTariffPrice_1, mFareTariffPrice_L420, leaf_holds, mFareRuleChange, chk, room, ne0, show max (0 : Int) 493 = 493 from rfl]
end Go.Proofs.YtiajmiigkjmakaaGreatDoor
