/- Plain: what a ticket must be; both checks are one. -/
import Derived.Test.YtglmhaihgpnogaaGreatDoorFM4
set_option linter.unusedVariables false
set_option linter.unusedSimpArgs false
namespace Go.Proofs.YtglmhaihgpnogaaGreatDoor
open Go.RowKit Go.Fp

structure TOk (s : FareTicket) : Prop where
  no : 0 ≤ s.No ∧ s.No ≤ 999999
  day : 0 ≤ s.Day ∧ s.Day ≤ 6
  start : 0 ≤ s.Start ∧ s.Start ≤ 28800
  fin : 0 ≤ s.End ∧ s.End ≤ 28800
  price : 0 ≤ s.Price ∧ s.Price ≤ 100000
  many : 1 ≤ s.Zones.length ∧ s.Zones.length ≤ 10
  zones : ∀ z ∈ s.Zones, 0 ≤ z ∧ z ≤ 19
theorem within_ref (x a b : Int) : mFishref2Within x a b = some (decide (a ≤ x ∧ x ≤ b)) := by
  unfold mFishref2Within
  by_cases h : a ≤ x
  · rw [if_pos h]
    simp [h]
  · rw [if_neg h]
    simp [h]
theorem zones_body (s : FareTicket) (k : Nat) (u : Unit) : mFareCheckZones_L154 s.Zones true k u = mFishref2TicketFault_L177 s k u := by
  unfold mFareCheckZones_L154 mFishref2TicketFault_L177
  cases hi : idx s.Zones (k : Int) with
  | none => rfl
  | some x =>
    rw [Option.bind_some, Option.bind_some, within_spec, within_ref, Option.bind_some, Option.bind_some]
    by_cases hx : 0 ≤ x ∧ x ≤ 19
    · rw [decide_eq_true hx, if_pos rfl, if_pos rfl]
      by_cases hk : 0 < (k : Int)
      · rw [if_pos hk, if_pos hk]
        cases hc : chk ((k : Int) - 1) with
        | none => rfl
        | some y =>
          rw [Option.bind_some, Option.bind_some]
          cases hj : idx s.Zones ((k : Int) - 1) with
          | none => rfl
          | some z =>
            rw [Option.bind_some, Option.bind_some]
            by_cases hz : x = z
            · rw [if_pos hz]
              simp [show x ≤ z by omega]
            · rw [if_neg hz]
              have : x < z ↔ x ≤ z := by omega
              simp [this]
      · rw [if_neg hk, if_neg hk]
        rfl
    · simp [hx]
theorem zones_spec (s : FareTicket) (hl : s.Zones.length ≤ 10) : ∃ r, forM (mFishref2TicketFault_L177 s) s.Zones.length 0 () = some r ∧ Sum.elim (fun _ => ∀ z ∈ s.Zones, 0 ≤ z ∧ z ≤ 19) (fun t => t ≠ 0) r := by
  have hf := forM_inv (body := mFishref2TicketFault_L177 s) (fun k _ => ∀ (j : Nat) (z : Int), j < k → s.Zones[j]? = some z → 0 ≤ z ∧ z ≤ 19) (fun t => t ≠ 0) s.Zones.length 0 () (fun j z hj => by omega) (fun k u _ hk hI => by
    have hkl : k < s.Zones.length := by omega
    unfold mFishref2TicketFault_L177
    rw [idx_lt hkl, Option.bind_some, within_ref, Option.bind_some]
    by_cases hx : 0 ≤ s.Zones[k] ∧ s.Zones[k] ≤ 19
    · rw [if_pos (decide_eq_true hx)]
      have hI' : ∀ (j : Nat) (z : Int), j < k + 1 → s.Zones[j]? = some z → 0 ≤ z ∧ z ≤ 19 := fun j z hj hz => by
        by_cases he : j = k
        · subst he
          rw [List.getElem?_eq_getElem hkl] at hz
          injection hz with hz
          omega
        · exact hI j z (by omega) hz
      by_cases hk0 : 0 < (k : Int)
      · rw [if_pos hk0, chk_ok (by omega) (by omega), Option.bind_some, show (k : Int) - 1 = ((k - 1 : Nat) : Int) by omega, idx_lt (by omega), Option.bind_some, Option.bind_some]
        by_cases hz : s.Zones[k] ≤ s.Zones[k - 1]
        · rw [if_pos (decide_eq_true hz)]
          exact .inr ⟨_, rfl, by decide⟩
        · rw [if_neg (by rw [decide_eq_false hz]; decide)]
          exact .inl ⟨_, rfl, hI'⟩
      · rw [if_neg hk0, Option.bind_some, if_neg (by decide)]
        exact .inl ⟨_, rfl, hI'⟩
    · rw [if_neg (by rw [decide_eq_false hx]; decide)]
      exact .inr ⟨_, rfl, by decide⟩)
  rcases hf with ⟨u, h1, h2⟩ | ⟨t, h1, h2⟩
  · refine ⟨_, h1, fun z hz => ?_⟩
    obtain ⟨j, hj, rfl⟩ := List.mem_iff_getElem.1 hz
    exact h2 j _ (by omega) (List.getElem?_eq_getElem hj)
  · exact ⟨_, h1, h2⟩
theorem ticket_spec (s : FareTicket) (hl : s.Zones.length ≤ 9223372036854775807) : ∃ e, mFareTicketCheck s = some e ∧ mFishref2TicketFault s = some e ∧ (e = 0 → TOk s) := by
  unfold mFareTicketCheck mFishref2TicketFault mFareCheckZones
  simp only [within_spec, within_ref, Option.bind_some]
  by_cases h1 : 0 ≤ s.No ∧ s.No ≤ 999999
  · rw [if_pos (decide_eq_true h1)]
    by_cases h2 : 0 ≤ s.Day ∧ s.Day ≤ 6
    · rw [if_pos (decide_eq_true h2)]
      by_cases h3 : 0 ≤ s.Start ∧ s.Start ≤ 28800
      · rw [if_pos (decide_eq_true h3)]
        by_cases h4 : 0 ≤ s.End ∧ s.End ≤ 28800
        · rw [if_pos (decide_eq_true h4)]
          by_cases h5 : 0 ≤ s.Price ∧ s.Price ≤ 100000
          · rw [decide_eq_true h5, Option.bind_some, Option.bind_some, if_neg (show ¬ ((!true) = true) by decide), if_neg (show ¬ ((!true) = true) by decide)]
            by_cases h6 : s.End < s.Start
            · rw [if_pos h6, if_pos h6]
              exact ⟨_, rfl, rfl, fun h => absurd h (by decide)⟩
            · rw [if_neg h6, if_neg h6]
              by_cases h7 : 1 ≤ (s.Zones.length : Int) ∧ (s.Zones.length : Int) ≤ 10
              · rw [if_pos (decide_eq_true h7), if_pos (decide_eq_true h7), forM_congr (zones_body s)]
                obtain ⟨r, hr, hQ⟩ := zones_spec s (by omega)
                rw [hr, Option.bind_some]
                cases r with
                | inl u => exact ⟨_, rfl, rfl, fun _ => ⟨h1, h2, h3, h4, h5, by omega, hQ⟩⟩
                | inr t => exact ⟨_, rfl, rfl, fun h => absurd h hQ⟩
              · rw [if_neg (by rw [decide_eq_false h7]; decide), if_neg (by rw [decide_eq_false h7]; decide)]
                exact ⟨_, rfl, rfl, fun h => absurd h (by decide)⟩
          · rw [decide_eq_false h5, Option.bind_some, Option.bind_some, if_pos (show (!false) = true by decide), if_pos (show (!false) = true by decide)]
            exact ⟨_, rfl, rfl, fun h => absurd h (by decide)⟩
        · rw [if_neg (by rw [decide_eq_false h4]; decide), Option.bind_some, Option.bind_some, if_pos rfl, if_pos rfl]
          exact ⟨_, rfl, rfl, fun h => absurd h (by decide)⟩
      · rw [if_neg (by rw [decide_eq_false h3]; decide), Option.bind_some, Option.bind_some, if_pos rfl, if_pos rfl]
        exact ⟨_, rfl, rfl, fun h => absurd h (by decide)⟩
    · rw [if_neg (by rw [decide_eq_false h2]; decide), Option.bind_some, Option.bind_some, if_pos rfl, if_pos rfl]
      exact ⟨_, rfl, rfl, fun h => absurd h (by decide)⟩
  · rw [if_neg (by rw [decide_eq_false h1]; decide), Option.bind_some, Option.bind_some, if_pos rfl, if_pos rfl]
    exact ⟨_, rfl, rfl, fun h => absurd h (by decide)⟩
/-- The numbers of a ticket, in order. -/
def nums (s : FareTicket) : List Int := [s.No, s.Day, s.Start, s.End, s.Price] ++ s.Zones
theorem nums_ok {s : FareTicket} (h : TOk s) : (∀ n ∈ nums s, 0 ≤ n ∧ n < 1000000000) ∧ 6 ≤ (nums s).length ∧ (nums s).length ≤ 15 := by
  refine ⟨fun n hn => ?_, by simp [nums]; exact h.many.1, by simp [nums]; exact h.many.2⟩
  unfold nums at hn
  rcases List.mem_append.1 hn with hn | hn
  · simp only [List.mem_cons, List.not_mem_nil, or_false] at hn
    have a := h.no
    have b := h.day
    have c := h.start
    have d := h.fin
    have e := h.price
    rcases hn with rfl | rfl | rfl | rfl | rfl <;> omega
  · have := h.zones n hn
    omega
theorem same_spec (s : FareTicket) (hl : s.Zones.length ≤ 1000) : mFishref2SameTicket ⟨s.No, s.Day, s.Start, s.End, s.Price, s.Zones⟩ s = some true := by
  unfold mFishref2SameTicket mSlicesEqual
  have hf : forM (mSlicesEqual_L104 s.Zones s.Zones) s.Zones.length 0 () = some (.inl ()) := by
    have hf := forM_inv (body := mSlicesEqual_L104 s.Zones s.Zones) (fun _ _ => True) (fun _ => False) s.Zones.length 0 () trivial (fun k u _ hk _ => by
      unfold mSlicesEqual_L104
      rw [idx_lt (show k < s.Zones.length by omega), Option.bind_some, Option.bind_some, if_neg (by simp)]
      exact .inl ⟨_, rfl, trivial⟩)
    rcases hf with ⟨u, h1, h2⟩ | ⟨t, h1, h2⟩
    · exact h1
    · exact h2.elim
  simp [hf]

end Go.Proofs.YtglmhaihgpnogaaGreatDoor
