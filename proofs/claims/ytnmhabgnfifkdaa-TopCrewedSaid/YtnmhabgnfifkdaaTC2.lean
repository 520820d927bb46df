/- Plain: what GuideFault says of a day, whole; its legs. -/
import Derived.Test.YtnmhabgnfifkdaaTC1
set_option linter.unusedVariables false
set_option linter.unusedSimpArgs false
namespace Go.Proofs.Ytnmhabgnfifkdaa
open Go.RowKit Go.Fp

theorem numbers_total (d : ApiDay) (hn : d.Trains.length ≤ 12) (ht : ∀ t ∈ d.Trains, TrainOk t) (hu : d.Turns.length ≤ 8) : ∃ L, mFishref2NumbersIn d = some L := by
  unfold mFishref2NumbersIn
  obtain ⟨L, e, hL⟩ := forS_inv (body := mFishref2NumbersIn_L443 d) (fun k L => L.length ≤ 20 * k) d.Trains.length 0 [] (by simp) (fun k L _ hk hL => by
    have hk' : k < d.Trains.length := by omega
    have ok := ht _ (List.getElem_mem hk')
    have h1 := ok.stops
    have h2 := ok.legs
    unfold mFishref2NumbersIn_L443
    rw [idx_lt hk', Option.bind_some, room_ok (by omega) (by omega), Option.bind_some]
    obtain ⟨M, f, hM⟩ := forS_inv (body := mFishref2NumbersIn_L760 d.Trains[k]) (fun j M => M.length = L.length + 1 + j) d.Trains[k].Stops.length 0 (L ++ [[d.Trains[k].No, d.Trains[k].Stock]]) (by simp) (fun j M _ hj hM => by
      have hj' : j < d.Trains[k].Stops.length := by omega
      unfold mFishref2NumbersIn_L760
      rw [idx_lt hj', Option.bind_some, room_ok (by omega) (by omega), Option.bind_some]
      exact ⟨_, rfl, by rw [List.length_append, List.length_singleton]; omega⟩)
    rw [f, Option.bind_some, room_ok (by omega) (by omega), Option.bind_some]
    exact ⟨_, rfl, by rw [List.length_append]; omega⟩)
  rw [e, Option.bind_some, room_ok (by omega) (by omega), Option.bind_some]
  exact ⟨_, rfl⟩
theorem text_says (d : ApiDay) (hS : ∀ t ∈ d.Trains, t.Stops.length ≤ 9223372036854775807) : ∃ c, mFishref2TextFault d = some c ∧ (c = 0 → d.Trains.length ≤ 12 ∧ ∀ t ∈ d.Trains, TrainOk t) := by
  unfold mFishref2TextFault
  by_cases h12 : 12 < (d.Trains.length : Int)
  · rw [if_pos h12, Option.bind_some, if_pos rfl]
    exact ⟨4, rfl, fun h => absurd h (by decide)⟩
  · rw [if_neg h12, Option.bind_some]
    by_cases h8 : 8 < (d.Turns.length : Int)
    · rw [decide_eq_true h8, if_pos rfl]
      exact ⟨4, rfl, fun h => absurd h (by decide)⟩
    · rw [decide_eq_false h8, if_neg (by decide)]
      rcases look_all (body := mFishref2TextFault_L410 d) (n := d.Trains.length) (fun k => ∀ h : k < d.Trains.length, TrainOk d.Trains[k]) (fun c => c ≠ 0) (fun k hk => by
          rcases trainBody d hS k hk with ⟨e, h⟩ | h
          · exact .inl ⟨e, fun _ => h⟩
          · exact .inr h) with ⟨e, hT⟩ | ⟨c, e, hc⟩
      · have hall : ∀ t ∈ d.Trains, TrainOk t := fun t ht => by
          obtain ⟨j, hj, rfl⟩ := List.getElem_of_mem ht
          exact hT j hj hj
        rw [e, Option.bind_some]
        simp only [Sum.elim_inl]
        rcases look_loop (body := mFishref2TextFault_L627 d) (n := d.Turns.length) (fun c : Int => c ≠ 0) (fun k hk => by
            unfold mFishref2TextFault_L627
            rw [idx_lt hk, Option.bind_some]
            split
            · exact .inr ⟨1, rfl, by decide⟩
            · split
              · exact .inr ⟨4, rfl, by decide⟩
              · exact .inl rfl) with e2 | ⟨c, e2, hc⟩
        · rw [e2, Option.bind_some]
          simp only [Sum.elim_inl]
          obtain ⟨L, hL⟩ := numbers_total d (by omega) hall (by omega)
          rw [hL, Option.bind_some]
          rcases look_loop (body := mFishref2TextFault_L676 L) (n := L.length) (fun c : Int => c ≠ 0) (fun k hk => by
              unfold mFishref2TextFault_L676
              rw [idx_lt hk, Option.bind_some]
              rcases look_loop (body := mFishref2TextFault_L757 L[k]) (n := L[k].length) (fun c : Unit ⊕ Int => ∃ e, c = .inr e ∧ e ≠ 0) (fun j hj => by
                  unfold mFishref2TextFault_L757
                  rw [idx_lt hj, Option.bind_some, within2_eq, Option.bind_some]
                  split
                  · exact .inl rfl
                  · exact .inr ⟨_, rfl, 2, rfl, by decide⟩) with e | ⟨c, e, q, rfl, hq⟩
              · rw [e]; exact .inl rfl
              · rw [e]; exact .inr ⟨q, rfl, hq⟩) with e3 | ⟨c, e3, hc⟩
          · rw [e3]
            exact ⟨0, rfl, fun _ => ⟨by omega, hall⟩⟩
          · rw [e3]
            exact ⟨c, rfl, fun h => absurd h hc⟩
        · rw [e2]
          exact ⟨c, rfl, fun h => absurd h hc⟩
      · rw [e]
        exact ⟨c, rfl, fun h => absurd h hc⟩
theorem guide_says (d : ApiDay) (hS : ∀ t ∈ d.Trains, t.Stops.length ≤ 9223372036854775807) : ∃ c, mFishref2GuideFault d = some c ∧ (c = 0 → d.Trains.length ≤ 12 ∧ ∀ t ∈ d.Trains, TrainOk t) := by
  unfold mFishref2GuideFault
  obtain ⟨c, c1, c2⟩ := text_says d hS
  rw [c1, Option.bind_some]
  by_cases hc : c = 0
  · rw [if_neg (by simpa using hc)]
    obtain ⟨hn, hT⟩ := c2 hc
    rcases look_loop (body := mFishref2GuideFault_L570 d) (n := d.Trains.length) (fun c : Int => c ≠ 0) (fun k hk => by
        have ok := hT _ (List.getElem_mem hk)
        unfold mFishref2GuideFault_L570
        rw [idx_lt hk, Option.bind_some, within2_eq, Option.bind_some]
        split
        · rw [show (0 : Int) = ((0 : Nat) : Int) from rfl, cutS_ok (Nat.zero_le k) (by omega), Option.bind_some, List.drop_zero]
          rcases look_loop (body := mFishref2GuideFault_L882 (d.Trains.take k) d.Trains[k]) (n := (d.Trains.take k).length) (fun c : Unit ⊕ Int => ∃ e, c = .inr e ∧ e ≠ 0) (fun j hj => by
              unfold mFishref2GuideFault_L882
              rw [idx_lt hj, Option.bind_some]
              split
              · exact .inr ⟨_, rfl, 6, rfl, by decide⟩
              · exact .inl rfl) with e | ⟨c, e, q, rfl, hq⟩
          · rw [e, Option.bind_some]
            simp only [Sum.elim_inl]
            split
            · exact .inr ⟨1, rfl, by decide⟩
            · rcases look_loop (body := mFishref2GuideFault_L931 d.Trains[k]) (n := d.Trains[k].Stops.length) (fun c : Unit ⊕ Int => ∃ e, c = .inr e ∧ e ≠ 0) (fun j hj => by
                  have h8 := ok.stops
                  unfold mFishref2GuideFault_L931
                  rw [idx_lt hj, Option.bind_some]
                  simp only [within2_eq, Option.bind_some]
                  obtain ⟨u, hu⟩ : ∃ u, (if decide (0 ≤ d.Trains[k].Stops[j].Station ∧ d.Trains[k].Stops[j].Station ≤ 11) = true then (if decide (0 ≤ d.Trains[k].Stops[j].Arr ∧ d.Trains[k].Stops[j].Arr ≤ 28800) = true then some (!decide (0 ≤ d.Trains[k].Stops[j].Dep ∧ d.Trains[k].Stops[j].Dep ≤ 28800)) else some true) else some true) = some u := by
                    split
                    · split
                      · exact ⟨_, rfl⟩
                      · exact ⟨_, rfl⟩
                    · exact ⟨_, rfl⟩
                  rw [hu, Option.bind_some]
                  split
                  · exact .inr ⟨_, rfl, 2, rfl, by decide⟩
                  · obtain ⟨v, hv⟩ : ∃ v, (if d.Trains[k].Stops[j].Dep < d.Trains[k].Stops[j].Arr then some true else if 0 < (j : Int) then (chk ((j : Int) - 1)).bind fun _ => (idx d.Trains[k].Stops ((j : Int) - 1)).bind fun x => some (decide (d.Trains[k].Stops[j].Arr ≤ x.Dep)) else some false) = some v := by
                      split
                      · exact ⟨_, rfl⟩
                      · split
                        · rw [chk_ok (by omega) (by omega), Option.bind_some, show (j : Int) - 1 = ((j - 1 : Nat) : Int) by omega, idx_lt (by omega), Option.bind_some]
                          exact ⟨_, rfl⟩
                        · exact ⟨_, rfl⟩
                    rw [hv, Option.bind_some]
                    split
                    · exact .inr ⟨_, rfl, 5, rfl, by decide⟩
                    · exact .inl rfl) with e2 | ⟨c, e2, q, rfl, hq⟩
              · rw [e2]; exact .inl rfl
              · rw [e2]; exact .inr ⟨q, rfl, hq⟩
          · rw [e]; exact .inr ⟨q, rfl, hq⟩
        · exact .inr ⟨2, rfl, by decide⟩) with e | ⟨c', e, hc'⟩
    · rw [e]
      exact ⟨0, rfl, fun _ => ⟨hn, hT⟩⟩
    · rw [e]
      exact ⟨c', rfl, fun h => absurd h hc'⟩
  · rw [if_pos hc]
    exact ⟨c, rfl, fun h => absurd h hc⟩
theorem legs_total (d : ApiDay) (hn : d.Trains.length ≤ 12) (ht : ∀ t ∈ d.Trains, TrainOk t) : ∃ L, forS (mFishtopTopCrewed_L3469 d) d.Trains.length 0 ([] : List FleetTask) = some L := by
  obtain ⟨L, e, _⟩ := forS_inv (body := mFishtopTopCrewed_L3469 d) (fun k L => L.length ≤ 8 * k) d.Trains.length 0 ([] : List FleetTask) (by simp) (fun k L _ hk hL => by
    have hk' : k < d.Trains.length := by omega
    have ok := ht _ (List.getElem_mem hk')
    have h1 := ok.stops
    have h2 := ok.legs
    unfold mFishtopTopCrewed_L3469
    rw [idx_lt hk', Option.bind_some]
    obtain ⟨M, f, hM⟩ := forS_inv (body := mFishtopTopCrewed_L4155 d.Trains[k]) (fun j M => M.length = L.length + j) d.Trains[k].Legs.length 0 L (by simp) (fun j M _ hj hM => by
      unfold mFishtopTopCrewed_L4155
      rw [idx_lt (show j < d.Trains[k].Stops.length by omega), Option.bind_some, chk_ok (by omega) (by omega), Option.bind_some, show (j : Int) + 1 = ((j + 1 : Nat) : Int) by omega, idx_lt (show j + 1 < d.Trains[k].Stops.length by omega), Option.bind_some, Option.bind_some, Option.bind_some, Option.bind_some, room_ok (by omega) (by omega), Option.bind_some]
      exact ⟨_, rfl, by rw [List.length_append, List.length_singleton]; omega⟩)
    rw [f, Option.bind_some]
    exact ⟨_, rfl, by omega⟩)
  exact ⟨L, e⟩
end Go.Proofs.Ytnmhabgnfifkdaa
