/- Plain: what the faults say of tariffs, trips and passes; the program's checks say the same. -/
import Derived.Test.YtiajmiigkjmakaaGreatDoorLA2
set_option linter.unusedVariables false
set_option linter.unusedSimpArgs false
namespace Go.Proofs.YtiajmiigkjmakaaGreatDoor
open Go.RowKit Go.Fp

structure RuleOk (r : FareRule) : Prop where
  good : Good r.If
  check : mFareCondCheck r.If = some 0
  doo : 1 ≤ r.Do ∧ r.Do ≤ 6
  n : 0 ≤ r.N ∧ r.N ≤ (if r.Do = 1 then 200 else 100000)
structure TarOk (s : FareTariff) : Prop where
  bands : 1 ≤ s.Bands.length ∧ s.Bands.length ≤ 8
  rules : s.Rules.length ≤ 20
  price : ∀ b ∈ s.Bands, 0 ≤ b.Price ∧ b.Price ≤ 100000
  round : 1 ≤ s.Round ∧ s.Round ≤ 100
  rule : ∀ r ∈ s.Rules, RuleOk r
  check : mFareCheckTariff s = some 0
structure TripOk (t : FareTrip) : Prop where
  day : 0 ≤ t.Day ∧ t.Day ≤ 6
  km : 0 ≤ t.Km ∧ t.Km ≤ 1000
  zones : 1 ≤ t.Zones.length ∧ t.Zones.length ≤ 10
  check : mFareCheckTrip t = some 0
structure PassOk (p : FarePass) : Prop where
  days : 1 ≤ p.Days ∧ p.Days ≤ 7
  price : 0 ≤ p.Price ∧ p.Price ≤ 100000
  check : mFareCheckZones p.Zones true = some 0
theorem ite_max (d : Int) : (if d = 1 then some 200 else some 100000 : Option Int) = some (if d = 1 then 200 else 100000) := by split <;> rfl
theorem tariff_ok (s : FareTariff) : ∃ e, mFishref2TariffFault s = some e ∧ (e = 0 → TarOk s) := by
  unfold mFishref2TariffFault
  rw [within_ref, Option.bind_some]
  by_cases hb : 1 ≤ (s.Bands.length : Int) ∧ (s.Bands.length : Int) ≤ 8
  · rw [if_pos (decide_eq_true hb), Option.bind_some]
    by_cases hr : 20 < (s.Rules.length : Int)
    · rw [if_pos (decide_eq_true hr)]
      exact ⟨4, rfl, fun h => absurd h (by decide)⟩
    rw [if_neg (by rw [decide_eq_false hr]; decide)]
    rcases forM_inv (body := mFishref2TariffFault_L371 s) (fun k _ => ∀ j : Nat, j < k → ∀ h : j < s.Bands.length, 0 ≤ s.Bands[j].Price ∧ s.Bands[j].Price ≤ 100000) (fun e => e ≠ 0) s.Bands.length 0 () (fun j h => absurd h (Nat.not_lt_zero j)) (fun k _ _ hk hI => by
      have hk : k < s.Bands.length := by omega
      unfold mFishref2TariffFault_L371
      rw [idx_lt hk, Option.bind_some, within_ref, Option.bind_some]
      by_cases h1 : 1 ≤ s.Bands[k].Upto ∧ s.Bands[k].Upto ≤ 1000
      · rw [if_pos (decide_eq_true h1), within_ref, Option.bind_some, Option.bind_some]
        by_cases h2 : 0 ≤ s.Bands[k].Price ∧ s.Bands[k].Price ≤ 100000
        · rw [if_neg (by rw [decide_eq_true h2]; decide)]
          have go : ∀ j : Nat, j < k + 1 → ∀ h : j < s.Bands.length, 0 ≤ s.Bands[j].Price ∧ s.Bands[j].Price ≤ 100000 := fun j hj hjl => by
            by_cases ej : j = k
            · subst ej; exact h2
            · exact hI j (by omega) hjl
          by_cases h3 : 0 < (k : Int)
          · rw [if_pos h3, chk_ok (by omega) (by omega), Option.bind_some, show (k : Int) - 1 = ((k - 1 : Nat) : Int) by omega, idx_lt (by omega), Option.bind_some]
            by_cases h4 : s.Bands[k].Upto ≤ s.Bands[k - 1].Upto
            · rw [if_pos h4, Option.bind_some, if_pos rfl]
              exact .inr ⟨_, rfl, by decide⟩
            · rw [if_neg h4]
              simp only [Option.bind_some]
              by_cases h5 : s.Bands[k].Price < s.Bands[k - 1].Price
              · rw [if_pos (decide_eq_true h5)]
                exact .inr ⟨_, rfl, by decide⟩
              · rw [if_neg (by rw [decide_eq_false h5]; decide)]
                exact .inl ⟨_, rfl, go⟩
          · rw [if_neg h3, Option.bind_some, if_neg (by decide)]
            exact .inl ⟨_, rfl, go⟩
        · rw [if_pos (by rw [decide_eq_false h2]; rfl)]
          exact .inr ⟨_, rfl, by decide⟩
      · rw [if_neg (by rw [decide_eq_false h1]; decide), Option.bind_some, if_pos rfl]
        exact .inr ⟨_, rfl, by decide⟩) with ⟨u, f1, f2⟩ | ⟨e, f1, f2⟩
    · have f1' : Go.Fp.forM (mFareCheckTariff_L371 s) s.Bands.length 0 () = some (.inl u) := f1
      rw [f1, Option.bind_some, Sum.elim_inl, within_ref, Option.bind_some]
      by_cases h1 : 1 ≤ s.Round ∧ s.Round ≤ 100
      · rw [if_pos (decide_eq_true h1)]
        rcases forM_inv (body := mFishref2TariffFault_L639 s) (fun k _ => ∀ j : Nat, j < k → ∀ h : j < s.Rules.length, RuleOk s.Rules[j]) (fun e => e ≠ 0) s.Rules.length 0 () (fun j h => absurd h (Nat.not_lt_zero j)) (fun k _ _ hk hI => by
          have hk : k < s.Rules.length := by omega
          unfold mFishref2TariffFault_L639
          obtain ⟨e, e1, e2⟩ := cond_ok s.Rules[k].If
          rw [idx_lt hk, Option.bind_some, e1, Option.bind_some]
          by_cases he : e = 0
          · rw [if_neg (fun h => h he), within_ref, Option.bind_some]
            by_cases h2 : 1 ≤ s.Rules[k].Do ∧ s.Rules[k].Do ≤ 6
            · rw [if_pos (decide_eq_true h2), ite_max, Option.bind_some, within_ref, Option.bind_some]
              by_cases h3 : 0 ≤ s.Rules[k].N ∧ s.Rules[k].N ≤ (if s.Rules[k].Do = 1 then 200 else 100000)
              · rw [if_pos (decide_eq_true h3)]
                refine .inl ⟨_, rfl, fun j hj hjl => ?_⟩
                by_cases ej : j = k
                · subst ej; exact ⟨(e2 he).1, (e2 he).2, h2, h3⟩
                · exact hI j (by omega) hjl
              · rw [if_neg (by rw [decide_eq_false h3]; decide)]
                exact .inr ⟨_, rfl, by decide⟩
            · rw [if_neg (by rw [decide_eq_false h2]; decide)]
              exact .inr ⟨_, rfl, by decide⟩
          · rw [if_pos he]
            exact .inr ⟨_, rfl, he⟩) with ⟨v, g1, g2⟩ | ⟨e, g1, g2⟩
        · rw [g1]
          have hall : ∀ r ∈ s.Rules, RuleOk r := fun r hr => by
            obtain ⟨j, hj, rfl⟩ := List.getElem_of_mem hr
            exact g2 j (by omega) hj
          refine ⟨0, rfl, fun _ => ⟨⟨by omega, by omega⟩, by omega, fun b hb => ?_, h1, hall, ?_⟩⟩
          · obtain ⟨j, hj, rfl⟩ := List.getElem_of_mem hb
            exact f2 j (by omega) hj
          · unfold mFareCheckTariff
            rw [within_spec, Option.bind_some, if_pos (decide_eq_true hb), Option.bind_some, if_neg (by rw [decide_eq_false hr]; decide), f1', Option.bind_some, Sum.elim_inl, within_spec, Option.bind_some, if_pos (decide_eq_true h1)]
            rcases forM_inv (body := mFareCheckTariff_L639 s) (fun _ _ => True) (fun _ => False) s.Rules.length 0 () trivial (fun k _ _ hk _ => by
              have hk : k < s.Rules.length := by omega
              have ok := hall _ (List.getElem_mem hk)
              unfold mFareCheckTariff_L639
              rw [idx_lt hk, Option.bind_some, ok.check, Option.bind_some, if_neg (fun h => h rfl), ite_max, Option.bind_some, within_spec, Option.bind_some, if_pos (decide_eq_true ok.doo), within_spec, Option.bind_some, if_pos (decide_eq_true ok.n)]
              exact .inl ⟨_, rfl, trivial⟩) with ⟨s', k1, _⟩ | ⟨t, _, k2⟩
            · rw [k1]
              rfl
            · exact k2.elim
        · rw [g1]
          exact ⟨e, rfl, fun h => absurd h g2⟩
      · rw [if_neg (by rw [decide_eq_false h1]; decide)]
        exact ⟨2, rfl, fun h => absurd h (by decide)⟩
    · rw [f1]
      exact ⟨e, rfl, fun h => absurd h f2⟩
  · rw [if_neg (by rw [decide_eq_false hb]; decide), Option.bind_some, if_pos rfl]
    exact ⟨4, rfl, fun h => absurd h (by decide)⟩
theorem trip_ok (t : FareTrip) : ∃ e, mFishref2TripFault t = some e ∧ (e = 0 → TripOk t) := by
  unfold mFishref2TripFault
  simp only [within_ref, Option.bind_some]
  by_cases h1 : 0 ≤ t.Day ∧ t.Day ≤ 6
  · rw [if_pos (decide_eq_true h1)]
    by_cases h2 : 0 ≤ t.At ∧ t.At ≤ 28800
    · rw [if_pos (decide_eq_true h2)]
      by_cases h3 : 0 ≤ t.Km ∧ t.Km ≤ 1000
      · rw [if_pos (decide_eq_true h3), Option.bind_some]
        by_cases h4 : 0 ≤ t.Age ∧ t.Age ≤ 120
        · rw [if_neg (by rw [decide_eq_true h4]; decide)]
          by_cases h5 : 1 ≤ (t.Zones.length : Int) ∧ (t.Zones.length : Int) ≤ 10
          · rw [if_pos (decide_eq_true h5)]
            rcases forM_end (f := mFishref2TripFault_L163 t) (fun e => e ≠ 0) t.Zones.length 0 () (fun k _ _ hk => by
              have hk : k < t.Zones.length := by omega
              unfold mFishref2TripFault_L163
              rw [idx_lt hk, Option.bind_some, within_ref, Option.bind_some]
              by_cases h6 : 0 ≤ t.Zones[k] ∧ t.Zones[k] ≤ 19
              · rw [if_pos (decide_eq_true h6)]
                by_cases h7 : 0 < (k : Int)
                · rw [if_pos h7, chk_ok (by omega) (by omega), Option.bind_some, show (k : Int) - 1 = ((k - 1 : Nat) : Int) by omega, idx_lt (by omega), Option.bind_some, Option.bind_some]
                  split
                  · exact .inr ⟨_, rfl, by decide⟩
                  · exact .inl ⟨_, rfl⟩
                · rw [if_neg h7, Option.bind_some, if_neg (by decide)]
                  exact .inl ⟨_, rfl⟩
              · rw [if_neg (by rw [decide_eq_false h6]; decide)]
                exact .inr ⟨_, rfl, by decide⟩) with ⟨u, f1⟩ | ⟨e, f1, f2⟩
            · rw [f1]
              refine ⟨0, rfl, fun _ => ⟨h1, h3, ⟨by omega, by omega⟩, ?_⟩⟩
              unfold mFareCheckTrip
              simp only [within_spec, Option.bind_some]
              rw [if_pos (decide_eq_true h1), if_pos (decide_eq_true h2), if_pos (decide_eq_true h3), Option.bind_some, if_neg (by rw [decide_eq_true h4]; decide), if_pos (decide_eq_true h5)]
              unfold mFareCheckZones
              rw [forM_follow (g := mFareCheckZones_L154 t.Zones false) t.Zones.length 0 () u (fun k _ s' _ hk he => by
                have hk : k < t.Zones.length := by omega
                unfold mFishref2TripFault_L163 at he
                unfold mFareCheckZones_L154
                rw [idx_lt hk, Option.bind_some, within_ref, Option.bind_some] at he
                rw [idx_lt hk, Option.bind_some, within_spec, Option.bind_some]
                by_cases h6 : 0 ≤ t.Zones[k] ∧ t.Zones[k] ≤ 19
                · rw [if_pos (decide_eq_true h6)] at he ⊢
                  by_cases h7 : 0 < (k : Int)
                  · rw [if_pos h7, chk_ok (by omega) (by omega), Option.bind_some, show (k : Int) - 1 = ((k - 1 : Nat) : Int) by omega, idx_lt (by omega), Option.bind_some] at he ⊢
                    by_cases h8 : t.Zones[k] = t.Zones[k - 1]
                    · rw [Option.bind_some, if_pos (decide_eq_true h8)] at he
                      cases he
                    · rw [if_neg h8, if_neg (by decide), Option.bind_some, if_neg (by decide)]
                  · rw [if_neg h7, Option.bind_some, if_neg (by decide)]
                · rw [if_neg (by rw [decide_eq_false h6]; decide)] at he
                  cases he) f1]
              rfl
            · rw [f1]
              exact ⟨e, rfl, fun h => absurd h f2⟩
          · rw [if_neg (by rw [decide_eq_false h5]; decide)]
            exact ⟨4, rfl, fun h => absurd h (by decide)⟩
        · rw [if_pos (by rw [decide_eq_false h4]; rfl)]
          exact ⟨2, rfl, fun h => absurd h (by decide)⟩
      · rw [if_neg (by rw [decide_eq_false h3]; decide), Option.bind_some, if_pos rfl]
        exact ⟨2, rfl, fun h => absurd h (by decide)⟩
    · rw [if_neg (by rw [decide_eq_false h2]; decide), Option.bind_some, if_pos rfl]
      exact ⟨2, rfl, fun h => absurd h (by decide)⟩
  · rw [if_neg (by rw [decide_eq_false h1]; decide), Option.bind_some, if_pos rfl]
    exact ⟨2, rfl, fun h => absurd h (by decide)⟩
theorem passes_ok (l : List FarePass) (k : Nat) (hk : k < l.length) : (mFishref2CheapestFault_L385 l k () = some (.inl ()) ∧ PassOk l[k]) ∨ ∃ e, mFishref2CheapestFault_L385 l k () = some (.inr e) ∧ e ≠ 0 := by
  unfold mFishref2CheapestFault_L385
  rw [idx_lt hk, Option.bind_some]
  simp only [within_ref, Option.bind_some]
  by_cases h1 : 1 ≤ l[k].Days ∧ l[k].Days ≤ 7
  · rw [if_pos (decide_eq_true h1), Option.bind_some]
    by_cases h2 : 0 ≤ l[k].Price ∧ l[k].Price ≤ 100000
    · rw [if_neg (by rw [decide_eq_true h2]; decide)]
      rcases forM_inv (body := mFishref2CheapestFault_L545 l[k]) (fun j _ => ∀ i : Nat, i < j → ∀ h : i < l[k].Zones.length, (i : Int) ≤ l[k].Zones[i] ∧ l[k].Zones[i] ≤ 19) (fun e => ∃ x, e = .inr x ∧ x ≠ 0) l[k].Zones.length 0 () (fun j h => absurd h (Nat.not_lt_zero j)) (fun j _ _ hj hI => by
        have hj : j < l[k].Zones.length := by omega
        unfold mFishref2CheapestFault_L545
        rw [idx_lt hj, Option.bind_some, within_ref, Option.bind_some]
        by_cases h6 : 0 ≤ l[k].Zones[j] ∧ l[k].Zones[j] ≤ 19
        · rw [if_pos (decide_eq_true h6)]
          by_cases h7 : 0 < (j : Int)
          · have h9 := hI (j - 1) (by omega) (by omega)
            rw [if_pos h7, chk_ok (by omega) (by omega), Option.bind_some, show (j : Int) - 1 = ((j - 1 : Nat) : Int) by omega, idx_lt (by omega), Option.bind_some, Option.bind_some]
            by_cases h8 : l[k].Zones[j] ≤ l[k].Zones[j - 1]
            · rw [if_pos (decide_eq_true h8)]
              exact .inr ⟨_, rfl, _, rfl, by decide⟩
            · rw [if_neg (by rw [decide_eq_false h8]; decide)]
              refine .inl ⟨_, rfl, fun i hi hil => ?_⟩
              by_cases ei : i = j
              · subst ei; exact ⟨by omega, h6.2⟩
              · exact hI i (by omega) hil
          · rw [if_neg h7, Option.bind_some, if_neg (by decide)]
            refine .inl ⟨_, rfl, fun i hi hil => ?_⟩
            have ei : i = j := by omega
            subst ei
            exact ⟨by omega, h6.2⟩
        · rw [if_neg (by rw [decide_eq_false h6]; decide)]
          exact .inr ⟨_, rfl, _, rfl, by decide⟩) with ⟨u, f1, f3⟩ | ⟨e, f1, x, rfl, f2⟩
      · rw [f1]
        refine .inl ⟨rfl, h1, h2, ?_⟩
        have hzl : l[k].Zones.length ≤ 20 := by
          by_cases hz : l[k].Zones.length ≤ 20
          · exact hz
          · have := f3 20 (by omega) (by omega)
            omega
        unfold mFareCheckZones
        rw [forM_follow (g := mFareCheckZones_L154 l[k].Zones true) l[k].Zones.length 0 () u (fun j _ s' _ hj he => by
          have hj : j < l[k].Zones.length := by omega
          unfold mFishref2CheapestFault_L545 at he
          unfold mFareCheckZones_L154
          rw [idx_lt hj, Option.bind_some, within_ref, Option.bind_some] at he
          rw [idx_lt hj, Option.bind_some, within_spec, Option.bind_some]
          by_cases h6 : 0 ≤ l[k].Zones[j] ∧ l[k].Zones[j] ≤ 19
          · rw [if_pos (decide_eq_true h6)] at he ⊢
            by_cases h7 : 0 < (j : Int)
            · rw [if_pos h7, chk_ok (by omega) (by omega), Option.bind_some, show (j : Int) - 1 = ((j - 1 : Nat) : Int) by omega, idx_lt (by omega), Option.bind_some] at he ⊢
              by_cases h8 : l[k].Zones[j] ≤ l[k].Zones[j - 1]
              · rw [Option.bind_some, if_pos (decide_eq_true h8)] at he
                cases he
              · rw [if_neg (by omega), if_pos rfl]
                simp only [Option.bind_some]
                rw [if_neg (by rw [decide_eq_false (by omega)]; decide)]
            · rw [if_neg h7, Option.bind_some, if_neg (by decide)]
          · rw [if_neg (by rw [decide_eq_false h6]; decide)] at he
            cases he) f1]
        rfl
      · rw [f1]
        exact .inr ⟨x, rfl, f2⟩
    · rw [if_pos (by rw [decide_eq_false h2]; rfl)]
      exact .inr ⟨_, rfl, by decide⟩
  · rw [if_neg (by rw [decide_eq_false h1]; decide), Option.bind_some, if_pos rfl]
    exact .inr ⟨_, rfl, by decide⟩
structure AllOk (s : FareTariff) (l : List FareTrip) (ps : List FarePass) : Prop where
  tar : TarOk s
  len : l.length ≤ 12
  two : ps.length ≤ 2
  trip : ∀ t ∈ l, TripOk t
  pass : ∀ p ∈ ps, PassOk p
theorem cheapest_fault (s : FareTariff) (l : List FareTrip) (ps : List FarePass) : ∃ e, mFishref2CheapestFault s l ps = some e ∧ (e = 0 → AllOk s l ps) := by
  unfold mFishref2CheapestFault
  obtain ⟨e, h1, h2⟩ := tariff_ok s
  rw [h1, Option.bind_some]
  by_cases he : e = 0
  · rw [if_neg (fun h => h he)]
    by_cases h3 : 12 < (l.length : Int)
    · rw [if_pos h3, Option.bind_some, if_pos rfl]
      exact ⟨4, rfl, fun h => absurd h (by decide)⟩
    rw [if_neg h3, Option.bind_some]
    by_cases h4 : 2 < (ps.length : Int)
    · rw [if_pos (decide_eq_true h4)]
      exact ⟨4, rfl, fun h => absurd h (by decide)⟩
    rw [if_neg (by rw [decide_eq_false h4]; decide)]
    rcases forM_inv (body := mFishref2CheapestFault_L341 l) (fun k _ => ∀ j : Nat, j < k → ∀ h : j < l.length, TripOk l[j]) (fun e => e ≠ 0) l.length 0 () (fun j h => absurd h (Nat.not_lt_zero j)) (fun k _ _ hk hI => by
      have hk : k < l.length := by omega
      obtain ⟨x, x1, x2⟩ := trip_ok l[k]
      unfold mFishref2CheapestFault_L341
      rw [idx_lt hk, Option.bind_some, x1, Option.bind_some]
      by_cases hx : x = 0
      · rw [if_neg (fun h => h hx)]
        refine .inl ⟨_, rfl, fun j hj hjl => ?_⟩
        by_cases ej : j = k
        · subst ej; exact x2 hx
        · exact hI j (by omega) hjl
      · rw [if_pos hx]
        exact .inr ⟨_, rfl, hx⟩) with ⟨u, f1, f2⟩ | ⟨x, f1, f2⟩
    · rw [f1, Option.bind_some, Sum.elim_inl]
      rcases forM_inv (body := mFishref2CheapestFault_L385 ps) (fun k _ => ∀ j : Nat, j < k → ∀ h : j < ps.length, PassOk ps[j]) (fun e => e ≠ 0) ps.length 0 () (fun j h => absurd h (Nat.not_lt_zero j)) (fun k _ _ hk hI => by
        have hk : k < ps.length := by omega
        rcases passes_ok ps k hk with ⟨x1, x2⟩ | ⟨x, x1, x2⟩
        · refine .inl ⟨_, x1, fun j hj hjl => ?_⟩
          by_cases ej : j = k
          · subst ej; exact x2
          · exact hI j (by omega) hjl
        · exact .inr ⟨x, x1, x2⟩) with ⟨v, g1, g2⟩ | ⟨x, g1, g2⟩
      · rw [g1]
        refine ⟨0, rfl, fun _ => ⟨h2 he, by omega, by omega, fun t ht => ?_, fun p hp => ?_⟩⟩
        · obtain ⟨j, hj, rfl⟩ := List.getElem_of_mem ht
          exact f2 j (by omega) hj
        · obtain ⟨j, hj, rfl⟩ := List.getElem_of_mem hp
          exact g2 j (by omega) hj
      · rw [g1]
        exact ⟨x, rfl, fun h => absurd h g2⟩
    · rw [f1]
      exact ⟨x, rfl, fun h => absurd h f2⟩
  · rw [if_pos he]
    exact ⟨e, rfl, fun h => absurd h he⟩
end Go.Proofs.YtiajmiigkjmakaaGreatDoor
