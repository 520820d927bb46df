/- Plain: the law of FareLess. -/
import Derived.Test.YtiajmiigkjmakaaGreatDoorLA5
set_option linter.unusedVariables false
set_option linter.unusedSimpArgs false
namespace Go.Proofs.YtiajmiigkjmakaaGreatDoor
open Go.RowKit Go.Fp

def spread (j : Nat) : Nat := j % 2 + j / 2 % 2 * 4 + j / 4 % 2 * 16 + j / 8 % 2 * 64 + j / 16 % 2 * 256 + j / 32 % 2 * 1024 + j / 64 % 2 * 4096
theorem spread_lt (j : Nat) : spread j < 16384 := by unfold spread; omega
theorem spread_buys : ∀ j : Nat, j < 128 → buysN 2 (spread j) 14 = buysN 1 j 7 := by decide +kernel
theorem zero_buys : buysN 1 0 7 = [] := by decide +kernel
theorem cost_nil (ps : List FarePass) (T : List (FareTrip × Int)) : cost ps T [] = (T.map Prod.snd).sum := by
  unfold cost leftT
  simp
theorem one_in (j : Nat) : ∀ b ∈ buysOf 1 j, b.Pass.toNat = 0 := fun b hb => by
  unfold buysOf at hb
  obtain ⟨q, hq, rfl⟩ := List.mem_map.1 hb
  have := (buys_in (by omega) _ q hq).2
  show ((q.2 : Nat) : Int).toNat = 0
  omega
theorem cost_more (p q : FarePass) (T : List (FareTrip × Int)) (j : Nat) : cost [p, q] T (buysOf 1 j) = cost [p] T (buysOf 1 j) := by
  have h := one_in j
  unfold cost
  have e1 : (buysOf 1 j).map (priceB [p, q]) = (buysOf 1 j).map (priceB [p]) := List.map_congr_left fun b hb => by
    unfold priceB
    rw [h b hb]
    rfl
  have e2 : T.map (leftT [p, q] (buysOf 1 j)) = T.map (leftT [p] (buysOf 1 j)) := List.map_congr_left fun t _ => by
    unfold leftT
    have : (buysOf 1 j).any (covB [p, q] t.1) = (buysOf 1 j).any (covB [p] t.1) := by
      rw [Bool.eq_iff_iff, List.any_eq_true, List.any_eq_true]
      have go : ∀ b ∈ buysOf 1 j, covB [p, q] t.1 b = covB [p] t.1 b := fun b hb => by
        unfold covB
        rw [h b hb]
        rfl
      exact ⟨fun ⟨b, hb, hc⟩ => ⟨b, hb, by rw [← go b hb]; exact hc⟩, fun ⟨b, hb, hc⟩ => ⟨b, hb, by rw [go b hb]; exact hc⟩⟩
    rw [this]
  rw [e1, e2]
theorem cost_half (p q : FarePass) (hd : q.Days = p.Days) (hz : q.Zones = p.Zones) (hp : q.Price ≤ p.Price) (T : List (FareTrip × Int)) (j : Nat) : cost [q] T (buysOf 1 j) ≤ cost [p] T (buysOf 1 j) := by
  have h := one_in j
  unfold cost
  have e1 : ∀ l : List FareBuy, (∀ b ∈ l, b.Pass.toNat = 0) → (l.map (priceB [q])).sum ≤ (l.map (priceB [p])).sum := fun l => by
    induction l with
    | nil => intro _; simp
    | cons b r ih =>
      intro hl
      have := ih fun b hb => hl b (List.mem_cons_of_mem _ hb)
      have e : priceB [q] b ≤ priceB [p] b := by
        unfold priceB
        rw [hl b (List.mem_cons_self ..)]
        exact hp
      simp only [List.map_cons, List.sum_cons]
      omega
  have e2 : T.map (leftT [q] (buysOf 1 j)) = T.map (leftT [p] (buysOf 1 j)) := List.map_congr_left fun t _ => by
    unfold leftT
    have : (buysOf 1 j).any (covB [q] t.1) = (buysOf 1 j).any (covB [p] t.1) := by
      rw [Bool.eq_iff_iff, List.any_eq_true, List.any_eq_true]
      have go : ∀ b ∈ buysOf 1 j, covB [q] t.1 b = covB [p] t.1 b := fun b hb => by
        unfold covB
        rw [h b hb]
        show cov q b.Day t.1 = cov p b.Day t.1
        unfold cov
        rw [hd, hz]
      exact ⟨fun ⟨b, hb, hc⟩ => ⟨b, hb, by rw [← go b hb]; exact hc⟩, fun ⟨b, hb, hc⟩ => ⟨b, hb, by rw [go b hb]; exact hc⟩⟩
    rw [this]
  have := e1 _ h
  rw [e2]
  omega
theorem total_loop (s : FareTariff) (h : TarOk s) (l : List FareTrip) (hl : l.length ≤ 12) (ht : ∀ t ∈ l, TripOk t) : Go.Fp.forM (mFishkeep2FareLess_L242 s l) l.length 0 0 = some (.inl (l.map (tripPrice s)).sum) := by
  rcases forM_inv (body := mFishkeep2FareLess_L242 s l) (fun k x => x = ((l.take k).map (tripPrice s)).sum ∧ 0 ≤ x ∧ x ≤ 100099 * k) (fun _ => False) l.length 0 0 ⟨by simp, by omega, by omega⟩ (fun k x _ hk hI => by
    have hk : k < l.length := by omega
    obtain ⟨⟨w, _, h1⟩, h2, h3⟩ := tripPrice_ok s h l[k] (ht _ (List.getElem_mem hk))
    unfold mFishkeep2FareLess_L242
    rw [idx_lt hk, Option.bind_some, h1, Option.bind_some]
    simp only [unc3]
    rw [if_neg (fun h => h rfl), chk_ok (by omega) (by omega), Option.bind_some]
    refine .inl ⟨_, rfl, ?_, by omega, by omega⟩
    rw [List.take_succ_eq_append_getElem hk, List.map_append, List.sum_append, hI.1]
    simp) with ⟨s', k1, k2⟩ | ⟨t, _, k2⟩
  · rw [k1, k2.1, Nat.zero_add, List.take_length]
  · exact k2.elim
theorem lessPlain (s : FareTariff) (l : List FareTrip) (p q : FarePass) : mFishkeep2FareLess s l p q = some true := by
  unfold mFishkeep2FareLess
  have ha : mFishkeep2AwakeFare = some () := rfl
  rw [ha, Option.bind_some, fares_true, Option.bind_some, if_pos rfl]
  obtain ⟨e, h1, h2⟩ := cheapest_fault s l [p, q]
  rw [h1, Option.bind_some]
  by_cases he : e = 0
  · rw [if_neg (fun h => h he)]
    obtain ⟨tar, len, two, trip, pass⟩ := h2 he
    have hp := pass p (by simp)
    have hq := pass q (by simp)
    have hh : Int.tdiv p.Price 2 = p.Price / 2 := Int.tdiv_eq_ediv_of_nonneg hp.price.1
    have hr : PassOk (⟨p.Days, Int.tdiv p.Price 2, p.Zones⟩ : FarePass) := ⟨hp.days, by have := hp.price; show 0 ≤ Int.tdiv p.Price 2 ∧ Int.tdiv p.Price 2 ≤ 100000; omega, hp.check⟩
    obtain ⟨x0, b0, c0, ⟨j0, j01, j02⟩, _⟩ := cheapest_ok s tar l len trip [] (by simp) (by simp)
    obtain ⟨x1, b1, c1, ⟨j1, j11, j12⟩, m1⟩ := cheapest_ok s tar l len trip [p] (by simp) (by simpa using hp)
    obtain ⟨x2, b2, c2, _, m2⟩ := cheapest_ok s tar l len trip [p, q] (by simp) pass
    obtain ⟨x3, b3, c3, _, m3⟩ := cheapest_ok s tar l len trip [(⟨p.Days, Int.tdiv p.Price 2, p.Zones⟩ : FarePass)] (by simp) (by simpa using hr)
    have w1 : 2 ^ (7 * [p].length) = 128 := by simp
    have w2 : 2 ^ (7 * [p, q].length) = 16384 := by simp
    have k0 : x0 = (l.map (tripPrice s)).sum := by
      rw [j02]
      show cost [] (pairs s l) [] = _
      rw [cost_nil]
      unfold pairs
      rw [List.map_map]
      rfl
    have k1 : x1 ≤ x0 := by
      have := m1 0 (by rw [w1]; decide)
      have e0 : buysOf [p].length 0 = [] := by
        show (buysN 1 0 7).map asBuy = []
        rw [zero_buys]
        rfl
      rw [e0, cost_nil] at this
      rw [k0]
      unfold pairs at this
      rw [List.map_map] at this
      exact this
    have k2 : x2 ≤ x1 := by
      have := m2 (spread j1) (by rw [w2]; exact spread_lt j1)
      have e0 : buysOf [p, q].length (spread j1) = buysOf 1 j1 := by
        show (buysN 2 (spread j1) 14).map asBuy = (buysN 1 j1 7).map asBuy
        rw [spread_buys j1 (by rw [w1] at j11; exact j11)]
      rw [e0, cost_more] at this
      rw [j12]
      exact this
    have k3 : x3 ≤ x1 := by
      have := m3 j1 (by rw [show [(⟨p.Days, Int.tdiv p.Price 2, p.Zones⟩ : FarePass)].length = 1 from rfl]; exact j11)
      rw [j12]
      exact Int.le_trans this (cost_half p ⟨p.Days, Int.tdiv p.Price 2, p.Zones⟩ rfl rfl (by have := hp.price; show Int.tdiv p.Price 2 ≤ p.Price; omega) _ _)
    rw [c0, Option.bind_some]
    simp only [unc3]
    rw [c1, Option.bind_some]
    simp only [unc3]
    rw [c2, Option.bind_some]
    simp only [unc3]
    rw [total_loop s tar l len trip, Option.bind_some, Sum.elim_inl]
    have ne : ne0 2 = some () := rfl
    rw [ne, Option.bind_some, chk_ok (by have := hp.price; omega) (by have := hp.price; omega), Option.bind_some, c3, Option.bind_some]
    simp only [unc3]
    rw [if_pos trivial, if_pos trivial, if_pos trivial, if_pos trivial, if_pos k0, if_pos k1, if_pos k2, decide_eq_true k3]
    rfl
  · rw [if_pos he]
theorem lessRow (s : FareTariff) (l : List FareTrip) (p q : FarePass) {A B C D E : Prop} (_ : A) (_ : B) (_ : C) (_ : D) (_ : E) : mFishkeep2FareLess s l p q = some true := lessPlain s l p q
end Go.Proofs.YtiajmiigkjmakaaGreatDoor
