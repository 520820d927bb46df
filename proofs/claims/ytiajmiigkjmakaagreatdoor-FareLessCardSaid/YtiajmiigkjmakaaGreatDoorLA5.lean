/- Plain: the cheapest way to pay is the least over all sets of bought passes. -/
import Derived.Test.YtiajmiigkjmakaaGreatDoorLA4
set_option linter.unusedVariables false
set_option linter.unusedSimpArgs false
namespace Go.Proofs.YtiajmiigkjmakaaGreatDoor
open Go.RowKit Go.Fp

def bitM (set i : Nat) : Bool := decide (andI .i64 (shrI .i64 (set : Int) (i : Int)) 1 = 1)
def buysN (m set : Nat) : Nat → List (Nat × Nat)
  | 0 => []
  | n + 1 => if bitM set n then buysN m set n ++ [(n / m, n % m)] else buysN m set n
def asBuy (q : Nat × Nat) : FareBuy := ⟨(q.1 : Int), (q.2 : Int)⟩
def buysOf (m set : Nat) : List FareBuy := (buysN m set (7 * m)).map asBuy
def cov (p : FarePass) (d : Int) (t : FareTrip) : Bool := decide (d ≤ t.Day ∧ t.Day ≤ d + p.Days - 1) && t.Zones.all (fun z => decide (z ∈ p.Zones))
def covB (ps : List FarePass) (t : FareTrip) (b : FareBuy) : Bool := match ps[b.Pass.toNat]? with
  | some p => cov p b.Day t
  | none => false
def priceB (ps : List FarePass) (b : FareBuy) : Int := match ps[b.Pass.toNat]? with
  | some p => p.Price
  | none => 0
def leftT (ps : List FarePass) (bs : List FareBuy) (q : FareTrip × Int) : Int := if bs.any (covB ps q.1) then 0 else q.2
def cost (ps : List FarePass) (T : List (FareTrip × Int)) (bs : List FareBuy) : Int := (bs.map (priceB ps)).sum + (T.map (leftT ps bs)).sum
theorem sum_loop {α : Type} (f : α → Int) (l : List α) (body : Nat → Int → Option Int) (h0 : ∀ x ∈ l, 0 ≤ f x ∧ f x ≤ 100099) (hb : ∀ (k : Nat) (h : k < l.length) (x : Int), 0 ≤ x → x ≤ 1000000000 → body k x = some (x + f l[k])) : ∀ (x : Int), 0 ≤ x → x + 100099 * l.length ≤ 1000000000 → Go.Fp.forS body l.length 0 x = some (x + (l.map f).sum) ∧ 0 ≤ (l.map f).sum ∧ (l.map f).sum ≤ 100099 * l.length := by
  intro x hx hl
  have key : ∀ n, n ≤ l.length → Go.Fp.forS body n 0 x = some (x + ((l.take n).map f).sum) ∧ 0 ≤ ((l.take n).map f).sum ∧ ((l.take n).map f).sum ≤ 100099 * n := fun n => by
    induction n with
    | zero => intro _; simp [Go.Fp.forS]
    | succ n ih =>
      intro hn
      obtain ⟨i1, i2, i3⟩ := ih (by omega)
      have hf := h0 _ (List.getElem_mem (show n < l.length by omega))
      rw [forS_snoc, i1, Option.bind_some, Nat.zero_add, hb n (by omega) _ (by omega) (by omega), List.take_succ_eq_append_getElem (by omega), List.map_append, List.sum_append]
      simp only [List.map_cons, List.map_nil, List.sum_cons, List.sum_nil]
      exact ⟨by rw [show x + ((List.take n l).map f).sum + f l[n] = x + (((List.take n l).map f).sum + (f l[n] + 0)) by omega], by omega, by omega⟩
  have := key l.length (Nat.le_refl _)
  rwa [List.take_length] at this
theorem buys_len (m set : Nat) : ∀ n, (buysN m set n).length ≤ n
  | 0 => Nat.le_refl _
  | n + 1 => by
    have := buys_len m set n
    rw [buysN]
    split
    · rw [List.length_append, List.length_singleton]; omega
    · omega
theorem buys_in {m set : Nat} (hm : 0 < m) : ∀ n, ∀ q ∈ buysN m set n, q.1 ≤ n ∧ q.2 < m
  | 0, q, h => by cases h
  | n + 1, q, h => by
    rw [buysN] at h
    have go : q ∈ buysN m set n → q.1 ≤ n + 1 ∧ q.2 < m := fun h => by
      have := buys_in hm n q h
      omega
    split at h
    · rcases List.mem_append.1 h with h | h
      · exact go h
      · rw [List.mem_singleton] at h
        subst h
        exact ⟨by have := Nat.div_le_self n m; show n / m ≤ n + 1; omega, Nat.mod_lt _ hm⟩
    · exact go h
theorem buys_loop (ps : List FarePass) (set : Nat) (hp : ps.length ≤ 2) : Go.Fp.forS (mFareCheapest_L2133 ps set) (7 * ps.length) 0 ([] : List FareBuy) = some (buysOf ps.length set) := by
  have key : ∀ n, n ≤ 7 * ps.length → Go.Fp.forS (mFareCheapest_L2133 ps set) n 0 ([] : List FareBuy) = some ((buysN ps.length set n).map asBuy) := fun n => by
    induction n with
    | zero => intro _; rfl
    | succ n ih =>
      intro hn
      have hl := buys_len ps.length set n
      rw [forS_snoc, ih (by omega), Option.bind_some, Nat.zero_add, buysN]
      unfold mFareCheapest_L2133 bitM
      have hs : shN (n : Int) = some () := by
        unfold shN
        rw [if_neg (by omega)]
      have hz : ne0 (ps.length : Int) = some () := by
        unfold ne0
        rw [if_neg (by omega)]
      rw [hs, Option.bind_some]
      by_cases c : andI .i64 (shrI .i64 (set : Int) (n : Int)) 1 = 1
      · rw [if_pos c, if_pos (decide_eq_true c), hz, Option.bind_some, ← Int.ofNat_tdiv, ← Int.ofNat_tmod]
        have := Nat.div_le_self n ps.length
        have d0 : (0 : Int) ≤ ((n / ps.length : Nat) : Int) := Int.natCast_nonneg _
        have d1 : ((n / ps.length : Nat) : Int) ≤ 14 := @Int.ofNat_le (n / ps.length) 14 |>.2 (Nat.le_trans (Nat.div_le_self n ps.length) (by omega))
        rw [chk_ok (Int.le_trans (by decide) d0) (Int.le_trans d1 (by decide)), Option.bind_some, Option.bind_some, room_ok (by rw [List.length_map]; omega) (by rw [List.length_map]; omega), Option.bind_some, List.map_append]
        rfl
      · rw [if_neg c, if_neg (by rw [decide_eq_false c]; decide)]
  exact key _ (Nat.le_refl _)
theorem covers_ok {p : FarePass} (hp : 1 ≤ p.Days ∧ p.Days ≤ 7) {d : Int} (hd : 0 ≤ d ∧ d ≤ 100) (t : FareTrip) : mFarePassCovers p d t = some (cov p d t) := by
  unfold mFarePassCovers cov
  rw [chk_ok (by omega) (by omega), Option.bind_some, chk_ok (by omega) (by omega), Option.bind_some, within_spec, Option.bind_some]
  by_cases c : d ≤ t.Day ∧ t.Day ≤ d + p.Days - 1
  · rw [if_pos (decide_eq_true c), decide_eq_true c, Bool.true_and]
    unfold mSlicesContainsFunc_4 mSlicesIndexFunc_5
    obtain ⟨r, h1, h2, _⟩ := any_spec (p := fun z => z ∉ p.Zones) t.Zones (mSlicesIndexFunc_5_L53 t.Zones p.Days p.Price p.Zones) (fun k h => by
      unfold mSlicesIndexFunc_5_L53 mFarePassCovers_1
      rw [idx_lt h, Option.bind_some, contains_eq, Option.bind_some, Option.bind_some]
      by_cases c : t.Zones[k] ∈ p.Zones
      · rw [if_neg (by rw [decide_eq_true c]; decide), if_neg (fun h => h c)]
      · rw [if_pos (by rw [decide_eq_false c]; decide), if_pos c])
    rw [h1, Option.bind_some, Option.bind_some, Option.bind_some]
    congr 1
    by_cases hr : 0 ≤ r
    · rw [decide_eq_true hr]
      obtain ⟨x, hx, hn⟩ := h2.1 hr
      symm
      rw [Bool.not_true, List.all_eq_false]
      exact ⟨x, hx, by rw [decide_eq_false hn]; decide⟩
    · rw [decide_eq_false hr]
      symm
      rw [Bool.not_false, List.all_eq_true]
      intro x hx
      by_cases hn : x ∈ p.Zones
      · exact decide_eq_true hn
      · exact absurd (h2.2 ⟨x, hx, hn⟩) hr
  · rw [if_neg (by rw [decide_eq_false c]; decide), decide_eq_false c]
    rfl
/-- A bought pass that is there. -/
structure BuyOk (ps : List FarePass) (b : FareBuy) : Prop where
  day : 0 ≤ b.Day ∧ b.Day ≤ 100
  pass : ∃ j : Nat, b.Pass = (j : Int) ∧ j < ps.length
theorem buysOf_ok {ps : List FarePass} (h : ps.length ≤ 2) (set : Nat) : ∀ b ∈ buysOf ps.length set, BuyOk ps b := fun b hb => by
  unfold buysOf at hb
  obtain ⟨q, hq, rfl⟩ := List.mem_map.1 hb
  have hl : 0 < ps.length := by
    rcases Nat.eq_zero_or_pos ps.length with e | e
    · rw [e] at hq; cases hq
    · exact e
  have := buys_in hl _ q hq
  exact ⟨⟨by show (0 : Int) ≤ (q.1 : Int); omega, by show (q.1 : Int) ≤ 100; omega⟩, q.2, rfl, this.2⟩
theorem any_ok {ps : List FarePass} (hp : ∀ p ∈ ps, PassOk p) {bs : List FareBuy} (hb : ∀ b ∈ bs, BuyOk ps b) (t : FareTrip) : mSlicesContainsFunc_3 ps t.Day t.At t.Km t.Age t.Card t.Zones bs = some (bs.any (covB ps t)) := by
  unfold mSlicesContainsFunc_3 mSlicesIndexFunc_4
  obtain ⟨r, h1, h2, _⟩ := any_spec (p := fun b => covB ps t b = true) bs (mSlicesIndexFunc_4_L75 ps t.Zones bs t.Day t.At t.Km t.Age t.Card) (fun k h => by
    obtain ⟨hd, j, j1, j2⟩ := hb _ (List.getElem_mem h)
    have hpj := hp _ (List.getElem_mem j2)
    unfold mSlicesIndexFunc_4_L75 mFareCheapest_1 covB
    rw [idx_lt h, Option.bind_some, j1, idx_lt j2, Option.bind_some, covers_ok hpj.days hd, Option.bind_some, Option.bind_some, Int.toNat_natCast, List.getElem?_eq_getElem j2]
    show (if cov ps[j] bs[k].Day t = true then some (Sum.inr (k : Int)) else some (Sum.inl ()) : Option (Unit ⊕ Int)) = some (if cov ps[j] bs[k].Day t = true then Sum.inr (k : Int) else Sum.inl ())
    split <;> rfl)
  rw [h1, Option.bind_some]
  congr 1
  by_cases hr : 0 ≤ r
  · rw [decide_eq_true hr]
    symm
    rw [List.any_eq_true]
    exact h2.1 hr
  · rw [decide_eq_false hr]
    symm
    rw [List.any_eq_false]
    intro x hx hc
    exact hr (h2.2 ⟨x, hx, hc⟩)
theorem compare_ok (x y : Int) : mCmpCompare x y = some (if x < y then -1 else if y < x then 1 else 0) := by
  unfold mCmpCompare mCmpIsNaN
  by_cases h : x < y
  · simp [h]
  · by_cases h2 : y < x
    · simp [h, h2]
    · simp [h, h2]
theorem or3_ok (x y z : Int) : mCmpOr [x, y, z] = some (if x ≠ 0 then x else if y ≠ 0 then y else z) := by
  unfold mCmpOr
  by_cases hx : x = 0
  · by_cases hy : y = 0
    · by_cases hz : z = 0
      · simp [Go.Fp.forM, mCmpOr_L38, idx, hx, hy, hz]
      · simp [Go.Fp.forM, mCmpOr_L38, idx, hx, hy, hz]
    · simp [Go.Fp.forM, mCmpOr_L38, idx, hx, hy]
  · simp [Go.Fp.forM, mCmpOr_L38, idx, hx]
theorem or2_ok (x y : Int) : ∃ r, mCmpOr [x, y] = some r := by
  unfold mCmpOr
  rcases forM_end (f := mCmpOr_L38 [x, y]) (fun _ => True) [x, y].length 0 () (fun k _ _ hk => by
    have hk : k < [x, y].length := by omega
    unfold mCmpOr_L38
    rw [idx_lt hk, Option.bind_some]
    split
    · exact .inr ⟨_, rfl, trivial⟩
    · exact .inl ⟨_, rfl⟩) with ⟨s, h⟩ | ⟨t, h, _⟩
  · rw [h]; exact ⟨_, rfl⟩
  · rw [h]; exact ⟨_, rfl⟩
theorem lists_ok (a b : List FareBuy) : ∃ r, mSlicesCompareFunc a b = some r := by
  unfold mSlicesCompareFunc
  rcases forM_end (f := mSlicesCompareFunc_L74 a b) (fun _ => True) a.length 0 () (fun k _ _ hk => by
    have hk : k < a.length := by omega
    unfold mSlicesCompareFunc_L74
    rw [idx_lt hk, Option.bind_some]
    by_cases c : (b.length : Int) ≤ (k : Int)
    · rw [if_pos c]
      exact .inr ⟨_, rfl, trivial⟩
    · rw [if_neg c, idx_lt (by omega), Option.bind_some]
      unfold mFareCompareBuys
      simp only [compare_ok, Option.bind_some]
      obtain ⟨r, hr⟩ := or2_ok (if a[k].Day < (b[k]'(by omega)).Day then -1 else if (b[k]'(by omega)).Day < a[k].Day then 1 else 0) (if a[k].Pass < (b[k]'(by omega)).Pass then -1 else if (b[k]'(by omega)).Pass < a[k].Pass then 1 else 0)
      rw [hr]
      simp only [Option.bind_some]
      split
      · exact .inr ⟨_, rfl, trivial⟩
      · exact .inl ⟨_, rfl⟩) with ⟨s, h⟩ | ⟨t, h, _⟩
  · rw [h, Option.bind_some, Sum.elim_inl]
    split
    · exact ⟨_, rfl⟩
    · exact ⟨_, rfl⟩
  · rw [h]; exact ⟨_, rfl⟩
theorem passes_check (ps : List FarePass) (hp : ∀ p ∈ ps, PassOk p) : Go.Fp.forM (mFareCheapest_L1374 ps) ps.length 0 () = some (.inl ()) := by
  rcases forM_inv (body := mFareCheapest_L1374 ps) (fun _ _ => True) (fun _ => False) ps.length 0 () trivial (fun k _ _ hk _ => by
    have hk : k < ps.length := by omega
    have ok := hp _ (List.getElem_mem hk)
    unfold mFareCheapest_L1374
    rw [idx_lt hk, Option.bind_some, within_spec, Option.bind_some, if_pos (decide_eq_true ok.days), within_spec, Option.bind_some, decide_eq_true ok.price, Option.bind_some, if_neg (by decide), ok.check, Option.bind_some, if_neg (fun h => h rfl)]
    exact .inl ⟨_, rfl, trivial⟩) with ⟨s, k1, _⟩ | ⟨t, _, k2⟩
  · exact k1
  · exact k2.elim
noncomputable def tripPrice (s : FareTariff) (t : FareTrip) : Int := match mFareTariffPrice s t with
  | some (p, _) => p
  | none => 0
theorem tripPrice_ok (s : FareTariff) (h : TarOk s) (t : FareTrip) (ht : TripOk t) : (∃ l, mFareTariffPrice s t = some (tripPrice s t, l) ∧ mFarePrice s t = some (tripPrice s t, 0, l)) ∧ 0 ≤ tripPrice s t ∧ tripPrice s t ≤ 100099 := by
  obtain ⟨p, l, h1, h2, h3, h4⟩ := price_ok s h t ht
  have e : tripPrice s t = p := by unfold tripPrice; rw [h1]
  rw [e]
  exact ⟨⟨l, h1, h2⟩, h3, h4⟩
theorem prices_loop (s : FareTariff) (h : TarOk s) (l : List FareTrip) (hl : l.length ≤ 12) (ht : ∀ t ∈ l, TripOk t) : Go.Fp.forM (mFareCheapest_L1255 s l) l.length 0 ([] : List Int) = some (.inl (l.map (tripPrice s))) := by
  rcases forM_inv (body := mFareCheapest_L1255 s l) (fun k q => q = (l.take k).map (tripPrice s)) (fun _ => False) l.length 0 [] (by simp) (fun k q _ hk hI => by
    have hk : k < l.length := by omega
    obtain ⟨⟨w, h1, _⟩, h2, h3⟩ := tripPrice_ok s h l[k] (ht _ (List.getElem_mem hk))
    unfold mFareCheapest_L1255
    have hq : q.length = k := by rw [hI, List.length_map, List.length_take]; omega
    rw [idx_lt hk, Option.bind_some, (ht _ (List.getElem_mem hk)).check, Option.bind_some, if_neg (fun h => h rfl), h1, Option.bind_some]
    simp only [unc2]
    rw [room_ok (by omega) (by omega), Option.bind_some]
    refine .inl ⟨_, rfl, ?_⟩
    rw [List.take_succ_eq_append_getElem hk, List.map_append, hI]
    rfl) with ⟨s', k1, k2⟩ | ⟨t, _, k2⟩
  · rw [k1, k2, Nat.zero_add, List.take_length]
  · exact k2.elim
noncomputable def pairs (s : FareTariff) (l : List FareTrip) : List (FareTrip × Int) := l.map fun t => (t, tripPrice s t)
theorem set_step (s : FareTariff) (h : TarOk s) (l : List FareTrip) (hl : l.length ≤ 12) (ht : ∀ t ∈ l, TripOk t) (ps : List FarePass) (h2 : ps.length ≤ 2) (hp : ∀ p ∈ ps, PassOk p) (k : Nat) (x : Int) (b : List FareBuy) :
    ∃ x' b', mFareCheapest_L1451 l ps (l.map (tripPrice s)) k (x, b) = some (x', b') ∧ 0 ≤ cost ps (pairs s l) (buysOf ps.length k) ∧ (x < 0 → x' = cost ps (pairs s l) (buysOf ps.length k)) ∧ (0 ≤ x → (x' = x ∧ x ≤ cost ps (pairs s l) (buysOf ps.length k)) ∨ (x' = cost ps (pairs s l) (buysOf ps.length k) ∧ x' ≤ x)) := by
  unfold mFareCheapest_L1451
  simp only [unc2]
  rw [chk_ok (by omega) (by omega), Option.bind_some, Option.bind_some, show (7 * (ps.length : Int)).toNat = 7 * ps.length by omega, buys_loop ps k h2, Option.bind_some]
  have hok := buysOf_ok h2 k
  have hbl : (buysOf ps.length k).length ≤ 14 := by
    unfold buysOf
    rw [List.length_map]
    have := buys_len ps.length k (7 * ps.length)
    omega
  generalize hB : buysOf ps.length k = B at hok hbl ⊢
  obtain ⟨s1, s2, s3⟩ := sum_loop (priceB ps) B (mFareCheapest_L2214 ps B) (fun b hb => by
    obtain ⟨_, j, j1, j2⟩ := hok b hb
    have := (hp _ (List.getElem_mem j2)).price
    unfold priceB
    rw [j1, Int.toNat_natCast, List.getElem?_eq_getElem j2]
    exact ⟨this.1, by simp only; omega⟩) (fun i hi y y0 y1 => by
    obtain ⟨_, j, j1, j2⟩ := hok _ (List.getElem_mem hi)
    have := (hp _ (List.getElem_mem j2)).price
    unfold mFareCheapest_L2214 priceB
    rw [idx_lt hi, Option.bind_some, j1, idx_lt j2, Option.bind_some, chk_ok (by omega) (by omega), Option.bind_some, Int.toNat_natCast, List.getElem?_eq_getElem j2]) 0 (by omega) (by omega)
  rw [s1, Option.bind_some]
  have hpl : (pairs s l).length = l.length := by unfold pairs; rw [List.length_map]
  obtain ⟨t1, t2, t3⟩ := sum_loop (leftT ps B) (pairs s l) (mFareCheapest_L2316 l ps (l.map (tripPrice s)) B) (fun q hq => by
    unfold pairs at hq
    obtain ⟨t, htm, rfl⟩ := List.mem_map.1 hq
    have := (tripPrice_ok s h t (ht t htm)).2
    unfold leftT
    split
    · omega
    · exact this) (fun i hi y y0 y1 => by
    rw [hpl] at hi
    have hpr := (tripPrice_ok s h l[i] (ht _ (List.getElem_mem hi))).2
    have hm : i < (l.map (tripPrice s)).length := by rw [List.length_map]; exact hi
    unfold mFareCheapest_L2316
    rw [idx_lt hi, Option.bind_some, any_ok hp hok, Option.bind_some]
    have e : (pairs s l)[i]'(by omega) = (l[i], tripPrice s l[i]) := by simp only [pairs, List.getElem_map]
    rw [e]
    unfold leftT
    by_cases c : (B.any (covB ps l[i])) = true
    · rw [if_pos c, if_pos c, Int.add_zero]
    · rw [if_neg c, if_neg c, idx_lt hm, Option.bind_some, List.getElem_map, chk_ok (by omega) (by omega), Option.bind_some]) (0 + (B.map (priceB ps)).sum) (by omega) (by omega)
  rw [hpl] at t1
  rw [t1, Option.bind_some, show 0 + (B.map (priceB ps)).sum + ((pairs s l).map (leftT ps B)).sum = cost ps (pairs s l) B by unfold cost; omega]
  have hc : 0 ≤ cost ps (pairs s l) B := by unfold cost; omega
  generalize cost ps (pairs s l) B = c at hc ⊢
  by_cases hx : x < 0
  · rw [if_pos hx, Option.bind_some, if_pos rfl]
    exact ⟨_, _, rfl, hc, fun _ => rfl, fun h => by omega⟩
  · rw [if_neg hx]
    obtain ⟨r, hr⟩ := lists_ok B b
    rw [compare_ok, compare_ok, hr]
    simp only [Option.bind_some]
    rw [or3_ok, Option.bind_some, Option.bind_some]
    by_cases c1 : c < x
    · rw [if_pos c1, if_pos (show (-1 : Int) ≠ 0 by decide), if_pos (show decide ((-1 : Int) < 0) = true by decide)]
      exact ⟨_, _, rfl, hc, fun h => by omega, fun _ => .inr ⟨rfl, by omega⟩⟩
    · by_cases c2 : x < c
      · rw [if_neg c1, if_pos c2, if_pos (show (1 : Int) ≠ 0 by decide), if_neg (show ¬ decide ((1 : Int) < 0) = true by decide)]
        exact ⟨_, _, rfl, hc, fun h => by omega, fun _ => .inl ⟨rfl, by omega⟩⟩
      · have e : c = x := by omega
        subst e
        generalize (decide (_ < (0 : Int))) = g
        cases g
        rotate_left
        · exact ⟨_, _, rfl, hc, fun h => by omega, fun _ => .inr ⟨rfl, by omega⟩⟩
        · exact ⟨_, _, rfl, hc, fun h => by omega, fun _ => .inl ⟨rfl, by omega⟩⟩
theorem cheapest_ok (s : FareTariff) (h : TarOk s) (l : List FareTrip) (hl : l.length ≤ 12) (ht : ∀ t ∈ l, TripOk t) (ps : List FarePass) (h2 : ps.length ≤ 2) (hp : ∀ p ∈ ps, PassOk p) :
    ∃ x b, mFareCheapest s l ps = some (x, 0, b) ∧ (∃ j, j < 2 ^ (7 * ps.length) ∧ x = cost ps (pairs s l) (buysOf ps.length j)) ∧ ∀ j, j < 2 ^ (7 * ps.length) → x ≤ cost ps (pairs s l) (buysOf ps.length j) := by
  unfold mFareCheapest
  rw [h.check, Option.bind_some, if_neg (fun h => h rfl), if_neg (by omega), Option.bind_some, if_neg (by rw [decide_eq_false (by omega)]; decide), prices_loop s h l hl ht, Option.bind_some, Sum.elim_inl, passes_check ps hp, Option.bind_some, Sum.elim_inl]
  have hs : shN (7 * (ps.length : Int)) = some () := by
    unfold shN
    rw [if_neg (by omega)]
  have hsh : shlI .i64 1 (7 * (ps.length : Int)) = ((2 ^ (7 * ps.length) : Nat) : Int) := by
    generalize ps.length = m at h2 ⊢
    have : m = 0 ∨ m = 1 ∨ m = 2 := by omega
    rcases this with rfl | rfl | rfl <;> decide +kernel
  have hpow : 2 ^ (7 * ps.length) ≤ 16384 ∧ 1 ≤ 2 ^ (7 * ps.length) := by
    generalize ps.length = m at h2 ⊢
    have : m = 0 ∨ m = 1 ∨ m = 2 := by omega
    rcases this with rfl | rfl | rfl <;> decide
  rw [chk_ok (by omega) (by omega), Option.bind_some, hs, Option.bind_some, hsh]
  generalize 2 ^ (7 * ps.length) = M at hpow ⊢
  rw [chk_ok (by omega) (by omega), Option.bind_some, Int.toNat_natCast]
  obtain ⟨q, f1, f2⟩ := forS_inv (body := mFareCheapest_L1451 l ps (l.map (tripPrice s))) (fun k q => (k = 0 ∧ q.1 = -1) ∨ (0 < k ∧ 0 ≤ q.1 ∧ (∃ j, j < k ∧ q.1 = cost ps (pairs s l) (buysOf ps.length j)) ∧ ∀ j, j < k → q.1 ≤ cost ps (pairs s l) (buysOf ps.length j))) M 0 (-1, []) (.inl ⟨rfl, rfl⟩) (fun k q _ hk hI => by
    obtain ⟨x, b⟩ := q
    obtain ⟨x', b', e1, e2, e3, e4⟩ := set_step s h l hl ht ps h2 hp k x b
    refine ⟨_, e1, .inr ⟨by omega, ?_⟩⟩
    rcases hI with ⟨k0, hx⟩ | ⟨k0, hx, ⟨j, j1, j2⟩, hle⟩
    · simp only at hx ⊢
      have e := e3 (by omega)
      refine ⟨by omega, ⟨k, by omega, e⟩, fun j hj => ?_⟩
      obtain rfl : j = k := by omega
      omega
    · simp only at hx j2 hle ⊢
      rcases e4 hx with ⟨ex, ey⟩ | ⟨ex, ey⟩
      · refine ⟨by omega, ⟨j, by omega, by omega⟩, fun i hi => ?_⟩
        by_cases ei : i = k
        · subst ei; omega
        · have := hle i (by omega); omega
      · refine ⟨by omega, ⟨k, by omega, ex⟩, fun i hi => ?_⟩
        by_cases ei : i = k
        · subst ei; omega
        · have := hle i (by omega); omega)
  rw [f1, Option.bind_some]
  obtain ⟨x, b⟩ := q
  rw [Nat.zero_add] at f2
  rcases f2 with ⟨f2, _⟩ | ⟨_, _, f3, f4⟩
  · omega
  · exact ⟨x, b, rfl, f3, f4⟩
end Go.Proofs.YtiajmiigkjmakaaGreatDoor
