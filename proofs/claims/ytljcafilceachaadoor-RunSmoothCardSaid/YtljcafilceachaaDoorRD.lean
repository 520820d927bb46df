/- Plain: RunSmooth. -/
import Derived.Test.YtljcafilceachaaDoorRA
set_option linter.unusedVariables false
set_option linter.unusedSimpArgs false
namespace Go.Proofs.YtljcafilceachaaDoor
open Go.RowKit Go.Fp

theorem getD_in {α : Type} (l : List α) (x : α) {j : Nat} (h : j < l.length) : l.getD j x = l[j] := by
  rw [List.getD_eq_getElem?_getD, List.getElem?_eq_getElem h]
  rfl
theorem getD_out {α : Type} (l : List α) (x : α) {j : Nat} (h : l.length ≤ j) : l.getD j x = x := by
  rw [List.getD_eq_getElem?_getD, List.getElem?_eq_none h]
  rfl
/-- A list holds the values of a function, as far as it reaches. -/
def Holds (u : List Int) (n : Nat) (f : Nat → Int) : Prop := u.length = n ∧ ∀ j, j < n → u[j]? = some (f j)
theorem holds_rep (n : Nat) : Holds (List.replicate n (0 : Int)) n (fun _ => 0) := ⟨List.length_replicate, fun j hj => by rw [List.getElem?_replicate, if_pos hj]⟩
def FitsF (f : Nat → Int) (p : List Int) (d : Nat) (limit : Int) : Prop := ∀ i (h : i < p.length), f (d + i) + p[i] ≤ limit
def addF (f : Nat → Int) (p : List Int) (d : Nat) : Nat → Int := fun j => if d ≤ j then f j + p.getD (j - d) 0 else f j
/-- What is used behind the first k of the powers, departing at 'out'. -/
def usedF (ps : List (List Int)) (out : List Int) : Nat → Nat → Int
  | 0 => fun _ => 0
  | k + 1 => addF (usedF ps out k) (ps.getD k []) (out.getD k 0).toNat
theorem usedF_congr (ps : List (List Int)) (o o' : List Int) : ∀ k, (∀ j, j < k → o.getD j 0 = o'.getD j 0) → usedF ps o k = usedF ps o' k
  | 0, _ => rfl
  | k + 1, h => by
    simp only [usedF]
    rw [usedF_congr ps o o' k (fun j hj => h j (by omega)), h k (by omega)]
structure Bd (f : Nat → Int) (limit : Int) : Prop where
  lo : ∀ j, 0 ≤ f j
  hi : ∀ j, f j ≤ limit
def PosP (p : List Int) : Prop := p.length ≤ 3600 ∧ ∀ (i : Nat) (h : i < p.length), 0 ≤ p[i] ∧ p[i] ≤ 1125899906842624
theorem addF_bd {f : Nat → Int} {p : List Int} {d : Nat} {limit : Int} (hf : Bd f limit) (hp : PosP p) (h : FitsF f p d limit) : Bd (addF f p d) limit := by
  have key : ∀ j, 0 ≤ addF f p d j ∧ addF f p d j ≤ limit := fun j => by
    have h1 := hf.lo j
    have h2 := hf.hi j
    unfold addF
    by_cases hd : d ≤ j
    · rw [if_pos hd]
      by_cases hj : j - d < p.length
      · have h3 := hp.2 (j - d) hj
        have h4 := h (j - d) hj
        rw [show d + (j - d) = j by omega] at h4
        rw [getD_in _ _ hj]
        omega
      · rw [getD_out _ _ (by omega)]
        omega
    · rw [if_neg hd]
      exact ⟨h1, h2⟩
  exact ⟨fun j => (key j).1, fun j => (key j).2⟩
theorem holds_idx {u : List Int} {n : Nat} {f : Nat → Int} (h : Holds u n f) {i : Int} {j : Nat} (hi : i = (j : Int)) (hj : j < n) : idx u i = some (f j) := by
  subst hi
  exact idx_nat (h.2 j hj)
/-- Both tests of whether powers fit. -/
theorem fits_gen {body : Nat → Unit → Option (Unit ⊕ Bool)} {u p : List Int} {n : Nat} {f : Nat → Int} {limit : Int} {d : Nat} (hu : Holds u n f) (hf : Bd f limit) (hl : 0 ≤ limit ∧ limit ≤ 36028797018963968) (hp : PosP p) (hd : d + p.length ≤ n) (hd2 : d ≤ 3600)
    (hb : ∀ (k : Nat) (x : Int), idx p (k : Int) = some x → body k () = (chk ((d : Int) + (k : Int))).bind fun _ => (idx u ((d : Int) + (k : Int))).bind fun y => (chk (y + x)).bind fun _ => if limit < y + x then some (.inr false) else some (.inl ())) :
    ∃ q, ((Go.Fp.forM body p.length 0 ()).bind fun t => Sum.elim (fun _ => some true) (fun q => some q) t) = some q ∧ (q = true ↔ FitsF f p d limit) := by
  rcases forM_inv (body := body) (fun k _ => ∀ i (h : i < p.length), i < k → f (d + i) + p[i] ≤ limit) (fun t => t = false ∧ ¬ FitsF f p d limit) p.length 0 () (fun i h h2 => by omega) (fun j s _ hj hi => by
    have hj' : j < p.length := by omega
    have h1 := hp.2 j hj'
    have h2 := hf.lo (d + j)
    have h3 := hf.hi (d + j)
    have h4 := hp.1
    have hbj := hb j p[j] (idx_lt hj')
    rw [chk_ok (by omega) (by omega), Option.bind_some, holds_idx hu (j := d + j) (by omega) (by omega), Option.bind_some, chk_ok (by omega) (by omega), Option.bind_some] at hbj
    by_cases hlt : limit < f (d + j) + p[j]
    · rw [if_pos hlt] at hbj
      exact .inr ⟨false, hbj, rfl, fun hh => by have := hh j hj'; omega⟩
    · rw [if_neg hlt] at hbj
      refine .inl ⟨(), hbj, fun i h hk => ?_⟩
      by_cases he : i = j
      · subst he; omega
      · exact hi i h (by omega)) with ⟨s, h1, h2⟩ | ⟨t, h1, h2, h3⟩
  · refine ⟨true, by rw [h1]; rfl, ⟨fun _ i h => h2 i h (by omega), fun _ => rfl⟩⟩
  · refine ⟨false, by rw [h1, h2]; rfl, ⟨fun h => (by cases h), fun h => absurd h h3⟩⟩
/-- Powers are added. -/
theorem add_gen {body : Nat → List Int → Option (List Int)} {u p : List Int} {n : Nat} {f : Nat → Int} {limit : Int} {d : Nat} (hu : Holds u n f) (hf : Bd f limit) (hl : limit ≤ 36028797018963968) (hp : PosP p) (hd : d + p.length ≤ n) (hd2 : d ≤ 3600)
    (hb : ∀ (k : Nat) (x : Int) (l : List Int), idx p (k : Int) = some x → body k l = (chk ((d : Int) + (k : Int))).bind fun _ => (idx l ((d : Int) + (k : Int))).bind fun y => (chk (y + x)).bind fun _ => (idx l ((d : Int) + (k : Int))).bind fun _ => some (put l ((d : Int) + (k : Int)) (y + x))) :
    ∃ u', forS body p.length 0 u = some u' ∧ Holds u' n (addF f p d) := by
  obtain ⟨u', h1, h2⟩ := forS_inv (body := body) (fun k l => Holds l n (fun j => if d ≤ j ∧ j < d + k then f j + p.getD (j - d) 0 else f j)) p.length 0 u (by
    refine ⟨hu.1, fun j hj => ?_⟩
    show u[j]? = some (if d ≤ j ∧ j < d + 0 then f j + p.getD (j - d) 0 else f j)
    rw [if_neg (by omega)]
    exact hu.2 j hj) (fun k l _ hk hi => by
    have hk' : k < p.length := by omega
    have h1 := hp.2 k hk'
    have h2 := hf.lo (d + k)
    have h3 := hf.hi (d + k)
    have h4 := hp.1
    rw [hb k p[k] l (idx_lt hk'), chk_ok (by omega) (by omega), Option.bind_some]
    have hv := holds_idx hi (i := (d : Int) + (k : Int)) (j := d + k) (by omega) (by omega)
    rw [if_neg (by omega)] at hv
    rw [hv, Option.bind_some, chk_ok (by omega) (by omega), Option.bind_some, Option.bind_some]
    refine ⟨_, rfl, ?_, fun j hj => ?_⟩
    · rw [put_length]; exact hi.1
    · show (put l ((d : Int) + (k : Int)) (f (d + k) + p[k]))[j]? = some (if d ≤ j ∧ j < d + (k + 1) then f j + p.getD (j - d) 0 else f j)
      have hij : l[j]? = some (if d ≤ j ∧ j < d + k then f j + p.getD (j - d) 0 else f j) := hi.2 j hj
      rw [show (d : Int) + (k : Int) = ((d + k : Nat) : Int) by omega, put_nat]
      by_cases he : d + k = j
      · subst he
        rw [List.getElem?_set_self (by rw [hi.1]; exact hj), if_pos (by omega), show d + k - d = k by omega, getD_in _ _ hk']
      · rw [List.getElem?_set_ne he, hij]
        by_cases hc : d ≤ j ∧ j < d + k
        · rw [if_pos hc, if_pos (by omega)]
        · rw [if_neg hc, if_neg (by omega)])
  refine ⟨u', h1, h2.1, fun j hj => ?_⟩
  have hj2 : u'[j]? = some (if d ≤ j ∧ j < d + (0 + p.length) then f j + p.getD (j - d) 0 else f j) := h2.2 j hj
  rw [hj2]
  unfold addF
  by_cases hc : d ≤ j
  · rw [if_pos hc]
    by_cases h3 : j < d + p.length
    · rw [if_pos (by omega)]
    · rw [if_neg (by omega), getD_out _ _ (by omega)]
      simp
  · rw [if_neg hc, if_neg (by omega)]
/-- What is said of the first k departures. -/
def Early (ps : List (List Int)) (out : List Int) (limit most : Int) (k : Nat) : Prop :=
  ∀ i, i < k → 0 ≤ out.getD i 0 ∧ out.getD i 0 ≤ most ∧ FitsF (usedF ps out i) (ps.getD i []) (out.getD i 0).toNat limit ∧ (0 < out.getD i 0 → ¬ FitsF (usedF ps out i) (ps.getD i []) (out.getD i 0 - 1).toNat limit)
theorem smooth_model (ps : List (List Int)) (limit most : Int) (hps : ∀ p ∈ ps, p.length ≤ 9223372036854775807) :
    (∃ e, mRunSmooth ps limit most = some (e, []) ∧ e ≠ 0) ∨
    ∃ out, mRunSmooth ps limit most = some (0, out) ∧ out.length = ps.length ∧ ps.length ≤ 12 ∧ (∀ p ∈ ps, PosP p) ∧ (0 ≤ limit ∧ limit ≤ 36028797018963968) ∧ (0 ≤ most ∧ most ≤ 3600) ∧ Early ps out limit most ps.length := by
  unfold mRunSmooth
  by_cases h1 : 12 < (ps.length : Int)
  · rw [if_pos h1]; exact .inl ⟨4, rfl, by decide⟩
  rw [if_neg h1]
  rcases forM_inv (body := mRunSmooth_L1077 ps) (fun k _ => ∀ p ∈ ps.take k, p.length ≤ 3600) (fun t => t = (4, [])) ps.length 0 () (by simp) (fun j s _ hj hi => by
    have hj' : j < ps.length := by omega
    unfold mRunSmooth_L1077
    rw [idx_lt hj', Option.bind_some]
    by_cases h2 : 3600 < (ps[j].length : Int)
    · rw [if_pos h2]; exact .inr ⟨_, rfl, rfl⟩
    · rw [if_neg h2]
      refine .inl ⟨(), rfl, fun p hp => ?_⟩
      rw [List.take_add_one, List.getElem?_eq_getElem hj'] at hp
      rcases List.mem_append.1 hp with h | h
      · exact hi p h
      · simp at h; subst h; omega) with ⟨s, g1, g2⟩ | ⟨t, g1, g2⟩
  case inr => rw [g1, g2]; exact .inl ⟨4, rfl, by decide⟩
  have hlen : ∀ p ∈ ps, p.length ≤ 3600 := fun p hp => g2 p (by simpa using hp)
  rw [g1]
  simp only [Option.bind_some, Sum.elim_inl]
  rcases forM_inv (body := mRunSmooth_L1115 ps) (fun k _ => ∀ p ∈ ps.take k, PosP p) (fun t => t = (2, [])) ps.length 0 () (by simp) (fun j s _ hj hi => by
    have hj' : j < ps.length := by omega
    unfold mRunSmooth_L1115
    rw [idx_lt hj', Option.bind_some]
    rcases forM_inv (body := mRunSmooth_L1184 ps[j]) (fun k _ => ∀ i (h : i < ps[j].length), i < k → 0 ≤ ps[j][i] ∧ ps[j][i] ≤ 1125899906842624) (fun t => t = .inr (2, [])) ps[j].length 0 () (fun i h h2 => by omega) (fun i s _ hi2 hi3 => by
      have hi' : i < ps[j].length := by omega
      unfold mRunSmooth_L1184
      rw [idx_lt hi', Option.bind_some, within_eq, Option.bind_some]
      by_cases h2 : 0 ≤ ps[j][i] ∧ ps[j][i] ≤ 1125899906842624
      · refine .inl ⟨(), by simp [h2], fun q h hq => ?_⟩
        by_cases he : q = i
        · subst he; exact h2
        · exact hi3 q h (by omega)
      · exact .inr ⟨_, by simp only [h2, decide_false]; rfl, rfl⟩) with ⟨s2, q1, q2⟩ | ⟨t, q1, q2⟩
    · rw [q1]
      refine .inl ⟨(), rfl, fun p hp => ?_⟩
      rw [List.take_add_one, List.getElem?_eq_getElem hj'] at hp
      rcases List.mem_append.1 hp with h | h
      · exact hi p h
      · simp at h
        subst h
        exact ⟨hlen _ (List.getElem_mem hj'), fun i h => q2 i h (by omega)⟩
    · rw [q1, q2]; exact .inr ⟨_, rfl, rfl⟩) with ⟨s, g3, g4⟩ | ⟨t, g3, g4⟩
  case inr => rw [g3, g4]; exact .inl ⟨2, rfl, by decide⟩
  have hpos : ∀ p ∈ ps, PosP p := fun p hp => g4 p (by simpa using hp)
  rw [g3]
  simp only [Option.bind_some, Sum.elim_inl, within_eq]
  by_cases hl : 0 ≤ limit ∧ limit ≤ 36028797018963968
  case neg => simp only [hl, decide_false]; exact .inl ⟨2, rfl, by decide⟩
  by_cases hmo : 0 ≤ most ∧ most ≤ 3600
  case neg => simp only [hl, hmo, decide_true, decide_false, and_self]; exact .inl ⟨2, rfl, by decide⟩
  simp only [hl, hmo, decide_true, and_self, if_true, Bool.not_true, Option.bind_some]
  rw [if_neg (by decide), chk_ok (by omega) (by omega), Option.bind_some]
  obtain ⟨M, hM⟩ : ∃ M : Nat, most = (M : Int) := ⟨most.toNat, by omega⟩
  subst hM
  rw [show ((M : Int) + 3600) = ((M + 3600 : Nat) : Int) by omega, mkLen_ok (by omega) (by omega), Option.bind_some]
  rcases forM_inv (body := mRunSmooth_L1245 ps limit (M : Int)) (fun k p => p.1.length = k ∧ Holds p.2 (M + 3600) (usedF ps p.1 k) ∧ Bd (usedF ps p.1 k) limit ∧ Early ps p.1 limit (M : Int) k) (fun t => t = (9, [])) ps.length 0 (([], List.replicate (M + 3600) (0 : Int)) : List Int × List Int)
      ⟨rfl, ⟨by simp, fun j hj => by simp [usedF, hj]⟩, ⟨fun j => by simp [usedF], fun j => by simp [usedF]; exact hl.1⟩, fun i hi => by omega⟩ (fun j p _ hj hi => by
    obtain ⟨out, u⟩ := p
    obtain ⟨i1, i2, i3, i4⟩ := hi
    simp only at i1 i2 i3 i4
    have hj' : j < ps.length := by omega
    have hpj := hpos _ (List.getElem_mem hj')
    have hgd : ps.getD j [] = ps[j] := getD_in _ _ hj'
    simp only [mRunSmooth_L1245, unc2]
    rw [idx_lt hj', Option.bind_some]
    obtain ⟨d, hd, q1⟩ := loopM_inv (step := mRunSmooth_L1919 limit (M : Int) u ps[j]) (fun x => 0 ≤ x ∧ x ≤ (M : Int) + 1 ∧ (0 < x → ¬ FitsF (usedF ps out j) ps[j] (x - 1).toNat limit))
      (fun x => 0 ≤ x ∧ x ≤ (M : Int) + 1 ∧ (0 < x → ¬ FitsF (usedF ps out j) ps[j] (x - 1).toNat limit) ∧ (x ≤ (M : Int) → FitsF (usedF ps out j) ps[j] x.toNat limit)) (fun x => ((M : Int) + 1 - x).toNat) (fun x hx => by
      obtain ⟨x1, x2, x3⟩ := hx
      unfold mRunSmooth_L1919
      by_cases hxm : x ≤ (M : Int)
      · rw [if_pos hxm]
        obtain ⟨D, rfl⟩ : ∃ D : Nat, x = (D : Int) := ⟨x.toNat, by omega⟩
        obtain ⟨q, hq, hiff⟩ := fits_gen (body := mRunSmooth_1_L121 (D : Int) ps[j] u limit) (u := u) (p := ps[j]) (n := M + 3600) (f := usedF ps out j) (limit := limit) (d := D) i2 i3 hl hpj (by have := hpj.1; omega) (by omega) (fun k y hy => by
          unfold mRunSmooth_1_L121
          rw [hy, Option.bind_some])
        rw [show mRunSmooth_1 (D : Int) ps[j] limit u = some q from hq, Option.bind_some, Option.bind_some]
        cases q with
        | true =>
          refine .inr ⟨(D : Int), by simp, x1, x2, x3, fun _ => ?_⟩
          rw [Int.toNat_natCast]
          exact hiff.1 rfl
        | false =>
          refine .inl ⟨(D : Int) + 1, ?_, ⟨by omega, by omega, fun _ hh => ?_⟩, by omega⟩
          · rw [chk_ok (by omega) (by omega)]; simp
          · rw [show ((D : Int) + 1 - 1).toNat = D by omega] at hh
            have := hiff.2 hh
            cases this
      · rw [if_neg hxm]
        exact .inr ⟨x, by simp, x1, x2, x3, fun h => absurd h hxm⟩) 0 ⟨by omega, by omega, fun h => by omega⟩
    obtain ⟨d1, d2, d3, d4⟩ := q1
    rw [hd, Option.bind_some]
    by_cases hdm : (M : Int) < d
    · rw [if_pos hdm]; exact .inr ⟨_, rfl, rfl⟩
    · rw [if_neg hdm]
      obtain ⟨D, rfl⟩ : ∃ D : Nat, d = (D : Int) := ⟨d.toNat, by omega⟩
      have hfit := d4 (by omega)
      rw [Int.toNat_natCast] at hfit
      obtain ⟨u', h1, h2⟩ := add_gen (body := mRunSmooth_L1974 ps[j] (D : Int)) (u := u) (p := ps[j]) (n := M + 3600) (f := usedF ps out j) (limit := limit) (d := D) i2 i3 hl.2 hpj (by have := hpj.1; omega) (by omega) (fun k x l hx => by
        unfold mRunSmooth_L1974
        rw [hx, Option.bind_some])
      rw [h1, Option.bind_some, room_ok (by omega) (by omega), Option.bind_some]
      have hc : ∀ k, k ≤ j → usedF ps (out ++ [(D : Int)]) k = usedF ps out k := fun k hk => usedF_congr ps _ _ k (fun i hi => by
        rw [List.getD_eq_getElem?_getD, List.getD_eq_getElem?_getD, List.getElem?_append_left (by omega)])
      have hlast : (out ++ [(D : Int)]).getD j 0 = (D : Int) := by
        rw [List.getD_eq_getElem?_getD, List.getElem?_append_right (by omega), i1, Nat.sub_self]
        rfl
      have hnew : usedF ps (out ++ [(D : Int)]) (j + 1) = addF (usedF ps out j) ps[j] D := by
        simp only [usedF]
        rw [hc j (Nat.le_refl _), hlast, hgd, Int.toNat_natCast]
      refine .inl ⟨_, rfl, by simp [i1], ?_, ?_, fun i hi => ?_⟩
      · simp only; rw [hnew]; exact h2
      · simp only; rw [hnew]; exact addF_bd i3 hpj hfit
      · simp only
        by_cases he : i = j
        · subst he
          rw [hlast, hc i (Nat.le_refl _), hgd]
          exact ⟨by omega, by omega, by rw [Int.toNat_natCast]; exact hfit, d3⟩
        · have h5 := i4 i (by omega)
          have h6 : (out ++ [(D : Int)]).getD i 0 = out.getD i 0 := by
            rw [List.getD_eq_getElem?_getD, List.getD_eq_getElem?_getD, List.getElem?_append_left (by omega)]
          rw [h6, hc i (by omega)]
          exact h5) with ⟨p, g5, g6⟩ | ⟨t, g5, g6⟩
  · rw [g5]
    obtain ⟨out, u⟩ := p
    refine .inr ⟨out, rfl, ?_, by omega, hpos, trivial, trivial, ?_⟩
    · have := g6.1
      simpa using this
    · have := g6.2.2.2
      simpa using this
  · rw [g5, g6]; exact .inl ⟨9, rfl, by decide⟩
theorem smoothPlain (ps : List (List Int)) (limit most : Int) (hps : ok59 ps) (hli : ok3 limit) (hmo : ok3 most) (sz : ps.length * 24 ≤ 140737488351232) : mFishkeep1RunSmooth ps limit most = some true := by
  unfold mFishkeep1RunSmooth
  rw [awake, Option.bind_some, if_pos rfl]
  rcases smooth_model ps limit most (fun p hp => (hps.2 p hp).1) with ⟨e, he, hne⟩ | ⟨out, ho, h1, h2, hpos, hl, hm, hE⟩
  · rw [he, Option.bind_some]
    simp [unc2, hne]
  rw [ho, Option.bind_some]
  simp only [unc2]
  rw [if_neg (by simp), if_neg (by omega), show mkLen 8 7201 = some 7201 from by decide, Option.bind_some]
  rcases forM_inv (body := mFishkeep1RunSmooth_L1265 ps limit most out) (fun k u => Holds u 7201 (usedF ps out k) ∧ Bd (usedF ps out k) limit) (fun t => False) ps.length 0 (List.replicate 7201 (0 : Int))
      ⟨holds_rep 7201, ⟨fun _ => Int.le_refl _, fun _ => hl.1⟩⟩ (fun j u _ hj hi => by
    obtain ⟨i1, i2⟩ := hi
    have hj' : j < ps.length := by omega
    have hpj := hpos _ (List.getElem_mem hj')
    have hgd : ps.getD j [] = ps[j] := getD_in _ _ hj'
    obtain ⟨e1, e2, e3, e4⟩ := hE j hj'
    have hjo : j < out.length := by omega
    have hod : out.getD j 0 = out[j] := getD_in _ _ hjo
    rw [hod] at e1 e2 e3 e4
    rw [hgd] at e3 e4
    obtain ⟨D, hD⟩ : ∃ D : Nat, out[j] = (D : Int) := ⟨out[j].toNat, by omega⟩
    have hix : idx out (j : Int) = some (D : Int) := by rw [idx_lt hjo, hD]
    rw [hD] at e1 e2 e3 e4
    rw [Int.toNat_natCast] at e3
    unfold mFishkeep1RunSmooth_L1265
    rw [idx_lt hj', Option.bind_some]
    simp only [hix, Option.bind_some]
    rw [if_neg (by omega), if_neg (by omega)]
    obtain ⟨q, hq, hiff⟩ := fits_gen (body := mFishkeep1Fits_L68 u ps[j] (D : Int) limit) (u := u) (p := ps[j]) (n := 7201) (f := usedF ps out j) (limit := limit) (d := D) i1 i2 hl hpj (by have := hpj.1; omega) (by omega) (fun k y hy => by
      unfold mFishkeep1Fits_L68
      rw [hy, Option.bind_some])
    have hqt : q = true := hiff.2 e3
    subst hqt
    rw [show mFishkeep1Fits u ps[j] (D : Int) limit = some true from hq, Option.bind_some, if_pos rfl]
    have hsecond : (if 0 < (D : Int) then ((chk ((D : Int) - 1)).bind fun _ => (mFishkeep1Fits u ps[j] ((D : Int) - 1) limit).bind fun x => some x) else some false) = some false := by
      by_cases h0 : 0 < (D : Int)
      · rw [if_pos h0, chk_ok (by omega) (by omega), Option.bind_some]
        obtain ⟨q, hq, hiff⟩ := fits_gen (body := mFishkeep1Fits_L68 u ps[j] ((D - 1 : Nat) : Int) limit) (u := u) (p := ps[j]) (n := 7201) (f := usedF ps out j) (limit := limit) (d := D - 1) i1 i2 hl hpj (by have := hpj.1; omega) (by omega) (fun k y hy => by
          unfold mFishkeep1Fits_L68
          rw [hy, Option.bind_some])
        have hqf : q = false := by
          cases q with
          | false => rfl
          | true =>
            have := hiff.1 rfl
            have h9 := e4 h0
            rw [show ((D : Int) - 1).toNat = D - 1 by omega] at h9
            exact absurd this h9
        subst hqf
        rw [show (D : Int) - 1 = ((D - 1 : Nat) : Int) by omega, show mFishkeep1Fits u ps[j] ((D - 1 : Nat) : Int) limit = some false from hq]
        rfl
      · rw [if_neg h0]
    rw [hsecond, Option.bind_some, if_neg (by decide)]
    obtain ⟨u', h3, h4⟩ := add_gen (body := mFishkeep1RunSmooth_L2278 j out ps[j]) (u := u) (p := ps[j]) (n := 7201) (f := usedF ps out j) (limit := limit) (d := D) i1 i2 hl.2 hpj (by have := hpj.1; omega) (by omega) (fun k x l hx => by
      unfold mFishkeep1RunSmooth_L2278
      rw [hx, Option.bind_some, hix, Option.bind_some])
    rw [h3, Option.bind_some]
    have hnew : usedF ps out (j + 1) = addF (usedF ps out j) ps[j] D := by
      simp only [usedF]
      rw [hgd, hod, hD, Int.toNat_natCast]
    refine .inl ⟨u', rfl, ?_, ?_⟩
    · rw [hnew]; exact h4
    · rw [hnew]; exact addF_bd i2 hpj e3) with ⟨u, h3, _⟩ | ⟨t, _, h3⟩
  · rw [h3]; rfl
  · exact h3.elim
end Go.Proofs.YtljcafilceachaaDoor
