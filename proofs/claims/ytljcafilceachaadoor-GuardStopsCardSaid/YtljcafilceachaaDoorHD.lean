/- Plain: GuardStops. -/
import Derived.Test.YtljcafilceachaaDoorHC
set_option linter.unusedVariables false
set_option linter.unusedSimpArgs false
namespace Go.Proofs.YtljcafilceachaaDoor
open Go.RowKit Go.Fp

theorem may_shift {b : Int} {L : List ApiPiece} (hL : WayOk L) {E tail tail' p p' w : Int} (ht : tail ≤ tail') (hp : p' ≤ p) (htp : tail < p') (h : May b L E tail p w) : May b L E tail' p' w := by
  refine ⟨by have := h.1; omega, fun i hi => ?_⟩
  have hbs := beg_succ hi
  have hl := (hL.at hi).length
  obtain ⟨h1, h2⟩ := h.2 i hi
  refine ⟨fun hc => ?_, fun hc hd => h2 (by omega) (by omega)⟩
  by_cases hd : p ≤ beg L i
  · have := h1 hd
    omega
  · rw [way_stop (h2 (by omega) (by omega))]
    omega
theorem here_ex {L : List ApiPiece} (hL : WayOk L) (s : ApiStock) {p : Int} (hp : 0 ≤ p) : ∃ i, Here L p i := by
  obtain ⟨B, _, hB⟩ := begins_model hL
  obtain ⟨i, h, _⟩ := grade_ok hL hB hp s 0 0 []
  exact ⟨i, h⟩
theorem guard_step {s : ApiStock} (hc : mRunCheck s = some 0) (hs : Good s) {L : List ApiPiece} (hL : WayOk L) {a : ApiState} {low high E demand : Int} (hl : 0 ≤ low ∧ low ≤ a.At) (hh : a.At ≤ high ∧ high ≤ beg L L.length) (hE : 0 ≤ E ∧ E ≤ beg L L.length) (hv : 0 ≤ a.Speed ∧ a.Speed ≤ s.Top) (hk : 0 ≤ a.Work ∧ a.Work ≤ 1152921504606846976) (hd : 0 ≤ demand ∧ demand ≤ 6000)
    (hsafe : Safe (s.Brake - 40) L E (100 * s.Length) a.At a.Speed) :
    ∃ w W, mGuardNext s L a low high E demand = some (a.At + gone a.Speed w, w, W, 0) ∧ 0 ≤ w ∧ w ≤ s.Top ∧ w ≤ max demand a.Speed ∧ May (s.Brake - 40) L E (a.At - 100 * s.Length) (a.At + gone a.Speed w) w ∧ a.Work ≤ W ∧ W ≤ a.Work + 100000000000 := by
  have hb := hs.brake
  have htop := hs.top
  have hlen := hs.length
  obtain ⟨i, h⟩ := here_ex hL s (p := a.At) (by omega)
  obtain ⟨P, w, e1, hw, p1, p2, p3, _⟩ := next_ok hc hs hL hl hh hE hv hk hd h
  have hgd := (hL.at h.lt).grade
  generalize (L[i]'h.lt).Grade = g at e1 hw hgd
  obtain ⟨_, g2, g3, g4, g5⟩ := gain_ok hs (v := a.Speed) (g := g) hv.1 (by omega) hgd
  have hw0 : 0 ≤ w ∧ w ≤ s.Top := by omega
  have hwk := work_bd hs (a := a) (g := g) (w := w) ⟨hv.1, by omega⟩ hgd ⟨hw0.1, by omega⟩
  have hbrake := may_brake (by omega) hL hv.1 (by omega) hsafe
  refine ⟨w, _, e1, hw0.1, hw0.2, by omega, ?_, hwk.1, hwk.2⟩
  by_cases hlo : w ≤ max 0 (a.Speed - (s.Brake + g))
  · exact may_less (by omega) hL (by omega) hv.1 hw0.1 (by omega) (by omega) hbrake
  · have hm := may_less (by omega) hL (by omega) hv.1 hw0.1 (by omega : w ≤ P) (by omega) (p3 (by omega))
    have hgw := gone_bd (v := a.Speed) (w := w) hv.1 hw0.1
    exact may_shift hL (by omega) (by omega) (by omega) hm
theorem limits_ok {s : ApiStock} (hs : Good s) {L : List ApiPiece} (hL : WayOk L) {a c : ApiState} (ha : 0 ≤ a.At ∧ a.At ≤ 18000000) (h : ∀ (i : Nat) (hi : i < L.length), beg L i < c.At → a.At - 100 * s.Length < beg L (i + 1) → c.Speed ≤ L[i].Speed) : mFishkeep1LimitsKept s L a c = some true := by
  have hlen := hs.length
  have hf := hL.few
  unfold mFishkeep1LimitsKept
  rcases forM_inv (body := mFishkeep1LimitsKept_L108 L s a c) (fun k x => x = beg L k) (fun _ => False) L.length 0 0 rfl (fun k x _ hk hi => by
    subst hi
    have hk' : k < L.length := by omega
    have hbd := beg_bd hL k (by omega)
    have hpl := (hL.at hk').length
    have hbs := beg_succ hk'
    unfold mFishkeep1LimitsKept_L108
    rw [idx_lt hk', Option.bind_some, ← hbs]
    have hz : (if beg L k < c.At then ((chk (beg L (k + 1))).bind fun _ => (chk (100 * s.Length)).bind fun _ => (chk (a.At - 100 * s.Length)).bind fun _ => if a.At - 100 * s.Length < beg L (k + 1) then some (decide (L[k].Speed < c.Speed)) else some false) else some false) = some false := by
      by_cases h1 : beg L k < c.At
      · rw [if_pos h1, chk_ok (by omega) (by omega), Option.bind_some, chk_ok (by omega) (by omega), Option.bind_some, chk_ok (by omega) (by omega), Option.bind_some]
        by_cases h2 : a.At - 100 * s.Length < beg L (k + 1)
        · have := h k hk' h1 h2
          rw [if_pos h2]
          have h3 : ¬ L[k].Speed < c.Speed := by omega
          simp [h3]
        · rw [if_neg h2]
      · rw [if_neg h1]
    rw [hz, Option.bind_some, if_neg (by decide), chk_ok (by omega) (by omega), Option.bind_some]
    exact .inl ⟨_, rfl, rfl⟩) with ⟨x, e1, _⟩ | ⟨t, _, e2⟩
  · rw [e1]; rfl
  · exact e2.elim
theorem span_ok {x m : Int} (hx : 0 ≤ x ∧ x ≤ 20000000) (hm : 0 ≤ m ∧ m ≤ 20000000) : ∃ sl, 200 ≤ sl ∧ sl ≤ 1000200 ∧ mGuardSpan x m true = some (max x (x + m - sl), x + m + sl, 0) := by
  refine ⟨200 + Int.tdiv m 20, ?_, ?_, ?_⟩
  · rw [Int.tdiv_eq_ediv_of_nonneg hm.1]; omega
  · rw [Int.tdiv_eq_ediv_of_nonneg hm.1]; omega
  · have h1 : 0 ≤ Int.tdiv m 20 ∧ Int.tdiv m 20 ≤ 1000000 := by rw [Int.tdiv_eq_ediv_of_nonneg hm.1]; omega
    unfold mGuardSpan
    simp only [gwithin_eq, Option.bind_some, hx, hm, and_self, decide_true, if_true, Bool.not_true]
    rw [if_neg (by decide), chk_ok (by omega) (by omega), Option.bind_some, show ne0 20 = some () from rfl, Option.bind_some, chk_ok (by omega) (by omega), Option.bind_some, chk_ok (by omega) (by omega), Option.bind_some, chk_ok (by omega) (by omega), Option.bind_some, chk_ok (by omega) (by omega), Option.bind_some]
theorem part_bd {f e : Int} (hf : 0 ≤ f ∧ f ≤ 1000200) (he : 0 ≤ e ∧ e ≤ 2000) : 0 ≤ f * e ∧ f * e ≤ 2000400000 ∧ 0 ≤ Int.tdiv (f * e) 1000 ∧ Int.tdiv (f * e) 1000 ≤ 2000400 := by
  have h1 : 0 ≤ f * e := Int.mul_nonneg hf.1 he.1
  have h2 : f * e ≤ 1000200 * 2000 := Int.mul_le_mul hf.2 he.2 he.1 (by decide)
  rw [Int.tdiv_eq_ediv_of_nonneg h1]
  omega
structure RideI (s : ApiStock) (L : List ApiPiece) (k : Nat) (E last p v W : Int) : Prop where
  end_ : 0 ≤ E ∧ E ≤ beg L L.length
  last : 0 ≤ last ∧ last ≤ p
  pos : 0 ≤ p ∧ p ≤ E
  speed : 0 ≤ v ∧ v ≤ s.Top
  work : 0 ≤ W ∧ W ≤ 100000000000 * k
  safe : Safe (s.Brake - 40) L E (100 * s.Length) p v
theorem ride_ok {s : ApiStock} (hc : mRunCheck s = some 0) (hs : Good s) {L : List ApiPiece} (hL : WayOk L) {R : List Fishkeep1Ride} {k : Nat} (hk : k < R.length) (hk4 : k < 400) {E last p v W : Int} (h : RideI s L k E last p v W) :
    (∃ s', mFishkeep1GuardStops_L630 L s R (beg L L.length) k (E, last, p, v, W) = some (.inl s') ∧ RideI s L (k + 1) s'.1 s'.2.1 s'.2.2.1 s'.2.2.2.1 s'.2.2.2.2) ∨ ∃ t, mFishkeep1GuardStops_L630 L s R (beg L L.length) k (E, last, p, v, W) = some (.inr t) ∧ t = true := by
  have htop := hs.top
  have hb := hs.brake
  have htot := total_bd hL
  have i1 := h.end_
  have i2 := h.last
  have i3 := h.pos
  have i4 := h.speed
  have i5 := h.work
  have i6 := h.safe
  simp only [mFishkeep1GuardStops_L630, unc5]
  rw [idx_lt hk, Option.bind_some]
  obtain ⟨q, hq, hq0, hq1⟩ : ∃ q, (if v = 0 then some p else some last) = some q ∧ 0 ≤ q ∧ q ≤ p := by
    by_cases hv : v = 0
    · exact ⟨p, by rw [if_pos hv], by omega, by omega⟩
    · exact ⟨last, by rw [if_neg hv], by omega, by omega⟩
  rw [hq, Option.bind_some, chk_ok (by omega) (by omega), Option.bind_some]
  obtain ⟨sl, s1, s2, e1⟩ := span_ok (x := q) (m := p - q) (by omega) (by omega)
  rw [e1, Option.bind_some]
  simp only [unc3]
  rw [if_neg (by simp)]
  generalize R[k] = x
  by_cases hE1 : x.Err < -1000
  · exact .inr ⟨true, by simp [hE1], rfl⟩
  by_cases hE2 : 1000 < x.Err
  · exact .inr ⟨true, by simp [hE2], rfl⟩
  rw [if_neg hE1]
  simp only [hE2, decide_false, Option.bind_some]
  rw [if_neg (by decide)]
  have hpq : q + (p - q) = p := by omega
  rw [hpq]
  have hfar : 0 ≤ Int.tdiv (p + sl - max q (p - sl)) 2 ∧ Int.tdiv (p + sl - max q (p - sl)) 2 ≤ 1000200 := by
    rw [Int.tdiv_eq_ediv_of_nonneg (by omega)]
    omega
  rw [chk_ok (x := p + sl - max q (p - sl)) (by omega) (by omega), Option.bind_some, show ne0 2 = some () from rfl, Option.bind_some, chk_ok (by omega) (by omega), Option.bind_some]
  generalize Int.tdiv (p + sl - max q (p - sl)) 2 = f at hfar
  obtain ⟨a1, a2, a3, a4⟩ := part_bd hfar (e := 1000 - x.Err) (by omega)
  obtain ⟨b1, b2, b3, b4⟩ := part_bd hfar (e := 1000 + x.Err) (by omega)
  rw [chk_ok (x := 1000 - x.Err) (by omega) (by omega), Option.bind_some, chk_ok (x := f * (1000 - x.Err)) (by omega) (by omega), Option.bind_some, show ne0 1000 = some () from rfl, Option.bind_some]
  generalize Int.tdiv (f * (1000 - x.Err)) 1000 = d1 at a3 a4
  rw [chk_ok (x := d1) (by omega) (by omega), Option.bind_some, chk_ok (x := p - d1) (by omega) (by omega), Option.bind_some, chk_ok (x := 1000 + x.Err) (by omega) (by omega), Option.bind_some, chk_ok (x := f * (1000 + x.Err)) (by omega) (by omega), Option.bind_some, Option.bind_some]
  generalize Int.tdiv (f * (1000 + x.Err)) 1000 = d2 at b3 b4
  rw [chk_ok (x := d2) (by omega) (by omega), Option.bind_some, chk_ok (x := p + d2) (by omega) (by omega), Option.bind_some]
  rw [Stop_model hc hs i4.1 (by omega), Option.bind_some]
  simp only [unc2]
  have hwb := way_bd (b := s.Brake - 40) (t := 0) (by omega) (by omega) _ v (Nat.le_refl _) i4.1 (by omega)
  generalize hhi : min (p + d2) (beg L L.length) = high
  generalize hlo : max (p - d1) 0 = low
  rw [chk_ok (x := high + way (s.Brake - 40) 0 v) (by omega) (by omega), Option.bind_some]
  obtain ⟨E', hE', hE0, hEs⟩ : ∃ E', ((if high + way (s.Brake - 40) 0 v ≤ x.End then some (decide (x.End ≤ beg L L.length)) else some false).bind fun c => if c = true then some x.End else some E) = some E' ∧ (0 ≤ E' ∧ E' ≤ beg L L.length) ∧ Safe (s.Brake - 40) L E' (100 * s.Length) p v := by
    by_cases h1 : high + way (s.Brake - 40) 0 v ≤ x.End
    · by_cases h2 : x.End ≤ beg L L.length
      · exact ⟨x.End, by simp [h1, h2], by omega, ⟨by omega, i6.slow, i6.here⟩⟩
      · exact ⟨E, by simp [h1, h2], i1, i6⟩
    · exact ⟨E, by simp [h1], i1, i6⟩
  rw [hE', Option.bind_some]
  by_cases hD1 : x.Demand < 0
  · exact .inr ⟨true, by simp [hD1], rfl⟩
  by_cases hD2 : 6000 < x.Demand
  · exact .inr ⟨true, by simp [hD2], rfl⟩
  rw [if_neg hD1]
  simp only [hD2, decide_false, Option.bind_some]
  rw [if_neg (by decide)]
  obtain ⟨w, W', n1, n2, n3, n4, n5, n6, n7⟩ := guard_step hc hs hL (a := ⟨p, v, W⟩) (low := low) (high := high) (E := E') (demand := x.Demand) ⟨by omega, by simp only; omega⟩ ⟨by simp only; omega, by omega⟩ hE0 i4 ⟨i5.1, by simp only; omega⟩ ⟨by omega, by omega⟩ hEs
  simp only at n1 n4 n5 n6 n7
  have hgw := gone_bd (v := v) (w := w) i4.1 n2
  have hww := way_bd (b := s.Brake - 40) (t := 0) (by omega) (by omega) _ w (Nat.le_refl _) n2 (by omega)
  have hm1 := n5.1
  rw [n1, Option.bind_some]
  simp only [unc4]
  rw [if_neg (by simp), if_neg (by omega), if_neg (by omega), if_neg (by omega)]
  rw [limits_ok hs hL (a := ⟨p, v, W⟩) (c := ⟨p + gone v w, w, W'⟩) (by simp only; omega) (fun i hi h1 h2 => (n5.2 i hi).2 h1 h2), Option.bind_some, Option.bind_some]
  simp only [Bool.not_true]
  rw [if_neg (by decide)]
  refine .inl ⟨_, rfl, hE0, ⟨by simp only; omega, by simp only; omega⟩, ⟨by simp only; omega, by simp only; omega⟩, ⟨n2, n3⟩, ⟨by simp only; omega, ?_⟩, ?_⟩
  · have : (100000000000 : Int) * ((k + 1 : Nat) : Int) = 100000000000 * (k : Int) + 100000000000 := by omega
    simp only
    omega
  · exact safe_next (p := p) (p' := p + gone v w) (by omega) n5
theorem guardStopsPlain (s : ApiStock) (L : List ApiPiece) (from_ E : Int) (R : List Fishkeep1Ride) (hs : ok43 s) (_ : ok80 L) (_ : ok3 from_) (_ : ok3 E) (_ : ok95 R) (_ : L.length * 24 ≤ 140737488351232) (_ : R.length * 24 ≤ 140737488351232) : mFishkeep1GuardStops s L from_ E R = some true := by
  obtain ⟨e, he, hg⟩ := check2_spec (s := s) hs.1 L ⟨from_, 0, 0⟩ E
  unfold mFishkeep1GuardStops
  rw [awakeG, Option.bind_some, if_pos rfl]
  by_cases h0 : e ≠ 0
  · have : mRunSecond s L ⟨from_, 0, 0⟩ E = some (0, 0, 0, e) := by
      unfold mRunSecond
      rw [he, Option.bind_some, if_pos h0]
    rw [this, Option.bind_some]
    simp [unc4, h0]
  have h0' : e = 0 := by omega
  subst h0'
  obtain ⟨hc, good, hL, hE, hp, hv, hk⟩ := hg rfl
  obtain ⟨i, h, r, w, e1, _⟩ := Second_val hc good hL ⟨from_, 0, 0⟩ E hE hp hv hk
  rw [e1, Option.bind_some]
  simp only [unc4]
  rw [if_neg (by simp), total_model (body := mFishkeep1GuardStops_L570 L) hL (fun k x => rfl), Option.bind_some]
  have hcut : cutS R 0 (min (R.length : Int) 400) = some ((R.take (min R.length 400)).drop 0) := by
    have h1 : min (R.length : Int) 400 = ((min R.length 400 : Nat) : Int) := by omega
    rw [h1]
    exact cutS_ok (a := 0) (by omega) (by omega)
  rw [hcut, Option.bind_some]
  simp only at hp
  have hn : ((R.take (min R.length 400)).drop 0).length ≤ 400 := by simp; omega
  generalize (R.take (min R.length 400)).drop 0 = R' at hn
  have hsafe0 : Safe (s.Brake - 40) L E (100 * s.Length) from_ 0 := ⟨by rw [way_stop (Int.le_refl _)]; omega, fun i hi hpi => by rw [way_stop (by have := (hL.at hi).speed; omega)]; omega, fun i hi _ _ => by have := (hL.at hi).speed; omega⟩
  rcases forM_inv (body := mFishkeep1GuardStops_L630 L s R' (beg L L.length)) (fun k p => RideI s L k p.1 p.2.1 p.2.2.1 p.2.2.2.1 p.2.2.2.2) (fun t => t = true) R'.length 0 (E, from_, from_, 0, 0)
      ⟨hE, ⟨hp.1, Int.le_refl _⟩, hp, hv, ⟨Int.le_refl _, by simp⟩, hsafe0⟩ (fun k p _ hk hi => by
        obtain ⟨E1, last, p1, v, W⟩ := p
        exact ride_ok hc good hL (by omega) (by omega) hi) with ⟨p, e2, _⟩ | ⟨t, e2, rfl⟩
  · rw [e2]
    obtain ⟨E1, last, p1, v, W⟩ := p
    rfl
  · rw [e2]
    rfl
end Go.Proofs.YtljcafilceachaaDoor
