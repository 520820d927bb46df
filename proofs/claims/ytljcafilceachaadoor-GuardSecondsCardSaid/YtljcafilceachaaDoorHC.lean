/- Plain: what a supervised train may do, and GuardSeconds. -/
import Derived.Test.YtljcafilceachaaDoorHB
set_option linter.unusedVariables false
set_option linter.unusedSimpArgs false
namespace Go.Proofs.YtljcafilceachaaDoor
open Go.RowKit Go.Fp

noncomputable abbrev gintoM (s : ApiStock) (L : List ApiPiece) (v t : Int) (m : List (Int × List Int)) := mGuardRuleInto v t s.Name s.Length s.Mass s.Start s.Power s.Roll s.Drag s.Brake s.Top s.Seats L m
theorem ginto_ok {s : ApiStock} (hs : Good s) (L : List ApiPiece) {v t : Int} (h0 : 0 ≤ v) (h1 : v ≤ 6000) (ht : 0 ≤ t) (ht' : t ≤ 6000) {m : List (Int × List Int)} (hm : MemoOk (s.Brake - 40) m) :
    ∃ m', gintoM s L v t m = some (way (s.Brake - 40) t v, m') ∧ MemoOk (s.Brake - 40) m' := by
  have hb := hs.brake
  unfold gintoM mGuardRuleInto
  by_cases hv : v ≤ t
  · rw [if_pos hv, way_stop hv]; exact ⟨m, rfl, hm⟩
  rw [if_neg hv]
  obtain ⟨l, hl, hq1, hq2⟩ := loopM_inv (step := mGuardRuleInto_L674 v t s.Brake) (fun p => p.1 = (p.2.length : Int) ∧ ∀ j : Nat, j < p.2.length → p.2[j]? = some (way (s.Brake - 40) t (j : Int)))
    (fun l => v < (l.length : Int) ∧ ∀ j : Nat, j < l.length → l[j]? = some (way (s.Brake - 40) t (j : Int))) (fun p => (v + 1 - p.1).toNat) (fun p hp => by
    obtain ⟨x, l⟩ := p
    obtain ⟨q1, q2⟩ := hp
    simp only at q1 q2
    subst q1
    simp only [mGuardRuleInto_L674, unc2]
    by_cases hx : (l.length : Int) ≤ v
    · rw [if_pos hx]
      have hval : (if t < (l.length : Int) then ((chk (s.Brake - 40)).bind fun _ => (chk ((l.length : Int) - (s.Brake - 40))).bind fun _ => (chk ((l.length : Int) + max t ((l.length : Int) - (s.Brake - 40)))).bind fun _ => (chk ((l.length : Int) + max t ((l.length : Int) - (s.Brake - 40)) + 1)).bind fun _ => (ne0 2).bind fun _ => (chk (Int.tdiv ((l.length : Int) + max t ((l.length : Int) - (s.Brake - 40)) + 1) 2)).bind fun _ => (idx l (max t ((l.length : Int) - (s.Brake - 40)))).bind fun y => (chk (Int.tdiv ((l.length : Int) + max t ((l.length : Int) - (s.Brake - 40)) + 1) 2 + y)).bind fun _ => some (Int.tdiv ((l.length : Int) + max t ((l.length : Int) - (s.Brake - 40)) + 1) 2 + y)) else some 0) = some (way (s.Brake - 40) t (l.length : Int)) := by
        by_cases ht2 : t < (l.length : Int)
        · obtain ⟨w, hw⟩ : ∃ w : Nat, max t ((l.length : Int) - (s.Brake - 40)) = (w : Int) := ⟨(max t ((l.length : Int) - (s.Brake - 40))).toNat, by omega⟩
          have hwl : w < l.length := by omega
          have hgb := gone_bd (v := (l.length : Int)) (w := (w : Int)) (by omega) (by omega)
          have h2 := way_go (b := s.Brake - 40) (t := t) (v := (l.length : Int)) (by omega) ht2
          have h3 := way_bd (b := s.Brake - 40) (t := t) (by omega) ht _ (l.length : Int) (Nat.le_refl _) (by omega) (by omega)
          rw [hw] at h2 ⊢
          rw [if_pos ht2, chk_ok (by omega) (by omega), Option.bind_some, chk_ok (by omega) (by omega), Option.bind_some, chk_ok (by omega) (by omega), Option.bind_some, chk_ok (by omega) (by omega), Option.bind_some]
          simp only [ne0, if_neg (show ¬ (2 : Int) = 0 by decide), Option.bind_some]
          rw [show Int.tdiv ((l.length : Int) + (w : Int) + 1) 2 = gone (l.length : Int) (w : Int) from rfl, chk_ok (by omega) (by omega), Option.bind_some, idx_nat (q2 w hwl), Option.bind_some]
          rw [← h2, chk_ok (by omega) (by omega)]
          rfl
        · rw [if_neg ht2, way_stop (by omega)]
      rw [hval, Option.bind_some, room_ok (by omega) (by omega), Option.bind_some, chk_ok (by omega) (by omega), Option.bind_some]
      refine .inl ⟨_, rfl, ⟨by simp, fun j hj => ?_⟩, by simp only; omega⟩
      simp only at hj ⊢
      rw [List.length_append, List.length_singleton] at hj
      by_cases he : j < l.length
      · rw [List.getElem?_append_left he]; exact q2 j he
      · obtain rfl : j = l.length := by omega
        rw [List.getElem?_append_right (Nat.le_refl _), Nat.sub_self]
        rfl
    · rw [if_neg hx]
      exact .inr ⟨l, rfl, by omega, q2⟩) (((mgetD m t []).length : Int), mgetD m t []) ⟨rfl, memo_get hm t⟩
  rw [hl, Option.bind_some]
  obtain ⟨V, hV⟩ : ∃ V : Nat, v = (V : Int) := ⟨v.toNat, by omega⟩
  subst hV
  rw [idx_nat (hq2 V (by omega)), Option.bind_some]
  exact ⟨_, rfl, memo_put hm t l hq2⟩
noncomputable abbrev gmayM (s : ApiStock) (L : List ApiPiece) (low at_ E w : Int) (m : List (Int × List Int)) := mGuardRuleMay low at_ E w s.Name s.Length s.Mass s.Start s.Power s.Roll s.Drag s.Brake s.Top s.Seats L m
theorem gmay_ok {s : ApiStock} (hs : Good s) {L : List ApiPiece} (hL : WayOk L) {E : Int} (hE : 0 ≤ E ∧ E ≤ 18000000) {low at_ w : Int} (h0 : 0 ≤ w) (h1 : w ≤ 6000) (hl : 0 ≤ low ∧ low ≤ 100000000) (ha : 0 ≤ at_ ∧ at_ ≤ 100000000) {m : List (Int × List Int)} (hm : MemoOk (s.Brake - 40) m) :
    ∃ q m', gmayM s L low at_ E w m = some (q, m') ∧ MemoOk (s.Brake - 40) m' ∧ (q = true ↔ May (s.Brake - 40) L E (low - 100 * s.Length) at_ w) := by
  have hb := hs.brake
  have hlen := hs.length
  obtain ⟨m1, e1, hm1⟩ := ginto_ok hs L h0 h1 (t := 0) (by omega) (by omega) hm
  have hw0 := way_bd (b := s.Brake - 40) (t := 0) (by omega) (by omega) _ w (Nat.le_refl _) h0 h1
  unfold gmayM mGuardRuleMay
  unfold gintoM at e1
  rw [e1, Option.bind_some]
  simp only [unc2]
  rw [chk_ok (by omega) (by omega), Option.bind_some]
  by_cases hA : E - at_ < way (s.Brake - 40) 0 w
  · refine ⟨false, m1, by simp [hA], hm1, ⟨fun h => (by cases h), fun h => ?_⟩⟩
    have := h.1
    omega
  rw [if_neg hA]
  rcases forM_inv (body := mGuardRuleMay_L324 low at_ w L s.Name s.Length s.Mass s.Start s.Power s.Roll s.Drag s.Brake s.Top s.Seats)
      (fun k p => p.1 = beg L k ∧ MemoOk (s.Brake - 40) p.2 ∧ ∀ (i : Nat) (hi : i < L.length), i < k → (at_ ≤ beg L i → way (s.Brake - 40) L[i].Speed w ≤ beg L i - at_) ∧ (beg L i < at_ → low - 100 * s.Length < beg L (i + 1) → w ≤ L[i].Speed))
      (fun t => t.1 = false ∧ MemoOk (s.Brake - 40) t.2 ∧ ¬ May (s.Brake - 40) L E (low - 100 * s.Length) at_ w) L.length 0 (0, m1) ⟨rfl, hm1, fun i hi h => by omega⟩ (fun k p _ hk hi => by
    obtain ⟨x, m2⟩ := p
    obtain ⟨i0, i1, i2⟩ := hi
    simp only at i0 i1
    subst i0
    have hk' : k < L.length := by omega
    have hp := hL.at hk'
    have hbk := beg_bd hL k (by omega)
    have hfew := hL.few
    have hsp := hp.speed
    have hpl := hp.length
    have hbs := beg_succ hk'
    simp only [mGuardRuleMay_L324, unc2]
    rw [idx_lt hk', Option.bind_some]
    by_cases hc : at_ ≤ beg L k
    · obtain ⟨m3, e3, hm3⟩ := ginto_ok hs L h0 h1 (t := L[k].Speed) (by omega) (by omega) i1
      unfold gintoM at e3
      rw [if_pos hc, e3, Option.bind_some]
      simp only [unc2]
      rw [chk_ok (by omega) (by omega), Option.bind_some]
      by_cases hd : beg L k - at_ < way (s.Brake - 40) L[k].Speed w
      · rw [if_pos hd]
        refine .inr ⟨_, rfl, rfl, hm3, fun h => ?_⟩
        have := (h.2 k hk').1 hc
        omega
      · rw [if_neg hd, Option.bind_some]
        simp only [Sum.elim_inl]
        rw [chk_ok (by omega) (by omega), Option.bind_some]
        refine .inl ⟨_, rfl, hbs.symm, hm3, fun i hi hik => ?_⟩
        by_cases he : i = k
        · subst he
          exact ⟨fun _ => by omega, fun h => by omega⟩
        · exact i2 i hi (by omega)
    · rw [if_neg hc, chk_ok (by omega) (by omega), Option.bind_some, chk_ok (by omega) (by omega), Option.bind_some, chk_ok (by omega) (by omega), Option.bind_some, ← hbs]
      by_cases hd : low - 100 * s.Length < beg L (k + 1) ∧ L[k].Speed < w
      · rw [if_pos hd.1]
        simp only [hd.2, decide_true, Option.bind_some, if_true, Sum.elim_inr]
        refine .inr ⟨_, rfl, rfl, i1, fun h => ?_⟩
        have := (h.2 k hk').2 (by omega) hd.1
        omega
      · have hz : (if low - 100 * s.Length < beg L (k + 1) then some (decide (L[k].Speed < w)) else some false) = some false := by
          by_cases h5 : low - 100 * s.Length < beg L (k + 1)
          · have h6 : ¬ L[k].Speed < w := fun h => hd ⟨h5, h⟩
            simp [h5, h6]
          · rw [if_neg h5]
        rw [hz, Option.bind_some, if_neg (by decide), Option.bind_some]
        simp only [Sum.elim_inl]
        rw [Option.bind_some]
        refine .inl ⟨_, rfl, rfl, i1, fun i hi hik => ?_⟩
        by_cases he : i = k
        · subst he
          exact ⟨fun h => by omega, fun _ ht => by
            have : ¬ L[i].Speed < w := fun h => hd ⟨ht, h⟩
            omega⟩
        · exact i2 i hi (by omega)) with ⟨p, e2, hp0, hm2, hall⟩ | ⟨t, e2, ht1, ht2, ht3⟩
  · rw [e2]
    obtain ⟨x, m2⟩ := p
    refine ⟨true, m2, rfl, hm2, ⟨fun _ => ⟨by omega, fun i hi => hall i hi (by omega)⟩, fun _ => rfl⟩⟩
  · rw [e2]
    obtain ⟨q, m2⟩ := t
    simp only at ht1 ht2
    subst ht1
    exact ⟨false, m2, rfl, ht2, ⟨fun h => (by cases h), fun h => absurd h ht3⟩⟩
theorem total_model {body : Nat → Int → Option Int} {L : List ApiPiece} (hL : WayOk L) (hb : ∀ k x, body k x = (idx L (k : Int)).bind fun p => (chk (x + p.Length)).bind fun _ => some (x + p.Length)) : forS body L.length 0 0 = some (beg L L.length) := by
  obtain ⟨x, h1, h2⟩ := forS_inv (body := body) (fun k x => x = beg L k) L.length 0 0 rfl (fun k x _ hk hi => by
    have hk' : k < L.length := by omega
    have hbd := beg_bd hL k (by omega)
    have hp := (hL.at hk').length
    have hf := hL.few
    rw [hb, idx_lt hk', Option.bind_some, chk_ok (by omega) (by omega), Option.bind_some]
    exact ⟨_, rfl, by rw [beg_succ hk', hi]⟩)
  rw [h1]
  simpa using h2
theorem permit_ok {s : ApiStock} (hc : mRunCheck s = some 0) (hs : Good s) {L : List ApiPiece} (hL : WayOk L) {low high E v : Int} (hl : 0 ≤ low ∧ low ≤ high) (hh : high ≤ beg L L.length) (hE : 0 ≤ E ∧ E ≤ beg L L.length) (hv : 0 ≤ v ∧ v ≤ s.Top) :
    ∃ P, mGuardPermit s L low high E v = some (P, 0) ∧ -1 ≤ P ∧ P ≤ s.Top ∧ (0 ≤ P → May (s.Brake - 40) L E (low - 100 * s.Length) (high + gone v P) P) ∧
      ∀ u, P < u → u ≤ s.Top → ¬ May (s.Brake - 40) L E (low - 100 * s.Length) (high + gone v u) u := by
  have htop := hs.top
  have htot := total_bd hL
  have hfull := beg_bd hL L.length (Nat.le_refl _)
  obtain ⟨i, h, r, w, e0, _⟩ := Second_val hc hs hL ⟨0, 0, 0⟩ 0 ⟨Int.le_refl _, hfull.1⟩ ⟨Int.le_refl _, Int.le_refl _⟩ ⟨Int.le_refl _, by simp only; omega⟩ ⟨Int.le_refl _, by simp only; omega⟩
  unfold mGuardPermit
  rw [e0, Option.bind_some]
  simp only [unc4]
  rw [if_neg (by simp), total_model (body := mGuardPermit_L378 L) hL (fun k x => rfl), Option.bind_some]
  simp only [gwithin_eq, Option.bind_some]
  rw [if_pos (by simp; omega), if_pos (by simp; omega), if_neg (by omega), if_pos (by simp; omega)]
  simp only [hv, and_self, decide_true, Bool.not_true, Option.bind_some]
  rw [if_neg (by decide)]
  obtain ⟨P, hP, q1, q2, q3, q4⟩ := loopM_inv (step := mGuardPermit_L592 L s low high E v)
    (fun p => MemoOk (s.Brake - 40) p.2 ∧ -1 ≤ p.1 ∧ p.1 ≤ s.Top ∧ ∀ u, p.1 < u → u ≤ s.Top → ¬ May (s.Brake - 40) L E (low - 100 * s.Length) (high + gone v u) u)
    (fun P => -1 ≤ P ∧ P ≤ s.Top ∧ (0 ≤ P → May (s.Brake - 40) L E (low - 100 * s.Length) (high + gone v P) P) ∧ ∀ u, P < u → u ≤ s.Top → ¬ May (s.Brake - 40) L E (low - 100 * s.Length) (high + gone v u) u)
    (fun p => (p.1 + 1).toNat) (fun p hpi => by
    obtain ⟨w, m1⟩ := p
    obtain ⟨i1, i2, i3, i4⟩ := hpi
    simp only at i1 i2 i3 i4
    simp only [mGuardPermit_L592, unc2]
    by_cases h0 : 0 ≤ w
    · have hgw := gone_bd (v := v) (w := w) hv.1 h0
      rw [if_pos h0, chk_ok (by omega) (by omega), Option.bind_some, chk_ok (by omega) (by omega), Option.bind_some]
      simp only [ne0, if_neg (show ¬ (2 : Int) = 0 by decide), Option.bind_some]
      rw [show Int.tdiv (v + w + 1) 2 = gone v w from rfl, chk_ok (by omega) (by omega), Option.bind_some, chk_ok (by omega) (by omega), Option.bind_some]
      obtain ⟨q, m2, e2, hm2, hiff⟩ := gmay_ok hs hL (E := E) (by omega) (low := low) (at_ := high + gone v w) (w := w) h0 (by omega) (by omega) (by omega) i1
      unfold gmayM at e2
      rw [e2, Option.bind_some]
      simp only [unc2, Option.bind_some]
      cases q with
      | true => exact .inr ⟨w, by simp, i2, i3, fun _ => hiff.1 rfl, i4⟩
      | false =>
        refine .inl ⟨(w - 1, m2), ?_, ⟨hm2, by simp only; omega, by simp only; omega, fun u h1 h2 => ?_⟩, by simp only; omega⟩
        · simp only [Bool.not_false, if_true]
          rw [chk_ok (by omega) (by omega)]
          rfl
        · simp only at h1
          by_cases he : u = w
          · subst he
            exact fun hmay => absurd (hiff.2 hmay) (by decide)
          · exact i4 u (by omega) h2
    · rw [if_neg h0]
      exact .inr ⟨w, by simp [unc2], i2, i3, fun h => absurd h h0, i4⟩) (s.Top, []) ⟨memo_nil _, by simp only; omega, Int.le_refl _, fun u h1 h2 => by simp only at h1; omega⟩
  rw [hP, Option.bind_some]
  exact ⟨P, rfl, q1, q2, q3, q4⟩
theorem ggrade_ok {L : List ApiPiece} (hL : WayOk L) (a : ApiState) (hp : 0 ≤ a.At) {i : Nat} (h : Here L a.At i) : ∃ y, forS (mGuardNext_L190 L a) L.length 0 (0, 0) = some ((L[i]'h.lt).Grade, y) := by
  have hs := hL.some_
  obtain ⟨x, h1, h2, h3⟩ := forS_inv (body := mGuardNext_L190 L a) (fun k p => p.2 = beg L k ∧ ((k ≤ i → True) ∧ (i < k → p.1 = (L[i]'h.lt).Grade))) L.length 0 (0, 0) ⟨rfl, fun _ => trivial, fun h => by omega⟩ (fun k p _ hk hi => by
    obtain ⟨x, y⟩ := p
    obtain ⟨i1, _, i2⟩ := hi
    simp only at i1 i2
    subst i1
    have hk' : k < L.length := by omega
    have hbd := beg_bd hL k (by omega)
    have hpl := (hL.at hk').length
    have hf := hL.few
    have hbs := beg_succ hk'
    simp only [mGuardNext_L190, unc2]
    rw [idx_lt hk', Option.bind_some]
    by_cases hc : beg L k ≤ a.At
    · rw [if_pos hc, Option.bind_some, chk_ok (by omega) (by omega), Option.bind_some]
      refine ⟨_, rfl, hbs.symm, fun _ => trivial, fun hik => ?_⟩
      have hki : k ≤ i := by
        by_cases hx : k ≤ i
        · exact hx
        · have h5 := h.hi (by omega)
          have h6 := beg_mono hL (i + 1) k (by omega) (by omega)
          omega
      obtain rfl : k = i := by omega
      rfl
    · rw [if_neg hc, Option.bind_some, chk_ok (by omega) (by omega), Option.bind_some]
      refine ⟨_, rfl, hbs.symm, fun _ => trivial, fun hik => ?_⟩
      have hne : k ≠ i := fun he => by
        subst he
        exact hc h.lo
      exact i2 (by omega))
  obtain ⟨x, y⟩ := x
  have h4 := h3.2 (by have := h.lt; omega)
  simp only at h4
  exact ⟨y, by rw [h1, h4]⟩
theorem Gain_ok {s : ApiStock} (hc : mRunCheck s = some 0) (hs : Good s) {v g : Int} (h0 : 0 ≤ v) (h1 : v ≤ 6000) (hg : -40 ≤ g ∧ g ≤ 40) : mRunGain_2 s v g = some (gainF s v g, 0) := by
  unfold mRunGain_2
  rw [hc, Option.bind_some, if_neg (by simp)]
  simp [within_eq, h0, h1, hg, (gain_ok hs h0 h1 hg).1]
theorem next_ok {s : ApiStock} (hc : mRunCheck s = some 0) (hs : Good s) {L : List ApiPiece} (hL : WayOk L) {a : ApiState} {low high E demand : Int} (hl : 0 ≤ low ∧ low ≤ a.At) (hh : a.At ≤ high ∧ high ≤ beg L L.length) (hE : 0 ≤ E ∧ E ≤ beg L L.length) (hv : 0 ≤ a.Speed ∧ a.Speed ≤ s.Top) (hk : 0 ≤ a.Work ∧ a.Work ≤ 1152921504606846976) (hd : 0 ≤ demand ∧ demand ≤ 6000) {i : Nat} (h : Here L a.At i) :
    ∃ P w, mGuardNext s L a low high E demand = some (a.At + gone a.Speed w, w, workF s a (L[i]'h.lt).Grade w, 0) ∧ w = max (min (min (min demand P) (a.Speed + gainF s a.Speed (L[i]'h.lt).Grade)) s.Top) (max 0 (a.Speed - (s.Brake + (L[i]'h.lt).Grade))) ∧ -1 ≤ P ∧ P ≤ s.Top ∧
      (0 ≤ P → May (s.Brake - 40) L E (low - 100 * s.Length) (high + gone a.Speed P) P) ∧ ∀ u, P < u → u ≤ s.Top → ¬ May (s.Brake - 40) L E (low - 100 * s.Length) (high + gone a.Speed u) u := by
  have htop := hs.top
  have hb := hs.brake
  have htot := total_bd hL
  obtain ⟨P, e1, p1, p2, p3, p4⟩ := permit_ok hc hs hL (low := low) (high := high) (E := E) (v := a.Speed) (by omega) hh.2 hE hv
  obtain ⟨y, e2⟩ := ggrade_ok hL a (by omega) h
  have hgd := (hL.at h.lt).grade
  refine ⟨P, _, ?_, rfl, p1, p2, p3, p4⟩
  generalize (L[i]'h.lt).Grade = g at e2 hgd
  have g1 := Gain_ok hc hs (v := a.Speed) (g := g) hv.1 (by omega) hgd
  obtain ⟨_, g2, g3, g4, g5⟩ := gain_ok hs (v := a.Speed) (g := g) hv.1 (by omega) hgd
  unfold mGuardNext
  rw [e1, Option.bind_some]
  simp only [unc2]
  rw [if_neg (by simp)]
  simp only [gwithin_eq, Option.bind_some]
  rw [if_pos (by simp; omega), if_pos (by simp; omega)]
  simp only [hd, and_self, decide_true, Bool.not_true, Option.bind_some]
  rw [if_neg (by decide), e2, Option.bind_some]
  simp only [unc2]
  rw [g1, Option.bind_some]
  simp only [unc2]
  rw [chk_ok (by omega) (by omega), Option.bind_some, chk_ok (by omega) (by omega), Option.bind_some, chk_ok (by omega) (by omega), Option.bind_some]
  generalize hw : max (min (min (min demand P) (a.Speed + gainF s a.Speed g)) s.Top) (max 0 (a.Speed - (s.Brake + g))) = w
  have hw0 : 0 ≤ w ∧ w ≤ 6000 := by omega
  have hgw := gone_bd (v := a.Speed) (w := w) hv.1 hw0.1
  rw [show Int.tdiv (a.Speed + w + 1) 2 = gone a.Speed w from rfl]
  rw [chk_ok (x := a.Speed + w) (by omega) (by omega), Option.bind_some, chk_ok (x := a.Speed + w + 1) (by omega) (by omega), Option.bind_some]
  rw [show ne0 2 = some () from rfl, Option.bind_some, chk_ok (x := gone a.Speed w) (by omega) (by omega), Option.bind_some, chk_ok (x := a.At + gone a.Speed w) (by omega) (by omega), Option.bind_some]
  rw [work_model hs (g := g) ⟨hv.1, by omega⟩ hgd hw0 hk (x := a.At + gone a.Speed w) (by omega), Option.bind_some]

/- ---- GuardSeconds ---- -/
theorem guardSecondsPlain (s : ApiStock) (L : List ApiPiece) (a : ApiState) (E : Int) (hs : ok43 s) (_ : ok80 L) (_ : ok82 a) (_ : ok3 E) (_ : L.length * 24 ≤ 140737488351232) : mFishkeep1GuardSeconds s L a E = some true := by
  obtain ⟨e, he, hg⟩ := check2_spec (s := s) hs.1 L a E
  unfold mFishkeep1GuardSeconds
  rw [awakeG, Option.bind_some, if_pos rfl]
  by_cases h0 : e ≠ 0
  · have : mRunSecond s L a E = some (0, 0, 0, e) := by
      unfold mRunSecond
      rw [he, Option.bind_some, if_pos h0]
    rw [this, Option.bind_some]
    simp [unc4, h0]
  · have h0' : e = 0 := by omega
    subst h0'
    obtain ⟨hc, good, hL, hE, hp, hv, hk⟩ := hg rfl
    have hb := good.brake
    have htop := good.top
    have hlen := good.length
    obtain ⟨i, h, r, w, e1, hw, hr1, hr2, hr3⟩ := Second_val hc good hL a E hE hp hv hk
    obtain ⟨P, w2, e2, hw2, p1, p2, p3, p4⟩ := next_ok hc good hL (a := a) (low := a.At) (high := a.At) (E := E) (demand := 6000) ⟨hp.1, Int.le_refl _⟩ ⟨Int.le_refl _, by omega⟩ hE hv hk ⟨by decide, by decide⟩ h
    have hgd := (hL.at h.lt).grade
    generalize (L[i]'h.lt).Grade = g at e1 hw hr1 hr2 hr3 e2 hw2 hgd
    obtain ⟨_, g2, g3, g4, g5⟩ := gain_ok good (v := a.Speed) (g := g) hv.1 (by omega) hgd
    have less : ∀ u u', 0 ≤ u → u ≤ u' → u' ≤ 6000 → May (s.Brake - 40) L E (a.At - 100 * s.Length) (a.At + gone a.Speed u') u' → May (s.Brake - 40) L E (a.At - 100 * s.Length) (a.At + gone a.Speed u) u :=
      fun u u' q1 q2 q3 q4 => may_less (by omega) hL (by omega) hv.1 q1 q2 q3 q4
    have hlow : max 0 (a.Speed - (s.Brake + g)) ≤ min (a.Speed + gainF s a.Speed g) s.Top := by omega
    have heq : w2 = w := by
      by_cases hrl : max 0 (a.Speed - (s.Brake + g)) ≤ r
      · have hm := hr2 hrl
        have hrP : r ≤ P := by
          by_cases hx : r ≤ P
          · exact hx
          · exact absurd hm (p4 r (by omega) (by omega))
        by_cases hrw : r = min (a.Speed + gainF s a.Speed g) s.Top
        · omega
        · have hPr : P ≤ r := by
            by_cases hx : P ≤ r
            · exact hx
            · have hu := less (min P (min (a.Speed + gainF s a.Speed g) s.Top)) P (by omega) (by omega) (by omega) (p3 (by omega))
              exact absurd hu (hr3 _ (by omega) (by omega) (by omega))
          omega
      · have hPl : P < max 0 (a.Speed - (s.Brake + g)) := by
          by_cases hx : P < max 0 (a.Speed - (s.Brake + g))
          · exact hx
          · have hu := less (max 0 (a.Speed - (s.Brake + g))) P (by omega) (by omega) (by omega) (p3 (by omega))
            exact absurd hu (hr3 _ (by omega) (by omega) (by omega))
        omega
    subst heq
    rw [e1, Option.bind_some]
    simp only [unc4]
    rw [if_neg (by simp), e2, Option.bind_some]
    simp [unc4]
end Go.Proofs.YtljcafilceachaaDoor
