/- Plain: RunKeeps and RunSaved. -/
import Derived.Test.YtljcafilceachaaDoorRF
set_option linter.unusedVariables false
set_option linter.unusedSimpArgs false
namespace Go.Proofs.YtljcafilceachaaDoor
open Go.RowKit Go.Fp

theorem Gain_model {s : ApiStock} (hc : mRunCheck s = some 0) (hs : Good s) {v g : Int} (h0 : 0 ≤ v) (h1 : v ≤ 6000) (hg : -40 ≤ g ∧ g ≤ 40) : mRunGain_2 s v g = some (gainF s v g, 0) := by
  unfold mRunGain_2
  simp only [hc, Option.bind_some, within_eq, (gain_ok hs h0 h1 hg).1]
  simp [h0, h1, hg]
/-- One second, as the statement looks at it. -/
theorem second_keeps {s : ApiStock} (hc : mRunCheck s = some 0) (hs : Good s) {L : List ApiPiece} (hL : WayOk L) {E top : Int} (hE : 0 ≤ E ∧ E ≤ 18000000) (htop : top ≤ s.Top) {a c c' : ApiState} (ha : 0 ≤ a.At ∧ a.At ≤ E) (hv : 0 ≤ a.Speed ∧ a.Speed ≤ top) (h : Step s L E top a c) (last : Bool)
    (hsp : c'.Speed = c.Speed) (hwk : c'.Work = c.Work) (hat : c'.At = c.At ∨ (last = true ∧ c'.At = E ∧ E - c.At ≤ 100)) : mFishkeep1SecondKeeps s L a c' E last = some true := by
  have ht := hs.top
  have hlen := hs.length
  have hb := hs.brake
  have hcs := h.speed
  have hg := gone_bd (v := a.Speed) (w := c.Speed) hv.1 hcs.1
  have hcat := h.at_
  have hw := way_bd (b := s.Brake - 40) (t := 0) (by omega) (by omega) _ c.Speed (Nat.le_refl _) hcs.1 (by omega)
  have hmay := h.may
  have hm1 := hmay.1
  unfold mFishkeep1SecondKeeps
  rw [hsp, chk_ok (x := a.Speed + c.Speed) (by omega) (by omega), Option.bind_some, chk_ok (x := a.Speed + c.Speed + 1) (by omega) (by omega), Option.bind_some]
  simp only [ne0, if_neg (show ¬ (2 : Int) = 0 by decide), Option.bind_some]
  rw [show Int.tdiv (a.Speed + c.Speed + 1) 2 = gone a.Speed c.Speed from rfl, chk_ok (x := gone a.Speed c.Speed) (by omega) (by omega), Option.bind_some, chk_ok (x := a.At + gone a.Speed c.Speed) (by omega) (by omega), Option.bind_some, ← hcat]
  have htn : ¬ s.Top < c.Speed := by omega
  have hen : ¬ E < c'.At := by rcases hat with h1 | ⟨_, h1, _⟩ <;> omega
  have hfirst : (if c'.At ≠ c.At then (if last = true then (if c.At ≤ E then ((chk (E - c.At)).bind fun _ => if E - c.At ≤ 100 then (if s.Top < c.Speed then some true else some (decide (E < c'.At))) else some true) else some true) else some true) else (if s.Top < c.Speed then some true else some (decide (E < c'.At)))) = some false := by
    rcases hat with h1 | ⟨h1, h2, h3⟩
    · rw [if_neg (by simp [h1]), if_neg htn]
      simp [hen]
    · by_cases he : c'.At = c.At
      · rw [if_neg (by simp [he]), if_neg htn]
        simp [hen]
      · rw [if_pos he, if_pos h1, if_pos (by omega), chk_ok (by omega) (by omega), Option.bind_some, if_pos h3, if_neg htn]
        simp [hen]
  rw [hfirst, Option.bind_some, if_neg (by decide)]
  obtain ⟨i0, hh, hd1, hd2⟩ := h.drive
  have hi0 := hh.lt
  have hgd := (hL.at hi0).grade
  rcases forM_inv (body := mFishkeep1SecondKeeps_L195 L s a c') (fun k p => p.2 = beg L k ∧ (-40 ≤ p.1 ∧ p.1 ≤ 40) ∧ (i0 < k → p.1 = L[i0].Grade)) (fun t => False) L.length 0 (0, 0) ⟨rfl, by simp, fun h => by omega⟩ (fun k p _ hk hi => by
    obtain ⟨g, f⟩ := p
    obtain ⟨i1, i2, i3⟩ := hi
    simp only at i1 i2 i3
    subst i1
    have hk' : k < L.length := by omega
    have hbk := beg_bd hL k (by omega)
    have hfew := hL.few
    have hpl := (hL.at hk').length
    have hpg := (hL.at hk').grade
    have hbs := beg_succ hk'
    simp only [mFishkeep1SecondKeeps_L195, unc2]
    rw [idx_lt hk', Option.bind_some, hsp, show Int.tdiv (a.Speed + c.Speed + 1) 2 = gone a.Speed c.Speed from rfl, ← hcat]
    have hgr : ∃ g', (if beg L k ≤ a.At then some L[k].Grade else some g) = some g' ∧ (-40 ≤ g' ∧ g' ≤ 40) ∧ (i0 < k + 1 → g' = L[i0].Grade) := by
      by_cases hle : beg L k ≤ a.At
      · rw [if_pos hle]
        refine ⟨_, rfl, hpg, fun hik => ?_⟩
        by_cases he : i0 = k
        · subst he; rfl
        · have h1 := hh.hi (by omega)
          have h2 := beg_mono hL (i0 + 1) k (by omega) (by omega)
          omega
      · rw [if_neg hle]
        refine ⟨g, rfl, i2, fun hik => ?_⟩
        by_cases he : i0 = k
        · subst he
          have := hh.lo
          omega
        · exact i3 (by omega)
    obtain ⟨g', e1, e2, e3⟩ := hgr
    rw [e1, Option.bind_some]
    have hno : (if beg L k < c.At then ((chk (beg L k + L[k].Length)).bind fun _ => (chk (100 * s.Length)).bind fun _ => (chk (a.At - 100 * s.Length)).bind fun _ => if a.At - 100 * s.Length < beg L k + L[k].Length then some (decide (L[k].Speed < c.Speed)) else some false) else some false) = some false := by
      by_cases h1 : beg L k < c.At
      · rw [if_pos h1, chk_ok (by omega) (by omega), Option.bind_some, chk_ok (by omega) (by omega), Option.bind_some, chk_ok (by omega) (by omega), Option.bind_some]
        by_cases h2 : a.At - 100 * s.Length < beg L k + L[k].Length
        · rw [if_pos h2]
          have := (hmay.2 k hk').2 h1 (by omega)
          have h3 : ¬ L[k].Speed < c.Speed := by omega
          simp [h3]
        · rw [if_neg h2]
      · rw [if_neg h1]
    rw [hno, Option.bind_some, if_neg (by decide), chk_ok (by omega) (by omega), Option.bind_some]
    exact .inl ⟨_, rfl, by simp only; omega, e2, e3⟩) with ⟨p, e1, j1, j2, j3⟩ | ⟨t, _, hf⟩
  case inr => exact hf.elim
  rw [e1]
  obtain ⟨g, f⟩ := p
  simp only at j1 j2 j3
  simp only [Option.bind_some, Sum.elim_inl, unc2]
  have hgg := j3 (by omega)
  subst hgg
  rw [Gain_model hc hs hv.1 (by omega) hgd, Option.bind_some]
  have hgb := gain_ok hs (v := a.Speed) (g := L[i0].Grade) hv.1 (by omega) hgd
  have hwork := h.work
  simp only [unc2, if_true]
  rw [chk_ok (by omega) (by omega), Option.bind_some, chk_ok (by omega) (by omega), Option.bind_some, chk_ok (by omega) (by omega), Option.bind_some, if_pos (by omega), if_pos (by omega), hwk]
  simp [hwork.1]
theorem keepsPlain (s : ApiStock) (L : List ApiPiece) (from_ E : Int) (hs : ok43 s) (hL : ok80 L) (hf : ok3 from_) (hE : ok3 E) (sz : L.length * 24 ≤ 140737488351232) : mFishkeep1RunKeeps s L from_ E = some true := by
  unfold mFishkeep1RunKeeps
  rw [awake, Option.bind_some, if_pos rfl]
  obtain ⟨e, he, hg⟩ := check2_spec (s := s) hs.1 L ⟨from_, 0, 0⟩ E
  unfold mRunGo
  rw [he, Option.bind_some]
  by_cases h0 : e ≠ 0
  · rw [if_pos h0, Option.bind_some]
    simp [unc2, h0]
  have h0' : e = 0 := by omega
  subst h0'
  obtain ⟨hc, good, way_, hEb, hfb, _, _⟩ := hg rfl
  simp only at hfb
  have htb := total_bd way_
  have htop := good.top
  rw [if_neg (by simp)]
  rcases states_ok good way_ (from_ := from_) (E := E) (top := s.Top) ⟨hEb.1, by omega⟩ ⟨by omega, by omega⟩ hfb with h1 | ⟨l, k, a, h1, h2, h3, h4, h5, h6⟩
  · rw [h1, Option.bind_some]
    simp only [unc2]
    rw [Option.bind_some]
    simp [unc2]
  rw [h1, Option.bind_some]
  simp only [unc2]
  rw [Option.bind_some]
  simp only [unc2]
  have hlen := h2.len
  obtain ⟨q1, q2, q3, q4, q5, q6, q7⟩ := h2.last a h4
  rw [if_neg (by simp)]
  have hl' : ((l.set k (⟨E, 0, a.Work⟩ : ApiState)).length : Int) - 1 = (k : Int) := by rw [List.length_set]; omega
  rw [hl', chk_ok (by omega) (by omega), Option.bind_some, if_neg (by omega), if_neg (by omega)]
  have hlast : (l.set k (⟨E, 0, a.Work⟩ : ApiState))[k]? = some ⟨E, 0, a.Work⟩ := List.getElem?_set_self (by omega)
  obtain ⟨f0, hf0, hf1, hf2, hf3⟩ : ∃ f0 : ApiState, (l.set k (⟨E, 0, a.Work⟩ : ApiState))[0]? = some f0 ∧ f0.Speed = 0 ∧ f0.Work = 0 ∧ (0 < (k : Int) → f0.At = from_) := by
    by_cases hk : k = 0
    · subst hk
      have := h2.first
      rw [h4] at this
      injection this with this
      subst this
      exact ⟨_, hlast, rfl, rfl, fun h => by omega⟩
    · exact ⟨_, by rw [List.getElem?_set_ne hk]; exact h2.first, rfl, rfl, fun _ => rfl⟩
  have hi0 : idx (l.set k (⟨E, 0, a.Work⟩ : ApiState)) 0 = some f0 := idx_nat (j := 0) hf0
  simp only [hi0, idx_nat hlast, Option.bind_some]
  rw [if_neg (by simp [hf1]), if_neg (by simp [hf2]), if_neg (by simp), if_neg (by simp)]
  have hz : (if 0 < (k : Int) then some (decide (f0.At ≠ from_)) else some false) = some false := by
    by_cases hk : 0 < (k : Int)
    · rw [if_pos hk]; simp [hf3 hk]
    · rw [if_neg hk]
  rw [hz, Option.bind_some, if_neg (by decide)]
  obtain ⟨t, e1, e2⟩ := loopM_inv (step := mFishkeep1RunKeeps_L1080 L s E (l.set k ⟨E, 0, a.Work⟩)) (fun x => ∃ j : Nat, x = (j : Int) ∧ 1 ≤ j ∧ j ≤ k + 1) (fun t => t = .inl ()) (fun x => (k + 1 - x.toNat)) (fun x hx => by
    obtain ⟨j, rfl, j1, j2⟩ := hx
    unfold mFishkeep1RunKeeps_L1080
    rw [hl']
    by_cases hj : (j : Int) ≤ (k : Int)
    · rw [if_pos hj, chk_ok (by omega) (by omega), Option.bind_some]
      obtain ⟨x, hx⟩ : ∃ x, l[j - 1]? = some x := ⟨l[j - 1]'(by omega), List.getElem?_eq_getElem (by omega)⟩
      obtain ⟨y, hy⟩ : ∃ y, l[j]? = some y := ⟨l[j]'(by omega), List.getElem?_eq_getElem (by omega)⟩
      have hstep := h2.steps (j - 1) x y (by omega) hx (by rw [show j - 1 + 1 = j by omega]; exact hy)
      have hx' : (l.set k (⟨E, 0, a.Work⟩ : ApiState))[j - 1]? = some x := by rw [List.getElem?_set_ne (by omega)]; exact hx
      -- what is known of x
      have hxb : (0 ≤ x.At ∧ x.At ≤ E) ∧ 0 ≤ x.Speed ∧ x.Speed ≤ s.Top := by
        by_cases hj1 : j = 1
        · subst hj1
          have := h2.first
          rw [show (1 : Nat) - 1 = 0 from rfl] at hx
          rw [hx] at this
          injection this with this
          subst this
          exact ⟨hfb, by simp only; omega, by simp only; omega⟩
        · obtain ⟨w, hw⟩ : ∃ w, l[j - 2]? = some w := ⟨l[j - 2]'(by omega), List.getElem?_eq_getElem (by omega)⟩
          have hst2 := h2.steps (j - 2) w x (by omega) hw (by rw [show j - 2 + 1 = j - 1 by omega]; exact hx)
          have hm1 := hst2.may.1
          have hwb := way_bd (b := s.Brake - 40) (t := 0) (by have := good.brake; omega) (by omega) _ x.Speed (Nat.le_refl _) hst2.speed.1 (by have := hst2.speed.2; omega)
          refine ⟨⟨?_, by omega⟩, hst2.speed⟩
          -- positions never come below 0
          have hpos : ∀ i : Nat, ∀ u : ApiState, i ≤ k → l[i]? = some u → 0 ≤ u.At ∧ 0 ≤ u.Speed := by
            intro i
            induction i with
            | zero =>
              intro u _ hu
              have := h2.first
              rw [hu] at this
              injection this with this
              subst this
              exact ⟨hfb.1, Int.le_refl _⟩
            | succ i ih =>
              intro u hi hu
              obtain ⟨w, hw⟩ : ∃ w, l[i]? = some w := ⟨l[i]'(by omega), List.getElem?_eq_getElem (by omega)⟩
              obtain ⟨w1, w2⟩ := ih w (by omega) hw
              have hst3 := h2.steps i w u (by omega) hw hu
              have hgg := gone_bd (v := w.Speed) (w := u.Speed) w2 hst3.speed.1
              have := hst3.at_
              exact ⟨by omega, hst3.speed.1⟩
          exact (hpos (j - 1) x (by omega) hx).1
      rw [show (j : Int) - 1 = ((j - 1 : Nat) : Int) by omega, idx_nat hx', Option.bind_some]
      by_cases hjk : j = k
      · subst hjk
        rw [hy] at h4
        injection h4 with h4
        subst h4
        rw [idx_nat hlast, Option.bind_some, second_keeps (c' := ⟨E, 0, y.Work⟩) hc good way_ ⟨hEb.1, by omega⟩ (Int.le_refl _) hxb.1 hxb.2 hstep (decide ((j : Int) = (j : Int))) (by simp only; omega) rfl (.inr ⟨by simp, rfl, h6⟩), Option.bind_some]
        exact .inl ⟨(j : Int) + 1, by rw [if_pos rfl, chk_ok (by omega) (by omega)]; rfl, ⟨j + 1, by omega, by omega, by omega⟩, by omega⟩
      · have hy' : (l.set k (⟨E, 0, a.Work⟩ : ApiState))[j]? = some y := by rw [List.getElem?_set_ne (by omega)]; exact hy
        rw [idx_nat hy', Option.bind_some, second_keeps hc good way_ ⟨hEb.1, by omega⟩ (Int.le_refl _) hxb.1 hxb.2 hstep _ rfl rfl (.inl rfl), Option.bind_some]
        exact .inl ⟨(j : Int) + 1, by rw [if_pos rfl, chk_ok (by omega) (by omega)]; rfl, ⟨j + 1, by omega, by omega, by omega⟩, by omega⟩
    · rw [if_neg hj]
      exact .inr ⟨_, rfl, rfl⟩) 1 ⟨1, rfl, Nat.le_refl _, by omega⟩
  rw [e1, e2]
  rfl
/-- States of a run with a cap: none is faster. -/
theorem chain_speed {s : ApiStock} {L : List ApiPiece} {from_ E top : Int} {l : List ApiState} {k : Nat} (h : Chain s L from_ E top l k) (ht : 0 ≤ top) : ∀ x ∈ l, x.Speed ≤ top := fun x hx => by
  obtain ⟨j, hj⟩ := List.mem_iff_getElem?.1 hx
  cases j with
  | zero =>
    have := h.first
    rw [hj] at this
    injection this with this
    subst this
    exact ht
  | succ j =>
    have hlt := (List.getElem?_eq_some_iff.1 hj).1
    have hlen := h.len
    obtain ⟨w, hw⟩ : ∃ w, l[j]? = some w := ⟨l[j]'(by omega), List.getElem?_eq_getElem (by omega)⟩
    exact (h.steps j w x (by omega) hw hj).speed.2
theorem savedPlain (s : ApiStock) (L : List ApiPiece) (from_ E secs : Int) (hs : ok43 s) (hL : ok80 L) (hf : ok3 from_) (hE : ok3 E) (hse : ok3 secs) (sz : L.length * 24 ≤ 140737488351232) : mFishkeep1RunSaved s L from_ E secs = some true := by
  unfold mFishkeep1RunSaved
  rw [awake, Option.bind_some, if_pos rfl]
  obtain ⟨e, he, hg⟩ := check2_spec (s := s) hs.1 L ⟨from_, 0, 0⟩ E
  unfold mRunSaving
  rw [he, Option.bind_some]
  by_cases h0 : e ≠ 0
  · rw [if_pos h0, Option.bind_some]
    simp [unc2, h0]
  have h0' : e = 0 := by omega
  subst h0'
  obtain ⟨hc, good, way_, hEb, hfb, _, _⟩ := hg rfl
  simp only at hfb
  have htb := total_bd way_
  have htop := good.top
  rw [if_neg (by simp), within_eq, Option.bind_some]
  by_cases hsec : 0 ≤ secs ∧ secs ≤ 3600
  case neg => simp [hsec, unc2]
  simp only [hsec, and_self, decide_true, if_true]
  -- the run with a cap
  have hrun : ∀ cap : Int, 500 ≤ cap → (mRunStates s L from_ E (min s.Top cap) = some (4, []) ∨ ∃ l, mRunStates s L from_ E (min s.Top cap) = some (0, l) ∧ 0 < l.length ∧ l.length ≤ 3601 ∧ ∀ x ∈ l, x.Speed ≤ cap) := by
    intro cap hcap
    rcases states_ok good way_ (from_ := from_) (E := E) (top := min s.Top cap) ⟨hEb.1, by omega⟩ ⟨by omega, by omega⟩ hfb with h1 | ⟨l, k, a, h1, h2, h3, h4, h5, h6⟩
    · exact .inl h1
    · refine .inr ⟨_, h1, by rw [List.length_set, h2.len]; omega, by rw [List.length_set, h2.len]; omega, fun x hx => ?_⟩
      rcases List.mem_or_eq_of_mem_set hx with hx | hx
      · have := chain_speed h2 (by omega) x hx
        omega
      · subst hx
        simp only
        omega
  have hcapped : ∀ cap : Int, 500 ≤ cap → cap ≤ 6000 → mRunCapped s L from_ E cap = mRunStates s L from_ E (min s.Top cap) := by
    intro cap h1 h2
    unfold mRunCapped
    rw [he, Option.bind_some, if_neg (by simp), within_eq, Option.bind_some]
    simp only [h1, h2, and_self, decide_true, if_true]
    rcases hrun cap h1 with h3 | ⟨l, h3, _⟩ <;> rw [h3] <;> rfl
  -- slow enough?
  let Slow (cap : Int) : Prop := ∃ l, mRunStates s L from_ E (min s.Top cap) = some (0, l) ∧ (l.length : Int) - 1 ≤ secs
  rcases forM_inv (body := mRunSaving_L190 L s from_ E secs) (fun k _ => ∀ j : Nat, j < k → ¬ Slow (500 + 50 * (j : Int))) (fun t => t = .inl () ∨ ∃ k : Nat, k < 111 ∧ t = .inr (500 + 50 * (k : Int), 0) ∧ Slow (500 + 50 * (k : Int)) ∧ ∀ j : Nat, j < k → ¬ Slow (500 + 50 * (j : Int))) 111 0 () (fun j hj => by omega) (fun k u _ hk hi => by
    unfold mRunSaving_L190
    rw [chk_ok (by omega) (by omega), Option.bind_some, chk_ok (by omega) (by omega), Option.bind_some]
    rcases hrun (500 + 50 * (k : Int)) (by omega) with h3 | ⟨l, h3, h4, h5, h6⟩
    · have hns : ¬ Slow (500 + 50 * (k : Int)) := fun ⟨l, hl, _⟩ => by rw [h3] at hl; injection hl with hl; injection hl with hl _; cases hl
      rw [h3, Option.bind_some]
      simp only [unc2]
      rw [if_neg (by decide), Option.bind_some, if_neg (by decide)]
      by_cases h7 : s.Top ≤ 500 + 50 * (k : Int)
      · rw [if_pos h7]; exact .inr ⟨_, rfl, .inl rfl⟩
      · rw [if_neg h7]
        refine .inl ⟨(), rfl, fun j hj => ?_⟩
        by_cases hjk : j = k
        · subst hjk; exact hns
        · exact hi j (by omega)
    · rw [h3, Option.bind_some]
      simp only [unc2, if_true]
      rw [chk_ok (by omega) (by omega), Option.bind_some]
      by_cases h7 : (l.length : Int) - 1 ≤ secs
      · simp only [h7, decide_true, Option.bind_some, if_true]
        exact .inr ⟨_, rfl, .inr ⟨k, by omega, rfl, ⟨l, h3, h7⟩, hi⟩⟩
      · have hns : ¬ Slow (500 + 50 * (k : Int)) := fun ⟨l', hl, h8⟩ => by
          rw [h3] at hl
          injection hl with hl
          injection hl with _ hl
          subst hl
          exact h7 h8
        simp only [h7, decide_false, Option.bind_some]
        rw [if_neg (by decide)]
        by_cases h9 : s.Top ≤ 500 + 50 * (k : Int)
        · rw [if_pos h9]; exact .inr ⟨_, rfl, .inl rfl⟩
        · rw [if_neg h9]
          refine .inl ⟨(), rfl, fun j hj => ?_⟩
          by_cases hjk : j = k
          · subst hjk; exact hns
          · exact hi j (by omega)) with ⟨u, e1, _⟩ | ⟨t, e1, h1 | ⟨k, hk, h1, ⟨l, h2, h3⟩, h4⟩⟩
  · rw [e1]; simp [unc2]
  · rw [e1, h1]; simp [unc2]
  · rw [e1, h1]
    simp only [Option.bind_some, Sum.elim_inr, unc2]
    rw [if_neg (by simp), hcapped _ (by omega) (by omega)]
    rcases hrun (500 + 50 * (k : Int)) (by omega) with h5 | ⟨l', h5, h6, h7, h8⟩
    · rw [h2] at h5; injection h5 with h5; injection h5 with h5 _; cases h5
    rw [h2] at h5
    injection h5 with h5
    injection h5 with _ h5
    subst h5
    rw [h2, Option.bind_some]
    simp only [unc2]
    rw [if_neg (by simp), chk_ok (by omega) (by omega), Option.bind_some]
    have h9 : ¬ secs < (l.length : Int) - 1 := by omega
    simp only [h9, decide_false, Option.bind_some]
    rw [if_neg (by decide)]
    rcases forM_inv (body := mFishkeep1RunSaved_L129 l (500 + 50 * (k : Int))) (fun _ _ => True) (fun _ => False) l.length 0 () trivial (fun j u _ hj _ => by
      have hj' : j < l.length := by omega
      have := h8 _ (List.getElem_mem hj')
      unfold mFishkeep1RunSaved_L129
      rw [idx_lt hj', Option.bind_some, if_neg (by omega)]
      exact .inl ⟨(), rfl, trivial⟩) with ⟨u, e2, _⟩ | ⟨t, _, hf⟩
    case inr => exact hf.elim
    rw [e2]
    simp only [Option.bind_some, Sum.elim_inl]
    by_cases hk0 : k = 0
    · subst hk0; simp
    rw [if_neg (by omega), chk_ok (by omega) (by omega), Option.bind_some]
    have hcap : (500 + 50 * (k : Int)) - 50 = 500 + 50 * ((k - 1 : Nat) : Int) := by omega
    rw [hcap, hcapped _ (by omega) (by omega)]
    have hns := h4 (k - 1) (by omega)
    rcases hrun (500 + 50 * ((k - 1 : Nat) : Int)) (by omega) with h10 | ⟨l2, h10, h11, h12, _⟩
    · rw [h10, Option.bind_some]; simp [unc2]
    · rw [h10, Option.bind_some]
      simp only [unc2]
      have h13 : secs < (l2.length : Int) - 1 := by
        by_cases h : secs < (l2.length : Int) - 1
        · exact h
        · exact absurd ⟨l2, h10, by omega⟩ hns
      rw [if_neg (by simp)]
      simp only [if_true]
      rw [chk_ok (by omega) (by omega), Option.bind_some]
      simp [h13]
end Go.Proofs.YtljcafilceachaaDoor
