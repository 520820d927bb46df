/- Plain: a second of a run, and all seconds. -/
import Derived.Test.YtljcafilceachaaDoorRE
set_option linter.unusedVariables false
set_option linter.unusedSimpArgs false
namespace Go.Proofs.YtljcafilceachaaDoor
open Go.RowKit Go.Fp

def pullF (s : ApiStock) (v : Int) : Int := if v = 0 then s.Start else min s.Start (Int.tdiv s.Power v)
def dragF (s : ApiStock) (v : Int) : Int := Int.tdiv (v * v) s.Drag
def gainF (s : ApiStock) (v g : Int) : Int := pullF s v - s.Roll - dragF s v - g
theorem sq_bd {v : Int} (h0 : 0 ≤ v) (h1 : v ≤ 6000) : 0 ≤ v * v ∧ v * v ≤ 36000000 := by
  refine ⟨Int.mul_nonneg h0 h0, ?_⟩
  have := Int.mul_le_mul h1 h1 h0 (by decide : (0 : Int) ≤ 6000)
  simpa using this
theorem drag_bd {s : ApiStock} (hs : Good s) {v : Int} (h0 : 0 ≤ v) (h1 : v ≤ 6000) : 0 ≤ dragF s v ∧ dragF s v ≤ 36 ∧ (v ≤ 166 → dragF s v = 0) := by
  have hd := hs.drag
  have hq := sq_bd h0 h1
  unfold dragF
  rw [Int.tdiv_eq_ediv_of_nonneg hq.1]
  refine ⟨Int.ediv_nonneg hq.1 (by omega), Int.ediv_le_of_le_mul (by omega) (by omega), fun h => ?_⟩
  have h2 := Int.mul_le_mul h h h0 (by decide : (0 : Int) ≤ 166)
  exact Int.ediv_eq_zero_of_lt hq.1 (by omega)
theorem pull_bd {s : ApiStock} (hs : Good s) {v : Int} (h0 : 0 ≤ v) (h1 : v ≤ 6000) : 1 ≤ pullF s v ∧ pullF s v ≤ 150 ∧ (v ≤ 166 → 60 ≤ pullF s v) ∧ (v ≠ 0 → 0 ≤ Int.tdiv s.Power v ∧ Int.tdiv s.Power v ≤ 2000000) := by
  have hp := hs.power
  have hst := hs.start
  unfold pullF
  by_cases hv : v = 0
  · rw [if_pos hv]
    exact ⟨by omega, by omega, fun _ => by omega, fun h => absurd hv h⟩
  · rw [if_neg hv, Int.tdiv_eq_ediv_of_nonneg (by omega)]
    have h2 : 1 ≤ s.Power / v := Int.le_ediv_of_mul_le (by omega) (by omega)
    have h3 : s.Power / v ≤ 2000000 := Int.ediv_le_of_le_mul (by omega) (by
      have : s.Power * 1 ≤ 2000000 * v := Int.mul_le_mul hp.2 (by omega) (by decide) (by decide)
      omega)
    refine ⟨by omega, by omega, fun h => ?_, fun _ => ⟨by omega, h3⟩⟩
    have h4 : 60 ≤ s.Power / v := Int.le_ediv_of_mul_le (by omega) (by omega)
    omega
theorem gain_ok {s : ApiStock} (hs : Good s) {v g : Int} (h0 : 0 ≤ v) (h1 : v ≤ 6000) (hg : -40 ≤ g ∧ g ≤ 40) :
    mRunGain s v g = some (gainF s v g) ∧ -90 ≤ gainF s v g ∧ gainF s v g ≤ 200 ∧ 0 ≤ v + gainF s v g ∧ v - (s.Brake + g) ≤ v + gainF s v g := by
  have hd := drag_bd hs h0 h1
  have hp := pull_bd hs h0 h1
  have hr := hs.roll
  have hb := hs.brake
  have hdr := hs.drag
  have hq := sq_bd h0 h1
  have hpm : mRunPull s v = some (pullF s v) := by
    unfold mRunPull pullF
    by_cases hv : v = 0
    · rw [if_pos hv, if_pos hv]
    · rw [if_neg hv, if_neg hv]
      have h2 := hp.2.2.2 hv
      simp only [ne0, if_neg hv, Option.bind_some]
      rw [chk_ok (by omega) (by omega)]
      rfl
  have hd0 : ¬ s.Drag = 0 := by omega
  refine ⟨?_, ?_, ?_, ?_, ?_⟩
  · unfold mRunGain
    rw [hpm, Option.bind_some, chk_ok (by omega) (by omega), Option.bind_some, chk_ok (by omega) (by omega), Option.bind_some]
    simp only [ne0, if_neg hd0, Option.bind_some]
    rw [show Int.tdiv (v * v) s.Drag = dragF s v from rfl, chk_ok (by omega) (by omega), Option.bind_some, chk_ok (by omega) (by omega), Option.bind_some, chk_ok (by omega) (by omega)]
    rfl
  · unfold gainF; omega
  · unfold gainF; omega
  · unfold gainF
    by_cases hv : v ≤ 166
    · have := hd.2.2 hv
      have := hp.2.2.1 hv
      omega
    · omega
  · unfold gainF; omega
noncomputable abbrev gradeM (s : ApiStock) (L : List ApiPiece) (E top : Int) (B : List Int) (p : Int) (m : List (Int × List Int)) := mRunRunnerGrade p s.Name s.Length s.Mass s.Start s.Power s.Roll s.Drag s.Brake s.Top s.Seats L E top B m
/-- Piece i is the one at p. -/
structure Here (L : List ApiPiece) (p : Int) (i : Nat) : Prop where
  lt : i < L.length
  lo : beg L i ≤ p
  hi : i + 1 < L.length → p < beg L (i + 1)
theorem grade_ok {L : List ApiPiece} (hL : WayOk L) {B : List Int} (hB : BegOk L B) {p : Int} (hp : 0 ≤ p) (s : ApiStock) (E top : Int) (m : List (Int × List Int)) :
    ∃ i, ∃ h : Here L p i, gradeM s L E top B p m = some (L[i]'h.lt).Grade := by
  have hs := hL.some_
  have hf := hL.few
  unfold gradeM mRunRunnerGrade
  obtain ⟨x, hx, i, rfl, h⟩ := loopM_inv (step := mRunRunnerGrade_L460 L B p) (fun x => ∃ i : Nat, x = (i : Int) ∧ i < L.length ∧ beg L i ≤ p) (fun x => ∃ i : Nat, x = (i : Int) ∧ Here L p i) (fun x => (L.length - x.toNat)) (fun x hx => by
    obtain ⟨i, rfl, h1, h2⟩ := hx
    unfold mRunRunnerGrade_L460
    rw [chk_ok (by omega) (by omega), Option.bind_some]
    by_cases hi : ((i : Int) + 1) < (L.length : Int)
    · rw [if_pos hi]
      simp only [Option.bind_some]
      rw [hB.idx (j := i + 1) (by omega) (by omega), Option.bind_some]
      by_cases hc : beg L (i + 1) ≤ p
      · refine .inl ⟨(i : Int) + 1, by simp [hc], ⟨i + 1, by omega, by omega, hc⟩, by omega⟩
      · exact .inr ⟨(i : Int), by simp [hc], i, rfl, h1, h2, fun _ => by omega⟩
    · rw [if_neg hi]
      exact .inr ⟨(i : Int), by simp, i, rfl, h1, h2, fun h => by omega⟩) 0 ⟨0, rfl, hs, by simpa [beg] using hp⟩
  refine ⟨i, h, ?_⟩
  rw [hx, Option.bind_some, idx_lt h.lt]
  rfl
/-- A train at p with speed v can always stop, and slow down, in time. -/
structure Safe (b : Int) (L : List ApiPiece) (E len p v : Int) : Prop where
  stop : way b 0 v ≤ E - p
  slow : ∀ (i : Nat) (hi : i < L.length), p ≤ beg L i → way b L[i].Speed v ≤ beg L i - p
  here : ∀ (i : Nat) (hi : i < L.length), beg L i < p → p - len < beg L (i + 1) → v ≤ L[i].Speed
theorem may_brake {b : Int} (hb : 1 ≤ b) {L : List ApiPiece} (hL : WayOk L) {E len p v : Int} (h0 : 0 ≤ v) (h1 : v ≤ 6000) (h : Safe b L E len p v) : May b L E (p - len) (p + gone v (max 0 (v - b))) (max 0 (v - b)) := by
  have hg := gone_bd (v := v) (w := max 0 (v - b)) h0 (by omega)
  refine ⟨?_, fun i hi => ⟨fun hc => ?_, fun hc ht => ?_⟩⟩
  · have h2 := h.stop
    by_cases hv : 0 < v
    · rw [way_go hb hv] at h2
      omega
    · obtain rfl : v = 0 := by omega
      have h3 : max 0 (0 - b) = 0 := by omega
      rw [h3, way_stop (Int.le_refl _)]
      rw [way_stop (Int.le_refl _)] at h2
      have : gone 0 0 = 0 := by decide
      omega
  · have hsp := (hL.at hi).speed
    have h2 := h.slow i hi (by omega)
    by_cases hv : L[i].Speed < v
    · rw [way_go hb hv] at h2
      by_cases hd : L[i].Speed ≤ v - b
      · have e1 : max L[i].Speed (v - b) = max 0 (v - b) := by omega
        rw [e1] at h2
        omega
      · rw [way_stop (by omega)]
        omega
    · rw [way_stop (by omega)]
      omega
  · have hsp := (hL.at hi).speed
    by_cases hp : p ≤ beg L i
    · have h2 := h.slow i hi hp
      by_cases hw : max 0 (v - b) ≤ L[i].Speed
      · exact hw
      · rw [way_go hb (by omega)] at h2
        have e1 : max L[i].Speed (v - b) = max 0 (v - b) := by omega
        rw [e1] at h2
        have h3 := way_bd hb (t := L[i].Speed) (by omega) _ (max 0 (v - b)) (Nat.le_refl _) (by omega) (by omega)
        omega
    · have := h.here i hi (by omega) ht
      omega
theorem safe_next {b : Int} {L : List ApiPiece} {E len p p' w : Int} (hp : p ≤ p') (h : May b L E (p - len) p' w) : Safe b L E len p' w :=
  ⟨h.1, fun i hi => (h.2 i hi).1, fun i hi h1 h2 => (h.2 i hi).2 h1 (by omega)⟩
/-- What one second does. -/
structure Step (s : ApiStock) (L : List ApiPiece) (E top : Int) (a c : ApiState) : Prop where
  at_ : c.At = a.At + gone a.Speed c.Speed
  speed : 0 ≤ c.Speed ∧ c.Speed ≤ top
  may : May (s.Brake - 40) L E (a.At - 100 * s.Length) c.At c.Speed
  drive : ∃ i, ∃ h : Here L a.At i, max 0 (a.Speed - (s.Brake + (L[i]'h.lt).Grade)) ≤ c.Speed ∧ c.Speed ≤ a.Speed + gainF s a.Speed (L[i]'h.lt).Grade
  work : a.Work ≤ c.Work ∧ c.Work ≤ a.Work + 100000000000
noncomputable abbrev secondM (s : ApiStock) (L : List ApiPiece) (E top : Int) (B : List Int) (a : ApiState) (m : List (Int × List Int)) := mRunRunnerSecond a s.Name s.Length s.Mass s.Start s.Power s.Roll s.Drag s.Brake s.Top s.Seats L E top B m
theorem second_ok {s : ApiStock} (hs : Good s) {L : List ApiPiece} (hL : WayOk L) {E top : Int} (hE : 0 ≤ E ∧ E ≤ 18000000) (ht : 0 ≤ top ∧ top ≤ 6000) {B : List Int} (hB : BegOk L B) {a : ApiState} (hp : 0 ≤ a.At ∧ a.At ≤ E) (hv : 0 ≤ a.Speed ∧ a.Speed ≤ top) (hw : 0 ≤ a.Work ∧ a.Work ≤ 1000000000000000)
    (hsafe : Safe (s.Brake - 40) L E (100 * s.Length) a.At a.Speed) {m : List (Int × List Int)} (hm : MemoOk (s.Brake - 40) m) :
    ∃ c m', secondM s L E top B a m = some (c.At, c.Speed, c.Work, m') ∧ MemoOk (s.Brake - 40) m' ∧ Step s L E top a c := by
  have hb := hs.brake
  have hlen := hs.length
  have hmass := hs.mass
  obtain ⟨i, hi, hgr⟩ := grade_ok hL hB hp.1 s E top m
  have hgd := (hL.at hi.lt).grade
  have hroll := hs.roll
  generalize hgg : (L[i]'hi.lt).Grade = g at hgr hgd
  obtain ⟨g1, g2, g3, g4, g5⟩ := gain_ok hs (v := a.Speed) (g := g) hv.1 (by omega) hgd
  have hdb := drag_bd hs (v := a.Speed) hv.1 (by omega)
  have hsq := sq_bd (v := a.Speed) hv.1 (by omega)
  have hdr := hs.drag
  unfold secondM mRunRunnerSecond
  unfold gradeM at hgr
  rw [hgr, Option.bind_some, Option.bind_some, chk_ok (by omega) (by omega), Option.bind_some, chk_ok (by omega) (by omega), Option.bind_some]
  rw [show (⟨s.Name, s.Length, s.Mass, s.Start, s.Power, s.Roll, s.Drag, s.Brake, s.Top, s.Seats⟩ : ApiStock) = s from rfl, g1, Option.bind_some, chk_ok (by omega) (by omega), Option.bind_some]
  have hstart : max 0 (a.Speed - (s.Brake + g)) ≤ min (a.Speed + gainF s a.Speed g) top := by omega
  have hbrake := may_brake (by omega) hL hv.1 (by omega) hsafe
  obtain ⟨r, hr, q1, q2, q3, q4⟩ := loopM_inv (step := mRunRunnerSecond_L835 L B a s.Name s.Length s.Mass s.Start s.Power s.Roll s.Drag s.Brake s.Top s.Seats E top g)
    (fun p => MemoOk (s.Brake - 40) p.2 ∧ p.1 ≤ min (a.Speed + gainF s a.Speed g) top ∧ ∃ c, max 0 (a.Speed - (s.Brake + g)) ≤ c ∧ c ≤ p.1 ∧ May (s.Brake - 40) L E (a.At - 100 * s.Length) (a.At + gone a.Speed c) c)
    (fun p => MemoOk (s.Brake - 40) p.2 ∧ p.1 ≤ min (a.Speed + gainF s a.Speed g) top ∧ max 0 (a.Speed - (s.Brake + g)) ≤ p.1 ∧ May (s.Brake - 40) L E (a.At - 100 * s.Length) (a.At + gone a.Speed p.1) p.1)
    (fun p => p.1.toNat) (fun p hpi => by
    obtain ⟨w, m1⟩ := p
    obtain ⟨i1, i2, c, i3, i4, i5⟩ := hpi
    simp only at i1 i2 i3 i4
    simp only [mRunRunnerSecond_L835, unc2]
    have hgw := gone_bd (v := a.Speed) (w := w) hv.1 (by omega)
    rw [if_pos (by omega), chk_ok (by omega) (by omega), Option.bind_some, chk_ok (by omega) (by omega), Option.bind_some, gone_model hv.1 (by omega) (by omega) (by omega), Option.bind_some, chk_ok (by omega) (by omega), Option.bind_some]
    obtain ⟨q, m2, e2, hm2, hiff⟩ := may_ok hs hL hE top hB (tail := a.At - 100 * s.Length) (at_ := a.At + gone a.Speed w) (w := w) (by omega) (by omega) (by omega) i1
    unfold mayM at e2
    rw [e2, Option.bind_some]
    simp only [unc2, Option.bind_some]
    cases q with
    | true =>
      refine .inr ⟨(w, m2), by simp, hm2, i2, by simp only; omega, hiff.1 rfl⟩
    | false =>
      have hne : c ≠ w := fun he => by
        subst he
        have := hiff.2 i5
        cases this
      refine .inl ⟨(w - 1, m2), ?_, ⟨hm2, by simp only; omega, c, i3, by simp only; omega, i5⟩, by simp only; omega⟩
      simp only [Bool.not_false, if_true]
      rw [chk_ok (by omega) (by omega)]
      rfl) (min (a.Speed + gainF s a.Speed g) top, m) ⟨hm, Int.le_refl _, min (min (a.Speed + gainF s a.Speed g) top) (max 0 (a.Speed - (s.Brake - 40))), by omega, Int.min_le_left _ _,
        may_less (by omega) hL (by omega) hv.1 (by omega) (Int.min_le_right _ _) (by omega) hbrake⟩
  obtain ⟨w, m1⟩ := r
  simp only at q1 q2 q3 q4
  have hmax : max w (max 0 (a.Speed - (s.Brake + g))) = w := by omega
  rw [hr, Option.bind_some]
  simp only [unc2, hmax]
  have hgw := gone_bd (v := a.Speed) (w := w) hv.1 (by omega)
  rw [gone_model hv.1 (by omega) (by omega) (by omega), Option.bind_some, chk_ok (by omega) (by omega), Option.bind_some, Option.bind_some]
  have hd0 : ¬ s.Drag = 0 := by omega
  simp only [ne0, if_neg hd0, Option.bind_some]
  rw [show Int.tdiv (a.Speed * a.Speed) s.Drag = dragF s a.Speed from rfl]
  rw [chk_ok (x := w - a.Speed) (by omega) (by omega), Option.bind_some, chk_ok (x := w - a.Speed + s.Roll) (by omega) (by omega), Option.bind_some, chk_ok (x := a.Speed * a.Speed) (by omega) (by omega), Option.bind_some, chk_ok (x := dragF s a.Speed) (by omega) (by omega), Option.bind_some, chk_ok (x := w - a.Speed + s.Roll + dragF s a.Speed) (by omega) (by omega), Option.bind_some, chk_ok (x := w - a.Speed + s.Roll + dragF s a.Speed + g) (by omega) (by omega), Option.bind_some]
  have hdr2 : max 0 (a.Speed - (s.Brake + (L[i]'hi.lt).Grade)) ≤ w ∧ w ≤ a.Speed + gainF s a.Speed (L[i]'hi.lt).Grade := by rw [hgg]; omega
  by_cases hu : 0 < w - a.Speed + s.Roll + dragF s a.Speed + g
  · rw [if_pos hu]
    have hub : w - a.Speed + s.Roll + dragF s a.Speed + g ≤ 6086 := by omega
    generalize w - a.Speed + s.Roll + dragF s a.Speed + g = u at hu hub
    have e1 : 0 ≤ s.Mass * u := Int.mul_nonneg (by omega) (by omega)
    have e2 : s.Mass * u ≤ 2000 * 6086 := Int.mul_le_mul (by omega) hub (by omega) (by decide)
    have hd : a.At + gone a.Speed w - a.At = gone a.Speed w := by omega
    rw [chk_ok (x := s.Mass * u) (by omega) (by omega), Option.bind_some, hd, chk_ok (x := gone a.Speed w) (by omega) (by omega), Option.bind_some]
    generalize s.Mass * u = mu at e1 e2
    have e3 : 0 ≤ mu * gone a.Speed w := Int.mul_nonneg e1 hgw.2.2
    have e4 : mu * gone a.Speed w ≤ (2000 * 6086) * 6001 := Int.mul_le_mul e2 (by omega) hgw.2.2 (by decide)
    generalize mu * gone a.Speed w = wk at e3 e4
    rw [chk_ok (x := wk) (by omega) (by omega), Option.bind_some, chk_ok (x := a.Work + wk) (by omega) (by omega), Option.bind_some, Option.bind_some]
    exact ⟨⟨a.At + gone a.Speed w, w, a.Work + wk⟩, m1, rfl, q1, rfl, ⟨by simp only; omega, by simp only; omega⟩, q4, ⟨i, hi, hdr2⟩, ⟨by simp only; omega, by simp only; omega⟩⟩
  · rw [if_neg hu, Option.bind_some]
    exact ⟨⟨a.At + gone a.Speed w, w, a.Work⟩, m1, rfl, q1, rfl, ⟨by simp only; omega, by simp only; omega⟩, q4, ⟨i, hi, hdr2⟩, ⟨by simp only; omega, by simp only; omega⟩⟩
/- ---- all seconds ---- -/
/-- States of a run up to where it ends; the last one has not been moved to the end yet. -/
structure Chain (s : ApiStock) (L : List ApiPiece) (from_ E top : Int) (l : List ApiState) (k : Nat) : Prop where
  len : l.length = k + 1
  first : l[0]? = some ⟨from_, 0, 0⟩
  steps : ∀ (j : Nat) (a c : ApiState), j < k → l[j]? = some a → l[j + 1]? = some c → Step s L E top a c
  last : ∀ a, l[k]? = some a → Safe (s.Brake - 40) L E (100 * s.Length) a.At a.Speed ∧ 0 ≤ a.At ∧ a.At ≤ E ∧ 0 ≤ a.Speed ∧ a.Speed ≤ top ∧ 0 ≤ a.Work ∧ a.Work ≤ 100000000000 * k
theorem chain_next {s : ApiStock} (hs : Good s) {L : List ApiPiece} {from_ E top : Int} {l : List ApiState} {k : Nat} (h : Chain s L from_ E top l k) {a c : ApiState} (ha : l[k]? = some a) (hc : Step s L E top a c) (ht : top ≤ 6000) : Chain s L from_ E top (l ++ [c]) (k + 1) := by
  have hlen := h.len
  have hb := hs.brake
  obtain ⟨q1, q2, q3, q4, q5, q6, q7⟩ := h.last a ha
  have hg := gone_bd (v := a.Speed) (w := c.Speed) q4 hc.speed.1
  have hat := hc.at_
  have hmay := hc.may
  have hw := way_bd (b := s.Brake - 40) (t := 0) (by omega) (by omega) _ c.Speed (Nat.le_refl _) hc.speed.1 (by have := hc.speed.2; omega)
  refine ⟨by simp [hlen], ?_, fun j x y hj hx hy => ?_, fun x hx => ?_⟩
  · rw [List.getElem?_append_left (by omega)]; exact h.first
  · by_cases he : j = k
    · subst he
      rw [List.getElem?_append_left (by omega), ha] at hx
      rw [List.getElem?_append_right (by omega), hlen, Nat.sub_self] at hy
      injection hx with hx
      injection hy with hy
      subst hx; subst hy
      exact hc
    · rw [List.getElem?_append_left (by omega)] at hx hy
      exact h.steps j x y (by omega) hx hy
  · rw [List.getElem?_append_right (by omega), hlen, Nat.sub_self] at hx
    injection hx with hx
    subst hx
    have h1 := hmay.1
    have h2 := hc.work
    refine ⟨safe_next (by omega) hmay, by omega, by omega, hc.speed.1, hc.speed.2, by omega, ?_⟩
    have : (100000000000 : Int) * ((k + 1 : Nat) : Int) = 100000000000 * (k : Int) + 100000000000 := by omega
    omega
theorem states_ok {s : ApiStock} (hs : Good s) {L : List ApiPiece} (hL : WayOk L) {from_ E top : Int} (hE : 0 ≤ E ∧ E ≤ 18000000) (ht : 0 ≤ top ∧ top ≤ 6000) (hf : 0 ≤ from_ ∧ from_ ≤ E) :
    mRunStates s L from_ E top = some (4, []) ∨ ∃ l k a, mRunStates s L from_ E top = some (0, l.set k ⟨E, 0, a.Work⟩) ∧ Chain s L from_ E top l k ∧ k ≤ 3600 ∧ l[k]? = some a ∧ a.Speed = 0 ∧ E - a.At ≤ 100 := by
  obtain ⟨B, hB1, hB⟩ := begins_model hL
  unfold mRunStates mRunNewRunner
  rw [hB1, Option.bind_some, Option.bind_some]
  simp only [unc15, mRunRunnerStates]
  rcases forM_inv (body := mRunRunnerStates_L221 L B s.Name s.Length s.Mass s.Start s.Power s.Roll s.Drag s.Brake s.Top s.Seats E top) (fun k p => Chain s L from_ E top p.1 k ∧ MemoOk (s.Brake - 40) p.2)
      (fun t => ∃ l k a, t.1 = true ∧ t.2.1 = l.set k ⟨E, 0, a.Work⟩ ∧ Chain s L from_ E top l k ∧ k ≤ 3600 ∧ l[k]? = some a ∧ a.Speed = 0 ∧ E - a.At ≤ 100) 3601 0 ([(⟨from_, 0, 0⟩ : ApiState)], [])
      ⟨⟨rfl, rfl, fun j a c hj => by omega, fun a ha => by
        injection ha with ha
        subst ha
        refine ⟨⟨?_, fun i hi hp => ?_, fun i hi _ _ => ?_⟩, hf.1, hf.2, Int.le_refl _, ht.1, Int.le_refl _, by simp⟩
        · simp only; rw [way_stop (Int.le_refl _)]; omega
        · simp only at hp ⊢; rw [way_stop (by have := (hL.at hi).speed; omega)]; omega
        · have := (hL.at hi).speed; simp only; omega⟩, memo_nil _⟩ (fun k p _ hk hi => by
    obtain ⟨l, m⟩ := p
    obtain ⟨hc, hm⟩ := hi
    simp only at hc hm
    have hlen := hc.len
    obtain ⟨a, ha⟩ : ∃ a, l[k]? = some a := ⟨l[k]'(by omega), List.getElem?_eq_getElem (by omega)⟩
    obtain ⟨q1, q2, q3, q4, q5, q6, q7⟩ := hc.last a ha
    simp only [mRunRunnerStates_L221, unc2]
    have hk1 : (l.length : Int) - 1 = (k : Int) := by omega
    rw [hk1, chk_ok (by omega) (by omega), Option.bind_some, idx_nat ha, Option.bind_some]
    by_cases hst : a.Speed = 0 ∧ E - a.At ≤ 100
    · rw [if_pos hst.1, chk_ok (by omega) (by omega), Option.bind_some]
      simp only [hst.2, decide_true, Option.bind_some, if_true]
      refine .inr ⟨_, rfl, l, k, a, rfl, ?_, hc, by omega, ha, hst.1, hst.2⟩
      simp only
      rw [put_nat, hst.1]
    · have hz : (if a.Speed = 0 then ((chk (E - a.At)).bind fun _ => some (decide (E - a.At ≤ 100))) else some false) = some false := by
        by_cases h5 : a.Speed = 0
        · have h6 : ¬ E - a.At ≤ 100 := fun h => hst ⟨h5, h⟩
          rw [if_pos h5, chk_ok (by omega) (by omega)]
          simp [h6]
        · rw [if_neg h5]
      rw [hz, Option.bind_some, if_neg (by decide)]
      obtain ⟨c, m', e1, hm', hstep⟩ := second_ok hs hL hE ht hB (a := a) ⟨q2, q3⟩ ⟨q4, q5⟩ ⟨q6, by omega⟩ q1 hm
      unfold secondM at e1
      rw [e1, Option.bind_some]
      simp only [unc4]
      rw [room_ok (by omega) (by omega), Option.bind_some]
      exact .inl ⟨_, rfl, chain_next hs hc ha hstep ht.2, hm'⟩) with ⟨p, e1, _⟩ | ⟨t, e1, l, k, a, h1, h2, h3, h4, h5, h6, h7⟩
  · rw [e1]
    exact .inl rfl
  · rw [e1]
    obtain ⟨q, l', m'⟩ := t
    simp only at h1 h2
    subst h1; subst h2
    exact .inr ⟨l, k, a, rfl, h3, h4, h5, h6, h7⟩
theorem check2_spec {s : ApiStock} (hn : s.Name.size ≤ 9223372036854775807) (L : List ApiPiece) (a : ApiState) (E : Int) :
    ∃ e, mRunCheck_2 s L a E = some e ∧ (e = 0 → mRunCheck s = some 0 ∧ Good s ∧ WayOk L ∧ (0 ≤ E ∧ E ≤ beg L L.length) ∧ (0 ≤ a.At ∧ a.At ≤ E) ∧ (0 ≤ a.Speed ∧ a.Speed ≤ s.Top) ∧ (0 ≤ a.Work ∧ a.Work ≤ 1152921504606846976)) := by
  obtain ⟨e, he, hg⟩ := check_spec hn
  unfold mRunCheck_2
  rw [he, Option.bind_some]
  by_cases h0 : e ≠ 0
  · rw [if_pos h0]; exact ⟨e, rfl, fun h => absurd h h0⟩
  have h0' : e = 0 := by omega
  subst h0'
  rw [if_neg (by simp)]
  by_cases h1 : (L.length : Int) = 0
  · rw [if_pos h1]; exact ⟨1, rfl, fun h => absurd h (by decide)⟩
  rw [if_neg h1]
  by_cases h2 : 60 < (L.length : Int)
  · rw [if_pos h2]; exact ⟨4, rfl, fun h => absurd h (by decide)⟩
  rw [if_neg h2]
  rcases forM_inv (body := mRunCheck_2_L161 L) (fun k x => (∀ p ∈ L.take k, PieceOk p) ∧ x = beg L k ∧ 0 ≤ x ∧ x ≤ 300000 * k) (fun t => t = 2) L.length 0 0 ⟨by simp, rfl, by simp, by simp⟩ (fun k x _ hk hi => by
    obtain ⟨i1, i2, i3, i4⟩ := hi
    have hk' : k < L.length := by omega
    unfold mRunCheck_2_L161
    rw [idx_lt hk', Option.bind_some]
    simp only [within_eq, Option.bind_some]
    by_cases g1 : 1 ≤ L[k].Length ∧ L[k].Length ≤ 300000
    case neg => exact .inr ⟨2, by simp [g1], rfl⟩
    by_cases g2 : -40 ≤ L[k].Grade ∧ L[k].Grade ≤ 40
    case neg => exact .inr ⟨2, by simp [g1, g2], rfl⟩
    by_cases g3 : 1 ≤ L[k].Speed ∧ L[k].Speed ≤ 6000
    case neg => exact .inr ⟨2, by simp [g1, g2, g3], rfl⟩
    simp only [g1, g2, g3, and_self, decide_true, if_true, Bool.not_true, Option.bind_some]
    rw [if_neg (by decide), chk_ok (by omega) (by omega), Option.bind_some]
    refine .inl ⟨_, rfl, fun p hp => ?_, by rw [beg_succ hk', i2], by omega, by omega⟩
    rw [List.take_add_one, List.getElem?_eq_getElem hk'] at hp
    rcases List.mem_append.1 hp with h | h
    · exact i1 p h
    · simp at h
      subst h
      exact ⟨g1, g2, g3⟩) with ⟨x, e1, i1, i2, i3, i4⟩ | ⟨t, e1, e2⟩
  case inr => rw [e1, e2]; exact ⟨2, rfl, fun h => absurd h (by decide)⟩
  rw [e1]
  simp only [Option.bind_some, Sum.elim_inl, within_eq]
  have hL : WayOk L := ⟨fun p hp => i1 p (by simpa using hp), by omega, by omega⟩
  by_cases g1 : 0 ≤ E ∧ E ≤ x
  case neg => exact ⟨2, by simp [g1], fun h => absurd h (by decide)⟩
  by_cases g2 : 0 ≤ a.At ∧ a.At ≤ E
  case neg => exact ⟨2, by simp [g1, g2], fun h => absurd h (by decide)⟩
  by_cases g3 : 0 ≤ a.Speed ∧ a.Speed ≤ s.Top
  case neg => exact ⟨2, by simp [g1, g2, g3], fun h => absurd h (by decide)⟩
  by_cases g4 : 0 ≤ a.Work ∧ a.Work ≤ 1152921504606846976
  case neg => exact ⟨2, by simp [g1, g2, g3, g4], fun h => absurd h (by decide)⟩
  refine ⟨0, by simp [g1, g2, g3, g4], fun _ => ⟨trivial, hg rfl, hL, ?_, g2, g3, g4⟩⟩
  rw [i2] at g1
  simpa using g1
theorem total_bd {L : List ApiPiece} (h : WayOk L) : beg L L.length ≤ 18000000 := by
  have h1 := beg_bd h L.length (Nat.le_refl _)
  have h2 := h.few
  omega
end Go.Proofs.YtljcafilceachaaDoor
