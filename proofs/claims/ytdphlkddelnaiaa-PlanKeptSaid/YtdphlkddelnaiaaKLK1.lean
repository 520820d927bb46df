/- Plain: gaps and costs of times. -/
import Derived.Test.YtdphlkddelnaiaaKL7
set_option linter.unusedVariables false
set_option linter.unusedSimpArgs false
namespace Go.Proofs.Ytdphlkddelnaiaa
open Go.RowKit Go.Fp

def gp (P : Int) (r : PlanRule) (s : Nat → Int) : Int := r.Min + (s r.To.toNat - s r.From.toNat - r.Min) % P
theorem gp_is {P : Int} (hP : 2 ≤ P) (r : PlanRule) (s : Nat → Int) : IsGap P r s (gp P r s) := by
  have h1 := Int.emod_nonneg (s r.To.toNat - s r.From.toNat - r.Min) (show P ≠ 0 by omega)
  have h2 := Int.emod_lt_of_pos (s r.To.toNat - s r.From.toNat - r.Min) (show 0 < P by omega)
  have h3 := Int.emod_add_mul_ediv (s r.To.toNat - s r.From.toNat - r.Min) P
  unfold gp
  refine ⟨by omega, by omega, -((s r.To.toNat - s r.From.toNat - r.Min) / P), ?_⟩
  rw [Int.neg_mul, Int.mul_comm]
  omega
theorem isGap_uniq {P : Int} (hP : 2 ≤ P) {r : PlanRule} {s : Nat → Int} {g g' : Int} (h : IsGap P r s g) (h' : IsGap P r s g') : g = g' := by
  obtain ⟨a1, a2, k, a3⟩ := h
  obtain ⟨b1, b2, k', b3⟩ := h'
  have := gap_uniq (d := s r.To.toNat - s r.From.toNat) (k := k) (k' := k') (m := r.Min) hP (by omega) (by omega) (by omega) (by omega)
  omega
def wc (P : Int) (r : PlanRule) (s : Nat → Int) : Int := r.Weight * (gp P r s - r.Min)
def costR (P : Int) (R : List PlanRule) (s : Nat → Int) : Int := (R.map (fun r => wc P r s)).sum
theorem wmul_bd {w g : Int} (hw : 0 ≤ w ∧ w ≤ 1000) {M : Int} (hg : 0 ≤ g ∧ g ≤ M) : 0 ≤ w * g ∧ w * g ≤ 1000 * M :=
  ⟨Int.mul_nonneg hw.1 hg.1, Int.mul_le_mul hw.2 hg.2 hg.1 (by omega)⟩
theorem wc_bd {n : Nat} {P : Int} (hP : 2 ≤ P ∧ P ≤ 3600) {r : PlanRule} (hr : OkRule n P r) (s : Nat → Int) : 0 ≤ wc P r s ∧ wc P r s ≤ 3600000 := by
  have h := gp_is hP.1 r s
  have := wmul_bd (w := r.Weight) (g := gp P r s - r.Min) hr.wt (M := 3600) ⟨by have := h.1; omega, by have := h.2.1; omega⟩
  unfold wc
  omega
theorem wc_with {P : Int} (hP : 2 ≤ P) {r : PlanRule} (hm : r.Max ≤ r.Min + P - 1) {s : Nat → Int} {k : Int} (h : With P r s k) : gp P r s = s r.To.toNat - s r.From.toNat + k * P := by
  unfold With at h
  exact isGap_uniq hP (gp_is hP r s) ⟨by omega, by omega, k, rfl⟩
theorem gap2_eq {p : PlanPeriodic} (hp : OkP p) {T : List Int} (hT : OkT p T) {r : PlanRule} (hr : OkRule p.Events.toNat p.Period r) : mPlanGap_2 p r T = some (gp p.Period r (tm T)) := by
  have f := hr.f
  have t := hr.t
  have mi := hr.min
  have ev := hp.ev
  have pp := hp.per
  obtain ⟨a1, a2⟩ := okT_at hT (i := r.To) (by omega) (by omega)
  obtain ⟨b1, b2⟩ := okT_at hT (i := r.From) (by omega) (by omega)
  have hne : ne0 p.Period = some () := by
    unfold ne0
    rw [if_neg (by omega)]
  unfold mPlanGap_2
  rw [a1, Option.bind_some, b1, Option.bind_some, chk_ok (by omega) (by omega), Option.bind_some, chk_ok (by omega) (by omega), Option.bind_some, hne, Option.bind_some]
  generalize hd : tm T r.To.toNat - tm T r.From.toNat = d at *
  have h1 := Int.tmod_add_mul_tdiv (d - r.Min) p.Period
  have h2 := Int.tmod_lt_of_pos (d - r.Min) (show 0 < p.Period by omega)
  have h3 := Int.tmod_lt_of_pos (-(d - r.Min)) (show 0 < p.Period by omega)
  rw [Int.neg_tmod] at h3
  rw [Int.mul_comm] at h1
  have hg := gp_is pp.1 r (tm T)
  by_cases hm : Int.tmod (d - r.Min) p.Period < 0
  · rw [if_pos hm, chk_ok (by omega) (by omega), Option.bind_some, Option.bind_some, chk_ok (by omega) (by omega)]
    refine congrArg some (isGap_uniq pp.1 ⟨by omega, by omega, 1 - Int.tdiv (d - r.Min) p.Period, ?_⟩ hg)
    rw [hd, Int.sub_mul, Int.one_mul]
    omega
  · rw [if_neg hm, Option.bind_some, chk_ok (by omega) (by omega)]
    refine congrArg some (isGap_uniq pp.1 ⟨by omega, by omega, - Int.tdiv (d - r.Min) p.Period, ?_⟩ hg)
    rw [hd, Int.neg_mul]
    omega
theorem times_spec {p : PlanPeriodic} (T : List Int) : ∃ c, mPlanCheckTimes p T = some c ∧ (c = 0 ↔ OkP p ∧ OkT p T) := by
  obtain ⟨c, c1, c2⟩ := check_spec p
  unfold mPlanCheckTimes
  rw [c1, Option.bind_some]
  by_cases hc : c = 0
  · have hp := c2.1 hc
    have pp := hp.per
    rw [if_neg (by simpa using hc)]
    by_cases hl : (T.length : Int) = p.Events
    · rw [if_neg (by simpa using hl)]
      rcases forU (body := mPlanCheckTimes_L58 T p) (fun k => ∀ h : k < T.length, 0 ≤ T[k] ∧ T[k] ≤ p.Period - 1) (fun c => c ≠ 0 ∧ ¬ ∀ x ∈ T, 0 ≤ x ∧ x ≤ p.Period - 1) T.length (fun k hk => by
        unfold mPlanCheckTimes_L58
        rw [idx_lt hk, Option.bind_some, chk_ok (by omega) (by omega), Option.bind_some, within_eq, Option.bind_some]
        by_cases hc : 0 ≤ T[k] ∧ T[k] ≤ p.Period - 1
        · rw [decide_eq_true hc, if_pos rfl]
          exact .inl ⟨rfl, fun _ => hc⟩
        · rw [decide_eq_false hc, if_neg (by decide)]
          exact .inr ⟨2, rfl, by decide, fun hall => hc (hall _ (List.getElem_mem hk))⟩) with ⟨h1, h2⟩ | ⟨v, h1, h2, h3⟩
      · rw [h1]
        refine ⟨0, rfl, ⟨fun _ => ⟨hp, hl, fun x hx => ?_⟩, fun _ => rfl⟩⟩
        obtain ⟨j, hj, rfl⟩ := List.getElem_of_mem hx
        exact h2 j hj hj
      · rw [h1]
        exact ⟨v, rfl, ⟨fun h => absurd h h2, fun h => absurd h.2.rng h3⟩⟩
    · rw [if_pos hl]
      exact ⟨1, rfl, ⟨fun h => absurd h (by decide), fun h => absurd h.2.len hl⟩⟩
  · rw [if_pos hc]
    exact ⟨c, rfl, ⟨fun h => absurd h hc, fun h => absurd (c2.2 h.1) hc⟩⟩
theorem broken_eq {p : PlanPeriodic} (hp : OkP p) {T : List Int} (hT : OkT p T) (hk : ∀ r ∈ p.Rules, Kept p.Period r (tm T)) : mPlanBroken p T = some (-1, 0) := by
  obtain ⟨c, c1, c2⟩ := times_spec (p := p) T
  unfold mPlanBroken mSlicesIndexFunc_3
  rw [c1, Option.bind_some, if_neg (by simpa using c2.2 ⟨hp, hT⟩), forU_ok (body := mSlicesIndexFunc_3_L58 p.Rules p.Period p.Events p.Rules T) p.Rules.length (fun k hk' => by
    have hok := hp.ok _ (List.getElem_mem hk')
    have h := (gap_kept hp.per.1 hok (gp_is hp.per.1 p.Rules[k] (tm T))).2 (hk _ (List.getElem_mem hk'))
    unfold mSlicesIndexFunc_3_L58 mPlanBroken_1
    rw [idx_lt hk', Option.bind_some, show (⟨p.Period, p.Events, p.Rules⟩ : PlanPeriodic) = p from rfl, gap2_eq hp hT hok, Option.bind_some, Option.bind_some, decide_eq_false (by omega), if_neg (by decide)])]
  rfl
theorem costR_app (P : Int) (A B : List PlanRule) (s : Nat → Int) : costR P (A ++ B) s = costR P A s + costR P B s := by
  unfold costR
  rw [List.map_append, List.sum_append]
theorem costR_one (P : Int) (r : PlanRule) (s : Nat → Int) : costR P [r] s = wc P r s := by
  unfold costR
  simp
theorem cost_eq {p : PlanPeriodic} (hp : OkP p) {T : List Int} (hT : OkT p T) : mPlanCost p T = some (costR p.Period p.Rules (tm T), 0) := by
  obtain ⟨c, c1, c2⟩ := times_spec (p := p) T
  have hl := hp.len
  unfold mPlanCost mPlanCost_2
  rw [c1, Option.bind_some, if_neg (by simpa using c2.2 ⟨hp, hT⟩)]
  obtain ⟨v, h1, h2, h3⟩ := forS_inv (body := mPlanCost_2_L84 T p) (fun k v => v = costR p.Period (p.Rules.take k) (tm T) ∧ 0 ≤ v ∧ v ≤ 3600000 * (k : Int)) p.Rules.length 0 0 ⟨rfl, by omega, by omega⟩ (fun k v _ hk hi => by
    have hk' : k < p.Rules.length := by omega
    obtain ⟨g1, g2⟩ := hi
    have hok := hp.ok _ (List.getElem_mem hk')
    have hw := wc_bd hp.per hok (tm T)
    have hg := gp_is hp.per.1 p.Rules[k] (tm T)
    have hg1 := hg.1
    have hg2 := hg.2.1
    have pp := hp.per
    have mi := hok.min
    unfold wc at hw
    unfold mPlanCost_2_L84
    rw [idx_lt hk', Option.bind_some, gap2_eq hp hT hok, Option.bind_some, chk_ok (by omega) (by omega), Option.bind_some, chk_ok (by omega) (by omega), Option.bind_some, chk_ok (by omega) (by omega), Option.bind_some]
    refine ⟨_, rfl, ?_, by omega, by omega⟩
    rw [List.take_succ_eq_append_getElem hk', costR_app, costR_one, g1]
    rfl)
  rw [h1, h2, Nat.zero_add, List.take_length]
  rfl
/- ---- moved together ---- -/
theorem gp_shift {P : Int} (hP : 2 ≤ P) {r : PlanRule} {s s' : Nat → Int} (h : ∃ k, s' r.To.toNat - s' r.From.toNat = s r.To.toNat - s r.From.toNat + k * P) : gp P r s' = gp P r s := by
  obtain ⟨k, hk⟩ := h
  have h1 := gp_is hP r s'
  obtain ⟨a1, a2, j, a3⟩ := h1
  refine isGap_uniq (s := s) hP ⟨a1, a2, j + k, ?_⟩ (gp_is hP r s)
  rw [a3, hk, Int.add_mul]
  omega
theorem kept_shift {n : Nat} {P : Int} (hP : 2 ≤ P) {r : PlanRule} (hr : OkRule n P r) {s s' : Nat → Int} (h : ∃ k, s' r.To.toNat - s' r.From.toNat = s r.To.toNat - s r.From.toNat + k * P) (hk : Kept P r s) : Kept P r s' := by
  have h1 := (gap_kept hP hr (gp_is hP r s)).2 hk
  rw [← gp_shift hP h] at h1
  exact (gap_kept hP hr (gp_is hP r s')).1 h1
/-- Times that keep all rules, moved so that event 0 is at 0. -/
theorem good_of_kept {p : PlanPeriodic} (hp : OkP p) {T : List Int} (hT : OkT p T) (hk : ∀ r ∈ p.Rules, Kept p.Period r (tm T)) : ∃ s, GoodP p s := by
  have pp := hp.per
  refine ⟨fun j => (tm T j - tm T 0) % p.Period, by show (tm T 0 - tm T 0) % p.Period = 0; rw [Int.sub_self, Int.zero_emod], fun j hj => ?_, fun r hr => ?_⟩
  · have h1 := Int.emod_nonneg (tm T j - tm T 0) (show p.Period ≠ 0 by omega)
    have h2 := Int.emod_lt_of_pos (tm T j - tm T 0) (show 0 < p.Period by omega)
    show 0 ≤ (tm T j - tm T 0) % p.Period ∧ (tm T j - tm T 0) % p.Period ≤ p.Period - 1
    omega
  · refine kept_shift pp.1 (hp.ok r hr) ⟨(tm T r.From.toNat - tm T 0) / p.Period - (tm T r.To.toNat - tm T 0) / p.Period, ?_⟩ (hk r hr)
    have h1 := Int.emod_add_mul_ediv (tm T r.From.toNat - tm T 0) p.Period
    have h2 := Int.emod_add_mul_ediv (tm T r.To.toNat - tm T 0) p.Period
    rw [Int.mul_comm] at h1 h2
    show (tm T r.To.toNat - tm T 0) % p.Period - (tm T r.From.toNat - tm T 0) % p.Period = _
    rw [Int.sub_mul]
    omega
end Go.Proofs.Ytdphlkddelnaiaa
