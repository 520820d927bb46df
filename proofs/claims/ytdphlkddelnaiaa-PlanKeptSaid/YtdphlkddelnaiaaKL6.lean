/- Plain: checks, Solve whole, gaps as the reference has them. -/
import Derived.Test.YtdphlkddelnaiaaKL5
set_option linter.unusedVariables false
set_option linter.unusedSimpArgs false
namespace Go.Proofs.Ytdphlkddelnaiaa
open Go.RowKit Go.Fp

theorem within_eq (x a b : Int) : mPlanWithin x a b = some (decide (a ≤ x ∧ x ≤ b)) := by
  unfold mPlanWithin
  by_cases h : a ≤ x <;> simp [h]
theorem rwithin_eq (x a b : Int) : mFishref2Within x a b = some (decide (a ≤ x ∧ x ≤ b)) := by
  unfold mFishref2Within
  by_cases h : a ≤ x <;> simp [h]
structure OkP (p : PlanPeriodic) : Prop where
  per : 2 ≤ p.Period ∧ p.Period ≤ 3600
  ev : 1 ≤ p.Events ∧ p.Events ≤ 8
  len : p.Rules.length ≤ 40
  ok : ∀ r ∈ p.Rules, OkRule p.Events.toNat p.Period r
def OkR (P n : Int) (r : PlanRule) : Prop := (0 ≤ r.From ∧ r.From ≤ n - 1) ∧ (0 ≤ r.To ∧ r.To ≤ n - 1) ∧ r.From ≠ r.To ∧ (0 ≤ r.Min ∧ r.Min ≤ 3600) ∧ (r.Min ≤ r.Max ∧ r.Max ≤ r.Min + P - 1) ∧ (0 ≤ r.Weight ∧ r.Weight ≤ 1000)
theorem okR_iff {P n : Int} (hn : 1 ≤ n) (r : PlanRule) : OkR P n r ↔ OkRule n.toNat P r := by
  unfold OkR
  constructor
  · rintro ⟨a, b, c, d, e, f⟩
    exact ⟨by omega, by omega, c, d, by omega, f⟩
  · intro h
    have a := h.f
    have b := h.t
    have e := h.max
    exact ⟨by omega, by omega, h.ne, h.min, by omega, h.wt⟩
theorem ruleBody (p : PlanPeriodic) (hp : 2 ≤ p.Period ∧ p.Period ≤ 3600) (he : 1 ≤ p.Events ∧ p.Events ≤ 8) (k : Nat) (h : k < p.Rules.length) : (mPlanCheckPeriodic_L164 p k () = some (.inl ()) ∧ OkR p.Period p.Events p.Rules[k]) ∨ ∃ c, mPlanCheckPeriodic_L164 p k () = some (.inr c) ∧ (c ≠ 0 ∧ ¬ OkR p.Period p.Events p.Rules[k]) := by
  unfold mPlanCheckPeriodic_L164 OkR
  rw [idx_lt h]
  generalize p.Rules[k] = r
  have e1 : chk (p.Events - 1) = some (p.Events - 1) := chk_ok (by omega) (by omega)
  simp only [Option.bind_some, within_eq, e1]
  by_cases h1 : 0 ≤ r.From ∧ r.From ≤ p.Events - 1
  · by_cases h2 : 0 ≤ r.To ∧ r.To ≤ p.Events - 1
    · by_cases h3 : r.From = r.To
      · exact .inr ⟨1, by simp [h1, h2, h3], by simp, by omega⟩
      · by_cases h4 : 0 ≤ r.Min ∧ r.Min ≤ 3600
        · have e2 : chk (r.Min + p.Period) = some (r.Min + p.Period) := chk_ok (by omega) (by omega)
          have e3 : chk (r.Min + p.Period - 1) = some (r.Min + p.Period - 1) := chk_ok (by omega) (by omega)
          by_cases h5 : r.Min ≤ r.Max ∧ r.Max ≤ r.Min + p.Period - 1
          · by_cases h6 : 0 ≤ r.Weight ∧ r.Weight ≤ 1000
            · exact .inl ⟨by simp [h1, h2, h3, h4, h5, h6, e2, e3], by omega⟩
            · exact .inr ⟨2, by simp [h1, h2, h3, h4, h5, h6, e2, e3], by simp, by omega⟩
          · exact .inr ⟨2, by simp [h1, h2, h3, h4, h5, e2, e3], by simp, by omega⟩
        · exact .inr ⟨2, by simp [h1, h2, h3, h4], by simp, by omega⟩
    · exact .inr ⟨3, by simp [h1, h2], by simp, by omega⟩
  · exact .inr ⟨3, by simp [h1], by simp, by omega⟩
theorem check_spec (p : PlanPeriodic) : ∃ c, mPlanCheckPeriodic p = some c ∧ (c = 0 ↔ OkP p) := by
  unfold mPlanCheckPeriodic
  rw [within_eq, Option.bind_some]
  by_cases hp : 2 ≤ p.Period ∧ p.Period ≤ 3600
  · rw [decide_eq_true hp, if_pos rfl, within_eq, Option.bind_some]
    by_cases he : 1 ≤ p.Events ∧ p.Events ≤ 8
    · rw [decide_eq_true he, Option.bind_some, if_neg (by decide)]
      by_cases hl : 40 < (p.Rules.length : Int)
      · rw [if_pos hl]
        exact ⟨4, rfl, ⟨fun h => absurd h (by decide), fun h => by have := h.len; omega⟩⟩
      · rw [if_neg hl]
        rcases forU (body := mPlanCheckPeriodic_L164 p) (fun k => ∀ h : k < p.Rules.length, OkR p.Period p.Events p.Rules[k]) (fun c => c ≠ 0 ∧ ¬ ∀ r ∈ p.Rules, OkR p.Period p.Events r) p.Rules.length (fun k hk => by
          rcases ruleBody p hp he k hk with ⟨h1, h2⟩ | ⟨c, h1, h2, h3⟩
          · exact .inl ⟨h1, fun _ => h2⟩
          · exact .inr ⟨c, h1, h2, fun hall => h3 (hall _ (List.getElem_mem _))⟩) with ⟨h1, h2⟩ | ⟨c, h1, h2, h3⟩
        · rw [h1]
          refine ⟨0, rfl, ⟨fun _ => ⟨hp, he, by omega, fun r hr => ?_⟩, fun _ => rfl⟩⟩
          obtain ⟨j, hj, rfl⟩ := List.getElem_of_mem hr
          exact (okR_iff he.1 _).1 (h2 j hj hj)
        · rw [h1]
          exact ⟨c, rfl, ⟨fun h => absurd h h2, fun h => absurd (fun r hr => (okR_iff he.1 r).2 (h.ok r hr)) h3⟩⟩
    · rw [decide_eq_false he, Option.bind_some, if_pos (by decide)]
      exact ⟨2, rfl, ⟨fun h => absurd h (by decide), fun h => absurd h.ev he⟩⟩
  · rw [decide_eq_false hp, if_neg (by decide), Option.bind_some, if_pos rfl]
    exact ⟨2, rfl, ⟨fun h => absurd h (by decide), fun h => absurd h.per hp⟩⟩
theorem rruleBody (p : PlanPeriodic) (hp : 2 ≤ p.Period ∧ p.Period ≤ 3600) (he : 1 ≤ p.Events ∧ p.Events ≤ 8) (k : Nat) (h : k < p.Rules.length) : (mFishref2PeriodicFault_L160 p k () = some (.inl ()) ∧ OkR p.Period p.Events p.Rules[k]) ∨ ∃ c, mFishref2PeriodicFault_L160 p k () = some (.inr c) ∧ (c ≠ 0 ∧ ¬ OkR p.Period p.Events p.Rules[k]) := by
  unfold mFishref2PeriodicFault_L160 OkR
  rw [idx_lt h]
  generalize p.Rules[k] = r
  have e1 : chk (p.Events - 1) = some (p.Events - 1) := chk_ok (by omega) (by omega)
  simp only [Option.bind_some, rwithin_eq, e1]
  by_cases h1 : 0 ≤ r.From ∧ r.From ≤ p.Events - 1
  · by_cases h2 : 0 ≤ r.To ∧ r.To ≤ p.Events - 1
    · by_cases h3 : r.From = r.To
      · exact .inr ⟨1, by simp [h1, h2, h3], by simp, by omega⟩
      · by_cases h4 : 0 ≤ r.Min ∧ r.Min ≤ 3600
        · have e2 : chk (r.Min + p.Period) = some (r.Min + p.Period) := chk_ok (by omega) (by omega)
          have e3 : chk (r.Min + p.Period - 1) = some (r.Min + p.Period - 1) := chk_ok (by omega) (by omega)
          by_cases h5 : r.Max < r.Min
          · exact .inr ⟨2, by simp [h1, h2, h3, h4, h5, e2, e3], by simp, by omega⟩
          · by_cases h7 : r.Min + p.Period - 1 < r.Max
            · exact .inr ⟨2, by simp [h1, h2, h3, h4, h5, h7, e2, e3], by simp, by omega⟩
            · by_cases h6 : 0 ≤ r.Weight ∧ r.Weight ≤ 1000
              · exact .inl ⟨by simp [h1, h2, h3, h4, h5, h6, h7, e2, e3], by omega⟩
              · exact .inr ⟨2, by simp [h1, h2, h3, h4, h5, h6, h7, e2, e3], by simp, by omega⟩
        · exact .inr ⟨2, by simp [h1, h2, h3, h4], by simp, by omega⟩
    · exact .inr ⟨3, by simp [h1, h2], by simp, by omega⟩
  · exact .inr ⟨3, by simp [h1], by simp, by omega⟩
theorem fault_spec (p : PlanPeriodic) : ∃ c, mFishref2PeriodicFault p = some c ∧ (c = 0 ↔ OkP p) := by
  unfold mFishref2PeriodicFault
  rw [rwithin_eq, Option.bind_some]
  by_cases hp : 2 ≤ p.Period ∧ p.Period ≤ 3600
  · rw [decide_eq_true hp, if_pos rfl, rwithin_eq, Option.bind_some]
    by_cases he : 1 ≤ p.Events ∧ p.Events ≤ 8
    · rw [decide_eq_true he, Option.bind_some, if_neg (by decide)]
      by_cases hl : 40 < (p.Rules.length : Int)
      · rw [if_pos hl]
        exact ⟨4, rfl, ⟨fun h => absurd h (by decide), fun h => by have := h.len; omega⟩⟩
      · rw [if_neg hl]
        rcases forU (body := mFishref2PeriodicFault_L160 p) (fun k => ∀ h : k < p.Rules.length, OkR p.Period p.Events p.Rules[k]) (fun c => c ≠ 0 ∧ ¬ ∀ r ∈ p.Rules, OkR p.Period p.Events r) p.Rules.length (fun k hk => by
          rcases rruleBody p hp he k hk with ⟨h1, h2⟩ | ⟨c, h1, h2, h3⟩
          · exact .inl ⟨h1, fun _ => h2⟩
          · exact .inr ⟨c, h1, h2, fun hall => h3 (hall _ (List.getElem_mem _))⟩) with ⟨h1, h2⟩ | ⟨c, h1, h2, h3⟩
        · rw [h1]
          refine ⟨0, rfl, ⟨fun _ => ⟨hp, he, by omega, fun r hr => ?_⟩, fun _ => rfl⟩⟩
          obtain ⟨j, hj, rfl⟩ := List.getElem_of_mem hr
          exact (okR_iff he.1 _).1 (h2 j hj hj)
        · rw [h1]
          exact ⟨c, rfl, ⟨fun h => absurd h h2, fun h => absurd (fun r hr => (okR_iff he.1 r).2 (h.ok r hr)) h3⟩⟩
    · rw [decide_eq_false he, Option.bind_some, if_pos (by decide)]
      exact ⟨2, rfl, ⟨fun h => absurd h (by decide), fun h => absurd h.ev he⟩⟩
  · rw [decide_eq_false hp, if_neg (by decide), Option.bind_some, if_pos rfl]
    exact ⟨2, rfl, ⟨fun h => absurd h (by decide), fun h => absurd h.per hp⟩⟩
theorem okP_ctx {p : PlanPeriodic} (h : OkP p) : ∃ n : Nat, p = ⟨p.Period, (n : Int), p.Rules⟩ ∧ p.Events = (n : Int) ∧ Ctx n p.Period p.Rules := by
  have e := h.ev
  refine ⟨p.Events.toNat, ?_, by omega, ⟨by omega, by omega, h.per, h.len, h.ok⟩⟩
  cases p
  simp only at e ⊢
  congr 1
  omega
abbrev GoodP (p : PlanPeriodic) (s : Nat → Int) : Prop := Good p.Events.toNat p.Period p.Rules s
/-- Solve, whole. -/
theorem solve_full {p : PlanPeriodic} (h : OkP p) : (mPlanSolve p = some (9, []) ∧ ∀ s, ¬ GoodP p s) ∨
    ∃ T, mPlanSolve p = some (0, T) ∧ (T.length : Int) = p.Events ∧ T ≠ [] ∧ GoodP p (tm T) ∧ ∀ s, GoodP p s → LexLe p.Events.toNat (tm T) s := by
  obtain ⟨c, c1, c2⟩ := check_spec p
  obtain ⟨n, e1, e2, C⟩ := okP_ctx h
  have e3 : p.Events.toNat = n := by omega
  unfold mPlanSolve GoodP
  rw [c1, Option.bind_some, if_neg (by simpa using c2.2 h), e3]
  have hs := solve_spec C
  rw [← e1] at hs
  rcases hs with ⟨h1, h2⟩ | ⟨T, h1, h2, h3⟩
  · rw [h1, Option.bind_some, if_pos (show ([] : List Int).isEmpty = true from rfl)]
    exact .inl ⟨rfl, h2⟩
  · have n1 := C.n1
    have hne : T ≠ [] := fun e => by subst e; simp at h2; omega
    rw [h1, Option.bind_some, if_neg (by simpa using hne)]
    exact .inr ⟨T, rfl, by omega, hne, h3⟩
/- ---- gaps ---- -/
theorem gap_uniq {P d k k' : Int} (hP : 2 ≤ P) {m : Int} (h1 : m ≤ d + k * P) (h2 : d + k * P < m + P) (h3 : m ≤ d + k' * P) (h4 : d + k' * P < m + P) : d + k * P = d + k' * P := by
  by_cases a : k < k'
  · have := mul_ge (k := k + 1) (m := k') (P := P) (by omega) (by omega)
    rw [Int.add_mul, Int.one_mul] at this
    omega
  · by_cases b : k' < k
    · have := mul_ge (k := k' + 1) (m := k) (P := P) (by omega) (by omega)
      rw [Int.add_mul, Int.one_mul] at this
      omega
    · have : k = k' := by omega
      rw [this]
/-- 'g' is the gap of a rule. -/
def IsGap (P : Int) (r : PlanRule) (s : Nat → Int) (g : Int) : Prop := r.Min ≤ g ∧ g < r.Min + P ∧ ∃ k, g = (s r.To.toNat - s r.From.toNat) + k * P
theorem gap_kept {n : Nat} {P : Int} (hP : 2 ≤ P) {r : PlanRule} (hr : OkRule n P r) {s : Nat → Int} {g : Int} (h : IsGap P r s g) : g ≤ r.Max ↔ Kept P r s := by
  obtain ⟨h1, h2, k, h3⟩ := h
  have m := hr.max
  constructor
  · intro hg
    exact ⟨k, by unfold With; omega⟩
  · rintro ⟨k', hk'⟩
    unfold With at hk'
    have := gap_uniq (d := s r.To.toNat - s r.From.toNat) (k := k) (k' := k') (m := r.Min) hP (by omega) (by omega) (by omega) (by omega)
    omega
structure OkT (p : PlanPeriodic) (T : List Int) : Prop where
  len : (T.length : Int) = p.Events
  rng : ∀ x ∈ T, 0 ≤ x ∧ x ≤ p.Period - 1
theorem okT_at {p : PlanPeriodic} {T : List Int} (h : OkT p T) {i : Int} (h0 : 0 ≤ i) (h1 : i < p.Events) : idx T i = some (tm T i.toNat) ∧ 0 ≤ tm T i.toNat ∧ tm T i.toNat ≤ p.Period - 1 := by
  have hl := h.len
  have hi : i.toNat < T.length := by omega
  have e := idx_lt hi
  rw [show ((i.toNat : Nat) : Int) = i by omega] at e
  rw [tm_at hi]
  exact ⟨e, h.rng _ (List.getElem_mem hi)⟩
theorem rgap_spec {p : PlanPeriodic} (hp : OkP p) {T : List Int} (hT : OkT p T) {r : PlanRule} (hr : OkRule p.Events.toNat p.Period r) : ∃ g, mFishref2GapOf p r T = some g ∧ IsGap p.Period r (tm T) g := by
  have f := hr.f
  have t := hr.t
  have mi := hr.min
  have ev := hp.ev
  have pp := hp.per
  obtain ⟨a1, a2⟩ := okT_at hT (i := r.To) (by omega) (by omega)
  obtain ⟨b1, b2⟩ := okT_at hT (i := r.From) (by omega) (by omega)
  unfold mFishref2GapOf
  rw [a1, Option.bind_some, b1, Option.bind_some, chk_ok (by omega) (by omega), Option.bind_some]
  generalize hd : tm T r.To.toNat - tm T r.From.toNat = d at *
  obtain ⟨x, x1, x2, x3, x4⟩ := loopM_inv (step := mFishref2GapOf_L172 p r) (fun x => (∃ k, x = d + k * p.Period) ∧ -10000 ≤ x ∧ x ≤ 10000) (fun x => r.Min ≤ x ∧ (∃ k, x = d + k * p.Period) ∧ x ≤ 10000) (fun x => (r.Min - x).toNat) (fun x hx => by
    obtain ⟨⟨k, hk⟩, h2, h3⟩ := hx
    unfold mFishref2GapOf_L172
    by_cases hc : x < r.Min
    · rw [if_pos hc, chk_ok (by omega) (by omega), Option.bind_some]
      exact .inl ⟨_, rfl, ⟨⟨k + 1, by rw [Int.add_mul, Int.one_mul]; omega⟩, by omega, by omega⟩, by omega⟩
    · rw [if_neg hc]
      exact .inr ⟨_, rfl, by omega, ⟨k, hk⟩, h3⟩) d ⟨⟨0, by omega⟩, by omega, by omega⟩
  rw [x1, Option.bind_some]
  obtain ⟨y, y1, y2⟩ := loopM_inv (step := mFishref2GapOf_L201 p r) (fun x => r.Min ≤ x ∧ (∃ k, x = d + k * p.Period) ∧ x ≤ 10000) (fun x => r.Min ≤ x ∧ x < r.Min + p.Period ∧ ∃ k, x = d + k * p.Period) (fun x => x.toNat) (fun x hx => by
    obtain ⟨h2, ⟨k, hk⟩, h3⟩ := hx
    unfold mFishref2GapOf_L201
    rw [chk_ok (by omega) (by omega), Option.bind_some]
    by_cases hc : r.Min + p.Period ≤ x
    · rw [if_pos hc, chk_ok (by omega) (by omega), Option.bind_some]
      exact .inl ⟨_, rfl, ⟨by omega, ⟨k - 1, by rw [Int.sub_mul, Int.one_mul]; omega⟩, by omega⟩, by omega⟩
    · rw [if_neg hc]
      exact .inr ⟨_, rfl, by omega, by omega, ⟨k, hk⟩⟩) x ⟨x2, x3, x4⟩
  rw [y1]
  unfold IsGap
  rw [hd]
  exact ⟨y, rfl, y2⟩
theorem rbroken_spec {p : PlanPeriodic} (hp : OkP p) {T : List Int} (hT : OkT p T) : ∃ v, mFishref2BrokenOf p T = some v ∧ (v < 0 ↔ ∀ r ∈ p.Rules, Kept p.Period r (tm T)) := by
  unfold mFishref2BrokenOf mSlicesIndexFunc
  have ep : (⟨p.Period, p.Events, p.Rules⟩ : PlanPeriodic) = p := rfl
  rcases forU (body := mSlicesIndexFunc_L58 p.Rules p.Period p.Events p.Rules T) (fun k => ∀ h : k < p.Rules.length, Kept p.Period p.Rules[k] (tm T)) (fun v => 0 ≤ v ∧ ¬ ∀ r ∈ p.Rules, Kept p.Period r (tm T)) p.Rules.length (fun k hk => by
    have hok := hp.ok _ (List.getElem_mem hk)
    obtain ⟨g, g1, g2⟩ := rgap_spec hp hT hok
    have gk := gap_kept hp.per.1 hok g2
    unfold mSlicesIndexFunc_L58 mFishref2BrokenOf_1
    rw [idx_lt hk, Option.bind_some, ep, g1, Option.bind_some, Option.bind_some]
    by_cases hc : p.Rules[k].Max < g
    · rw [decide_eq_true hc, if_pos rfl]
      exact .inr ⟨_, rfl, by omega, fun hall => by have := gk.2 (hall _ (List.getElem_mem hk)); omega⟩
    · rw [decide_eq_false hc, if_neg (by decide)]
      exact .inl ⟨rfl, fun _ => gk.1 (by omega)⟩) with ⟨h1, h2⟩ | ⟨v, h1, h2, h3⟩
  · rw [h1]
    refine ⟨-1, rfl, ⟨fun _ r hr => ?_, fun _ => by omega⟩⟩
    obtain ⟨j, hj, rfl⟩ := List.getElem_of_mem hr
    exact h2 j hj hj
  · rw [h1]
    exact ⟨v, rfl, ⟨fun h => by omega, fun h => absurd h h3⟩⟩
theorem rtimes_spec {p : PlanPeriodic} (T : List Int) : ∃ c, mFishref2TimesFault p T = some c ∧ (c = 0 ↔ OkP p ∧ OkT p T) := by
  obtain ⟨c, c1, c2⟩ := fault_spec p
  unfold mFishref2TimesFault
  rw [c1, Option.bind_some]
  by_cases hc : c = 0
  · have hp := c2.1 hc
    have pp := hp.per
    rw [if_neg (by simpa using hc)]
    by_cases hl : (T.length : Int) = p.Events
    · rw [if_neg (by simpa using hl)]
      rcases forU (body := mFishref2TimesFault_L58 T p) (fun k => ∀ h : k < T.length, 0 ≤ T[k] ∧ T[k] ≤ p.Period - 1) (fun c => c ≠ 0 ∧ ¬ ∀ x ∈ T, 0 ≤ x ∧ x ≤ p.Period - 1) T.length (fun k hk => by
        unfold mFishref2TimesFault_L58
        rw [idx_lt hk, Option.bind_some, chk_ok (by omega) (by omega), Option.bind_some, rwithin_eq, Option.bind_some]
        by_cases hc : 0 ≤ T[k] ∧ T[k] ≤ p.Period - 1
        · rw [decide_eq_true hc, if_pos rfl]
          exact .inl ⟨rfl, fun _ => hc⟩
        · rw [decide_eq_false hc, if_neg (by decide)]
          exact .inr ⟨2, rfl, by decide, fun hall => hc (hall _ (List.getElem_mem hk))⟩) with ⟨h1, h2⟩ | ⟨v, h1, h2, h3⟩
      · rw [h1]
        refine ⟨0, rfl, ⟨fun _ => ⟨hp, hl, fun x hx => ?_⟩, fun _ => rfl⟩⟩
        obtain ⟨j, hj, rfl⟩ := List.getElem_of_mem hx
        exact h2 j hj hj
      · rw [h1]
        exact ⟨v, rfl, ⟨fun h => absurd h h2, fun h => absurd h.2.rng h3⟩⟩
    · rw [if_pos hl]
      exact ⟨1, rfl, ⟨fun h => absurd h (by decide), fun h => absurd h.2.len hl⟩⟩
  · rw [if_pos hc]
    exact ⟨c, rfl, ⟨fun h => absurd h hc, fun h => absurd (c2.2 h.1) hc⟩⟩
theorem okT_of {p : PlanPeriodic} {T : List Int} (hl : (T.length : Int) = p.Events) (h : GoodP p (tm T)) : OkT p T := by
  refine ⟨hl, fun x hx => ?_⟩
  obtain ⟨j, hj, rfl⟩ := List.getElem_of_mem hx
  have := h.rng j (by omega)
  rw [tm_at hj] at this
  exact this
end Go.Proofs.Ytdphlkddelnaiaa
