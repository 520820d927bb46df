/- Plain: the law of the least and the cheapest times. -/
import Derived.Test.YtdphlkddelnaiaaKLK6
set_option linter.unusedVariables false
set_option linter.unusedSimpArgs false
namespace Go.Proofs.Ytdphlkddelnaiaa
open Go.RowKit Go.Fp

theorem start2_eq : mPlanSearchStart_2 = fun x1 x2 l1 x3 x4 l2 x5 l3 l4 l5 => mPlanSearchStart x1 x2 l1 l3 l4 := by
  unfold mPlanSearchStart_2 mPlanSearchStart
  rfl
theorem best_spec {p : PlanPeriodic} (hp : OkP p) (h6 : p.Events ≤ 6) {s0 : Nat → Int} (hs0 : GoodP p s0) : ∃ v best, mPlanBest p = some (v, 0, best) ∧ OkT p best ∧ GoodP p (tm best) ∧ costR p.Period p.Rules (tm best) = v ∧ ∀ s, GoodP p s → v ≤ costR p.Period p.Rules s := by
  obtain ⟨c, c1, c2⟩ := check_spec p
  obtain ⟨n, e1, e2, C⟩ := okP_ctx hp
  have e3 : p.Events.toNat = n := by omega
  have h6n : n ≤ 6 := by omega
  have hl : (allT p.Rules.length).length = p.Rules.length := List.length_replicate
  obtain ⟨b0, s1, s2, s3⟩ := start_spec C.n8 C.pp p.Rules (List.replicate p.Rules.length 0) (allT p.Rules.length)
  have W : Way n p.Period p.Rules b0 (List.replicate p.Rules.length 0) (allT p.Rules.length) := ⟨s2, fun s hs hz => (sol_start C.n1 s3 s hz C.pp.1).1 hs, List.length_replicate, hl, fun k hk hf => by
    have := allT_at.2 hk
    rw [hf] at this
    cases this⟩
  have key : ∀ v' best', BSays n p.Period p.Rules b0 (allT p.Rules.length) 0 [] v' best' → best' ≠ [] ∧ OkT p best' ∧ GoodP p (tm best') ∧ costR p.Period p.Rules (tm best') = v' ∧ ∀ s, GoodP p s → v' ≤ costR p.Period p.Rules s := fun v' best' h => by
    have hlow : ∀ s, GoodP p s → best' ≠ [] ∧ v' ≤ costR p.Period p.Rules s := fun s hs => h.low s ((feas_iff C s3 s).2 (by
      unfold GoodP at hs
      rw [e3] at hs
      exact hs))
    obtain ⟨k1, _⟩ := hlow s0 hs0
    rcases h.good with h1 | ⟨h1, h2, h3⟩
    · exact absurd h1 k1
    · have hg : GoodP p (tm best') := by
        unfold GoodP
        rw [e3]
        exact h2
      exact ⟨k1, okT_of (by omega) hg, hg, h3, fun s hs => (hlow s hs).2⟩
  obtain ⟨r, r1, v, tk', best', r2, r3⟩ := lim_ok (f := fun N => mPlanSearchRun_2 N (some b0) p.Period (n : Int) p.Rules p.Period (n : Int) p.Rules 0 (List.replicate p.Rules.length 0) (allT p.Rules.length) []) (P := fun r => ∃ v tk' best', r = (v, tk', allT p.Rules.length, best') ∧ BSays n p.Period p.Rules b0 (allT p.Rules.length) 0 [] v best') (by
      rcases run2_spec C h6n ((allT p.Rules.length).count true + 1) b0 0 (List.replicate p.Rules.length 0) (allT p.Rules.length) [] W (.inl rfl) with ⟨_, h2⟩ | ⟨v, tk', best', h1, _⟩
      · exact absurd h2 (by omega)
      · exact ⟨_, _, h1⟩) (fun N r hr => by
      rcases run2_spec C h6n N b0 0 (List.replicate p.Rules.length 0) (allT p.Rules.length) [] W (.inl rfl) with ⟨h1, _⟩ | ⟨v, tk', best', h1, h2, h3, h4⟩
      · rw [show mPlanSearchRun_2 N (some b0) p.Period (n : Int) p.Rules p.Period (n : Int) p.Rules 0 (List.replicate p.Rules.length 0) (allT p.Rules.length) [] = some r from hr] at h1
        cases h1
      · rw [show mPlanSearchRun_2 N (some b0) p.Period (n : Int) p.Rules p.Period (n : Int) p.Rules 0 (List.replicate p.Rules.length 0) (allT p.Rules.length) [] = some r from hr] at h1
        injection h1 with h1
        exact ⟨v, tk', best', h1, h4⟩)
  obtain ⟨k1, k2, k3, k4, k5⟩ := key v best' r3
  unfold mPlanBest
  rw [c1, Option.bind_some, if_neg (by simpa using c2.2 hp), if_neg (by omega), newSearch_eq C.len, pass5, start2_eq]
  dsimp only
  rw [e2]
  rw [show mPlanSearchStart p.Period (n : Int) p.Rules (List.replicate p.Rules.length 0) (List.replicate p.Rules.length true) = some b0 from s1, Option.bind_some]
  rw [show lim (fun N => mPlanSearchRun_2 N (some b0) p.Period (n : Int) p.Rules p.Period (n : Int) p.Rules 0 (List.replicate p.Rules.length 0) (List.replicate p.Rules.length true) []) = some r from r1, r2, pass4, if_neg (by simpa using k1)]
  exact ⟨v, best', rfl, k2, k3, k4, k5⟩
/-- The times all moved by one amount. -/
theorem tmod_shift {P x m : Int} : Int.tmod (x + m) P = x + m - Int.tdiv (x + m) P * P := by
  have := Int.tmod_add_mul_tdiv (x + m) P
  rw [Int.mul_comm] at this
  omega
theorem moved_loop {p : PlanPeriodic} (hp : OkP p) {T : List Int} (hT : OkT p T) (by_ : Int) : ∃ U m, forS (mFishkeep2PlanKept_L523 p by_) T.length 0 T = some U ∧ U.length = T.length ∧ ∀ j, j < T.length → tm U j = Int.tmod (tm T j + m) p.Period ∧ 0 ≤ tm U j ∧ tm U j ≤ p.Period - 1 := by
  have pp := hp.per
  have a1 := Int.tmod_lt_of_pos by_ (show 0 < p.Period by omega)
  have a2 := Int.tmod_lt_of_pos (-by_) (show 0 < p.Period by omega)
  rw [Int.neg_tmod] at a2
  obtain ⟨m, hm⟩ : ∃ m, m = Int.tmod (Int.tmod by_ p.Period + p.Period) p.Period := ⟨_, rfl⟩
  have m1 := Int.tmod_lt_of_pos (Int.tmod by_ p.Period + p.Period) (show 0 < p.Period by omega)
  have m2 := Int.tmod_nonneg (a := Int.tmod by_ p.Period + p.Period) p.Period (by omega)
  rw [← hm] at m1 m2
  have hne : ne0 p.Period = some () := by
    unfold ne0
    rw [if_neg (by omega)]
  have val : ∀ j, j < T.length → 0 ≤ Int.tmod (tm T j + m) p.Period ∧ Int.tmod (tm T j + m) p.Period ≤ p.Period - 1 ∧ 0 ≤ tm T j ∧ tm T j ≤ p.Period - 1 := fun j hj => by
    have hx := hT.rng _ (List.getElem_mem hj)
    rw [← tm_at hj] at hx
    have b1 := Int.tmod_lt_of_pos (tm T j + m) (show 0 < p.Period by omega)
    have b2 := Int.tmod_nonneg (a := tm T j + m) p.Period (by omega)
    omega
  obtain ⟨U, h1, h2, h3⟩ := forS_inv (body := mFishkeep2PlanKept_L523 p by_) (fun k l => l.length = T.length ∧ ∀ j, j < T.length → tm l j = if j < k then Int.tmod (tm T j + m) p.Period else tm T j) T.length 0 T ⟨rfl, fun j hj => by rw [if_neg (by omega)]⟩ (fun k l _ hk hi => by
    have hk' : k < T.length := by omega
    have hkl : k < l.length := by omega
    have e1 := hi.2 k hk'
    rw [if_neg (by omega)] at e1
    have hv := val k hk'
    unfold mFishkeep2PlanKept_L523
    rw [tm_idx hkl, Option.bind_some, e1, hne, Option.bind_some, chk_ok (by omega) (by omega), Option.bind_some, Option.bind_some, ← hm, chk_ok (by omega) (by omega), Option.bind_some, Option.bind_some, Option.bind_some]
    refine ⟨_, rfl, by rw [put_length]; exact hi.1, fun j hj => ?_⟩
    rw [tm_put hkl]
    by_cases e : j = k
    · subst e
      rw [if_pos rfl, if_pos (by omega)]
    · rw [if_neg e, hi.2 j hj]
      by_cases hjk : j < k
      · rw [if_pos hjk, if_pos (by omega)]
      · rw [if_neg hjk, if_neg (by omega)])
  refine ⟨U, m, h1, h2, fun j hj => ?_⟩
  have := h3 j hj
  rw [if_pos (by omega)] at this
  have hv := val j hj
  rw [this]
  exact ⟨rfl, hv.1, hv.2.1⟩
theorem not_before {p : PlanPeriodic} (hp : OkP p) {T l : List Int} (hT : OkT p T) (hl : OkT p l) (hg : GoodP p (tm T)) (hmin : ∀ s, GoodP p s → LexLe p.Events.toNat (tm T) s) (hk : ∀ r ∈ p.Rules, Kept p.Period r (tm l)) : ¬ Before l T := fun h => by
  have ev := hp.ev
  have h1 := hT.len
  have h2 := hl.len
  rcases h with ⟨i, i1, i2, i3, i4⟩ | ⟨h, _⟩
  · have hz := hg.zero
    have l0 := hl.rng _ (List.getElem_mem (show 0 < l.length by omega))
    rw [← tm_at] at l0
    by_cases e : tm l 0 = 0
    · have hlg : GoodP p (tm l) := ⟨e, fun j hj => by
        have := hl.rng _ (List.getElem_mem (show j < l.length by omega))
        rw [← tm_at] at this
        exact this, hk⟩
      rcases hmin _ hlg with g | ⟨i', g1, g2, g3⟩
      · have := g i (by omega)
        omega
      · by_cases c1 : i < i'
        · have := g2 i c1
          omega
        · by_cases c2 : i' < i
          · have := i3 i' c2
            omega
          · have : i = i' := by omega
            subst this
            omega
    · by_cases e0 : i = 0
      · subst e0
        omega
      · have := i3 0 (by omega)
        omega
  · omega
theorem keptPlain (p : PlanPeriodic) (by_ : Int) (less : List Int) : mFishkeep2PlanKept p by_ less = some true := by
  unfold mFishkeep2PlanKept
  rw [awake_true, Option.bind_some, if_pos rfl, periods_true, Option.bind_some, if_pos rfl]
  obtain ⟨c, c1, c2⟩ := fault_spec p
  rw [c1, Option.bind_some]
  by_cases hc : c = 0
  · have hp := c2.1 hc
    have ev := hp.ev
    have pp := hp.per
    rw [if_neg (by simpa using hc)]
    obtain ⟨a, a1, a2⟩ := rtimes_spec (p := p) less
    rcases solve_full hp with ⟨s1, s2⟩ | ⟨T, s1, s2, s3, s4, s5⟩
    · rw [s1, pass2]
      have hless : (if (less.length : Int) = p.Events then (mFishref2TimesFault p less).bind fun x452 => if x452 = 0 then (mFishref2BrokenOf p less).bind fun x455 => if x455 < 0 then (if (9 : Int) ≠ 0 then some true else (mSlicesCompare less []).bind fun x459 => some (decide (x459 < 0))) else some false else some false else some false) = some false := by
        by_cases hl : (less.length : Int) = p.Events
        · rw [if_pos hl, a1, Option.bind_some]
          by_cases ha : a = 0
          · obtain ⟨_, hT⟩ := a2.1 ha
            obtain ⟨w, w1, w2⟩ := rbroken_spec hp hT
            rw [if_pos ha, w1, Option.bind_some, if_neg (fun h => by
              obtain ⟨s, hs⟩ := good_of_kept hp hT (w2.1 h)
              exact s2 s hs)]
          · rw [if_neg ha]
        · rw [if_neg hl]
      rw [hless, Option.bind_some, if_neg (by decide), if_pos (by decide), if_pos rfl]
      rfl
    · rw [s1, pass2]
      have hT := okT_of s2 s4
      have hless : (if (less.length : Int) = p.Events then (mFishref2TimesFault p less).bind fun x452 => if x452 = 0 then (mFishref2BrokenOf p less).bind fun x455 => if x455 < 0 then (if (0 : Int) ≠ 0 then some true else (mSlicesCompare less T).bind fun x459 => some (decide (x459 < 0))) else some false else some false else some false) = some false := by
        by_cases hl : (less.length : Int) = p.Events
        · rw [if_pos hl, a1, Option.bind_some]
          by_cases ha : a = 0
          · obtain ⟨_, hL⟩ := a2.1 ha
            obtain ⟨w, w1, w2⟩ := rbroken_spec hp hL
            rw [if_pos ha, w1, Option.bind_some]
            by_cases hw : w < 0
            · obtain ⟨d, d1, d2⟩ := compare_spec less T
              rw [if_pos hw, if_neg (by decide), d1, Option.bind_some, decide_eq_false (fun h => not_before hp hT hL s4 s5 (w2.1 hw) (d2 h))]
            · rw [if_neg hw]
          · rw [if_neg ha]
        · rw [if_neg hl]
      rw [hless, Option.bind_some, if_neg (by decide), if_neg (by decide), broken_eq hp hT s4.kept, pass2]
      have h0 : idx T 0 = some (tm T 0) := tm_idx (i := 0) (by omega)
      rw [if_neg (by decide), if_neg (by decide), if_neg (by omega), h0, Option.bind_some, s4.zero, decide_eq_false (by decide), Option.bind_some, if_neg (by decide)]
      obtain ⟨U, m, u1, u2, u3⟩ := moved_loop hp hT by_
      have hU : OkT p U := ⟨by omega, fun x hx => by
        obtain ⟨j, hj, rfl⟩ := List.getElem_of_mem hx
        have := (u3 j (by omega)).2
        rw [tm_at hj] at this
        exact this⟩
      have hsh : ∀ r ∈ p.Rules, ∃ k, tm U r.To.toNat - tm U r.From.toNat = tm T r.To.toNat - tm T r.From.toNat + k * p.Period := fun r hr => by
        have hok := hp.ok r hr
        have f := hok.f
        have t := hok.t
        refine ⟨Int.tdiv (tm T r.From.toNat + m) p.Period - Int.tdiv (tm T r.To.toNat + m) p.Period, ?_⟩
        rw [(u3 r.To.toNat (by omega)).1, (u3 r.From.toNat (by omega)).1, tmod_shift, tmod_shift, Int.sub_mul]
        omega
      have hkU : ∀ r ∈ p.Rules, Kept p.Period r (tm U) := fun r hr => kept_shift pp.1 (hp.ok r hr) (hsh r hr) (s4.kept r hr)
      have hcost : costR p.Period p.Rules (tm U) = costR p.Period p.Rules (tm T) := by
        unfold costR
        congr 1
        refine List.map_congr_left (fun r hr => ?_)
        unfold wc
        rw [gp_shift pp.1 (hsh r hr)]
      have hclone : mSlicesClone T = some T := by
        unfold mSlicesClone
        rw [room_ok (by omega) (by omega), Option.bind_some]
      rw [hclone, Option.bind_some, u1, Option.bind_some, broken_eq hp hU hkU, pass2, cost_eq hp hT, pass2, cost_eq hp hU, pass2, hcost]
      rw [if_neg (by decide), if_neg (by decide), if_neg (by decide), if_neg (by decide), Option.bind_some, if_neg (by simp)]
      by_cases h6 : 6 < p.Events
      · rw [if_pos h6]
      · rw [if_neg h6]
        obtain ⟨v, best, b1, b2, b3, b4, b5⟩ := best_spec hp (by omega) s4
        rw [b1, pass3, cost_eq hp b2, pass2, b4, if_pos rfl, if_pos rfl, if_pos rfl, decide_eq_true (b5 _ s4)]
        rfl
  · rw [if_pos hc]
end Go.Proofs.Ytdphlkddelnaiaa
