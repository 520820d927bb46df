/- Plain: the law of PlanCore. -/
import Derived.Test.YtdphlkddelnaiaaCL7
set_option linter.unusedVariables false
set_option linter.unusedSimpArgs false
namespace Go.Proofs.Ytdphlkddelnaiaa
open Go.RowKit Go.Fp

theorem concat_eq (A B : List PlanRule) (h : A.length + B.length ≤ 1000) : mSlicesConcat [A, B] = some (A ++ B) := by
  unfold mSlicesConcat
  obtain ⟨c, h1, h2⟩ := forS_inv (body := mSlicesConcat_L155 [A, B]) (fun k c => c = (([A, B].take k).flatten.length : Int) ∧ c ≤ 1000) 2 0 0 ⟨rfl, by omega⟩ (fun k c _ hk hi => by
    have hk2 : k = 0 ∨ k = 1 := by omega
    obtain ⟨rfl, _⟩ := hi
    unfold mSlicesConcat_L155
    rcases hk2 with rfl | rfl
    · rw [show idx [A, B] ((0 : Nat) : Int) = some A from rfl, Option.bind_some]
      have e : ((([A, B].take 0).flatten.length : Nat) : Int) + (A.length : Int) = (([A, B].take 1).flatten.length : Int) := by simp
      rw [e, chk_ok (by omega) (by simp; omega), Option.bind_some, if_neg (by omega)]
      exact ⟨_, rfl, rfl, by simp; omega⟩
    · rw [show idx [A, B] ((1 : Nat) : Int) = some B from rfl, Option.bind_some]
      have e : ((([A, B].take 1).flatten.length : Nat) : Int) + (B.length : Int) = (([A, B].take 2).flatten.length : Int) := by simp
      rw [e, chk_ok (by omega) (by simp; omega), Option.bind_some, if_neg (by omega)]
      exact ⟨_, rfl, rfl, by simp; omega⟩)
  have e2 : ([A, B].take (0 + 2)).flatten = A ++ B := by simp
  rw [e2] at h2
  rw [show ([A, B] : List (List PlanRule)).length = 2 from rfl, h1, Option.bind_some, h2.1]
  have hg : mSlicesGrow ((A ++ B).length : Int) = some [] := by
    have e0 : ((A ++ B).length : Int) - (0 - 0) = ((A ++ B).length : Int) := by omega
    have hl : (A ++ B).length ≤ 1000 := by rw [List.length_append]; exact h
    unfold mSlicesGrow
    rw [if_neg (by omega), chk_ok (by omega) (by omega), Option.bind_some, e0, chk_ok (by omega) (by omega), Option.bind_some]
    by_cases h0 : 0 < (A ++ B).length
    · rw [if_pos (by omega), posN_ok h0, Option.bind_some, room_ok (by omega) (by omega), Option.bind_some]
      have hc := cutS_ok (l := List.replicate (A ++ B).length (⟨0, 0, 0, 0, 0⟩ : PlanRule)) (a := 0) (b := 0) (by omega) (by omega)
      rw [show cutS (List.replicate (A ++ B).length (⟨0, 0, 0, 0, 0⟩ : PlanRule)) 0 0 = some [] from hc]
      rfl
    · rw [if_neg (by omega)]
      rfl
  rw [hg, Option.bind_some]
  obtain ⟨l, g1, g2⟩ := forS_inv (body := mSlicesConcat_L217 [A, B]) (fun k l => l = ([A, B].take k).flatten) 2 0 [] rfl (fun k l _ hk hi => by
    have hk2 : k = 0 ∨ k = 1 := by omega
    subst hi
    unfold mSlicesConcat_L217
    rcases hk2 with rfl | rfl
    · rw [show idx [A, B] ((0 : Nat) : Int) = some A from rfl, Option.bind_some, room_ok (by simp; omega) (by simp; omega), Option.bind_some]
      exact ⟨_, rfl, by simp⟩
    · rw [show idx [A, B] ((1 : Nat) : Int) = some B from rfl, Option.bind_some, room_ok (by simp; omega) (by simp; omega), Option.bind_some]
      exact ⟨_, rfl, by simp⟩)
  rw [g1, g2, e2]
  rfl
def rl (R : List PlanRule) (i : Int) : PlanRule := (R[i.toNat]?).getD ⟨0, 0, 0, 0, 0⟩
theorem rl_at {R : List PlanRule} {i : Nat} (h : i < R.length) : rl R (i : Int) = R[i] := by
  unfold rl
  rw [Int.toNat_natCast, List.getElem?_eq_getElem h]
  rfl
theorem rl_idx {R : List PlanRule} {i : Int} (h : 0 ≤ i ∧ i < (R.length : Int)) : idx R i = some (rl R i) ∧ rl R i ∈ R := by
  obtain ⟨k, rfl⟩ : ∃ k : Nat, i = (k : Int) := ⟨i.toNat, by omega⟩
  have hk : k < R.length := by omega
  rw [rl_at hk]
  exact ⟨idx_lt hk, List.getElem_mem hk⟩
theorem good_sub {n : Nat} {P : Int} {R R' : List PlanRule} (h : ∀ r ∈ R', r ∈ R) {s : Nat → Int} (hs : Good n P R s) : Good n P R' s := ⟨hs.zero, hs.rng, fun r hr => hs.kept r (h r hr)⟩
structure CI (n : Nat) (P : Int) (R : List PlanRule) (k : Nat) (st : List PlanRule × List Int × List PlanRule) : Prop where
  rest : st.1 = R.drop k
  out : ∀ i ∈ st.2.1, 0 ≤ i ∧ i < (k : Int)
  kept : st.2.2 = st.2.1.map (rl R)
  len : st.2.1.length ≤ k
  no : ∀ s, ¬ Good n P (st.2.2 ++ R.drop k) s
  yes : ∀ i ∈ st.2.1, ∃ s : Nat → Int, s 0 = 0 ∧ (∀ j, j < n → 0 ≤ s j ∧ s j ≤ P - 1) ∧ (∀ j ∈ st.2.1, j ≠ i → Kept P (rl R j) s) ∧ ∀ j : Nat, i < (j : Int) → j < R.length → Kept P (rl R (j : Int)) s
theorem core_loop {n : Nat} {P : Int} {R : List PlanRule} (C : Ctx n P R) (h0 : ∀ s, ¬ Good n P R s) :
    ∃ st, forS (mPlanCore_L383 ⟨P, (n : Int), R⟩) R.length 0 (R, [], []) = some st ∧ CI n P R R.length st := by
  obtain ⟨st, h1, h2⟩ := forS_inv (body := mPlanCore_L383 ⟨P, (n : Int), R⟩) (CI n P R) R.length 0 (R, [], []) ⟨rfl, (fun i hi => absurd hi (by simp)), rfl, Nat.le_refl _, h0, (fun i hi => absurd hi (by simp))⟩ (fun k st _ hk I => by
    obtain ⟨rest, out, kept⟩ := st
    obtain ⟨i1, i2, i3, i4, i5, i6⟩ := I
    simp only at i1 i2 i3 i4 i5 i6
    subst i1
    have hk' : k < R.length := by omega
    have hl := C.len
    have hd : (R.drop k).length = R.length - k := List.length_drop
    have hkl : kept.length ≤ k := by rw [i3, List.length_map]; exact i4
    have hdk : R.drop k = R[k] :: R.drop (k + 1) := List.drop_eq_getElem_cons hk'
    have hsub : ∀ r ∈ kept ++ R.drop (k + 1), r ∈ R := fun r hr => by
      rcases List.mem_append.1 hr with hr | hr
      · rw [i3] at hr
        obtain ⟨i, hi, rfl⟩ := List.mem_map.1 hr
        have := i2 i hi
        exact (rl_idx ⟨this.1, by omega⟩).2
      · exact List.mem_of_mem_drop hr
    have C' : Ctx n P (kept ++ R.drop (k + 1)) := ⟨C.n1, C.n8, C.pp, by rw [List.length_append, List.length_drop]; omega, fun r hr => C.ok r (hsub r hr)⟩
    unfold mPlanCore_L383
    simp only [unc3]
    rw [idx_lt hk', Option.bind_some]
    have hcut : cutS (R.drop k) 1 ((R.drop k).length : Int) = some (R.drop (k + 1)) := by
      have := cutS_ok (l := R.drop k) (a := 1) (b := (R.drop k).length) (by omega) (Nat.le_refl _)
      rw [List.take_length, List.drop_drop] at this
      exact this
    rw [hcut, Option.bind_some, concat_eq _ _ (by rw [List.length_drop]; omega), Option.bind_some, Option.bind_some]
    rcases solve_spec C' with ⟨s1, s2⟩ | ⟨T, s1, s2, s3, s4⟩
    · rw [s1, Option.bind_some, if_pos (show ([] : List Int).isEmpty = true from rfl)]
      exact ⟨_, rfl, rfl, fun i hi => by have := i2 i hi; simp only at hi; omega, i3, by simp only; omega, s2, i6⟩
    · have hne : ¬ T.isEmpty = true := by
        have n1 := C.n1
        cases T with
        | nil => simp at s2; omega
        | cons => simp
      rw [s1, Option.bind_some, if_neg hne, room_ok (by omega) (by omega), Option.bind_some, room_ok (by omega) (by omega), Option.bind_some]
      refine ⟨_, rfl, rfl, fun i hi => ?_, ?_, by simp only [List.length_append, List.length_singleton]; omega, ?_, fun i hi => ?_⟩
      · rcases List.mem_append.1 hi with hi | hi
        · have := i2 i hi
          omega
        · rw [List.mem_singleton.1 hi]
          omega
      · simp only [List.map_append, List.map_cons, List.map_nil]
        rw [rl_at hk', i3]
      · simp only
        rw [List.append_assoc, List.singleton_append, ← hdk]
        exact i5
      · rcases List.mem_append.1 hi with hi | hi
        · obtain ⟨s, a1, a2, a3, a4⟩ := i6 i hi
          refine ⟨s, a1, a2, fun j hj hne => ?_, a4⟩
          rcases List.mem_append.1 hj with hj | hj
          · exact a3 j hj hne
          · rw [List.mem_singleton.1 hj]
            have := i2 i hi
            exact a4 k (by omega) hk'
        · rw [List.mem_singleton.1 hi]
          refine ⟨tm T, s3.zero, s3.rng, fun j hj hne => ?_, fun j hj hjl => ?_⟩
          · rcases List.mem_append.1 hj with hj | hj
            · exact s3.kept _ (List.mem_append_left _ (by rw [i3]; exact List.mem_map.2 ⟨j, hj, rfl⟩))
            · exact absurd (List.mem_singleton.1 hj) hne
          · rw [rl_at hjl]
            refine s3.kept _ (List.mem_append_right _ ?_)
            rw [List.mem_drop_iff_getElem]
            exact ⟨j - (k + 1), by omega, by congr 1; omega⟩)
  rw [Nat.zero_add] at h2
  exact ⟨st, h1, h2⟩
theorem some_spec {P n : Int} {R : List PlanRule} {out : List Int} (ho : ∀ i ∈ out, 0 ≤ i ∧ i < (R.length : Int)) (hl : out.length ≤ 1000) (left : Int) :
    mFishkeep2PlanCore_2 left P n R out = some (P, n, (out.filter (fun i => decide (i ≠ left))).map (rl R)) := by
  unfold mFishkeep2PlanCore_2
  obtain ⟨l, h1, h2, h3⟩ := forS_inv (body := mFishkeep2PlanCore_2_L196 left R out) (fun k l => l = ((out.take k).filter (fun i => decide (i ≠ left))).map (rl R) ∧ l.length ≤ k) out.length 0 [] ⟨rfl, Nat.le_refl _⟩ (fun k l _ hk hi => by
    have hk' : k < out.length := by omega
    obtain ⟨g1, g2⟩ := hi
    unfold mFishkeep2PlanCore_2_L196
    rw [idx_lt hk', Option.bind_some]
    have hr := rl_idx (ho _ (List.getElem_mem hk'))
    by_cases hc : out[k] ≠ left
    · rw [if_pos hc, hr.1, Option.bind_some, room_ok (by omega) (by omega), Option.bind_some]
      refine ⟨_, rfl, ?_, by rw [List.length_append]; simp; omega⟩
      rw [List.take_succ_eq_append_getElem hk', List.filter_append, List.map_append, ← g1]
      congr 1
      simp [hc]
    · rw [if_neg hc]
      refine ⟨_, rfl, ?_, by omega⟩
      rw [List.take_succ_eq_append_getElem hk', List.filter_append, List.map_append, ← g1]
      simp at hc
      simp [hc])
  rw [h1, h2, Nat.zero_add, List.take_length]
  rfl
theorem corePlain (p : PlanPeriodic) : mFishkeep2PlanCore p = some true := by
  unfold mFishkeep2PlanCore
  rw [awake_true, Option.bind_some, if_pos rfl, periods_true, Option.bind_some, if_pos rfl]
  obtain ⟨c, c1, c2⟩ := check_spec p
  unfold mPlanCore
  rw [c1, Option.bind_some]
  by_cases hc : c = 0
  · have hp := c2.1 hc
    obtain ⟨n, e1, e2, C⟩ := okP_ctx hp
    have e3 : p.Events.toNat = n := by omega
    rw [if_neg (by simpa using hc)]
    have hs := solve_spec C
    rw [← e1] at hs
    rcases hs with ⟨s1, s2⟩ | ⟨T, s1, s2, s3⟩
    · obtain ⟨⟨rest, out, kept⟩, l1, I⟩ := core_loop C s2
      obtain ⟨i1, i2, i3, i4, i5, i6⟩ := I
      simp only at i1 i2 i3 i4 i5 i6
      have hl := C.len
      rw [← e1] at l1
      rw [s1, Option.bind_some, if_pos (show ([] : List Int).isEmpty = true from rfl), l1, pass3, pass2, if_neg (by decide)]
      have hcf : mSlicesContainsFunc p.Period p.Events p.Rules out = some false := by
        unfold mSlicesContainsFunc mSlicesIndexFunc_2
        rw [forU_ok (body := mSlicesIndexFunc_2_L67 p.Period p.Events p.Rules out) out.length (fun k hk => by
          have := i2 _ (List.getElem_mem hk)
          unfold mSlicesIndexFunc_2_L67 mFishkeep2PlanCore_1
          rw [idx_lt hk, Option.bind_some, if_neg (by omega), Option.bind_some, Option.bind_some, decide_eq_false (by omega), if_neg (by decide)])]
        rfl
      have hsome := fun left => some_spec (P := p.Period) (n := p.Events) (R := p.Rules) i2 (by omega) left
      have hok : ∀ left, OkP ⟨p.Period, p.Events, (out.filter (fun i => decide (i ≠ left))).map (rl p.Rules)⟩ := fun left => by
        refine ⟨hp.per, hp.ev, ?_, fun r hr => ?_⟩
        · show ((out.filter (fun i => decide (i ≠ left))).map (rl p.Rules)).length ≤ 40
          rw [List.length_map]
          have := List.length_filter_le (fun i => decide (i ≠ left)) out
          omega
        · obtain ⟨i, hi, rfl⟩ := List.mem_map.1 hr
          exact hp.ok _ (rl_idx (i2 i (List.mem_filter.1 hi).1)).2
      have hall : out.filter (fun i => decide (i ≠ -1)) = out := List.filter_eq_self.2 (fun i hi => by have := i2 i hi; simp; omega)
      have hno : mPlanSolve ⟨p.Period, p.Events, (out.filter (fun i => decide (i ≠ -1))).map (rl p.Rules)⟩ = some (9, []) := by
        rcases solve_full (hok (-1)) with ⟨h, _⟩ | ⟨T, _, _, _, h, _⟩
        · exact h
        · exfalso
          rw [hall] at h
          have h' : Good p.Events.toNat p.Period (out.map (rl p.Rules)) (tm T) := h
          rw [e3] at h'
          refine i5 (tm T) ?_
          rw [List.drop_length, List.append_nil, i3]
          exact h'
      rw [hcf, Option.bind_some, if_neg (by decide), hsome (-1), pass3, hno, pass2, if_neg (by decide), forU_ok (body := mFishkeep2PlanCore_L290 p out) out.length (fun k hk => by
        have hkm := List.getElem_mem hk
        obtain ⟨s, a1, a2, a3, _⟩ := i6 _ hkm
        have hg : GoodP ⟨p.Period, p.Events, (out.filter (fun i => decide (i ≠ out[k]))).map (rl p.Rules)⟩ s := by
          refine ⟨a1, fun j hj => a2 j (by have : j < p.Events.toNat := hj; omega), fun r hr => ?_⟩
          obtain ⟨i, hi, rfl⟩ := List.mem_map.1 hr
          obtain ⟨q1, q2⟩ := List.mem_filter.1 hi
          exact a3 i q1 (by simpa using q2)
        unfold mFishkeep2PlanCore_L290
        rw [idx_lt hk, Option.bind_some, hsome out[k], pass3]
        rcases solve_full (hok out[k]) with ⟨_, h⟩ | ⟨T, t1, t2, t3, t4, _⟩
        · exact absurd hg (h s)
        · have hT := okT_of t2 t4
          obtain ⟨a, b1, b2⟩ := rtimes_spec (p := ⟨p.Period, p.Events, (out.filter (fun i => decide (i ≠ out[k]))).map (rl p.Rules)⟩) T
          obtain ⟨w, w1, w2⟩ := rbroken_spec (hok out[k]) hT
          have ha : a = 0 := b2.2 ⟨hok _, hT⟩
          have hw : w < 0 := w2.2 t4.kept
          subst ha
          rw [t1, pass2, if_neg (by decide), pass3, b1, Option.bind_some, if_neg (by decide), pass3, w1, Option.bind_some, Option.bind_some, decide_eq_false (by omega), if_neg (by decide)])]
      rfl
    · have hne : ¬ T.isEmpty = true := by
        have n1 := C.n1
        cases T with
        | nil => simp at s2; omega
        | cons => simp
      rw [s1, Option.bind_some, if_neg hne, pass2, if_pos (by decide)]
      rfl
  · rw [if_pos hc, pass2, if_pos hc]
    rfl
end Go.Proofs.Ytdphlkddelnaiaa
