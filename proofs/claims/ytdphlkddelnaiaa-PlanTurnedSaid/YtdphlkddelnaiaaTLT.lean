/- Plain: the law of PlanTurned. -/
import Derived.Test.YtdphlkddelnaiaaTL7
set_option linter.unusedVariables false
set_option linter.unusedSimpArgs false
namespace Go.Proofs.Ytdphlkddelnaiaa
open Go.RowKit Go.Fp

def turn (r : PlanRule) : PlanRule := ⟨r.To, r.From, r.Min, r.Max, r.Weight⟩
def back (p : PlanPeriodic) : PlanPeriodic := ⟨p.Period, p.Events, p.Rules.map turn⟩
def neg (P : Int) (s : Nat → Int) (j : Nat) : Int := if s j = 0 then 0 else P - s j
theorem back_loop {p : PlanPeriodic} (h : p.Rules.length ≤ 40) : forS (mFishkeep2PlanTurned_L373 p) p.Rules.length 0 ([] : List PlanRule) = some (p.Rules.map turn) := by
  obtain ⟨l, h1, h2⟩ := forS_inv (body := mFishkeep2PlanTurned_L373 p) (fun k l => l = (p.Rules.take k).map turn) p.Rules.length 0 [] rfl (fun k l _ hk hi => by
    have hk' : k < p.Rules.length := by omega
    have hl : l.length = k := by rw [hi, List.length_map, List.length_take]; omega
    unfold mFishkeep2PlanTurned_L373
    rw [idx_lt hk', Option.bind_some, room_ok (by omega) (by omega), Option.bind_some]
    refine ⟨_, rfl, ?_⟩
    rw [List.take_succ_eq_append_getElem hk', List.map_append, ← hi]
    rfl)
  rw [h1, h2, Nat.zero_add, List.take_length]
theorem back_ok {p : PlanPeriodic} (h : OkP p) : OkP (back p) := by
  refine ⟨h.per, h.ev, by show (p.Rules.map turn).length ≤ 40; rw [List.length_map]; exact h.len, fun r hr => ?_⟩
  obtain ⟨q, hq, rfl⟩ := List.mem_map.1 hr
  have := h.ok q hq
  exact ⟨this.t, this.f, fun e => this.ne e.symm, this.min, this.max, this.wt⟩
theorem kept_turn {P : Int} {r : PlanRule} {s : Nat → Int} (h : Kept P r s) : Kept P (turn r) (neg P s) := by
  obtain ⟨k, hk⟩ := h
  have e : ∀ j, ∃ c : Int, neg P s j = c * P - s j := fun j => by
    unfold neg
    by_cases h : s j = 0
    · exact ⟨0, by rw [if_pos h, h]; simp⟩
    · exact ⟨1, by rw [if_neg h]; simp⟩
  obtain ⟨a, ha⟩ := e r.From.toNat
  obtain ⟨c, hc⟩ := e r.To.toNat
  refine ⟨k - a + c, ?_⟩
  unfold With at hk ⊢
  show r.Min - (k - a + c) * P ≤ neg P s r.From.toNat - neg P s r.To.toNat ∧ neg P s r.From.toNat - neg P s r.To.toNat ≤ r.Max - (k - a + c) * P
  rw [ha, hc, Int.add_mul, Int.sub_mul]
  omega
theorem good_back {p : PlanPeriodic} {s : Nat → Int} (h : GoodP p s) : GoodP (back p) (neg p.Period s) := by
  refine ⟨by unfold neg; rw [if_pos h.zero], fun j hj => ?_, fun r hr => ?_⟩
  · have := h.rng j hj
    show 0 ≤ neg p.Period s j ∧ neg p.Period s j ≤ p.Period - 1
    unfold neg
    split <;> omega
  · obtain ⟨q, hq, rfl⟩ := List.mem_map.1 hr
    exact kept_turn (h.kept q hq)
theorem good_forth {p : PlanPeriodic} {s : Nat → Int} (h : GoodP (back p) s) : GoodP p (neg p.Period s) := by
  refine ⟨by unfold neg; rw [if_pos h.zero], fun j hj => ?_, fun r hr => ?_⟩
  · have := h.rng j hj
    have : 0 ≤ s j ∧ s j ≤ p.Period - 1 := this
    unfold neg
    split <;> omega
  · have := h.kept (turn r) (List.mem_map.2 ⟨r, hr, rfl⟩)
    exact kept_turn this
theorem tmod_neg {P x : Int} (hP : 2 ≤ P) (h : 0 ≤ x ∧ x ≤ P - 1) : Int.tmod (P - x) P = if x = 0 then 0 else P - x := by
  by_cases hx : x = 0
  · subst hx
    rw [if_pos rfl, Int.sub_zero, Int.tmod_self]
  · rw [if_neg hx, Int.tmod_eq_of_lt (by omega) (by omega)]
theorem neg_loop {p : PlanPeriodic} (hp : OkP p) {T : List Int} (hT : OkT p T) : ∃ U, forS (mFishkeep2PlanTurned_L465 p) T.length 0 T = some U ∧ U.length = T.length ∧ ∀ j, j < T.length → tm U j = neg p.Period (tm T) j := by
  have pp := hp.per
  obtain ⟨U, h1, h2, h3⟩ := forS_inv (body := mFishkeep2PlanTurned_L465 p) (fun k l => l.length = T.length ∧ ∀ j, j < T.length → tm l j = if j < k then neg p.Period (tm T) j else tm T j) T.length 0 T ⟨rfl, fun j hj => by rw [if_neg (by omega)]⟩ (fun k l _ hk hi => by
    have hk' : k < T.length := by omega
    have hkl : k < l.length := by omega
    have e1 := hi.2 k hk'
    rw [if_neg (by omega), tm_at hkl] at e1
    have hx := hT.rng _ (List.getElem_mem hk')
    rw [← tm_at hk'] at hx
    unfold mFishkeep2PlanTurned_L465
    have hne : ne0 p.Period = some () := by
      unfold ne0
      rw [if_neg (by omega)]
    rw [idx_lt hkl, Option.bind_some, e1, chk_ok (by omega) (by omega), Option.bind_some, hne, Option.bind_some, Option.bind_some, put_nat]
    refine ⟨_, rfl, by rw [List.length_set]; exact hi.1, fun j hj => ?_⟩
    unfold tm
    by_cases e : k = j
    · subst e
      rw [List.getElem?_set_self hkl, if_pos (by omega)]
      show Int.tmod (p.Period - tm T k) p.Period = neg p.Period (tm T) k
      rw [tmod_neg pp.1 hx]
      rfl
    · rw [List.getElem?_set_ne e]
      have := hi.2 j hj
      unfold tm at this
      rw [this]
      by_cases hjk : j < k
      · rw [if_pos hjk, if_pos (by omega)]
      · rw [if_neg hjk, if_neg (by omega)])
  exact ⟨U, h1, h2, fun j hj => by rw [h3 j hj, if_pos (by omega)]⟩
theorem turnedPlain (p : PlanPeriodic) : mFishkeep2PlanTurned p = some true := by
  unfold mFishkeep2PlanTurned
  rw [awake_true, Option.bind_some, if_pos rfl, periods_true, Option.bind_some, if_pos rfl]
  obtain ⟨c, c1, c2⟩ := fault_spec p
  rw [c1, Option.bind_some]
  by_cases hc : c = 0
  · have hp := c2.1 hc
    have hb := back_ok hp
    rw [if_neg (by simpa using hc), back_loop hp.len, Option.bind_some]
    have ev := hp.ev
    rcases solve_full hp with ⟨s1, s2⟩ | ⟨T, s1, s2, s3, s4, s5⟩
    · rcases solve_full hb with ⟨t1, t2⟩ | ⟨U, t1, t2, t3, t4, t5⟩
      · rw [s1, pass2, show mPlanSolve ⟨p.Period, p.Events, p.Rules.map turn⟩ = some (9, []) from t1, pass2, if_neg (by decide)]
        show (some ([] : List Int)).bind _ = _
        rw [Option.bind_some, if_pos (by decide)]
        rfl
      · exact absurd (good_forth t4) (s2 _)
    · rcases solve_full hb with ⟨t1, t2⟩ | ⟨U, t1, t2, t3, t4, t5⟩
      · exact absurd (good_back s4) (t2 _)
      · rw [s1, pass2, show mPlanSolve ⟨p.Period, p.Events, p.Rules.map turn⟩ = some (0, U) from t1, pass2, if_neg (by decide)]
        have hT := okT_of s2 s4
        obtain ⟨V, v1, v2, v3⟩ := neg_loop hp hT
        have gb := good_back s4
        have hV : OkT (back p) V := by
          refine ⟨by rw [v2]; exact s2, fun x hx => ?_⟩
          obtain ⟨j, hj, rfl⟩ := List.getElem_of_mem hx
          rw [← tm_at hj, v3 j (by omega)]
          exact gb.rng j (by show j < p.Events.toNat; omega)
        obtain ⟨a, a1, a2⟩ := rtimes_spec (p := back p) V
        obtain ⟨w, w1, w2⟩ := rbroken_spec hb hV
        have hk : w < 0 := w2.2 (fun r hr => by
          obtain ⟨k, hk⟩ := gb.kept r hr
          have hok := hb.ok r hr
          have f := hok.f
          have t := hok.t
          have e : (back p).Events = p.Events := rfl
          refine ⟨k, ?_⟩
          unfold With at hk ⊢
          rw [v3 r.To.toNat (by omega), v3 r.From.toNat (by omega)]
          exact hk)
        have ha : a = 0 := a2.2 ⟨hb, hV⟩
        subst ha
        rw [v1, Option.bind_some, if_neg (by decide), show mFishref2TimesFault ⟨p.Period, p.Events, p.Rules.map turn⟩ V = some 0 from a1, Option.bind_some, if_pos rfl, show mFishref2BrokenOf ⟨p.Period, p.Events, p.Rules.map turn⟩ V = some w from w1, Option.bind_some, decide_eq_true hk]
        rfl
  · rw [if_pos hc]
end Go.Proofs.Ytdphlkddelnaiaa
