/- Plain: the least times of all events, one after the other. -/
import Derived.Test.YtdphlkddelnaiaaKL4
set_option linter.unusedVariables false
set_option linter.unusedSimpArgs false
namespace Go.Proofs.Ytdphlkddelnaiaa
open Go.RowKit Go.Fp

/-- Times by which all rules are kept. -/
structure Good (n : Nat) (P : Int) (R : List PlanRule) (s : Nat → Int) : Prop where
  zero : s 0 = 0
  rng : ∀ j, j < n → 0 ≤ s j ∧ s j ≤ P - 1
  kept : ∀ r ∈ R, Kept P r s
def tm (T : List Int) (i : Nat) : Int := (T[i]?).getD 0
theorem tm_at {T : List Int} {i : Nat} (h : i < T.length) : tm T i = T[i] := by
  unfold tm
  rw [List.getElem?_eq_getElem h]
  rfl
theorem tm_app {T : List Int} {v : Int} {i : Nat} : tm (T ++ [v]) i = if i = T.length then v else tm T i := by
  unfold tm
  by_cases h : i < T.length
  · rw [List.getElem?_append_left h, if_neg (by omega)]
  · by_cases h2 : i = T.length
    · subst h2
      rw [if_pos rfl, List.getElem?_append_right (Nat.le_refl _), Nat.sub_self]
      rfl
    · rw [if_neg h2, List.getElem?_eq_none (by rw [List.length_append]; simp; omega), List.getElem?_eq_none (by omega)]
def allT (m : Nat) : List Bool := List.replicate m true
theorem allT_at {m i : Nat} : (allT m)[i]? = some true ↔ i < m := by
  unfold allT
  rw [List.getElem?_replicate]
  by_cases h : i < m
  · rw [if_pos h]; exact ⟨fun _ => h, fun _ => rfl⟩
  · rw [if_neg h]; exact ⟨fun e => absurd e (by simp), fun e => absurd e h⟩
theorem count_all (m : Nat) : (allT m).count true = m := by
  unfold allT
  rw [List.count_replicate_self]
/-- First in which two lists of times part, the first one is less; or they are alike. -/
def LexLe (n : Nat) (T s : Nat → Int) : Prop := (∀ i, i < n → s i = T i) ∨ ∃ i, i < n ∧ (∀ j, j < i → s j = T j) ∧ T i < s i
section
variable {n : Nat} {P : Int} {R : List PlanRule}
theorem feas_iff (C : Ctx n P R) {b : List (List Int)} (hB : ∀ i k, i < n → k < n → mg b i k = startB P i k) (s : Nat → Int) : Feas n P R b (allT R.length) s ↔ Good n P R s := by
  constructor
  · intro h
    refine ⟨h.zero, (sol_start C.n1 hB s h.zero C.pp.1).1 h.sol, fun r hr => ?_⟩
    obtain ⟨i, hi, rfl⟩ := List.getElem_of_mem hr
    exact h.kept i _ (List.getElem?_eq_getElem hi) (allT_at.2 hi)
  · intro h
    exact ⟨(sol_start C.n1 hB s h.zero C.pp.1).2 h.rng, h.zero, fun i r hr _ => h.kept r (List.mem_of_getElem? hr)⟩
theorem run_lim (C : Ctx n P R) {e : Nat} (he : e < n) {b : List (List Int)} (h : Mx n P b) (v0 : Int) {tk : List Int} (ht : tk.length = R.length) :
    ∃ v tk', lim (fun N => mPlanSearchRun N (some b) P (n : Int) R (e : Int) v0 tk (allT R.length)) = some (v, tk', allT R.length) ∧ tk'.length = R.length ∧ RSays n P R e b (allT R.length) v0 v := by
  have hl : (allT R.length).length = R.length := List.length_replicate
  obtain ⟨r, r1, v, tk', r2, r3, r4⟩ := lim_ok (f := fun N => mPlanSearchRun N (some b) P (n : Int) R (e : Int) v0 tk (allT R.length)) (P := fun r => ∃ v tk', r = (v, tk', allT R.length) ∧ tk'.length = R.length ∧ RSays n P R e b (allT R.length) v0 v) (by
      rcases run_spec C he ((allT R.length).count true + 1) b v0 tk (allT R.length) h ht hl with ⟨_, h2⟩ | ⟨v, tk', h1, _⟩
      · exact absurd h2 (by omega)
      · exact ⟨_, _, h1⟩) (fun N r hr => by
      rcases run_spec C he N b v0 tk (allT R.length) h ht hl with ⟨h1, _⟩ | ⟨v, tk', h1, h2, h3⟩
      · rw [show mPlanSearchRun N (some b) P (n : Int) R (e : Int) v0 tk (allT R.length) = some r from hr] at h1
        cases h1
      · rw [show mPlanSearchRun N (some b) P (n : Int) R (e : Int) v0 tk (allT R.length) = some r from hr] at h1
        injection h1 with h1
        exact ⟨v, tk', h1, h2, h3⟩)
  exact ⟨v, tk', by rw [r1, r2], r3, r4⟩
theorem one_rule (C : Ctx 1 P R) : R = [] := by
  cases R with
  | nil => rfl
  | cons r R =>
    have := C.ok r (by simp)
    have h1 := this.f
    have h2 := this.t
    have h3 := this.ne
    omega
structure SI (n : Nat) (P : Int) (R : List PlanRule) (b0 b : List (List Int)) (e : Nat) (T : List Int) (tk : List Int) : Prop where
  mx : Mx n P b
  e1 : 1 ≤ e
  en : e ≤ n
  len : T.length = e
  tk : tk.length = R.length
  sol : ∀ s, s 0 = 0 → (Sol n (mg b) s ↔ Sol n (mg b0) s ∧ ∀ i, i < e → s i = tm T i)
  some : 1 < e → ∃ s, Feas n P R b (allT R.length) s
  lex : ∀ s, Good n P R s → LexLe e (tm T) s
theorem solve_loop (C : Ctx n P R) {b0 : List (List Int)} (h0 : Mx n P b0) (hB : ∀ i k, i < n → k < n → mg b0 i k = startB P i k) {tk0 : List Int} (ht0 : tk0.length = R.length) :
    ∃ t, loopM (mPlanSolve_2_L564 ⟨P, (n : Int), R⟩ R P (n : Int)) (some b0, 1, [0], tk0, allT R.length) = some t ∧
      ((t = .inr [] ∧ ∀ s, ¬ Good n P R s) ∨ ∃ T, t = .inl T ∧ T.length = n ∧ Good n P R (tm T) ∧ ∀ s, Good n P R s → LexLe n (tm T) s) := by
  have n8 := C.n8
  have n1 := C.n1
  have pp := C.pp
  refine loopM_inv (step := mPlanSolve_2_L564 ⟨P, (n : Int), R⟩ R P (n : Int)) (fun st => ∃ b e T tk, st = (some b, ((e : Nat) : Int), T, tk, allT R.length) ∧ SI n P R b0 b e T tk) _ (fun st => (8 - st.2.1).toNat) (fun st hst => ?_) _
    ⟨b0, 1, [0], tk0, rfl, h0, by omega, n1, rfl, ht0, fun s hs => ⟨fun h => ⟨h, fun i hi => by
      have : i = 0 := by omega
      subst this
      rw [hs]; rfl⟩, fun h => h.1⟩, fun h => absurd h (by omega), fun s hs => .inl (fun i hi => by
      have : i = 0 := by omega
      subst this
      rw [hs.zero]; rfl)⟩
  obtain ⟨b, e, T, tk, rfl, I⟩ := hst
  have e1 := I.e1
  have en := I.en
  have hF : ∀ s, Feas n P R b (allT R.length) s ↔ Good n P R s ∧ ∀ i, i < e → s i = tm T i := fun s => by
    rw [← feas_iff C hB]
    constructor
    · intro h
      obtain ⟨a1, a2⟩ := (I.sol s h.zero).1 h.sol
      exact ⟨⟨a1, h.zero, h.kept⟩, a2⟩
    · rintro ⟨h, h2⟩
      exact ⟨(I.sol s h.zero).2 ⟨h.sol, h2⟩, h.zero, h.kept⟩
  unfold mPlanSolve_2_L564
  simp only [unc5]
  by_cases hlt : e < n
  · rw [if_pos (by omega)]
    obtain ⟨v, tk', r1, r2, r3⟩ := run_lim C hlt I.mx P I.tk
    rw [r1, pass3]
    by_cases hv : v = P
    · rw [if_pos hv]
      refine .inr ⟨_, rfl, .inl ⟨rfl, fun s hs => ?_⟩⟩
      have key : ∀ s, Feas n P R b (allT R.length) s → False := fun s hs => by
        have h1 := r3.low s hs
        have h2 := ((hF s).1 hs).1.rng e hlt
        omega
      by_cases h1 : 1 < e
      · obtain ⟨s', hs'⟩ := I.some h1
        exact key s' hs'
      · refine key s ((hF s).2 ⟨hs, fun i hi => ?_⟩)
        rcases I.lex s hs with h | ⟨i', a1, a2, a3⟩
        · exact h i hi
        · have : i' = 0 := by omega
          subst this
          have h0' := (I.sol s hs.zero)
          exfalso
          have : tm T 0 = 0 := by
            have hz := sol_least I.mx.tri n1
            have := ((I.sol (fun j => - mg b j 0) (by show - mg b 0 0 = 0; rw [I.mx.tri.diag 0 n1]; rfl)).1 hz.1).2 0 (by omega)
            have e0 := I.mx.tri.diag 0 n1
            omega
          rw [hs.zero] at a3
          omega
    · rw [if_neg hv]
      have hlen := I.len
      rw [room_ok (by omega) (by omega), Option.bind_some]
      rcases r3.src with h | ⟨s0, f0, f1⟩
      · exact absurd h hv
      · have f2 := (hF s0).1 f0
        have f3 := f2.1.rng e hlt
        obtain ⟨q, x, g1, g2⟩ := between_spec n8 pp I.mx (f := 0) (t := e) (by omega) hlt (lo := v) (hi := v) (by omega) (by omega)
        have g1' : mPlanBoundsBetween (some b) (n : Int) 0 (e : Int) v v = some (q, x) := g1
        rcases g2 with ⟨rfl, c, rfl, c1, c2⟩ | ⟨rfl, c1⟩
        · rw [g1', pass2, chk_ok (by omega) (by omega), Option.bind_some]
          have hsol : ∀ s, s 0 = 0 → (Sol n (mg c) s ↔ Sol n (mg b0) s ∧ ∀ i, i < e + 1 → s i = tm (T ++ [v]) i) := fun s hs => by
            rw [c2, I.sol s hs, hs]
            constructor
            · rintro ⟨⟨a1, a2⟩, a3, a4⟩
              refine ⟨a1, fun i hi => ?_⟩
              rw [tm_app, hlen]
              by_cases hie : i = e
              · subst hie
                rw [if_pos rfl]
                omega
              · rw [if_neg hie]
                exact a2 i (by omega)
            · rintro ⟨a1, a2⟩
              have ae := a2 e (by omega)
              rw [tm_app, hlen, if_pos rfl] at ae
              refine ⟨⟨a1, fun i hi => ?_⟩, by omega, by omega⟩
              have := a2 i (by omega)
              rw [tm_app, hlen, if_neg (by omega)] at this
              exact this
          refine .inl ⟨_, rfl, ⟨c, e + 1, T ++ [v], tk', by rw [Int.natCast_add]; rfl, c1, by omega, by omega, by rw [List.length_append, hlen]; rfl, r2, hsol, fun _ => ⟨s0, ?_⟩, fun s hs => ?_⟩, ?_⟩
          · refine ⟨(c2 s0).2 ⟨f0.sol, ?_⟩, f0.zero, f0.kept⟩
            rw [f0.zero, f1]
            omega
          · have htm : ∀ i, i < e → tm (T ++ [v]) i = tm T i := fun i hi => by rw [tm_app, hlen, if_neg (by omega)]
            rcases I.lex s hs with h | ⟨i, a1, a2, a3⟩
            · have hb := r3.low s ((hF s).2 ⟨hs, h⟩)
              by_cases hse : s e = v
              · refine .inl (fun i hi => ?_)
                by_cases hie : i = e
                · subst hie
                  rw [tm_app, hlen, if_pos rfl, hse]
                · rw [htm i (by omega)]
                  exact h i (by omega)
              · refine .inr ⟨e, by omega, fun j hj => by rw [htm j hj]; exact h j hj, ?_⟩
                rw [tm_app, hlen, if_pos rfl]
                omega
            · exact .inr ⟨i, by omega, fun j hj => by rw [htm j (by omega)]; exact a2 j hj, by rw [htm i a1]; exact a3⟩
          · simp only
            omega
        · exact absurd (c1 s0 f0.sol) (by rw [f0.zero, f1]; omega)
  · rw [if_neg (by omega)]
    have hen : e = n := by omega
    subst hen
    refine .inr ⟨_, rfl, .inr ⟨T, rfl, I.len, ?_, I.lex⟩⟩
    have hex : ∃ s, Feas e P R b (allT R.length) s := by
      by_cases h1 : 1 < e
      · exact I.some h1
      · have : e = 1 := by omega
        subst this
        have hR := one_rule C
        subst hR
        have hz := sol_least I.mx.tri n1
        exact ⟨fun j => - mg b j 0, hz.1, by show - mg b 0 0 = 0; rw [I.mx.tri.diag 0 n1]; rfl, fun i r hr _ => by simp at hr⟩
    obtain ⟨s, hs⟩ := hex
    obtain ⟨g1, g2⟩ := (hF s).1 hs
    refine ⟨?_, fun j hj => ?_, fun r hr => ?_⟩
    · rw [← g2 0 (by omega)]; exact g1.zero
    · rw [← g2 j hj]; exact g1.rng j hj
    · obtain ⟨k, hk⟩ := g1.kept r hr
      have hok := C.ok r hr
      have a1 := hok.f
      have a2 := hok.t
      refine ⟨k, ?_⟩
      unfold With at hk ⊢
      rw [← g2 r.To.toNat (by omega), ← g2 r.From.toNat (by omega)]
      exact hk
theorem solve_spec (C : Ctx n P R) : (mPlanSolve_2 ⟨P, (n : Int), R⟩ = some [] ∧ ∀ s, ¬ Good n P R s) ∨
    ∃ T, mPlanSolve_2 ⟨P, (n : Int), R⟩ = some T ∧ T.length = n ∧ Good n P R (tm T) ∧ ∀ s, Good n P R s → LexLe n (tm T) s := by
  obtain ⟨b0, s1, s2, s3⟩ := start_spec C.n8 C.pp R (List.replicate R.length 0) (allT R.length)
  unfold mPlanSolve_2
  rw [newSearch_eq (p := ⟨P, (n : Int), R⟩) C.len, pass5]
  rw [show mPlanSearchStart P (n : Int) R (List.replicate R.length 0) (List.replicate R.length true) = some b0 from s1, Option.bind_some]
  obtain ⟨t, t1, t2⟩ := solve_loop C s2 s3 (tk0 := List.replicate R.length 0) List.length_replicate
  rw [show loopM (mPlanSolve_2_L564 ⟨P, (n : Int), R⟩ R P (n : Int)) (some b0, 1, [0], List.replicate R.length 0, List.replicate R.length true) = some t from t1, Option.bind_some]
  rcases t2 with ⟨rfl, h⟩ | ⟨T, rfl, h⟩
  · exact .inl ⟨rfl, h⟩
  · exact .inr ⟨T, rfl, h⟩
end
end Go.Proofs.Ytdphlkddelnaiaa
