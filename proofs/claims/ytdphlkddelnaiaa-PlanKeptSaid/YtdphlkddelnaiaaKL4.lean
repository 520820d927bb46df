/- Plain: the search for the least time of one event. -/
import Derived.Test.YtdphlkddelnaiaaKL3
set_option linter.unusedVariables false
set_option linter.unusedSimpArgs false
namespace Go.Proofs.Ytdphlkddelnaiaa
open Go.RowKit Go.Fp

theorem forS_invX {σ : Type} {body : Nat → σ → Option σ} (X : Prop) (I : Nat → σ → Prop) : ∀ (m k : Nat) (s : σ), I k s → (∀ j s, k ≤ j → j < k + m → I j s → (body j s = none ∧ X) ∨ ∃ s', body j s = some s' ∧ I (j + 1) s') → (forS body m k s = none ∧ X) ∨ ∃ s', forS body m k s = some s' ∧ I (k + m) s'
  | 0, k, s, h0, _ => .inr ⟨s, rfl, h0⟩
  | m + 1, k, s, h0, h => by
    rcases h k s (Nat.le_refl _) (by omega) h0 with ⟨h1, h2⟩ | ⟨s', h1, h2⟩
    · refine .inl ⟨?_, h2⟩
      show (body k s).bind _ = _
      rw [h1]
      rfl
    · rcases forS_invX X I m (k + 1) s' h2 (fun j t hj hj' hi => h j t (by omega) (by omega) hi) with ⟨h3, h4⟩ | ⟨s'', h3, h4⟩
      · refine .inl ⟨?_, h4⟩
        show (body k s).bind _ = _
        rw [h1]
        exact h3
      · refine .inr ⟨s'', ?_, by rw [show k + (m + 1) = k + 1 + m by omega]; exact h4⟩
        show (body k s).bind _ = _
        rw [h1]
        exact h3
theorem count_off : ∀ {l : List Bool} {j : Nat}, l[j]? = some true → (l.set j false).count true + 1 = l.count true
  | [], j, h => by simp at h
  | x :: l, 0, h => by
    simp at h
    subst h
    simp
  | x :: l, j + 1, h => by
    have ih := count_off (l := l) (j := j) (by simpa using h)
    simp only [List.set_cons_succ, List.count_cons]
    omega
theorem set_back {α : Type} {T : List α} {j : Nat} {t y : α} (h : T[j]? = some t) : (T.set j y).set j t = T := by
  rw [List.set_set]
  apply List.ext_getElem?
  intro i
  by_cases e : j = i
  · subst e
    rw [List.getElem?_set_self (List.getElem?_eq_some_iff.1 h).1, h]
  · rw [List.getElem?_set_ne e]
/-- Times that the table allows, event 0 at 0, by which all rules are kept that are still open. -/
structure Feas (n : Nat) (P : Int) (R : List PlanRule) (b : List (List Int)) (op : List Bool) (s : Nat → Int) : Prop where
  sol : Sol n (mg b) s
  zero : s 0 = 0
  kept : ∀ (i : Nat) r, R[i]? = some r → op[i]? = some true → Kept P r s
structure Ctx (n : Nat) (P : Int) (R : List PlanRule) : Prop where
  n1 : 1 ≤ n
  n8 : n ≤ 8
  pp : 2 ≤ P ∧ P ≤ 3600
  len : R.length ≤ 40
  ok : ∀ r ∈ R, OkRule n P r
section
variable {n : Nat} {P : Int} {R : List PlanRule} {b : List (List Int)} {op : List Bool}
theorem feas_off (C : Ctx n P R) {c : List (List Int)} {j : Nat} {r : PlanRule} (hr : R[j]? = some r) (hj : op[j]? = some true) {k : Int} (hc : ∀ s, Sol n (mg c) s ↔ Sol n (mg b) s ∧ With P r s k) (s : Nat → Int) :
    Feas n P R c (op.set j false) s ↔ Feas n P R b op s ∧ With P r s k := by
  constructor
  · intro h
    obtain ⟨h1, h2⟩ := (hc s).1 h.sol
    refine ⟨⟨h1, h.zero, fun i q hq hi => ?_⟩, h2⟩
    by_cases e : j = i
    · subst e
      rw [hr] at hq
      injection hq with hq
      subst hq
      exact ⟨k, h2⟩
    · exact h.kept i q hq (by rw [List.getElem?_set_ne e]; exact hi)
  · rintro ⟨h1, h2⟩
    refine ⟨(hc s).2 ⟨h1.sol, h2⟩, h1.zero, fun i q hq hi => ?_⟩
    by_cases e : j = i
    · subst e
      rw [List.getElem?_set_self (List.getElem?_eq_some_iff.1 hj).1] at hi
      cases hi
    · rw [List.getElem?_set_ne e] at hi
      exact h1.kept i q hq hi
/-- One choice carried out on the table. -/
theorem choose_spec (C : Ctx n P R) (h : Mx n P b) {r : PlanRule} (hr : OkRule n P r) {k : Int} (hk : Ch P b r k) {τ : Type} (A : Option (List (List Int)) → Bool → Option τ) :
    ∃ q x, ((((chk (k * P)).bind fun _ => (chk (r.Min - (k * P))).bind fun _ => (chk (k * P)).bind fun _ => (chk (r.Max - (k * P))).bind fun _ => (mPlanBoundsBetween (some b) (n : Int) r.From r.To (r.Min - (k * P)) (r.Max - (k * P))).bind (unc2 fun q2 x2 => some (q2, x2))).bind (unc2 A)) = A q x) ∧
    ((x = true ∧ ∃ c, q = some c ∧ Mx n P c ∧ ∀ s, Sol n (mg c) s ↔ Sol n (mg b) s ∧ With P r s k) ∨ (x = false ∧ ∀ s, Sol n (mg b) s → ¬ With P r s k)) := by
  have hb := ch_bd C.pp h hr hk
  have m1 := hr.min
  have m2 := hr.max
  have p1 := C.pp
  obtain ⟨q, x, e1, e2⟩ := between_spec C.n8 C.pp h (f := r.From.toNat) (t := r.To.toNat) (by have := hr.f; omega) (by have := hr.t; omega) (lo := r.Min - k * P) (hi := r.Max - k * P) (by omega) (by omega)
  rw [show ((r.From.toNat : Nat) : Int) = r.From by have := hr.f; omega, show ((r.To.toNat : Nat) : Int) = r.To by have := hr.t; omega] at e1
  refine ⟨q, x, ?_, e2⟩
  rw [chk_ok (by omega) (by omega), Option.bind_some, chk_ok (by omega) (by omega), Option.bind_some, Option.bind_some, chk_ok (by omega) (by omega), Option.bind_some, e1, pass2, pass2]
/-- What the search says of the time of event 'e'. -/
structure RSays (n : Nat) (P : Int) (R : List PlanRule) (e : Nat) (b : List (List Int)) (op : List Bool) (v0 v : Int) : Prop where
  le : v ≤ v0
  src : v = v0 ∨ ∃ s, Feas n P R b op s ∧ s e = v
  low : ∀ s, Feas n P R b op s → v ≤ s e
theorem prune_eq (C : Ctx n P R) (h : Mx n P b) {e : Nat} (he : e < n) (v : Int) : mPlanSolve_1 (some b) (e : Int) v = some (decide (v ≤ - mg b e 0)) := by
  obtain ⟨r, r1, r2, r3, r4⟩ := h.sq.at (i := e) (by have := C.n8; omega)
  have h0 := r4 0 (by omega)
  have v1 := h.le e 0 he C.n1
  have v2 := h.ge he C.n1
  have p1 := C.pp
  unfold mPlanSolve_1
  rw [Option.bind_some, r1, Option.bind_some, show idx r 0 = some (mg b e 0) from h0, Option.bind_some, chk_ok (by omega) (by omega)]
  rfl
theorem leaf_eq (C : Ctx n P R) (h : Mx n P b) {e : Nat} (he : e < n) (v : Int) (l : List Int) : mPlanSolve_2_2 (some b) (e : Int) v l = some (- mg b e 0) := by
  obtain ⟨r, r1, r2, r3, r4⟩ := h.sq.at (i := e) (by have := C.n8; omega)
  have h0 := r4 0 (by omega)
  have v1 := h.le e 0 he C.n1
  have v2 := h.ge he C.n1
  have p1 := C.pp
  unfold mPlanSolve_2_2
  rw [Option.bind_some, r1, Option.bind_some, show idx r 0 = some (mg b e 0) from h0, Option.bind_some, chk_ok (by omega) (by omega)]
  rfl
/-- The loop that looks for the open rule with the fewest choices. -/
theorem find_spec (C : Ctx n P R) (h : Mx n P b) (ho : op.length = R.length) (x : Int) (v : Int) (tk : List Int) :
    (∃ j few, forM (mPlanSearchRun_L1779 R tk op (some b) P (n : Int) x v) R.length 0 ((-1), []) = some (.inl (j, few)) ∧
      ((j = -1 ∧ ∀ i, i < R.length → op[i]? = some false) ∨ ∃ (i : Nat) (r : PlanRule), j = (i : Int) ∧ R[i]? = some r ∧ op[i]? = some true ∧ ∀ k, k ∈ few ↔ Ch P b r k)) ∨
    (forM (mPlanSearchRun_L1779 R tk op (some b) P (n : Int) x v) R.length 0 ((-1), []) = some (.inr (v, tk, op)) ∧ ∀ s, ¬ Feas n P R b op s) := by
  rcases forM_inv (body := mPlanSearchRun_L1779 R tk op (some b) P (n : Int) x v)
    (fun k st => (st.1 = -1 ∧ ∀ i, i < k → op[i]? = some false) ∨ ∃ (i : Nat) (r : PlanRule), st.1 = (i : Int) ∧ R[i]? = some r ∧ op[i]? = some true ∧ ∀ k, k ∈ st.2 ↔ Ch P b r k)
    (fun t => t = (v, tk, op) ∧ ∀ s, ¬ Feas n P R b op s) R.length 0 ((-1), []) (.inl ⟨rfl, fun i hi => absurd hi (by omega)⟩) (fun k st _ hk hi => by
      obtain ⟨j, few⟩ := st
      simp only at hi
      have hk' : k < R.length := by omega
      have hko : k < op.length := by omega
      have hok := C.ok _ (List.getElem_mem hk')
      unfold mPlanSearchRun_L1779
      simp only [unc2]
      rw [idx_lt hk', Option.bind_some, idx_lt hko, Option.bind_some]
      by_cases hop : op[k] = true
      · rw [if_pos hop]
        obtain ⟨L, L1, L2⟩ := choices_spec C.n8 C.pp h hok (n : Int) R x v tk op
        rw [L1, Option.bind_some]
        have hopk : op[k]? = some true := by rw [List.getElem?_eq_getElem hko, hop]
        have key : ∀ j2 few2, ((j2 = (k : Int) ∧ few2 = L) ∨ (j2 = j ∧ few2 = few ∧ 0 ≤ j)) →
            (∃ s', (if (L.length : Int) = 0 then some (Sum.inr (v, tk, op)) else some (Sum.inl (j2, few2))) = some (Sum.inl s') ∧ ((s'.1 = -1 ∧ ∀ i, i < k + 1 → op[i]? = some false) ∨ ∃ (i : Nat) (r : PlanRule), s'.1 = (i : Int) ∧ R[i]? = some r ∧ op[i]? = some true ∧ ∀ k, k ∈ s'.2 ↔ Ch P b r k)) ∨
            ∃ t, (if (L.length : Int) = 0 then some (Sum.inr (v, tk, op)) else some (Sum.inl (j2, few2))) = some (Sum.inr t) ∧ (t = (v, tk, op) ∧ ∀ s, ¬ Feas n P R b op s) := fun j2 few2 hj => by
          by_cases hL : (L.length : Int) = 0
          · rw [if_pos hL]
            refine .inr ⟨_, rfl, rfl, fun s hs => ?_⟩
            obtain ⟨q, hq⟩ := hs.kept k _ (List.getElem?_eq_getElem hk') hopk
            have := (L2 q).2 (ch_of hok hs.sol hq)
            rw [List.eq_nil_of_length_eq_zero (l := L) (by omega)] at this
            cases this
          · rw [if_neg hL]
            refine .inl ⟨_, rfl, .inr ?_⟩
            rcases hj with ⟨rfl, rfl⟩ | ⟨rfl, rfl, h0⟩
            · exact ⟨k, R[k], rfl, List.getElem?_eq_getElem hk', hopk, L2⟩
            · rcases hi with ⟨e, _⟩ | hi
              · omega
              · exact hi
        by_cases hj : j < 0
        · rw [if_pos hj, Option.bind_some, if_pos rfl, pass3]
          exact key _ _ (.inl ⟨rfl, rfl⟩)
        · rw [if_neg hj, Option.bind_some]
          by_cases hlt : (L.length : Int) < (few.length : Int)
          · rw [decide_eq_true hlt, if_pos rfl, pass3]
            exact key _ _ (.inl ⟨rfl, rfl⟩)
          · rw [decide_eq_false hlt, if_neg (by decide), pass3]
            exact key _ _ (.inr ⟨rfl, rfl, by omega⟩)
      · rw [if_neg hop]
        refine .inl ⟨_, rfl, ?_⟩
        rcases hi with ⟨e1, e2⟩ | hi
        · refine .inl ⟨e1, fun i hi => ?_⟩
          by_cases e : i = k
          · subst e
            rw [List.getElem?_eq_getElem hko]
            simpa using hop
          · exact e2 i (by omega)
        · exact .inr hi) with ⟨⟨j, few⟩, h1, h2⟩ | ⟨t, h1, rfl, h3⟩
  · refine .inl ⟨j, few, h1, ?_⟩
    rw [Nat.zero_add] at h2
    exact h2
  · exact .inr ⟨h1, h3⟩
theorem run_spec (C : Ctx n P R) {e : Nat} (he : e < n) (N : Nat) : ∀ (b : List (List Int)) (v0 : Int) (tk : List Int) (op : List Bool), Mx n P b → tk.length = R.length → op.length = R.length →
    (mPlanSearchRun N (some b) P (n : Int) R (e : Int) v0 tk op = none ∧ N < op.count true + 1) ∨
    ∃ v tk', mPlanSearchRun N (some b) P (n : Int) R (e : Int) v0 tk op = some (v, tk', op) ∧ tk'.length = R.length ∧ RSays n P R e b op v0 v := by
  induction N with
  | zero => exact fun b v0 tk op _ _ _ => .inl ⟨rfl, by omega⟩
  | succ N ih =>
    intro b v0 tk op h ht ho
    rw [mPlanSearchRun]
    dsimp only
    have least := sol_least h.tri C.n1
    rw [prune_eq C h he, Option.bind_some]
    by_cases hp : v0 ≤ - mg b e 0
    · rw [decide_eq_true hp, if_pos rfl]
      refine .inr ⟨v0, tk, rfl, ht, Int.le_refl _, .inl rfl, fun s hs => ?_⟩
      have := least.2 s hs.sol e he
      rw [hs.zero] at this
      omega
    · rw [decide_eq_false hp, if_neg (by decide)]
      rcases find_spec C h ho (e : Int) v0 tk with ⟨j, few, h1, h2⟩ | ⟨h1, h2⟩
      · rw [h1, Option.bind_some, Sum.elim_inl]
        simp only [unc2]
        rcases h2 with ⟨rfl, h2⟩ | ⟨i, r, rfl, hr, hi, hf⟩
        · rw [if_pos (by omega), leaf_eq C h he, Option.bind_some]
          refine .inr ⟨_, tk, rfl, ht, by omega, .inr ⟨fun j => - mg b j 0, ⟨least.1, ?_, fun k q hq hk => ?_⟩, rfl⟩, fun s hs => ?_⟩
          · show - mg b 0 0 = 0
            rw [h.tri.diag 0 C.n1]
            rfl
          · have := h2 k (List.getElem?_eq_some_iff.1 hq).1
            rw [this] at hk
            cases hk
          · have := least.2 s hs.sol e he
            rw [hs.zero] at this
            omega
        · have hir : i < R.length := (List.getElem?_eq_some_iff.1 hr).1
          have hio : i < op.length := by omega
          have hok := C.ok r (List.mem_of_getElem? hr)
          rw [if_neg (by omega), idx_nat hr, Option.bind_some, idx_nat hi, Option.bind_some, put_nat]
          have hcnt := count_off hi
          rcases forS_invX (body := mPlanSearchRun_L2074 R (some b) P (n : Int) (e : Int) few (i : Int) r (mPlanSearchRun N)) (N < (op.set i false).count true + 1)
            (fun k st => st.2.1.length = R.length ∧ st.2.2 = op.set i false ∧ st.1 ≤ v0 ∧ (st.1 = v0 ∨ ∃ s, Feas n P R b op s ∧ s e = st.1) ∧ ∀ s q, q < k → Feas n P R b op s → (∀ a, few[q]? = some a → With P r s a → st.1 ≤ s e)) few.length 0 (v0, tk, op.set i false)
            ⟨ht, rfl, Int.le_refl _, .inl rfl, fun s q hq => absurd hq (by omega)⟩ (fun k st _ hk hI => by
              obtain ⟨v, tk2, op2⟩ := st
              obtain ⟨g1, g2, g3, g4, g5⟩ := hI
              simp only at g1 g2 g3 g4 g5
              subst g2
              have hk' : k < few.length := by omega
              have hch := (hf _).1 (List.getElem_mem hk')
              unfold mPlanSearchRun_L2074
              simp only [unc3]
              rw [idx_lt hk', Option.bind_some]
              obtain ⟨q, x, c1, c2⟩ := choose_spec C h hok hch (τ := Int × List Int × List Bool) (fun q2 x2 => if x2 = true then (idx tk2 (i : Int)).bind fun _ => (mPlanSearchRun N q2 P (n : Int) R (e : Int) v (put tk2 (i : Int) few[k]) (op.set i false)).bind (unc3 fun x2367 l2368 l2369 => some (x2367, l2368, l2369)) else some (v, tk2, op.set i false))
              rw [c1]
              rcases c2 with ⟨rfl, c, rfl, c3, c4⟩ | ⟨rfl, c3⟩
              · rw [if_pos rfl, idx_lt (show i < tk2.length by omega), Option.bind_some, put_nat]
                have hF := feas_off C hr hi c4
                rcases ih c v (tk2.set i few[k]) (op.set i false) c3 (by rw [List.length_set]; exact g1) (by rw [List.length_set]; exact ho) with ⟨a1, a2⟩ | ⟨v', tk3, a1, a2, a3⟩
                · rw [a1]
                  exact .inl ⟨rfl, a2⟩
                · rw [a1, pass3]
                  refine .inr ⟨_, rfl, a2, rfl, by have := a3.le; simp only; omega, ?_, fun s q hq hs a ha hw => ?_⟩
                  · rcases a3.src with e1 | ⟨s, s1, s2⟩
                    · rw [e1]; exact g4
                    · exact .inr ⟨s, ((hF s).1 s1).1, s2⟩
                  · by_cases e1 : q = k
                    · subst e1
                      rw [List.getElem?_eq_getElem hk'] at ha
                      injection ha with ha
                      subst ha
                      exact a3.low s ((hF s).2 ⟨hs, hw⟩)
                    · have := g5 s q (by omega) hs a ha hw
                      have := a3.le
                      simp only
                      omega
              · rw [if_neg (by decide)]
                refine .inr ⟨_, rfl, g1, rfl, g3, g4, fun s q hq hs a ha hw => ?_⟩
                by_cases e1 : q = k
                · subst e1
                  rw [List.getElem?_eq_getElem hk'] at ha
                  injection ha with ha
                  subst ha
                  exact absurd hw (c3 s hs.sol)
                · exact g5 s q (by omega) hs a ha hw) with ⟨h3, h4⟩ | ⟨⟨v, tk2, op2⟩, h3, g1, g2, g3, g4, g5⟩
          · rw [h3]
            exact .inl ⟨rfl, by omega⟩
          · simp only at g1 g2 g3 g4 g5
            subst g2
            rw [h3, pass3, idx_lt (show i < (op.set i false).length by rw [List.length_set]; exact hio), Option.bind_some, put_nat, set_back hi]
            refine .inr ⟨v, tk2, rfl, g1, g3, g4, fun s hs => ?_⟩
            obtain ⟨a, ha⟩ := hs.kept i r hr hi
            obtain ⟨q, hq, hqa⟩ := List.getElem_of_mem ((hf a).2 (ch_of hok hs.sol ha))
            exact g5 s q (by omega) hs a (by rw [List.getElem?_eq_getElem hq, hqa]) ha
      · rw [h1, Option.bind_some]
        refine .inr ⟨v0, tk, rfl, ht, Int.le_refl _, .inl rfl, fun s hs => absurd hs (h2 s)⟩
end
end Go.Proofs.Ytdphlkddelnaiaa
