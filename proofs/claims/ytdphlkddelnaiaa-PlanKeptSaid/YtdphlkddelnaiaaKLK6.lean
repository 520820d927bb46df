/- Plain: the search for the cheapest times. -/
import Derived.Test.YtdphlkddelnaiaaKLK5
set_option linter.unusedVariables false
set_option linter.unusedSimpArgs false
namespace Go.Proofs.Ytdphlkddelnaiaa
open Go.RowKit Go.Fp

theorem cmp_eq (x y : Int) : mCmpCompare x y = some (if x < y then -1 else if y < x then 1 else 0) := by
  unfold mCmpCompare mCmpIsNaN
  rw [Option.bind_some, Option.bind_some, decide_eq_false (by simp), if_neg (by decide), decide_eq_false (by simp), if_neg (by decide)]
  split
  · rfl
  · split <;> rfl
/-- The first list is before the second one. -/
def Before (A B : List Int) : Prop := (∃ i, i < A.length ∧ i < B.length ∧ (∀ j, j < i → tm A j = tm B j) ∧ tm A i < tm B i) ∨ (A.length < B.length ∧ ∀ j, j < A.length → tm A j = tm B j)
theorem compare_spec (A B : List Int) : ∃ c, mSlicesCompare A B = some c ∧ (c < 0 → Before A B) := by
  unfold mSlicesCompare
  rcases forM_inv (body := mSlicesCompare_L70 A B) (fun k _ => ∀ j, j < k → tm A j = tm B j) (fun c => c < 0 → Before A B) A.length 0 () (fun j hj => absurd hj (by omega)) (fun k st _ hk hi => by
      have hk' : k < A.length := by omega
      unfold mSlicesCompare_L70
      rw [tm_idx hk', Option.bind_some]
      by_cases hl : (B.length : Int) ≤ (k : Int)
      · rw [if_pos hl]
        exact .inr ⟨1, rfl, fun h => by omega⟩
      · have hkB : k < B.length := by omega
        rw [if_neg hl, tm_idx hkB, Option.bind_some, cmp_eq, Option.bind_some]
        by_cases h1 : tm A k < tm B k
        · rw [if_pos h1, if_pos (by decide)]
          exact .inr ⟨_, rfl, fun _ => .inl ⟨k, hk', hkB, hi, h1⟩⟩
        · rw [if_neg h1]
          by_cases h2 : tm B k < tm A k
          · rw [if_pos h2, if_pos (by decide)]
            exact .inr ⟨_, rfl, fun h => by omega⟩
          · rw [if_neg h2, if_neg (by decide)]
            refine .inl ⟨_, rfl, fun j hj => ?_⟩
            by_cases e : j = k
            · subst e; omega
            · exact hi j (by omega)) with ⟨_, h1, h2⟩ | ⟨c, h1, h2⟩
  · rw [h1, Option.bind_some, Sum.elim_inl]
    by_cases hl : (A.length : Int) < (B.length : Int)
    · rw [if_pos hl]
      exact ⟨_, rfl, fun _ => .inr ⟨by omega, fun j hj => h2 j (by omega)⟩⟩
    · rw [if_neg hl]
      exact ⟨_, rfl, fun h => by omega⟩
  · rw [h1, Option.bind_some, Sum.elim_inr]
    exact ⟨c, rfl, h2⟩
theorem choices2_eq : mPlanSearchChoices_2 = fun q s x1 x2 l1 x3 x4 l2 x5 l3 l4 l5 => mPlanSearchChoices q s x1 x2 l1 x3 x4 l3 l4 := by
  unfold mPlanSearchChoices_2 mPlanSearchChoices mPlanSearchChoices_2_L732 mPlanSearchChoices_L718
  rfl
section
variable {n : Nat} {P : Int} {R : List PlanRule} {b : List (List Int)} {op : List Bool} {tk : List Int}
/-- A table on the way of the search: the rules that are closed hold by it with their multiples. -/
structure Way (n : Nat) (P : Int) (R : List PlanRule) (b : List (List Int)) (tk : List Int) (op : List Bool) : Prop where
  mx : Mx n P b
  rng : ∀ s, Sol n (mg b) s → s 0 = 0 → ∀ j, j < n → 0 ≤ s j ∧ s j ≤ P - 1
  len : tk.length = R.length
  ol : op.length = R.length
  wth : ∀ k, k < R.length → op[k]? = some false → ∀ s, Sol n (mg b) s → With P (rr R k) s (tm tk k)
/-- The best times so far. -/
def GoodB (n : Nat) (P : Int) (R : List PlanRule) (v : Int) (best : List Int) : Prop := best = [] ∨ (best.length = n ∧ Good n P R (tm best) ∧ costR P R (tm best) = v)
theorem costR_bd (C : Ctx n P R) (s : Nat → Int) : ∀ k, k ≤ R.length → 0 ≤ costR P (R.take k) s ∧ costR P (R.take k) s ≤ 3600000 * (k : Int)
  | 0, _ => by simp [costR]
  | k + 1, h => by
    have hk : k < R.length := by omega
    have h1 := costR_bd C s k (by omega)
    have h2 := wc_bd C.pp (C.ok _ (List.getElem_mem hk)) s
    rw [List.take_succ_eq_append_getElem hk, costR_app, costR_one, Int.natCast_add]
    simp only [Int.natCast_one]
    omega
theorem prune2_spec (C : Ctx n P R) (W : Way n P R b tk op) (v : Int) (best : List Int) (x25 x31 x32 : Int) (l36 : List PlanRule) :
    ∃ x, mPlanBest_1 (some b) P x25 R v x31 x32 l36 best tk op = some x ∧ (x = true → best ≠ [] ∧ ∀ s, Feas n P R b op s → v < costR P R s) := by
  have n1 := C.n1
  have n8 := C.n8
  have pp := C.pp
  have hl := C.len
  unfold mPlanBest_1
  by_cases hb : best.isEmpty = true
  · rw [if_pos hb]
    exact ⟨_, rfl, fun h => by cases h⟩
  · rw [if_neg hb]
    have least := sol_least W.mx.tri n1
    have z0 : (fun j => - mg b j 0) 0 = 0 := by
      show - mg b 0 0 = 0
      rw [W.mx.tri.diag 0 n1]; rfl
    obtain ⟨⟨q, x⟩, h1, h2, h3, h4, h5⟩ := forS_inv (body := mPlanBest_1_L437 R tk op P) (fun k st => st.1 = some b ∧ 0 ≤ st.2 ∧ st.2 ≤ 3600000 * (k : Int) ∧ ∀ s, Sol n (mg b) s → st.2 ≤ costR P (R.take k) s) R.length 0 (some b, 0) ⟨rfl, by simp only; omega, by simp only; omega, fun s _ => by simp [costR]⟩ (fun k st _ hk hi => by
      obtain ⟨q, x⟩ := st
      obtain ⟨g1, g2, g3, g4⟩ := hi
      simp only at g1 g2 g3 g4
      subst g1
      have hk' : k < R.length := by omega
      have hko : k < op.length := by rw [W.ol]; exact hk'
      have hok := C.ok _ (List.getElem_mem hk')
      unfold mPlanBest_1_L437
      simp only [unc2]
      rw [idx_lt hk', Option.bind_some, idx_lt hko, Option.bind_some]
      by_cases hop : op[k] = true
      · rw [if_pos hop]
        refine ⟨_, rfl, rfl, g2, by simp only; omega, fun s hs => ?_⟩
        have := g4 s hs
        have := wc_bd pp hok s
        rw [List.take_succ_eq_append_getElem hk', costR_app, costR_one]
        simp only
        omega
      · have hopk : op[k]? = some false := by
          rw [List.getElem?_eq_getElem hko]
          simpa using hop
        have hw := W.wth k hk' hopk
        rw [rr_at hk'] at hw
        have hf := hok.f
        have ht := hok.t
        have mn := hok.min
        have mx := hok.max
        obtain ⟨rt, t1, t2, t3, t4⟩ := W.mx.sq.at (i := R[k].To.toNat) (by omega)
        have f4 := t4 R[k].From.toNat (by omega)
        rw [show ((R[k].To.toNat : Nat) : Int) = R[k].To by omega] at t1
        rw [show ((R[k].From.toNat : Nat) : Int) = R[k].From by omega] at f4
        have w0 := hw _ least.1
        have r1 := W.rng _ least.1 z0 R[k].To.toNat (by omega)
        have r2 := W.rng _ least.1 z0 R[k].From.toNat (by omega)
        have s0 := least.1 R[k].To.toNat R[k].From.toNat (by omega) (by omega)
        have b1 := W.mx.le R[k].To.toNat R[k].From.toNat (by omega) (by omega)
        have b2 := W.mx.ge (i := R[k].To.toNat) (j := R[k].From.toNat) (by omega) (by omega)
        unfold With at w0
        simp only at w0 r1 r2 s0
        have hm : 0 ≤ max 0 (-mg b R[k].To.toNat R[k].From.toNat + tm tk k * P - R[k].Min) ∧ max 0 (-mg b R[k].To.toNat R[k].From.toNat + tm tk k * P - R[k].Min) ≤ 3600 := by omega
        have hwm := wmul_bd (w := R[k].Weight) hok.wt hm
        rw [if_neg hop, Option.bind_some, t1, Option.bind_some, f4, Option.bind_some, chk_ok (by omega) (by omega), Option.bind_some, tm_idx (show k < tk.length by rw [W.len]; exact hk'), Option.bind_some, chk_ok (by omega) (by omega), Option.bind_some, chk_ok (by omega) (by omega), Option.bind_some, chk_ok (by omega) (by omega), Option.bind_some, chk_ok (by omega) (by omega), Option.bind_some, chk_ok (by omega) (by omega), Option.bind_some]
        refine ⟨_, rfl, rfl, by simp only; omega, by simp only; omega, fun s hs => ?_⟩
        have := g4 s hs
        have hws := hw s hs
        have hg := wc_with pp.1 mx.2 hws
        have hsl := hs R[k].To.toNat R[k].From.toNat (by omega) (by omega)
        unfold With at hws
        have hle : R[k].Weight * max 0 (-mg b R[k].To.toNat R[k].From.toNat + tm tk k * P - R[k].Min) ≤ wc P R[k] s := by
          unfold wc
          rw [hg]
          exact Int.mul_le_mul_of_nonneg_left (by omega) hok.wt.1
        rw [List.take_succ_eq_append_getElem hk', costR_app, costR_one]
        simp only
        omega)
    simp only at h2 h3 h4 h5
    rw [h1, pass2]
    refine ⟨_, rfl, fun hx => ⟨fun e => by subst e; exact hb rfl, fun s hs => ?_⟩⟩
    have := h5 s hs.sol
    rw [Nat.zero_add, List.take_length] at this
    have := of_decide_eq_true hx
    omega
theorem find2_spec (C : Ctx n P R) (h : Mx n P b) (ho : op.length = R.length) (v : Int) (tk best : List Int) :
    (∃ j few, forM (mPlanSearchRun_2_L1914 R R tk op best (some b) P (n : Int) P (n : Int) v) R.length 0 ((-1), []) = some (.inl (j, few)) ∧
      ((j = -1 ∧ ∀ i, i < R.length → op[i]? = some false) ∨ ∃ (i : Nat) (r : PlanRule), j = (i : Int) ∧ R[i]? = some r ∧ op[i]? = some true ∧ ∀ k, k ∈ few ↔ Ch P b r k)) ∨
    (forM (mPlanSearchRun_2_L1914 R R tk op best (some b) P (n : Int) P (n : Int) v) R.length 0 ((-1), []) = some (.inr (v, tk, op, best)) ∧ ∀ s, ¬ Feas n P R b op s) := by
  rcases forM_inv (body := mPlanSearchRun_2_L1914 R R tk op best (some b) P (n : Int) P (n : Int) v)
    (fun k st => (st.1 = -1 ∧ ∀ i, i < k → op[i]? = some false) ∨ ∃ (i : Nat) (r : PlanRule), st.1 = (i : Int) ∧ R[i]? = some r ∧ op[i]? = some true ∧ ∀ k, k ∈ st.2 ↔ Ch P b r k)
    (fun t => t = (v, tk, op, best) ∧ ∀ s, ¬ Feas n P R b op s) R.length 0 ((-1), []) (.inl ⟨rfl, fun i hi => absurd hi (by omega)⟩) (fun k st _ hk hi => by
      obtain ⟨j, few⟩ := st
      simp only at hi
      have hk' : k < R.length := by omega
      have hko : k < op.length := by omega
      have hok := C.ok _ (List.getElem_mem hk')
      unfold mPlanSearchRun_2_L1914
      simp only [unc2]
      rw [idx_lt hk', Option.bind_some, idx_lt hko, Option.bind_some]
      by_cases hop : op[k] = true
      · rw [if_pos hop]
        obtain ⟨L, L1, L2⟩ := choices_spec C.n8 C.pp h hok (n : Int) R P (n : Int) tk op
        rw [choices2_eq]
        dsimp only
        rw [L1, Option.bind_some]
        have hopk : op[k]? = some true := by rw [List.getElem?_eq_getElem hko, hop]
        have key : ∀ j2 few2, ((j2 = (k : Int) ∧ few2 = L) ∨ (j2 = j ∧ few2 = few ∧ 0 ≤ j)) →
            (∃ s', (if (L.length : Int) = 0 then some (Sum.inr (v, tk, op, best)) else some (Sum.inl (j2, few2))) = some (Sum.inl s') ∧ ((s'.1 = -1 ∧ ∀ i, i < k + 1 → op[i]? = some false) ∨ ∃ (i : Nat) (r : PlanRule), s'.1 = (i : Int) ∧ R[i]? = some r ∧ op[i]? = some true ∧ ∀ k, k ∈ s'.2 ↔ Ch P b r k)) ∨
            ∃ t, (if (L.length : Int) = 0 then some (Sum.inr (v, tk, op, best)) else some (Sum.inl (j2, few2))) = some (Sum.inr t) ∧ (t = (v, tk, op, best) ∧ ∀ s, ¬ Feas n P R b op s) := fun j2 few2 hj => by
          by_cases hL : (L.length : Int) = 0
          · rw [if_pos hL]
            refine .inr ⟨_, rfl, rfl, fun s hs => ?_⟩
            obtain ⟨q, hq⟩ := hs.kept k _ (List.getElem?_eq_getElem hk') hopk
            have := (L2 q).2 (ch_of hok hs.sol hq)
            rw [List.eq_nil_of_length_eq_zero (l := L) (by omega)] at this
            cases this
          · rw [if_neg hL]
            refine .inl ⟨_, rfl, .inr ?_⟩
            rcases hj with ⟨rfl, rfl⟩ | ⟨rfl, rfl, h0⟩
            · exact ⟨k, R[k], rfl, List.getElem?_eq_getElem hk', hopk, L2⟩
            · rcases hi with ⟨e, _⟩ | hi
              · omega
              · exact hi
        by_cases hj : j < 0
        · rw [if_pos hj, Option.bind_some, if_pos rfl, pass3]
          exact key _ _ (.inl ⟨rfl, rfl⟩)
        · rw [if_neg hj, Option.bind_some]
          by_cases hlt : (L.length : Int) < (few.length : Int)
          · rw [decide_eq_true hlt, if_pos rfl, pass3]
            exact key _ _ (.inl ⟨rfl, rfl⟩)
          · rw [decide_eq_false hlt, if_neg (by decide), pass3]
            exact key _ _ (.inr ⟨rfl, rfl, by omega⟩)
      · rw [if_neg hop]
        refine .inl ⟨_, rfl, ?_⟩
        rcases hi with ⟨e1, e2⟩ | hi
        · refine .inl ⟨e1, fun i hi => ?_⟩
          by_cases e : i = k
          · subst e
            rw [List.getElem?_eq_getElem hko]
            simpa using hop
          · exact e2 i (by omega)
        · exact .inr hi) with ⟨⟨j, few⟩, h1, h2⟩ | ⟨t, h1, rfl, h3⟩
  · refine .inl ⟨j, few, h1, ?_⟩
    rw [Nat.zero_add] at h2
    exact h2
  · exact .inr ⟨h1, h3⟩
/-- What the search says. -/
structure BSays (n : Nat) (P : Int) (R : List PlanRule) (b : List (List Int)) (op : List Bool) (v : Int) (best : List Int) (v' : Int) (best' : List Int) : Prop where
  good : GoodB n P R v' best'
  keep : best ≠ [] → best' ≠ [] ∧ v' ≤ v
  low : ∀ s, Feas n P R b op s → best' ≠ [] ∧ v' ≤ costR P R s
theorem leaf2_spec (C : Ctx n P R) (h6 : n ≤ 6) (W : Way n P R b tk op) (ho : ∀ i, i < R.length → op[i]? = some false) {v : Int} {best : List Int} (hb : GoodB n P R v best) :
    ∃ v' best', mPlanBest_2 (some b) P (n : Int) R v tk best = some (v', best') ∧ BSays n P R b op v best v' best' := by
  have n1 := C.n1
  obtain ⟨w, T, c1, c2, c3, c4, c5, c6⟩ := cheapest_spec C h6 ⟨W.mx, W.rng, W.len, fun k hk => W.wth k hk (ho k hk)⟩
  have hne : T ≠ [] := fun e => by subst e; simp at c2; omega
  have hT : GoodB n P R w T := .inr ⟨c2, ⟨c4, W.rng _ c3 c4, fun r hr => by
    obtain ⟨k, hk, rfl⟩ := List.getElem_of_mem hr
    have := W.wth k hk (ho k hk) _ c3
    rw [rr_at hk] at this
    exact ⟨_, this⟩⟩, c5.symm⟩
  unfold mPlanBest_2
  rw [c1, pass2]
  have take : w ≤ v ∨ best = [] → ∃ v' best', ((some true).bind fun x77 => if x77 = true then ((some? T).bind fun _ => some (w, T)) else some (v, best)) = some (v', best') ∧ BSays n P R b op v best v' best' := fun h => by
    have hs : some? T = some () := by
      unfold some?
      rw [if_neg (by simpa using hne)]
    rw [Option.bind_some, if_pos rfl, hs, Option.bind_some]
    refine ⟨_, _, rfl, hT, fun hn => ⟨hne, ?_⟩, fun s hs => ⟨hne, c6 s hs.sol hs.zero⟩⟩
    rcases h with h | h
    · exact h
    · exact absurd h hn
  have stay : best ≠ [] → v ≤ w → ∃ v' best', ((some false).bind fun x77 => if x77 = true then ((some? T).bind fun _ => some (w, T)) else some (v, best)) = some (v', best') ∧ BSays n P R b op v best v' best' := fun h1 h2 => by
    rw [Option.bind_some, if_neg (by decide)]
    refine ⟨_, _, rfl, hb, fun hn => ⟨hn, Int.le_refl _⟩, fun s hs => ⟨h1, ?_⟩⟩
    have := c6 s hs.sol hs.zero
    omega
  by_cases he : best.isEmpty = true
  · rw [if_pos he]
    exact take (.inr (by simpa using he))
  · have he' : best ≠ [] := by simpa using he
    rw [if_neg he]
    by_cases h1 : w < v
    · rw [if_pos h1]
      exact take (.inl (by omega))
    · rw [if_neg h1]
      by_cases h2 : w = v
      · rw [if_pos h2]
        obtain ⟨c, k1, k2⟩ := compare_spec T best
        rw [k1, Option.bind_some]
        by_cases h3 : c < 0
        · rw [decide_eq_true h3]
          exact take (.inl (by omega))
        · rw [decide_eq_false h3]
          exact stay he' (by omega)
      · rw [if_neg h2]
        exact stay he' (by omega)
theorem run2_spec (C : Ctx n P R) (h6 : n ≤ 6) (N : Nat) : ∀ (b : List (List Int)) (v0 : Int) (tk : List Int) (op : List Bool) (best : List Int), Way n P R b tk op → GoodB n P R v0 best →
    (mPlanSearchRun_2 N (some b) P (n : Int) R P (n : Int) R v0 tk op best = none ∧ N < op.count true + 1) ∨
    ∃ v tk' best', mPlanSearchRun_2 N (some b) P (n : Int) R P (n : Int) R v0 tk op best = some (v, tk', op, best') ∧ tk'.length = R.length ∧ (∀ k : Nat, op[k]? = some false → tm tk' k = tm tk k) ∧ BSays n P R b op v0 best v best' := by
  induction N with
  | zero => exact fun b v0 tk op best _ _ => .inl ⟨rfl, by omega⟩
  | succ N ih =>
    intro b v0 tk op best W hB
    rw [mPlanSearchRun_2]
    dsimp only
    obtain ⟨x, p1, p2⟩ := prune2_spec C W v0 best (n : Int) P (n : Int) R
    rw [p1, Option.bind_some]
    by_cases hp : x = true
    · rw [if_pos hp]
      obtain ⟨p3, p4⟩ := p2 hp
      exact .inr ⟨v0, tk, best, rfl, W.len, fun _ _ => rfl, hB, fun h => ⟨h, Int.le_refl _⟩, fun s hs => ⟨p3, by have := p4 s hs; omega⟩⟩
    · rw [if_neg hp]
      rcases find2_spec C W.mx W.ol v0 tk best with ⟨j, few, h1, h2⟩ | ⟨h1, h2⟩
      · rw [h1, Option.bind_some, Sum.elim_inl]
        simp only [unc2]
        rcases h2 with ⟨rfl, h2⟩ | ⟨i, r, rfl, hr, hi, hf⟩
        · obtain ⟨v', best', l1, l2⟩ := leaf2_spec C h6 W h2 hB
          rw [if_pos (by omega), l1, Option.bind_some]
          exact .inr ⟨v', tk, best', rfl, W.len, fun _ _ => rfl, l2⟩
        · have hir : i < R.length := (List.getElem?_eq_some_iff.1 hr).1
          have ho := W.ol
          have hio : i < op.length := by omega
          have hok := C.ok r (List.mem_of_getElem? hr)
          have hri : rr R i = r := by
            rw [rr_at hir]
            exact (List.getElem?_eq_some_iff.1 hr).2
          rw [if_neg (by omega), idx_nat hr, Option.bind_some, idx_nat hi, Option.bind_some, put_nat]
          have hcnt := count_off hi
          rcases forS_invX (body := mPlanSearchRun_2_L2221 R R (some b) P (n : Int) P (n : Int) few (i : Int) r (mPlanSearchRun_2 N)) (N < (op.set i false).count true + 1)
            (fun k st => st.2.1.length = R.length ∧ (∀ k : Nat, op[k]? = some false → tm st.2.1 k = tm tk k) ∧ st.2.2.1 = op.set i false ∧ GoodB n P R st.1 st.2.2.2 ∧ (best ≠ [] → st.2.2.2 ≠ [] ∧ st.1 ≤ v0) ∧ ∀ s q, q < k → Feas n P R b op s → (∀ a, few[q]? = some a → With P r s a → st.2.2.2 ≠ [] ∧ st.1 ≤ costR P R s)) few.length 0 (v0, tk, op.set i false, best)
            ⟨W.len, fun _ _ => rfl, rfl, hB, fun h => ⟨h, Int.le_refl _⟩, fun s q hq => absurd hq (by omega)⟩ (fun k st _ hk hI => by
              obtain ⟨v, tk2, op2, best2⟩ := st
              obtain ⟨g1, g2, g3, g4, g5, g6⟩ := hI
              simp only at g1 g2 g3 g4 g5 g6
              subst g3
              have hk' : k < few.length := by omega
              have hch := (hf _).1 (List.getElem_mem hk')
              unfold mPlanSearchRun_2_L2221
              simp only [unc4]
              rw [idx_lt hk', Option.bind_some]
              obtain ⟨q, x, c1, c2⟩ := choose_spec C W.mx hok hch (τ := Int × List Int × List Bool × List Int) (fun q2 x2 => if x2 = true then (idx tk2 (i : Int)).bind fun _ => (mPlanSearchRun_2 N q2 P (n : Int) R P (n : Int) R v (put tk2 (i : Int) few[k]) (op.set i false) best2).bind (unc4 fun x2540 l2541 l2542 l2543 => some (x2540, l2541, l2542, l2543)) else some (v, tk2, op.set i false, best2))
              rw [c1]
              rcases c2 with ⟨rfl, c, rfl, c3, c4⟩ | ⟨rfl, c3⟩
              · have hit : i < tk2.length := by omega
                rw [if_pos rfl, idx_lt hit, Option.bind_some]
                have hF := feas_off C hr hi c4
                have hW : Way n P R c (put tk2 (i : Int) few[k]) (op.set i false) := by
                  refine ⟨c3, fun s hs => W.rng s ((c4 s).1 hs).1, by rw [put_length]; exact g1, by rw [List.length_set]; exact ho, fun a ha hoa s hs => ?_⟩
                  rw [tm_put hit]
                  by_cases e : a = i
                  · subst e
                    rw [if_pos rfl, hri]
                    exact ((c4 s).1 hs).2
                  · rw [List.getElem?_set_ne (fun h => e h.symm)] at hoa
                    rw [if_neg e, g2 a hoa]
                    exact W.wth a ha hoa s ((c4 s).1 hs).1
                rcases ih c v (put tk2 (i : Int) few[k]) (op.set i false) best2 hW g4 with ⟨a1, a2⟩ | ⟨v', tk3, best3, a1, a2, a3, a4⟩
                · rw [a1]
                  exact .inl ⟨rfl, a2⟩
                · rw [a1, pass4]
                  refine .inr ⟨_, rfl, a2, fun a hoa => ?_, rfl, a4.good, fun hn => ?_, fun s q hq hs a ha hw => ?_⟩
                  · have hne : a ≠ i := fun e => by
                      subst e
                      rw [hi] at hoa
                      cases hoa
                    have := a3 a (by rw [List.getElem?_set_ne (fun h => hne h.symm)]; exact hoa)
                    rw [tm_put hit, if_neg hne, g2 a hoa] at this
                    exact this
                  · obtain ⟨b1, b2⟩ := g5 hn
                    obtain ⟨b3, b4⟩ := a4.keep b1
                    exact ⟨b3, by simp only; omega⟩
                  · by_cases e1 : q = k
                    · subst e1
                      rw [List.getElem?_eq_getElem hk'] at ha
                      injection ha with ha
                      subst ha
                      exact a4.low s ((hF s).2 ⟨hs, hw⟩)
                    · obtain ⟨b1, b2⟩ := g6 s q (by omega) hs a ha hw
                      obtain ⟨b3, b4⟩ := a4.keep b1
                      exact ⟨b3, by simp only; omega⟩
              · rw [if_neg (by decide)]
                refine .inr ⟨_, rfl, g1, g2, rfl, g4, g5, fun s q hq hs a ha hw => ?_⟩
                by_cases e1 : q = k
                · subst e1
                  rw [List.getElem?_eq_getElem hk'] at ha
                  injection ha with ha
                  subst ha
                  exact absurd hw (c3 s hs.sol)
                · exact g6 s q (by omega) hs a ha hw) with ⟨h3, h4⟩ | ⟨⟨v, tk2, op2, best2⟩, h3, g1, g2, g3, g4, g5, g6⟩
          · rw [h3]
            exact .inl ⟨rfl, by omega⟩
          · simp only at g1 g2 g3 g4 g5 g6
            subst g3
            rw [h3, pass4, idx_lt (show i < (op.set i false).length by rw [List.length_set]; exact hio), Option.bind_some, put_nat, set_back hi]
            refine .inr ⟨v, tk2, best2, rfl, g1, g2, g4, g5, fun s hs => ?_⟩
            obtain ⟨a, ha⟩ := hs.kept i r hr hi
            obtain ⟨q, hq, hqa⟩ := List.getElem_of_mem ((hf a).2 (ch_of hok hs.sol ha))
            exact g6 s q (by omega) hs a (by rw [List.getElem?_eq_getElem hq, hqa]) ha
      · rw [h1, Option.bind_some]
        exact .inr ⟨v0, tk, best, rfl, W.len, fun _ _ => rfl, hB, fun h => ⟨h, Int.le_refl _⟩, fun s hs => absurd hs (h2 s)⟩
end
end Go.Proofs.Ytdphlkddelnaiaa
