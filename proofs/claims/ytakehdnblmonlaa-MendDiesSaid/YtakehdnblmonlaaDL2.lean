/- Plain: what a round without fault is; the check of the code says the same. -/
import Derived.Test.YtakehdnblmonlaaDL1
set_option linter.unusedVariables false
set_option linter.unusedSimpArgs false
namespace Go.Proofs.Ytakehdnblmonlaa
open Go.RowKit Go.Fp

section
variable {r : MendRound}
/- ---- events taken away one by one ---- -/
def Left (r : MendRound) (L : List Bool) : Prop :=
  L.length = r.Plan.length ∧ ∃ (τ : Int → Nat) (T : Nat), ∀ v : Int, 0 ≤ v → v < (r.Plan.length : Int) → bv L v = true → τ v < T ∧ ∀ l ∈ r.Links, l.Back = 0 → l.To = v → bv L l.From = true ∧ τ l.From < τ v
theorem free_spec (hl : ∀ l ∈ r.Links, LinkOk r l) {L : List Bool} (hL : L.length = r.Plan.length) (v : Nat) : ∃ b, forS (mFishref2RoundFault_L3068 r v L) r.Links.length 0 true = some b ∧ (b = true → ∀ l ∈ r.Links, l.Back = 0 → l.To = (v : Int) → bv L l.From = true) := by
  obtain ⟨b, h1, h2⟩ := forS_inv (body := mFishref2RoundFault_L3068 r v L) (fun k b => b = true → ∀ (j : Nat) l, j < k → r.Links[j]? = some l → l.Back = 0 → l.To = (v : Int) → bv L l.From = true) r.Links.length 0 true (fun _ j l h => absurd h (by omega)) (fun k b _ hk hi => by
    obtain ⟨x, x1, x2, x3⟩ := link_at (l := r.Links) (k := k) (by omega)
    have hx := hl x x3
    unfold mFishref2RoundFault_L3068
    rw [x1, Option.bind_some]
    cases b with
    | false => exact ⟨false, by rw [if_neg (by decide)], fun h => by cases h⟩
    | true =>
      rw [if_pos rfl]
      have ext : ∀ c : Bool, (c = true → x.Back = 0 → x.To = (v : Int) → bv L x.From = true) → (c = true → ∀ (j : Nat) l, j < k + 1 → r.Links[j]? = some l → l.Back = 0 → l.To = (v : Int) → bv L l.From = true) := fun c hc h j l hj h1 => by
        by_cases e : j = k
        · subst e
          rw [x2] at h1
          injection h1 with h1
          subst h1
          exact hc h
        · exact hi rfl j l (by omega) h1
      by_cases hb : 0 < x.Back
      · rw [if_pos hb]
        exact ⟨_, rfl, ext true (fun _ h => absurd h (by omega))⟩
      · rw [if_neg hb]
        by_cases ht : x.To ≠ (v : Int)
        · rw [if_pos ht]
          exact ⟨_, rfl, ext true (fun _ _ h => absurd h ht)⟩
        · rw [if_neg ht, idx_bv hx.f0 (by rw [hL]; exact hx.f1), Option.bind_some]
          by_cases hv : bv L x.From = true
          · rw [if_pos hv]
            exact ⟨_, rfl, ext true (fun _ _ _ => hv)⟩
          · rw [if_neg hv]
            exact ⟨_, rfl, ext false (fun h => by cases h)⟩)
  refine ⟨b, h1, fun hb l hm => ?_⟩
  obtain ⟨j, hj, rfl⟩ := List.getElem_of_mem hm
  exact h2 hb j _ (by omega) (List.getElem?_eq_getElem hj)
theorem left_step (hl : ∀ l ∈ r.Links, LinkOk r l) {L : List Bool} (hL : Left r L) {v : Nat} (hv : v < r.Plan.length) : ∃ L', mFishref2RoundFault_L2743 r v L = some L' ∧ Left r L' := by
  obtain ⟨h1, τ, T, h2⟩ := hL
  obtain ⟨b, b1, b2⟩ := free_spec hl h1 v
  unfold mFishref2RoundFault_L2743
  rw [b1, Option.bind_some, idx_bv (by omega) (by rw [h1]; omega), Option.bind_some]
  have hput : ∀ (x : Bool) (u : Int), 0 ≤ u → bv (put L (v : Int) x) u = if u = (v : Int) then x else bv L u := fun x u hu => bv_put (by omega) (by rw [h1]; omega) hu
  by_cases hc : bv L (v : Int) = true
  · rw [if_pos hc, Option.bind_some]
    have same : ∀ u : Int, 0 ≤ u → bv (put L (v : Int) true) u = bv L u := fun u hu => by
      rw [hput _ u hu]
      by_cases e : u = (v : Int)
      · rw [if_pos e, e, hc]
      · rw [if_neg e]
    refine ⟨_, rfl, by rw [put_length]; exact h1, τ, T, fun u hu hu2 h => ?_⟩
    rw [same u hu] at h
    refine ⟨(h2 u hu hu2 h).1, fun l hm h3 h4 => ?_⟩
    rw [same _ (hl l hm).f0]
    exact (h2 u hu hu2 h).2 l hm h3 h4
  · rw [if_neg hc, Option.bind_some]
    cases b with
    | false =>
      have hf : bv L (v : Int) = false := by cases hq : bv L (v : Int) with | true => exact absurd hq hc | false => rfl
      have same : ∀ u : Int, 0 ≤ u → bv (put L (v : Int) false) u = bv L u := fun u hu => by
        rw [hput _ u hu]
        by_cases e : u = (v : Int)
        · rw [if_pos e, e, hf]
        · rw [if_neg e]
      refine ⟨_, rfl, by rw [put_length]; exact h1, τ, T, fun u hu hu2 h => ?_⟩
      rw [same u hu] at h
      refine ⟨(h2 u hu hu2 h).1, fun l hm h3 h4 => ?_⟩
      rw [same _ (hl l hm).f0]
      exact (h2 u hu hu2 h).2 l hm h3 h4
    | true =>
      have hfree := b2 rfl
      have up : ∀ u : Int, 0 ≤ u → bv L u = true → bv (put L (v : Int) true) u = true := fun u hu h => by
        rw [hput _ u hu]
        by_cases e : u = (v : Int)
        · rw [if_pos e]
        · rw [if_neg e]; exact h
      refine ⟨_, rfl, by rw [put_length]; exact h1, fun u => if u = (v : Int) then T else τ u, T + 1, fun u hu hu2 h => ?_⟩
      rw [hput _ u hu] at h
      have ne : ∀ u : Int, bv L u = true → u ≠ (v : Int) := fun u h e => hc (e ▸ h)
      by_cases e : u = (v : Int)
      · subst e
        refine ⟨by show (if (v : Int) = (v : Int) then T else _) < T + 1; rw [if_pos rfl]; omega, fun l hm h3 h4 => ?_⟩
        have h5 := hfree l hm h3 h4
        refine ⟨up _ (hl l hm).f0 h5, ?_⟩
        show (if l.From = (v : Int) then T else τ l.From) < (if (v : Int) = (v : Int) then T else τ (v : Int))
        rw [if_neg (ne _ h5), if_pos rfl]
        exact (h2 _ (hl l hm).f0 (hl l hm).f1 h5).1
      · rw [if_neg e] at h
        have h5 := h2 u hu hu2 h
        refine ⟨by show (if u = (v : Int) then T else τ u) < T + 1; rw [if_neg e]; omega, fun l hm h3 h4 => ?_⟩
        have h6 := h5.2 l hm h3 h4
        refine ⟨up _ (hl l hm).f0 h6.1, ?_⟩
        show (if l.From = (v : Int) then T else τ l.From) < (if u = (v : Int) then T else τ u)
        rw [if_neg (ne _ h6.1), if_neg e]
        exact h6.2
theorem contains_spec (L : List Bool) : ∃ b, mSlicesContains L false = some b ∧ (b = false → ∀ x ∈ L, x = true) := by
  have key : ∃ i, mSlicesIndex L false = some i ∧ ((¬ 0 ≤ i) → ∀ x ∈ L, x = true) := by
    unfold mSlicesIndex
    rcases forM_inv (body := mSlicesIndex_L39 L false) (fun k _ => ∀ (j : Nat) x, j < k → L[j]? = some x → x = true) (fun t => 0 ≤ t) L.length 0 () (fun j x h => absurd h (by omega)) (fun k u _ hk hi => by
      obtain ⟨x, x1, x2, x3⟩ := link_at (l := L) (k := k) (by omega)
      unfold mSlicesIndex_L39
      rw [x1, Option.bind_some]
      cases x with
      | false => exact .inr ⟨_, by rw [if_pos (by decide)], by omega⟩
      | true =>
        refine .inl ⟨(), by rw [if_neg (by decide)], fun j x hj h => ?_⟩
        by_cases e : j = k
        · subst e
          rw [x2] at h
          injection h with h
          exact h.symm
        · exact hi j x (by omega) h) with ⟨_, h1, h2⟩ | ⟨t, h1, h2⟩
    · rw [h1]
      refine ⟨_, rfl, fun _ x hx => ?_⟩
      obtain ⟨j, hj, rfl⟩ := List.getElem_of_mem hx
      exact h2 j _ (by omega) (List.getElem?_eq_getElem hj)
    · rw [h1]
      exact ⟨_, rfl, fun h => absurd h2 h⟩
  obtain ⟨i, h1, h2⟩ := key
  unfold mSlicesContains
  rw [h1, Option.bind_some]
  exact ⟨_, rfl, fun h => h2 (of_decide_eq_false h)⟩
theorem fault_spec (r : MendRound) : ∃ e, mFishref2RoundFault r = some e ∧ (e = 0 → RoundOk r) := by
  unfold mFishref2RoundFault
  rw [withinR_eq, Option.bind_some]
  by_cases hp : 1 ≤ r.Period ∧ r.Period ≤ 3600
  · rw [if_pos (decide_eq_true hp), withinR_eq, Option.bind_some]
    by_cases hn : 1 ≤ (r.Plan.length : Int) ∧ (r.Plan.length : Int) ≤ 8
    · rw [if_pos (decide_eq_true hn), Option.bind_some]
      by_cases hk : 24 < (r.Links.length : Int)
      · rw [if_pos (decide_eq_true hk)]
        exact ⟨_, rfl, fun h => by cases h⟩
      · rw [if_neg (by rw [decide_eq_false hk]; decide)]
        rcases forM_inv (body := mFishref2RoundFault_L1632 r) (fun k _ => ∀ v : Int, 0 ≤ v → v < (r.Plan.length : Int) → v < (k : Int) → 0 ≤ av r.Plan v ∧ av r.Plan v ≤ r.Period - 1) (fun e => e ≠ 0) r.Plan.length 0 () (fun v _ _ h => by omega) (fun k u _ hk' hi => by
          unfold mFishref2RoundFault_L1632
          rw [idx_av (l := r.Plan) (v := (k : Int)) (by omega) (by omega), Option.bind_some, chk_ok (by omega) (by omega), Option.bind_some, withinR_eq, Option.bind_some]
          by_cases hw : 0 ≤ av r.Plan (k : Int) ∧ av r.Plan (k : Int) ≤ r.Period - 1
          · rw [if_pos (decide_eq_true hw)]
            refine .inl ⟨(), rfl, fun v h0 h1 h2 => ?_⟩
            by_cases e : v = (k : Int)
            · subst e; exact hw
            · exact hi v h0 h1 (by omega)
          · rw [if_neg (by rw [decide_eq_false hw]; decide)]
            exact .inr ⟨_, rfl, by decide⟩) with ⟨_, h1, h2⟩ | ⟨e, h1, h2⟩
        · rw [h1, Option.bind_some]
          have hP : PlanOk r := ⟨hp.1, hp.2, by omega, by omega, by omega, fun v a b => h2 v a b (by omega)⟩
          show ∃ e, ((forM (mFishref2RoundFault_L1670 r) r.Links.length 0 ()).bind _) = some e ∧ _
          rcases forM_inv (body := mFishref2RoundFault_L1670 r) (fun k _ => ∀ (j : Nat) l, j < k → r.Links[j]? = some l → LinkOk r l ∧ 0 ≤ sg r l) (fun e => e ≠ 0) r.Links.length 0 () (fun j l h => absurd h (by omega)) (fun k u _ hk' hi => by
            obtain ⟨x, x1, x2, x3⟩ := link_at (l := r.Links) (k := k) (by omega)
            unfold mFishref2RoundFault_L1670
            rw [x1, Option.bind_some]
            have place : ∃ b, (if x.From < 0 then some true else if (r.Plan.length : Int) ≤ x.From then some true else if x.To < 0 then some true else some (decide ((r.Plan.length : Int) ≤ x.To))) = some b ∧ (b = false → 0 ≤ x.From ∧ x.From < (r.Plan.length : Int) ∧ 0 ≤ x.To ∧ x.To < (r.Plan.length : Int)) := by
              by_cases c1 : x.From < 0
              · exact ⟨true, by rw [if_pos c1], fun h => by cases h⟩
              · by_cases c2 : (r.Plan.length : Int) ≤ x.From
                · exact ⟨true, by rw [if_neg c1, if_pos c2], fun h => by cases h⟩
                · by_cases c3 : x.To < 0
                  · exact ⟨true, by rw [if_neg c1, if_neg c2, if_pos c3], fun h => by cases h⟩
                  · exact ⟨_, by rw [if_neg c1, if_neg c2, if_neg c3], fun h => by have := of_decide_eq_false h; omega⟩
            obtain ⟨b, p1, p2⟩ := place
            rw [p1, Option.bind_some]
            cases b with
            | true => exact .inr ⟨3, by rw [if_pos rfl], by decide⟩
            | false =>
              rw [if_neg (by decide), withinR_eq, Option.bind_some]
              obtain ⟨q1, q2, q3, q4⟩ := p2 rfl
              by_cases c1 : 0 ≤ x.Len ∧ x.Len ≤ 28800
              · rw [if_pos (decide_eq_true c1), withinR_eq, Option.bind_some, Option.bind_some]
                by_cases c2 : 0 ≤ x.Back ∧ x.Back ≤ 3
                · rw [decide_eq_true c2, if_neg (by decide)]
                  have hL : LinkOk r x := ⟨q1, q2, q3, q4, c1.1, c1.2, c2.1, c2.2⟩
                  rw [slackR_ok hP hL, Option.bind_some]
                  by_cases c3 : sg r x < 0
                  · exact .inr ⟨13, by rw [if_pos c3], by decide⟩
                  · refine .inl ⟨(), by rw [if_neg c3], fun j l hj h => ?_⟩
                    by_cases e : j = k
                    · subst e
                      rw [x2] at h
                      injection h with h
                      subst h
                      exact ⟨hL, by omega⟩
                    · exact hi j l (by omega) h
                · rw [decide_eq_false c2, if_pos (by decide)]
                  exact .inr ⟨2, rfl, by decide⟩
              · rw [if_neg (by rw [decide_eq_false c1]; decide), Option.bind_some, if_pos rfl]
                exact .inr ⟨2, rfl, by decide⟩) with ⟨_, h3, h4⟩ | ⟨e, h3, h4⟩
          · rw [h3, Option.bind_some]
            have hl : ∀ l ∈ r.Links, LinkOk r l ∧ 0 ≤ sg r l := fun l hm => by
              obtain ⟨j, hj, rfl⟩ := List.getElem_of_mem hm
              exact h4 j _ (by omega) (List.getElem?_eq_getElem hj)
            show ∃ e, ((mkLen 1 (r.Plan.length : Int)).bind _) = some e ∧ _
            rw [mkLen_ok (by omega) (by omega), Option.bind_some]
            obtain ⟨L, g1, g2⟩ := forS_inv (body := mFishref2RoundFault_L1768 r) (fun _ L => Left r L) r.Plan.length 0 (List.replicate r.Plan.length false) ⟨List.length_replicate, fun _ => 0, 0, fun v a b h => by rw [bv_rep a b] at h; cases h⟩ (fun k L _ _ hi => by
              unfold mFishref2RoundFault_L1768
              obtain ⟨L', e1, e2⟩ := forS_inv (body := mFishref2RoundFault_L2743 r) (fun _ L => Left r L) r.Plan.length 0 L hi (fun k L _ hk hi => left_step (fun l hm => (hl l hm).1) hi (by omega))
              rw [e1]
              exact ⟨_, rfl, e2⟩)
            rw [g1, Option.bind_some]
            obtain ⟨b, e1, e2⟩ := contains_spec L
            rw [e1, Option.bind_some]
            cases b with
            | true => exact ⟨5, by rw [if_pos rfl], fun h => by cases h⟩
            | false =>
              rw [if_neg (by decide)]
              refine ⟨0, rfl, fun _ => ?_⟩
              obtain ⟨l1, τ, T, hτ⟩ := g2
              have hall := e2 rfl
              refine ⟨hP, fun l hm => (hl l hm).1, fun l hm => (hl l hm).2, τ, fun l hm h0 => ?_⟩
              have ht := (hl l hm).1
              have hb : bv L l.To = true := by
                unfold bv
                rw [List.getD_eq_getElem?_getD, List.getElem?_eq_getElem (by have := ht.t0; have := ht.t1; omega)]
                exact hall _ (List.getElem_mem _)
              exact ((hτ l.To ht.t0 ht.t1 hb).2 l hm h0 rfl).2
          · rw [h3, Option.bind_some]
            exact ⟨e, rfl, fun h => absurd h h4⟩
        · rw [h1, Option.bind_some]
          exact ⟨e, rfl, fun h => absurd h h2⟩
    · rw [if_neg (by rw [decide_eq_false hn]; decide), Option.bind_some, if_pos rfl]
      exact ⟨_, rfl, fun h => by cases h⟩
  · rw [if_neg (by rw [decide_eq_false hp]; decide)]
    exact ⟨_, rfl, fun h => by cases h⟩
end
end Go.Proofs.Ytakehdnblmonlaa
