/- Plain: loops that may run out, checks, and what judge says of a duty. -/
import Derived.Test.YtnmhabgnfifkdaaX6
import Derived.Test.YtnmhabgnfifkdaaZD
set_option linter.unusedVariables false
set_option linter.unusedSimpArgs false
namespace Go.Proofs.Ytnmhabgnfifkdaa.Kept
open Go.RowKit Go.Fp

/- ---- loops that may run out (X says when) ---- -/
theorem forM_invX {σ τ : Type} {body : Nat → σ → Option (σ ⊕ τ)} (X : Prop) (I : Nat → σ → Prop) (Q : τ → Prop) : ∀ (m k : Nat) (s : σ), I k s → (∀ j s, k ≤ j → j < k + m → I j s → (body j s = none ∧ X) ∨ (∃ s', body j s = some (.inl s') ∧ I (j + 1) s') ∨ ∃ t, body j s = some (.inr t) ∧ Q t) →
    (forM body m k s = none ∧ X) ∨ (∃ s', forM body m k s = some (.inl s') ∧ I (k + m) s') ∨ ∃ t, forM body m k s = some (.inr t) ∧ Q t
  | 0, k, s, h0, _ => .inr (.inl ⟨s, rfl, h0⟩)
  | m + 1, k, s, h0, h => by
    rcases h k s (Nat.le_refl _) (by omega) h0 with ⟨h1, h2⟩ | ⟨s', h1, h2⟩ | ⟨t, h1, h2⟩
    · refine .inl ⟨?_, h2⟩
      show (match body k s with | none => none | some (.inl s') => forM body m (k + 1) s' | some (.inr t) => some (.inr t)) = _
      rw [h1]
    · rw [forM_succ_inl h1, show k + (m + 1) = k + 1 + m by omega]
      exact forM_invX X I Q m (k + 1) s' h2 (fun j t hj hj' hi => h j t (by omega) (by omega) hi)
    · rw [forM_succ_inr h1]
      exact .inr (.inr ⟨t, rfl, h2⟩)
theorem loopM_none {σ τ : Type} {step : σ → Option (σ ⊕ τ)} {s : σ} (h : step s = none) : loopM step s = none := by
  unfold loopM lim
  rw [dif_neg]
  rintro ⟨t, n, hn⟩
  cases n with
  | zero => cases hn
  | succ n =>
    have h' : (match step s with | none => none | some (.inl s') => Go.Fp.runN step n s' | some (.inr t) => some t) = some t := hn
    rw [h] at h'
    cases h'
theorem loopM_invX {σ τ : Type} {step : σ → Option (σ ⊕ τ)} (X : Prop) (I : σ → Prop) (Q : τ → Prop) (μ : σ → Nat) (h : ∀ s, I s → (step s = none ∧ X) ∨ (∃ s', step s = some (.inl s') ∧ I s' ∧ μ s' < μ s) ∨ ∃ t, step s = some (.inr t) ∧ Q t) (s : σ) (h0 : I s) : (loopM step s = none ∧ X) ∨ ∃ t, loopM step s = some t ∧ Q t := by
  generalize hn : μ s = n
  induction n using Nat.strongRecOn generalizing s with
  | _ n ih =>
    rcases h s h0 with ⟨h1, h2⟩ | ⟨s', h1, h2, h3⟩ | ⟨t, h1, h2⟩
    · exact .inl ⟨loopM_none h1, h2⟩
    · rw [loopM_next h1]
      exact ih (μ s') (by omega) s' h2 rfl
    · exact .inr ⟨t, loopM_last h1, h2⟩
theorem forM_rel {σ τ : Type} {b1 b2 : Nat → σ → Option (σ ⊕ τ)} (R : Nat → σ → σ → Prop) : ∀ (m k : Nat) (s s' : σ), R k s s' → (∀ j s s' t, k ≤ j → j < k + m → R j s s' → b1 j s = some (.inl t) → ∃ t', b2 j s' = some (.inl t') ∧ R (j + 1) t t') →
    ∀ t, forM b1 m k s = some (.inl t) → ∃ t', forM b2 m k s' = some (.inl t') ∧ R (k + m) t t'
  | 0, k, s, s', h0, _, t, ht => by
    injection ht with ht
    injection ht with ht
    subst ht
    exact ⟨s', rfl, h0⟩
  | m + 1, k, s, s', h0, h, t, ht => by
    have ht' : (match b1 k s with | none => none | some (.inl s') => forM b1 m (k + 1) s' | some (.inr t) => some (.inr t)) = some (.inl t) := ht
    cases h1 : b1 k s with
    | none => rw [h1] at ht'; cases ht'
    | some r =>
      cases r with
      | inr q => rw [h1] at ht'; cases ht'
      | inl u =>
        rw [h1] at ht'
        obtain ⟨u', h2, h3⟩ := h k s s' u (Nat.le_refl _) (by omega) h0 h1
        rw [forM_succ_inl h2, show k + (m + 1) = k + 1 + m by omega]
        exact forM_rel R m (k + 1) u u' h3 (fun j a b c hj hj' hr he => h j a b c (by omega) (by omega) hr he) t ht'

/- ---- checks ---- -/
theorem within_eq (x a b : Int) : mFleetWithin x a b = some (decide (a ≤ x ∧ x ≤ b)) := by
  unfold mFleetWithin
  by_cases h : a ≤ x <;> simp [h]
def OkTask (t : FleetTask) : Prop := (0 ≤ t.From ∧ t.From ≤ 11) ∧ (0 ≤ t.To ∧ t.To ≤ 11) ∧ (0 ≤ t.Dep ∧ t.Dep ≤ 28800) ∧ (0 ≤ t.Arr ∧ t.Arr ≤ 28800) ∧ t.Dep < t.Arr ∧ (0 ≤ t.Km ∧ t.Km ≤ 10000) ∧ (1 ≤ t.Units ∧ t.Units ≤ 4)
theorem taskBody (l : List FleetTask) (k : Nat) (h : k < l.length) : (mFleetCheckTasks_L128 l k () = some (.inl ()) ∧ OkTask l[k]) ∨ ∃ c, mFleetCheckTasks_L128 l k () = some (.inr c) ∧ (c ≠ 0 ∧ ¬ OkTask l[k]) := by
  unfold mFleetCheckTasks_L128 OkTask
  rw [idx_lt h]
  simp only [Option.bind_some, within_eq]
  generalize l[k] = t
  by_cases h1 : 0 ≤ t.From ∧ t.From ≤ 11
  · by_cases h2 : 0 ≤ t.To ∧ t.To ≤ 11
    · by_cases h3 : 0 ≤ t.Dep ∧ t.Dep ≤ 28800
      · by_cases h4 : 0 ≤ t.Arr ∧ t.Arr ≤ 28800
        · by_cases h5 : t.Arr ≤ t.Dep
          · exact .inr ⟨13, by simp [h1, h2, h3, h4, h5], by omega⟩
          · by_cases h6 : 0 ≤ t.Km ∧ t.Km ≤ 10000
            · by_cases h7 : 1 ≤ t.Units ∧ t.Units ≤ 4
              · exact .inl ⟨by simp [h1, h2, h3, h4, h5, h6, h7], by omega⟩
              · exact .inr ⟨2, by simp [h1, h2, h3, h4, h5, h6, h7], by omega⟩
            · exact .inr ⟨2, by simp [h1, h2, h3, h4, h5, h6], by omega⟩
        · exact .inr ⟨2, by simp [h1, h2, h3, h4], by omega⟩
      · exact .inr ⟨2, by simp [h1, h2, h3], by omega⟩
    · exact .inr ⟨2, by simp [h1, h2], by omega⟩
  · exact .inr ⟨2, by simp [h1], by omega⟩
theorem tasks_spec (l : List FleetTask) : ∃ c, mFleetCheckTasks l = some c ∧ (c = 0 ↔ l.length ≤ 40 ∧ ∀ t ∈ l, OkTask t) := by
  unfold mFleetCheckTasks
  by_cases h40 : 40 < (l.length : Int)
  · exact ⟨4, by rw [if_pos h40], by omega⟩
  rw [if_neg h40]
  rcases forM_inv (body := mFleetCheckTasks_L128 l) (fun k _ => ∀ j (h : j < l.length), j < k → OkTask l[j]) (fun c => c ≠ 0 ∧ ¬ ∀ t ∈ l, OkTask t) l.length 0 () (fun j _ hj => absurd hj (by omega)) (fun k s _ hk hi => by
    rcases taskBody l k (by omega) with ⟨h1, h2⟩ | ⟨c, h1, h2, h3⟩
    · refine .inl ⟨(), h1, fun j hj hjk => ?_⟩
      by_cases he : j = k
      · subst he; exact h2
      · exact hi j hj (by omega)
    · exact .inr ⟨c, h1, h2, fun hall => h3 (hall _ (List.getElem_mem _))⟩) with ⟨s, h1, h2⟩ | ⟨c, h1, h2, h3⟩
  · rw [h1]
    refine ⟨0, rfl, ⟨fun _ => ⟨by omega, fun t ht => ?_⟩, fun _ => rfl⟩⟩
    obtain ⟨j, hj, rfl⟩ := List.getElem_of_mem ht
    exact h2 j hj (by omega)
  · rw [h1]
    exact ⟨c, rfl, ⟨fun h => absurd h h2, fun h => absurd h.2 h3⟩⟩
def lims (s : FleetLimits) : List Int := [s.Change, s.Long, s.Work, s.After, s.Break, s.Rest]
def OkLim (s : FleetLimits) : Prop := (∀ x ∈ lims s, 0 ≤ x ∧ x ≤ 86400) ∧ 1 ≤ s.Row ∧ s.Row ≤ 7
theorem limits_spec (s : FleetLimits) : ∃ c, mFleetCheckLimits s = some c ∧ (c = 0 ↔ OkLim s) := by
  unfold mFleetCheckLimits
  have hl : (lims s).length = 6 := rfl
  rcases forM_inv (body := mFleetCheckLimits_L41 s) (fun k _ => ∀ j (h : j < (lims s).length), j < k → 0 ≤ (lims s)[j] ∧ (lims s)[j] ≤ 86400) (fun c => c ≠ 0 ∧ ¬ ∀ x ∈ lims s, 0 ≤ x ∧ x ≤ 86400) 6 0 () (fun j _ hj => absurd hj (by omega)) (fun k u _ hk hi => by
    have hk : k < (lims s).length := by omega
    unfold mFleetCheckLimits_L41
    rw [show [s.Change, s.Long, s.Work, s.After, s.Break, s.Rest] = lims s from rfl, idx_lt hk, Option.bind_some, within_eq, Option.bind_some]
    by_cases h : 0 ≤ (lims s)[k] ∧ (lims s)[k] ≤ 86400
    · rw [decide_eq_true h, if_pos rfl]
      refine .inl ⟨(), rfl, fun j hj hjk => ?_⟩
      by_cases he : j = k
      · subst he; exact h
      · exact hi j hj (by omega)
    · rw [decide_eq_false h, if_neg (by decide)]
      exact .inr ⟨2, rfl, by decide, fun hall => h (hall _ (List.getElem_mem _))⟩) with ⟨u, h1, h2⟩ | ⟨c, h1, h2, h3⟩
  · rw [h1, Option.bind_some]
    simp only [Sum.elim_inl]
    rw [within_eq, Option.bind_some]
    have hall : ∀ x ∈ lims s, 0 ≤ x ∧ x ≤ 86400 := fun x hx => by
      obtain ⟨j, hj, rfl⟩ := List.getElem_of_mem hx
      exact h2 j hj (by omega)
    by_cases h : 1 ≤ s.Row ∧ s.Row ≤ 7
    · rw [decide_eq_true h, if_pos rfl]
      exact ⟨0, rfl, ⟨fun _ => ⟨hall, h⟩, fun _ => rfl⟩⟩
    · rw [decide_eq_false h, if_neg (by decide)]
      exact ⟨2, rfl, ⟨fun h' => absurd h' (by decide), fun h' => absurd h'.2 h⟩⟩
  · rw [h1]
    exact ⟨c, rfl, ⟨fun h => absurd h h2, fun h => absurd h.1 h3⟩⟩
theorem both_spec (l : List FleetTask) (s : FleetLimits) : ∃ c, mFleetCheckTasks_2 l s = some c ∧ (c = 0 ↔ (l.length ≤ 40 ∧ ∀ t ∈ l, OkTask t) ∧ OkLim s) := by
  obtain ⟨c, h1, h2⟩ := tasks_spec l
  obtain ⟨d, h3, h4⟩ := limits_spec s
  unfold mFleetCheckTasks_2
  rw [h1, Option.bind_some]
  by_cases h : c = 0
  · rw [if_neg (by simp [h]), h3, Option.bind_some]
    exact ⟨d, rfl, ⟨fun hd => ⟨h2.1 h, h4.1 hd⟩, fun hb => h4.2 hb.2⟩⟩
  · rw [if_pos h]
    exact ⟨c, rfl, ⟨fun hc => absurd hc h, fun hb => absurd (h2.2 hb.1) h⟩⟩

/- ---- judge ---- -/
structure Ctx (l : List FleetTask) (s : FleetLimits) : Prop where
  n8 : l.length ≤ 8
  tasks : ∀ t ∈ l, OkTask t
  lim : OkLim s
def Val (l : List FleetTask) (i : Int) : Prop := 0 ≤ i ∧ i < (l.length : Int)
def tk (l : List FleetTask) (i : Int) : FleetTask := l.getD i.toNat ⟨0, 0, 0, 0, 0, 0⟩
theorem idx_tk {l : List FleetTask} {i : Int} (h : Val l i) : idx l i = some (tk l i) := by
  obtain ⟨x, h1, h2⟩ := idx_get h.1 h.2
  rw [h1]
  unfold tk
  rw [List.getD_eq_getElem?_getD, h2]
  rfl
theorem tk_mem {l : List FleetTask} {i : Int} (h : Val l i) : tk l i ∈ l := by
  obtain ⟨x, h1, h2⟩ := idx_get h.1 h.2
  unfold tk
  rw [List.getD_eq_getElem?_getD, h2]
  exact List.mem_of_getElem? h2
def FolT (s : FleetLimits) (a b : FleetTask) : Prop := b.From = a.To ∧ a.Arr + s.Change ≤ b.Dep
def Fol (l : List FleetTask) (s : FleetLimits) (a b : Int) : Prop := FolT s (tk l a) (tk l b)
def nb (s : FleetLimits) (p t : FleetTask) (b g : Int) : Int := if s.Break ≤ t.Dep - p.Arr then (if s.After < p.Arr - g then 4 else b) else b
def ng (s : FleetLimits) (p t : FleetTask) (g : Int) : Int := if s.Break ≤ t.Dep - p.Arr then t.Dep else g
/-- What a step of the loop does at a place that is not the first. -/
theorem judge_step {l : List FleetTask} {s : FleetLimits} (C : Ctx l s) {d : List Int} (hv : ∀ i ∈ d, Val l i) {k : Nat} (hk : k < d.length) (h0 : 0 < k) {w b g : Int} (hw : 0 ≤ w ∧ w ≤ 28800 * k) (hd : d.length ≤ 40) (hg : 0 ≤ g ∧ g ≤ 28800) :
    (¬ Fol l s (d[k - 1]'(by omega)) d[k] ∧ mFleetJudge_L603 l d s k (w, b, g) = some (.inr 1)) ∨
    (Fol l s (d[k - 1]'(by omega)) d[k] ∧ mFleetJudge_L603 l d s k (w, b, g) = some (.inl (w + ((tk l d[k]).Arr - (tk l d[k]).Dep), nb s (tk l (d[k - 1]'(by omega))) (tk l d[k]) b g, ng s (tk l (d[k - 1]'(by omega))) (tk l d[k]) g))) := by
  have hv1 := hv _ (List.getElem_mem hk)
  have hv0 := hv _ (List.getElem_mem (show k - 1 < d.length by omega))
  have o1 := C.tasks _ (tk_mem hv1)
  have o0 := C.tasks _ (tk_mem hv0)
  have hc : 0 ≤ s.Change ∧ s.Change ≤ 86400 := C.lim.1 _ (by simp [lims])
  unfold mFleetJudge_L603 Fol
  simp only [unc3]
  rw [idx_lt hk, Option.bind_some, idx_tk hv1, Option.bind_some]
  rw [show (k : Int) - 1 = ((k - 1 : Nat) : Int) by omega, idx_lt (show k - 1 < d.length by omega)]
  simp only [Option.bind_some]
  rw [idx_tk hv0]
  generalize tk l d[k] = t at *
  generalize tk l d[k - 1] = p at *
  unfold OkTask at o1 o0
  have hk40 : (k : Int) ≤ 40 := by omega
  rw [chk_ok (by omega) (by omega), Option.bind_some, chk_ok (by omega) (by omega), Option.bind_some, if_neg (by omega), chk_ok (by omega) (by omega), Option.bind_some, Option.bind_some]
  unfold FolT nb ng
  by_cases f1 : t.From = p.To
  · rw [if_neg (by simp [f1]), chk_ok (by omega) (by omega), Option.bind_some, Option.bind_some]
    by_cases f2 : t.Dep < p.Arr + s.Change
    · rw [decide_eq_true f2, if_pos rfl]
      exact .inl ⟨by omega, rfl⟩
    · rw [decide_eq_false f2, if_neg (by decide), chk_ok (by omega) (by omega), Option.bind_some]
      refine .inr ⟨⟨f1, by omega⟩, ?_⟩
      by_cases f3 : s.Break ≤ t.Dep - p.Arr
      · rw [if_pos f3, if_pos f3, if_pos f3]
        unfold mFleetJudge_1
        rw [chk_ok (by omega) (by omega), Option.bind_some]
        by_cases f4 : s.After < p.Arr - g
        · rw [if_pos f4, if_pos f4]
          rfl
        · rw [if_neg f4, if_neg f4]
          rfl
      · rw [if_neg f3, if_neg f3, if_neg f3]
  · rw [if_pos f1, Option.bind_some, if_pos rfl]
    exact .inl ⟨fun h => f1 h.1, rfl⟩
theorem judge_step0 {l : List FleetTask} {s : FleetLimits} (C : Ctx l s) {d : List Int} (hv : ∀ i ∈ d, Val l i) (hk : 0 < d.length) {w b g : Int} (hw : w = 0) :
    mFleetJudge_L603 l d s 0 (w, b, g) = some (.inl (w + ((tk l d[0]).Arr - (tk l d[0]).Dep), b, g)) := by
  have hv1 := hv _ (List.getElem_mem hk)
  have o1 := C.tasks _ (tk_mem hv1)
  unfold mFleetJudge_L603
  simp only [unc3]
  rw [idx_lt hk, Option.bind_some, idx_tk hv1, Option.bind_some]
  generalize tk l d[0] = t at *
  unfold OkTask at o1
  rw [chk_ok (by omega) (by omega), Option.bind_some, chk_ok (by omega) (by omega), Option.bind_some, if_pos (by simp)]
def JI (k : Nat) (w b g : Int) : Prop := (0 ≤ w ∧ w ≤ 28800 * (k : Int)) ∧ (b = 0 ∨ b = 4) ∧ (0 ≤ g ∧ g ≤ 28800)
theorem ji_next {l : List FleetTask} {s : FleetLimits} (C : Ctx l s) {d : List Int} (hv : ∀ i ∈ d, Val l i) {k : Nat} (hk : k < d.length) (h0 : 0 < k) {w b g : Int} (h : JI k w b g) :
    JI (k + 1) (w + ((tk l d[k]).Arr - (tk l d[k]).Dep)) (nb s (tk l (d[k - 1]'(by omega))) (tk l d[k]) b g) (ng s (tk l (d[k - 1]'(by omega))) (tk l d[k]) g) := by
  have hv1 := hv _ (List.getElem_mem hk)
  have o1 := C.tasks _ (tk_mem hv1)
  generalize tk l d[k] = t at *
  generalize tk l d[k - 1] = p at *
  unfold OkTask at o1
  obtain ⟨h1, h2, h3⟩ := h
  refine ⟨by omega, ?_, ?_⟩
  · unfold nb
    split
    · split
      · exact .inr rfl
      · exact h2
    · exact h2
  · unfold ng
    split
    · omega
    · exact h3
/-- The end of judge. -/
def fin (s : FleetLimits) (a z : FleetTask) (w b g : Int) : Int :=
  let x := if s.After < z.Arr - g then 4 else b
  if s.Long < z.Arr - a.Dep then 2 else if s.Work < w then 3 else if 0 < x then x else if z.To ≠ a.From then 5 else 0
theorem judge_eq {l : List FleetTask} {s : FleetLimits} (C : Ctx l s) {d : List Int} (hv : ∀ i ∈ d, Val l i) (hk : 0 < d.length) (hd : d.length ≤ 40) :
    mFleetJudge l d s = (forM (mFleetJudge_L603 l d s) d.length 0 ((0 : Int), (0 : Int), (tk l d[0]).Dep)).bind fun t => Sum.elim (unc3 fun w b g =>
      (chk ((tk l (d[d.length - 1]'(by omega))).Arr - g)).bind fun _ => some (fin s (tk l d[0]) (tk l (d[d.length - 1]'(by omega))) w b g)) (fun q => some q) t := by
  have hv0 := hv _ (List.getElem_mem hk)
  have hv1 := hv _ (List.getElem_mem (show d.length - 1 < d.length by omega))
  have o0 := C.tasks _ (tk_mem hv0)
  have o1 := C.tasks _ (tk_mem hv1)
  unfold mFleetJudge
  rw [show idx d 0 = some d[0] from idx_lt (j := 0) hk, Option.bind_some, idx_tk hv0, Option.bind_some, chk_ok (by omega) (by omega), Option.bind_some, show (d.length : Int) - 1 = ((d.length - 1 : Nat) : Int) by omega, idx_lt (by omega), Option.bind_some, idx_tk hv1, Option.bind_some, Option.bind_some]
  simp only [unc12]
  congr 1
  funext t
  cases t with
  | inr q => rfl
  | inl x =>
    obtain ⟨w, b, g⟩ := x
    simp only [Sum.elim_inl, unc3, mFleetJudge_1]
    generalize tk l d[0] = a at *
    generalize tk l d[d.length - 1] = z at *
    unfold OkTask at o0 o1
    cases hc : chk (z.Arr - g) with
    | none => rfl
    | some q =>
      simp only [Option.bind_some]
      unfold fin
      by_cases f1 : s.After < z.Arr - g
      · rw [if_pos f1, Option.bind_some, chk_ok (by omega) (by omega), Option.bind_some, if_pos f1]
        by_cases g1 : s.Long < z.Arr - a.Dep
        · rw [if_pos g1, if_pos g1]
        · rw [if_neg g1, if_neg g1]
          by_cases g2 : s.Work < w
          · rw [if_pos g2, if_pos g2]
          · rw [if_neg g2, if_neg g2, if_pos (by decide), if_pos (by decide)]
      · rw [if_neg f1, Option.bind_some, chk_ok (by omega) (by omega), Option.bind_some, if_neg f1]
        by_cases g1 : s.Long < z.Arr - a.Dep
        · rw [if_pos g1, if_pos g1]
        · rw [if_neg g1, if_neg g1]
          by_cases g2 : s.Work < w
          · rw [if_pos g2, if_pos g2]
          · rw [if_neg g2, if_neg g2]
            by_cases g3 : 0 < b
            · rw [if_pos g3, if_pos g3]
            · rw [if_neg g3, if_neg g3]
              by_cases g4 : z.To ≠ a.From
              · rw [if_pos g4, if_pos g4]
              · rw [if_neg g4, if_neg g4]
theorem judge_total {l : List FleetTask} {s : FleetLimits} (C : Ctx l s) {d : List Int} (hv : ∀ i ∈ d, Val l i) (hk : 0 < d.length) (hd : d.length ≤ 40) :
    ∃ c, mFleetJudge l d s = some c ∧ (c = 0 → ∀ k (h0 : 0 < k) (h : k < d.length), Fol l s (d[k - 1]'(by omega)) d[k]) := by
  rw [judge_eq C hv hk hd]
  have hv0 := hv _ (List.getElem_mem hk)
  have hv1 := hv _ (List.getElem_mem (show d.length - 1 < d.length by omega))
  have o0 := C.tasks _ (tk_mem hv0)
  have o1 := C.tasks _ (tk_mem hv1)
  rcases forM_inv (body := mFleetJudge_L603 l d s) (fun k x => (k = 0 → x = ((0 : Int), (0 : Int), (tk l d[0]).Dep)) ∧ JI k x.1 x.2.1 x.2.2 ∧ ∀ j (h0 : 0 < j) (h : j < d.length), j < k → Fol l s (d[j - 1]'(by omega)) d[j]) (fun c => c = 1) d.length 0 ((0 : Int), (0 : Int), (tk l d[0]).Dep) ⟨fun _ => rfl, ⟨by simp, .inl rfl, by unfold OkTask at o0; simp; omega⟩, fun j _ _ h => absurd h (by omega)⟩ (fun k x _ hk' hi => by
    obtain ⟨w, b, g⟩ := x
    obtain ⟨i0, i1, i2⟩ := hi
    have hk' : k < d.length := by omega
    by_cases h0 : k = 0
    · subst h0
      have e := i0 rfl
      simp only [Prod.mk.injEq] at e
      obtain ⟨e1, e2, e3⟩ := e
      refine .inl ⟨_, judge_step0 C hv hk e1, fun h => absurd h (by omega), ?_, fun j hj h h' => absurd h' (by omega)⟩
      unfold OkTask at o0
      subst e1 e2 e3
      exact ⟨by simp; omega, .inl rfl, by simp; omega⟩
    · rcases judge_step C hv hk' (by omega) i1.1 hd i1.2.2 (b := b) with ⟨_, h2⟩ | ⟨h1, h2⟩
      · exact .inr ⟨1, h2, rfl⟩
      · refine .inl ⟨_, h2, fun h => absurd h (by omega), ji_next C hv hk' (by omega) i1, fun j hj h h' => ?_⟩
        by_cases e : j = k
        · subst e; exact h1
        · exact i2 j hj h (by omega)) with ⟨x, h1, h2, h3, h4⟩ | ⟨t, h1, h2⟩
  · obtain ⟨w, b, g⟩ := x
    rw [h1, Option.bind_some]
    simp only [Sum.elim_inl, unc3]
    have := h3.2.2
    unfold OkTask at o1
    simp only at this
    rw [chk_ok (by omega) (by omega), Option.bind_some]
    exact ⟨_, rfl, fun _ k h0 h => h4 k h0 h (by omega)⟩
  · rw [h1]
    exact ⟨t, rfl, fun h => by rw [h2] at h; exact absurd h (by decide)⟩
structure Looser (s s' : FleetLimits) : Prop where
  change : s'.Change ≤ s.Change
  long : s.Long ≤ s'.Long
  work : s.Work ≤ s'.Work
  after : s.After ≤ s'.After
  brk : s'.Break = s.Break
theorem judge_mono {l : List FleetTask} {s s' : FleetLimits} (C : Ctx l s) (C' : Ctx l s') (L : Looser s s') {d : List Int} (hv : ∀ i ∈ d, Val l i) (hk : 0 < d.length) (hd : d.length ≤ 40) (h : mFleetJudge l d s = some 0) : mFleetJudge l d s' = some 0 := by
  rw [judge_eq C hv hk hd] at h
  rw [judge_eq C' hv hk hd]
  have hv0 := hv _ (List.getElem_mem hk)
  have hv1 := hv _ (List.getElem_mem (show d.length - 1 < d.length by omega))
  have o0 := C.tasks _ (tk_mem hv0)
  have o1 := C.tasks _ (tk_mem hv1)
  cases hf : forM (mFleetJudge_L603 l d s) d.length 0 ((0 : Int), (0 : Int), (tk l d[0]).Dep) with
  | none => rw [hf] at h; cases h
  | some r =>
    cases r with
    | inr q =>
      rcases judge_total C hv hk hd with ⟨c, hc, _⟩
      rw [judge_eq C hv hk hd, hf] at hc
      rw [hf] at h
      exfalso
      rcases forM_inv (body := mFleetJudge_L603 l d s) (fun k x => (k = 0 → x = ((0 : Int), (0 : Int), (tk l d[0]).Dep)) ∧ JI k x.1 x.2.1 x.2.2) (fun c => c = 1) d.length 0 ((0 : Int), (0 : Int), (tk l d[0]).Dep) ⟨fun _ => rfl, ⟨by simp, .inl rfl, by unfold OkTask at o0; simp; omega⟩⟩ (fun k x _ hk' hi => by
        obtain ⟨w, b, g⟩ := x
        obtain ⟨i0, i1⟩ := hi
        have hk' : k < d.length := by omega
        by_cases h0 : k = 0
        · subst h0
          have e := i0 rfl
          simp only [Prod.mk.injEq] at e
          obtain ⟨e1, e2, e3⟩ := e
          refine .inl ⟨_, judge_step0 C hv hk e1, fun h => absurd h (by omega), ?_⟩
          unfold OkTask at o0
          subst e1 e2 e3
          exact ⟨by simp; omega, .inl rfl, by simp; omega⟩
        · rcases judge_step C hv hk' (by omega) i1.1 hd i1.2.2 (b := b) with ⟨_, h2⟩ | ⟨h1, h2⟩
          · exact .inr ⟨1, h2, rfl⟩
          · exact .inl ⟨_, h2, fun h => absurd h (by omega), ji_next C hv hk' (by omega) i1⟩) with ⟨x, h1, _⟩ | ⟨t, h1, h2⟩
      · rw [hf] at h1; cases h1
      · rw [hf] at h1
        injection h1 with h1
        injection h1 with h1
        have h : some q = some (0 : Int) := h
        injection h with h
        rw [h1, h2] at h
        exact absurd h (by decide)
    | inl x =>
      obtain ⟨w, b, g⟩ := x
      obtain ⟨x', e1, e2⟩ := forM_rel (b1 := mFleetJudge_L603 l d s) (b2 := mFleetJudge_L603 l d s') (fun k x x' => (k = 0 → x = ((0 : Int), (0 : Int), (tk l d[0]).Dep)) ∧ JI k x.1 x.2.1 x.2.2 ∧ x'.1 = x.1 ∧ x'.2.2 = x.2.2 ∧ (x.2.1 = 0 → x'.2.1 = 0)) d.length 0 ((0 : Int), (0 : Int), (tk l d[0]).Dep) ((0 : Int), (0 : Int), (tk l d[0]).Dep) ⟨fun _ => rfl, ⟨by simp, .inl rfl, by unfold OkTask at o0; simp; omega⟩, rfl, rfl, fun h => h⟩ (fun k x x' t _ hk' hi ht => by
        obtain ⟨w, b, g⟩ := x
        obtain ⟨w', b', g'⟩ := x'
        obtain ⟨i0, i1, i2, i3, i4⟩ := hi
        simp only at i1 i2 i3 i4
        subst i2 i3
        have hk' : k < d.length := by omega
        by_cases h0 : k = 0
        · subst h0
          have e := i0 rfl
          simp only [Prod.mk.injEq] at e
          obtain ⟨e1, e2, e3⟩ := e
          rw [judge_step0 C hv hk e1] at ht
          injection ht with ht
          injection ht with ht
          subst ht
          refine ⟨_, judge_step0 C' hv hk e1, fun h => absurd h (by omega), ?_, rfl, rfl, i4⟩
          unfold OkTask at o0
          rw [e1, e2, e3]
          exact ⟨by simp; omega, .inl rfl, by simp; omega⟩
        · rcases judge_step C hv hk' (by omega) i1.1 hd i1.2.2 (b := b) with ⟨_, h2⟩ | ⟨h1, h2⟩
          · rw [h2] at ht; injection ht with ht; cases ht
          · rw [h2] at ht
            injection ht with ht
            injection ht with ht
            subst ht
            rcases judge_step C' hv hk' (by omega) i1.1 hd i1.2.2 (b := b') with ⟨h3, _⟩ | ⟨h3, h4⟩
            · refine absurd ?_ h3
              exact ⟨h1.1, Int.le_trans (Int.add_le_add_left L.change _) h1.2⟩
            · refine ⟨_, h4, fun h => absurd h (by omega), ji_next C hv hk' (by omega) i1, rfl, ?_, ?_⟩
              · unfold ng
                rw [L.brk]
              · unfold nb
                rw [L.brk]
                intro hz
                have := L.after
                split at hz
                · rename_i hbk
                  rw [if_pos hbk]
                  split at hz
                  · cases hz
                  · rw [if_neg (by omega)]
                    exact i4 hz
                · rename_i hbk
                  rw [if_neg hbk]
                  exact i4 hz) _ hf
      obtain ⟨w', b', g'⟩ := x'
      obtain ⟨_, i1, i2, i3, i4⟩ := e2
      simp only at i1 i2 i3 i4
      subst i2 i3
      rw [hf, Option.bind_some] at h
      rw [e1, Option.bind_some]
      simp only [Sum.elim_inl, unc3] at h ⊢
      have hg := i1.2.2
      unfold OkTask at o1
      rw [chk_ok (by omega) (by omega), Option.bind_some] at h ⊢
      injection h with h
      congr 1
      have := L.long
      have := L.work
      have := L.after
      generalize tk l (d[d.length - 1]'(by omega)) = z at *
      generalize tk l d[0] = a at *
      unfold fin at h ⊢
      simp only at h ⊢
      by_cases q1 : s.Long < z.Arr - a.Dep
      · rw [if_pos q1] at h
        exact absurd h (by decide)
      rw [if_neg q1] at h
      rw [if_neg (by omega)]
      by_cases q2 : s.Work < w'
      · rw [if_pos q2] at h
        exact absurd h (by decide)
      rw [if_neg q2] at h
      rw [if_neg (by omega)]
      by_cases hA : s.After < z.Arr - g'
      · rw [if_pos hA, if_pos (by decide)] at h
        exact absurd h (by decide)
      rw [if_neg hA] at h
      by_cases q3 : 0 < b
      · rw [if_pos q3] at h
        omega
      rw [if_neg q3] at h
      have hb : b = 0 := by rcases i1.2.1 with hb | hb <;> omega
      rw [if_neg (show ¬ s'.After < z.Arr - g' by omega), i4 hb, if_neg (by decide)]
      exact h
end Go.Proofs.Ytnmhabgnfifkdaa.Kept
