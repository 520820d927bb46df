/- Plain: what the models of fleet.Inspect and of its reference answer. -/
import Derived.Test.YtajmocgpjkhjlaaL7
set_option linter.unusedVariables false
set_option linter.unusedSimpArgs false
namespace Go.Proofs.Ytajmocgpjkhjlaa
open Go.RowKit Go.Fp

theorem idx_mem {α : Type} {l : List α} {v : Int} {t : α} (h : idx l v = some t) : t ∈ l := by
  obtain ⟨j, _, hj⟩ := idx_some h
  exact List.mem_of_getElem? hj
theorem follows_eq {a : FleetTask} (ha : OkTask a) (b : FleetTask) : mFleetFollows a b 0 = some (decide (b.From = a.To ∧ a.Arr ≤ b.Dep)) := by
  unfold mFleetFollows
  have := ha.2.2.2.1
  by_cases h : b.From = a.To
  · rw [if_pos h, Int.add_zero, chk_ok (by omega) (by omega)]
    simp [h]
  · rw [if_neg h]
    simp [h]
section
variable {l4 : List FleetTask} {l12 : List FleetSet}
theorem rowBody_eq (h40 : l4.length ≤ 40) (hT : ∀ t ∈ l4, OkTask t) (k : Nat) (x : List Int) (j : Nat) (u : Unit) : mFleetInspect_L2620 l4 l12 k x j u = mFishref2InspectOf_L1651 l4 l12 k x j u := by
  unfold mFleetInspect_L2620 mFishref2InspectOf_L1651
  cases hx : idx x (j : Int) with
  | none => rfl
  | some v =>
    simp only [Option.bind_some]
    rw [chk_ok (by omega) (by omega), Option.bind_some, within_eq, Option.bind_some]
    by_cases hv : 0 ≤ v ∧ v ≤ (l4.length : Int) - 1
    · obtain ⟨t, ht, _⟩ := idx_get (l := l4) hv.1 (by omega)
      rw [decide_eq_true hv, if_pos rfl, if_neg (show ¬ v < 0 by omega), Option.bind_some, decide_eq_false (show ¬ (l4.length : Int) ≤ v by omega), if_neg (show ¬ (false = true) by decide)]
      simp only [ht, Option.bind_some]
      by_cases j0 : (j : Int) = 0
      · rw [if_pos j0, if_pos j0]
        cases hs : idx l12 (k : Int) with
        | none => rfl
        | some s =>
          simp only [Option.bind_some]
          by_cases hh : t.From ≠ s.Home
          · simp [hh]
          · rw [if_neg hh, if_neg (show ¬ 0 < (j : Int) by omega)]
            simp [hh]
            simp at j0
            simp [j0]
      · rw [if_neg j0, if_neg j0, if_pos (show 0 < (j : Int) by omega)]
        simp only [Option.bind_some, Bool.false_eq_true, if_false]
        rw [if_pos (show 0 < (j : Int) by omega)]
        cases hc : chk ((j : Int) - 1) with
        | none => rfl
        | some c =>
          simp only [Option.bind_some]
          cases hw : idx x ((j : Int) - 1) with
          | none => rfl
          | some w =>
            simp only [Option.bind_some]
            cases hw2 : idx l4 w with
            | none => rfl
            | some tw =>
              simp only [Option.bind_some, follows_eq (hT tw (idx_mem hw2))]
              by_cases e1 : tw.To ≠ t.From
              · have : ¬ (t.From = tw.To ∧ tw.Arr ≤ t.Dep) := fun q => e1 q.1.symm
                simp [this, e1]
              · have e1' : tw.To = t.From := by
                  by_cases q : tw.To = t.From
                  · exact q
                  · exact absurd q e1
                by_cases e2 : t.Dep < tw.Arr
                · have : ¬ (t.From = tw.To ∧ tw.Arr ≤ t.Dep) := fun q => by omega
                  simp [this, e1', e2]
                · have : t.From = tw.To ∧ tw.Arr ≤ t.Dep := ⟨e1'.symm, by omega⟩
                  rw [decide_eq_true this, if_neg e1, decide_eq_false e2]
                  rfl
    · rw [decide_eq_false hv, if_neg (by decide)]
      have : (if v < 0 then some true else some (decide ((l4.length : Int) ≤ v))) = some true := by
        split
        · rfl
        · rw [decide_eq_true (by omega)]
      rw [this, Option.bind_some, if_pos rfl]
theorem row_spec (h40 : l4.length ≤ 40) (hT : ∀ t ∈ l4, OkTask t) {k : Nat} (hk : k < l12.length) (x : List Int) :
    (forM (mFishref2InspectOf_L1651 l4 l12 k x) x.length 0 () = some (.inl ()) ∧ RowOk l4 x) ∨ ∃ c, c ≠ 0 ∧ forM (mFishref2InspectOf_L1651 l4 l12 k x) x.length 0 () = some (.inr (.inr (c, []))) := by
  rcases forM_inv (body := mFishref2InspectOf_L1651 l4 l12 k x)
    (fun j _ => (∀ (i : Nat) (v : Int), i < j → x[i]? = some v → ∃ t, idx l4 v = some t ∧ OkTask t ∧ (i : Int) < t.Arr))
    (fun r => ∃ c, c ≠ 0 ∧ r = .inr (c, [])) x.length 0 () (fun i v hi => by omega) (fun j _ _ hj hi => by
      have hj' : j < x.length := by omega
      have bad : ∀ {α : Type} (c : Int), c ≠ 0 → (∃ s', (some (Sum.inr (Sum.inr (c, []))) : Option (Unit ⊕ (Unit ⊕ (Int × List (List Int))))) = some (.inl s') ∧ (∀ (i : Nat) (v : Int), i < j + 1 → x[i]? = some v → ∃ t, idx l4 v = some t ∧ OkTask t ∧ (i : Int) < t.Arr)) ∨ ∃ t, (some (Sum.inr (Sum.inr (c, []))) : Option (Unit ⊕ (Unit ⊕ (Int × List (List Int))))) = some (.inr t) ∧ ∃ c, c ≠ 0 ∧ t = .inr (c, []) := fun c hc => .inr ⟨_, rfl, c, hc, rfl⟩
      unfold mFishref2InspectOf_L1651
      rw [idx_lt hj', Option.bind_some]
      by_cases hv : 0 ≤ x[j] ∧ x[j] < (l4.length : Int)
      · obtain ⟨t, ht, _⟩ := idx_get (l := l4) hv.1 hv.2
        have okt := hT t (idx_mem ht)
        rw [if_neg (show ¬ x[j] < 0 by omega), Option.bind_some, decide_eq_false (show ¬ (l4.length : Int) ≤ x[j] by omega), if_neg (by decide)]
        simp only [ht, idx_lt hk, Option.bind_some]
        have fin : (j : Int) < t.Arr → (∃ s', (some (Sum.inl ()) : Option (Unit ⊕ (Unit ⊕ (Int × List (List Int))))) = some (.inl s') ∧ (∀ (i : Nat) (v : Int), i < j + 1 → x[i]? = some v → ∃ t, idx l4 v = some t ∧ OkTask t ∧ (i : Int) < t.Arr)) ∨ ∃ t, (some (Sum.inl ()) : Option (Unit ⊕ (Unit ⊕ (Int × List (List Int))))) = some (.inr t) ∧ ∃ c, c ≠ 0 ∧ t = .inr (c, []) := fun ha =>
          .inl ⟨(), rfl, fun i v hi2 hv2 => by
            by_cases e : i = j
            · subst e
              rw [List.getElem?_eq_getElem hj'] at hv2
              injection hv2 with hv2
              subst hv2
              exact ⟨t, ht, okt, ha⟩
            · exact hi i v (by omega) hv2⟩
        by_cases j0 : (j : Int) = 0
        · rw [if_pos j0, Option.bind_some]
          by_cases hh : t.From ≠ (l12[k]).Home
          · rw [decide_eq_true hh, if_pos rfl]
            exact .inr ⟨_, rfl, 13, by decide, rfl⟩
          · rw [decide_eq_false hh, if_neg (by decide), if_neg (show ¬ 0 < (j : Int) by omega)]
            refine fin ?_
            have := okt.2.2.2.2.1
            have := okt.2.2.1
            omega
        · rw [if_neg j0, Option.bind_some, if_neg (by decide), if_pos (show 0 < (j : Int) by omega)]
          obtain ⟨q, rfl⟩ : ∃ q, j = q + 1 := ⟨j - 1, by omega⟩
          have e0 : ((q + 1 : Nat) : Int) - 1 = (q : Int) := by omega
          obtain ⟨tw, w1, w2, w3⟩ := hi q (x[q]'(by omega)) (by omega) (List.getElem?_eq_getElem (by omega))
          have := w2.2.2.2.1
          rw [e0, chk_ok (by omega) (by omega), Option.bind_some, idx_lt (show q < x.length by omega), Option.bind_some, w1, Option.bind_some]
          by_cases e1 : tw.To ≠ t.From
          · rw [if_pos e1, Option.bind_some, if_pos rfl]
            exact .inr ⟨_, rfl, 13, by decide, rfl⟩
          · rw [if_neg e1, Option.bind_some]
            by_cases e2 : t.Dep < tw.Arr
            · rw [decide_eq_true e2, if_pos rfl]
              exact .inr ⟨_, rfl, 13, by decide, rfl⟩
            · rw [decide_eq_false e2, if_neg (by decide)]
              refine fin ?_
              have := okt.2.2.2.2.1
              omega
      · have : (if x[j] < 0 then some true else some (decide ((l4.length : Int) ≤ x[j]))) = some true := by
          split
          · rfl
          · rw [decide_eq_true (by omega)]
        rw [this, Option.bind_some, if_pos rfl]
        exact .inr ⟨_, rfl, 2, by decide, rfl⟩) with ⟨q, e1, e2⟩ | ⟨r, e1, c, hc, rfl⟩
  · refine .inl ⟨e1, ?_, fun i v hv => ?_⟩
    · by_cases h0 : x.length = 0
      · omega
      · obtain ⟨t, _, t2, t3⟩ := e2 (x.length - 1) _ (by omega) (List.getElem?_eq_getElem (show x.length - 1 < x.length by omega))
        have := t2.2.2.2.1
        omega
    · obtain ⟨t, t1, t2, _⟩ := e2 i v (by have := (List.getElem?_eq_some_iff.1 hv).1; omega) hv
      exact ⟨t, t1, t2⟩
  · exact .inr ⟨c, hc, e1⟩
theorem pass_eq (h40 : l4.length ≤ 40) (hT : ∀ t ∈ l4, OkTask t) (l8 : List (List Int)) : forM (mFleetInspect_L1819 l4 l8 l12) l8.length 0 () = forM (mFishref2InspectOf_L1172 l4 l8 l12) l8.length 0 () :=
  forM_congr (fun k u => by
    unfold mFleetInspect_L1819 mFishref2InspectOf_L1172
    cases idx l8 (k : Int) with
    | none => rfl
    | some x =>
      simp only [Option.bind_some]
      rw [forM_congr (fun j u => rowBody_eq h40 hT k x j u)]) _ _ _
theorem pass_spec (h40 : l4.length ≤ 40) (hT : ∀ t ∈ l4, OkTask t) (l8 : List (List Int)) (hl : l8.length = l12.length) :
    (forM (mFishref2InspectOf_L1172 l4 l8 l12) l8.length 0 () = some (.inl ()) ∧ ∀ k (h : k < l8.length), RowOk l4 l8[k]) ∨ ∃ c, c ≠ 0 ∧ forM (mFishref2InspectOf_L1172 l4 l8 l12) l8.length 0 () = some (.inr (c, [])) := by
  rcases forM_inv (body := mFishref2InspectOf_L1172 l4 l8 l12) (fun j _ => ∀ k (h : k < l8.length), k < j → RowOk l4 l8[k]) (fun r => ∃ c, c ≠ 0 ∧ r = (c, [])) l8.length 0 () (fun k _ hk => by omega) (fun j _ _ hj hi => by
    have hj' : j < l8.length := by omega
    unfold mFishref2InspectOf_L1172
    rw [idx_lt hj', Option.bind_some]
    rcases row_spec (l12 := l12) h40 hT (k := j) (by omega) l8[j] with ⟨e1, e2⟩ | ⟨c, hc, e1⟩
    · rw [e1]
      refine .inl ⟨(), rfl, fun k hk hkj => ?_⟩
      by_cases e : k = j
      · subst e; exact e2
      · exact hi k hk (by omega)
    · rw [e1]
      exact .inr ⟨_, rfl, c, hc, rfl⟩) with ⟨q, e1, e2⟩ | ⟨r, e1, c, hc, rfl⟩
  · exact .inl ⟨e1, fun k h => e2 k h (by omega)⟩
  · exact .inr ⟨c, hc, e1⟩
end

end Go.Proofs.Ytajmocgpjkhjlaa
