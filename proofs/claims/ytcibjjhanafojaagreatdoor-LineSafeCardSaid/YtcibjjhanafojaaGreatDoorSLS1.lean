/- Plain: needs that meet; the overlap of a route. -/
import Derived.Test.YtcibjjhanafojaaGreatDoorSLR2
set_option linter.unusedVariables false
set_option linter.unusedSimpArgs false
namespace Go.Proofs.YtcibjjhanafojaaGreatDoor
open Go.RowKit Go.Fp

theorem any_of {α : Type} {l : List α} {body : Nat → Unit → Option (Unit ⊕ Int)} (P : α → Prop) [DecidablePred P] [Decidable (∃ x ∈ l, P x)] (h : ∀ k (hk : k < l.length), body k () = some (if P l[k] then .inr (k : Int) else .inl ())) :
    ((forM body l.length 0 ()).bind fun t => Sum.elim (fun _ => some (-1)) (fun q => some q) t).bind (fun x => some (decide (0 ≤ x))) = some (decide (∃ x ∈ l, P x)) := by
  rcases forU (body := body) (fun k => ∀ h : k < l.length, ¬ P l[k]) (fun v => 0 ≤ v ∧ ∃ x ∈ l, P x) l.length (fun k hk => by
    rw [h k hk]
    by_cases c : P l[k]
    · rw [if_pos c]
      exact .inr ⟨_, rfl, by omega, _, List.getElem_mem hk, c⟩
    · rw [if_neg c]
      exact .inl ⟨rfl, fun _ => c⟩) with ⟨h1, h2⟩ | ⟨v, h1, h2, h3⟩
  · rw [h1]
    show some (decide ((0 : Int) ≤ -1)) = _
    rw [decide_eq_false (by decide), decide_eq_false (fun ⟨s, hs, e⟩ => by
      obtain ⟨j, hj, rfl⟩ := List.getElem_of_mem hs
      exact h2 j hj hj e)]
  · rw [h1]
    show some (decide (0 ≤ v)) = _
    rw [decide_eq_true h2, decide_eq_true h3]
theorem pass4 {α β γ δ τ : Type} {A : α → β → γ → δ → Option τ} {x : α} {y : β} {z : γ} {w : δ} : (some (x, y, z, w)).bind (unc4 A) = A x y z w := rfl
def Body (x : ApiNeed) : Prop := x.Kind = 1 ∨ x.Kind = 2
def Fl (x y : ApiNeed) : Prop := x.Kind = 3 ∧ (y.Kind = 3 ∨ Body y) ∧ x.Position ≠ y.Position
def Gd (x y : ApiNeed) : Prop := x.Kind = 4 ∧ y.Kind = 5
/-- Two needs cannot be held at one time. -/
def Meet (a b : ApiNeed) : Prop := a.Place = b.Place ∧ (Body a ∧ Body b ∨ Fl a b ∨ Fl b a ∨ Gd a b ∨ Gd b a)
theorem meet_sym {a b : ApiNeed} (h : Meet a b) : Meet b a := by
  refine ⟨h.1.symm, ?_⟩
  rcases h.2 with ⟨x, y⟩ | h | h | h | h
  · exact .inl ⟨y, x⟩
  · exact .inr (.inr (.inl h))
  · exact .inr (.inl h)
  · exact .inr (.inr (.inr (.inr h)))
  · exact .inr (.inr (.inr (.inl h)))
noncomputable instance (x : ApiNeed) : Decidable (Body x) := Classical.propDecidable _
noncomputable instance (x y : ApiNeed) : Decidable (Fl x y) := Classical.propDecidable _
noncomputable instance (x y : ApiNeed) : Decidable (Gd x y) := Classical.propDecidable _
noncomputable instance (x y : ApiNeed) : Decidable (Meet x y) := Classical.propDecidable _
theorem body_eq (x : ApiNeed) : mLineMeets_1 x = some (decide (Body x)) := by
  unfold mLineMeets_1
  by_cases h : x.Kind = 1
  · rw [if_pos h, Option.bind_some, decide_eq_true (show Body x from .inl h)]
  · rw [if_neg h, Option.bind_some]
    congr 1
    exact decide_eq_decide.2 ⟨fun k => (.inr k : Body x), fun k => Or.resolve_left k h⟩
theorem fl_eq (x y : ApiNeed) : mLineMeets_2 x y = some (decide (Fl x y)) := by
  unfold mLineMeets_2
  by_cases h : x.Kind = 3
  · rw [if_pos h]
    by_cases h2 : y.Kind = 3
    · rw [if_pos h2, Option.bind_some]
      congr 1
      exact decide_eq_decide.2 ⟨fun k => (⟨h, .inl h2, k⟩ : Fl x y), fun k => k.2.2⟩
    · rw [if_neg h2, body_eq, Option.bind_some]
      by_cases h3 : Body y
      · rw [decide_eq_true h3, if_pos rfl, Option.bind_some]
        congr 1
        exact decide_eq_decide.2 ⟨fun k => (⟨h, .inr h3, k⟩ : Fl x y), fun k => k.2.2⟩
      · rw [decide_eq_false h3, if_neg (by decide), Option.bind_some, decide_eq_false (fun k : Fl x y => k.2.1.elim h2 h3)]
  · rw [if_neg h, Option.bind_some, decide_eq_false (fun k : Fl x y => h k.1)]
theorem gd_eq (x y : ApiNeed) : mLineMeets_3 x y = some (decide (Gd x y)) := by
  unfold mLineMeets_3
  by_cases h : x.Kind = 4
  · rw [if_pos h, Option.bind_some]
    congr 1
    exact decide_eq_decide.2 ⟨fun k => (⟨h, k⟩ : Gd x y), fun k => k.2⟩
  · rw [if_neg h, Option.bind_some, decide_eq_false (fun k : Gd x y => h k.1)]
theorem meets_eq (a b : ApiNeed) : mLineMeets a b = some (decide (Meet a b)) := by
  have tail : ((mLineMeets_2 a b).bind fun x149 => if x149 = true then some true else (mLineMeets_2 b a).bind fun x154 => if x154 = true then some true else (mLineMeets_3 a b).bind fun x159 => if x159 = true then some true else (mLineMeets_3 b a).bind fun x162 => some x162) = some (decide (Fl a b ∨ Fl b a ∨ Gd a b ∨ Gd b a)) := by
    rw [fl_eq, Option.bind_some]
    by_cases h1 : Fl a b
    · rw [decide_eq_true h1, if_pos rfl, decide_eq_true (Or.inl h1)]
    · rw [decide_eq_false h1, if_neg (by decide), fl_eq, Option.bind_some]
      by_cases h2 : Fl b a
      · rw [decide_eq_true h2, if_pos rfl, decide_eq_true (Or.inr (Or.inl h2))]
      · rw [decide_eq_false h2, if_neg (by decide), gd_eq, Option.bind_some]
        by_cases h3 : Gd a b
        · rw [decide_eq_true h3, if_pos rfl, decide_eq_true (Or.inr (Or.inr (Or.inl h3)))]
        · rw [decide_eq_false h3, if_neg (by decide), gd_eq, Option.bind_some]
          congr 1
          exact decide_eq_decide.2 ⟨fun k => .inr (.inr (.inr k)), fun k => ((k.resolve_left h1).resolve_left h2).resolve_left h3⟩
  unfold mLineMeets
  by_cases hp : a.Place = b.Place
  · rw [if_neg (by simpa using hp), body_eq, Option.bind_some]
    by_cases ha : Body a
    · rw [decide_eq_true ha, if_pos rfl, body_eq, Option.bind_some]
      by_cases hb : Body b
      · rw [decide_eq_true hb, if_pos rfl, Option.bind_some, decide_eq_true (show Meet a b from ⟨hp, .inl ⟨ha, hb⟩⟩)]
      · rw [decide_eq_false hb, if_neg (by decide), tail, Option.bind_some]
        congr 1
        exact decide_eq_decide.2 ⟨fun k => (⟨hp, .inr k⟩ : Meet a b), fun k => k.2.resolve_left (fun h => hb h.2)⟩
    · rw [decide_eq_false ha, if_neg (by decide), tail, Option.bind_some]
      congr 1
      exact decide_eq_decide.2 ⟨fun k => (⟨hp, .inr k⟩ : Meet a b), fun k => k.2.resolve_left (fun h => ha h.1)⟩
  · rw [if_pos hp, decide_eq_false (fun k : Meet a b => hp k.1)]
theorem meet1_eq (a : ApiNeed) (m : List ApiNeed) : mLineMeet_1 a m = some (decide (∃ y ∈ m, Meet a y)) := by
  unfold mLineMeet_1 mSlicesContainsFunc_4 mSlicesIndexFunc_4
  rw [any_of (fun y => Meet a y) (fun k hk => by
    unfold mSlicesIndexFunc_4_L51 mLineMeet_1_1
    rw [idx_lt hk, Option.bind_some, meets_eq, Option.bind_some, Option.bind_some]
    by_cases c : Meet a m[k]
    · rw [if_pos (decide_eq_true c), if_pos c]
    · rw [if_neg (by simpa using c), if_neg c]), Option.bind_some]
theorem meet_eq (l m : List ApiNeed) : mLineMeet l m = some (decide (∃ x ∈ l, ∃ y ∈ m, Meet x y)) := by
  unfold mLineMeet mSlicesContainsFunc_3 mSlicesIndexFunc_3
  rw [any_of (fun x => ∃ y ∈ m, Meet x y) (fun k hk => by
    unfold mSlicesIndexFunc_3_L51
    rw [idx_lt hk, Option.bind_some, meet1_eq, Option.bind_some]
    by_cases c : ∃ y ∈ m, Meet l[k] y
    · rw [if_pos (decide_eq_true c), if_pos c]
    · rw [if_neg (by simpa using c), if_neg c]), Option.bind_some]
theorem sig_at {n : ApiNet} {r : ApiRoute} (h : RouteOk n r) (ht : ¬ r.To < 0) : 0 ≤ r.To ∧ r.To < (n.Signals.length : Int) := by
  obtain ⟨w, s, _, _, hto, _⟩ := h.last
  rcases (signal_spec n (outE s)).2 with e | ⟨k, hk, e, _⟩ <;> omega
/-- The overlap comes to an end. -/
theorem overlap_spec {n : ApiNet} (hN : NetOk n) {r : ApiRoute} (h : RouteOk n r) : ∃ l, mLineOverlap n r = some l ∧ l.length ≤ 50 ∧ ∀ s ∈ l, StepOk n s := by
  unfold mLineOverlap
  by_cases ht : r.To < 0
  · rw [if_pos ht]
    exact ⟨[], rfl, by simp, fun s hs => (List.not_mem_nil hs).elim⟩
  · rw [if_neg ht, idx_sig (sig_at h ht), Option.bind_some, Option.bind_some, Option.bind_some]
    simp only [unc2]
    obtain ⟨l, h1, h2⟩ := loopM_inv (step := mLineOverlap_L1575 n r) (fun S => ∃ d x y l, S = (d, x, y, l) ∧ 0 ≤ d ∧ d ≤ 5000 ∧ 10 * (l.length : Int) ≤ d ∧ (l.length : Int) ≤ 50 ∧ (d < 50 → (l.length : Int) ≤ 4) ∧ ∀ s ∈ l, StepOk n s) (fun l => l.length ≤ 50 ∧ ∀ s ∈ l, StepOk n s) (fun S => (50 - S.1).toNat) (fun S ⟨d, x, y, l, hS, h0, h9, h1, h2, h3, h4⟩ => by
      subst hS
      unfold mLineOverlap_L1575
      simp only [unc4]
      by_cases c : d < 50
      · rw [if_pos c]
        obtain ⟨ws, g1, _, g2⟩ := walk_spec hN (⟨x, y⟩ : LineEnd)
        rw [g1, Option.bind_some]
        cases ws with
        | nil =>
          refine .inr ⟨l, ?_, by omega, h4⟩
          rfl
        | cons s ws =>
          have e1 : (forL mLineOverlap_L1918 (s :: ws) ()).bind (fun t => Sum.elim (fun _ => some (0, 0, 0, false)) (fun q => some q) t) = some (s.Section, s.In, s.Out, true) := rfl
          obtain ⟨_, hs⟩ := g2 s (List.mem_cons_self ..)
          rw [e1, pass4]
          have hf := idx_sig (n := n) h.from_
          obtain ⟨q, hq⟩ : ∃ q, (if true = true then (mLineStands r.Steps s.Section).bind fun x1989 => if x1989 = true then some true else (mLineStands l s.Section).bind fun x1992 => if x1992 = true then some true else (idx n.Signals r.From).bind fun x1995 => some (decide (s.Section = x1995.Section)) else some true) = some q := by
            rw [if_pos rfl, stands_eq, Option.bind_some]
            split
            · exact ⟨_, rfl⟩
            · rw [stands_eq, Option.bind_some]
              split
              · exact ⟨_, rfl⟩
              · rw [hf, Option.bind_some]
                exact ⟨_, rfl⟩
          rw [hq, Option.bind_some]
          by_cases cq : q = true
          · rw [if_pos cq]
            exact .inr ⟨l, rfl, by omega, h4⟩
          · have hsec : n.Sections[s.Section.toNat]? = some (sec n s.Section) := by
              have hh := hs.1.1
              unfold sec
              rw [List.getElem?_eq_getElem (by have := hh.1; have := hh.2; simp only at *; omega)]
              rfl
            have hlen := (hN.secs _ (List.mem_of_getElem? hsec)).len
            have i1 := idx_sec (n := n) hs.1.1
            simp only at i1
            rw [if_neg cq, room_ok (by omega) (by omega), Option.bind_some, i1, Option.bind_some, chk_ok (by omega) (by omega), Option.bind_some]
            refine .inl ⟨_, rfl, ⟨_, _, _, _, rfl, by omega, by omega, ?_, ?_, ?_, fun t ht => ?_⟩, ?_⟩
            · rw [List.length_append, List.length_singleton]; push_cast; omega
            · rw [List.length_append, List.length_singleton]; push_cast; omega
            · intro hd
              rw [List.length_append, List.length_singleton]; push_cast; omega
            · rcases List.mem_append.1 ht with ht | ht
              · exact h4 t ht
              · rw [List.mem_singleton.1 ht]; exact hs
            · show (50 - (d + (sec n s.Section).Length)).toNat < (50 - d).toNat
              omega
      · rw [if_neg c]
        exact .inr ⟨l, rfl, by omega, h4⟩) (0, (sigE n r.To).section_, (sigE n r.To).end_, []) ⟨_, _, _, _, rfl, by decide, by decide, by simp, by simp, by simp, fun s hs => (List.not_mem_nil hs).elim⟩
    rw [h1, Option.bind_some]
    exact ⟨l, rfl, h2⟩
end Go.Proofs.YtcibjjhanafojaaGreatDoor
