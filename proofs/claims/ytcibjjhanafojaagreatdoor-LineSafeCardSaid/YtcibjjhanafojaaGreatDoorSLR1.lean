/- Plain: the steps beyond an end; the routes of a net by what they keep. -/
import Derived.Test.YtcibjjhanafojaaGreatDoorSLL4
import Derived.KernelRfl
set_option linter.unusedVariables false
set_option linter.unusedSimpArgs false
namespace Go.Proofs.YtcibjjhanafojaaGreatDoor
open Go.RowKit Go.Fp

/-- What walk hands out. -/
theorem walk_spec {n : ApiNet} (hN : NetOk n) (e : LineEnd) : ∃ ws, mLineWalk n e = some ws ∧ ws.length ≤ 2 ∧ ∀ s ∈ ws, joinL n.Links e = some ⟨s.Section, s.In⟩ ∧ StepOk n s := by
  unfold mLineWalk
  rw [joined_eq]
  cases hj : joinL n.Links e with
  | none => exact ⟨[], rfl, by simp, fun s hs => by cases hs⟩
  | some f =>
    obtain ⟨x, hx, h⟩ := joinL_mem hj
    have hf : Has n f := by
      rcases h with ⟨_, h⟩ | ⟨_, h⟩
      · rw [← h]; exact (hN.ends x hx).2
      · rw [← h]; exact (hN.ends x hx).1
    have e1 : (some (joinR (some f))).bind (unc3 fun x y q => if q = true then (idx n.Sections x).bind fun p => (mLineOuts p.Kind y).bind fun o => some (o.map fun k => (⟨x, y, k⟩ : ApiStep)) else some []) = (idx n.Sections f.section_).bind fun p => (mLineOuts p.Kind f.end_).bind fun o => some (o.map fun k => (⟨f.section_, f.end_, k⟩ : ApiStep)) := rfl
    rw [e1, idx_sec hf.1, Option.bind_some, outs_eq, Option.bind_some]
    show ∃ ws, some ((outsL (sec n f.section_).Kind f.end_).map _) = some ws ∧ _
    refine ⟨_, rfl, ?_, fun s hs => ?_⟩
    · rw [List.length_map]
      unfold outsL
      split
      · simp
      · split <;> simp
    · obtain ⟨k, hk, rfl⟩ := List.mem_map.1 hs
      exact ⟨rfl, hf, ⟨hf.1, outs_in hf.2 hk⟩, hk⟩
/-- The signal at an end, or -1. -/
noncomputable def sg (n : ApiNet) (e : LineEnd) : Int := (mLineSignal n e).getD (-1)
theorem signal_spec (n : ApiNet) (e : LineEnd) : mLineSignal n e = some (sg n e) ∧ (sg n e = -1 ∨ ∃ k, ∃ h : k < n.Signals.length, sg n e = (k : Int) ∧ n.Signals[k] = ⟨e.section_, e.end_⟩) := by
  have key : ∃ v, mLineSignal n e = some v ∧ (v = -1 ∨ ∃ k, ∃ h : k < n.Signals.length, v = (k : Int) ∧ n.Signals[k] = ⟨e.section_, e.end_⟩) := by
    unfold mLineSignal mSlicesIndex_2
    rcases forU (body := mSlicesIndex_2_L61 n.Signals ⟨e.section_, e.end_⟩) (fun _ => True) (fun v : Int => ∃ k, ∃ h : k < n.Signals.length, v = (k : Int) ∧ n.Signals[k] = ⟨e.section_, e.end_⟩) n.Signals.length (fun k hk => by
      unfold mSlicesIndex_2_L61
      rw [idx_lt hk, Option.bind_some]
      by_cases c : e.section_ = n.Signals[k].Section ∧ e.end_ = n.Signals[k].End
      · rw [if_pos c]
        refine .inr ⟨_, rfl, k, hk, rfl, ?_⟩
        rw [c.1, c.2]
      · rw [if_neg c]
        exact .inl ⟨rfl, trivial⟩) with ⟨h1, _⟩ | ⟨v, h1, h2⟩
    · rw [h1]
      exact ⟨-1, rfl, .inl rfl⟩
    · rw [h1]
      exact ⟨v, rfl, .inr h2⟩
  obtain ⟨v, h1, h2⟩ := key
  unfold sg
  rw [h1]
  exact ⟨rfl, h2⟩
theorem sg_le (n : ApiNet) (e : LineEnd) : -1 ≤ sg n e := by
  rcases (signal_spec n e).2 with h | ⟨k, _, h, _⟩ <;> omega
theorem stands_eq (l : List ApiStep) (x : Int) : mLineStands l x = some (decide (∃ s ∈ l, s.Section = x)) := by
  unfold mLineStands mSlicesContainsFunc mSlicesIndexFunc
  rcases forU (body := mSlicesIndexFunc_L48 l x) (fun k => ∀ h : k < l.length, l[k].Section ≠ x) (fun v => 0 ≤ v ∧ ∃ s ∈ l, s.Section = x) l.length (fun k hk => by
    unfold mSlicesIndexFunc_L48 mLineStands_1
    rw [idx_lt hk, Option.bind_some, Option.bind_some]
    by_cases c : l[k].Section = x
    · rw [if_pos (decide_eq_true c)]
      exact .inr ⟨_, rfl, by omega, _, List.getElem_mem hk, c⟩
    · rw [if_neg (by simpa using c)]
      exact .inl ⟨rfl, fun _ => c⟩) with ⟨h1, h2⟩ | ⟨v, h1, h2, h3⟩
  · rw [h1]
    show some (decide ((0 : Int) ≤ -1)) = _
    rw [decide_eq_false (by decide), decide_eq_false (fun ⟨s, hs, e⟩ => by
      obtain ⟨j, hj, rfl⟩ := List.getElem_of_mem hs
      exact h2 j hj hj e)]
  · rw [h1]
    show some (decide (0 ≤ v)) = _
    rw [decide_eq_true h2, decide_eq_true h3]
theorem clone_eq {l : List ApiStep} (h : l.length ≤ 60) : mSlicesClone l = some l := by
  unfold mSlicesClone
  rw [room_ok (by omega) (by omega)]
  rfl
def outE (s : ApiStep) : LineEnd := ⟨s.Section, s.Out⟩
noncomputable def sigE (n : ApiNet) (f : Int) : LineEnd := ⟨((n.Signals[f.toNat]?).getD ⟨0, 0⟩).Section, ((n.Signals[f.toNat]?).getD ⟨0, 0⟩).End⟩
theorem idx_sig {n : ApiNet} {i : Int} (h : 0 ≤ i ∧ i < (n.Signals.length : Int)) : idx n.Signals i = some ⟨(sigE n i).section_, (sigE n i).end_⟩ := by
  obtain ⟨x, h1, h2⟩ := idx_get h.1 h.2
  rw [h1]
  unfold sigE
  rw [h2]
  rfl
theorem sig_has {n : ApiNet} (hN : NetOk n) {i : Int} (h : 0 ≤ i ∧ i < (n.Signals.length : Int)) : Has n (sigE n i) := by
  obtain ⟨x, h1, h2⟩ := idx_get h.1 h.2
  unfold sigE
  rw [h2]
  exact hN.sigs x (List.mem_of_getElem? h2)
/-- The way of a route so far. -/
structure WayOk (n : ApiNet) (f : Int) (w : List ApiStep) : Prop where
  path : PathOk n w
  home : ∀ s ∈ w, s.Section ≠ (sigE n f).section_
  head : ∀ s, w.head? = some s → joinL n.Links (sigE n f) = some ⟨s.Section, s.In⟩
  many : w.length ≤ 16
noncomputable def atE (n : ApiNet) (f : Int) (w : List ApiStep) : LineEnd := (w.getLast?.map outE).getD (sigE n f)
structure RouteOk (n : ApiNet) (r : ApiRoute) : Prop where
  from_ : 0 ≤ r.From ∧ r.From < (n.Signals.length : Int)
  way : WayOk n r.From r.Steps
  last : ∃ w s, r.Steps = w ++ [s] ∧ (∀ t ∈ w, sg n (outE t) < 0) ∧ r.To = sg n (outE s) ∧ (r.To < 0 → joinL n.Links (outE s) = none)
theorem way_nil (n : ApiNet) (f : Int) : WayOk n f [] :=
  ⟨⟨fun s hs => (List.not_mem_nil hs).elim, fun k h => absurd h (by simp), .nil⟩, fun s hs => (List.not_mem_nil hs).elim, fun s hs => (by simp at hs), by simp⟩
theorem way_step {n : ApiNet} {f : Int} {w : List ApiStep} {s : ApiStep} (h : WayOk n f w) (hl : w.length < 16) (hs : StepOk n s) (hj : joinL n.Links (atE n f w) = some ⟨s.Section, s.In⟩)
    (hn : ¬ ∃ t ∈ w, t.Section = s.Section) (hh : s.Section ≠ (sigE n f).section_) : WayOk n f (w ++ [s]) := by
  refine ⟨⟨fun t ht => ?_, fun k hk => ?_, ?_⟩, fun t ht => ?_, fun t ht => ?_, by simp; omega⟩
  · rcases List.mem_append.1 ht with ht | ht
    · exact h.path.step t ht
    · rw [List.mem_singleton.1 ht]; exact hs
  · rw [List.length_append, List.length_singleton] at hk
    by_cases c : k + 1 < w.length
    · rw [List.getElem_append_left (by omega), List.getElem_append_left c]
      exact h.path.join k c
    · have e : k + 1 = w.length := by omega
      have hne : w ≠ [] := fun h0 => by rw [h0] at e; simp at e
      rw [List.getElem_append_left (by omega), List.getElem_append_right (by omega)]
      have hg : w.getLast? = some (w[k]'(by omega)) := by
        rw [List.getLast?_eq_getElem?, show w.length - 1 = k by omega]
        exact List.getElem?_eq_getElem (by omega)
      unfold atE at hj
      rw [hg] at hj
      have hj : joinL n.Links (outE (w[k]'(by omega))) = some ⟨s.Section, s.In⟩ := hj
      simpa [outE] using hj
  · rw [List.pairwise_append]
    refine ⟨h.path.nd, .cons (fun _ h => by cases h) .nil, fun a ha b hb => ?_⟩
    rw [List.mem_singleton.1 hb]
    exact fun e => hn ⟨a, ha, e⟩
  · rcases List.mem_append.1 ht with ht | ht
    · exact h.home t ht
    · rw [List.mem_singleton.1 ht]; exact hh
  · cases w with
    | nil =>
      have : s = t := by simpa using ht
      subst this
      exact hj
    | cons a w => exact h.head t (by simpa using ht)
theorem at_step {n : ApiNet} {f : Int} {w : List ApiStep} {s : ApiStep} : atE n f (w ++ [s]) = outE s := by
  unfold atE
  rw [List.getLast?_concat]
  rfl
end Go.Proofs.YtcibjjhanafojaaGreatDoor
