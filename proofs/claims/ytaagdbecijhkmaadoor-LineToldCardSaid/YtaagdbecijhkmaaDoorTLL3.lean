/- Plain: the check of a net ends, and what it says. -/
import Derived.Test.YtaagdbecijhkmaaDoorTLL2
set_option linter.unusedVariables false
set_option linter.unusedSimpArgs false
namespace Go.Proofs.YtaagdbecijhkmaaDoor
open Go.RowKit Go.Fp

/-- Names that a machine can hold. -/
def Small (n : ApiNet) : Prop := ∀ s ∈ n.Stations, s.size ≤ 9223372036854775807
theorem name_total {s : ByteArray} (h : s.size ≤ 9223372036854775807) : ∃ b, mLineName s = some b := by
  unfold mLineName
  rw [chk_ok (by omega) (by omega), Option.bind_some]
  rcases forU (body := mLineName_L75 s) (fun _ => True) (fun _ => True) (sBytes s).length (fun k hk => by
    unfold mLineName_L75
    rw [idx_lt hk, Option.bind_some]
    by_cases c : (sBytes s)[k] < 97
    · rw [if_pos c, Option.bind_some, if_pos rfl]
      exact .inr ⟨_, rfl, trivial⟩
    · rw [if_neg c, Option.bind_some]
      split
      · exact .inr ⟨_, rfl, trivial⟩
      · exact .inl ⟨rfl, trivial⟩) with ⟨h1, _⟩ | ⟨t, h1, _⟩
  · rw [h1, Option.bind_some, Sum.elim_inl]
    split <;> exact ⟨_, rfl⟩
  · rw [h1]
    exact ⟨_, rfl⟩
theorem containsS_total (l : List ByteArray) (x : ByteArray) : ∃ b, mSlicesContains l x = some b := by
  unfold mSlicesContains mSlicesIndex
  rcases forU (body := mSlicesIndex_L39 l x) (fun _ => True) (fun _ => True) l.length (fun k hk => by
    unfold mSlicesIndex_L39
    rw [idx_lt hk, Option.bind_some]
    split
    · exact .inr ⟨_, rfl, trivial⟩
    · exact .inl ⟨rfl, trivial⟩) with ⟨h1, _⟩ | ⟨t, h1, _⟩
  · rw [h1]; exact ⟨_, rfl⟩
  · rw [h1]; exact ⟨_, rfl⟩
theorem order_total (a b c d : Int) : ∃ v : Bool, ((mCmpCompare a b).bind fun x => (mCmpCompare c d).bind fun y => (mCmpOr [x, y]).bind fun z => some (decide (0 ≤ z))) = some v := by
  obtain ⟨v1, e1⟩ := cmp_total a b
  obtain ⟨v2, e2⟩ := cmp_total c d
  obtain ⟨v3, e3⟩ := or_total [v1, v2]
  rw [e1, Option.bind_some, e2, Option.bind_some, e3, Option.bind_some]
  exact ⟨_, rfl⟩
theorem signals_total {n : ApiNet} (hl : n.Sections.length ≤ 60) (hg : n.Signals.length ≤ 40) : ∃ c, mLineCheckSignals n = some c ∧ (c = 0 → ∀ s ∈ n.Signals, Has n ⟨s.Section, s.End⟩) := by
  unfold mLineCheckSignals
  rcases forU (body := mLineCheckSignals_L238 n) (fun k => ∀ h : k < n.Signals.length, Has n ⟨n.Signals[k].Section, n.Signals[k].End⟩) (fun c : Int => c ≠ 0) n.Signals.length (fun k hk => by
    have good : ∀ (t : Option (Unit ⊕ Int)), (∃ v, t = some v ∧ Sum.elim (fun _ => Has n ⟨n.Signals[k].Section, n.Signals[k].End⟩) (fun c : Int => c ≠ 0) v) → (t = some (.inl ()) ∧ ∀ h : k < n.Signals.length, Has n ⟨n.Signals[k].Section, n.Signals[k].End⟩) ∨ ∃ v, t = some (.inr v) ∧ v ≠ 0 := fun t ⟨v, hv, hw⟩ => by
      rcases v with u | v
      · exact .inl ⟨hv, fun _ => hw⟩
      · exact .inr ⟨v, hv, hw⟩
    refine good _ ?_
    unfold mLineCheckSignals_L238
    rw [idx_lt hk, Option.bind_some, has_eq hl, Option.bind_some]
    by_cases h : Has n ⟨n.Signals[k].Section, n.Signals[k].End⟩
    · rw [decide_eq_true h, if_pos rfl, joined_eq, Option.bind_some]
      unfold joinR
      have hs : idx n.Sections n.Signals[k].Section = some (sec n n.Signals[k].Section) := idx_sec h.1
      have tail : ∃ v, (if 0 < (k : Int) then (chk ((k : Int) - 1)).bind fun _ => (idx n.Signals ((k : Int) - 1)).bind fun x402 => ((mCmpCompare x402.Section n.Signals[k].Section).bind fun x444 => (mCmpCompare x402.End n.Signals[k].End).bind fun x446 => (mCmpOr [x444, x446]).bind fun x451 => some (decide (0 ≤ x451))).bind (fun x433 => if x433 = true then some (.inr 5) else some (.inl ())) else some (.inl ()) : Option (Unit ⊕ Int)) = some v ∧ Sum.elim (fun _ => Has n ⟨n.Signals[k].Section, n.Signals[k].End⟩) (fun c : Int => c ≠ 0) v := by
        by_cases h0 : 0 < (k : Int)
        · obtain ⟨q, rfl⟩ : ∃ q, k = q + 1 := ⟨k - 1, by omega⟩
          obtain ⟨v, hv⟩ := order_total n.Signals[q].Section n.Signals[q + 1].Section n.Signals[q].End n.Signals[q + 1].End
          rw [if_pos h0, chk_ok (by omega) (by omega), Option.bind_some, show ((q + 1 : Nat) : Int) - 1 = (q : Int) by omega, idx_lt (show q < n.Signals.length by omega), Option.bind_some, hv, Option.bind_some]
          split
          · exact ⟨_, rfl, show (5 : Int) ≠ 0 by decide⟩
          · exact ⟨_, rfl, h⟩
        · rw [if_neg h0]
          exact ⟨_, rfl, h⟩
      cases joinL n.Links ⟨n.Signals[k].Section, n.Signals[k].End⟩ with
      | none =>
        simp only [unc3, Bool.false_eq_true, if_false, Option.bind_some, if_true]
        exact ⟨_, rfl, show (1 : Int) ≠ 0 by decide⟩
      | some f =>
        simp only [unc3, if_true, hs, Option.bind_some]
        by_cases hk1 : (sec n n.Signals[k].Section).Kind ≠ 1
        · rw [decide_eq_true hk1, if_pos rfl]
          exact ⟨_, rfl, show (1 : Int) ≠ 0 by decide⟩
        · rw [decide_eq_false hk1, if_neg (by decide)]
          exact tail
    · rw [decide_eq_false h, if_neg (by decide)]
      exact ⟨_, rfl, show (3 : Int) ≠ 0 by decide⟩) with ⟨h1, h2⟩ | ⟨t, h1, h2⟩
  · rw [h1]
    refine ⟨_, rfl, fun _ s hs => ?_⟩
    obtain ⟨j, hj, rfl⟩ := List.getElem_of_mem hs
    exact h2 j hj hj
  · rw [h1]; exact ⟨_, rfl, fun h => absurd h h2⟩
theorem gates_total {n : ApiNet} (hl : n.Sections.length ≤ 60) (hg : n.Gates.length ≤ 8) : ∃ c, mLineCheckGates n = some c := by
  unfold mLineCheckGates
  rcases forU (body := mLineCheckGates_L197 n) (fun _ => True) (fun _ => True) n.Gates.length (fun k hk => by
    have good : ∀ (t : Option (Unit ⊕ Int)), (∃ v, t = some v) → (t = some (.inl ()) ∧ True) ∨ ∃ v, t = some (.inr v) ∧ True := fun t ⟨v, hv⟩ => by
      rcases v with u | v
      · exact .inl ⟨hv, trivial⟩
      · exact .inr ⟨v, hv, trivial⟩
    refine good _ ?_
    unfold mLineCheckGates_L197
    rw [idx_lt hk, Option.bind_some, chk_ok (by omega) (by omega), Option.bind_some, within_eq, Option.bind_some]
    by_cases h : 0 ≤ n.Gates[k].Section ∧ n.Gates[k].Section ≤ (n.Sections.length : Int) - 1
    · rw [decide_eq_true h, if_pos rfl, idx_sec ⟨h.1, by omega⟩, Option.bind_some]
      split
      · exact ⟨_, rfl⟩
      · rw [within_eq, Option.bind_some]
        split
        · have tail : ∃ v : Bool, (if 0 < (k : Int) then (chk ((k : Int) - 1)).bind fun _ => (idx n.Gates ((k : Int) - 1)).bind fun x361 => some (decide (n.Gates[k].Section ≤ x361.Section)) else some false) = some v := by
            by_cases h0 : 0 < (k : Int)
            · obtain ⟨q, rfl⟩ : ∃ q, k = q + 1 := ⟨k - 1, by omega⟩
              rw [if_pos h0, chk_ok (by omega) (by omega), Option.bind_some, show ((q + 1 : Nat) : Int) - 1 = (q : Int) by omega, idx_lt (show q < n.Gates.length by omega), Option.bind_some]
              exact ⟨_, rfl⟩
            · rw [if_neg h0]
              exact ⟨_, rfl⟩
          obtain ⟨v, hv⟩ := tail
          rw [hv, Option.bind_some]
          split <;> exact ⟨_, rfl⟩
        · exact ⟨_, rfl⟩
    · rw [decide_eq_false h, if_neg (by decide)]
      exact ⟨_, rfl⟩) with ⟨h1, _⟩ | ⟨t, h1, _⟩
  · rw [h1]; exact ⟨_, rfl⟩
  · rw [h1]; exact ⟨_, rfl⟩
structure NetOk (n : ApiNet) : Prop where
  n60 : n.Sections.length ≤ 60
  secs : ∀ s ∈ n.Sections, OkSec s
  apart : Apart n.Links
  ends : ∀ x ∈ n.Links, Has n (endA x) ∧ Has n (endB x)
  sigs : ∀ s ∈ n.Signals, Has n ⟨s.Section, s.End⟩
  g40 : n.Signals.length ≤ 40
  stat : ∀ s ∈ n.Sections, StOk s (n.Stations.length : Int)
  s12 : n.Stations.length ≤ 12
theorem check_spec {n : ApiNet} (hS : Small n) : ∃ c, mLineCheck n = some c ∧ (c = 0 → NetOk n) := by
  have bad : ∀ c : Int, c ≠ 0 → ∃ c', some c = some c' ∧ (c' = 0 → NetOk n) := fun c hc => ⟨c, rfl, fun h => absurd h hc⟩
  unfold mLineCheck
  by_cases h0 : (n.Sections.length : Int) = 0
  · rw [if_pos h0]
    exact bad 1 (by decide)
  · rw [if_neg h0]
    obtain ⟨b, hb, hb2⟩ : ∃ b : Bool, (if 12 < (n.Stations.length : Int) then some true else if 60 < (n.Sections.length : Int) then some true else if 90 < (n.Links.length : Int) then some true else if 40 < (n.Signals.length : Int) then some true else some (decide (8 < (n.Gates.length : Int)))) = some b ∧ (b = false → n.Stations.length ≤ 12 ∧ n.Sections.length ≤ 60 ∧ n.Links.length ≤ 90 ∧ n.Signals.length ≤ 40 ∧ n.Gates.length ≤ 8) := by
      by_cases c1 : 12 < (n.Stations.length : Int)
      · rw [if_pos c1]; exact ⟨true, rfl, fun h => by cases h⟩
      · rw [if_neg c1]
        by_cases c2 : 60 < (n.Sections.length : Int)
        · rw [if_pos c2]; exact ⟨true, rfl, fun h => by cases h⟩
        · rw [if_neg c2]
          by_cases c3 : 90 < (n.Links.length : Int)
          · rw [if_pos c3]; exact ⟨true, rfl, fun h => by cases h⟩
          · rw [if_neg c3]
            by_cases c4 : 40 < (n.Signals.length : Int)
            · rw [if_pos c4]; exact ⟨true, rfl, fun h => by cases h⟩
            · rw [if_neg c4]
              refine ⟨_, rfl, fun h => ?_⟩
              have := of_decide_eq_false h
              omega
    rw [hb, Option.bind_some]
    by_cases hbt : b = true
    · rw [if_pos hbt]
      exact bad 4 (by decide)
    · obtain ⟨l0, l1, l2, l3, l4⟩ := hb2 (by simpa using hbt)
      rw [if_neg hbt]
      rcases forU (body := mLineCheck_L194 n) (fun _ => True) (fun c : Int => c ≠ 0) n.Stations.length (fun k hk => by
        obtain ⟨v, hv⟩ := name_total (hS _ (List.getElem_mem hk))
        obtain ⟨u, hu⟩ := containsS_total (n.Stations.take k) n.Stations[k]
        have hcut : cutS n.Stations 0 (k : Int) = some (n.Stations.take k) := by
          have := cutS_ok (l := n.Stations) (a := 0) (b := k) (by omega) (by omega)
          simpa using this
        unfold mLineCheck_L194
        rw [idx_lt hk, Option.bind_some, hv, Option.bind_some]
        split
        · rw [hcut, Option.bind_some, hu, Option.bind_some]
          split
          · exact .inr ⟨6, rfl, by decide⟩
          · exact .inl ⟨rfl, trivial⟩
        · exact .inr ⟨1, rfl, by decide⟩) with ⟨h1, _⟩ | ⟨t, h1, h2⟩
      · rw [h1, Option.bind_some, Sum.elim_inl]
        rcases forU (body := mLineCheck_L267 n) (fun k => ∀ h : k < n.Sections.length, OkSec n.Sections[k] ∧ StOk n.Sections[k] (n.Stations.length : Int)) (fun c : Int => c ≠ 0) n.Sections.length (fun k hk => by
          obtain ⟨c, c1, c2⟩ := section_spec n.Sections[k] (n.Stations.length : Int)
          unfold mLineCheck_L267
          rw [idx_lt hk, Option.bind_some, c1, Option.bind_some]
          by_cases hc : c = 0
          · rw [if_neg (by simpa using hc)]
            exact .inl ⟨rfl, fun _ => c2 hc⟩
          · rw [if_pos hc]
            exact .inr ⟨c, rfl, hc⟩) with ⟨g1, g2⟩ | ⟨t, g1, g2⟩
        · rw [g1, Option.bind_some, Sum.elim_inl]
          rcases forU (body := mLineCheck_L305 n) (fun k => (k = 0 → Apart n.Links ∧ ∀ x ∈ n.Links, Has n (endA x) ∧ Has n (endB x)) ∧ (k = 1 → ∀ s ∈ n.Signals, Has n ⟨s.Section, s.End⟩)) (fun c : Int => c ≠ 0) 3 (fun k hk => by
            have fin : ∀ (c : Int) (Z : Prop), (c = 0 → Z) → ((if c ≠ 0 then some (.inr c) else some (.inl ()) : Option (Unit ⊕ Int)) = some (.inl ()) ∧ Z) ∨ ∃ t, (if c ≠ 0 then some (.inr c) else some (.inl ()) : Option (Unit ⊕ Int)) = some (.inr t) ∧ t ≠ 0 := fun c Z hz => by
              by_cases hc : c = 0
              · rw [if_neg (by simpa using hc)]
                exact .inl ⟨rfl, hz hc⟩
              · rw [if_pos hc]
                exact .inr ⟨c, rfl, hc⟩
            unfold mLineCheck_L305
            by_cases k0 : (k : Int) = 0
            · obtain ⟨c, c1, c2⟩ := links_spec l1 l2
              rw [if_pos k0, c1, Option.bind_some]
              exact fin c _ (fun h => ⟨fun _ => c2 h, fun h => by omega⟩)
            · rw [if_neg k0]
              by_cases k1 : (k : Int) = 1
              · obtain ⟨c, c1, c2⟩ := signals_total l1 l3
                rw [if_pos k1, c1, Option.bind_some]
                exact fin c _ (fun h => ⟨fun h => by omega, fun _ => c2 h⟩)
              · obtain ⟨c, c1⟩ := gates_total l1 l4
                rw [if_neg k1, if_pos (by omega), c1, Option.bind_some]
                exact fin c _ (fun _ => ⟨fun h => by omega, fun h => by omega⟩)) with ⟨f1, f2⟩ | ⟨t, f1, f2⟩
          · rw [f1, Option.bind_some, Sum.elim_inl]
            refine ⟨0, rfl, fun _ => ⟨l1, fun s hs => ?_, ((f2 0 (by decide)).1 rfl).1, ((f2 0 (by decide)).1 rfl).2, (f2 1 (by decide)).2 rfl, l3, fun s hs => ?_, l0⟩⟩
            · obtain ⟨j, hj, rfl⟩ := List.getElem_of_mem hs
              exact (g2 j hj hj).1
            · obtain ⟨j, hj, rfl⟩ := List.getElem_of_mem hs
              exact (g2 j hj hj).2
          · rw [f1, Option.bind_some, Sum.elim_inr]
            exact bad t f2
        · rw [g1, Option.bind_some, Sum.elim_inr]
          exact bad t g2
      · rw [h1, Option.bind_some, Sum.elim_inr]
        exact bad t h2
end Go.Proofs.YtaagdbecijhkmaaDoor
