/- Plain: grow and the list of routes. -/
import Derived.Test.YtcibjjhanafojaaGreatDoorSLR1
import Derived.Test.YtcibjjhanafojaaGreatDoorXG
set_option linter.unusedVariables false
set_option linter.unusedSimpArgs false
namespace Go.Proofs.YtcibjjhanafojaaGreatDoor
open Go.RowKit Go.Fp

/-- A loop over a list by invariant; it may fall. -/
theorem forL_inv {α σ τ : Type} {body : α → σ → Option (σ ⊕ τ)} {D : Prop} (I : σ → Prop) (Q : τ → Prop) : ∀ (xs : List α) (s : σ), I s → (∀ x ∈ xs, ∀ s, I s → (body x s = none ∧ D) ∨ (∃ s', body x s = some (.inl s') ∧ I s') ∨ ∃ t, body x s = some (.inr t) ∧ Q t) →
    (forL body xs s = none ∧ D) ∨ (∃ s', forL body xs s = some (.inl s') ∧ I s') ∨ ∃ t, forL body xs s = some (.inr t) ∧ Q t
  | [], s, h0, _ => .inr (.inl ⟨s, rfl, h0⟩)
  | x :: xs, s, h0, h => by
    unfold forL
    rcases h x (List.mem_cons_self ..) s h0 with ⟨h1, hd⟩ | ⟨s', h1, h2⟩ | ⟨t, h1, h2⟩
    · rw [h1]; exact .inl ⟨rfl, hd⟩
    · rw [h1]; exact forL_inv I Q xs s' h2 (fun y hy => h y (List.mem_cons_of_mem _ hy))
    · rw [h1]; exact .inr (.inr ⟨t, rfl, h2⟩)
structure Good (n : ApiNet) (f : Int) (p : Int) (lg : Bool) (rs : List ApiRoute) : Prop where
  p0 : (rs.length : Int) ≤ p
  p1 : p ≤ 81
  p2 : lg = false → p ≤ 80
  ok : ∀ r ∈ rs, RouteOk n r
  fr : ∀ r ∈ rs, r.From ≤ f
  so : rs.Pairwise (fun a b => a.From ≤ b.From)
def GoodT (n : ApiNet) (f : Int) : Int × Bool × List ApiRoute → Prop := unc3 fun p lg rs => Good n f p lg rs
theorem good_count {n : ApiNet} {f p : Int} {rs : List ApiRoute} (h : Good n f p false rs) (a : List ByteArray) (b : List ApiSection) (c : List ApiLink) (d : List ApiSignal) (e : List ApiGate) (rs' : List ApiRoute) :
    mLineFinderCount a b c d e p false rs' = some (p + 1, decide (80 < p + 1)) := by
  have h0 := h.p0
  have h2 := h.p2 rfl
  unfold mLineFinderCount
  rw [chk_ok (by omega) (by omega), Option.bind_some, if_neg (by decide)]
theorem good_more {n : ApiNet} {f p : Int} {rs : List ApiRoute} (h : Good n f p false rs) : Good n f (p + 1) (decide (80 < p + 1)) rs := by
  have h0 := h.p0
  have h2 := h.p2 rfl
  exact ⟨by omega, by omega, fun e => by have := of_decide_eq_false e; omega, h.ok, h.fr, h.so⟩
theorem good_add {n : ApiNet} {f p : Int} {rs : List ApiRoute} (h : Good n f p false rs) {r : ApiRoute} (hr : RouteOk n r) (hf : r.From = f) : Good n f (p + 1) (decide (80 < p + 1)) (rs ++ [r]) := by
  have h0 := h.p0
  have h2 := h.p2 rfl
  refine ⟨by simp; omega, by omega, fun e => by have := of_decide_eq_false e; omega, fun x hx => ?_, fun x hx => ?_, ?_⟩
  · rcases List.mem_append.1 hx with hx | hx
    · exact h.ok x hx
    · rw [List.mem_singleton.1 hx]; exact hr
  · rcases List.mem_append.1 hx with hx | hx
    · exact h.fr x hx
    · rw [List.mem_singleton.1 hx]; omega
  · rw [List.pairwise_append]
    refine ⟨h.so, .cons (fun _ h => (List.not_mem_nil h).elim) .nil, fun a ha b hb => ?_⟩
    rw [List.mem_singleton.1 hb, hf]
    exact h.fr a ha
/-- One round of grow. -/
theorem body_spec {n : ApiNet} (hN : NetOk n) {f : Int} (hf : 0 ≤ f ∧ f < (n.Signals.length : Int)) {w : List ApiStep} (hw : WayOk n f w) (hm : ∀ t ∈ w, sg n (outE t) < 0) {D : Prop}
    {rc : Int → LineEnd → List ByteArray → List ApiSection → List ApiLink → List ApiSignal → List ApiGate → Int → Bool → List ApiStep → List ApiRoute → Option (Int × Bool × List ApiRoute)}
    (hrc : ∀ (v : List ApiStep) (p : Int) (lg : Bool) (rs : List ApiRoute), v.length = w.length + 1 → WayOk n f v → (∀ t ∈ v, sg n (outE t) < 0) → Good n f p lg rs →
      (rc f (atE n f v) n.Stations n.Sections n.Links n.Signals n.Gates p lg v rs = none ∧ D) ∨ ∃ r, rc f (atE n f v) n.Stations n.Sections n.Links n.Signals n.Gates p lg v rs = some r ∧ GoodT n f r)
    {s : ApiStep} (hj : joinL n.Links (atE n f w) = some ⟨s.Section, s.In⟩) (hs : StepOk n s) {S : Int × Bool × List ApiRoute} (hS : GoodT n f S) :
    (mLineFinderGrow_2_L1422 n.Stations n.Sections n.Links n.Signals n.Gates w f (sigE n f).section_ rc s S = none ∧ D) ∨
    (∃ S', mLineFinderGrow_2_L1422 n.Stations n.Sections n.Links n.Signals n.Gates w f (sigE n f).section_ rc s S = some (.inl S') ∧ GoodT n f S') ∨
    ∃ S', mLineFinderGrow_2_L1422 n.Stations n.Sections n.Links n.Signals n.Gates w f (sigE n f).section_ rc s S = some (.inr S') ∧ GoodT n f S' := by
  obtain ⟨p, lg, rs⟩ := S
  have hS : Good n f p lg rs := hS
  have hmany := hw.many
  unfold mLineFinderGrow_2_L1422
  show (unc3 _ (p, lg, rs) = none ∧ D) ∨ _
  simp only [unc3]
  cases lg with
  | true =>
    rw [if_pos rfl]
    exact .inr (.inr ⟨_, rfl, hS⟩)
  | false =>
    rw [if_neg (by decide)]
    have hst : (if s.Section = (sigE n f).section_ then some true else (mLineStands w s.Section).bind fun x => some x) = some (decide (s.Section = (sigE n f).section_ ∨ ∃ t ∈ w, t.Section = s.Section)) := by
      rw [stands_eq, Option.bind_some]
      by_cases c : s.Section = (sigE n f).section_
      · rw [if_pos c, decide_eq_true (Or.inl c)]
      · rw [if_neg c]
        congr 1
        exact decide_eq_decide.2 ⟨.inr, fun h => h.resolve_left c⟩
    rw [hst, Option.bind_some]
    by_cases c1 : s.Section = (sigE n f).section_ ∨ ∃ t ∈ w, t.Section = s.Section
    · rw [decide_eq_true c1, if_pos rfl, good_count hS, Option.bind_some]
      exact .inr (.inr ⟨_, rfl, good_more hS⟩)
    · rw [decide_eq_false c1, if_neg (by decide), clone_eq (by omega), Option.bind_some, room_ok (by omega) (by omega), Option.bind_some, Option.bind_some]
      by_cases c2 : 16 < ((w ++ [s]).length : Int)
      · rw [if_pos c2]
        exact .inr (.inr ⟨_, rfl, hS.p0, hS.p1, fun h => Bool.noConfusion h, hS.ok, hS.fr, hS.so⟩)
      · have hl : w.length < 16 := by simp at c2; omega
        have hv : WayOk n f (w ++ [s]) := way_step hw hl hs hj (fun h => c1 (.inr h)) (fun h => c1 (.inl h))
        rw [if_neg c2]
        have e1 : mLineSignal (⟨n.Stations, n.Sections, n.Links, n.Signals, n.Gates⟩ : ApiNet) ⟨s.Section, s.Out⟩ = some (sg n (outE s)) := (signal_spec n (outE s)).1
        have e2 : mLineJoined (⟨n.Stations, n.Sections, n.Links, n.Signals, n.Gates⟩ : ApiNet) ⟨s.Section, s.Out⟩ = some (joinR (joinL n.Links (outE s))) := joined_eq n (outE s)
        have e3 : (some (joinR (joinL n.Links (outE s)))).bind (unc3 fun _ _ x => some x) = some ((joinL n.Links (outE s)).isSome) := by
          cases joinL n.Links (outE s) <;> rfl
        rw [e1, Option.bind_some, e2, e3, Option.bind_some]
        have e4 : (if (joinL n.Links (outE s)).isSome = true then some (decide (sg n (outE s) < 0)) else some false) = some (decide ((joinL n.Links (outE s)).isSome = true ∧ sg n (outE s) < 0)) := by
          by_cases c : (joinL n.Links (outE s)).isSome = true
          · rw [if_pos c]
            congr 1
            exact decide_eq_decide.2 ⟨fun h => ⟨c, h⟩, fun h => h.2⟩
          · rw [if_neg c, decide_eq_false (fun h => c h.1)]
        rw [e4, Option.bind_some]
        by_cases c3 : (joinL n.Links (outE s)).isSome = true ∧ sg n (outE s) < 0
        · rw [decide_eq_true c3, if_pos rfl]
          have := hrc (w ++ [s]) p false rs (by simp) hv (fun t ht => by
            rcases List.mem_append.1 ht with ht | ht
            · exact hm t ht
            · rw [List.mem_singleton.1 ht]; exact c3.2) hS
          rw [at_step] at this
          have eo : (⟨s.Section, s.Out⟩ : LineEnd) = outE s := rfl
          rw [eo]
          rcases this with ⟨h1, hd⟩ | ⟨⟨p', lg', rs'⟩, h1, h2⟩
          · rw [h1]
            exact .inl ⟨rfl, hd⟩
          · rw [h1]
            exact .inr (.inl ⟨_, rfl, h2⟩)
        · rw [decide_eq_false c3, if_neg (by decide)]
          have h0 := hS.p0
          have h1 := hS.p1
          rw [room_ok (by omega) (by omega), Option.bind_some, Option.bind_some, good_count hS, Option.bind_some]
          refine .inr (.inl ⟨_, rfl, good_add hS ⟨hf, hv, w, s, rfl, hm, rfl, fun h => ?_⟩ rfl⟩)
          have h : sg n (outE s) < 0 := h
          cases hjo : joinL n.Links (outE s) with
          | none => rfl
          | some g => exact absurd ⟨by rw [hjo]; rfl, h⟩ c3
theorem grow_spec {n : ApiNet} (hN : NetOk n) {f : Int} (hf : 0 ≤ f ∧ f < (n.Signals.length : Int)) : ∀ (N : Nat) (w : List ApiStep) (p : Int) (lg : Bool) (rs : List ApiRoute), WayOk n f w → (∀ t ∈ w, sg n (outE t) < 0) → Good n f p lg rs →
    (mLineFinderGrow_2 N f (atE n f w) n.Stations n.Sections n.Links n.Signals n.Gates p lg w rs = none ∧ N + w.length ≤ 16) ∨ ∃ r, mLineFinderGrow_2 N f (atE n f w) n.Stations n.Sections n.Links n.Signals n.Gates p lg w rs = some r ∧ GoodT n f r
  | 0, w, p, lg, rs, hw, _, _ => .inl ⟨rfl, by have := hw.many; omega⟩
  | N + 1, w, p, lg, rs, hw, hm, hg => by
    show ((((idx n.Signals f).bind fun x1399 => some x1399.Section).bind (fun x1386 => (mLineWalk (⟨n.Stations, n.Sections, n.Links, n.Signals, n.Gates⟩ : ApiNet) (atE n f w)).bind fun l1416 => (forL (mLineFinderGrow_2_L1422 n.Stations n.Sections n.Links n.Signals n.Gates w f x1386 (mLineFinderGrow_2 N)) l1416 (p, lg, rs)).bind fun t => Sum.elim (unc3 fun x1817 x1818 l1819 => some (x1817, x1818, l1819)) (fun q => some q) t)) = none ∧ _) ∨ ∃ r, ((idx n.Signals f).bind fun x1399 => some x1399.Section).bind (fun x1386 => (mLineWalk (⟨n.Stations, n.Sections, n.Links, n.Signals, n.Gates⟩ : ApiNet) (atE n f w)).bind fun l1416 => (forL (mLineFinderGrow_2_L1422 n.Stations n.Sections n.Links n.Signals n.Gates w f x1386 (mLineFinderGrow_2 N)) l1416 (p, lg, rs)).bind fun t => Sum.elim (unc3 fun x1817 x1818 l1819 => some (x1817, x1818, l1819)) (fun q => some q) t) = some r ∧ _
    obtain ⟨ws, h1, _, h2⟩ := walk_spec hN (atE n f w)
    have h1 : mLineWalk (⟨n.Stations, n.Sections, n.Links, n.Signals, n.Gates⟩ : ApiNet) (atE n f w) = some ws := h1
    rw [idx_sig hf, Option.bind_some, Option.bind_some, h1, Option.bind_some]
    rcases forL_inv (body := mLineFinderGrow_2_L1422 n.Stations n.Sections n.Links n.Signals n.Gates w f (sigE n f).section_ (mLineFinderGrow_2 N)) (D := N + (w.length + 1) ≤ 16) (GoodT n f) (GoodT n f) ws (p, lg, rs) hg (fun s hs S hS => by
      refine body_spec hN hf hw hm (fun v p' lg' rs' hl hv hmv hg' => ?_) (h2 s hs).1 (h2 s hs).2 hS
      have := grow_spec hN hf N v p' lg' rs' hv hmv hg'
      rw [hl] at this
      exact this) with ⟨h3, hd⟩ | ⟨⟨p', lg', rs'⟩, h3, h4⟩ | ⟨⟨p', lg', rs'⟩, h3, h4⟩
    · exact .inl ⟨by rw [h3]; rfl, by omega⟩
    · exact .inr ⟨_, by rw [h3]; rfl, h4⟩
    · exact .inr ⟨_, by rw [h3]; rfl, h4⟩
theorem lim_grow {n : ApiNet} (hN : NetOk n) {f : Int} (hf : 0 ≤ f ∧ f < (n.Signals.length : Int)) (w : List ApiStep) (p : Int) (lg : Bool) (rs : List ApiRoute) (hw : WayOk n f w) (hm : ∀ t ∈ w, sg n (outE t) < 0) (hg : Good n f p lg rs) :
    ∃ r, lim (fun N => mLineFinderGrow_2 N f (atE n f w) n.Stations n.Sections n.Links n.Signals n.Gates p lg w rs) = some r ∧ GoodT n f r := by
  refine lim_ok ?_ (fun N t ht => ?_)
  · rcases grow_spec hN hf 17 w p lg rs hw hm hg with ⟨_, h⟩ | ⟨r, h, _⟩
    · omega
    · exact ⟨17, r, h⟩
  · rcases grow_spec hN hf N w p lg rs hw hm hg with ⟨h, _⟩ | ⟨r, h, h2⟩
    · rw [h] at ht; cases ht
    · rw [h] at ht
      rw [← Option.some.inj ht]
      exact h2
theorem first_spec {n : ApiNet} (hN : NetOk n) {f : Int} (hf : 0 ≤ f ∧ f < (n.Signals.length : Int)) (p : Int) (lg : Bool) (rs : List ApiRoute) (hg : Good n f p lg rs) :
    ∃ r, mLineFinderGrow f [] (sigE n f) n.Stations n.Sections n.Links n.Signals n.Gates p lg rs = some r ∧ GoodT n f r := by
  unfold mLineFinderGrow
  obtain ⟨ws, h1, _, h2⟩ := walk_spec hN (sigE n f)
  have h1 : mLineWalk (⟨n.Stations, n.Sections, n.Links, n.Signals, n.Gates⟩ : ApiNet) (sigE n f) = some ws := h1
  rw [idx_sig hf, Option.bind_some, Option.bind_some, h1, Option.bind_some]
  rcases forL_inv (body := mLineFinderGrow_L777 f [] n.Stations n.Sections n.Links n.Signals n.Gates (sigE n f).section_) (D := False) (GoodT n f) (GoodT n f) ws (p, lg, rs) hg (fun s hs S hS => by
    have := body_spec (D := False) (rc := fun f e a b c d g p lg w rs => lim (fun N => mLineFinderGrow_2 N f e a b c d g p lg w rs)) hN hf (way_nil n f) (fun t ht => (List.not_mem_nil ht).elim) (fun v p' lg' rs' hl hv hmv hg' => .inr (lim_grow hN hf v p' lg' rs' hv hmv hg')) (h2 s hs).1 (h2 s hs).2 hS
    exact this) with ⟨h3, hd⟩ | ⟨⟨p', lg', rs'⟩, h3, h4⟩ | ⟨⟨p', lg', rs'⟩, h3, h4⟩
  · exact hd.elim
  · exact ⟨_, by rw [h3]; rfl, h4⟩
  · exact ⟨_, by rw [h3]; rfl, h4⟩
theorem good_from {n : ApiNet} {f g p : Int} {lg : Bool} {rs : List ApiRoute} (h : Good n f p lg rs) (hg : f ≤ g) : Good n g p lg rs :=
  ⟨h.p0, h.p1, h.p2, h.ok, fun r hr => Int.le_trans (h.fr r hr) hg, h.so⟩
/-- The routes of a net that may be. -/
theorem routes_spec {n : ApiNet} (hN : NetOk n) : ∃ c rs, mLineRoutes_2 n = some (c, rs) ∧ (c = 0 ∨ c = 4 ∧ rs = []) ∧ (∀ r ∈ rs, RouteOk n r) ∧ rs.Pairwise (fun a b => a.From ≤ b.From) ∧ rs.length ≤ 81 := by
  unfold mLineRoutes_2
  obtain ⟨⟨p, lg, rs⟩, h1, h2⟩ := forS_inv (body := mLineRoutes_2_L121 n) (fun k => GoodT n (k : Int)) n.Signals.length 0 (0, false, []) ⟨by simp, by decide, fun _ => by decide, fun r hr => (List.not_mem_nil hr).elim, fun r hr => (List.not_mem_nil hr).elim, .nil⟩ (fun k S _ hk hS => by
    obtain ⟨p, lg, rs⟩ := S
    have hk : k < n.Signals.length := by omega
    obtain ⟨⟨p', lg', rs'⟩, h1, h2⟩ := first_spec hN (f := (k : Int)) ⟨by omega, by omega⟩ p lg rs hS
    refine ⟨(p', lg', rs'), ?_, good_from h2 (by omega)⟩
    unfold mLineRoutes_2_L121
    simp only [unc3]
    rw [idx_sig ⟨by omega, by omega⟩, Option.bind_some]
    have h1 : mLineFinderGrow (k : Int) [] ⟨(sigE n (k : Int)).section_, (sigE n (k : Int)).end_⟩ n.Stations n.Sections n.Links n.Signals n.Gates p lg rs = some (p', lg', rs') := h1
    rw [h1, Option.bind_some]
    rfl)
  have h2 : Good n _ p lg rs := h2
  rw [h1, Option.bind_some]
  simp only [unc3]
  cases lg with
  | true =>
    rw [if_pos rfl]
    exact ⟨4, [], rfl, .inr ⟨rfl, rfl⟩, fun r hr => (List.not_mem_nil hr).elim, .nil, by simp⟩
  | false =>
    rw [if_neg (by decide)]
    have h3 := h2.p0
    have h4 := h2.p1
    exact ⟨0, rs, rfl, .inl rfl, h2.ok, h2.so, by omega⟩
end Go.Proofs.YtcibjjhanafojaaGreatDoor
