/- Plain: the duties of a day's legs; the shifts that they make. -/
import Derived.Test.YtnmhabgnfifkdaaTC2
set_option linter.unusedVariables false
set_option linter.unusedSimpArgs false
namespace Go.Proofs.Ytnmhabgnfifkdaa
open Go.RowKit Go.Fp

theorem duties_cases (l : List FleetTask) (s : FleetLimits) : (∃ e, e ≠ 0 ∧ mFleetDuties l s = some (e, [])) ∨ (Kept.Ctx l s ∧ ∃ R, mFleetDuties l s = some (0, R) ∧ Kept.Comp l s R (Kept.u0 l) (-1) ∧ R.length ≤ l.length) := by
  obtain ⟨c, h1, h2⟩ := Kept.both_spec l s
  by_cases hc : c = 0
  · obtain ⟨⟨_, ht⟩, hx⟩ := h2.1 hc
    by_cases h8 : 8 < (l.length : Int)
    · refine .inl ⟨4, by decide, ?_⟩
      unfold mFleetDuties
      rw [h1, Option.bind_some, if_neg (by simpa using hc), if_pos h8]
    · have C : Kept.Ctx l s := ⟨by omega, ht, hx⟩
      rcases Kept.duties_spec C with ⟨R, e, h3, h4, _⟩ | ⟨e, _⟩
      · exact .inr ⟨C, R, e, h3, h4⟩
      · exact .inl ⟨9, by decide, e⟩
  · refine .inl ⟨c, hc, ?_⟩
    unfold mFleetDuties
    rw [h1, Option.bind_some, if_pos hc]
/-- What a duty of them is. -/
structure DutyOk (l : List FleetTask) (s : FleetLimits) (d : List Int) : Prop where
  ne : d ≠ []
  val : ∀ i ∈ d, Kept.Val l i
  len : d.length ≤ 8
  judge : mFleetJudge l d s = some 0
  judge2 : mFleetJudge_2 l d s = some (0, 0)
theorem comp_all {l : List FleetTask} {s : FleetLimits} (C : Kept.Ctx l s) : ∀ {R : List (List Int)} {u : List Bool} {a : Int}, Kept.Comp l s R u a → u.length = l.length → ∀ d ∈ R, DutyOk l s d
  | [], _, _, _, _, d, h => by simp at h
  | e :: R, u, a, h, hu, d, hd => by
    obtain ⟨k, x, h1, h2, h3, h4, h5⟩ := h
    rcases List.mem_cons.1 hd with rfl | hd
    · have hne : d ≠ [] := by rw [h1]; simp
      refine ⟨hne, fun i hi => Kept.free_val hu (h3.val i hi), ?_, h4, Kept.judge2_ok C hu hne h3 h4⟩
      have h6 := h3.len
      have h7 := Kept.free_le u
      have := C.n8
      omega
    · exact comp_all C h5 (by rw [Kept.marks_len]; exact hu) d hd
theorem forM_inr {σ τ : Type} {body : Nat → σ → Option (σ ⊕ τ)} : ∀ {n k : Nat} {s : σ} {q : τ}, forM body n k s = some (.inr q) → ∃ j t, body j t = some (.inr q)
  | 0, _, _, _, h => by cases h
  | n + 1, k, s, q, h => by
    have h' : (match body k s with | none => none | some (.inl s') => forM body n (k + 1) s' | some (.inr t) => some (.inr t)) = some (.inr q) := h
    cases e : body k s with
    | none => rw [e] at h'; cases h'
    | some r =>
      cases r with
      | inl s' => rw [e] at h'; exact forM_inr h'
      | inr t => rw [e] at h'; exact ⟨k, s, by rw [e]; exact h'⟩
theorem judge_one {l : List FleetTask} {d : List Int} {s : FleetLimits} {j : Nat} {t : Int × Int × Int} {q : Int} (h : mFleetJudge_L603 l d s j t = some (.inr q)) : q = 1 := by
  obtain ⟨a, b, c⟩ := t
  unfold mFleetJudge_L603 at h
  simp only [unc3] at h
  obtain ⟨_, _, h⟩ := bindS h
  obtain ⟨_, _, h⟩ := bindS h
  obtain ⟨_, _, h⟩ := bindS h
  obtain ⟨_, _, h⟩ := bindS h
  split at h
  · cases h
  · obtain ⟨_, _, h⟩ := bindS h
    obtain ⟨_, _, h⟩ := bindS h
    obtain ⟨_, _, h⟩ := bindS h
    obtain ⟨_, _, h⟩ := bindS h
    split at h
    · injection h with h; injection h with h; exact h.symm
    · obtain ⟨_, _, h⟩ := bindS h
      split at h
      · obtain ⟨_, _, h⟩ := bindS h
        cases h
      · cases h
theorem long_ok {l : List FleetTask} {s : FleetLimits} (C : Kept.Ctx l s) {d : List Int} (h : DutyOk l s d) (hk : 0 < d.length) : (Kept.tk l (d[d.length - 1]'(by omega))).Arr - (Kept.tk l d[0]).Dep ≤ s.Long := by
  have hj := h.judge
  rw [Kept.judge_eq C h.val hk (by have := h.len; omega)] at hj
  obtain ⟨t, h1, h2⟩ := bindS hj
  rcases t with ⟨w, b, g⟩ | q
  · simp only [Sum.elim_inl, unc3] at h2
    obtain ⟨_, _, h2⟩ := bindS h2
    injection h2 with h2
    unfold Kept.fin at h2
    by_cases hc : s.Long < (Kept.tk l (d[d.length - 1]'(by omega))).Arr - (Kept.tk l d[0]).Dep
    · rw [if_pos hc] at h2
      exact absurd h2 (by decide)
    · omega
  · simp only [Sum.elim_inr] at h2
    injection h2 with h2
    obtain ⟨j, t, e⟩ := forM_inr h1
    have := judge_one e
    omega
end Go.Proofs.Ytnmhabgnfifkdaa
