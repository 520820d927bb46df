/- Extraction, part 6: how to reckon with models: loops by invariant, words that succeed. -/
import Derived.Test.YtckgfeglhjiflaaDoorX4
namespace Go.Fp

theorem forS_inv {σ : Type} {body : Nat → σ → Option σ} (I : Nat → σ → Prop) : ∀ (m k : Nat) (s : σ), I k s → (∀ j s, k ≤ j → j < k + m → I j s → ∃ s', body j s = some s' ∧ I (j + 1) s') → ∃ s', forS body m k s = some s' ∧ I (k + m) s'
  | 0, k, s, h0, _ => ⟨s, rfl, h0⟩
  | m + 1, k, s, h0, h => by
    obtain ⟨s', h1, h2⟩ := h k s (Nat.le_refl _) (by omega) h0
    obtain ⟨s'', h3, h4⟩ := forS_inv I m (k + 1) s' h2 (fun j t hj hj' hi => h j t (by omega) (by omega) hi)
    refine ⟨s'', ?_, by rw [show k + (m + 1) = k + 1 + m by omega]; exact h4⟩
    show (body k s).bind _ = _
    rw [h1]
    exact h3
theorem forM_succ_inl {σ τ : Type} {body : Nat → σ → Option (σ ⊕ τ)} {m k : Nat} {s s' : σ} (h : body k s = some (.inl s')) : forM body (m + 1) k s = forM body m (k + 1) s' := by
  show (match body k s with | none => none | some (.inl s') => forM body m (k + 1) s' | some (.inr t) => some (.inr t)) = _
  rw [h]
theorem forM_succ_inr {σ τ : Type} {body : Nat → σ → Option (σ ⊕ τ)} {m k : Nat} {s : σ} {t : τ} (h : body k s = some (.inr t)) : forM body (m + 1) k s = some (.inr t) := by
  show (match body k s with | none => none | some (.inl s') => forM body m (k + 1) s' | some (.inr t) => some (.inr t)) = _
  rw [h]
theorem loopM_next {σ τ : Type} {step : σ → Option (σ ⊕ τ)} {s s' : σ} (h : step s = some (.inl s')) : loopM step s = loopM step s' := by
  have key : ∀ n t, runN step (n + 1) s = some t ↔ runN step n s' = some t := fun n t => by
    show (match step s with | none => none | some (.inl s') => runN step n s' | some (.inr t) => some t) = some t ↔ _
    rw [h]
  have hz : ∀ t, runN step 0 s = some t → False := fun t ht => by cases ht
  unfold loopM
  by_cases hh : ∃ t n, runN step n s' = some t
  · obtain ⟨t, n, ht⟩ := hh
    have mono : ∀ n s t, runN step n s = some t → ∀ m, n ≤ m → runN step m s = some t := by
      intro n
      induction n with
      | zero => intro s t h; cases h
      | succ n ih =>
        intro s t h m hm
        obtain ⟨m, rfl⟩ : ∃ q, m = q + 1 := ⟨m - 1, by omega⟩
        have h' : (match step s with | none => none | some (.inl s') => runN step n s' | some (.inr t) => some t) = some t := h
        show (match step s with | none => none | some (.inl s') => runN step m s' | some (.inr t) => some t) = some t
        split at h'
        · cases h'
        · exact ih _ _ h' m (by omega)
        · exact h'
    obtain ⟨a, ha, ha2⟩ := lim_ok (P := fun x => x = t) (f := fun n => runN step n s) ⟨n + 1, t, (key n t).2 ht⟩ (fun m x hx => by
      have h1 := mono m s x hx (max m (n + 1)) (Nat.le_max_left _ _)
      have h2 := mono (n + 1) s t ((key n t).2 ht) (max m (n + 1)) (Nat.le_max_right _ _)
      exact Option.some.inj (h1.symm.trans h2))
    obtain ⟨b, hb, hb2⟩ := lim_ok (P := fun x => x = t) (f := fun n => runN step n s') ⟨n, t, ht⟩ (fun m x hx => by
      have h1 := mono m s' x hx (max m n) (Nat.le_max_left _ _)
      have h2 := mono n s' t ht (max m n) (Nat.le_max_right _ _)
      exact Option.some.inj (h1.symm.trans h2))
    rw [ha, hb, ha2, hb2]
  · have hh2 : ¬ ∃ t n, runN step n s = some t := by
      rintro ⟨t, n, ht⟩
      cases n with
      | zero => exact hz t ht
      | succ n => exact hh ⟨t, n, (key n t).1 ht⟩
    unfold lim
    rw [dif_neg hh, dif_neg hh2]
theorem loopM_last {σ τ : Type} {step : σ → Option (σ ⊕ τ)} {s : σ} {t : τ} (h : step s = some (.inr t)) : loopM step s = some t := by
  unfold loopM
  obtain ⟨a, ha, ha2⟩ := lim_ok (P := fun x => x = t) (f := fun n => runN step n s) ⟨1, t, by show (match step s with | none => none | some (.inl s') => runN step 0 s' | some (.inr t) => some t) = some t; rw [h]⟩ (fun m x hx => by
    cases m with
    | zero => cases hx
    | succ m =>
      have h' : (match step s with | none => none | some (.inl s') => runN step m s' | some (.inr t) => some t) = some x := hx
      rw [h] at h'
      exact (Option.some.inj h').symm)
  rw [ha, ha2]
/-- A loop by invariant and measure. -/
theorem loopM_inv {σ τ : Type} {step : σ → Option (σ ⊕ τ)} (I : σ → Prop) (Q : τ → Prop) (μ : σ → Nat) (h : ∀ s, I s → (∃ s', step s = some (.inl s') ∧ I s' ∧ μ s' < μ s) ∨ ∃ t, step s = some (.inr t) ∧ Q t) (s : σ) (h0 : I s) : ∃ t, loopM step s = some t ∧ Q t := by
  generalize hn : μ s = n
  induction n using Nat.strongRecOn generalizing s with
  | _ n ih =>
    rcases h s h0 with ⟨s', h1, h2, h3⟩ | ⟨t, h1, h2⟩
    · obtain ⟨t, h4, h5⟩ := ih (μ s') (by omega) s' h2 rfl
      exact ⟨t, by rw [loopM_next h1]; exact h4, h5⟩
    · exact ⟨t, loopM_last h1, h2⟩
theorem room_ok {by_ m : Nat} (h : m * by_ ≤ 140737488355328) (h2 : m ≤ 9223372036854775807) : room by_ m = some () := by
  unfold room
  rw [if_pos ⟨h, h2⟩]
theorem mkLen_ok {by_ m : Nat} (h : by_ * m ≤ 281474976710656) (h2 : m ≤ 9223372036854775807) : mkLen by_ (m : Int) = some m := by
  unfold mkLen
  rw [if_pos ⟨by omega, by simpa using h, by omega⟩, Int.toNat_natCast]
theorem idx_lt {α : Type} {l : List α} {j : Nat} (h : j < l.length) : idx l (j : Int) = some l[j] := idx_nat (List.getElem?_eq_getElem h)
theorem idx_get {α : Type} {l : List α} {i : Int} (h0 : 0 ≤ i) (h : i < (l.length : Int)) : ∃ x, idx l i = some x ∧ l[i.toNat]? = some x := by
  refine ⟨l[i.toNat]'(by omega), ?_, List.getElem?_eq_getElem (by omega)⟩
  unfold idx
  rw [if_pos h0]
  exact List.getElem?_eq_getElem _
theorem cutS_ok {α : Type} {l : List α} {a b : Nat} (h1 : a ≤ b) (h2 : b ≤ l.length) : cutS l (a : Int) (b : Int) = some ((l.take b).drop a) := by
  unfold cutS
  rw [if_pos ⟨by omega, by omega, by omega⟩]
  simp
end Go.Fp
