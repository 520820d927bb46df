/- Plain: fare.Shares. -/
import Derived.Test.YtnlnohallnfbmaaGreatDoorWH4
set_option linter.unusedVariables false
set_option linter.unusedSimpArgs false
namespace Go.Proofs.YtnlnohallnfbmaaGreatDoor
open Go.RowKit Go.Fp

theorem pass3w {α β γ δ : Type} {a : α} {b : β} {c : γ} {k : α → β → γ → Option δ} : (some (a, b, c)).bind (unc3 k) = k a b c := rfl
theorem pass2w {α β δ : Type} {a : α} {b : β} {k : α → β → Option δ} : (some (a, b)).bind (unc2 k) = k a b := rfl
theorem sort_spec {T : Gr} (hT : T.ok) (hn : T.L.length ≤ 6) : ∃ O, mSlicesSortStableFunc T.P T.L T.S (nums T.L.length) = some O ∧ O.Perm (nums T.L.length) ∧ O.Pairwise (Ord T) := by
  obtain ⟨O, h1, h2, h3⟩ := insertion_pieces hT [] (nums T.L.length) [] (fun y hy => nums_mem.1 hy) (nums_inc _) (by simp [nums_length]; omega)
  rw [nums_length] at h1
  simp only [List.length_nil, List.nil_append, List.append_nil, Nat.zero_add] at h1
  have hOl : O.length = T.L.length := by rw [h2.length_eq, nums_length]
  refine ⟨O, ?_, h2, h3⟩
  unfold mSlicesSortStableFunc mSlicesStableCmpFunc
  rw [nums_length]
  rw [loopM_last (step := mSlicesStableCmpFunc_L608 (T.L.length : Int) T.L T.P T.S) (t := (0, nums T.L.length)) (by
    unfold mSlicesStableCmpFunc_L608
    simp only [unc3]
    rw [if_neg (by omega)]), pass2w]
  have h1 : mSlicesInsertionSortCmpFunc 0 (T.L.length : Int) T.P T.L T.S (nums T.L.length) = some O := h1
  rw [h1, Option.bind_some]
  rw [loopM_last (step := mSlicesStableCmpFunc_L659 (T.L.length : Int) T.L T.P T.S) (t := O) (by
    unfold mSlicesStableCmpFunc_L659
    simp only [unc2]
    rw [if_neg (by omega)])]
  rfl
/-- What SharesFault lets pass. -/
structure Good (P : Int) (L : List Int) : Prop where
  hP : 0 ≤ P ∧ P ≤ 100000
  hn : 1 ≤ L.length ∧ L.length ≤ 6
  hL : ∀ x ∈ L, 0 ≤ x ∧ x ≤ 10000
  hS : L.sum ≠ 0
theorem within2_spec (x a b : Int) : mFishref2Within x a b = some (decide (a ≤ x ∧ x ≤ b)) := by
  unfold mFishref2Within
  by_cases h : a ≤ x
  · rw [if_pos h]
    simp [h]
  · rw [if_neg h]
    simp [h]
theorem sum_to {L : List Int} (h : ∀ (j : Nat) (x : Int), L[j]? = some x → 0 ≤ x ∧ x ≤ 10000) (k : Nat) (hk : k ≤ L.length) : 0 ≤ (L.take k).sum ∧ (L.take k).sum ≤ k * 10000 := by
  have h1 : ∀ x ∈ L.take k, 0 ≤ x ∧ x ≤ 10000 := fun x hx => by
    obtain ⟨j, hj, e⟩ := List.getElem_of_mem (List.mem_of_mem_take hx)
    exact h j x (by rw [List.getElem?_eq_getElem hj, e])
  have h2 := sum_nonneg (L.take k) (fun x hx => (h1 x hx).1)
  have h3 := sum_bound (L.take k) 10000 (fun x hx => (h1 x hx).2)
  rw [List.length_take, Nat.min_eq_left hk] at h3
  exact ⟨h2, h3⟩
theorem take_one {L : List Int} {k : Nat} {x : Int} (h : L[k]? = some x) : (L.take (k + 1)).sum = (L.take k).sum + x := by
  rw [List.take_add_one, h]
  simp
theorem fault_spec (P : Int) (L : List Int) : ∃ e, mFishref2SharesFault P L = some e ∧ (e = 0 → Good P L) := by
  unfold mFishref2SharesFault
  rw [within2_spec, Option.bind_some]
  by_cases c1 : 0 ≤ P ∧ P ≤ 100000
  · rw [if_pos (by simpa using c1), within2_spec, Option.bind_some]
    by_cases c2 : (1 : Int) ≤ (L.length : Int) ∧ (L.length : Int) ≤ 6
    · rw [if_pos (by simpa using c2)]
      obtain ⟨t, e1, e2⟩ : ∃ t, Go.Fp.forM (mFishref2SharesFault_L74 L) L.length 0 0 = some t ∧ (t = .inr 2 ∨ (∀ x ∈ L, 0 ≤ x ∧ x ≤ 10000) ∧ t = .inl L.sum) := by
        rcases forM_inv (body := mFishref2SharesFault_L74 L) (fun k s => s = (L.take k).sum ∧ ∀ (j : Nat) (x : Int), j < k → L[j]? = some x → 0 ≤ x ∧ x ≤ 10000) (fun t => t = 2) L.length 0 0 ⟨rfl, fun j x h => absurd h (Nat.not_lt_zero j)⟩ (fun k s _ hk hI => by
          obtain ⟨rfl, hI⟩ := hI
          have hk : k < L.length := by omega
          have hx : L[k]? = some L[k] := List.getElem?_eq_getElem hk
          unfold mFishref2SharesFault_L74
          rw [idx_nat hx, Option.bind_some, within2_spec, Option.bind_some]
          by_cases c : 0 ≤ L[k] ∧ L[k] ≤ 10000
          · rw [if_pos (by simpa using c)]
            have hb : 0 ≤ (L.take k).sum ∧ (L.take k).sum ≤ k * 10000 := by
              have := sum_to (L := L.take k) (fun j x h => by
                have hj : j < k := by
                  have := (List.getElem?_eq_some_iff.1 h).1
                  rw [List.length_take] at this
                  omega
                rw [List.getElem?_take_of_lt hj] at h
                exact hI j x hj h) k (by rw [List.length_take]; omega)
              rwa [List.take_take, Nat.min_self] at this
            rw [chk_ok (by omega) (by omega)]
            exact .inl ⟨_, rfl, (take_one hx).symm, fun j x hj h => by
              by_cases q : j = k
              · subst q
                rw [hx] at h
                obtain rfl := Option.some.inj h
                exact c
              · exact hI j x (by omega) h⟩
          · rw [if_neg (by simpa using c)]
            exact .inr ⟨2, rfl, rfl⟩) with ⟨s, f1, f2, f3⟩ | ⟨t, f1, f2⟩
        · refine ⟨_, f1, .inr ⟨fun x hx => ?_, ?_⟩⟩
          · obtain ⟨j, hj, e⟩ := List.getElem_of_mem hx
            exact f3 j x (by omega) (by rw [List.getElem?_eq_getElem hj, e])
          · rw [f2, Nat.zero_add, List.take_length]
        · exact ⟨_, f1, .inl (by rw [f2])⟩
      rw [e1, Option.bind_some]
      rcases e2 with rfl | ⟨hL, rfl⟩
      · exact ⟨2, rfl, fun h => absurd h (by decide)⟩
      · simp only [Sum.elim_inl]
        by_cases c3 : L.sum = 0
        · rw [if_pos c3]
          exact ⟨1, rfl, fun h => absurd h (by decide)⟩
        · rw [if_neg c3]
          exact ⟨0, rfl, fun _ => ⟨c1, by omega, hL, c3⟩⟩
    · rw [if_neg (by simpa using c2)]
      exact ⟨4, rfl, fun h => absurd h (by decide)⟩
  · rw [if_neg (by simpa using c1)]
    exact ⟨2, rfl, fun h => absurd h (by decide)⟩
end Go.Proofs.YtnlnohallnfbmaaGreatDoor
