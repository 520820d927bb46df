/- Plain: what GuideFault says of a day; its legs as tasks. -/
import Derived.Test.YtnmhabgnfifkdaaFA5
import Derived.Test.YtnmhabgnfifkdaaVL4
set_option linter.unusedVariables false
set_option linter.unusedSimpArgs false
namespace Go.Proofs.Ytnmhabgnfifkdaa
open Go.RowKit Go.Fp

/-- What stands in memory has a length. -/
theorem all2_get {α β : Type} {R : α → β → Prop} : ∀ {l : List α} {m : List β}, All2 R l m → ∀ y ∈ m, ∃ x, R x y
  | [], [], _, y, h => by simp at h
  | a :: l, b :: m, h, y, hy => by
    rcases List.mem_cons.1 hy with rfl | hy
    · exact ⟨a, h.1⟩
    · exact all2_get h.2 y hy
theorem stops_small {W : World} {A : Option Addr} {c : Nat} {l : List ApiTrain} (h : FZ rApiTrain W A c l) : ∀ t ∈ l, t.Stops.length ≤ 9223372036854775807 := fun t ht => by
  obtain ⟨_, css, _, hall⟩ := h
  obtain ⟨cs, hr⟩ := all2_get hall t ht
  obtain ⟨_, _, _, _, _, _, _, _, _, _, _, ⟨_, _, _, hf⟩, _⟩ := hr
  exact hf.bd
theorem within2_eq (x a b : Int) : mFishref2Within x a b = some (decide (a ≤ x ∧ x ≤ b)) := by
  unfold mFishref2Within
  by_cases h : a ≤ x <;> simp [h]
structure TrainOk (t : ApiTrain) : Prop where
  stops : 1 ≤ t.Stops.length ∧ t.Stops.length ≤ 8
  legs : t.Legs.length + 1 = t.Stops.length
/-- A loop that only looks. -/
theorem look_loop {τ : Type} {n : Nat} {body : Nat → Unit → Option (Unit ⊕ τ)} (Q : τ → Prop) (h : ∀ k, k < n → body k () = some (.inl ()) ∨ ∃ t, body k () = some (.inr t) ∧ Q t) :
    forM body n 0 () = some (.inl ()) ∨ ∃ t, forM body n 0 () = some (.inr t) ∧ Q t := by
  rcases forM_inv (body := body) (fun _ _ => True) Q n 0 () trivial (fun k s _ hk _ => by
    rcases h k (by omega) with e | e
    · exact .inl ⟨(), e, trivial⟩
    · exact .inr e) with ⟨s, e, _⟩ | e
  · exact .inl e
  · exact .inr e
/-- As 'look_loop'; what is found of each element. -/
theorem look_all {τ : Type} {n : Nat} {body : Nat → Unit → Option (Unit ⊕ τ)} (P : Nat → Prop) (Q : τ → Prop) (h : ∀ k, k < n → (body k () = some (.inl ()) ∧ P k) ∨ ∃ t, body k () = some (.inr t) ∧ Q t) :
    (forM body n 0 () = some (.inl ()) ∧ ∀ k, k < n → P k) ∨ ∃ t, forM body n 0 () = some (.inr t) ∧ Q t := by
  rcases forM_inv (body := body) (fun k _ => ∀ j, j < k → P j) Q n 0 () (fun j hj => absurd hj (Nat.not_lt_zero j)) (fun k s _ hk hI => by
    rcases h k (by omega) with ⟨e, hp⟩ | e
    · refine .inl ⟨(), e, fun j hj => ?_⟩
      by_cases ej : j = k
      · subst ej; exact hp
      · exact hI j (by omega)
    · exact .inr e) with ⟨s, e, hI⟩ | e
  · rw [Nat.zero_add] at hI
    exact .inl ⟨e, hI⟩
  · exact .inr e
theorem trainBody (d : ApiDay) (hS : ∀ t ∈ d.Trains, t.Stops.length ≤ 9223372036854775807) (k : Nat) (h : k < d.Trains.length) : (mFishref2TextFault_L410 d k () = some (.inl ()) ∧ TrainOk d.Trains[k]) ∨ ∃ c, mFishref2TextFault_L410 d k () = some (.inr c) ∧ c ≠ 0 := by
  have hb := hS _ (List.getElem_mem h)
  unfold mFishref2TextFault_L410
  rw [idx_lt h, Option.bind_some]
  generalize d.Trains[k] = t at *
  by_cases h0 : (t.Stops.length : Int) = 0
  · rw [if_pos h0, Option.bind_some, if_pos rfl]
    exact .inr ⟨1, rfl, by decide⟩
  · rw [if_neg h0, chk_ok (by omega) (by omega), Option.bind_some, Option.bind_some]
    by_cases h1 : (t.Legs.length : Int) = (t.Stops.length : Int) - 1
    · rw [decide_eq_false (by simpa using h1), if_neg (by decide)]
      rcases look_loop (body := mFishref2TextFault_L546 t) (n := t.Legs.length) (fun c : Unit ⊕ Int => ∃ e, c = .inr e ∧ e ≠ 0) (fun j hj => by
          unfold mFishref2TextFault_L546
          rw [idx_lt hj, Option.bind_some]
          split
          · exact .inr ⟨_, rfl, 1, rfl, by decide⟩
          · exact .inl rfl) with e | ⟨c, e, q, rfl, hq⟩
      · rw [e, Option.bind_some]
        simp only [Sum.elim_inl]
        by_cases h8 : 8 < (t.Stops.length : Int)
        · rw [if_pos h8]
          exact .inr ⟨4, rfl, by decide⟩
        · rw [if_neg h8]
          rcases look_loop (body := mFishref2TextFault_L587 t) (n := t.Legs.length) (fun c : Unit ⊕ Int => ∃ e, c = .inr e ∧ e ≠ 0) (fun j hj => by
              unfold mFishref2TextFault_L587
              rw [idx_lt hj, Option.bind_some]
              split
              · exact .inr ⟨_, rfl, 4, rfl, by decide⟩
              · exact .inl rfl) with e2 | ⟨c, e2, q, rfl, hq⟩
          · rw [e2, Option.bind_some]
            exact .inl ⟨rfl, ⟨by omega, by omega⟩, by omega⟩
          · rw [e2, Option.bind_some]
            exact .inr ⟨q, rfl, hq⟩
      · rw [e, Option.bind_some]
        exact .inr ⟨q, rfl, hq⟩
    · rw [decide_eq_true (by simpa using h1), if_pos rfl]
      exact .inr ⟨1, rfl, by decide⟩
end Go.Proofs.Ytnmhabgnfifkdaa
