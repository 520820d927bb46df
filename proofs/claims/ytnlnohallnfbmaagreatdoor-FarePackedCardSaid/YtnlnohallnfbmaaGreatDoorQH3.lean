/- Plain: the load. -/
import Derived.Test.YtnlnohallnfbmaaGreatDoorQH2
set_option linter.unusedVariables false
set_option linter.unusedSimpArgs false
namespace Go.Proofs.YtnlnohallnfbmaaGreatDoor
open Go.RowKit Go.Fp

def cov (l : List FareSpan) (k : Nat) (i : Nat) : Bool := match l[i]? with
  | some s => decide (s.From ≤ (k : Int) ∧ (k : Int) < s.To)
  | none => false
def covs (l : List FareSpan) (k n : Nat) : List Nat := (List.range n).filter (cov l k)
def count (l : List FareSpan) (k : Nat) : Nat := (covs l k l.length).length
theorem covs_succ (l : List FareSpan) (k n : Nat) : (covs l k (n + 1)).length = (covs l k n).length + if cov l k n = true then 1 else 0 := by
  unfold covs
  rw [List.range_succ, List.filter_append, List.length_append]
  congr 1
  by_cases h : cov l k n = true
  · rw [if_pos h]
    simp [h]
  · rw [if_neg h]
    simp [h]
theorem covs_le (l : List FareSpan) (k n : Nat) : (covs l k n).length ≤ n := by
  have := List.length_filter_le (cov l k) (List.range n)
  rw [List.length_range] at this
  exact this
theorem count_spec (l : List FareSpan) (hn : l.length ≤ 200) (k : Nat) : forS (mFishkeep2FarePacked_L1118 l k) l.length 0 0 = some (count l k : Int) := by
  obtain ⟨s, e1, e2⟩ := forS_inv (body := mFishkeep2FarePacked_L1118 l k) (fun j s => s = ((covs l k j).length : Int)) l.length 0 0 rfl (fun j s _ hj hI => by
    subst hI
    have hj : j < l.length := by omega
    have hx : l[j]? = some l[j] := List.getElem?_eq_getElem hj
    have hc := covs_succ l k j
    have hb := covs_le l k j
    have hcv : cov l k j = decide (l[j].From ≤ (k : Int) ∧ (k : Int) < l[j].To) := by
      unfold cov
      rw [hx]
    unfold mFishkeep2FarePacked_L1118
    rw [idx_nat hx, Option.bind_some]
    by_cases q1 : l[j].From ≤ (k : Int)
    · rw [if_pos q1, Option.bind_some]
      by_cases q2 : (k : Int) < l[j].To
      · rw [if_pos (by simpa using q2), chk_ok (by omega) (by omega), Option.bind_some]
        rw [if_pos (by rw [hcv]; simp [q1, q2])] at hc
        exact ⟨_, rfl, by rw [hc]; omega⟩
      · rw [if_neg (by simpa using q2)]
        rw [if_neg (by rw [hcv]; simp [q1, q2])] at hc
        exact ⟨_, rfl, by rw [hc]; omega⟩
    · rw [if_neg q1, Option.bind_some, if_neg (by decide)]
      rw [if_neg (by rw [hcv]; simp [q1])] at hc
      exact ⟨_, rfl, by rw [hc]; omega⟩)
  rw [e1, e2, Nat.zero_add]
  rfl
theorem load_spec (l : List FareSpan) (hn : l.length ≤ 200) (n : Nat) : ∃ m : Nat, forS (mFishkeep2FarePacked_L977 l) n 0 0 = some (m : Int) ∧ (∀ j, j < n → count l j ≤ m) ∧ (m = 0 ∨ ∃ j, j < n ∧ m ≤ count l j) := by
  obtain ⟨s, e1, m, e2, e3, e4⟩ := forS_inv (body := mFishkeep2FarePacked_L977 l) (fun k s => ∃ m : Nat, s = (m : Int) ∧ (∀ j, j < k → count l j ≤ m) ∧ (m = 0 ∨ ∃ j, j < k ∧ m ≤ count l j)) n 0 0 ⟨0, rfl, fun j h => absurd h (Nat.not_lt_zero j), .inl rfl⟩ (fun k s _ hk hI => by
    obtain ⟨m, rfl, h1, h2⟩ := hI
    unfold mFishkeep2FarePacked_L977
    rw [count_spec l hn k, Option.bind_some]
    refine ⟨_, rfl, max m (count l k), by omega, fun j hj => ?_, ?_⟩
    · by_cases q : j = k
      · subst q
        omega
      · have := h1 j (by omega)
        omega
    · by_cases q : m ≤ count l k
      · exact .inr ⟨k, by omega, by omega⟩
      · rcases h2 with h2 | ⟨j, h3, h4⟩
        · omega
        · exact .inr ⟨j, by omega, by omega⟩)
  simp only [Nat.zero_add] at e3 e4
  exact ⟨m, by rw [e1, e2], e3, e4⟩
theorem max_spec {l : List Int} (h : l ≠ []) (hn : l.length ≤ 200) : ∃ m, mSlicesMax l = some m ∧ m ∈ l ∧ ∀ x ∈ l, x ≤ m := by
  have hp : 0 < l.length := List.length_pos_iff.2 h
  unfold mSlicesMax
  have h0 : idx l 0 = some l[0] := idx_lt (l := l) (j := 0) hp
  rw [if_neg (by omega), h0, Option.bind_some]
  obtain ⟨m, e1, e2, e3⟩ := loopM_inv (step := mSlicesMax_L165 l) (fun q => ∃ k : Nat, q.2 = (k : Int) ∧ k ≤ l.length ∧ q.1 ∈ l ∧ ∀ j (hj : j < l.length), j < k → l[j] ≤ q.1) (fun m => m ∈ l ∧ ∀ x ∈ l, x ≤ m) (fun q => l.length - q.2.toNat) (fun q hq => by
    obtain ⟨m, k'⟩ := q
    obtain ⟨k, h1, h2, h3, h4⟩ := hq
    simp only at h1 h3 h4
    subst h1
    unfold mSlicesMax_L165
    simp only [unc2]
    by_cases hc : (k : Int) < (l.length : Int)
    · have hk : k < l.length := by omega
      rw [if_pos hc, idx_lt hk, Option.bind_some, chk_ok (by omega) (by omega), Option.bind_some]
      refine .inl ⟨_, rfl, ⟨k + 1, by simp only; omega, by omega, ?_, fun j hj hjk => ?_⟩, by simp only; omega⟩
      · simp only
        rcases Int.le_total m l[k] with q | q
        · rw [Int.max_eq_right q]
          exact List.getElem_mem hk
        · rw [Int.max_eq_left q]
          exact h3
      · simp only
        by_cases q : j = k
        · subst q
          omega
        · have := h4 j hj (by omega)
          omega
    · rw [if_neg hc]
      refine .inr ⟨_, rfl, h3, fun x hx => ?_⟩
      obtain ⟨j, hj, rfl⟩ := List.getElem_of_mem hx
      exact h4 j hj (by omega)) (l[0], 1) ⟨1, rfl, by omega, List.getElem_mem hp, fun j hj hjk => by
        have : j = 0 := by omega
        subst this
        exact Int.le_refl _⟩
  rw [e1]
  exact ⟨m, rfl, e2, e3⟩
end Go.Proofs.YtnlnohallnfbmaaGreatDoor
