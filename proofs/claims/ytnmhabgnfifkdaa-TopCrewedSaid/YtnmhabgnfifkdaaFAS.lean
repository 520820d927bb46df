/- Plain: the sort of few numbers (slices.Sort); searches. -/
import Derived.Test.YtnmhabgnfifkdaaFA1
set_option linter.unusedVariables false
set_option linter.unusedSimpArgs false
namespace Go.Proofs.Ytnmhabgnfifkdaa
open Go.RowKit Go.Fp

theorem any_spec {α : Type} {p : α → Prop} [DecidablePred p] (l : List α) (body : Nat → Unit → Option (Unit ⊕ Int)) (hb : ∀ (k : Nat) (h : k < l.length), body k () = some (if p l[k] then .inr (k : Int) else .inl ())) :
    ∃ r, ((Go.Fp.forM body l.length 0 ()).bind fun t => Sum.elim (fun _ => some (-1)) (fun q => some q) t) = some r ∧ (0 ≤ r ↔ ∃ x ∈ l, p x) := by
  rcases forM_inv (body := body) (fun k _ => ∀ j : Nat, j < k → ∀ h : j < l.length, ¬ p l[j]) (fun r => 0 ≤ r ∧ ∃ x ∈ l, p x) l.length 0 () (fun j h => absurd h (Nat.not_lt_zero j)) (fun k _ _ hk hI => by
      have hk : k < l.length := by omega
      rw [hb k hk]
      by_cases c : p l[k]
      · rw [if_pos c]
        exact .inr ⟨_, rfl, by omega, l[k], List.getElem_mem hk, c⟩
      · rw [if_neg c]
        refine .inl ⟨_, rfl, fun j hj h => ?_⟩
        by_cases e : j = k
        · subst e; exact c
        · exact hI j (by omega) h) with ⟨s, f1, f2⟩ | ⟨t, f1, f2⟩
  · rw [f1]
    refine ⟨-1, rfl, fun h => absurd h (by decide), fun ⟨x, hx, hp⟩ => ?_⟩
    obtain ⟨j, hj, rfl⟩ := List.getElem_of_mem hx
    exact absurd hp (f2 j (by omega) hj)
  · rw [f1]
    exact ⟨t, rfl, fun _ => f2.2, fun _ => f2.1⟩
theorem idx_mid {α : Type} (L : List α) (x : α) (M : List α) {i : Int} (h : i = (L.length : Int)) : idx (L ++ x :: M) i = some x := by
  rw [h, idx_lt (by simp)]
  simp
theorem put_mid {α : Type} (L : List α) (x y : α) (M : List α) {i : Int} (h : i = (L.length : Int)) : put (L ++ x :: M) i y = L ++ y :: M := by
  rw [h, put_nat]
  simp
theorem less_spec (a b : Int) : mCmpLess a b = some (decide (a < b)) := by
  unfold mCmpLess mCmpIsNaN
  simp
theorem insO {x : Int} (P Q : List Int) (hs : P.Pairwise (· ≤ ·)) (hl : (P ++ x :: Q).length ≤ 1000000) :
    ∃ P', loopM (mSlicesInsertionSortOrdered_L9840 0) ((P.length : Int), P ++ x :: Q) = some (P' ++ Q) ∧ P'.Perm (P ++ [x]) ∧ P'.Pairwise (· ≤ ·) := by
  have hl' : P.length + (Q.length + 1) ≤ 1000000 := by simpa using hl
  obtain ⟨r, e1, P', e2, e3, e4⟩ := loopM_inv (step := mSlicesInsertionSortOrdered_L9840 0)
    (fun q => ∃ P1 P2, P1 ++ P2 = P ∧ q.1 = (P1.length : Int) ∧ q.2 = P1 ++ x :: (P2 ++ Q) ∧ ∀ y ∈ P2, x < y)
    (fun r => ∃ P', r = P' ++ Q ∧ P'.Perm (P ++ [x]) ∧ P'.Pairwise (· ≤ ·)) (fun q => q.1.toNat) (fun q hq => by
      obtain ⟨j, l⟩ := q
      obtain ⟨P1, P2, h1, h2, h3, h4⟩ := hq
      simp only at h2 h3
      subst h2; subst h3
      have hlen : P1.length + P2.length = P.length := by rw [← h1]; simp
      have stop : (∀ y ∈ P1, y ≤ x) → ∃ P', P1 ++ x :: (P2 ++ Q) = P' ++ Q ∧ P'.Perm (P ++ [x]) ∧ P'.Pairwise (· ≤ ·) := fun hle => by
        refine ⟨P1 ++ x :: P2, by simp, ?_, ?_⟩
        · rw [← h1]
          have : (P1 ++ x :: P2).Perm (x :: (P1 ++ P2)) := List.perm_middle
          exact this.trans (List.perm_append_singleton x (P1 ++ P2)).symm
        · rw [← h1, List.pairwise_append] at hs
          rw [List.pairwise_append, List.pairwise_cons]
          refine ⟨hs.1, ⟨fun y hy => Int.le_of_lt (h4 y hy), hs.2.1⟩, fun y hy z hz => ?_⟩
          simp only [List.mem_cons] at hz
          rcases hz with rfl | hz
          · exact hle y hy
          · exact hs.2.2 y hy z hz
      unfold mSlicesInsertionSortOrdered_L9840
      simp only [unc2]
      by_cases ha : 0 < (P1.length : Int)
      · rw [if_pos ha]
        obtain ⟨P0, y, rfl⟩ : ∃ P0 y, P1 = P0 ++ [y] := ⟨P1.dropLast, P1.getLast (List.length_pos_iff.1 (by omega)), (List.dropLast_concat_getLast _).symm⟩
        simp only [List.length_append, List.length_singleton] at ha hlen ⊢
        have f1 : idx ((P0 ++ [y]) ++ x :: (P2 ++ Q)) ((P0.length + 1 : Nat) : Int) = some x := idx_mid (P0 ++ [y]) x (P2 ++ Q) (by simp)
        have e2 : (P0 ++ [y]) ++ x :: (P2 ++ Q) = P0 ++ y :: (x :: (P2 ++ Q)) := by simp
        have f2 : idx ((P0 ++ [y]) ++ x :: (P2 ++ Q)) (((P0.length + 1 : Nat) : Int) - 1) = some y := by rw [e2]; exact idx_mid _ _ _ (by simp)
        rw [f1, Option.bind_some, chk_ok (by omega) (by omega), Option.bind_some, f2, Option.bind_some, less_spec, Option.bind_some, Option.bind_some]
        by_cases hv : x < y
        · rw [decide_eq_true hv, if_pos rfl]
          simp only [Option.bind_some]
          have p1 : put ((P0 ++ [y]) ++ x :: (P2 ++ Q)) ((P0.length + 1 : Nat) : Int) y = P0 ++ y :: (y :: (P2 ++ Q)) := by
            rw [put_mid (P0 ++ [y]) x y (P2 ++ Q) (by simp)]
            simp
          rw [p1, idx_mid P0 y _ (by simp), Option.bind_some]
          rw [put_mid P0 y x _ (by simp)]
          refine .inl ⟨_, rfl, ⟨P0, y :: P2, by rw [← h1]; simp, by simp only; omega, by simp, fun z hz => ?_⟩, by simp only; omega⟩
          simp only [List.mem_cons] at hz
          rcases hz with rfl | hz
          · exact hv
          · exact h4 z hz
        · rw [decide_eq_false hv, if_neg (by decide)]
          refine .inr ⟨_, rfl, stop (fun z hz => ?_)⟩
          simp only [List.mem_append, List.mem_singleton] at hz
          rcases hz with hz | rfl
          · rw [← h1, List.pairwise_append, List.pairwise_append] at hs
            have := hs.1.2.2 z hz y (by simp)
            omega
          · omega
      · rw [if_neg ha, Option.bind_some, if_neg (by decide)]
        have : P1 = [] := List.length_eq_zero_iff.1 (by omega)
        subst this
        exact .inr ⟨_, rfl, stop (fun y hy => by simp at hy)⟩) ((P.length : Int), P ++ x :: Q) ⟨P, [], by simp, rfl, by simp, fun y hy => by simp at hy⟩
  exact ⟨P', by rw [e1, e2], e3, e4⟩
theorem sortO (S : List Int) (hl : S.length ≤ 1000) : ∃ S', mSlicesInsertionSortOrdered 0 (S.length : Int) S = some S' ∧ S'.Perm S ∧ S'.Pairwise (· ≤ ·) := by
  unfold mSlicesInsertionSortOrdered
  rw [chk_ok (by omega) (by omega), Option.bind_some]
  cases S with
  | nil =>
    refine ⟨[], loopM_last ?_, .refl _, .nil⟩
    unfold mSlicesInsertionSortOrdered_L5371
    simp only [unc2]
    rw [if_neg (by simp)]
  | cons x S0 =>
    obtain ⟨r, e1, e2, e3⟩ := loopM_inv (step := mSlicesInsertionSortOrdered_L5371 0 ((x :: S0).length : Int))
      (fun q => ∃ P S1 Q, S1 ++ Q = x :: S0 ∧ P.Perm S1 ∧ P.Pairwise (· ≤ ·) ∧ q.1 = (P.length : Int) ∧ q.2 = P ++ Q)
      (fun r => r.Perm (x :: S0) ∧ r.Pairwise (· ≤ ·)) (fun q => (x :: S0).length - q.1.toNat) (fun q hq => by
        obtain ⟨i, l⟩ := q
        obtain ⟨P, S1, Q, h1, h2, h3, h4, h5⟩ := hq
        simp only at h4 h5
        subst h4; subst h5
        have hlen : P.length + Q.length = (x :: S0).length := by rw [← h1, List.length_append, h2.length_eq]
        unfold mSlicesInsertionSortOrdered_L5371
        simp only [unc2]
        cases Q with
        | nil =>
          simp only [List.length_nil, Nat.add_zero] at hlen
          rw [if_neg (by omega)]
          refine .inr ⟨_, rfl, ?_, by simpa using h3⟩
          rw [← h1, List.append_nil, List.append_nil]
          exact h2
        | cons y Q =>
          simp only [List.length_cons] at hlen hl
          rw [if_pos (by simp only [List.length_cons]; omega)]
          obtain ⟨P', g1, g2, g3⟩ := insO P Q h3 (x := y) (by simp only [List.length_append, List.length_cons]; omega)
          rw [g1, Option.bind_some, chk_ok (by omega) (by omega), Option.bind_some]
          have gl : P'.length = P.length + 1 := by rw [g2.length_eq]; simp
          refine .inl ⟨_, rfl, ⟨P', S1 ++ [y], Q, by rw [← h1]; simp, g2.trans (h2.append_right [y]), g3, by simp only; omega, rfl⟩, by simp only [List.length_cons]; omega⟩) (0 + 1, x :: S0) ⟨[x], [x], S0, by simp, .refl _, List.pairwise_singleton _ _, by simp, by simp⟩
    exact ⟨r, e1, e2, e3⟩
theorem len_small : ∀ n : Fin 13, (mBitsLen (IntKind.wrap .u64 (n.val : Int))).isSome = true := by decide +kernel
theorem sort_few (S : List Int) (hl : S.length ≤ 12) : ∃ S', mSlicesSort S = some S' ∧ S'.Perm S ∧ S'.Pairwise (· ≤ ·) := by
  obtain ⟨S', h1, h2, h3⟩ := sortO S (by omega)
  obtain ⟨b, hb⟩ := Option.isSome_iff_exists.1 (len_small ⟨S.length, by omega⟩)
  refine ⟨S', ?_, h2, h3⟩
  unfold mSlicesSort
  have key : ∀ N, mSlicesPdqsortOrdered (N + 1) 0 (S.length : Int) b S = some S' := fun N => by
    show loopM (mSlicesPdqsortOrdered_L2079 (mSlicesPdqsortOrdered N)) (0, (S.length : Int), b, true, true, S) = some S'
    refine loopM_last ?_
    unfold mSlicesPdqsortOrdered_L2079
    simp only [unc6]
    rw [chk_ok (by omega) (by omega), Option.bind_some, if_pos (show (S.length : Int) - 0 ≤ 12 by omega), h1, Option.bind_some]
  rw [hb, Option.bind_some]
  obtain ⟨a, ha, rfl⟩ := lim_ok (P := fun r => r = S') (f := fun N => mSlicesPdqsortOrdered N 0 (S.length : Int) b S) ⟨1, S', key 0⟩ (fun N r hr => by
    cases N with
    | zero => cases hr
    | succ N =>
      have hr' : mSlicesPdqsortOrdered (N + 1) 0 (S.length : Int) b S = some r := hr
      rw [key N] at hr'
      injection hr' with hr'
      exact hr'.symm)
  rw [ha, Option.bind_some]
end Go.Proofs.Ytnmhabgnfifkdaa
