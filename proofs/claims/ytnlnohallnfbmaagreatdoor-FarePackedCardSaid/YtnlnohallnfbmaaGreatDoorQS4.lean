/- Plain: insertion sort of a stretch whose numbers grow. -/
import Derived.Test.YtnlnohallnfbmaaGreatDoorQS3
set_option linter.unusedVariables false
set_option linter.unusedSimpArgs false
namespace Go.Proofs.YtnlnohallnfbmaaGreatDoor
open Go.RowKit Go.Fp

section
variable {T : List FareSpan}
theorem insertion_pieces (A S B : List Int) (hv : ∀ y ∈ S, Valid T y) (hs : S.Pairwise (· < ·)) (hl : (A ++ S ++ B).length ≤ 1000000) :
    ∃ S', mSlicesInsertionSortCmpFunc (A.length : Int) ((A.length + S.length : Nat) : Int) T (A ++ S ++ B) = some (A ++ S' ++ B) ∧ S'.Perm S ∧ S'.Pairwise (Ord T) := by
  have hl' : A.length + S.length + B.length ≤ 1000000 := by simpa [Nat.add_assoc] using hl
  unfold mSlicesInsertionSortCmpFunc
  rw [chk_ok (by omega) (by omega), Option.bind_some]
  cases S with
  | nil =>
    refine ⟨[], loopM_last ?_, .refl _, .nil⟩
    unfold mSlicesInsertionSortCmpFunc_L5538
    simp only [unc2]
    rw [if_neg (by simp only [List.length_nil, Nat.add_zero]; omega)]
  | cons x S0 =>
    obtain ⟨r, e1, S', e2, e3, e4⟩ := loopM_inv (step := mSlicesInsertionSortCmpFunc_L5538 (A.length : Int) ((A.length + (x :: S0).length : Nat) : Int) T)
      (fun q => ∃ P S1 Q, S1 ++ Q = x :: S0 ∧ P.Perm S1 ∧ P.Pairwise (Ord T) ∧ q.1 = ((A.length + P.length : Nat) : Int) ∧ q.2 = A ++ P ++ Q ++ B)
      (fun r => ∃ S', r = A ++ S' ++ B ∧ S'.Perm (x :: S0) ∧ S'.Pairwise (Ord T)) (fun q => (A.length + (x :: S0).length) - q.1.toNat) (fun q hq => by
        obtain ⟨i, l⟩ := q
        obtain ⟨P, S1, Q, h1, h2, h3, h4, h5⟩ := hq
        simp only at h4 h5
        subst h4; subst h5
        have hlen : P.length + Q.length = (x :: S0).length := by rw [← h1, List.length_append, h2.length_eq]
        unfold mSlicesInsertionSortCmpFunc_L5538
        simp only [unc2]
        cases Q with
        | nil =>
          simp only [List.length_nil, Nat.add_zero] at hlen
          rw [if_neg (by omega)]
          refine .inr ⟨_, rfl, P, by simp, ?_, h3⟩
          rw [← h1, List.append_nil]
          exact h2
        | cons y Q =>
          simp only [List.length_cons] at hlen hl'
          rw [if_pos (by simp only [List.length_cons]; omega)]
          have hmem : ∀ z, z ∈ S1 ∨ z ∈ y :: Q → z ∈ x :: S0 := fun z hz => by rw [← h1]; simpa using hz
          have hpw := hs
          rw [← h1, List.pairwise_append] at hpw
          obtain ⟨P', p1, p2, p3⟩ := insert_pieces (T := T) A (x := y) (Q := Q ++ B) P (hv y (hmem y (.inr (by simp)))) (fun z hz => ⟨hv z (hmem z (.inl (h2.subset hz))), hpw.2.2 z (h2.subset hz) y (by simp)⟩) h3 (by simp; omega)
          have el : A ++ P ++ y :: Q ++ B = A ++ P ++ y :: (Q ++ B) := by simp
          rw [el, p1, Option.bind_some, chk_ok (by omega) (by omega), Option.bind_some]
          have pl : P'.length = P.length + 1 := by rw [p2.length_eq]; simp
          refine .inl ⟨_, rfl, ⟨P', S1 ++ [y], Q, by rw [← h1]; simp, p2.trans (h2.append_right [y]), p3, by simp only; omega, by simp⟩, by simp only [List.length_cons]; omega⟩) ((A.length : Int) + 1, A ++ x :: S0 ++ B) ⟨[x], [x], S0, rfl, .refl _, by simp, by simp, by simp⟩
    exact ⟨S', by rw [e1, e2], e3, e4⟩
end

end Go.Proofs.YtnlnohallnfbmaaGreatDoor
