/- Plain: one element moved back along a list, step by step. -/
import Derived.Test.YtnlnohallnfbmaaGreatDoorQS7
set_option linter.unusedVariables false
set_option linter.unusedSimpArgs false
namespace Go.Proofs.YtnlnohallnfbmaaGreatDoor
open Go.RowKit Go.Fp

theorem move_left (A M R : List Int) (x : Int) (hl : (A ++ M ++ x :: R).length ≤ 1000000) :
    loopM (mSlicesSymMergeCmpFunc_L9025 (A.length : Int)) (((A.length + M.length : Nat) : Int), A ++ M ++ x :: R) = some (A ++ x :: (M ++ R)) := by
  have hl' : A.length + (M.length + (R.length + 1)) ≤ 1000000 := by simpa [Nat.add_assoc] using hl
  obtain ⟨t, e1, e2⟩ := loopM_inv (step := mSlicesSymMergeCmpFunc_L9025 (A.length : Int))
    (fun q => ∃ P Q, P ++ Q = M ∧ q.1 = ((A.length + P.length : Nat) : Int) ∧ q.2 = A ++ P ++ x :: (Q ++ R))
    (fun t => t = A ++ x :: (M ++ R)) (fun q => q.1.toNat) (fun q hq => by
      obtain ⟨k, l⟩ := q
      obtain ⟨P, Q, h1, h2, h3⟩ := hq
      simp only at h2 h3
      subst h2; subst h3
      have hlen : P.length + Q.length = M.length := by rw [← h1]; simp
      unfold mSlicesSymMergeCmpFunc_L9025
      simp only [unc2]
      by_cases hp : (A.length : Int) < ((A.length + P.length : Nat) : Int)
      · rw [if_pos hp]
        obtain ⟨P0, y, rfl⟩ : ∃ P0 y, P = P0 ++ [y] := ⟨P.dropLast, P.getLast (List.length_pos_iff.1 (by omega)), (List.dropLast_concat_getLast _).symm⟩
        simp only [List.length_append, List.length_singleton] at hp hlen ⊢
        have ek : ((A.length + (P0.length + 1) : Nat) : Int) - 1 = ((A.length + P0.length : Nat) : Int) := by omega
        have el : A ++ (P0 ++ [y]) ++ x :: (Q ++ R) = (A ++ P0) ++ y :: (x :: (Q ++ R)) := by simp
        have f1 : idx (A ++ (P0 ++ [y]) ++ x :: (Q ++ R)) ((A.length + P0.length : Nat) : Int) = some y := by rw [el]; exact idx_mid _ _ _ (by simp)
        have f2 : idx (A ++ (P0 ++ [y]) ++ x :: (Q ++ R)) ((A.length + (P0.length + 1) : Nat) : Int) = some x := idx_mid (A ++ (P0 ++ [y])) x _ (by simp)
        rw [ek, chk_ok (by omega) (by omega), Option.bind_some, Option.bind_some, f1, Option.bind_some, f2, Option.bind_some, Option.bind_some]
        have p1 : put (A ++ (P0 ++ [y]) ++ x :: (Q ++ R)) ((A.length + (P0.length + 1) : Nat) : Int) y = (A ++ P0) ++ y :: (y :: (Q ++ R)) := by
          rw [put_mid (A ++ (P0 ++ [y])) x y _ (by simp)]
          simp
        rw [p1, idx_mid (A ++ P0) y _ (by simp), Option.bind_some, Option.bind_some, put_mid (A ++ P0) y x _ (by simp)]
        exact .inl ⟨_, rfl, ⟨P0, y :: Q, by rw [← h1]; simp, rfl, by simp⟩, by simp only; omega⟩
      · rw [if_neg hp]
        have : P = [] := List.length_eq_zero_iff.1 (by omega)
        subst this
        refine .inr ⟨_, rfl, ?_⟩
        rw [← h1]
        simp) (((A.length + M.length : Nat) : Int), A ++ M ++ x :: R) ⟨M, [], by simp, rfl, by simp⟩
  rw [e1, e2]

end Go.Proofs.YtnlnohallnfbmaaGreatDoor
