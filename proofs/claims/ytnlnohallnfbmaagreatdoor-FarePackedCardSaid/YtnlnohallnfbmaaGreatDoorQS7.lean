/- Plain: one element moved along a list, step by step. -/
import Derived.Test.YtnlnohallnfbmaaGreatDoorQS6
set_option linter.unusedVariables false
set_option linter.unusedSimpArgs false
namespace Go.Proofs.YtnlnohallnfbmaaGreatDoor
open Go.RowKit Go.Fp

theorem move_right (A M R : List Int) (x : Int) (hl : (A ++ x :: (M ++ R)).length ≤ 1000000) :
    loopM (mSlicesSymMergeCmpFunc_L7644 ((A.length + M.length + 1 : Nat) : Int)) ((A.length : Int), A ++ x :: (M ++ R)) = some (A ++ M ++ x :: R) := by
  have hl' : A.length + (M.length + R.length + 1) ≤ 1000000 := by simpa [Nat.add_assoc] using hl
  obtain ⟨t, e1, e2⟩ := loopM_inv (step := mSlicesSymMergeCmpFunc_L7644 ((A.length + M.length + 1 : Nat) : Int))
    (fun q => ∃ P Q, P ++ Q = M ∧ q.1 = ((A.length + P.length : Nat) : Int) ∧ q.2 = A ++ P ++ x :: (Q ++ R))
    (fun t => t = A ++ M ++ x :: R) (fun q => (A.length + M.length) - q.1.toNat) (fun q hq => by
      obtain ⟨k, l⟩ := q
      obtain ⟨P, Q, h1, h2, h3⟩ := hq
      simp only at h2 h3
      subst h2; subst h3
      have hlen : P.length + Q.length = M.length := by rw [← h1]; simp
      have ei : ((A.length + M.length + 1 : Nat) : Int) - 1 = ((A.length + M.length : Nat) : Int) := by omega
      unfold mSlicesSymMergeCmpFunc_L7644
      simp only [unc2]
      rw [ei, chk_ok (by omega) (by omega), Option.bind_some]
      cases Q with
      | nil =>
        simp only [List.length_nil, Nat.add_zero] at hlen
        rw [if_neg (by omega)]
        refine .inr ⟨_, rfl, ?_⟩
        rw [← h1]
        simp
      | cons y Q =>
        simp only [List.length_cons] at hlen
        rw [if_pos (by omega)]
        have ek : ((A.length + P.length : Nat) : Int) + 1 = ((A.length + P.length + 1 : Nat) : Int) := by omega
        have el : A ++ P ++ x :: (y :: Q ++ R) = (A ++ P ++ [x]) ++ y :: (Q ++ R) := by simp
        have f1 : idx (A ++ P ++ x :: (y :: Q ++ R)) ((A.length + P.length + 1 : Nat) : Int) = some y := by rw [el]; exact idx_mid _ _ _ (by simp; omega)
        have f2 : idx (A ++ P ++ x :: (y :: Q ++ R)) ((A.length + P.length : Nat) : Int) = some x := idx_mid (A ++ P) x _ (by simp)
        rw [ek, chk_ok (by omega) (by omega), Option.bind_some, Option.bind_some, f1, Option.bind_some, f2, Option.bind_some, Option.bind_some]
        have p1 : put (A ++ P ++ x :: (y :: Q ++ R)) ((A.length + P.length : Nat) : Int) y = (A ++ P ++ [y]) ++ y :: (Q ++ R) := by
          rw [put_mid (A ++ P) x y _ (by simp)]
          simp
        rw [p1, idx_mid (A ++ P ++ [y]) y _ (by simp; omega), Option.bind_some, Option.bind_some, put_mid (A ++ P ++ [y]) y x _ (by simp; omega)]
        exact .inl ⟨_, rfl, ⟨P ++ [y], Q, by rw [← h1]; simp, by simp; omega, by simp⟩, by simp only; omega⟩) ((A.length : Int), A ++ x :: (M ++ R)) ⟨[], M, rfl, by simp, by simp⟩
  rw [e1, e2]

end Go.Proofs.YtnlnohallnfbmaaGreatDoor
