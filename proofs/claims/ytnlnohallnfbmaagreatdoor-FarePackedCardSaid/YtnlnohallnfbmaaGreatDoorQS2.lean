/- Plain: rotation: two neighbouring stretches change places. -/
import Derived.Test.YtnlnohallnfbmaaGreatDoorQS1
set_option linter.unusedVariables false
set_option linter.unusedSimpArgs false
namespace Go.Proofs.YtnlnohallnfbmaaGreatDoor
open Go.RowKit Go.Fp

theorem rotate_pieces (T : List FareSpan) (A X Y B : List Int) (hX : X ≠ []) (hY : Y ≠ []) (hl : (A ++ X ++ Y ++ B).length ≤ 1000000) :
    mSlicesRotateCmpFunc A.length ((A.length + X.length : Nat) : Int) ((A.length + X.length + Y.length : Nat) : Int) T (A ++ X ++ Y ++ B) = some (A ++ Y ++ X ++ B) := by
  have hl' : A.length + X.length + Y.length + B.length ≤ 1000000 := by simpa [Nat.add_assoc] using hl
  unfold mSlicesRotateCmpFunc
  rw [show ((A.length + X.length : Nat) : Int) - (A.length : Int) = (X.length : Int) by omega, show ((A.length + X.length + Y.length : Nat) : Int) - ((A.length + X.length : Nat) : Int) = (Y.length : Int) by omega, chk_ok (by omega) (by omega), Option.bind_some, chk_ok (by omega) (by omega), Option.bind_some]
  generalize hm : A.length + X.length = m
  generalize hG : A ++ Y ++ X ++ B = G
  obtain ⟨⟨i, l⟩, e1, P, X', Y', Q, q1, q2, q3, q4, q5, q6⟩ := loopM_inv (step := mSlicesRotateCmpFunc_L299 (m : Int) T)
    (fun q => ∃ P X' Y' Q : List Int, q.1 = (X'.length : Int) ∧ q.2.1 = (Y'.length : Int) ∧ P.length + X'.length = m ∧ q.2.2 = P ++ X' ++ Y' ++ Q ∧ P ++ Y' ++ X' ++ Q = G ∧ X' ≠ [] ∧ Y' ≠ [] ∧ (P ++ X' ++ Y' ++ Q).length ≤ 1000000)
    (fun r => ∃ P X' Y' Q : List Int, r.1 = (X'.length : Int) ∧ (X'.length = Y'.length) ∧ P.length + X'.length = m ∧ r.2 = P ++ X' ++ Y' ++ Q ∧ P ++ Y' ++ X' ++ Q = G ∧ (P ++ X' ++ Y' ++ Q).length ≤ 1000000)
    (fun q => q.1.toNat + q.2.1.toNat) (fun q hq => by
      obtain ⟨i, j, l⟩ := q
      obtain ⟨P, X', Y', Q, h1, h2, h3, h4, h5, h6, h7, h8⟩ := hq
      simp only at h1 h2 h4
      subst h1; subst h2; subst h4
      have x0 : 0 < X'.length := List.length_pos_iff.2 h6
      have y0 : 0 < Y'.length := List.length_pos_iff.2 h7
      have h8' : P.length + X'.length + Y'.length + Q.length ≤ 1000000 := by simpa [Nat.add_assoc] using h8
      unfold mSlicesRotateCmpFunc_L299
      simp only [unc3]
      by_cases hne : (X'.length : Int) ≠ (Y'.length : Int)
      · rw [if_pos hne]
        by_cases hgt : (Y'.length : Int) < (X'.length : Int)
        · rw [if_pos hgt]
          have ex : X' = X'.take Y'.length ++ X'.drop Y'.length := (List.take_append_drop _ _).symm
          generalize hx1 : X'.take Y'.length = X1 at ex
          generalize hx2 : X'.drop Y'.length = X2 at ex
          have l1 : X1.length = Y'.length := by rw [← hx1, List.length_take]; omega
          have l2 : X2.length = X'.length - Y'.length := by rw [← hx2, List.length_drop]
          have sw := swap_pieces T P X1 X2 Y' Q l1 (by simp; omega)
          have ea : (m : Int) - (X'.length : Int) = (P.length : Int) := by omega
          have eb : ((P.length + X1.length + X2.length : Nat) : Int) = (m : Int) := by omega
          have el : P ++ X' ++ Y' ++ Q = P ++ X1 ++ X2 ++ Y' ++ Q := by rw [ex]; simp
          rw [ea, chk_ok (by omega) (by omega), Option.bind_some, el]
          rw [eb, l1] at sw
          rw [sw, Option.bind_some, chk_ok (by omega) (by omega), Option.bind_some]
          refine .inl ⟨_, rfl, ⟨P ++ Y', X2, X1, Q, by simp only; omega, by simp only; omega, by simp; omega, by simp, ?_, List.length_pos_iff.1 (by omega), List.length_pos_iff.1 (by omega), by simp; omega⟩, by simp only; omega⟩
          rw [← h5, ex]
          simp
        · rw [if_neg hgt]
          have ey : Y' = Y'.take (Y'.length - X'.length) ++ Y'.drop (Y'.length - X'.length) := (List.take_append_drop _ _).symm
          generalize hy1 : Y'.take (Y'.length - X'.length) = Y1 at ey
          generalize hy2 : Y'.drop (Y'.length - X'.length) = Y2 at ey
          have l1 : Y1.length = Y'.length - X'.length := by rw [← hy1, List.length_take]; omega
          have l2 : Y2.length = X'.length := by rw [← hy2, List.length_drop]; omega
          have sw := swap_pieces T P X' Y1 Y2 Q l2.symm (by simp; omega)
          have ea : (m : Int) - (X'.length : Int) = (P.length : Int) := by omega
          have eb : ((P.length + X'.length + Y1.length : Nat) : Int) = (m : Int) + (Y'.length : Int) - (X'.length : Int) := by omega
          have el : P ++ X' ++ Y' ++ Q = P ++ X' ++ Y1 ++ Y2 ++ Q := by rw [ey]; simp
          rw [ea, chk_ok (by omega) (by omega), Option.bind_some, chk_ok (by omega) (by omega), Option.bind_some, chk_ok (by omega) (by omega), Option.bind_some, el]
          rw [eb] at sw
          rw [sw, Option.bind_some, chk_ok (by omega) (by omega), Option.bind_some]
          refine .inl ⟨_, rfl, ⟨P, Y2, Y1, X' ++ Q, by simp only; omega, by simp only; omega, by omega, by simp, ?_, List.length_pos_iff.1 (by omega), List.length_pos_iff.1 (by omega), by simp; omega⟩, by simp only; omega⟩
          rw [← h5, ey]
          simp
      · rw [if_neg hne]
        exact .inr ⟨_, rfl, P, X', Y', Q, rfl, by omega, h3, rfl, h5, h8⟩) ((X.length : Int), (Y.length : Int), A ++ X ++ Y ++ B) ⟨A, X, Y, B, rfl, rfl, hm, rfl, hG, hX, hY, hl⟩
  simp only at q1 q4
  subst q1; subst q4
  have q6' : P.length + X'.length + Y'.length + Q.length ≤ 1000000 := by simpa [Nat.add_assoc] using q6
  rw [e1, Option.bind_some]
  simp only [unc2]
  have sw := swap_pieces T P X' [] Y' Q q2 (by simpa using q6)
  have ea : (m : Int) - (X'.length : Int) = (P.length : Int) := by omega
  simp only [List.length_nil, Nat.add_zero, List.append_nil] at sw
  rw [q3] at sw
  rw [ea, chk_ok (by omega) (by omega), Option.bind_some, sw, Option.bind_some, q5]

end Go.Proofs.YtnlnohallnfbmaaGreatDoor
