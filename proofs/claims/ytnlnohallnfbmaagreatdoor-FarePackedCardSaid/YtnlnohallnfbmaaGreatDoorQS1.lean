/- Plain: the exchange of two stretches of a list, and rotation (slices: swapRange, rotate). -/
import Derived.Test.YtnlnohallnfbmaaGreatDoorX6
import Derived.Test.YtnlnohallnfbmaaGreatDoorQD
set_option linter.unusedVariables false
set_option linter.unusedSimpArgs false
namespace Go.Proofs.YtnlnohallnfbmaaGreatDoor
open Go.RowKit Go.Fp

theorem put_at {α : Type} (l : List α) (i : Nat) (x : α) (k : Nat) : (put l (i : Int) x)[k]? = if k = i ∧ k < l.length then some x else l[k]? := by
  rw [put_nat, List.getElem?_set]
  by_cases h : i = k
  · subst h
    by_cases hl : i < l.length
    · simp [hl]
    · simp [hl, List.getElem?_eq_none (Nat.le_of_not_lt hl)]
  · rw [if_neg h, if_neg (fun q => h q.1.symm)]
def swapAt {α : Type} (d : List α) (a b n k : Nat) : Option α := if a ≤ k ∧ k < a + n then d[k - a + b]? else if b ≤ k ∧ k < b + n then d[k - b + a]? else d[k]?
theorem swapRange_spec (T : List FareSpan) (d : List Int) (a b n : Nat) (h1 : a + n ≤ b) (h2 : b + n ≤ d.length) (h3 : d.length ≤ 1000000) :
    ∃ d', mSlicesSwapRangeCmpFunc a b n T d = some d' ∧ d'.length = d.length ∧ ∀ k, d'[k]? = swapAt d a b n k := by
  unfold mSlicesSwapRangeCmpFunc
  obtain ⟨d', e1, e2⟩ := loopM_inv (step := mSlicesSwapRangeCmpFunc_L476 a b n)
    (fun q => ∃ m : Nat, q.1 = (m : Int) ∧ m ≤ n ∧ q.2.length = d.length ∧ ∀ k, q.2[k]? = swapAt d a b m k)
    (fun d' => d'.length = d.length ∧ ∀ k, d'[k]? = swapAt d a b n k) (fun q => (n : Int).toNat - q.1.toNat) (fun q hq => by
      obtain ⟨i, l⟩ := q
      obtain ⟨m, hm, hmn, hl, hk⟩ := hq
      simp only at hm hl hk
      subst hm
      unfold mSlicesSwapRangeCmpFunc_L476
      simp only [unc2]
      by_cases hlt : (m : Int) < (n : Int)
      · rw [if_pos hlt]
        have ea : (a : Int) + (m : Int) = ((a + m : Nat) : Int) := by omega
        have eb : (b : Int) + (m : Int) = ((b + m : Nat) : Int) := by omega
        rw [ea, eb, chk_ok (by omega) (by omega), Option.bind_some, chk_ok (by omega) (by omega), Option.bind_some, Option.bind_some]
        have hA : a + m < l.length := by omega
        have hB : b + m < l.length := by omega
        rw [idx_lt hB, Option.bind_some, Option.bind_some, idx_lt hA, Option.bind_some, Option.bind_some]
        have hB' : b + m < (put l ((a + m : Nat) : Int) (l[b + m])).length := by rw [put_length]; exact hB
        rw [idx_lt hB', Option.bind_some, chk_ok (by omega) (by omega), Option.bind_some]
        refine .inl ⟨_, rfl, ⟨m + 1, by omega, by omega, by rw [put_length, put_length]; exact hl, fun k => ?_⟩, by simp only; omega⟩
        show (put (put l ((a + m : Nat) : Int) l[b + m]) ((b + m : Nat) : Int) l[a + m])[k]? = _
        rw [put_at, put_at, put_length]
        have gA := hk (a + m)
        have gB := hk (b + m)
        rw [List.getElem?_eq_getElem hA] at gA
        rw [List.getElem?_eq_getElem hB] at gB
        unfold swapAt at gA gB
        rw [if_neg (by omega), if_neg (by omega)] at gA gB
        by_cases k1 : k = b + m
        · subst k1
          rw [if_pos ⟨rfl, hB⟩, gA]
          unfold swapAt
          rw [if_neg (by omega), if_pos (by omega)]
          congr 1
          omega
        · rw [if_neg (fun q => k1 q.1)]
          by_cases k2 : k = a + m
          · subst k2
            rw [if_pos ⟨rfl, hA⟩, gB]
            unfold swapAt
            rw [if_pos (by omega)]
            congr 1
            omega
          · rw [if_neg (fun q => k2 q.1), hk k]
            unfold swapAt
            by_cases c1 : a ≤ k ∧ k < a + m
            · rw [if_pos c1, if_pos (show a ≤ k ∧ k < a + (m + 1) by omega)]
            · rw [if_neg c1, if_neg (show ¬ (a ≤ k ∧ k < a + (m + 1)) by omega)]
              by_cases c2 : b ≤ k ∧ k < b + m
              · rw [if_pos c2, if_pos (show b ≤ k ∧ k < b + (m + 1) by omega)]
              · rw [if_neg c2, if_neg (show ¬ (b ≤ k ∧ k < b + (m + 1)) by omega)]
      · rw [if_neg hlt]
        have : m = n := by omega
        subst this
        exact .inr ⟨_, rfl, hl, hk⟩) (0, d) ⟨0, rfl, by omega, rfl, fun k => by
          unfold swapAt
          rw [if_neg (by omega), if_neg (by omega)]⟩
  exact ⟨d', e1, e2⟩
/-- In pieces: X and Y, of one length, change places. -/
theorem swap_pieces (T : List FareSpan) (A X C Y B : List Int) (hXY : X.length = Y.length) (hl : (A ++ X ++ C ++ Y ++ B).length ≤ 1000000) :
    mSlicesSwapRangeCmpFunc A.length ((A.length + X.length + C.length : Nat) : Int) X.length T (A ++ X ++ C ++ Y ++ B) = some (A ++ Y ++ C ++ X ++ B) := by
  obtain ⟨d', e1, e2, e3⟩ := swapRange_spec T (A ++ X ++ C ++ Y ++ B) A.length (A.length + X.length + C.length) X.length (by omega) (by simp; omega) hl
  rw [e1]
  congr 1
  apply List.ext_getElem?
  intro k
  rw [e3 k]
  unfold swapAt
  simp only [List.append_assoc]
  by_cases k0 : k < A.length
  · rw [if_neg (by omega), if_neg (by omega), List.getElem?_append_left k0, List.getElem?_append_left k0]
  · rw [List.getElem?_append_right (l₁ := A) (l₂ := Y ++ (C ++ (X ++ B))) (by omega)]
    by_cases k1 : k < A.length + X.length
    · rw [if_pos (by omega), List.getElem?_append_left (l₁ := Y) (by omega), List.getElem?_append_right (by omega), List.getElem?_append_right (by omega), List.getElem?_append_right (by omega), List.getElem?_append_left (by omega)]
      congr 1
      omega
    · rw [if_neg (by omega), List.getElem?_append_right (l₁ := Y) (by omega)]
      by_cases k2 : k < A.length + X.length + C.length
      · rw [if_neg (by omega), List.getElem?_append_left (l₁ := C) (by omega), List.getElem?_append_right (by omega), List.getElem?_append_right (by omega), List.getElem?_append_left (by omega)]
        congr 1
        omega
      · rw [List.getElem?_append_right (l₁ := C) (by omega)]
        by_cases k3 : k < A.length + X.length + C.length + X.length
        · rw [if_pos (by omega), List.getElem?_append_left (l₁ := X) (by omega), List.getElem?_append_right (by omega), List.getElem?_append_left (by omega)]
          congr 1
          omega
        · rw [if_neg (by omega), List.getElem?_append_right (l₁ := X) (by omega), List.getElem?_append_right (by omega), List.getElem?_append_right (by omega), List.getElem?_append_right (by omega), List.getElem?_append_right (by omega)]
          congr 1
          omega

end Go.Proofs.YtnlnohallnfbmaaGreatDoor
