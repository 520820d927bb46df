/- Plain: the order of tasks by departure; insertion sort keeps and sorts. -/
import Derived.Test.YtnlnohallnfbmaaGreatDoorQS2
set_option linter.unusedVariables false
set_option linter.unusedSimpArgs false
namespace Go.Proofs.YtnlnohallnfbmaaGreatDoor
open Go.RowKit Go.Fp

def Valid (T : List FareSpan) (a : Int) : Prop := 0 ≤ a ∧ a < (T.length : Int)
def depOf (T : List FareSpan) (a : Int) : Int := match idx T a with
  | some t => t.From
  | none => 0
def Ord (T : List FareSpan) (a b : Int) : Prop := depOf T a < depOf T b ∨ (depOf T a = depOf T b ∧ a < b)
theorem order1_spec {T : List FareSpan} {a b : Int} (ha : Valid T a) (hb : Valid T b) : ∃ v, mFarePack_1 a b T = some v ∧ (v < 0 ↔ depOf T a < depOf T b) := by
  obtain ⟨t, h1, _⟩ := idx_get ha.1 ha.2
  obtain ⟨u, h2, _⟩ := idx_get hb.1 hb.2
  unfold mFarePack_1 depOf
  rw [h1, h2, Option.bind_some, Option.bind_some]
  unfold mCmpCompare mCmpIsNaN
  simp only [Option.bind_some, ne_eq, not_true_eq_false, decide_false, Bool.false_eq_true, if_false]
  by_cases c1 : t.From < u.From
  · rw [if_pos c1]
    exact ⟨-1, rfl, fun _ => c1, fun _ => by decide⟩
  · rw [if_neg c1]
    by_cases c2 : u.From < t.From
    · rw [if_pos c2]
      exact ⟨1, rfl, fun h => absurd h (by decide), fun h => absurd h c1⟩
    · rw [if_neg c2]
      exact ⟨0, rfl, fun h => absurd h (by decide), fun h => absurd h c1⟩
theorem idx_mid {α : Type} (L : List α) (x : α) (M : List α) {i : Int} (h : i = (L.length : Int)) : idx (L ++ x :: M) i = some x := by
  subst h
  apply idx_nat
  simp
theorem put_mid {α : Type} (L : List α) (x y : α) (M : List α) {i : Int} (h : i = (L.length : Int)) : put (L ++ x :: M) i y = L ++ y :: M := by
  subst h
  rw [put_nat]
  simp
theorem ord_trans {T : List FareSpan} {a b c : Int} (h1 : Ord T a b) (h2 : Ord T b c) : Ord T a c := by
  unfold Ord at *
  omega
section
variable {T : List FareSpan}
theorem insert_pieces (A : List Int) {x : Int} {Q : List Int} (P : List Int) (hx : Valid T x) (hP : ∀ y ∈ P, Valid T y ∧ y < x) (hs : P.Pairwise (Ord T)) (hl : (A ++ P ++ x :: Q).length ≤ 1000000) :
    ∃ P', loopM (mSlicesInsertionSortCmpFunc_L10142 (A.length : Int) T) (((A.length + P.length : Nat) : Int), A ++ P ++ x :: Q) = some (A ++ P' ++ Q) ∧ P'.Perm (P ++ [x]) ∧ P'.Pairwise (Ord T) := by
  have hl' : A.length + P.length + (Q.length + 1) ≤ 1000000 := by simpa [Nat.add_assoc] using hl
  obtain ⟨r, e1, P', e2, e3, e4⟩ := loopM_inv (step := mSlicesInsertionSortCmpFunc_L10142 (A.length : Int) T)
    (fun q => ∃ P1 P2, P1 ++ P2 = P ∧ q.1 = ((A.length + P1.length : Nat) : Int) ∧ q.2 = A ++ P1 ++ x :: (P2 ++ Q) ∧ ∀ y ∈ P2, depOf T x < depOf T y)
    (fun r => ∃ P', r = A ++ P' ++ Q ∧ P'.Perm (P ++ [x]) ∧ P'.Pairwise (Ord T)) (fun q => q.1.toNat) (fun q hq => by
      obtain ⟨j, l⟩ := q
      obtain ⟨P1, P2, h1, h2, h3, h4⟩ := hq
      simp only at h2 h3
      subst h2; subst h3
      have hlen : P1.length + P2.length = P.length := by rw [← h1]; simp
      have stop : (∀ y ∈ P1, depOf T y ≤ depOf T x) → ∃ P', A ++ P1 ++ x :: (P2 ++ Q) = A ++ P' ++ Q ∧ P'.Perm (P ++ [x]) ∧ P'.Pairwise (Ord T) := fun hle => by
        refine ⟨P1 ++ x :: P2, by simp, ?_, ?_⟩
        · rw [← h1]
          have : (P1 ++ x :: P2).Perm (x :: (P1 ++ P2)) := List.perm_middle
          exact this.trans (List.perm_append_singleton x (P1 ++ P2)).symm
        · rw [← h1, List.pairwise_append] at hs
          rw [List.pairwise_append, List.pairwise_cons]
          refine ⟨hs.1, ⟨fun y hy => .inl (h4 y hy), hs.2.1⟩, fun y hy z hz => ?_⟩
          simp only [List.mem_cons] at hz
          rcases hz with rfl | hz
          · have := hle y hy
            have := (hP y (by rw [← h1]; simp [hy])).2
            unfold Ord
            omega
          · exact hs.2.2 y hy z hz
      unfold mSlicesInsertionSortCmpFunc_L10142
      simp only [unc2]
      by_cases ha : (A.length : Int) < ((A.length + P1.length : Nat) : Int)
      · rw [if_pos ha]
        obtain ⟨P0, y, rfl⟩ : ∃ P0 y, P1 = P0 ++ [y] := ⟨P1.dropLast, P1.getLast (List.length_pos_iff.1 (by omega)), (List.dropLast_concat_getLast _).symm⟩
        have hy := (hP y (by rw [← h1]; simp))
        simp only [List.length_append, List.length_singleton] at ha hlen ⊢
        have f1 : idx (A ++ (P0 ++ [y]) ++ x :: (P2 ++ Q)) ((A.length + (P0.length + 1) : Nat) : Int) = some x := idx_mid (A ++ (P0 ++ [y])) x (P2 ++ Q) (by simp)
        have e2 : A ++ (P0 ++ [y]) ++ x :: (P2 ++ Q) = (A ++ P0) ++ y :: (x :: (P2 ++ Q)) := by simp
        have f2 : idx (A ++ (P0 ++ [y]) ++ x :: (P2 ++ Q)) (((A.length + (P0.length + 1) : Nat) : Int) - 1) = some y := by rw [e2]; exact idx_mid _ _ _ (by simp; omega)
        obtain ⟨v, v1, v2⟩ := order1_spec hx hy.1
        rw [f1, Option.bind_some, chk_ok (by omega) (by omega), Option.bind_some, f2, Option.bind_some, v1, Option.bind_some, Option.bind_some]
        by_cases hv : v < 0
        · have hdep := v2.1 hv
          rw [decide_eq_true hv, if_pos rfl]
          simp only [Option.bind_some]
          have p1 : put (A ++ (P0 ++ [y]) ++ x :: (P2 ++ Q)) ((A.length + (P0.length + 1) : Nat) : Int) y = (A ++ P0) ++ y :: (y :: (P2 ++ Q)) := by
            rw [put_mid (A ++ (P0 ++ [y])) x y (P2 ++ Q) (by simp)]
            simp
          rw [p1, idx_mid (A ++ P0) y _ (by simp; omega), Option.bind_some]
          rw [put_mid (A ++ P0) y x _ (by simp; omega)]
          refine .inl ⟨_, rfl, ⟨P0, y :: P2, by rw [← h1]; simp, by simp only; omega, by simp, fun z hz => ?_⟩, by simp only; omega⟩
          simp only [List.mem_cons] at hz
          rcases hz with rfl | hz
          · exact hdep
          · exact h4 z hz
        · rw [decide_eq_false hv, if_neg (by decide)]
          refine .inr ⟨_, rfl, stop (fun z hz => ?_)⟩
          have hyx : depOf T y ≤ depOf T x := by
            by_cases q : depOf T x < depOf T y
            · exact absurd (v2.2 q) hv
            · omega
          simp only [List.mem_append, List.mem_singleton] at hz
          rcases hz with hz | rfl
          · rw [← h1, List.pairwise_append, List.pairwise_append] at hs
            have := hs.1.2.2 z hz y (by simp)
            unfold Ord at this
            omega
          · exact hyx
      · rw [if_neg ha, Option.bind_some, if_neg (by decide)]
        have : P1 = [] := List.length_eq_zero_iff.1 (by omega)
        subst this
        exact .inr ⟨_, rfl, stop (fun y hy => by simp at hy)⟩) (((A.length + P.length : Nat) : Int), A ++ P ++ x :: Q) ⟨P, [], by simp, rfl, by simp, fun y hy => by simp at hy⟩
  exact ⟨P', by rw [e1, e2], e3, e4⟩
end

end Go.Proofs.YtnlnohallnfbmaaGreatDoor
