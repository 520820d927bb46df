/- Plain texts in one: CS1, CS2, CS3, CS4, CS5, CS6, CS7, CS8, CS9, CSA, CSB, CSC. -/
import Derived.Test.YthcgoaejnpelbaaGreatDoorX6
import Derived.Test.YthcgoaejnpelbaaGreatDoorOD
set_option linter.unusedVariables false
set_option linter.unusedSimpArgs false
namespace Go.Proofs.YthcgoaejnpelbaaGreatDoor.C
open Go.RowKit Go.Fp

/-- What the comparison of two seats looks at. -/
structure Ctx where
  f : Int
  t : Int
  r : Int
  c : Int
  s : Int
  bk : List FareBooking
  cn : List Bool

theorem put_at {α : Type} (l : List α) (i : Nat) (x : α) (k : Nat) : (put l (i : Int) x)[k]? = if k = i ∧ k < l.length then some x else l[k]? := by
  rw [put_nat, List.getElem?_set]
  by_cases h : i = k
  · subst h
    by_cases hl : i < l.length
    · simp [hl]
    · simp [hl, List.getElem?_eq_none (Nat.le_of_not_lt hl)]
  · rw [if_neg h, if_neg (fun q => h q.1.symm)]
def swapAt {α : Type} (d : List α) (a b n k : Nat) : Option α := if a ≤ k ∧ k < a + n then d[k - a + b]? else if b ≤ k ∧ k < b + n then d[k - b + a]? else d[k]?
theorem swapRange_spec (T : Ctx) (d : List Int) (a b n : Nat) (h1 : a + n ≤ b) (h2 : b + n ≤ d.length) (h3 : d.length ≤ 1000000) :
    ∃ d', mSlicesSwapRangeCmpFunc a b n T.f T.t T.r T.c T.s d T.bk T.cn = some d' ∧ d'.length = d.length ∧ ∀ k, d'[k]? = swapAt d a b n k := by
  unfold mSlicesSwapRangeCmpFunc
  obtain ⟨d', e1, e2⟩ := loopM_inv (step := mSlicesSwapRangeCmpFunc_L491 a b n)
    (fun q => ∃ m : Nat, q.1 = (m : Int) ∧ m ≤ n ∧ q.2.length = d.length ∧ ∀ k, q.2[k]? = swapAt d a b m k)
    (fun d' => d'.length = d.length ∧ ∀ k, d'[k]? = swapAt d a b n k) (fun q => (n : Int).toNat - q.1.toNat) (fun q hq => by
      obtain ⟨i, l⟩ := q
      obtain ⟨m, hm, hmn, hl, hk⟩ := hq
      simp only at hm hl hk
      subst hm
      unfold mSlicesSwapRangeCmpFunc_L491
      simp only [unc2]
      by_cases hlt : (m : Int) < (n : Int)
      · rw [if_pos hlt]
        have ea : (a : Int) + (m : Int) = ((a + m : Nat) : Int) := by omega
        have eb : (b : Int) + (m : Int) = ((b + m : Nat) : Int) := by omega
        rw [ea, eb, chk_ok (by omega) (by omega), Option.bind_some, chk_ok (by omega) (by omega), Option.bind_some, Option.bind_some]
        have hA : a + m < l.length := by omega
        have hB : b + m < l.length := by omega
        rw [idx_lt hB, Option.bind_some, Option.bind_some, idx_lt hA, Option.bind_some, Option.bind_some]
        have hB' : b + m < (put l ((a + m : Nat) : Int) (l[b + m])).length := by rw [put_length]; exact hB
        rw [idx_lt hB', Option.bind_some, chk_ok (by omega) (by omega), Option.bind_some]
        refine .inl ⟨_, rfl, ⟨m + 1, by omega, by omega, by rw [put_length, put_length]; exact hl, fun k => ?_⟩, by simp only; omega⟩
        show (put (put l ((a + m : Nat) : Int) l[b + m]) ((b + m : Nat) : Int) l[a + m])[k]? = _
        rw [put_at, put_at, put_length]
        have gA := hk (a + m)
        have gB := hk (b + m)
        rw [List.getElem?_eq_getElem hA] at gA
        rw [List.getElem?_eq_getElem hB] at gB
        unfold swapAt at gA gB
        rw [if_neg (by omega), if_neg (by omega)] at gA gB
        by_cases k1 : k = b + m
        · subst k1
          rw [if_pos ⟨rfl, hB⟩, gA]
          unfold swapAt
          rw [if_neg (by omega), if_pos (by omega)]
          congr 1
          omega
        · rw [if_neg (fun q => k1 q.1)]
          by_cases k2 : k = a + m
          · subst k2
            rw [if_pos ⟨rfl, hA⟩, gB]
            unfold swapAt
            rw [if_pos (by omega)]
            congr 1
            omega
          · rw [if_neg (fun q => k2 q.1), hk k]
            unfold swapAt
            by_cases c1 : a ≤ k ∧ k < a + m
            · rw [if_pos c1, if_pos (show a ≤ k ∧ k < a + (m + 1) by omega)]
            · rw [if_neg c1, if_neg (show ¬ (a ≤ k ∧ k < a + (m + 1)) by omega)]
              by_cases c2 : b ≤ k ∧ k < b + m
              · rw [if_pos c2, if_pos (show b ≤ k ∧ k < b + (m + 1) by omega)]
              · rw [if_neg c2, if_neg (show ¬ (b ≤ k ∧ k < b + (m + 1)) by omega)]
      · rw [if_neg hlt]
        have : m = n := by omega
        subst this
        exact .inr ⟨_, rfl, hl, hk⟩) (0, d) ⟨0, rfl, by omega, rfl, fun k => by
          unfold swapAt
          rw [if_neg (by omega), if_neg (by omega)]⟩
  exact ⟨d', e1, e2⟩
/-- In pieces: X and Y, of one length, change places. -/
theorem swap_pieces (T : Ctx) (A X C Y B : List Int) (hXY : X.length = Y.length) (hl : (A ++ X ++ C ++ Y ++ B).length ≤ 1000000) :
    mSlicesSwapRangeCmpFunc A.length ((A.length + X.length + C.length : Nat) : Int) X.length T.f T.t T.r T.c T.s (A ++ X ++ C ++ Y ++ B) T.bk T.cn = some (A ++ Y ++ C ++ X ++ B) := by
  obtain ⟨d', e1, e2, e3⟩ := swapRange_spec T (A ++ X ++ C ++ Y ++ B) A.length (A.length + X.length + C.length) X.length (by omega) (by simp; omega) hl
  rw [e1]
  congr 1
  apply List.ext_getElem?
  intro k
  rw [e3 k]
  unfold swapAt
  simp only [List.append_assoc]
  by_cases k0 : k < A.length
  · rw [if_neg (by omega), if_neg (by omega), List.getElem?_append_left k0, List.getElem?_append_left k0]
  · rw [List.getElem?_append_right (l₁ := A) (l₂ := Y ++ (C ++ (X ++ B))) (by omega)]
    by_cases k1 : k < A.length + X.length
    · rw [if_pos (by omega), List.getElem?_append_left (l₁ := Y) (by omega), List.getElem?_append_right (by omega), List.getElem?_append_right (by omega), List.getElem?_append_right (by omega), List.getElem?_append_left (by omega)]
      congr 1
      omega
    · rw [if_neg (by omega), List.getElem?_append_right (l₁ := Y) (by omega)]
      by_cases k2 : k < A.length + X.length + C.length
      · rw [if_neg (by omega), List.getElem?_append_left (l₁ := C) (by omega), List.getElem?_append_right (by omega), List.getElem?_append_right (by omega), List.getElem?_append_left (by omega)]
        congr 1
        omega
      · rw [List.getElem?_append_right (l₁ := C) (by omega)]
        by_cases k3 : k < A.length + X.length + C.length + X.length
        · rw [if_pos (by omega), List.getElem?_append_left (l₁ := X) (by omega), List.getElem?_append_right (by omega), List.getElem?_append_left (by omega)]
          congr 1
          omega
        · rw [if_neg (by omega), List.getElem?_append_right (l₁ := X) (by omega), List.getElem?_append_right (by omega), List.getElem?_append_right (by omega), List.getElem?_append_right (by omega), List.getElem?_append_right (by omega)]
          congr 1
          omega

end Go.Proofs.YthcgoaejnpelbaaGreatDoor.C
/- Plain: rotation: two neighbouring stretches change places. -/
namespace Go.Proofs.YthcgoaejnpelbaaGreatDoor.C
open Go.RowKit Go.Fp

theorem rotate_pieces (T : Ctx) (A X Y B : List Int) (hX : X ≠ []) (hY : Y ≠ []) (hl : (A ++ X ++ Y ++ B).length ≤ 1000000) :
    mSlicesRotateCmpFunc A.length ((A.length + X.length : Nat) : Int) ((A.length + X.length + Y.length : Nat) : Int) T.f T.t T.r T.c T.s (A ++ X ++ Y ++ B) T.bk T.cn = some (A ++ Y ++ X ++ B) := by
  have hl' : A.length + X.length + Y.length + B.length ≤ 1000000 := by simpa [Nat.add_assoc] using hl
  unfold mSlicesRotateCmpFunc
  rw [show ((A.length + X.length : Nat) : Int) - (A.length : Int) = (X.length : Int) by omega, show ((A.length + X.length + Y.length : Nat) : Int) - ((A.length + X.length : Nat) : Int) = (Y.length : Int) by omega, chk_ok (by omega) (by omega), Option.bind_some, chk_ok (by omega) (by omega), Option.bind_some]
  generalize hm : A.length + X.length = m
  generalize hG : A ++ Y ++ X ++ B = G
  obtain ⟨⟨i, l⟩, e1, P, X', Y', Q, q1, q2, q3, q4, q5, q6⟩ := loopM_inv (step := mSlicesRotateCmpFunc_L317 T.bk T.cn (m : Int) T.f T.t T.r T.c T.s)
    (fun q => ∃ P X' Y' Q : List Int, q.1 = (X'.length : Int) ∧ q.2.1 = (Y'.length : Int) ∧ P.length + X'.length = m ∧ q.2.2 = P ++ X' ++ Y' ++ Q ∧ P ++ Y' ++ X' ++ Q = G ∧ X' ≠ [] ∧ Y' ≠ [] ∧ (P ++ X' ++ Y' ++ Q).length ≤ 1000000)
    (fun r => ∃ P X' Y' Q : List Int, r.1 = (X'.length : Int) ∧ (X'.length = Y'.length) ∧ P.length + X'.length = m ∧ r.2 = P ++ X' ++ Y' ++ Q ∧ P ++ Y' ++ X' ++ Q = G ∧ (P ++ X' ++ Y' ++ Q).length ≤ 1000000)
    (fun q => q.1.toNat + q.2.1.toNat) (fun q hq => by
      obtain ⟨i, j, l⟩ := q
      obtain ⟨P, X', Y', Q, h1, h2, h3, h4, h5, h6, h7, h8⟩ := hq
      simp only at h1 h2 h4
      subst h1; subst h2; subst h4
      have x0 : 0 < X'.length := List.length_pos_iff.2 h6
      have y0 : 0 < Y'.length := List.length_pos_iff.2 h7
      have h8' : P.length + X'.length + Y'.length + Q.length ≤ 1000000 := by simpa [Nat.add_assoc] using h8
      unfold mSlicesRotateCmpFunc_L317
      simp only [unc3]
      by_cases hne : (X'.length : Int) ≠ (Y'.length : Int)
      · rw [if_pos hne]
        by_cases hgt : (Y'.length : Int) < (X'.length : Int)
        · rw [if_pos hgt]
          have ex : X' = X'.take Y'.length ++ X'.drop Y'.length := (List.take_append_drop _ _).symm
          generalize hx1 : X'.take Y'.length = X1 at ex
          generalize hx2 : X'.drop Y'.length = X2 at ex
          have l1 : X1.length = Y'.length := by rw [← hx1, List.length_take]; omega
          have l2 : X2.length = X'.length - Y'.length := by rw [← hx2, List.length_drop]
          have sw := swap_pieces T P X1 X2 Y' Q l1 (by simp; omega)
          have ea : (m : Int) - (X'.length : Int) = (P.length : Int) := by omega
          have eb : ((P.length + X1.length + X2.length : Nat) : Int) = (m : Int) := by omega
          have el : P ++ X' ++ Y' ++ Q = P ++ X1 ++ X2 ++ Y' ++ Q := by rw [ex]; simp
          rw [ea, chk_ok (by omega) (by omega), Option.bind_some, el]
          rw [eb, l1] at sw
          rw [sw, Option.bind_some, chk_ok (by omega) (by omega), Option.bind_some]
          refine .inl ⟨_, rfl, ⟨P ++ Y', X2, X1, Q, by simp only; omega, by simp only; omega, by simp; omega, by simp, ?_, List.length_pos_iff.1 (by omega), List.length_pos_iff.1 (by omega), by simp; omega⟩, by simp only; omega⟩
          rw [← h5, ex]
          simp
        · rw [if_neg hgt]
          have ey : Y' = Y'.take (Y'.length - X'.length) ++ Y'.drop (Y'.length - X'.length) := (List.take_append_drop _ _).symm
          generalize hy1 : Y'.take (Y'.length - X'.length) = Y1 at ey
          generalize hy2 : Y'.drop (Y'.length - X'.length) = Y2 at ey
          have l1 : Y1.length = Y'.length - X'.length := by rw [← hy1, List.length_take]; omega
          have l2 : Y2.length = X'.length := by rw [← hy2, List.length_drop]; omega
          have sw := swap_pieces T P X' Y1 Y2 Q l2.symm (by simp; omega)
          have ea : (m : Int) - (X'.length : Int) = (P.length : Int) := by omega
          have eb : ((P.length + X'.length + Y1.length : Nat) : Int) = (m : Int) + (Y'.length : Int) - (X'.length : Int) := by omega
          have el : P ++ X' ++ Y' ++ Q = P ++ X' ++ Y1 ++ Y2 ++ Q := by rw [ey]; simp
          rw [ea, chk_ok (by omega) (by omega), Option.bind_some, chk_ok (by omega) (by omega), Option.bind_some, chk_ok (by omega) (by omega), Option.bind_some, el]
          rw [eb] at sw
          rw [sw, Option.bind_some, chk_ok (by omega) (by omega), Option.bind_some]
          refine .inl ⟨_, rfl, ⟨P, Y2, Y1, X' ++ Q, by simp only; omega, by simp only; omega, by omega, by simp, ?_, List.length_pos_iff.1 (by omega), List.length_pos_iff.1 (by omega), by simp; omega⟩, by simp only; omega⟩
          rw [← h5, ey]
          simp
      · rw [if_neg hne]
        exact .inr ⟨_, rfl, P, X', Y', Q, rfl, by omega, h3, rfl, h5, h8⟩) ((X.length : Int), (Y.length : Int), A ++ X ++ Y ++ B) ⟨A, X, Y, B, rfl, rfl, hm, rfl, hG, hX, hY, hl⟩
  simp only at q1 q4
  subst q1; subst q4
  have q6' : P.length + X'.length + Y'.length + Q.length ≤ 1000000 := by simpa [Nat.add_assoc] using q6
  rw [e1, Option.bind_some]
  simp only [unc2]
  have sw := swap_pieces T P X' [] Y' Q q2 (by simpa using q6)
  have ea : (m : Int) - (X'.length : Int) = (P.length : Int) := by omega
  simp only [List.length_nil, Nat.add_zero, List.append_nil] at sw
  rw [q3] at sw
  rw [ea, chk_ok (by omega) (by omega), Option.bind_some, sw, Option.bind_some, q5]

end Go.Proofs.YthcgoaejnpelbaaGreatDoor.C
/- Plain: the order of tasks by departure; insertion sort keeps and sorts. -/
namespace Go.Proofs.YthcgoaejnpelbaaGreatDoor.C
open Go.RowKit Go.Fp

def gapR (o : Option Int) : Int := match o with
  | some g => g
  | none => 0
def Valid (T : Ctx) (a : Int) : Prop := ∃ g, mFareCarGap a T.f T.t T.r T.c T.s T.bk T.cn = some g
noncomputable def depOf (T : Ctx) (a : Int) : Int := gapR (mFareCarGap a T.f T.t T.r T.c T.s T.bk T.cn)
def Ord (T : Ctx) (a b : Int) : Prop := depOf T a < depOf T b ∨ (depOf T a = depOf T b ∧ a < b)
theorem order1_spec {T : Ctx} {a b : Int} (ha : Valid T a) (hb : Valid T b) : ∃ v, mFareCarChoose_1 a b T.f T.t T.r T.c T.s T.bk T.cn = some v ∧ (v < 0 ↔ depOf T a < depOf T b) := by
  obtain ⟨g, h1⟩ := ha
  obtain ⟨h, h2⟩ := hb
  unfold mFareCarChoose_1 depOf
  rw [h1, h2, Option.bind_some, Option.bind_some]
  unfold mCmpCompare mCmpIsNaN gapR
  simp only [Option.bind_some, ne_eq, not_true_eq_false, decide_false, Bool.false_eq_true, if_false]
  by_cases c1 : g < h
  · rw [if_pos c1]
    exact ⟨-1, rfl, fun _ => c1, fun _ => by decide⟩
  · rw [if_neg c1]
    by_cases c2 : h < g
    · rw [if_pos c2]
      exact ⟨1, rfl, fun h => absurd h (by decide), fun h => absurd h c1⟩
    · rw [if_neg c2]
      exact ⟨0, rfl, fun h => absurd h (by decide), fun h => absurd h c1⟩
theorem idx_mid {α : Type} (L : List α) (x : α) (M : List α) {i : Int} (h : i = (L.length : Int)) : idx (L ++ x :: M) i = some x := by
  subst h
  apply idx_nat
  simp
theorem put_mid {α : Type} (L : List α) (x y : α) (M : List α) {i : Int} (h : i = (L.length : Int)) : put (L ++ x :: M) i y = L ++ y :: M := by
  subst h
  rw [put_nat]
  simp
theorem ord_trans {T : Ctx} {a b c : Int} (h1 : Ord T a b) (h2 : Ord T b c) : Ord T a c := by
  unfold Ord at *
  omega
section
variable {T : Ctx}
theorem insert_pieces (A : List Int) {x : Int} {Q : List Int} (P : List Int) (hx : Valid T x) (hP : ∀ y ∈ P, Valid T y ∧ y < x) (hs : P.Pairwise (Ord T)) (hl : (A ++ P ++ x :: Q).length ≤ 1000000) :
    ∃ P', loopM (mSlicesInsertionSortCmpFunc_L10127 T.bk T.cn (A.length : Int) T.f T.t T.r T.c T.s) (((A.length + P.length : Nat) : Int), A ++ P ++ x :: Q) = some (A ++ P' ++ Q) ∧ P'.Perm (P ++ [x]) ∧ P'.Pairwise (Ord T) := by
  have hl' : A.length + P.length + (Q.length + 1) ≤ 1000000 := by simpa [Nat.add_assoc] using hl
  obtain ⟨r, e1, P', e2, e3, e4⟩ := loopM_inv (step := mSlicesInsertionSortCmpFunc_L10127 T.bk T.cn (A.length : Int) T.f T.t T.r T.c T.s)
    (fun q => ∃ P1 P2, P1 ++ P2 = P ∧ q.1 = ((A.length + P1.length : Nat) : Int) ∧ q.2 = A ++ P1 ++ x :: (P2 ++ Q) ∧ ∀ y ∈ P2, depOf T x < depOf T y)
    (fun r => ∃ P', r = A ++ P' ++ Q ∧ P'.Perm (P ++ [x]) ∧ P'.Pairwise (Ord T)) (fun q => q.1.toNat) (fun q hq => by
      obtain ⟨j, l⟩ := q
      obtain ⟨P1, P2, h1, h2, h3, h4⟩ := hq
      simp only at h2 h3
      subst h2; subst h3
      have hlen : P1.length + P2.length = P.length := by rw [← h1]; simp
      have stop : (∀ y ∈ P1, depOf T y ≤ depOf T x) → ∃ P', A ++ P1 ++ x :: (P2 ++ Q) = A ++ P' ++ Q ∧ P'.Perm (P ++ [x]) ∧ P'.Pairwise (Ord T) := fun hle => by
        refine ⟨P1 ++ x :: P2, by simp, ?_, ?_⟩
        · rw [← h1]
          have : (P1 ++ x :: P2).Perm (x :: (P1 ++ P2)) := List.perm_middle
          exact this.trans (List.perm_append_singleton x (P1 ++ P2)).symm
        · rw [← h1, List.pairwise_append] at hs
          rw [List.pairwise_append, List.pairwise_cons]
          refine ⟨hs.1, ⟨fun y hy => .inl (h4 y hy), hs.2.1⟩, fun y hy z hz => ?_⟩
          simp only [List.mem_cons] at hz
          rcases hz with rfl | hz
          · have := hle y hy
            have := (hP y (by rw [← h1]; simp [hy])).2
            unfold Ord
            omega
          · exact hs.2.2 y hy z hz
      unfold mSlicesInsertionSortCmpFunc_L10127
      simp only [unc2]
      by_cases ha : (A.length : Int) < ((A.length + P1.length : Nat) : Int)
      · rw [if_pos ha]
        obtain ⟨P0, y, rfl⟩ : ∃ P0 y, P1 = P0 ++ [y] := ⟨P1.dropLast, P1.getLast (List.length_pos_iff.1 (by omega)), (List.dropLast_concat_getLast _).symm⟩
        have hy := (hP y (by rw [← h1]; simp))
        simp only [List.length_append, List.length_singleton] at ha hlen ⊢
        have f1 : idx (A ++ (P0 ++ [y]) ++ x :: (P2 ++ Q)) ((A.length + (P0.length + 1) : Nat) : Int) = some x := idx_mid (A ++ (P0 ++ [y])) x (P2 ++ Q) (by simp)
        have e2 : A ++ (P0 ++ [y]) ++ x :: (P2 ++ Q) = (A ++ P0) ++ y :: (x :: (P2 ++ Q)) := by simp
        have f2 : idx (A ++ (P0 ++ [y]) ++ x :: (P2 ++ Q)) (((A.length + (P0.length + 1) : Nat) : Int) - 1) = some y := by rw [e2]; exact idx_mid _ _ _ (by simp; omega)
        obtain ⟨v, v1, v2⟩ := order1_spec hx hy.1
        rw [f1, Option.bind_some, chk_ok (by omega) (by omega), Option.bind_some, f2, Option.bind_some, v1, Option.bind_some, Option.bind_some]
        by_cases hv : v < 0
        · have hdep := v2.1 hv
          rw [decide_eq_true hv, if_pos rfl]
          simp only [Option.bind_some]
          have p1 : put (A ++ (P0 ++ [y]) ++ x :: (P2 ++ Q)) ((A.length + (P0.length + 1) : Nat) : Int) y = (A ++ P0) ++ y :: (y :: (P2 ++ Q)) := by
            rw [put_mid (A ++ (P0 ++ [y])) x y (P2 ++ Q) (by simp)]
            simp
          rw [p1, idx_mid (A ++ P0) y _ (by simp; omega), Option.bind_some]
          rw [put_mid (A ++ P0) y x _ (by simp; omega)]
          refine .inl ⟨_, rfl, ⟨P0, y :: P2, by rw [← h1]; simp, by simp only; omega, by simp, fun z hz => ?_⟩, by simp only; omega⟩
          simp only [List.mem_cons] at hz
          rcases hz with rfl | hz
          · exact hdep
          · exact h4 z hz
        · rw [decide_eq_false hv, if_neg (by decide)]
          refine .inr ⟨_, rfl, stop (fun z hz => ?_)⟩
          have hyx : depOf T y ≤ depOf T x := by
            by_cases q : depOf T x < depOf T y
            · exact absurd (v2.2 q) hv
            · omega
          simp only [List.mem_append, List.mem_singleton] at hz
          rcases hz with hz | rfl
          · rw [← h1, List.pairwise_append, List.pairwise_append] at hs
            have := hs.1.2.2 z hz y (by simp)
            unfold Ord at this
            omega
          · exact hyx
      · rw [if_neg ha, Option.bind_some, if_neg (by decide)]
        have : P1 = [] := List.length_eq_zero_iff.1 (by omega)
        subst this
        exact .inr ⟨_, rfl, stop (fun y hy => by simp at hy)⟩) (((A.length + P.length : Nat) : Int), A ++ P ++ x :: Q) ⟨P, [], by simp, rfl, by simp, fun y hy => by simp at hy⟩
  exact ⟨P', by rw [e1, e2], e3, e4⟩
end

end Go.Proofs.YthcgoaejnpelbaaGreatDoor.C
/- Plain: insertion sort of a stretch whose numbers grow. -/
namespace Go.Proofs.YthcgoaejnpelbaaGreatDoor.C
open Go.RowKit Go.Fp

section
variable {T : Ctx}
theorem insertion_pieces (A S B : List Int) (hv : ∀ y ∈ S, Valid T y) (hs : S.Pairwise (· < ·)) (hl : (A ++ S ++ B).length ≤ 1000000) :
    ∃ S', mSlicesInsertionSortCmpFunc (A.length : Int) ((A.length + S.length : Nat) : Int) T.f T.t T.r T.c T.s (A ++ S ++ B) T.bk T.cn = some (A ++ S' ++ B) ∧ S'.Perm S ∧ S'.Pairwise (Ord T) := by
  have hl' : A.length + S.length + B.length ≤ 1000000 := by simpa [Nat.add_assoc] using hl
  unfold mSlicesInsertionSortCmpFunc
  rw [chk_ok (by omega) (by omega), Option.bind_some]
  cases S with
  | nil =>
    refine ⟨[], loopM_last ?_, .refl _, .nil⟩
    unfold mSlicesInsertionSortCmpFunc_L5538
    simp only [unc2]
    rw [if_neg (by simp only [List.length_nil, Nat.add_zero]; omega)]
  | cons x S0 =>
    obtain ⟨r, e1, S', e2, e3, e4⟩ := loopM_inv (step := mSlicesInsertionSortCmpFunc_L5538 T.bk T.cn (A.length : Int) ((A.length + (x :: S0).length : Nat) : Int) T.f T.t T.r T.c T.s)
      (fun q => ∃ P S1 Q, S1 ++ Q = x :: S0 ∧ P.Perm S1 ∧ P.Pairwise (Ord T) ∧ q.1 = ((A.length + P.length : Nat) : Int) ∧ q.2 = A ++ P ++ Q ++ B)
      (fun r => ∃ S', r = A ++ S' ++ B ∧ S'.Perm (x :: S0) ∧ S'.Pairwise (Ord T)) (fun q => (A.length + (x :: S0).length) - q.1.toNat) (fun q hq => by
        obtain ⟨i, l⟩ := q
        obtain ⟨P, S1, Q, h1, h2, h3, h4, h5⟩ := hq
        simp only at h4 h5
        subst h4; subst h5
        have hlen : P.length + Q.length = (x :: S0).length := by rw [← h1, List.length_append, h2.length_eq]
        unfold mSlicesInsertionSortCmpFunc_L5538
        simp only [unc2]
        cases Q with
        | nil =>
          simp only [List.length_nil, Nat.add_zero] at hlen
          rw [if_neg (by omega)]
          refine .inr ⟨_, rfl, P, by simp, ?_, h3⟩
          rw [← h1, List.append_nil]
          exact h2
        | cons y Q =>
          simp only [List.length_cons] at hlen hl'
          rw [if_pos (by simp only [List.length_cons]; omega)]
          have hmem : ∀ z, z ∈ S1 ∨ z ∈ y :: Q → z ∈ x :: S0 := fun z hz => by rw [← h1]; simpa using hz
          have hpw := hs
          rw [← h1, List.pairwise_append] at hpw
          obtain ⟨P', p1, p2, p3⟩ := insert_pieces (T := T) A (x := y) (Q := Q ++ B) P (hv y (hmem y (.inr (by simp)))) (fun z hz => ⟨hv z (hmem z (.inl (h2.subset hz))), hpw.2.2 z (h2.subset hz) y (by simp)⟩) h3 (by simp; omega)
          have el : A ++ P ++ y :: Q ++ B = A ++ P ++ y :: (Q ++ B) := by simp
          rw [el, p1, Option.bind_some, chk_ok (by omega) (by omega), Option.bind_some]
          have pl : P'.length = P.length + 1 := by rw [p2.length_eq]; simp
          refine .inl ⟨_, rfl, ⟨P', S1 ++ [y], Q, by rw [← h1]; simp, p2.trans (h2.append_right [y]), p3, by simp only; omega, by simp⟩, by simp only [List.length_cons]; omega⟩) ((A.length : Int) + 1, A ++ x :: S0 ++ B) ⟨[x], [x], S0, rfl, .refl _, by simp, by simp, by simp⟩
    exact ⟨S', by rw [e1, e2], e3, e4⟩
end

end Go.Proofs.YthcgoaejnpelbaaGreatDoor.C
/- Plain: the middle of two numbers as the sort reckons it. -/
namespace Go.Proofs.YthcgoaejnpelbaaGreatDoor.C
open Go.RowKit Go.Fp

theorem half_eq (s : Nat) (h : s ≤ 4000000) : IntKind.wrap .i64 (shrI .u64 (IntKind.wrap .u64 (s : Int)) 1) = ((s / 2 : Nat) : Int) := by
  have e1 : IntKind.wrap .u64 (s : Int) = (s : Int) := by
    unfold IntKind.wrap
    have : (2 ^ IntKind.u64.bits : Int) = 18446744073709551616 := by decide
    simp only [this]
    have hs : IntKind.u64.signed = false := by decide
    rw [hs, if_neg (by simp)]
    omega
  rw [e1]
  unfold shrI
  have e2 : (2 : Int) ^ (min (1 : Int).toNat IntKind.u64.bits) = 2 := by decide
  rw [e2]
  have e3 : (s : Int).fdiv 2 = ((s / 2 : Nat) : Int) := by
    rw [Int.fdiv_eq_ediv_of_nonneg _ (by decide)]
    omega
  rw [e3]
  unfold IntKind.wrap
  have : (2 ^ IntKind.i64.bits : Int) = 18446744073709551616 := by decide
  have t2 : (2 ^ (IntKind.i64.bits - 1) : Int) = 9223372036854775808 := by decide
  simp only [this, t2]
  have : ((s / 2 : Nat) : Int) % 18446744073709551616 = ((s / 2 : Nat) : Int) := by omega
  rw [this, if_neg]
  simp
  omega

end Go.Proofs.YthcgoaejnpelbaaGreatDoor.C
/- Plain: a search by halves, whatever it looks at. -/
namespace Go.Proofs.YthcgoaejnpelbaaGreatDoor.C
open Go.RowKit Go.Fp

/-- p holds below some place and not from there on; the search finds it. -/
theorem halves {step : (Int × Int) → Option ((Int × Int) ⊕ Int)} {lo hi : Nat} (p : Nat → Prop) [DecidablePred p] (hlh : lo ≤ hi) (hmono : ∀ c d, lo ≤ c → c ≤ d → d < hi → p d → p c)
    (hstep : ∀ i j : Nat, lo ≤ i → i < j → j ≤ hi → step ((i : Int), (j : Int)) = some (.inl (if p ((i + j) / 2) then (((i + j) / 2 + 1 : Nat) : Int) else (i : Int), if p ((i + j) / 2) then (j : Int) else (((i + j) / 2 : Nat) : Int))))
    (hlast : ∀ i : Nat, lo ≤ i → i ≤ hi → step ((i : Int), (i : Int)) = some (.inr (i : Int))) :
    ∃ r : Nat, loopM step ((lo : Int), (hi : Int)) = some (r : Int) ∧ lo ≤ r ∧ r ≤ hi ∧ (∀ c, lo ≤ c → c < r → p c) ∧ ∀ c, r ≤ c → c < hi → ¬ p c := by
  obtain ⟨t, e1, r, rfl, e2⟩ := loopM_inv (step := step)
    (fun q => ∃ i j : Nat, q = ((i : Int), (j : Int)) ∧ lo ≤ i ∧ i ≤ j ∧ j ≤ hi ∧ (∀ c, lo ≤ c → c < i → p c) ∧ ∀ c, j ≤ c → c < hi → ¬ p c)
    (fun t => ∃ r : Nat, t = (r : Int) ∧ lo ≤ r ∧ r ≤ hi ∧ (∀ c, lo ≤ c → c < r → p c) ∧ ∀ c, r ≤ c → c < hi → ¬ p c)
    (fun q => (q.2 - q.1).toNat) (fun q hq => by
      obtain ⟨i, j, rfl, h1, h2, h3, h4, h5⟩ := hq
      by_cases hij : i < j
      · left
        refine ⟨_, hstep i j h1 hij h3, ?_, ?_⟩
        · by_cases hp : p ((i + j) / 2)
          · rw [if_pos hp, if_pos hp]
            exact ⟨(i + j) / 2 + 1, j, rfl, by omega, by omega, h3, fun c c1 c2 => hmono c ((i + j) / 2) c1 (by omega) (by omega) hp, h5⟩
          · rw [if_neg hp, if_neg hp]
            exact ⟨i, (i + j) / 2, rfl, h1, by omega, by omega, h4, fun c c1 c2 hc => hp (hmono _ c (by omega) c1 c2 hc)⟩
        · by_cases hp : p ((i + j) / 2)
          · simp only [if_pos hp]; omega
          · simp only [if_neg hp]; omega
      · have : i = j := by omega
        subst this
        exact .inr ⟨_, hlast i h1 h3, i, rfl, h1, h3, h4, h5⟩) ((lo : Int), (hi : Int)) ⟨lo, hi, rfl, Nat.le_refl _, hlh, Nat.le_refl _, fun c _ _ => by omega, fun c _ _ => by omega⟩
  exact ⟨r, e1, e2⟩

end Go.Proofs.YthcgoaejnpelbaaGreatDoor.C
/- Plain: one element moved along a list, step by step. -/
namespace Go.Proofs.YthcgoaejnpelbaaGreatDoor.C
open Go.RowKit Go.Fp

theorem move_right (A M R : List Int) (x : Int) (hl : (A ++ x :: (M ++ R)).length ≤ 1000000) :
    loopM (mSlicesSymMergeCmpFunc_L7635 ((A.length + M.length + 1 : Nat) : Int)) ((A.length : Int), A ++ x :: (M ++ R)) = some (A ++ M ++ x :: R) := by
  have hl' : A.length + (M.length + R.length + 1) ≤ 1000000 := by simpa [Nat.add_assoc] using hl
  obtain ⟨t, e1, e2⟩ := loopM_inv (step := mSlicesSymMergeCmpFunc_L7635 ((A.length + M.length + 1 : Nat) : Int))
    (fun q => ∃ P Q, P ++ Q = M ∧ q.1 = ((A.length + P.length : Nat) : Int) ∧ q.2 = A ++ P ++ x :: (Q ++ R))
    (fun t => t = A ++ M ++ x :: R) (fun q => (A.length + M.length) - q.1.toNat) (fun q hq => by
      obtain ⟨k, l⟩ := q
      obtain ⟨P, Q, h1, h2, h3⟩ := hq
      simp only at h2 h3
      subst h2; subst h3
      have hlen : P.length + Q.length = M.length := by rw [← h1]; simp
      have ei : ((A.length + M.length + 1 : Nat) : Int) - 1 = ((A.length + M.length : Nat) : Int) := by omega
      unfold mSlicesSymMergeCmpFunc_L7635
      simp only [unc2]
      rw [ei, chk_ok (by omega) (by omega), Option.bind_some]
      cases Q with
      | nil =>
        simp only [List.length_nil, Nat.add_zero] at hlen
        rw [if_neg (by omega)]
        refine .inr ⟨_, rfl, ?_⟩
        rw [← h1]
        simp
      | cons y Q =>
        simp only [List.length_cons] at hlen
        rw [if_pos (by omega)]
        have ek : ((A.length + P.length : Nat) : Int) + 1 = ((A.length + P.length + 1 : Nat) : Int) := by omega
        have el : A ++ P ++ x :: (y :: Q ++ R) = (A ++ P ++ [x]) ++ y :: (Q ++ R) := by simp
        have f1 : idx (A ++ P ++ x :: (y :: Q ++ R)) ((A.length + P.length + 1 : Nat) : Int) = some y := by rw [el]; exact idx_mid _ _ _ (by simp; omega)
        have f2 : idx (A ++ P ++ x :: (y :: Q ++ R)) ((A.length + P.length : Nat) : Int) = some x := idx_mid (A ++ P) x _ (by simp)
        rw [ek, chk_ok (by omega) (by omega), Option.bind_some, Option.bind_some, f1, Option.bind_some, f2, Option.bind_some, Option.bind_some]
        have p1 : put (A ++ P ++ x :: (y :: Q ++ R)) ((A.length + P.length : Nat) : Int) y = (A ++ P ++ [y]) ++ y :: (Q ++ R) := by
          rw [put_mid (A ++ P) x y _ (by simp)]
          simp
        rw [p1, idx_mid (A ++ P ++ [y]) y _ (by simp; omega), Option.bind_some, Option.bind_some, put_mid (A ++ P ++ [y]) y x _ (by simp; omega)]
        exact .inl ⟨_, rfl, ⟨P ++ [y], Q, by rw [← h1]; simp, by simp; omega, by simp⟩, by simp only; omega⟩) ((A.length : Int), A ++ x :: (M ++ R)) ⟨[], M, rfl, by simp, by simp⟩
  rw [e1, e2]

end Go.Proofs.YthcgoaejnpelbaaGreatDoor.C
/- Plain: one element moved back along a list, step by step. -/
namespace Go.Proofs.YthcgoaejnpelbaaGreatDoor.C
open Go.RowKit Go.Fp

theorem move_left (A M R : List Int) (x : Int) (hl : (A ++ M ++ x :: R).length ≤ 1000000) :
    loopM (mSlicesSymMergeCmpFunc_L9010 (A.length : Int)) (((A.length + M.length : Nat) : Int), A ++ M ++ x :: R) = some (A ++ x :: (M ++ R)) := by
  have hl' : A.length + (M.length + (R.length + 1)) ≤ 1000000 := by simpa [Nat.add_assoc] using hl
  obtain ⟨t, e1, e2⟩ := loopM_inv (step := mSlicesSymMergeCmpFunc_L9010 (A.length : Int))
    (fun q => ∃ P Q, P ++ Q = M ∧ q.1 = ((A.length + P.length : Nat) : Int) ∧ q.2 = A ++ P ++ x :: (Q ++ R))
    (fun t => t = A ++ x :: (M ++ R)) (fun q => q.1.toNat) (fun q hq => by
      obtain ⟨k, l⟩ := q
      obtain ⟨P, Q, h1, h2, h3⟩ := hq
      simp only at h2 h3
      subst h2; subst h3
      have hlen : P.length + Q.length = M.length := by rw [← h1]; simp
      unfold mSlicesSymMergeCmpFunc_L9010
      simp only [unc2]
      by_cases hp : (A.length : Int) < ((A.length + P.length : Nat) : Int)
      · rw [if_pos hp]
        obtain ⟨P0, y, rfl⟩ : ∃ P0 y, P = P0 ++ [y] := ⟨P.dropLast, P.getLast (List.length_pos_iff.1 (by omega)), (List.dropLast_concat_getLast _).symm⟩
        simp only [List.length_append, List.length_singleton] at hp hlen ⊢
        have ek : ((A.length + (P0.length + 1) : Nat) : Int) - 1 = ((A.length + P0.length : Nat) : Int) := by omega
        have el : A ++ (P0 ++ [y]) ++ x :: (Q ++ R) = (A ++ P0) ++ y :: (x :: (Q ++ R)) := by simp
        have f1 : idx (A ++ (P0 ++ [y]) ++ x :: (Q ++ R)) ((A.length + P0.length : Nat) : Int) = some y := by rw [el]; exact idx_mid _ _ _ (by simp)
        have f2 : idx (A ++ (P0 ++ [y]) ++ x :: (Q ++ R)) ((A.length + (P0.length + 1) : Nat) : Int) = some x := idx_mid (A ++ (P0 ++ [y])) x _ (by simp)
        rw [ek, chk_ok (by omega) (by omega), Option.bind_some, Option.bind_some, f1, Option.bind_some, f2, Option.bind_some, Option.bind_some]
        have p1 : put (A ++ (P0 ++ [y]) ++ x :: (Q ++ R)) ((A.length + (P0.length + 1) : Nat) : Int) y = (A ++ P0) ++ y :: (y :: (Q ++ R)) := by
          rw [put_mid (A ++ (P0 ++ [y])) x y _ (by simp)]
          simp
        rw [p1, idx_mid (A ++ P0) y _ (by simp), Option.bind_some, Option.bind_some, put_mid (A ++ P0) y x _ (by simp)]
        exact .inl ⟨_, rfl, ⟨P0, y :: Q, by rw [← h1]; simp, rfl, by simp⟩, by simp only; omega⟩
      · rw [if_neg hp]
        have : P = [] := List.length_eq_zero_iff.1 (by omega)
        subst this
        refine .inr ⟨_, rfl, ?_⟩
        rw [← h1]
        simp) (((A.length + M.length : Nat) : Int), A ++ M ++ x :: R) ⟨M, [], by simp, rfl, by simp⟩
  rw [e1, e2]

end Go.Proofs.YthcgoaejnpelbaaGreatDoor.C
/- Plain: merging where one stretch is one element. -/
namespace Go.Proofs.YthcgoaejnpelbaaGreatDoor.C
open Go.RowKit Go.Fp

/-- No later. -/
def Le (T : Ctx) (a b : Int) : Prop := depOf T a ≤ depOf T b
theorem le_of_ord {T : Ctx} {a b : Int} (h : Ord T a b) : Le T a b := by
  unfold Ord at h
  unfold Le
  omega
theorem dep_sorted {T : Ctx} {M : List Int} (h : M.Pairwise (Le T)) {c d : Nat} (hc : c ≤ d) (hd : d < M.length) : depOf T (M[c]'(by omega)) ≤ depOf T M[d] := by
  by_cases e : c = d
  · subst e; exact Int.le_refl _
  · have := List.pairwise_iff_getElem.1 h c d (by omega) hd (by omega)
    exact this
theorem at_mid (A X B : List Int) {c : Nat} (h : c < X.length) : idx (A ++ X ++ B) ((A.length + c : Nat) : Int) = some X[c] := by
  refine idx_nat ?_
  rw [List.append_assoc, List.getElem?_append_right (by omega), List.getElem?_append_left (by omega), show A.length + c - A.length = c by omega]
  exact List.getElem?_eq_getElem h
theorem half2 (i j : Nat) (h : i + j ≤ 4000000) : IntKind.wrap .i64 (shrI .u64 (IntKind.wrap .u64 ((i : Int) + (j : Int))) 1) = (((i + j) / 2 : Nat) : Int) := by
  rw [show (i : Int) + (j : Int) = ((i + j : Nat) : Int) by omega, half_eq _ h]
theorem split_at (M : List Int) {r : Nat} (h : r ≤ M.length) : ∃ M1 M2, M = M1 ++ M2 ∧ M1.length = r ∧ (∀ y ∈ M1, ∃ k, ∃ hk : k < M.length, k < r ∧ M[k] = y) ∧ ∀ y ∈ M2, ∃ k, ∃ hk : k < M.length, r ≤ k ∧ M[k] = y := by
  refine ⟨M.take r, M.drop r, (List.take_append_drop r M).symm, by rw [List.length_take]; omega, fun y hy => ?_, fun y hy => ?_⟩
  · obtain ⟨k, hk, rfl⟩ := List.getElem_of_mem hy
    rw [List.length_take] at hk
    exact ⟨k, by omega, by omega, by rw [List.getElem_take]⟩
  · obtain ⟨k, hk, rfl⟩ := List.getElem_of_mem hy
    rw [List.length_drop] at hk
    exact ⟨r + k, by omega, by omega, by rw [List.getElem_drop]⟩
noncomputable def dg (T : Ctx) (M : List Int) (k : Nat) : Int := depOf T ((M[k]?).getD 0)
theorem dg_at {T : Ctx} {M : List Int} {k : Nat} (h : k < M.length) : dg T M k = depOf T M[k] := by
  unfold dg
  rw [List.getElem?_eq_getElem h]
  rfl
theorem one_left {T : Ctx} {A M B : List Int} {x : Int} (hx : Valid T x) (hM : ∀ y ∈ M, Valid T y) (hs : M.Pairwise (Le T)) (hl : (A ++ x :: (M ++ B)).length ≤ 1000000) :
    ∃ M1 M2, M = M1 ++ M2 ∧ ((loopM (mSlicesSymMergeCmpFunc_L6945 (A ++ x :: (M ++ B)) T.bk T.cn (A.length : Int) T.f T.t T.r T.c T.s) (((A.length + 1 : Nat) : Int), ((A.length + 1 + M.length : Nat) : Int))).bind fun i => (loopM (mSlicesSymMergeCmpFunc_L7635 i) ((A.length : Int), A ++ x :: (M ++ B))).bind fun l => some l) = some (A ++ (M1 ++ x :: M2) ++ B) ∧ (∀ y ∈ M1, Le T y x) ∧ ∀ y ∈ M2, Le T x y := by
  have hl' : A.length + (M.length + B.length + 1) ≤ 1000000 := by simpa [Nat.add_assoc] using hl
  have f0 : idx (A ++ x :: (M ++ B)) (A.length : Int) = some x := idx_mid A x _ rfl
  have e0 : A ++ x :: (M ++ B) = (A ++ [x]) ++ M ++ B := by simp
  have fM : ∀ c, A.length + 1 ≤ c → c < A.length + 1 + M.length → ∃ (hk : c - (A.length + 1) < M.length), idx (A ++ x :: (M ++ B)) (c : Int) = some (M[c - (A.length + 1)]'hk) := fun c h1 h2 => by
    refine ⟨by omega, ?_⟩
    have := at_mid (A ++ [x]) M B (c := c - (A.length + 1)) (by omega)
    rw [e0, ← this]
    congr 2
    simp
    omega
  obtain ⟨r, r1, r2, r3, r4, r5⟩ := halves (step := mSlicesSymMergeCmpFunc_L6945 (A ++ x :: (M ++ B)) T.bk T.cn (A.length : Int) T.f T.t T.r T.c T.s) (lo := A.length + 1) (hi := A.length + 1 + M.length) (fun c => dg T M (c - (A.length + 1)) < depOf T x) (by omega) (fun c d h1 h2 h3 h4 => by
      have e1 : c - (A.length + 1) ≤ d - (A.length + 1) := by omega
      have e2 : d - (A.length + 1) < M.length := by omega
      rw [dg_at e2] at h4
      rw [dg_at (by omega)]
      have := dep_sorted hs e1 e2
      omega) (fun i j h1 h2 h3 => by
      obtain ⟨hk, hc⟩ := fM ((i + j) / 2) (by omega) (by omega)
      obtain ⟨v, v1, v2⟩ := order1_spec (T := T) (hM _ (List.getElem_mem hk)) hx
      unfold mSlicesSymMergeCmpFunc_L6945
      simp only [unc2]
      rw [if_pos (by omega), chk_ok (by omega) (by omega), Option.bind_some, shN_ok (by decide), Option.bind_some, half2 i j (by omega), hc, Option.bind_some, f0, Option.bind_some, v1, Option.bind_some]
      by_cases hv : v < 0
      · have := v2.1 hv
        rw [if_pos hv, chk_ok (by omega) (by omega), Option.bind_some]
        rw [if_pos (by rw [dg_at hk]; exact this), if_pos (by rw [dg_at hk]; exact this)]
        rfl
      · have : ¬ depOf T M[(i + j) / 2 - (A.length + 1)] < depOf T x := fun h => hv (v2.2 h)
        rw [if_neg hv, if_neg (by rw [dg_at hk]; exact this), if_neg (by rw [dg_at hk]; exact this)]) (fun i h1 h2 => by
      unfold mSlicesSymMergeCmpFunc_L6945
      simp only [unc2]
      rw [if_neg (by omega)])
  obtain ⟨M1, M2, m1, m2, m3, m4⟩ := split_at M (r := r - (A.length + 1)) (by omega)
  refine ⟨M1, M2, m1, ?_, fun y hy => ?_, fun y hy => ?_⟩
  · rw [r1, Option.bind_some]
    have := move_right A M1 (M2 ++ B) x (by rw [show M1 ++ (M2 ++ B) = M ++ B by rw [m1]; simp]; exact hl)
    rw [show M1 ++ (M2 ++ B) = M ++ B by rw [m1]; simp, show A.length + M1.length + 1 = r by omega] at this
    rw [this]
    simp
  · obtain ⟨k, hk, h1, rfl⟩ := m3 y hy
    have := r4 (A.length + 1 + k) (by omega) (by omega)
    simp only [show A.length + 1 + k - (A.length + 1) = k by omega] at this
    rw [dg_at hk] at this
    unfold Le
    omega
  · obtain ⟨k, hk, h1, rfl⟩ := m4 y hy
    have := r5 (A.length + 1 + k) (by omega) (by omega)
    simp only [show A.length + 1 + k - (A.length + 1) = k by omega] at this
    rw [dg_at hk] at this
    unfold Le
    omega
theorem one_right {T : Ctx} {A L B : List Int} {x : Int} (hx : Valid T x) (hL : ∀ y ∈ L, Valid T y) (hs : L.Pairwise (Le T)) (hl : (A ++ L ++ x :: B).length ≤ 1000000) :
    ∃ L1 L2, L = L1 ++ L2 ∧ ((loopM (mSlicesSymMergeCmpFunc_L8323 (A ++ L ++ x :: B) T.bk T.cn ((A.length + L.length : Nat) : Int) T.f T.t T.r T.c T.s) ((A.length : Int), ((A.length + L.length : Nat) : Int))).bind fun i => (loopM (mSlicesSymMergeCmpFunc_L9010 i) (((A.length + L.length : Nat) : Int), A ++ L ++ x :: B)).bind fun l => some l) = some (A ++ (L1 ++ x :: L2) ++ B) ∧ (∀ y ∈ L1, Le T y x) ∧ ∀ y ∈ L2, Le T x y := by
  have hl' : A.length + (L.length + (B.length + 1)) ≤ 1000000 := by simpa [Nat.add_assoc] using hl
  have f0 : idx (A ++ L ++ x :: B) ((A.length + L.length : Nat) : Int) = some x := idx_mid (A ++ L) x _ (by simp)
  have fL : ∀ c, A.length ≤ c → c < A.length + L.length → ∃ (hk : c - A.length < L.length), idx (A ++ L ++ x :: B) (c : Int) = some (L[c - A.length]'hk) := fun c h1 h2 => by
    refine ⟨by omega, ?_⟩
    have := at_mid A L (x :: B) (c := c - A.length) (by omega)
    rw [← this]
    congr 2
    omega
  obtain ⟨r, r1, r2, r3, r4, r5⟩ := halves (step := mSlicesSymMergeCmpFunc_L8323 (A ++ L ++ x :: B) T.bk T.cn ((A.length + L.length : Nat) : Int) T.f T.t T.r T.c T.s) (lo := A.length) (hi := A.length + L.length) (fun c => ¬ depOf T x < dg T L (c - A.length)) (by omega) (fun c d h1 h2 h3 h4 => by
      have e1 : c - A.length ≤ d - A.length := by omega
      have e2 : d - A.length < L.length := by omega
      rw [dg_at e2] at h4
      rw [dg_at (by omega)]
      have := dep_sorted hs e1 e2
      omega) (fun i j h1 h2 h3 => by
      obtain ⟨hk, hc⟩ := fL ((i + j) / 2) (by omega) (by omega)
      obtain ⟨v, v1, v2⟩ := order1_spec (T := T) hx (hL _ (List.getElem_mem hk))
      unfold mSlicesSymMergeCmpFunc_L8323
      simp only [unc2]
      rw [if_pos (by omega), chk_ok (by omega) (by omega), Option.bind_some, shN_ok (by decide), Option.bind_some, half2 i j (by omega), f0, Option.bind_some, hc, Option.bind_some, v1, Option.bind_some]
      by_cases hv : v < 0
      · have := v2.1 hv
        rw [if_pos hv, if_neg (by rw [dg_at hk]; omega), if_neg (by rw [dg_at hk]; omega)]
      · have : ¬ depOf T x < depOf T L[(i + j) / 2 - A.length] := fun h => hv (v2.2 h)
        rw [if_neg hv, chk_ok (by omega) (by omega), Option.bind_some, if_pos (by rw [dg_at hk]; exact this), if_pos (by rw [dg_at hk]; exact this)]
        rfl) (fun i h1 h2 => by
      unfold mSlicesSymMergeCmpFunc_L8323
      simp only [unc2]
      rw [if_neg (by omega)])
  obtain ⟨L1, L2, m1, m2, m3, m4⟩ := split_at L (r := r - A.length) (by omega)
  have e1 : A ++ L ++ x :: B = (A ++ L1) ++ L2 ++ x :: B := by rw [m1]; simp
  have e2 : L.length = L1.length + L2.length := by rw [m1]; simp
  refine ⟨L1, L2, m1, ?_, fun y hy => ?_, fun y hy => ?_⟩
  · rw [r1, Option.bind_some]
    have := move_left (A ++ L1) L2 B x (by rw [← e1]; exact hl)
    rw [← e1, show ((A ++ L1).length : Nat) = r by simp; omega, show r + L2.length = A.length + L.length by omega] at this
    rw [this]
    simp
  · obtain ⟨k, hk, h1, rfl⟩ := m3 y hy
    have := r4 (A.length + k) (by omega) (by omega)
    simp only [show A.length + k - A.length = k by omega] at this
    rw [dg_at hk] at this
    unfold Le
    omega
  · obtain ⟨k, hk, h1, rfl⟩ := m4 y hy
    have := r5 (A.length + k) (by omega) (by omega)
    simp only [show A.length + k - A.length = k by omega] at this
    rw [dg_at hk] at this
    unfold Le
    omega
end Go.Proofs.YthcgoaejnpelbaaGreatDoor.C
/- Plain: the merge of two sorted stretches. -/
namespace Go.Proofs.YthcgoaejnpelbaaGreatDoor.C
open Go.RowKit Go.Fp

theorem sorted_four {T : Ctx} {L1 L2 M1 M2 S1 S2 : List Int} (hL : (L1 ++ L2).Pairwise (Le T)) (hM : (M1 ++ M2).Pairwise (Le T)) (h1 : ∀ x ∈ L1, ∀ y ∈ M2, Le T x y) (h2 : ∀ x ∈ M1, ∀ y ∈ L2, Le T x y)
    (p1 : S1.Perm (L1 ++ M1)) (p2 : S2.Perm (L2 ++ M2)) (s1 : S1.Pairwise (Le T)) (s2 : S2.Pairwise (Le T)) : (S1 ++ S2).Perm ((L1 ++ L2) ++ (M1 ++ M2)) ∧ (S1 ++ S2).Pairwise (Le T) := by
  rw [List.pairwise_append] at hL hM
  constructor
  · refine (p1.append p2).trans ?_
    rw [List.append_assoc, List.append_assoc]
    refine List.Perm.append_left L1 ?_
    rw [← List.append_assoc, ← List.append_assoc]
    exact List.perm_append_comm.append_right M2
  · rw [List.pairwise_append]
    refine ⟨s1, s2, fun x hx y hy => ?_⟩
    have hx' := p1.subset hx
    have hy' := p2.subset hy
    rw [List.mem_append] at hx' hy'
    rcases hx' with hx' | hx'
    · rcases hy' with hy' | hy'
      · exact hL.2.2 x hx' y hy'
      · exact h1 x hx' y hy'
    · rcases hy' with hy' | hy'
      · exact h2 x hx' y hy'
      · exact hM.2.2 x hx' y hy'
theorem sorted_two {T : Ctx} {L M : List Int} (hL : L.Pairwise (Le T)) (hM : M.Pairwise (Le T)) (h : L = [] ∨ M = []) : (L ++ M).Pairwise (Le T) := by
  rcases h with rfl | rfl
  · simpa using hM
  · simpa using hL
theorem search_spec {T : Ctx} {A L M B : List Int} (hL : ∀ y ∈ L, Valid T y) (hM : ∀ y ∈ M, Valid T y) (sL : L.Pairwise (Le T)) (sM : M.Pairwise (Le T)) (hl : (A ++ L ++ M ++ B).length ≤ 1000000) {h lo hi : Nat} (hh : h = (L.length + M.length) / 2)
    (h1 : A.length ≤ lo) (h2 : lo ≤ hi) (h3 : hi ≤ A.length + L.length) (h4 : hi ≤ A.length + h) (h5 : A.length + h ≤ lo + M.length) (h6 : lo = A.length ∨ lo + M.length = A.length + h) (h7 : hi = A.length + h ∨ hi = A.length + L.length) :
    ∃ L1 L2 M1 M2, L = L1 ++ L2 ∧ M = M1 ++ M2 ∧ L1.length + M1.length = h ∧ loopM (mSlicesSymMergeCmpFunc_L9712 (A ++ L ++ M ++ B) T.bk T.cn (A.length : Int) ((A.length + L.length : Nat) : Int) ((A.length + L.length + M.length : Nat) : Int) T.f T.t T.r T.c T.s) ((lo : Int), (hi : Int)) = some ((A.length + L1.length : Nat) : Int) ∧
      (∀ x ∈ L1, ∀ y ∈ M2, Le T x y) ∧ ∀ x ∈ M1, ∀ y ∈ L2, Le T x y := by
  have hl' : A.length + L.length + M.length + B.length ≤ 1000000 := by simpa [Nat.add_assoc] using hl
  have fL : ∀ k (hk : k < L.length), idx (A ++ L ++ M ++ B) ((A.length + k : Nat) : Int) = some L[k] := fun k hk => by
    rw [show A ++ L ++ M ++ B = A ++ L ++ (M ++ B) by simp]
    exact at_mid A L (M ++ B) hk
  have fM : ∀ k (hk : k < M.length), idx (A ++ L ++ M ++ B) ((A.length + L.length + k : Nat) : Int) = some M[k] := fun k hk => by
    have := at_mid (A ++ L) M B hk
    rw [List.length_append] at this
    exact this
  obtain ⟨r, r1, r2, r3, r4, r5⟩ := halves (step := mSlicesSymMergeCmpFunc_L9712 (A ++ L ++ M ++ B) T.bk T.cn (A.length : Int) ((A.length + L.length : Nat) : Int) ((A.length + L.length + M.length : Nat) : Int) T.f T.t T.r T.c T.s) (lo := lo) (hi := hi) (fun c => ¬ dg T M (A.length + h - 1 - c) < dg T L (c - A.length)) h2 (fun c d c1 c2 c3 c4 => by
      have e1 := dep_sorted sL (show c - A.length ≤ d - A.length by omega) (show d - A.length < L.length by omega)
      have e2 := dep_sorted sM (show A.length + h - 1 - d ≤ A.length + h - 1 - c by omega) (show A.length + h - 1 - c < M.length by omega)
      rw [dg_at (show A.length + h - 1 - d < M.length by omega), dg_at (show d - A.length < L.length by omega)] at c4
      rw [dg_at (show A.length + h - 1 - c < M.length by omega), dg_at (show c - A.length < L.length by omega)]
      omega) (fun i j i1 i2 i3 => by
      have k1 : (i + j) / 2 - A.length < L.length := by omega
      have k2 : A.length + h - 1 - (i + j) / 2 < M.length := by omega
      have g1 := fL _ k1
      have g2 := fM _ k2
      obtain ⟨v, v1, v2⟩ := order1_spec (T := T) (hM _ (List.getElem_mem k2)) (hL _ (List.getElem_mem k1))
      unfold mSlicesSymMergeCmpFunc_L9712
      simp only [unc2]
      rw [if_pos (by omega), chk_ok (by omega) (by omega), Option.bind_some, shN_ok (by decide), Option.bind_some, half2 A.length (A.length + L.length + M.length) (by omega), half2 i j (by omega)]
      rw [show (((A.length + (A.length + L.length + M.length)) / 2 : Nat) : Int) + ((A.length + L.length : Nat) : Int) - 1 - (((i + j) / 2 : Nat) : Int) = ((A.length + L.length + (A.length + h - 1 - (i + j) / 2) : Nat) : Int) by omega]
      rw [show A.length + ((i + j) / 2 - A.length) = (i + j) / 2 by omega] at g1
      rw [chk_ok (by omega) (by omega), Option.bind_some, g2, Option.bind_some, g1, Option.bind_some, v1, Option.bind_some]
      by_cases hv : v < 0
      · have := v2.1 hv
        rw [if_pos hv, if_neg (by rw [dg_at k2, dg_at k1]; omega), if_neg (by rw [dg_at k2, dg_at k1]; omega)]
      · have : ¬ depOf T M[A.length + h - 1 - (i + j) / 2] < depOf T L[(i + j) / 2 - A.length] := fun q => hv (v2.2 q)
        rw [if_neg hv, chk_ok (by omega) (by omega), Option.bind_some, if_pos (by rw [dg_at k2, dg_at k1]; exact this), if_pos (by rw [dg_at k2, dg_at k1]; exact this)]
        rfl) (fun i i1 i2 => by
      unfold mSlicesSymMergeCmpFunc_L9712
      simp only [unc2]
      rw [if_neg (by omega)])
  obtain ⟨L1, L2, a1, a2, a3, a4⟩ := split_at L (r := r - A.length) (by omega)
  obtain ⟨M1, M2, b1, b2, b3, b4⟩ := split_at M (r := A.length + h - r) (by omega)
  refine ⟨L1, L2, M1, M2, a1, b1, by omega, by rw [r1, show A.length + L1.length = r by omega], fun x hx y hy => ?_, fun x hx y hy => ?_⟩
  · obtain ⟨k, hk, k1, rfl⟩ := a3 x hx
    obtain ⟨q, hq, q1, rfl⟩ := b4 y hy
    have := r4 (r - 1) (by omega) (by omega)
    have t1 : A.length + h - 1 - (r - 1) < M.length := by omega
    have t2 : r - 1 - A.length < L.length := by omega
    rw [dg_at t1, dg_at t2] at this
    have e1 := dep_sorted sL (show k ≤ r - 1 - A.length by omega) t2
    have e2 := dep_sorted sM (show A.length + h - 1 - (r - 1) ≤ q by omega) hq
    unfold Le
    omega
  · obtain ⟨k, hk, k1, rfl⟩ := b3 x hx
    obtain ⟨q, hq, q1, rfl⟩ := a4 y hy
    have := r5 r (by omega) (by omega)
    have t1 : A.length + h - 1 - r < M.length := by omega
    have t2 : r - A.length < L.length := by omega
    rw [dg_at t1, dg_at t2] at this
    have e1 := dep_sorted sM (show k ≤ A.length + h - 1 - r by omega) t1
    have e2 := dep_sorted sL (show r - A.length ≤ q by omega) hq
    unfold Le
    omega
theorem sym_spec (T : Ctx) (N : Nat) : ∀ (A L M B : List Int), L ≠ [] → M ≠ [] → (∀ y ∈ L, Valid T y) → (∀ y ∈ M, Valid T y) → L.Pairwise (Le T) → M.Pairwise (Le T) → (A ++ L ++ M ++ B).length ≤ 1000000 →
    (mSlicesSymMergeCmpFunc N (A.length : Int) ((A.length + L.length : Nat) : Int) ((A.length + L.length + M.length : Nat) : Int) T.f T.t T.r T.c T.s (A ++ L ++ M ++ B) T.bk T.cn = none ∧ N < L.length + M.length) ∨
    ∃ S, mSlicesSymMergeCmpFunc N (A.length : Int) ((A.length + L.length : Nat) : Int) ((A.length + L.length + M.length : Nat) : Int) T.f T.t T.r T.c T.s (A ++ L ++ M ++ B) T.bk T.cn = some (A ++ S ++ B) ∧ S.Perm (L ++ M) ∧ S.Pairwise (Le T) := by
  induction N with
  | zero =>
    intro A L M B nL nM _ _ _ _ _
    have := List.length_pos_iff.2 nL
    exact .inl ⟨rfl, by omega⟩
  | succ N ih =>
    intro A L M B nL nM hL hM sL sM hl
    have hl' : A.length + L.length + M.length + B.length ≤ 1000000 := by simpa [Nat.add_assoc] using hl
    have pL := List.length_pos_iff.2 nL
    have pM := List.length_pos_iff.2 nM
    rw [mSlicesSymMergeCmpFunc]
    dsimp only
    rw [show ((A.length + L.length : Nat) : Int) - (A.length : Int) = (L.length : Int) by omega, show ((A.length + L.length + M.length : Nat) : Int) - ((A.length + L.length : Nat) : Int) = (M.length : Int) by omega, chk_ok (by omega) (by omega), Option.bind_some]
    by_cases c1 : L.length = 1
    · obtain ⟨x, rfl⟩ := List.length_eq_one_iff.1 c1
      rw [if_pos (by simp)]
      have e : A ++ [x] ++ M ++ B = A ++ x :: (M ++ B) := by simp
      rw [e] at hl ⊢
      obtain ⟨M1, M2, m1, m2, m3, m4⟩ := one_left (A := A) (B := B) (hL x (by simp)) hM sM hl
      refine .inr ⟨M1 ++ x :: M2, m2, ?_, ?_⟩
      · rw [m1]
        exact List.perm_middle
      · rw [m1, List.pairwise_append] at sM
        rw [List.pairwise_append, List.pairwise_cons]
        refine ⟨sM.1, ⟨m4, sM.2.1⟩, fun y hy z hz => ?_⟩
        rcases List.mem_cons.1 hz with rfl | hz
        · exact m3 y hy
        · exact sM.2.2 y hy z hz
    · rw [if_neg (by omega), chk_ok (by omega) (by omega), Option.bind_some]
      by_cases c2 : M.length = 1
      · obtain ⟨x, rfl⟩ := List.length_eq_one_iff.1 c2
        rw [if_pos (by simp)]
        have e : A ++ L ++ [x] ++ B = A ++ L ++ x :: B := by simp
        rw [e] at hl ⊢
        obtain ⟨L1, L2, m1, m2, m3, m4⟩ := one_right (A := A) (B := B) (hM x (by simp)) hL sL hl
        refine .inr ⟨L1 ++ x :: L2, m2, ?_, ?_⟩
        · rw [m1]
          exact List.perm_middle.trans (List.perm_append_singleton x (L1 ++ L2)).symm
        · rw [m1, List.pairwise_append] at sL
          rw [List.pairwise_append, List.pairwise_cons]
          refine ⟨sL.1, ⟨m4, sL.2.1⟩, fun y hy z hz => ?_⟩
          rcases List.mem_cons.1 hz with rfl | hz
          · exact m3 y hy
          · exact sL.2.2 y hy z hz
      · obtain ⟨h, hh⟩ : ∃ h, h = (L.length + M.length) / 2 := ⟨_, rfl⟩
        rw [if_neg (by omega), chk_ok (by omega) (by omega), Option.bind_some, shN_ok (by decide), Option.bind_some, half2 A.length (A.length + L.length + M.length) (by omega), show (A.length + (A.length + L.length + M.length)) / 2 = A.length + h by omega, chk_ok (by omega) (by omega), Option.bind_some]
        obtain ⟨lo, hi, e1, h1, h2, h3, h4, h5, h6, h7⟩ : ∃ lo hi : Nat, (if ((A.length + h : Nat) : Int) < ((A.length + L.length : Nat) : Int) then (chk (((A.length + h : Nat) : Int) + ((A.length + L.length : Nat) : Int) - ((A.length + L.length + M.length : Nat) : Int))).bind fun _ => some (((A.length + h : Nat) : Int) + ((A.length + L.length : Nat) : Int) - ((A.length + L.length + M.length : Nat) : Int), ((A.length + h : Nat) : Int)) else some ((A.length : Int), ((A.length + L.length : Nat) : Int))) = some ((lo : Int), (hi : Int)) ∧
            A.length ≤ lo ∧ lo ≤ hi ∧ hi ≤ A.length + L.length ∧ hi ≤ A.length + h ∧ A.length + h ≤ lo + M.length ∧ (lo = A.length ∨ lo + M.length = A.length + h) ∧ (hi = A.length + h ∨ hi = A.length + L.length) := by
          by_cases c : h < L.length
          · rw [if_pos (by omega), show ((A.length + h : Nat) : Int) + ((A.length + L.length : Nat) : Int) - ((A.length + L.length + M.length : Nat) : Int) = ((A.length + h - M.length : Nat) : Int) by omega, chk_ok (by omega) (by omega), Option.bind_some]
            exact ⟨_, _, rfl, by omega, by omega, by omega, by omega, by omega, by omega, by omega⟩
          · rw [if_neg (by omega)]
            exact ⟨_, _, rfl, by omega, by omega, by omega, by omega, by omega, by omega, by omega⟩
        obtain ⟨L1, L2, M1, M2, a1, b1, ab, r1, r2, r3⟩ := search_spec (B := B) hL hM sL sM hl hh h1 h2 h3 h4 h5 h6 h7
        rw [e1, Option.bind_some]
        simp only [unc2]
        have la : L.length = L1.length + L2.length := by rw [a1, List.length_append]
        have lb : M.length = M1.length + M2.length := by rw [b1, List.length_append]
        rw [chk_ok (by omega) (by omega), Option.bind_some, r1, Option.bind_some]
        rw [show ((A.length + h : Nat) : Int) + ((A.length + L.length : Nat) : Int) - ((A.length + L1.length : Nat) : Int) = ((A.length + L.length + M1.length : Nat) : Int) by omega, chk_ok (by omega) (by omega), Option.bind_some]
        have hrot : ((if ((A.length + L1.length : Nat) : Int) < ((A.length + L.length : Nat) : Int) then some (decide (((A.length + L.length : Nat) : Int) < ((A.length + L.length + M1.length : Nat) : Int))) else some false).bind fun x => if x = true then (mSlicesRotateCmpFunc ((A.length + L1.length : Nat) : Int) ((A.length + L.length : Nat) : Int) ((A.length + L.length + M1.length : Nat) : Int) T.f T.t T.r T.c T.s (A ++ L ++ M ++ B) T.bk T.cn).bind fun l => some l else some (A ++ L ++ M ++ B)) = some (A ++ L1 ++ M1 ++ (L2 ++ M2 ++ B)) := by
          have triv : L2 = [] ∨ M1 = [] → A ++ L ++ M ++ B = A ++ L1 ++ M1 ++ (L2 ++ M2 ++ B) := fun q => by
            rw [a1, b1]
            rcases q with rfl | rfl
            · simp
            · simp
          by_cases q1 : L2 = []
          · subst q1
            rw [if_neg (by simp at la; omega), Option.bind_some, if_neg (by decide), triv (.inl rfl)]
          · by_cases q2 : M1 = []
            · have : L2.length ≠ 0 := fun e => q1 (List.eq_nil_of_length_eq_zero e)
              rw [if_pos (by omega), Option.bind_some, decide_eq_false (by rw [q2]; simp), if_neg (by decide), triv (.inr q2)]
            · have w1 : L2.length ≠ 0 := fun e => q1 (List.eq_nil_of_length_eq_zero e)
              have w2 : M1.length ≠ 0 := fun e => q2 (List.eq_nil_of_length_eq_zero e)
              have el : A ++ L ++ M ++ B = (A ++ L1) ++ L2 ++ M1 ++ (M2 ++ B) := by rw [a1, b1]; simp
              have := rotate_pieces T (A ++ L1) L2 M1 (M2 ++ B) q1 q2 (by rw [← el]; exact hl)
              rw [← el, List.length_append, show A.length + L1.length + L2.length = A.length + L.length by omega] at this
              rw [if_pos (by omega), Option.bind_some, decide_eq_true (by omega), if_pos rfl, this, Option.bind_some]
              simp
        rw [hrot, Option.bind_some]
        rw [a1, List.pairwise_append] at sL
        rw [b1, List.pairwise_append] at sM
        have hL1 : ∀ y ∈ L1, Valid T y := fun y hy => hL y (by rw [a1]; simp [hy])
        have hL2 : ∀ y ∈ L2, Valid T y := fun y hy => hL y (by rw [a1]; simp [hy])
        have hM1 : ∀ y ∈ M1, Valid T y := fun y hy => hM y (by rw [b1]; simp [hy])
        have hM2 : ∀ y ∈ M2, Valid T y := fun y hy => hM y (by rw [b1]; simp [hy])
        have first : ((if (A.length : Int) < ((A.length + L1.length : Nat) : Int) then some (decide (((A.length + L1.length : Nat) : Int) < ((A.length + h : Nat) : Int))) else some false).bind fun x => if x = true then (mSlicesSymMergeCmpFunc N (A.length : Int) ((A.length + L1.length : Nat) : Int) ((A.length + h : Nat) : Int) T.f T.t T.r T.c T.s (A ++ L1 ++ M1 ++ (L2 ++ M2 ++ B)) T.bk T.cn).bind fun l => some l else some (A ++ L1 ++ M1 ++ (L2 ++ M2 ++ B))) = none ∧ N + 1 < L.length + M.length ∨
            ∃ S1, ((if (A.length : Int) < ((A.length + L1.length : Nat) : Int) then some (decide (((A.length + L1.length : Nat) : Int) < ((A.length + h : Nat) : Int))) else some false).bind fun x => if x = true then (mSlicesSymMergeCmpFunc N (A.length : Int) ((A.length + L1.length : Nat) : Int) ((A.length + h : Nat) : Int) T.f T.t T.r T.c T.s (A ++ L1 ++ M1 ++ (L2 ++ M2 ++ B)) T.bk T.cn).bind fun l => some l else some (A ++ L1 ++ M1 ++ (L2 ++ M2 ++ B))) = some (A ++ S1 ++ (L2 ++ M2 ++ B)) ∧ S1.Perm (L1 ++ M1) ∧ S1.Pairwise (Le T) := by
          by_cases q1 : L1 = []
          · rw [if_neg (by rw [q1]; simp), Option.bind_some, if_neg (by decide)]
            exact .inr ⟨L1 ++ M1, by simp, .refl _, sorted_two sL.1 sM.1 (.inl q1)⟩
          · by_cases q2 : M1 = []
            · have w1 : L1.length ≠ 0 := fun e => q1 (List.eq_nil_of_length_eq_zero e)
              have w2 : M1.length = 0 := by rw [q2]; rfl
              rw [if_pos (by omega), Option.bind_some, decide_eq_false (by omega), if_neg (by decide)]
              exact .inr ⟨L1 ++ M1, by simp, .refl _, sorted_two sL.1 sM.1 (.inr q2)⟩
            · have w1 : L1.length ≠ 0 := fun e => q1 (List.eq_nil_of_length_eq_zero e)
              have w2 : M1.length ≠ 0 := fun e => q2 (List.eq_nil_of_length_eq_zero e)
              rw [if_pos (by omega), Option.bind_some, decide_eq_true (by omega), if_pos rfl]
              have := ih A L1 M1 (L2 ++ M2 ++ B) q1 q2 hL1 hM1 sL.1 sM.1 (by simp; omega)
              rw [show A.length + L1.length + M1.length = A.length + h by omega] at this
              rcases this with ⟨t1, t2⟩ | ⟨S1, t1, t2, t3⟩
              · rw [t1]
                exact .inl ⟨rfl, by omega⟩
              · rw [t1]
                exact .inr ⟨S1, rfl, t2, t3⟩
        rcases first with ⟨f1, f2⟩ | ⟨S1, f1, f2, f3⟩
        · rw [f1]
          exact .inl ⟨rfl, f2⟩
        · rw [f1, Option.bind_some]
          have ls : S1.length = h := by rw [f2.length_eq, List.length_append]; exact ab
          have e2 : A ++ S1 ++ (L2 ++ M2 ++ B) = (A ++ S1) ++ L2 ++ M2 ++ B := by simp
          have fin : ∀ S2 : List Int, S2.Perm (L2 ++ M2) → S2.Pairwise (Le T) → ∃ S, A ++ S1 ++ S2 ++ B = A ++ S ++ B ∧ S.Perm (L ++ M) ∧ S.Pairwise (Le T) := fun S2 p2 s2 => by
            obtain ⟨p, s⟩ := sorted_four (T := T) (L1 := L1) (L2 := L2) (M1 := M1) (M2 := M2) (by rw [List.pairwise_append]; exact sL) (by rw [List.pairwise_append]; exact sM) r2 r3 f2 p2 f3 s2
            rw [← a1, ← b1] at p
            exact ⟨S1 ++ S2, by simp, p, s⟩
          by_cases q1 : L2 = []
          · have w1 : L2.length = 0 := by rw [q1]; rfl
            rw [if_neg (by omega), Option.bind_some, if_neg (by decide)]
            obtain ⟨S, g1, g2, g3⟩ := fin (L2 ++ M2) (.refl _) (sorted_two sL.2.1 sM.2.1 (.inl q1))
            exact .inr ⟨S, by rw [← g1]; simp, g2, g3⟩
          · have w1 : L2.length ≠ 0 := fun e => q1 (List.eq_nil_of_length_eq_zero e)
            by_cases q2 : M2 = []
            · have w2 : M2.length = 0 := by rw [q2]; rfl
              rw [if_pos (by omega), Option.bind_some, decide_eq_false (by omega), if_neg (by decide)]
              obtain ⟨S, g1, g2, g3⟩ := fin (L2 ++ M2) (.refl _) (sorted_two sL.2.1 sM.2.1 (.inr q2))
              exact .inr ⟨S, by rw [← g1]; simp, g2, g3⟩
            · have w2 : M2.length ≠ 0 := fun e => q2 (List.eq_nil_of_length_eq_zero e)
              rw [if_pos (by omega), Option.bind_some, decide_eq_true (by omega), if_pos rfl, e2]
              have := ih (A ++ S1) L2 M2 B q1 q2 hL2 hM2 sL.2.1 sM.2.1 (by simp; omega)
              rw [List.length_append, ls, show A.length + h + L2.length = A.length + L.length + M1.length by omega, show A.length + L.length + M1.length + M2.length = A.length + L.length + M.length by omega] at this
              rcases this with ⟨t1, t2⟩ | ⟨S2, t1, t2, t3⟩
              · rw [t1]
                exact .inl ⟨rfl, by omega⟩
              · rw [t1]
                obtain ⟨S, g1, g2, g3⟩ := fin S2 t2 t3
                exact .inr ⟨S, by rw [← g1]; rfl, g2, g3⟩
end Go.Proofs.YthcgoaejnpelbaaGreatDoor.C
/- Plain: the stable sort of up to forty numbers, and the order of tasks. -/
namespace Go.Proofs.YthcgoaejnpelbaaGreatDoor.C
open Go.RowKit Go.Fp

theorem pass2 {β γ τ : Type} {A : β → γ → Option τ} {y : β} {z : γ} : (some (y, z)).bind (unc2 A) = A y z := rfl
theorem pass3 {β γ δ τ : Type} {A : β → γ → δ → Option τ} {y : β} {z : γ} {x : δ} : (some (y, z, x)).bind (unc3 A) = A y z x := rfl
def iota (n : Nat) : List Int := (List.range n).map (fun i : Nat => (i : Int))
theorem iota_get {n j : Nat} (h : j < n) : (iota n)[j]? = some (j : Int) := by
  unfold iota
  rw [List.getElem?_map, List.getElem?_range h]
  rfl
theorem iota_mem {n : Nat} {y : Int} (h : y ∈ iota n) : 0 ≤ y ∧ y < (n : Int) := by
  obtain ⟨i, hi, rfl⟩ := List.mem_map.1 h
  have := List.mem_range.1 hi
  omega
theorem iota_len (n : Nat) : (iota n).length = n := by
  unfold iota
  rw [List.length_map, List.length_range]
theorem iota_lt (n : Nat) : (iota n).Pairwise (· < ·) := by
  rw [List.pairwise_iff_getElem]
  intro i j hi hj hij
  rw [iota_len] at hi hj
  have e1 := iota_get hi
  have e2 := iota_get hj
  rw [List.getElem?_eq_getElem (by rw [iota_len]; exact hi)] at e1
  rw [List.getElem?_eq_getElem (by rw [iota_len]; exact hj)] at e2
  injection e1 with e1
  injection e2 with e2
  rw [e1, e2]
  omega
section
variable {l : Ctx}
theorem sym_lim {A L M B : List Int} (nL : L ≠ []) (nM : M ≠ []) (hL : ∀ y ∈ L, Valid l y) (hM : ∀ y ∈ M, Valid l y) (sL : L.Pairwise (Le l)) (sM : M.Pairwise (Le l)) (hl : (A ++ L ++ M ++ B).length ≤ 1000000) {a b c : Int} (ha : a = (A.length : Int)) (hb : b = ((A.length + L.length : Nat) : Int)) (hc : c = ((A.length + L.length + M.length : Nat) : Int)) :
    ∃ S, lim (fun N => mSlicesSymMergeCmpFunc N a b c l.f l.t l.r l.c l.s (A ++ L ++ M ++ B) l.bk l.cn) = some (A ++ S ++ B) ∧ S.Perm (L ++ M) ∧ S.Pairwise (Le l) := by
  subst ha; subst hb; subst hc
  have key := fun N => sym_spec l N A L M B nL nM hL hM sL sM hl
  obtain ⟨R, e1, S, e2, e3, e4⟩ := lim_ok (f := fun N => mSlicesSymMergeCmpFunc N (A.length : Int) ((A.length + L.length : Nat) : Int) ((A.length + L.length + M.length : Nat) : Int) l.f l.t l.r l.c l.s (A ++ L ++ M ++ B) l.bk l.cn) (P := fun R => ∃ S, R = A ++ S ++ B ∧ S.Perm (L ++ M) ∧ S.Pairwise (Le l)) (by
    rcases key (L.length + M.length) with ⟨_, h⟩ | ⟨S, h, _⟩
    · exact absurd h (by omega)
    · exact ⟨_, _, h⟩) (fun N R hR => by
    rcases key N with ⟨h, _⟩ | ⟨S, h, h2⟩
    · rw [show mSlicesSymMergeCmpFunc N _ _ _ l.f l.t l.r l.c l.s (A ++ L ++ M ++ B) l.bk l.cn = some R from hR] at h
      cases h
    · rw [show mSlicesSymMergeCmpFunc N _ _ _ l.f l.t l.r l.c l.s (A ++ L ++ M ++ B) l.bk l.cn = some R from hR] at h
      injection h with h
      exact ⟨S, h, h2⟩)
  exact ⟨S, by rw [e1, e2], e3, e4⟩
end
end Go.Proofs.YthcgoaejnpelbaaGreatDoor.C
/- Plain: the stable sort of any number of indices (its order). -/
namespace Go.Proofs.YthcgoaejnpelbaaGreatDoor.C
open Go.RowKit Go.Fp

/-- A row of sorted stretches of one length. -/
inductive Full (T : Ctx) (bs : Nat) : List Int → Prop
  | nil : Full T bs []
  | cons (S A : List Int) : S.length = bs → S.Pairwise (Le T) → Full T bs A → Full T bs (S ++ A)
section
variable {T : Ctx} {bs : Nat}
theorem Full.snoc {A S : List Int} (h : Full T bs A) (hl : S.length = bs) (hs : S.Pairwise (Le T)) : Full T bs (A ++ S) := by
  induction h with
  | nil => simpa using Full.cons S [] hl hs .nil
  | cons S' A' h1 h2 h3 ih => rw [List.append_assoc]; exact .cons S' _ h1 h2 ih
def Runs (T : Ctx) (bs : Nat) (l : List Int) : Prop := ∃ A S, l = A ++ S ∧ Full T bs A ∧ S.length ≤ bs ∧ S.Pairwise (Le T)
theorem runs_nil : Runs T bs [] := ⟨[], [], rfl, .nil, Nat.zero_le _, .nil⟩
theorem runs_two {l : List Int} (h : Runs T bs l) (hb : 0 < bs) (hl : 2 * bs ≤ l.length) : ∃ C D l', l = C ++ D ++ l' ∧ C.length = bs ∧ D.length = bs ∧ C.Pairwise (Le T) ∧ D.Pairwise (Le T) ∧ Runs T bs l' := by
  obtain ⟨A, S, rfl, hA, hS, sS⟩ := h
  cases hA with
  | nil => simp at hl; omega
  | cons C A1 h1 h2 h3 =>
    cases h3 with
    | nil =>
      simp at hl
      exact ⟨C, S, [], by simp, h1, by omega, h2, sS, runs_nil⟩
    | cons D A2 g1 g2 g3 => exact ⟨C, D, A2 ++ S, by simp, h1, g1, h2, g2, A2, S, rfl, g3, hS, sS⟩
theorem runs_one {l : List Int} (h : Runs T bs l) (hb : 0 < bs) (hl : l.length ≤ bs) : l.Pairwise (Le T) := by
  obtain ⟨A, S, rfl, hA, hS, sS⟩ := h
  cases hA with
  | nil => simpa using sS
  | cons C A1 h1 h2 h3 =>
    simp only [List.length_append] at hl
    have e1 : A1 = [] := List.length_eq_zero_iff.1 (by omega)
    have e2 : S = [] := List.length_eq_zero_iff.1 (by omega)
    subst e1; subst e2
    simpa using h2
theorem runs_mid {l : List Int} (h : Runs T bs l) (hb : bs < l.length) (hl : l.length < 2 * bs) : ∃ C D, l = C ++ D ∧ C.length = bs ∧ D ≠ [] ∧ C.Pairwise (Le T) ∧ D.Pairwise (Le T) := by
  obtain ⟨A, S, rfl, hA, hS, sS⟩ := h
  cases hA with
  | nil => simp at hb; omega
  | cons C A1 h1 h2 h3 =>
    cases h3 with
    | nil =>
      simp at hb
      exact ⟨C, S, by simp, h1, fun e => by subst e; simp at hb; omega, h2, sS⟩
    | cons D A2 g1 g2 g3 =>
      simp at hl
      omega
theorem first_runs {S : List Int} (hv : ∀ y ∈ S, Valid T y) (hs : S.Pairwise (· < ·)) (hn : S.length ≤ 1000) :
    ∃ a l1 l2, loopM (mSlicesStableCmpFunc_L622 T.bk T.cn (S.length : Int) T.f T.t T.r T.c T.s) (0, 20, S) = some (a, l1) ∧ mSlicesInsertionSortCmpFunc a (S.length : Int) T.f T.t T.r T.c T.s l1 T.bk T.cn = some l2 ∧ l2.Perm S ∧ Runs T 20 l2 := by
  obtain ⟨⟨a, l1⟩, e1, A, B, B0, e2, e3, e4, e5, e6⟩ := loopM_inv (step := mSlicesStableCmpFunc_L622 T.bk T.cn (S.length : Int) T.f T.t T.r T.c T.s)
    (fun q => ∃ A B B0 : List Int, q = ((A.length : Int), (A.length : Int) + 20, A ++ B) ∧ Full T 20 A ∧ A.Perm B0 ∧ B0 ++ B = S)
    (fun r => ∃ A B B0 : List Int, r = ((A.length : Int), A ++ B) ∧ Full T 20 A ∧ A.Perm B0 ∧ B0 ++ B = S ∧ B.length < 20) (fun q => S.length - q.1.toNat) (fun q hq => by
      obtain ⟨A, B, B0, rfl, h1, h2, h3⟩ := hq
      have hl : A.length + B.length = S.length := by rw [← h3, List.length_append, h2.length_eq]
      unfold mSlicesStableCmpFunc_L622
      simp only [unc3]
      by_cases hc : (A.length : Int) + 20 ≤ (S.length : Int)
      · rw [if_pos hc]
        obtain ⟨C, hC⟩ : ∃ C, B.take 20 = C := ⟨_, rfl⟩
        obtain ⟨D, hD⟩ : ∃ D, B.drop 20 = D := ⟨_, rfl⟩
        have hB : B = C ++ D := by rw [← hC, ← hD, List.take_append_drop]
        have lC : C.length = 20 := by rw [← hC, List.length_take]; omega
        subst hB
        have hs' := hs
        rw [← h3, List.pairwise_append, List.pairwise_append] at hs'
        obtain ⟨C', i1, i2, i3⟩ := insertion_pieces (T := T) A C D (fun y hy => hv y (by rw [← h3]; simp [hy])) hs'.2.1.1 (by simp at hl ⊢; omega)
        rw [lC, show ((A.length + 20 : Nat) : Int) = (A.length : Int) + 20 by omega] at i1
        have lC' : C'.length = 20 := by rw [i2.length_eq, lC]
        rw [show A ++ (C ++ D) = A ++ C ++ D by simp, i1, Option.bind_some, chk_ok (by omega) (by omega), Option.bind_some]
        refine .inl ⟨_, rfl, ⟨A ++ C', D, B0 ++ C, ?_, h1.snoc lC' (i3.imp le_of_ord), h2.append i2, by rw [← h3]; simp⟩, ?_⟩
        · rw [List.length_append, lC', show ((A.length + 20 : Nat) : Int) = (A.length : Int) + 20 by omega]
        · simp only
          omega
      · rw [if_neg hc]
        exact .inr ⟨_, rfl, A, B, B0, rfl, h1, h2, h3, by omega⟩) (0, 20, S) ⟨[], S, [], rfl, .nil, .refl _, rfl⟩
  injection e2 with e2 e2'
  subst e2; subst e2'
  have hl : A.length + B.length = S.length := by rw [← e5, List.length_append, e4.length_eq]
  have hs' := hs
  rw [← e5, List.pairwise_append] at hs'
  obtain ⟨B', i1, i2, i3⟩ := insertion_pieces (T := T) A B [] (fun y hy => hv y (by rw [← e5]; simp [hy])) hs'.2.1 (by simp; omega)
  simp only [List.append_nil] at i1
  rw [hl] at i1
  exact ⟨_, _, A ++ B', e1, i1, by rw [← e5]; exact e4.append i2, A, B', rfl, e3, by rw [i2.length_eq]; omega, i3.imp le_of_ord⟩
theorem pass_runs {R : List Int} {n : Nat} (hn : R.length = n) (hb : 0 < bs) (hb2 : bs ≤ 1000) (hn2 : n ≤ 1000) (hR : Runs T bs R) (hv : ∀ y ∈ R, Valid T y) :
    ∃ a l1, loopM (mSlicesStableCmpFunc_L1025 T.bk T.cn (n : Int) T.f T.t T.r T.c T.s (bs : Int)) (0, 2 * (bs : Int), R) = some (a, l1) ∧ ∃ A B : List Int, a = (A.length : Int) ∧ l1 = A ++ B ∧ Full T (2 * bs) A ∧ Runs T bs B ∧ (A ++ B).Perm R ∧ B.length < 2 * bs := by
  obtain ⟨⟨a, l1⟩, e1, A, B, e2, e3, e4, e5, e6⟩ := loopM_inv (step := mSlicesStableCmpFunc_L1025 T.bk T.cn (n : Int) T.f T.t T.r T.c T.s (bs : Int))
    (fun q => ∃ A B : List Int, q = ((A.length : Int), (A.length : Int) + 2 * (bs : Int), A ++ B) ∧ Full T (2 * bs) A ∧ Runs T bs B ∧ (A ++ B).Perm R)
    (fun r => ∃ A B : List Int, r = ((A.length : Int), A ++ B) ∧ Full T (2 * bs) A ∧ Runs T bs B ∧ (A ++ B).Perm R ∧ B.length < 2 * bs) (fun q => n - q.1.toNat) (fun q hq => by
      obtain ⟨A, B, rfl, h1, h2, h3⟩ := hq
      have hl : A.length + B.length = n := by rw [← hn, ← h3.length_eq, List.length_append]
      unfold mSlicesStableCmpFunc_L1025
      simp only [unc3]
      by_cases hc : (A.length : Int) + 2 * (bs : Int) ≤ (n : Int)
      · rw [if_pos hc]
        obtain ⟨C, D, B', rfl, lC, lD, sC, sD, hB'⟩ := runs_two h2 hb (by omega)
        have hvv : ∀ y, y ∈ C ∨ y ∈ D → Valid T y := fun y hy => hv y (h3.subset (by rcases hy with h | h <;> simp [h]))
        simp only [List.length_append] at hl
        obtain ⟨M, m1, m2, m3⟩ := sym_lim (l := T) (A := A) (L := C) (M := D) (B := B') (fun e => by subst e; simp at lC; omega) (fun e => by subst e; simp at lD; omega) (fun y hy => hvv y (.inl hy)) (fun y hy => hvv y (.inr hy)) sC sD (by simp; omega) (a := (A.length : Int)) (b := (A.length : Int) + (bs : Int)) (c := (A.length : Int) + 2 * (bs : Int)) rfl (by omega) (by omega)
        have lM : M.length = 2 * bs := by rw [m2.length_eq, List.length_append]; omega
        rw [chk_ok (by omega) (by omega), Option.bind_some, show A ++ (C ++ D ++ B') = A ++ C ++ D ++ B' by simp, m1, Option.bind_some, chk_ok (by omega) (by omega), Option.bind_some, chk_ok (by omega) (by omega), Option.bind_some]
        refine .inl ⟨_, rfl, ⟨A ++ M, B', ?_, h1.snoc lM m3, hB', ?_⟩, ?_⟩
        · rw [List.length_append, lM, show ((A.length + 2 * bs : Nat) : Int) = (A.length : Int) + 2 * (bs : Int) by omega]
        · refine List.Perm.trans ?_ h3
          rw [List.append_assoc]
          exact (m2.append_right B').append_left A
        · simp only
          omega
      · rw [if_neg hc]
        exact .inr ⟨_, rfl, A, B, rfl, h1, h2, h3, by omega⟩) (0, 2 * (bs : Int), R) ⟨[], R, by simp, .nil, hR, .refl _⟩
  injection e2 with e2 e2'
  exact ⟨a, l1, e1, A, B, e2, e2', e3, e4, e5, e6⟩
theorem sort_spec {S : List Int} (hv : ∀ y ∈ S, Valid T y) (hs : S.Pairwise (· < ·)) (hn : S.length ≤ 1000) : ∃ o, mSlicesSortStableFunc T.f T.t T.r T.c T.s S T.bk T.cn = some o ∧ o.Perm S ∧ o.Pairwise (Le T) := by
  obtain ⟨a, l1, l2, f1, f2, f3, f4⟩ := first_runs hv hs hn
  unfold mSlicesSortStableFunc mSlicesStableCmpFunc
  rw [f1, pass2, f2, Option.bind_some]
  obtain ⟨n, hn'⟩ : ∃ n, S.length = n := ⟨_, rfl⟩
  rw [hn'] at hn ⊢
  obtain ⟨o, e1, e2, e3⟩ := loopM_inv (step := mSlicesStableCmpFunc_L673 T.bk T.cn (n : Int) T.f T.t T.r T.c T.s)
    (fun q => ∃ (bs : Nat) (l : List Int), q = ((bs : Int), l) ∧ 0 < bs ∧ Runs T bs l ∧ l.Perm S) (fun o => o.Perm S ∧ o.Pairwise (Le T)) (fun q => n - q.1.toNat) (fun q hq => by
      obtain ⟨bs, l, rfl, hb, hr, hp⟩ := hq
      have hl : l.length = n := by rw [hp.length_eq, hn']
      unfold mSlicesStableCmpFunc_L673
      simp only [unc2]
      by_cases hc : (bs : Int) < (n : Int)
      · rw [if_pos hc, chk_ok (by omega) (by omega), Option.bind_some]
        obtain ⟨a, l1, p1, A, B, rfl, rfl, p2, p3, p4, p5⟩ := pass_runs hl hb (by omega) hn hr (fun y hy => hv y (hp.subset hy))
        have hlAB : A.length + B.length = n := by rw [← hl, ← p4.length_eq, List.length_append]
        rw [p1, pass2, chk_ok (by omega) (by omega), Option.bind_some]
        by_cases hc2 : (A.length : Int) + (bs : Int) < (n : Int)
        · rw [if_pos hc2]
          obtain ⟨C, D, rfl, lC, nD, sC, sD⟩ := runs_mid p3 (by omega) p5
          simp only [List.length_append] at hlAB p5
          have hvv : ∀ y, y ∈ C ∨ y ∈ D → Valid T y := fun y hy => hv y (hp.subset (p4.subset (by rcases hy with h | h <;> simp [h])))
          obtain ⟨M, m1, m2, m3⟩ := sym_lim (l := T) (A := A) (L := C) (M := D) (B := []) (fun e => by subst e; simp at lC; omega) nD (fun y hy => hvv y (.inl hy)) (fun y hy => hvv y (.inr hy)) sC sD (by simp; omega) (a := (A.length : Int)) (b := (A.length : Int) + (bs : Int)) (c := (n : Int)) rfl (by omega) (by omega)
          simp only [List.append_nil] at m1
          rw [show A ++ (C ++ D) = A ++ C ++ D by simp, m1, Option.bind_some, Option.bind_some, chk_ok (by omega) (by omega), Option.bind_some]
          refine .inl ⟨_, rfl, ⟨2 * bs, A ++ M, ?_, by omega, ⟨A, M, rfl, p2, ?_, m3⟩, ?_⟩, ?_⟩
          · rw [show ((2 * bs : Nat) : Int) = (bs : Int) * 2 by omega]
          · rw [m2.length_eq, List.length_append]
            omega
          · exact ((m2.append_left A).trans p4).trans hp
          · simp only
            omega
        · rw [if_neg hc2, Option.bind_some, chk_ok (by omega) (by omega), Option.bind_some]
          refine .inl ⟨_, rfl, ⟨2 * bs, A ++ B, ?_, by omega, ⟨A, B, rfl, p2, by omega, runs_one p3 hb (by omega)⟩, p4.trans hp⟩, ?_⟩
          · rw [show ((2 * bs : Nat) : Int) = (bs : Int) * 2 by omega]
          · simp only
            omega
      · rw [if_neg hc]
        exact .inr ⟨_, rfl, hp, runs_one hr hb (by omega)⟩) (20, l2) ⟨20, l2, rfl, by omega, f4, f3⟩
  rw [e1]
  exact ⟨o, rfl, e2, e3⟩
end
end Go.Proofs.YthcgoaejnpelbaaGreatDoor.C
