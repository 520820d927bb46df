/- Plain: merging where one stretch is one element. -/
import Derived.Test.YtnlnohallnfbmaaGreatDoorQS8
set_option linter.unusedVariables false
set_option linter.unusedSimpArgs false
namespace Go.Proofs.YtnlnohallnfbmaaGreatDoor
open Go.RowKit Go.Fp

/-- No later. -/
def Le (T : List FareSpan) (a b : Int) : Prop := depOf T a ≤ depOf T b
theorem le_of_ord {T : List FareSpan} {a b : Int} (h : Ord T a b) : Le T a b := by
  unfold Ord at h
  unfold Le
  omega
theorem dep_sorted {T : List FareSpan} {M : List Int} (h : M.Pairwise (Le T)) {c d : Nat} (hc : c ≤ d) (hd : d < M.length) : depOf T (M[c]'(by omega)) ≤ depOf T M[d] := by
  by_cases e : c = d
  · subst e; exact Int.le_refl _
  · have := List.pairwise_iff_getElem.1 h c d (by omega) hd (by omega)
    exact this
theorem at_mid (A X B : List Int) {c : Nat} (h : c < X.length) : idx (A ++ X ++ B) ((A.length + c : Nat) : Int) = some X[c] := by
  refine idx_nat ?_
  rw [List.append_assoc, List.getElem?_append_right (by omega), List.getElem?_append_left (by omega), show A.length + c - A.length = c by omega]
  exact List.getElem?_eq_getElem h
theorem half2 (i j : Nat) (h : i + j ≤ 4000000) : IntKind.wrap .i64 (shrI .u64 (IntKind.wrap .u64 ((i : Int) + (j : Int))) 1) = (((i + j) / 2 : Nat) : Int) := by
  rw [show (i : Int) + (j : Int) = ((i + j : Nat) : Int) by omega, half_eq _ h]
theorem split_at (M : List Int) {r : Nat} (h : r ≤ M.length) : ∃ M1 M2, M = M1 ++ M2 ∧ M1.length = r ∧ (∀ y ∈ M1, ∃ k, ∃ hk : k < M.length, k < r ∧ M[k] = y) ∧ ∀ y ∈ M2, ∃ k, ∃ hk : k < M.length, r ≤ k ∧ M[k] = y := by
  refine ⟨M.take r, M.drop r, (List.take_append_drop r M).symm, by rw [List.length_take]; omega, fun y hy => ?_, fun y hy => ?_⟩
  · obtain ⟨k, hk, rfl⟩ := List.getElem_of_mem hy
    rw [List.length_take] at hk
    exact ⟨k, by omega, by omega, by rw [List.getElem_take]⟩
  · obtain ⟨k, hk, rfl⟩ := List.getElem_of_mem hy
    rw [List.length_drop] at hk
    exact ⟨r + k, by omega, by omega, by rw [List.getElem_drop]⟩
def dg (T : List FareSpan) (M : List Int) (k : Nat) : Int := depOf T ((M[k]?).getD 0)
theorem dg_at {T : List FareSpan} {M : List Int} {k : Nat} (h : k < M.length) : dg T M k = depOf T M[k] := by
  unfold dg
  rw [List.getElem?_eq_getElem h]
  rfl
theorem one_left {T : List FareSpan} {A M B : List Int} {x : Int} (hx : Valid T x) (hM : ∀ y ∈ M, Valid T y) (hs : M.Pairwise (Le T)) (hl : (A ++ x :: (M ++ B)).length ≤ 1000000) :
    ∃ M1 M2, M = M1 ++ M2 ∧ ((loopM (mSlicesSymMergeCmpFunc_L6951 (A.length : Int) T (A ++ x :: (M ++ B))) (((A.length + 1 : Nat) : Int), ((A.length + 1 + M.length : Nat) : Int))).bind fun i => (loopM (mSlicesSymMergeCmpFunc_L7644 i) ((A.length : Int), A ++ x :: (M ++ B))).bind fun l => some l) = some (A ++ (M1 ++ x :: M2) ++ B) ∧ (∀ y ∈ M1, Le T y x) ∧ ∀ y ∈ M2, Le T x y := by
  have hl' : A.length + (M.length + B.length + 1) ≤ 1000000 := by simpa [Nat.add_assoc] using hl
  have f0 : idx (A ++ x :: (M ++ B)) (A.length : Int) = some x := idx_mid A x _ rfl
  have e0 : A ++ x :: (M ++ B) = (A ++ [x]) ++ M ++ B := by simp
  have fM : ∀ c, A.length + 1 ≤ c → c < A.length + 1 + M.length → ∃ (hk : c - (A.length + 1) < M.length), idx (A ++ x :: (M ++ B)) (c : Int) = some (M[c - (A.length + 1)]'hk) := fun c h1 h2 => by
    refine ⟨by omega, ?_⟩
    have := at_mid (A ++ [x]) M B (c := c - (A.length + 1)) (by omega)
    rw [e0, ← this]
    congr 2
    simp
    omega
  obtain ⟨r, r1, r2, r3, r4, r5⟩ := halves (step := mSlicesSymMergeCmpFunc_L6951 (A.length : Int) T (A ++ x :: (M ++ B))) (lo := A.length + 1) (hi := A.length + 1 + M.length) (fun c => dg T M (c - (A.length + 1)) < depOf T x) (by omega) (fun c d h1 h2 h3 h4 => by
      have e1 : c - (A.length + 1) ≤ d - (A.length + 1) := by omega
      have e2 : d - (A.length + 1) < M.length := by omega
      rw [dg_at e2] at h4
      rw [dg_at (by omega)]
      have := dep_sorted hs e1 e2
      omega) (fun i j h1 h2 h3 => by
      obtain ⟨hk, hc⟩ := fM ((i + j) / 2) (by omega) (by omega)
      obtain ⟨v, v1, v2⟩ := order1_spec (T := T) (hM _ (List.getElem_mem hk)) hx
      unfold mSlicesSymMergeCmpFunc_L6951
      simp only [unc2]
      rw [if_pos (by omega), chk_ok (by omega) (by omega), Option.bind_some, shN_ok (by decide), Option.bind_some, half2 i j (by omega), hc, Option.bind_some, f0, Option.bind_some, v1, Option.bind_some]
      by_cases hv : v < 0
      · have := v2.1 hv
        rw [if_pos hv, chk_ok (by omega) (by omega), Option.bind_some]
        rw [if_pos (by rw [dg_at hk]; exact this), if_pos (by rw [dg_at hk]; exact this)]
        rfl
      · have : ¬ depOf T M[(i + j) / 2 - (A.length + 1)] < depOf T x := fun h => hv (v2.2 h)
        rw [if_neg hv, if_neg (by rw [dg_at hk]; exact this), if_neg (by rw [dg_at hk]; exact this)]) (fun i h1 h2 => by
      unfold mSlicesSymMergeCmpFunc_L6951
      simp only [unc2]
      rw [if_neg (by omega)])
  obtain ⟨M1, M2, m1, m2, m3, m4⟩ := split_at M (r := r - (A.length + 1)) (by omega)
  refine ⟨M1, M2, m1, ?_, fun y hy => ?_, fun y hy => ?_⟩
  · rw [r1, Option.bind_some]
    have := move_right A M1 (M2 ++ B) x (by rw [show M1 ++ (M2 ++ B) = M ++ B by rw [m1]; simp]; exact hl)
    rw [show M1 ++ (M2 ++ B) = M ++ B by rw [m1]; simp, show A.length + M1.length + 1 = r by omega] at this
    rw [this]
    simp
  · obtain ⟨k, hk, h1, rfl⟩ := m3 y hy
    have := r4 (A.length + 1 + k) (by omega) (by omega)
    simp only [show A.length + 1 + k - (A.length + 1) = k by omega] at this
    rw [dg_at hk] at this
    unfold Le
    omega
  · obtain ⟨k, hk, h1, rfl⟩ := m4 y hy
    have := r5 (A.length + 1 + k) (by omega) (by omega)
    simp only [show A.length + 1 + k - (A.length + 1) = k by omega] at this
    rw [dg_at hk] at this
    unfold Le
    omega
theorem one_right {T : List FareSpan} {A L B : List Int} {x : Int} (hx : Valid T x) (hL : ∀ y ∈ L, Valid T y) (hs : L.Pairwise (Le T)) (hl : (A ++ L ++ x :: B).length ≤ 1000000) :
    ∃ L1 L2, L = L1 ++ L2 ∧ ((loopM (mSlicesSymMergeCmpFunc_L8335 ((A.length + L.length : Nat) : Int) T (A ++ L ++ x :: B)) ((A.length : Int), ((A.length + L.length : Nat) : Int))).bind fun i => (loopM (mSlicesSymMergeCmpFunc_L9025 i) (((A.length + L.length : Nat) : Int), A ++ L ++ x :: B)).bind fun l => some l) = some (A ++ (L1 ++ x :: L2) ++ B) ∧ (∀ y ∈ L1, Le T y x) ∧ ∀ y ∈ L2, Le T x y := by
  have hl' : A.length + (L.length + (B.length + 1)) ≤ 1000000 := by simpa [Nat.add_assoc] using hl
  have f0 : idx (A ++ L ++ x :: B) ((A.length + L.length : Nat) : Int) = some x := idx_mid (A ++ L) x _ (by simp)
  have fL : ∀ c, A.length ≤ c → c < A.length + L.length → ∃ (hk : c - A.length < L.length), idx (A ++ L ++ x :: B) (c : Int) = some (L[c - A.length]'hk) := fun c h1 h2 => by
    refine ⟨by omega, ?_⟩
    have := at_mid A L (x :: B) (c := c - A.length) (by omega)
    rw [← this]
    congr 2
    omega
  obtain ⟨r, r1, r2, r3, r4, r5⟩ := halves (step := mSlicesSymMergeCmpFunc_L8335 ((A.length + L.length : Nat) : Int) T (A ++ L ++ x :: B)) (lo := A.length) (hi := A.length + L.length) (fun c => ¬ depOf T x < dg T L (c - A.length)) (by omega) (fun c d h1 h2 h3 h4 => by
      have e1 : c - A.length ≤ d - A.length := by omega
      have e2 : d - A.length < L.length := by omega
      rw [dg_at e2] at h4
      rw [dg_at (by omega)]
      have := dep_sorted hs e1 e2
      omega) (fun i j h1 h2 h3 => by
      obtain ⟨hk, hc⟩ := fL ((i + j) / 2) (by omega) (by omega)
      obtain ⟨v, v1, v2⟩ := order1_spec (T := T) hx (hL _ (List.getElem_mem hk))
      unfold mSlicesSymMergeCmpFunc_L8335
      simp only [unc2]
      rw [if_pos (by omega), chk_ok (by omega) (by omega), Option.bind_some, shN_ok (by decide), Option.bind_some, half2 i j (by omega), f0, Option.bind_some, hc, Option.bind_some, v1, Option.bind_some]
      by_cases hv : v < 0
      · have := v2.1 hv
        rw [if_pos hv, if_neg (by rw [dg_at hk]; omega), if_neg (by rw [dg_at hk]; omega)]
      · have : ¬ depOf T x < depOf T L[(i + j) / 2 - A.length] := fun h => hv (v2.2 h)
        rw [if_neg hv, chk_ok (by omega) (by omega), Option.bind_some, if_pos (by rw [dg_at hk]; exact this), if_pos (by rw [dg_at hk]; exact this)]
        rfl) (fun i h1 h2 => by
      unfold mSlicesSymMergeCmpFunc_L8335
      simp only [unc2]
      rw [if_neg (by omega)])
  obtain ⟨L1, L2, m1, m2, m3, m4⟩ := split_at L (r := r - A.length) (by omega)
  have e1 : A ++ L ++ x :: B = (A ++ L1) ++ L2 ++ x :: B := by rw [m1]; simp
  have e2 : L.length = L1.length + L2.length := by rw [m1]; simp
  refine ⟨L1, L2, m1, ?_, fun y hy => ?_, fun y hy => ?_⟩
  · rw [r1, Option.bind_some]
    have := move_left (A ++ L1) L2 B x (by rw [← e1]; exact hl)
    rw [← e1, show ((A ++ L1).length : Nat) = r by simp; omega, show r + L2.length = A.length + L.length by omega] at this
    rw [this]
    simp
  · obtain ⟨k, hk, h1, rfl⟩ := m3 y hy
    have := r4 (A.length + k) (by omega) (by omega)
    simp only [show A.length + k - A.length = k by omega] at this
    rw [dg_at hk] at this
    unfold Le
    omega
  · obtain ⟨k, hk, h1, rfl⟩ := m4 y hy
    have := r5 (A.length + k) (by omega) (by omega)
    simp only [show A.length + k - A.length = k by omega] at this
    rw [dg_at hk] at this
    unfold Le
    omega
end Go.Proofs.YtnlnohallnfbmaaGreatDoor
