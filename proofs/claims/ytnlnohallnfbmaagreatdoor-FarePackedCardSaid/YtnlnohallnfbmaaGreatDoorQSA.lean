/- Plain: the merge of two sorted stretches. -/
import Derived.Test.YtnlnohallnfbmaaGreatDoorQS9
set_option linter.unusedVariables false
set_option linter.unusedSimpArgs false
namespace Go.Proofs.YtnlnohallnfbmaaGreatDoor
open Go.RowKit Go.Fp

theorem sorted_four {T : List FareSpan} {L1 L2 M1 M2 S1 S2 : List Int} (hL : (L1 ++ L2).Pairwise (Le T)) (hM : (M1 ++ M2).Pairwise (Le T)) (h1 : ∀ x ∈ L1, ∀ y ∈ M2, Le T x y) (h2 : ∀ x ∈ M1, ∀ y ∈ L2, Le T x y)
    (p1 : S1.Perm (L1 ++ M1)) (p2 : S2.Perm (L2 ++ M2)) (s1 : S1.Pairwise (Le T)) (s2 : S2.Pairwise (Le T)) : (S1 ++ S2).Perm ((L1 ++ L2) ++ (M1 ++ M2)) ∧ (S1 ++ S2).Pairwise (Le T) := by
  rw [List.pairwise_append] at hL hM
  constructor
  · refine (p1.append p2).trans ?_
    rw [List.append_assoc, List.append_assoc]
    refine List.Perm.append_left L1 ?_
    rw [← List.append_assoc, ← List.append_assoc]
    exact List.perm_append_comm.append_right M2
  · rw [List.pairwise_append]
    refine ⟨s1, s2, fun x hx y hy => ?_⟩
    have hx' := p1.subset hx
    have hy' := p2.subset hy
    rw [List.mem_append] at hx' hy'
    rcases hx' with hx' | hx'
    · rcases hy' with hy' | hy'
      · exact hL.2.2 x hx' y hy'
      · exact h1 x hx' y hy'
    · rcases hy' with hy' | hy'
      · exact h2 x hx' y hy'
      · exact hM.2.2 x hx' y hy'
theorem sorted_two {T : List FareSpan} {L M : List Int} (hL : L.Pairwise (Le T)) (hM : M.Pairwise (Le T)) (h : L = [] ∨ M = []) : (L ++ M).Pairwise (Le T) := by
  rcases h with rfl | rfl
  · simpa using hM
  · simpa using hL
theorem search_spec {T : List FareSpan} {A L M B : List Int} (hL : ∀ y ∈ L, Valid T y) (hM : ∀ y ∈ M, Valid T y) (sL : L.Pairwise (Le T)) (sM : M.Pairwise (Le T)) (hl : (A ++ L ++ M ++ B).length ≤ 1000000) {h lo hi : Nat} (hh : h = (L.length + M.length) / 2)
    (h1 : A.length ≤ lo) (h2 : lo ≤ hi) (h3 : hi ≤ A.length + L.length) (h4 : hi ≤ A.length + h) (h5 : A.length + h ≤ lo + M.length) (h6 : lo = A.length ∨ lo + M.length = A.length + h) (h7 : hi = A.length + h ∨ hi = A.length + L.length) :
    ∃ L1 L2 M1 M2, L = L1 ++ L2 ∧ M = M1 ++ M2 ∧ L1.length + M1.length = h ∧ loopM (mSlicesSymMergeCmpFunc_L9730 (A.length : Int) ((A.length + L.length : Nat) : Int) ((A.length + L.length + M.length : Nat) : Int) T (A ++ L ++ M ++ B)) ((lo : Int), (hi : Int)) = some ((A.length + L1.length : Nat) : Int) ∧
      (∀ x ∈ L1, ∀ y ∈ M2, Le T x y) ∧ ∀ x ∈ M1, ∀ y ∈ L2, Le T x y := by
  have hl' : A.length + L.length + M.length + B.length ≤ 1000000 := by simpa [Nat.add_assoc] using hl
  have fL : ∀ k (hk : k < L.length), idx (A ++ L ++ M ++ B) ((A.length + k : Nat) : Int) = some L[k] := fun k hk => by
    rw [show A ++ L ++ M ++ B = A ++ L ++ (M ++ B) by simp]
    exact at_mid A L (M ++ B) hk
  have fM : ∀ k (hk : k < M.length), idx (A ++ L ++ M ++ B) ((A.length + L.length + k : Nat) : Int) = some M[k] := fun k hk => by
    have := at_mid (A ++ L) M B hk
    rw [List.length_append] at this
    exact this
  obtain ⟨r, r1, r2, r3, r4, r5⟩ := halves (step := mSlicesSymMergeCmpFunc_L9730 (A.length : Int) ((A.length + L.length : Nat) : Int) ((A.length + L.length + M.length : Nat) : Int) T (A ++ L ++ M ++ B)) (lo := lo) (hi := hi) (fun c => ¬ dg T M (A.length + h - 1 - c) < dg T L (c - A.length)) h2 (fun c d c1 c2 c3 c4 => by
      have e1 := dep_sorted sL (show c - A.length ≤ d - A.length by omega) (show d - A.length < L.length by omega)
      have e2 := dep_sorted sM (show A.length + h - 1 - d ≤ A.length + h - 1 - c by omega) (show A.length + h - 1 - c < M.length by omega)
      rw [dg_at (show A.length + h - 1 - d < M.length by omega), dg_at (show d - A.length < L.length by omega)] at c4
      rw [dg_at (show A.length + h - 1 - c < M.length by omega), dg_at (show c - A.length < L.length by omega)]
      omega) (fun i j i1 i2 i3 => by
      have k1 : (i + j) / 2 - A.length < L.length := by omega
      have k2 : A.length + h - 1 - (i + j) / 2 < M.length := by omega
      have g1 := fL _ k1
      have g2 := fM _ k2
      obtain ⟨v, v1, v2⟩ := order1_spec (T := T) (hM _ (List.getElem_mem k2)) (hL _ (List.getElem_mem k1))
      unfold mSlicesSymMergeCmpFunc_L9730
      simp only [unc2]
      rw [if_pos (by omega), chk_ok (by omega) (by omega), Option.bind_some, shN_ok (by decide), Option.bind_some, half2 A.length (A.length + L.length + M.length) (by omega), half2 i j (by omega)]
      rw [show (((A.length + (A.length + L.length + M.length)) / 2 : Nat) : Int) + ((A.length + L.length : Nat) : Int) - 1 - (((i + j) / 2 : Nat) : Int) = ((A.length + L.length + (A.length + h - 1 - (i + j) / 2) : Nat) : Int) by omega]
      rw [show A.length + ((i + j) / 2 - A.length) = (i + j) / 2 by omega] at g1
      rw [chk_ok (by omega) (by omega), Option.bind_some, g2, Option.bind_some, g1, Option.bind_some, v1, Option.bind_some]
      by_cases hv : v < 0
      · have := v2.1 hv
        rw [if_pos hv, if_neg (by rw [dg_at k2, dg_at k1]; omega), if_neg (by rw [dg_at k2, dg_at k1]; omega)]
      · have : ¬ depOf T M[A.length + h - 1 - (i + j) / 2] < depOf T L[(i + j) / 2 - A.length] := fun q => hv (v2.2 q)
        rw [if_neg hv, chk_ok (by omega) (by omega), Option.bind_some, if_pos (by rw [dg_at k2, dg_at k1]; exact this), if_pos (by rw [dg_at k2, dg_at k1]; exact this)]
        rfl) (fun i i1 i2 => by
      unfold mSlicesSymMergeCmpFunc_L9730
      simp only [unc2]
      rw [if_neg (by omega)])
  obtain ⟨L1, L2, a1, a2, a3, a4⟩ := split_at L (r := r - A.length) (by omega)
  obtain ⟨M1, M2, b1, b2, b3, b4⟩ := split_at M (r := A.length + h - r) (by omega)
  refine ⟨L1, L2, M1, M2, a1, b1, by omega, by rw [r1, show A.length + L1.length = r by omega], fun x hx y hy => ?_, fun x hx y hy => ?_⟩
  · obtain ⟨k, hk, k1, rfl⟩ := a3 x hx
    obtain ⟨q, hq, q1, rfl⟩ := b4 y hy
    have := r4 (r - 1) (by omega) (by omega)
    have t1 : A.length + h - 1 - (r - 1) < M.length := by omega
    have t2 : r - 1 - A.length < L.length := by omega
    rw [dg_at t1, dg_at t2] at this
    have e1 := dep_sorted sL (show k ≤ r - 1 - A.length by omega) t2
    have e2 := dep_sorted sM (show A.length + h - 1 - (r - 1) ≤ q by omega) hq
    unfold Le
    omega
  · obtain ⟨k, hk, k1, rfl⟩ := b3 x hx
    obtain ⟨q, hq, q1, rfl⟩ := a4 y hy
    have := r5 r (by omega) (by omega)
    have t1 : A.length + h - 1 - r < M.length := by omega
    have t2 : r - A.length < L.length := by omega
    rw [dg_at t1, dg_at t2] at this
    have e1 := dep_sorted sM (show k ≤ A.length + h - 1 - r by omega) t1
    have e2 := dep_sorted sL (show r - A.length ≤ q by omega) hq
    unfold Le
    omega
theorem sym_spec (T : List FareSpan) (N : Nat) : ∀ (A L M B : List Int), L ≠ [] → M ≠ [] → (∀ y ∈ L, Valid T y) → (∀ y ∈ M, Valid T y) → L.Pairwise (Le T) → M.Pairwise (Le T) → (A ++ L ++ M ++ B).length ≤ 1000000 →
    (mSlicesSymMergeCmpFunc N (A.length : Int) ((A.length + L.length : Nat) : Int) ((A.length + L.length + M.length : Nat) : Int) T (A ++ L ++ M ++ B) = none ∧ N < L.length + M.length) ∨
    ∃ S, mSlicesSymMergeCmpFunc N (A.length : Int) ((A.length + L.length : Nat) : Int) ((A.length + L.length + M.length : Nat) : Int) T (A ++ L ++ M ++ B) = some (A ++ S ++ B) ∧ S.Perm (L ++ M) ∧ S.Pairwise (Le T) := by
  induction N with
  | zero =>
    intro A L M B nL nM _ _ _ _ _
    have := List.length_pos_iff.2 nL
    exact .inl ⟨rfl, by omega⟩
  | succ N ih =>
    intro A L M B nL nM hL hM sL sM hl
    have hl' : A.length + L.length + M.length + B.length ≤ 1000000 := by simpa [Nat.add_assoc] using hl
    have pL := List.length_pos_iff.2 nL
    have pM := List.length_pos_iff.2 nM
    rw [mSlicesSymMergeCmpFunc]
    dsimp only
    rw [show ((A.length + L.length : Nat) : Int) - (A.length : Int) = (L.length : Int) by omega, show ((A.length + L.length + M.length : Nat) : Int) - ((A.length + L.length : Nat) : Int) = (M.length : Int) by omega, chk_ok (by omega) (by omega), Option.bind_some]
    by_cases c1 : L.length = 1
    · obtain ⟨x, rfl⟩ := List.length_eq_one_iff.1 c1
      rw [if_pos (by simp)]
      have e : A ++ [x] ++ M ++ B = A ++ x :: (M ++ B) := by simp
      rw [e] at hl ⊢
      obtain ⟨M1, M2, m1, m2, m3, m4⟩ := one_left (A := A) (B := B) (hL x (by simp)) hM sM hl
      refine .inr ⟨M1 ++ x :: M2, m2, ?_, ?_⟩
      · rw [m1]
        exact List.perm_middle
      · rw [m1, List.pairwise_append] at sM
        rw [List.pairwise_append, List.pairwise_cons]
        refine ⟨sM.1, ⟨m4, sM.2.1⟩, fun y hy z hz => ?_⟩
        rcases List.mem_cons.1 hz with rfl | hz
        · exact m3 y hy
        · exact sM.2.2 y hy z hz
    · rw [if_neg (by omega), chk_ok (by omega) (by omega), Option.bind_some]
      by_cases c2 : M.length = 1
      · obtain ⟨x, rfl⟩ := List.length_eq_one_iff.1 c2
        rw [if_pos (by simp)]
        have e : A ++ L ++ [x] ++ B = A ++ L ++ x :: B := by simp
        rw [e] at hl ⊢
        obtain ⟨L1, L2, m1, m2, m3, m4⟩ := one_right (A := A) (B := B) (hM x (by simp)) hL sL hl
        refine .inr ⟨L1 ++ x :: L2, m2, ?_, ?_⟩
        · rw [m1]
          exact List.perm_middle.trans (List.perm_append_singleton x (L1 ++ L2)).symm
        · rw [m1, List.pairwise_append] at sL
          rw [List.pairwise_append, List.pairwise_cons]
          refine ⟨sL.1, ⟨m4, sL.2.1⟩, fun y hy z hz => ?_⟩
          rcases List.mem_cons.1 hz with rfl | hz
          · exact m3 y hy
          · exact sL.2.2 y hy z hz
      · obtain ⟨h, hh⟩ : ∃ h, h = (L.length + M.length) / 2 := ⟨_, rfl⟩
        rw [if_neg (by omega), chk_ok (by omega) (by omega), Option.bind_some, shN_ok (by decide), Option.bind_some, half2 A.length (A.length + L.length + M.length) (by omega), show (A.length + (A.length + L.length + M.length)) / 2 = A.length + h by omega, chk_ok (by omega) (by omega), Option.bind_some]
        obtain ⟨lo, hi, e1, h1, h2, h3, h4, h5, h6, h7⟩ : ∃ lo hi : Nat, (if ((A.length + h : Nat) : Int) < ((A.length + L.length : Nat) : Int) then (chk (((A.length + h : Nat) : Int) + ((A.length + L.length : Nat) : Int) - ((A.length + L.length + M.length : Nat) : Int))).bind fun _ => some (((A.length + h : Nat) : Int) + ((A.length + L.length : Nat) : Int) - ((A.length + L.length + M.length : Nat) : Int), ((A.length + h : Nat) : Int)) else some ((A.length : Int), ((A.length + L.length : Nat) : Int))) = some ((lo : Int), (hi : Int)) ∧
            A.length ≤ lo ∧ lo ≤ hi ∧ hi ≤ A.length + L.length ∧ hi ≤ A.length + h ∧ A.length + h ≤ lo + M.length ∧ (lo = A.length ∨ lo + M.length = A.length + h) ∧ (hi = A.length + h ∨ hi = A.length + L.length) := by
          by_cases c : h < L.length
          · rw [if_pos (by omega), show ((A.length + h : Nat) : Int) + ((A.length + L.length : Nat) : Int) - ((A.length + L.length + M.length : Nat) : Int) = ((A.length + h - M.length : Nat) : Int) by omega, chk_ok (by omega) (by omega), Option.bind_some]
            exact ⟨_, _, rfl, by omega, by omega, by omega, by omega, by omega, by omega, by omega⟩
          · rw [if_neg (by omega)]
            exact ⟨_, _, rfl, by omega, by omega, by omega, by omega, by omega, by omega, by omega⟩
        obtain ⟨L1, L2, M1, M2, a1, b1, ab, r1, r2, r3⟩ := search_spec (B := B) hL hM sL sM hl hh h1 h2 h3 h4 h5 h6 h7
        rw [e1, Option.bind_some]
        simp only [unc2]
        have la : L.length = L1.length + L2.length := by rw [a1, List.length_append]
        have lb : M.length = M1.length + M2.length := by rw [b1, List.length_append]
        rw [chk_ok (by omega) (by omega), Option.bind_some, r1, Option.bind_some]
        rw [show ((A.length + h : Nat) : Int) + ((A.length + L.length : Nat) : Int) - ((A.length + L1.length : Nat) : Int) = ((A.length + L.length + M1.length : Nat) : Int) by omega, chk_ok (by omega) (by omega), Option.bind_some]
        have hrot : ((if ((A.length + L1.length : Nat) : Int) < ((A.length + L.length : Nat) : Int) then some (decide (((A.length + L.length : Nat) : Int) < ((A.length + L.length + M1.length : Nat) : Int))) else some false).bind fun x => if x = true then (mSlicesRotateCmpFunc ((A.length + L1.length : Nat) : Int) ((A.length + L.length : Nat) : Int) ((A.length + L.length + M1.length : Nat) : Int) T (A ++ L ++ M ++ B)).bind fun l => some l else some (A ++ L ++ M ++ B)) = some (A ++ L1 ++ M1 ++ (L2 ++ M2 ++ B)) := by
          have triv : L2 = [] ∨ M1 = [] → A ++ L ++ M ++ B = A ++ L1 ++ M1 ++ (L2 ++ M2 ++ B) := fun q => by
            rw [a1, b1]
            rcases q with rfl | rfl
            · simp
            · simp
          by_cases q1 : L2 = []
          · subst q1
            rw [if_neg (by simp at la; omega), Option.bind_some, if_neg (by decide), triv (.inl rfl)]
          · by_cases q2 : M1 = []
            · have : L2.length ≠ 0 := fun e => q1 (List.eq_nil_of_length_eq_zero e)
              rw [if_pos (by omega), Option.bind_some, decide_eq_false (by rw [q2]; simp), if_neg (by decide), triv (.inr q2)]
            · have w1 : L2.length ≠ 0 := fun e => q1 (List.eq_nil_of_length_eq_zero e)
              have w2 : M1.length ≠ 0 := fun e => q2 (List.eq_nil_of_length_eq_zero e)
              have el : A ++ L ++ M ++ B = (A ++ L1) ++ L2 ++ M1 ++ (M2 ++ B) := by rw [a1, b1]; simp
              have := rotate_pieces T (A ++ L1) L2 M1 (M2 ++ B) q1 q2 (by rw [← el]; exact hl)
              rw [← el, List.length_append, show A.length + L1.length + L2.length = A.length + L.length by omega] at this
              rw [if_pos (by omega), Option.bind_some, decide_eq_true (by omega), if_pos rfl, this, Option.bind_some]
              simp
        rw [hrot, Option.bind_some]
        rw [a1, List.pairwise_append] at sL
        rw [b1, List.pairwise_append] at sM
        have hL1 : ∀ y ∈ L1, Valid T y := fun y hy => hL y (by rw [a1]; simp [hy])
        have hL2 : ∀ y ∈ L2, Valid T y := fun y hy => hL y (by rw [a1]; simp [hy])
        have hM1 : ∀ y ∈ M1, Valid T y := fun y hy => hM y (by rw [b1]; simp [hy])
        have hM2 : ∀ y ∈ M2, Valid T y := fun y hy => hM y (by rw [b1]; simp [hy])
        have first : ((if (A.length : Int) < ((A.length + L1.length : Nat) : Int) then some (decide (((A.length + L1.length : Nat) : Int) < ((A.length + h : Nat) : Int))) else some false).bind fun x => if x = true then ((mSlicesSymMergeCmpFunc N) (A.length : Int) ((A.length + L1.length : Nat) : Int) ((A.length + h : Nat) : Int) T (A ++ L1 ++ M1 ++ (L2 ++ M2 ++ B))).bind fun l => some l else some (A ++ L1 ++ M1 ++ (L2 ++ M2 ++ B))) = none ∧ N + 1 < L.length + M.length ∨
            ∃ S1, ((if (A.length : Int) < ((A.length + L1.length : Nat) : Int) then some (decide (((A.length + L1.length : Nat) : Int) < ((A.length + h : Nat) : Int))) else some false).bind fun x => if x = true then ((mSlicesSymMergeCmpFunc N) (A.length : Int) ((A.length + L1.length : Nat) : Int) ((A.length + h : Nat) : Int) T (A ++ L1 ++ M1 ++ (L2 ++ M2 ++ B))).bind fun l => some l else some (A ++ L1 ++ M1 ++ (L2 ++ M2 ++ B))) = some (A ++ S1 ++ (L2 ++ M2 ++ B)) ∧ S1.Perm (L1 ++ M1) ∧ S1.Pairwise (Le T) := by
          by_cases q1 : L1 = []
          · rw [if_neg (by rw [q1]; simp), Option.bind_some, if_neg (by decide)]
            exact .inr ⟨L1 ++ M1, by simp, .refl _, sorted_two sL.1 sM.1 (.inl q1)⟩
          · by_cases q2 : M1 = []
            · have w1 : L1.length ≠ 0 := fun e => q1 (List.eq_nil_of_length_eq_zero e)
              have w2 : M1.length = 0 := by rw [q2]; rfl
              rw [if_pos (by omega), Option.bind_some, decide_eq_false (by omega), if_neg (by decide)]
              exact .inr ⟨L1 ++ M1, by simp, .refl _, sorted_two sL.1 sM.1 (.inr q2)⟩
            · have w1 : L1.length ≠ 0 := fun e => q1 (List.eq_nil_of_length_eq_zero e)
              have w2 : M1.length ≠ 0 := fun e => q2 (List.eq_nil_of_length_eq_zero e)
              rw [if_pos (by omega), Option.bind_some, decide_eq_true (by omega), if_pos rfl]
              have := ih A L1 M1 (L2 ++ M2 ++ B) q1 q2 hL1 hM1 sL.1 sM.1 (by simp; omega)
              rw [show A.length + L1.length + M1.length = A.length + h by omega] at this
              rcases this with ⟨t1, t2⟩ | ⟨S1, t1, t2, t3⟩
              · rw [t1]
                exact .inl ⟨rfl, by omega⟩
              · rw [t1]
                exact .inr ⟨S1, rfl, t2, t3⟩
        rcases first with ⟨f1, f2⟩ | ⟨S1, f1, f2, f3⟩
        · rw [f1]
          exact .inl ⟨rfl, f2⟩
        · rw [f1, Option.bind_some]
          have ls : S1.length = h := by rw [f2.length_eq, List.length_append]; exact ab
          have e2 : A ++ S1 ++ (L2 ++ M2 ++ B) = (A ++ S1) ++ L2 ++ M2 ++ B := by simp
          have fin : ∀ S2 : List Int, S2.Perm (L2 ++ M2) → S2.Pairwise (Le T) → ∃ S, A ++ S1 ++ S2 ++ B = A ++ S ++ B ∧ S.Perm (L ++ M) ∧ S.Pairwise (Le T) := fun S2 p2 s2 => by
            obtain ⟨p, s⟩ := sorted_four (T := T) (L1 := L1) (L2 := L2) (M1 := M1) (M2 := M2) (by rw [List.pairwise_append]; exact sL) (by rw [List.pairwise_append]; exact sM) r2 r3 f2 p2 f3 s2
            rw [← a1, ← b1] at p
            exact ⟨S1 ++ S2, by simp, p, s⟩
          by_cases q1 : L2 = []
          · have w1 : L2.length = 0 := by rw [q1]; rfl
            rw [if_neg (by omega), Option.bind_some, if_neg (by decide)]
            obtain ⟨S, g1, g2, g3⟩ := fin (L2 ++ M2) (.refl _) (sorted_two sL.2.1 sM.2.1 (.inl q1))
            exact .inr ⟨S, by rw [← g1]; simp, g2, g3⟩
          · have w1 : L2.length ≠ 0 := fun e => q1 (List.eq_nil_of_length_eq_zero e)
            by_cases q2 : M2 = []
            · have w2 : M2.length = 0 := by rw [q2]; rfl
              rw [if_pos (by omega), Option.bind_some, decide_eq_false (by omega), if_neg (by decide)]
              obtain ⟨S, g1, g2, g3⟩ := fin (L2 ++ M2) (.refl _) (sorted_two sL.2.1 sM.2.1 (.inr q2))
              exact .inr ⟨S, by rw [← g1]; simp, g2, g3⟩
            · have w2 : M2.length ≠ 0 := fun e => q2 (List.eq_nil_of_length_eq_zero e)
              rw [if_pos (by omega), Option.bind_some, decide_eq_true (by omega), if_pos rfl, e2]
              have := ih (A ++ S1) L2 M2 B q1 q2 hL2 hM2 sL.2.1 sM.2.1 (by simp; omega)
              rw [List.length_append, ls, show A.length + h + L2.length = A.length + L.length + M1.length by omega, show A.length + L.length + M1.length + M2.length = A.length + L.length + M.length by omega] at this
              rcases this with ⟨t1, t2⟩ | ⟨S2, t1, t2, t3⟩
              · rw [t1]
                exact .inl ⟨rfl, by omega⟩
              · rw [t1]
                obtain ⟨S, g1, g2, g3⟩ := fin S2 t2 t3
                exact .inr ⟨S, by rw [← g1]; rfl, g2, g3⟩
end Go.Proofs.YtnlnohallnfbmaaGreatDoor
