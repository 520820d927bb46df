/- Plain: the stable sort of any number of indices (its order). -/
import Derived.Test.YtnlnohallnfbmaaGreatDoorQSB
set_option linter.unusedVariables false
set_option linter.unusedSimpArgs false
namespace Go.Proofs.YtnlnohallnfbmaaGreatDoor
open Go.RowKit Go.Fp

/-- A row of sorted stretches of one length. -/
inductive Full (T : List FareSpan) (bs : Nat) : List Int → Prop
  | nil : Full T bs []
  | cons (S A : List Int) : S.length = bs → S.Pairwise (Le T) → Full T bs A → Full T bs (S ++ A)
section
variable {T : List FareSpan} {bs : Nat}
theorem Full.snoc {A S : List Int} (h : Full T bs A) (hl : S.length = bs) (hs : S.Pairwise (Le T)) : Full T bs (A ++ S) := by
  induction h with
  | nil => simpa using Full.cons S [] hl hs .nil
  | cons S' A' h1 h2 h3 ih => rw [List.append_assoc]; exact .cons S' _ h1 h2 ih
def Runs (T : List FareSpan) (bs : Nat) (l : List Int) : Prop := ∃ A S, l = A ++ S ∧ Full T bs A ∧ S.length ≤ bs ∧ S.Pairwise (Le T)
theorem runs_nil : Runs T bs [] := ⟨[], [], rfl, .nil, Nat.zero_le _, .nil⟩
theorem runs_two {l : List Int} (h : Runs T bs l) (hb : 0 < bs) (hl : 2 * bs ≤ l.length) : ∃ C D l', l = C ++ D ++ l' ∧ C.length = bs ∧ D.length = bs ∧ C.Pairwise (Le T) ∧ D.Pairwise (Le T) ∧ Runs T bs l' := by
  obtain ⟨A, S, rfl, hA, hS, sS⟩ := h
  cases hA with
  | nil => simp at hl; omega
  | cons C A1 h1 h2 h3 =>
    cases h3 with
    | nil =>
      simp at hl
      exact ⟨C, S, [], by simp, h1, by omega, h2, sS, runs_nil⟩
    | cons D A2 g1 g2 g3 => exact ⟨C, D, A2 ++ S, by simp, h1, g1, h2, g2, A2, S, rfl, g3, hS, sS⟩
theorem runs_one {l : List Int} (h : Runs T bs l) (hb : 0 < bs) (hl : l.length ≤ bs) : l.Pairwise (Le T) := by
  obtain ⟨A, S, rfl, hA, hS, sS⟩ := h
  cases hA with
  | nil => simpa using sS
  | cons C A1 h1 h2 h3 =>
    simp only [List.length_append] at hl
    have e1 : A1 = [] := List.length_eq_zero_iff.1 (by omega)
    have e2 : S = [] := List.length_eq_zero_iff.1 (by omega)
    subst e1; subst e2
    simpa using h2
theorem runs_mid {l : List Int} (h : Runs T bs l) (hb : bs < l.length) (hl : l.length < 2 * bs) : ∃ C D, l = C ++ D ∧ C.length = bs ∧ D ≠ [] ∧ C.Pairwise (Le T) ∧ D.Pairwise (Le T) := by
  obtain ⟨A, S, rfl, hA, hS, sS⟩ := h
  cases hA with
  | nil => simp at hb; omega
  | cons C A1 h1 h2 h3 =>
    cases h3 with
    | nil =>
      simp at hb
      exact ⟨C, S, by simp, h1, fun e => by subst e; simp at hb; omega, h2, sS⟩
    | cons D A2 g1 g2 g3 =>
      simp at hl
      omega
theorem first_runs {S : List Int} (hv : ∀ y ∈ S, Valid T y) (hs : S.Pairwise (· < ·)) (hn : S.length ≤ 1000) :
    ∃ a l1 l2, loopM (mSlicesStableCmpFunc_L604 (S.length : Int) T) (0, 20, S) = some (a, l1) ∧ mSlicesInsertionSortCmpFunc a (S.length : Int) T l1 = some l2 ∧ l2.Perm S ∧ Runs T 20 l2 := by
  obtain ⟨⟨a, l1⟩, e1, A, B, B0, e2, e3, e4, e5, e6⟩ := loopM_inv (step := mSlicesStableCmpFunc_L604 (S.length : Int) T)
    (fun q => ∃ A B B0 : List Int, q = ((A.length : Int), (A.length : Int) + 20, A ++ B) ∧ Full T 20 A ∧ A.Perm B0 ∧ B0 ++ B = S)
    (fun r => ∃ A B B0 : List Int, r = ((A.length : Int), A ++ B) ∧ Full T 20 A ∧ A.Perm B0 ∧ B0 ++ B = S ∧ B.length < 20) (fun q => S.length - q.1.toNat) (fun q hq => by
      obtain ⟨A, B, B0, rfl, h1, h2, h3⟩ := hq
      have hl : A.length + B.length = S.length := by rw [← h3, List.length_append, h2.length_eq]
      unfold mSlicesStableCmpFunc_L604
      simp only [unc3]
      by_cases hc : (A.length : Int) + 20 ≤ (S.length : Int)
      · rw [if_pos hc]
        obtain ⟨C, hC⟩ : ∃ C, B.take 20 = C := ⟨_, rfl⟩
        obtain ⟨D, hD⟩ : ∃ D, B.drop 20 = D := ⟨_, rfl⟩
        have hB : B = C ++ D := by rw [← hC, ← hD, List.take_append_drop]
        have lC : C.length = 20 := by rw [← hC, List.length_take]; omega
        subst hB
        have hs' := hs
        rw [← h3, List.pairwise_append, List.pairwise_append] at hs'
        obtain ⟨C', i1, i2, i3⟩ := insertion_pieces (T := T) A C D (fun y hy => hv y (by rw [← h3]; simp [hy])) hs'.2.1.1 (by simp at hl ⊢; omega)
        rw [lC, show ((A.length + 20 : Nat) : Int) = (A.length : Int) + 20 by omega] at i1
        have lC' : C'.length = 20 := by rw [i2.length_eq, lC]
        rw [show A ++ (C ++ D) = A ++ C ++ D by simp, i1, Option.bind_some, chk_ok (by omega) (by omega), Option.bind_some]
        refine .inl ⟨_, rfl, ⟨A ++ C', D, B0 ++ C, ?_, h1.snoc lC' (i3.imp le_of_ord), h2.append i2, by rw [← h3]; simp⟩, ?_⟩
        · rw [List.length_append, lC', show ((A.length + 20 : Nat) : Int) = (A.length : Int) + 20 by omega]
        · simp only
          omega
      · rw [if_neg hc]
        exact .inr ⟨_, rfl, A, B, B0, rfl, h1, h2, h3, by omega⟩) (0, 20, S) ⟨[], S, [], rfl, .nil, .refl _, rfl⟩
  injection e2 with e2 e2'
  subst e2; subst e2'
  have hl : A.length + B.length = S.length := by rw [← e5, List.length_append, e4.length_eq]
  have hs' := hs
  rw [← e5, List.pairwise_append] at hs'
  obtain ⟨B', i1, i2, i3⟩ := insertion_pieces (T := T) A B [] (fun y hy => hv y (by rw [← e5]; simp [hy])) hs'.2.1 (by simp; omega)
  simp only [List.append_nil] at i1
  rw [hl] at i1
  exact ⟨_, _, A ++ B', e1, i1, by rw [← e5]; exact e4.append i2, A, B', rfl, e3, by rw [i2.length_eq]; omega, i3.imp le_of_ord⟩
theorem pass_runs {R : List Int} {n : Nat} (hn : R.length = n) (hb : 0 < bs) (hb2 : bs ≤ 1000) (hn2 : n ≤ 1000) (hR : Runs T bs R) (hv : ∀ y ∈ R, Valid T y) :
    ∃ a l1, loopM (mSlicesStableCmpFunc_L1007 (n : Int) T (bs : Int)) (0, 2 * (bs : Int), R) = some (a, l1) ∧ ∃ A B : List Int, a = (A.length : Int) ∧ l1 = A ++ B ∧ Full T (2 * bs) A ∧ Runs T bs B ∧ (A ++ B).Perm R ∧ B.length < 2 * bs := by
  obtain ⟨⟨a, l1⟩, e1, A, B, e2, e3, e4, e5, e6⟩ := loopM_inv (step := mSlicesStableCmpFunc_L1007 (n : Int) T (bs : Int))
    (fun q => ∃ A B : List Int, q = ((A.length : Int), (A.length : Int) + 2 * (bs : Int), A ++ B) ∧ Full T (2 * bs) A ∧ Runs T bs B ∧ (A ++ B).Perm R)
    (fun r => ∃ A B : List Int, r = ((A.length : Int), A ++ B) ∧ Full T (2 * bs) A ∧ Runs T bs B ∧ (A ++ B).Perm R ∧ B.length < 2 * bs) (fun q => n - q.1.toNat) (fun q hq => by
      obtain ⟨A, B, rfl, h1, h2, h3⟩ := hq
      have hl : A.length + B.length = n := by rw [← hn, ← h3.length_eq, List.length_append]
      unfold mSlicesStableCmpFunc_L1007
      simp only [unc3]
      by_cases hc : (A.length : Int) + 2 * (bs : Int) ≤ (n : Int)
      · rw [if_pos hc]
        obtain ⟨C, D, B', rfl, lC, lD, sC, sD, hB'⟩ := runs_two h2 hb (by omega)
        have hvv : ∀ y, y ∈ C ∨ y ∈ D → Valid T y := fun y hy => hv y (h3.subset (by rcases hy with h | h <;> simp [h]))
        simp only [List.length_append] at hl
        obtain ⟨M, m1, m2, m3⟩ := sym_lim (l := T) (A := A) (L := C) (M := D) (B := B') (fun e => by subst e; simp at lC; omega) (fun e => by subst e; simp at lD; omega) (fun y hy => hvv y (.inl hy)) (fun y hy => hvv y (.inr hy)) sC sD (by simp; omega) (a := (A.length : Int)) (b := (A.length : Int) + (bs : Int)) (c := (A.length : Int) + 2 * (bs : Int)) rfl (by omega) (by omega)
        have lM : M.length = 2 * bs := by rw [m2.length_eq, List.length_append]; omega
        rw [chk_ok (by omega) (by omega), Option.bind_some, show A ++ (C ++ D ++ B') = A ++ C ++ D ++ B' by simp, m1, Option.bind_some, chk_ok (by omega) (by omega), Option.bind_some, chk_ok (by omega) (by omega), Option.bind_some]
        refine .inl ⟨_, rfl, ⟨A ++ M, B', ?_, h1.snoc lM m3, hB', ?_⟩, ?_⟩
        · rw [List.length_append, lM, show ((A.length + 2 * bs : Nat) : Int) = (A.length : Int) + 2 * (bs : Int) by omega]
        · refine List.Perm.trans ?_ h3
          rw [List.append_assoc]
          exact (m2.append_right B').append_left A
        · simp only
          omega
      · rw [if_neg hc]
        exact .inr ⟨_, rfl, A, B, rfl, h1, h2, h3, by omega⟩) (0, 2 * (bs : Int), R) ⟨[], R, by simp, .nil, hR, .refl _⟩
  injection e2 with e2 e2'
  exact ⟨a, l1, e1, A, B, e2, e2', e3, e4, e5, e6⟩
theorem sort_spec {S : List Int} (hv : ∀ y ∈ S, Valid T y) (hs : S.Pairwise (· < ·)) (hn : S.length ≤ 1000) : ∃ o, mSlicesSortStableFunc T S = some o ∧ o.Perm S ∧ o.Pairwise (Le T) := by
  obtain ⟨a, l1, l2, f1, f2, f3, f4⟩ := first_runs hv hs hn
  unfold mSlicesSortStableFunc mSlicesStableCmpFunc
  rw [f1, pass2, f2, Option.bind_some]
  obtain ⟨n, hn'⟩ : ∃ n, S.length = n := ⟨_, rfl⟩
  rw [hn'] at hn ⊢
  obtain ⟨o, e1, e2, e3⟩ := loopM_inv (step := mSlicesStableCmpFunc_L655 (n : Int) T)
    (fun q => ∃ (bs : Nat) (l : List Int), q = ((bs : Int), l) ∧ 0 < bs ∧ Runs T bs l ∧ l.Perm S) (fun o => o.Perm S ∧ o.Pairwise (Le T)) (fun q => n - q.1.toNat) (fun q hq => by
      obtain ⟨bs, l, rfl, hb, hr, hp⟩ := hq
      have hl : l.length = n := by rw [hp.length_eq, hn']
      unfold mSlicesStableCmpFunc_L655
      simp only [unc2]
      by_cases hc : (bs : Int) < (n : Int)
      · rw [if_pos hc, chk_ok (by omega) (by omega), Option.bind_some]
        obtain ⟨a, l1, p1, A, B, rfl, rfl, p2, p3, p4, p5⟩ := pass_runs hl hb (by omega) hn hr (fun y hy => hv y (hp.subset hy))
        have hlAB : A.length + B.length = n := by rw [← hl, ← p4.length_eq, List.length_append]
        rw [p1, pass2, chk_ok (by omega) (by omega), Option.bind_some]
        by_cases hc2 : (A.length : Int) + (bs : Int) < (n : Int)
        · rw [if_pos hc2]
          obtain ⟨C, D, rfl, lC, nD, sC, sD⟩ := runs_mid p3 (by omega) p5
          simp only [List.length_append] at hlAB p5
          have hvv : ∀ y, y ∈ C ∨ y ∈ D → Valid T y := fun y hy => hv y (hp.subset (p4.subset (by rcases hy with h | h <;> simp [h])))
          obtain ⟨M, m1, m2, m3⟩ := sym_lim (l := T) (A := A) (L := C) (M := D) (B := []) (fun e => by subst e; simp at lC; omega) nD (fun y hy => hvv y (.inl hy)) (fun y hy => hvv y (.inr hy)) sC sD (by simp; omega) (a := (A.length : Int)) (b := (A.length : Int) + (bs : Int)) (c := (n : Int)) rfl (by omega) (by omega)
          simp only [List.append_nil] at m1
          rw [show A ++ (C ++ D) = A ++ C ++ D by simp, m1, Option.bind_some, Option.bind_some, chk_ok (by omega) (by omega), Option.bind_some]
          refine .inl ⟨_, rfl, ⟨2 * bs, A ++ M, ?_, by omega, ⟨A, M, rfl, p2, ?_, m3⟩, ?_⟩, ?_⟩
          · rw [show ((2 * bs : Nat) : Int) = (bs : Int) * 2 by omega]
          · rw [m2.length_eq, List.length_append]
            omega
          · exact ((m2.append_left A).trans p4).trans hp
          · simp only
            omega
        · rw [if_neg hc2, Option.bind_some, chk_ok (by omega) (by omega), Option.bind_some]
          refine .inl ⟨_, rfl, ⟨2 * bs, A ++ B, ?_, by omega, ⟨A, B, rfl, p2, by omega, runs_one p3 hb (by omega)⟩, p4.trans hp⟩, ?_⟩
          · rw [show ((2 * bs : Nat) : Int) = (bs : Int) * 2 by omega]
          · simp only
            omega
      · rw [if_neg hc]
        exact .inr ⟨_, rfl, hp, runs_one hr hb (by omega)⟩) (20, l2) ⟨20, l2, rfl, by omega, f4, f3⟩
  rw [e1]
  exact ⟨o, rfl, e2, e3⟩
end
end Go.Proofs.YtnlnohallnfbmaaGreatDoor
