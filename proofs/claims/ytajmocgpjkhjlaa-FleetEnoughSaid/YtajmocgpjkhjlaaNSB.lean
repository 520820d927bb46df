/- Plain: the stable sort of up to forty numbers, and the order of tasks. -/
import Derived.Test.YtajmocgpjkhjlaaNSA
set_option linter.unusedVariables false
set_option linter.unusedSimpArgs false
namespace Go.Proofs.Ytajmocgpjkhjlaa
open Go.RowKit Go.Fp

theorem pass2 {β γ τ : Type} {A : β → γ → Option τ} {y : β} {z : γ} : (some (y, z)).bind (unc2 A) = A y z := rfl
theorem pass3 {β γ δ τ : Type} {A : β → γ → δ → Option τ} {y : β} {z : γ} {x : δ} : (some (y, z, x)).bind (unc3 A) = A y z x := rfl
def iota (n : Nat) : List Int := (List.range n).map (fun i : Nat => (i : Int))
theorem iota_get {n j : Nat} (h : j < n) : (iota n)[j]? = some (j : Int) := by
  unfold iota
  rw [List.getElem?_map, List.getElem?_range h]
  rfl
theorem iota_mem {n : Nat} {y : Int} (h : y ∈ iota n) : 0 ≤ y ∧ y < (n : Int) := by
  obtain ⟨i, hi, rfl⟩ := List.mem_map.1 h
  have := List.mem_range.1 hi
  omega
theorem iota_len (n : Nat) : (iota n).length = n := by
  unfold iota
  rw [List.length_map, List.length_range]
theorem iota_lt (n : Nat) : (iota n).Pairwise (· < ·) := by
  rw [List.pairwise_iff_getElem]
  intro i j hi hj hij
  rw [iota_len] at hi hj
  have e1 := iota_get hi
  have e2 := iota_get hj
  rw [List.getElem?_eq_getElem (by rw [iota_len]; exact hi)] at e1
  rw [List.getElem?_eq_getElem (by rw [iota_len]; exact hj)] at e2
  injection e1 with e1
  injection e2 with e2
  rw [e1, e2]
  omega
section
variable {l : List FleetTask}
theorem sym_lim {L M : List Int} (nL : L ≠ []) (nM : M ≠ []) (hL : ∀ y ∈ L, Valid l y) (hM : ∀ y ∈ M, Valid l y) (sL : L.Pairwise (Le l)) (sM : M.Pairwise (Le l)) (hl : L.length + M.length ≤ 1000) :
    ∃ S, lim (fun N => mSlicesSymMergeCmpFunc N 0 (L.length : Int) ((L.length + M.length : Nat) : Int) l (L ++ M)) = some S ∧ S.Perm (L ++ M) ∧ S.Pairwise (Le l) := by
  have key : ∀ N, (mSlicesSymMergeCmpFunc N 0 (L.length : Int) ((L.length + M.length : Nat) : Int) l (L ++ M) = none ∧ N < L.length + M.length) ∨
      ∃ S, mSlicesSymMergeCmpFunc N 0 (L.length : Int) ((L.length + M.length : Nat) : Int) l (L ++ M) = some S ∧ S.Perm (L ++ M) ∧ S.Pairwise (Le l) := fun N => by
    have := sym_spec l N [] L M [] nL nM hL hM sL sM (by simp; omega)
    simp only [List.nil_append, List.append_nil, List.length_nil, Nat.zero_add] at this
    exact this
  refine lim_ok (f := fun N => mSlicesSymMergeCmpFunc N 0 (L.length : Int) ((L.length + M.length : Nat) : Int) l (L ++ M)) (P := fun S => S.Perm (L ++ M) ∧ S.Pairwise (Le l)) ?_ (fun N S hS => ?_)
  · rcases key (L.length + M.length) with ⟨_, h⟩ | ⟨S, h, _⟩
    · exact absurd h (by omega)
    · exact ⟨_, S, h⟩
  · rcases key N with ⟨h, _⟩ | ⟨S', h, h2⟩
    · rw [show mSlicesSymMergeCmpFunc N 0 (L.length : Int) ((L.length + M.length : Nat) : Int) l (L ++ M) = some S from hS] at h
      cases h
    · rw [show mSlicesSymMergeCmpFunc N 0 (L.length : Int) ((L.length + M.length : Nat) : Int) l (L ++ M) = some S from hS] at h
      injection h with h
      subst h
      exact h2
theorem sort_small {S : List Int} (hn : S.length ≤ 20) (hv : ∀ y ∈ S, Valid l y) (hs : S.Pairwise (· < ·)) : ∃ o, mSlicesSortStableFunc l S = some o ∧ o.Perm S ∧ o.Pairwise (Le l) := by
  obtain ⟨S', h1, h2, h3⟩ := insertion_pieces (T := l) [] S [] hv hs (by simp; omega)
  simp only [List.nil_append, List.append_nil, List.length_nil, Nat.zero_add] at h1
  have h4 : S'.Pairwise (Le l) := h3.imp le_of_ord
  have hl := h2.length_eq
  unfold mSlicesSortStableFunc mSlicesStableCmpFunc
  have tail : ∀ U : List Int, loopM (mSlicesStableCmpFunc_L655 (S.length : Int) l) (20, U) = some U := fun U => loopM_last (by
    unfold mSlicesStableCmpFunc_L655
    show (if (20 : Int) < (S.length : Int) then _ else some (Sum.inr U)) = _
    rw [if_neg (by omega)])
  by_cases h20 : S.length = 20
  · have e1 : mSlicesStableCmpFunc_L604 (S.length : Int) l (0, 20, S) = some (.inl (20, 40, S')) := by
      unfold mSlicesStableCmpFunc_L604
      show (if (20 : Int) ≤ (S.length : Int) then ((mSlicesInsertionSortCmpFunc 0 20 l S).bind fun l640 => (chk (20 + 20)).bind fun _ => some (Sum.inl (20, 20 + 20, l640))) else some (Sum.inr (0, S))) = _
      rw [if_pos (by omega)]
      have : mSlicesInsertionSortCmpFunc 0 20 l S = some S' := by
        have := h1
        rw [h20] at this
        exact this
      rw [this]
      rfl
    have e2 : mSlicesStableCmpFunc_L604 (S.length : Int) l (20, 40, S') = some (.inr (20, S')) := by
      unfold mSlicesStableCmpFunc_L604
      show (if (40 : Int) ≤ (S.length : Int) then _ else some (Sum.inr (20, S'))) = _
      rw [if_neg (by omega)]
    rw [loopM_next e1, loopM_last e2, pass2]
    obtain ⟨S2, g1, g2, _⟩ := insertion_pieces (T := l) S' [] [] (fun y hy => by cases hy) List.Pairwise.nil (by simp; omega)
    have hS2 : S2 = [] := List.length_eq_zero_iff.1 (by simpa using g2.length_eq)
    subst hS2
    simp only [List.append_nil, List.length_nil, Nat.add_zero] at g1
    have : mSlicesInsertionSortCmpFunc 20 (S.length : Int) l S' = some S' := by
      rw [hl, h20] at g1
      rw [h20]
      exact g1
    rw [this, Option.bind_some, tail]
    exact ⟨S', rfl, h2, h4⟩
  · have e1 : mSlicesStableCmpFunc_L604 (S.length : Int) l (0, 20, S) = some (.inr (0, S)) := by
      unfold mSlicesStableCmpFunc_L604
      show (if (20 : Int) ≤ (S.length : Int) then _ else some (Sum.inr (0, S))) = _
      rw [if_neg (by omega)]
    rw [loopM_last e1, pass2]
    have : mSlicesInsertionSortCmpFunc 0 (S.length : Int) l S = some S' := h1
    rw [this, Option.bind_some, tail]
    exact ⟨S', rfl, h2, h4⟩
theorem sort_large {L M : List Int} (hL : L.length = 20) (hM1 : 1 ≤ M.length) (hM2 : M.length ≤ 20) (hv : ∀ y ∈ L ++ M, Valid l y) (hs : (L ++ M).Pairwise (· < ·)) : ∃ o, mSlicesSortStableFunc l (L ++ M) = some o ∧ o.Perm (L ++ M) ∧ o.Pairwise (Le l) := by
  rw [List.pairwise_append] at hs
  have vL : ∀ y ∈ L, Valid l y := fun y hy => hv y (by simp [hy])
  have vM : ∀ y ∈ M, Valid l y := fun y hy => hv y (by simp [hy])
  obtain ⟨n, hn⟩ : ∃ n, n = (L ++ M).length := ⟨_, rfl⟩
  have hn' : n = 20 + M.length := by rw [hn, List.length_append, hL]
  obtain ⟨L', i1, i2, i3⟩ := insertion_pieces (T := l) [] L M vL hs.1 (by simp; omega)
  have lL : L'.length = 20 := by rw [i2.length_eq, hL]
  obtain ⟨M', j1, j2, j3⟩ := insertion_pieces (T := l) L' M [] vM hs.2.1 (by simp; omega)
  have lM : M'.length = M.length := j2.length_eq
  simp only [List.nil_append, List.append_nil, List.length_nil, Nat.zero_add] at i1 j1
  rw [lL, show ((20 + M.length : Nat) : Int) = (n : Int) by omega] at j1
  rw [hL] at i1
  obtain ⟨S, s1, s2, s3⟩ := sym_lim (l := l) (L := L') (M := M') (fun e => by rw [e] at lL; simp at lL) (fun e => by rw [e] at lM; simp at lM; omega) (fun y hy => vL y (i2.subset hy)) (fun y hy => vM y (j2.subset hy)) (i3.imp le_of_ord) (j3.imp le_of_ord) (by omega)
  rw [lL, lM, show ((20 + M.length : Nat) : Int) = (n : Int) by omega] at s1
  have sp : S.Perm (L ++ M) := s2.trans (i2.append j2)
  have e1 : mSlicesStableCmpFunc_L604 (n : Int) l (0, 20, L ++ M) = some (.inl (20, 40, L' ++ M)) := by
    unfold mSlicesStableCmpFunc_L604
    show (if (20 : Int) ≤ (n : Int) then ((mSlicesInsertionSortCmpFunc 0 20 l (L ++ M)).bind fun l640 => (chk (20 + 20)).bind fun _ => some (Sum.inl (20, 20 + 20, l640))) else some (Sum.inr (0, L ++ M))) = _
    rw [if_pos (by omega), show mSlicesInsertionSortCmpFunc 0 20 l (L ++ M) = some (L' ++ M) from i1]
    rfl
  have sorted : ((loopM (mSlicesStableCmpFunc_L604 (n : Int) l) (0, 20, L ++ M)).bind (unc2 fun x600 l601 => (mSlicesInsertionSortCmpFunc x600 (n : Int) l l601).bind fun l648 => loopM (mSlicesStableCmpFunc_L655 (n : Int) l) (20, l648))) = loopM (mSlicesStableCmpFunc_L655 (n : Int) l) (20, L' ++ M') := by
    rw [loopM_next e1]
    by_cases h40 : n = 40
    · have e2 : mSlicesStableCmpFunc_L604 (n : Int) l (20, 40, L' ++ M) = some (.inl (40, 60, L' ++ M')) := by
        unfold mSlicesStableCmpFunc_L604
        show (if (40 : Int) ≤ (n : Int) then ((mSlicesInsertionSortCmpFunc 20 40 l (L' ++ M)).bind fun l640 => (chk (40 + 20)).bind fun _ => some (Sum.inl (40, 40 + 20, l640))) else some (Sum.inr (20, L' ++ M))) = _
        rw [h40] at j1
        rw [if_pos (by omega), show mSlicesInsertionSortCmpFunc 20 40 l (L' ++ M) = some (L' ++ M') from j1]
        rfl
      have e3 : mSlicesStableCmpFunc_L604 (n : Int) l (40, 60, L' ++ M') = some (.inr (40, L' ++ M')) := by
        unfold mSlicesStableCmpFunc_L604
        show (if (60 : Int) ≤ (n : Int) then _ else some (Sum.inr (40, L' ++ M'))) = _
        rw [if_neg (by omega)]
      obtain ⟨S2, g1, g2, _⟩ := insertion_pieces (T := l) (L' ++ M') [] [] (fun y hy => by cases hy) List.Pairwise.nil (by simp; omega)
      have hS2 : S2 = [] := List.length_eq_zero_iff.1 (by simpa using g2.length_eq)
      subst hS2
      simp only [List.append_nil, List.length_nil, Nat.add_zero] at g1
      rw [List.length_append, lL, lM, show ((20 + M.length : Nat) : Int) = (n : Int) by omega] at g1
      rw [loopM_next e2, loopM_last e3, pass2, show (40 : Int) = (n : Int) by omega, g1, Option.bind_some]
    · have e2 : mSlicesStableCmpFunc_L604 (n : Int) l (20, 40, L' ++ M) = some (.inr (20, L' ++ M)) := by
        unfold mSlicesStableCmpFunc_L604
        show (if (40 : Int) ≤ (n : Int) then _ else some (Sum.inr (20, L' ++ M))) = _
        rw [if_neg (by omega)]
      rw [loopM_last e2, pass2, show mSlicesInsertionSortCmpFunc 20 (n : Int) l (L' ++ M) = some (L' ++ M') from j1, Option.bind_some]
  have merged : mSlicesStableCmpFunc_L655 (n : Int) l (20, L' ++ M') = some (.inl (40, S)) := by
    have hs1 : lim (fun N => mSlicesSymMergeCmpFunc N 0 (0 + 20) (n : Int) l (L' ++ M')) = some S := s1
    unfold mSlicesStableCmpFunc_L655
    simp only [unc2]
    rw [if_pos (by omega), chk_ok (by decide) (by decide), Option.bind_some]
    show ((loopM (mSlicesStableCmpFunc_L1007 (n : Int) l 20) (0, 40, L' ++ M')).bind _) = _
    by_cases h40 : n = 40
    · have f1 : mSlicesStableCmpFunc_L1007 (n : Int) l 20 (0, 40, L' ++ M') = some (.inl (40, 80, S)) := by
        unfold mSlicesStableCmpFunc_L1007
        simp only [unc3]
        rw [if_pos (by omega), chk_ok (by decide) (by decide), Option.bind_some]
        have : lim (fun N => mSlicesSymMergeCmpFunc N 0 (0 + 20) 40 l (L' ++ M')) = some S := by
          rw [show (n : Int) = 40 by omega] at hs1
          exact hs1
        rw [this]
        rfl
      have f2 : mSlicesStableCmpFunc_L1007 (n : Int) l 20 (40, 80, S) = some (.inr (40, S)) := by
        unfold mSlicesStableCmpFunc_L1007
        simp only [unc3]
        rw [if_neg (by omega)]
      rw [loopM_next f1, loopM_last f2, pass2]
      rw [chk_ok (by decide) (by decide), Option.bind_some, if_neg (by omega), Option.bind_some]
      rfl
    · have f1 : mSlicesStableCmpFunc_L1007 (n : Int) l 20 (0, 40, L' ++ M') = some (.inr (0, L' ++ M')) := by
        unfold mSlicesStableCmpFunc_L1007
        simp only [unc3]
        rw [if_neg (by omega)]
      rw [loopM_last f1, pass2]
      rw [chk_ok (by decide) (by decide), Option.bind_some, if_pos (by omega), hs1, Option.bind_some, Option.bind_some]
      rfl
  have over : mSlicesStableCmpFunc_L655 (n : Int) l (40, S) = some (.inr S) := by
    unfold mSlicesStableCmpFunc_L655
    simp only [unc2]
    rw [if_neg (by omega)]
  unfold mSlicesSortStableFunc mSlicesStableCmpFunc
  rw [← hn, sorted, loopM_next merged, loopM_last over]
  exact ⟨S, rfl, sp, s3⟩
theorem sort_spec {S : List Int} (hn : S.length ≤ 40) (hv : ∀ y ∈ S, Valid l y) (hs : S.Pairwise (· < ·)) : ∃ o, mSlicesSortStableFunc l S = some o ∧ o.Perm S ∧ o.Pairwise (Le l) := by
  by_cases h : S.length ≤ 20
  · exact sort_small h hv hs
  · have e := List.take_append_drop 20 S
    have := sort_large (l := l) (L := S.take 20) (M := S.drop 20) (by rw [List.length_take]; omega) (by rw [List.length_drop]; omega) (by rw [List.length_drop]; omega) (by rw [e]; exact hv) (by rw [e]; exact hs)
    rw [e] at this
    exact this
theorem order_spec (hn : l.length ≤ 40) : ∃ o, mFleetOrder l = some o ∧ o.Perm (iota l.length) ∧ o.Pairwise (Le l) := by
  unfold mFleetOrder
  rw [mkLen_ok (by omega) (by omega), Option.bind_some, List.length_replicate]
  obtain ⟨u, h1, h2, h3⟩ := forS_inv (body := mFleetOrder_L103) (fun k (u : List Int) => u.length = l.length ∧ ∀ j, j < k → u[j]? = some (j : Int)) l.length 0 (List.replicate l.length (0 : Int)) ⟨List.length_replicate, fun j hj => absurd hj (by omega)⟩ (fun k u _ hk hi => by
    unfold mFleetOrder_L103
    rw [idx_lt (show k < u.length by omega), Option.bind_some]
    refine ⟨_, rfl, by rw [put_length]; exact hi.1, fun j hj => ?_⟩
    rw [put_nat]
    by_cases e : k = j
    · subst e
      rw [List.getElem?_set_self (by omega)]
    · rw [List.getElem?_set_ne e]
      exact hi.2 j (by omega))
  have hu : u = iota l.length := by
    apply List.ext_getElem?
    intro j
    by_cases hj : j < l.length
    · rw [h3 j (by omega), iota_get hj]
    · rw [List.getElem?_eq_none (by omega), List.getElem?_eq_none (by rw [iota_len]; omega)]
  rw [h1, Option.bind_some, hu]
  obtain ⟨o, o1, o2⟩ := sort_spec (l := l) (S := iota l.length) (by rw [iota_len]; exact hn) (fun y hy => iota_mem hy) (iota_lt _)
  rw [o1]
  exact ⟨o, rfl, o2⟩
end
end Go.Proofs.Ytajmocgpjkhjlaa
