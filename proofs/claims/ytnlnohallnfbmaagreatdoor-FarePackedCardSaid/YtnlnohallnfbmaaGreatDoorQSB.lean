/- Plain: the stable sort of up to forty numbers, and the order of tasks. -/
import Derived.Test.YtnlnohallnfbmaaGreatDoorQSA
set_option linter.unusedVariables false
set_option linter.unusedSimpArgs false
namespace Go.Proofs.YtnlnohallnfbmaaGreatDoor
open Go.RowKit Go.Fp

theorem pass2 {β γ τ : Type} {A : β → γ → Option τ} {y : β} {z : γ} : (some (y, z)).bind (unc2 A) = A y z := rfl
theorem pass3 {β γ δ τ : Type} {A : β → γ → δ → Option τ} {y : β} {z : γ} {x : δ} : (some (y, z, x)).bind (unc3 A) = A y z x := rfl
def iota (n : Nat) : List Int := (List.range n).map (fun i : Nat => (i : Int))
theorem iota_get {n j : Nat} (h : j < n) : (iota n)[j]? = some (j : Int) := by
  unfold iota
  rw [List.getElem?_map, List.getElem?_range h]
  rfl
theorem iota_mem {n : Nat} {y : Int} (h : y ∈ iota n) : 0 ≤ y ∧ y < (n : Int) := by
  obtain ⟨i, hi, rfl⟩ := List.mem_map.1 h
  have := List.mem_range.1 hi
  omega
theorem iota_len (n : Nat) : (iota n).length = n := by
  unfold iota
  rw [List.length_map, List.length_range]
theorem iota_lt (n : Nat) : (iota n).Pairwise (· < ·) := by
  rw [List.pairwise_iff_getElem]
  intro i j hi hj hij
  rw [iota_len] at hi hj
  have e1 := iota_get hi
  have e2 := iota_get hj
  rw [List.getElem?_eq_getElem (by rw [iota_len]; exact hi)] at e1
  rw [List.getElem?_eq_getElem (by rw [iota_len]; exact hj)] at e2
  injection e1 with e1
  injection e2 with e2
  rw [e1, e2]
  omega
section
variable {l : List FareSpan}
theorem sym_lim {A L M B : List Int} (nL : L ≠ []) (nM : M ≠ []) (hL : ∀ y ∈ L, Valid l y) (hM : ∀ y ∈ M, Valid l y) (sL : L.Pairwise (Le l)) (sM : M.Pairwise (Le l)) (hl : (A ++ L ++ M ++ B).length ≤ 1000000) {a b c : Int} (ha : a = (A.length : Int)) (hb : b = ((A.length + L.length : Nat) : Int)) (hc : c = ((A.length + L.length + M.length : Nat) : Int)) :
    ∃ S, lim (fun N => mSlicesSymMergeCmpFunc N a b c l (A ++ L ++ M ++ B)) = some (A ++ S ++ B) ∧ S.Perm (L ++ M) ∧ S.Pairwise (Le l) := by
  subst ha; subst hb; subst hc
  have key := fun N => sym_spec l N A L M B nL nM hL hM sL sM hl
  obtain ⟨R, e1, S, e2, e3, e4⟩ := lim_ok (f := fun N => mSlicesSymMergeCmpFunc N (A.length : Int) ((A.length + L.length : Nat) : Int) ((A.length + L.length + M.length : Nat) : Int) l (A ++ L ++ M ++ B)) (P := fun R => ∃ S, R = A ++ S ++ B ∧ S.Perm (L ++ M) ∧ S.Pairwise (Le l)) (by
    rcases key (L.length + M.length) with ⟨_, h⟩ | ⟨S, h, _⟩
    · exact absurd h (by omega)
    · exact ⟨_, _, h⟩) (fun N R hR => by
    rcases key N with ⟨h, _⟩ | ⟨S, h, h2⟩
    · rw [show mSlicesSymMergeCmpFunc N _ _ _ l (A ++ L ++ M ++ B) = some R from hR] at h
      cases h
    · rw [show mSlicesSymMergeCmpFunc N _ _ _ l (A ++ L ++ M ++ B) = some R from hR] at h
      injection h with h
      exact ⟨S, h, h2⟩)
  exact ⟨S, by rw [e1, e2], e3, e4⟩
end
end Go.Proofs.YtnlnohallnfbmaaGreatDoor
