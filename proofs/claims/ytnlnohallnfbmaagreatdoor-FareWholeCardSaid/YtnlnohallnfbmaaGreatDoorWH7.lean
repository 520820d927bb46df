/- Plain: the law FareWhole. -/
import Derived.Test.YtnlnohallnfbmaaGreatDoorWH6
set_option linter.unusedVariables false
set_option linter.unusedSimpArgs false
namespace Go.Proofs.YtnlnohallnfbmaaGreatDoor
open Go.RowKit Go.Fp

theorem wholePlain (P : Int) (L : List Int) {A B C : Prop} (_ : A) (_ : B) (_ : C) : mFishkeep2FareWhole P L = some true := by
  unfold mFishkeep2FareWhole
  rw [show mFishkeep2AwakeFare = some () from rfl, Option.bind_some, fares_true, Option.bind_some, if_pos rfl]
  obtain ⟨e, e1, e2⟩ := fault_spec P L
  rw [e1, Option.bind_some]
  by_cases he : e = 0
  case neg => rw [if_pos he]
  subst he
  rw [if_neg (by omega)]
  have hG := e2 rfl
  obtain ⟨out, s1, s2, s3, s4⟩ := shares_spec hG
  have hP := hG.hP
  have hn := hG.hn
  have hS : 0 < L.sum := by
    have h1 := sum_nonneg L (fun x hx => (hG.hL x hx).1)
    have h2 := hG.hS
    omega
  rw [s1, pass2w, if_neg (by omega), Option.bind_some, if_neg (by simp; omega)]
  obtain ⟨t, f1, f2⟩ := forS_inv (body := mFishkeep2FareWhole_L347 L) (fun k s => s = (L.take k).sum) L.length 0 0 rfl (fun k s _ hk hI => by
    subst hI
    have hk : k < L.length := by omega
    have hx : L[k]? = some L[k] := List.getElem?_eq_getElem hk
    have hb := sum_to (L := L) (fun j x h => hG.hL x (List.mem_of_getElem? h)) k (by omega)
    have hc := hG.hL L[k] (List.getElem_mem hk)
    unfold mFishkeep2FareWhole_L347
    rw [idx_nat hx, Option.bind_some, chk_ok (by omega) (by omega)]
    exact ⟨_, rfl, (take_one hx).symm⟩)
  rw [Nat.zero_add, List.take_length] at f2
  subst f2
  rw [f1, Option.bind_some]
  have hpos : ∀ s ∈ out, 0 ≤ s := fun s hs => by
    obtain ⟨i, hi, e⟩ := List.getElem_of_mem hs
    have hiL : i < L.length := by omega
    exact (s4 i L[i] s (List.getElem?_eq_getElem hiL) (by rw [List.getElem?_eq_getElem hi, e])).1
  have hSb := sum_to (L := L) (fun j x h => hG.hL x (List.mem_of_getElem? h)) L.length (Nat.le_refl _)
  rw [List.take_length] at hSb
  obtain ⟨t, g1, g2⟩ : ∃ t, Go.Fp.forM (mFishkeep2FareWhole_L389 L P out L.sum) out.length 0 0 = some (.inl t) ∧ t = P := by
    rcases forM_inv (body := mFishkeep2FareWhole_L389 L P out L.sum) (fun k s => s = (out.take k).sum) (fun _ => False) out.length 0 0 rfl (fun k s _ hk hI => by
      subst hI
      have hk : k < out.length := by omega
      have hkL : k < L.length := by omega
      have hs : out[k]? = some out[k] := List.getElem?_eq_getElem hk
      have hx : L[k]? = some L[k] := List.getElem?_eq_getElem hkL
      obtain ⟨a1, a2, a3⟩ := s4 k _ _ hx hs
      have hle := mem_le_sum out hpos (List.getElem_mem hk)
      have hb := sum_take_le out hpos k
      have hxr := hG.hL L[k] (List.getElem_mem hkL)
      have hm := mul_small hP hxr
      have hsm : 0 ≤ out[k] * L.sum ∧ out[k] * L.sum ≤ 100000 * 60000 := by
        refine ⟨Int.mul_nonneg a1 (by omega), ?_⟩
        exact Int.mul_le_mul (by omega) (by omega) (by omega) (by omega)
      obtain ⟨z, hz⟩ : ∃ z, out[k] = z := ⟨_, rfl⟩
      obtain ⟨u, hu⟩ : ∃ u, L[k] = u := ⟨_, rfl⟩
      rw [Int.mul_comm L.sum] at a2 a3
      unfold mFishkeep2FareWhole_L389
      rw [idx_nat hs, Option.bind_some, chk_ok (by omega) (by omega), Option.bind_some, if_neg (by omega), if_neg (by omega), chk_ok (by omega) (by omega), Option.bind_some, idx_nat hx, Option.bind_some, chk_ok (by omega) (by omega), Option.bind_some, chk_ok (by omega) (by omega), Option.bind_some]
      rw [if_neg (by omega), Option.bind_some, chk_ok (by omega) (by omega), Option.bind_some, chk_ok (by omega) (by omega), Option.bind_some, Option.bind_some, Option.bind_some, if_neg (by simp; omega)]
      exact .inl ⟨_, rfl, (take_one hs).symm⟩) with ⟨s, f1, f2⟩ | ⟨t, f1, f2⟩
    · exact ⟨s, f1, by rw [f2, Nat.zero_add, List.take_length, s3]⟩
    · exact f2.elim
  rw [g1, Option.bind_some]
  simp only [Sum.elim_inl]
  rw [g2]
  simp
end Go.Proofs.YtnlnohallnfbmaaGreatDoor
