/- Plain: inspections and legality of rows, as the models reckon them. -/
import Derived.Test.YtajmocgpjkhjlaaAL4
set_option linter.unusedVariables false
set_option linter.unusedSimpArgs false
namespace Go.Proofs.Ytajmocgpjkhjlaa
open Go.RowKit Go.Fp

theorem nodup_leI : ∀ (n : Nat) (q : List Int), q.Nodup → (∀ y ∈ q, 0 ≤ y ∧ y < (n : Int)) → q.length ≤ n
  | 0, q, _, h => by
    cases q with
    | nil => exact Nat.le_refl _
    | cons a q => exact absurd (h a (by simp)) (by omega)
  | n + 1, q, hq, h => by
    by_cases hm : (n : Int) ∈ q
    · have h1 := nodup_leI n (q.erase (n : Int)) (hq.erase _) (fun v hv => by
        have h2 := (List.Nodup.mem_erase_iff hq).1 hv
        have h3 := h v h2.2
        have h4 := h2.1
        omega)
      rw [List.length_erase_of_mem hm] at h1
      omega
    · have := nodup_leI n q hq (fun v hv => by
        have h3 := h v hv
        have : v ≠ (n : Int) := fun e => hm (e ▸ hv)
        omega)
      omega
def posR (r : Option (Bool × List Int)) : List Int := (r.getD (false, [])).2
noncomputable def posOf (l : List FleetTask) (p : FleetShop) (y : FleetSet × List Int) : List Int := posR (mFleetPositions l y.2 y.1 p)
noncomputable def outs (l : List FleetTask) (p : FleetShop) (S : List FleetSet) (U : List (List Int)) : List (List Int) := (S.zip U).map (posOf l p)
def sumL (L : List (List Int)) : Int := L.foldl (fun a r => a + (r.length : Int)) 0
theorem fold_sum : ∀ (L : List (List Int)) (a : Int), L.foldl (fun a r => a + (r.length : Int)) a = a + sumL L
  | [], a => by simp [sumL]
  | r :: L, a => by
    unfold sumL
    rw [List.foldl_cons, List.foldl_cons, fold_sum L, fold_sum L]
    omega
theorem sumL_cons (r : List Int) (L : List (List Int)) : sumL (r :: L) = (r.length : Int) + sumL L := by
  have := fold_sum L (0 + (r.length : Int))
  unfold sumL at this ⊢
  rw [List.foldl_cons]
  omega
theorem pick_some {v c : Int} {r : Option (Bool × List Int)} (h : pick v r = some c) : ∃ t, r = some (true, t) ∧ c = v + (t.length : Int) := by
  match r, h with
  | some (true, t), h => injection h with h; exact ⟨t, rfl, h.symm⟩
  | some (false, t), h => cases h
  | none, h => cases h
theorem posOf_eq {l : List FleetTask} {p : FleetShop} {s : FleetSet} {t r : List Int} {b : Bool} (h : mFleetPositions l t s p = some (b, r)) : posOf l p (s, t) = r := by
  have e : posOf l p (s, t) = posR (mFleetPositions l t s p) := rfl
  rw [e, h]
  rfl
section
variable {l : List FleetTask} {p : FleetShop}
theorem costs_all (L : List (FleetSet × List Int)) (c : Int) : ∀ a : Int, L.foldl (add1 l p) (some a) = some c → (∀ y ∈ L, mFleetPositions l y.2 y.1 p = some (true, posOf l p y)) ∧ c = a + sumL (L.map (posOf l p)) := by
  induction L with
  | nil =>
    intro a h
    rw [List.foldl_nil] at h
    injection h with h
    refine ⟨fun y hy => absurd hy (by simp), ?_⟩
    rw [List.map_nil, show sumL [] = 0 from rfl]
    omega
  | cons y L ih =>
    intro a h
    obtain ⟨s, t⟩ := y
    rw [List.foldl_cons, add1_some] at h
    cases hp : pick a (mFleetPositions l t s p) with
    | none => rw [hp, fold_none] at h; cases h
    | some v =>
      rw [hp] at h
      obtain ⟨r, r1, r2⟩ := pick_some hp
      obtain ⟨h1, h2⟩ := ih v h
      have e : posOf l p (s, t) = r := posOf_eq r1
      refine ⟨fun y hy => ?_, ?_⟩
      · rcases List.mem_cons.1 hy with rfl | hy
        · rw [e]; exact r1
        · exact h1 y hy
      · rw [List.map_cons, sumL_cons, e]
        omega
theorem costs_ok {S : List FleetSet} {U : List (List Int)} {c : Int} (h : costs l p S U = some c) : (∀ y ∈ S.zip U, mFleetPositions l y.2 y.1 p = some (true, posOf l p y)) ∧ c = sumL (outs l p S U) := by
  obtain ⟨h1, h2⟩ := costs_all _ _ _ h
  refine ⟨h1, ?_⟩
  unfold outs
  omega
theorem many_eq (L : List (List Int)) (hb : ∀ r ∈ L, r.length ≤ 1000) (hl : L.length ≤ 1000) : mFishkeep2FleetAssigned_1 L = some (sumL L) := by
  unfold mFishkeep2FleetAssigned_1
  obtain ⟨c, h1, h2, _⟩ := forS_inv (body := mFishkeep2FleetAssigned_1_L57 L) (fun k c => c = sumL (L.take k) ∧ 0 ≤ c ∧ c ≤ 1000 * (k : Int)) L.length 0 0 ⟨rfl, by omega, by omega⟩ (fun k c _ hk hi => by
    have hk' : k < L.length := by omega
    have := hb _ (List.getElem_mem hk')
    unfold mFishkeep2FleetAssigned_1_L57
    rw [idx_lt hk', Option.bind_some, chk_ok (by omega) (by omega), Option.bind_some]
    refine ⟨_, rfl, ?_, by omega, by omega⟩
    rw [List.take_succ_eq_append_getElem hk', hi.1]
    unfold sumL
    rw [List.foldl_append, List.foldl_cons, List.foldl_nil])
  rw [h1, h2, Nat.zero_add, List.take_length]
  rfl
theorem assign_out {S : List FleetSet} {U : List (List Int)} (hl : U.length = S.length) (h7 : S.length ≤ 1000) (hp : ∀ y ∈ S.zip U, mFleetPositions l y.2 y.1 p = some (true, posOf l p y)) : forS (mFleetAssign_L543 l S p U) U.length 0 ([] : List (List Int)) = some (outs l p S U) := by
  have hz : (S.zip U).length = U.length := by rw [List.length_zip]; omega
  obtain ⟨r, h1, h2⟩ := forS_inv (body := mFleetAssign_L543 l S p U) (fun k r => r = ((S.zip U).take k).map (posOf l p)) U.length 0 [] rfl (fun k r _ hk hi => by
    have hk' : k < U.length := by omega
    have hks : k < S.length := by omega
    have hpk := hp _ (List.getElem_mem (show k < (S.zip U).length by omega))
    rw [List.getElem_zip] at hpk
    simp only at hpk
    have hrl : r.length = k := by rw [hi, List.length_map, List.length_take]; omega
    unfold mFleetAssign_L543
    rw [idx_lt hk', Option.bind_some, idx_lt hks, Option.bind_some, hpk, pass2, room_ok (by omega) (by omega), Option.bind_some]
    refine ⟨_, rfl, ?_⟩
    rw [List.take_succ_eq_append_getElem (show k < (S.zip U).length by omega), List.map_append, ← hi, List.getElem_zip]
    rfl)
  rw [h1, h2, Nat.zero_add, ← hz, List.take_length]
  rfl
end
end Go.Proofs.Ytajmocgpjkhjlaa
