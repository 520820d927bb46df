/- Plain: the state of a depot says its tracks. -/
import Derived.Test.YtajmocgpjkhjlaaHL2
set_option linter.unusedVariables false
set_option linter.unusedSimpArgs false
namespace Go.Proofs.Ytajmocgpjkhjlaa
open Go.RowKit Go.Fp

def rn (l : List (List Int)) (i : Nat) : List Int := l.getD i []
def cell (l : List (List Int)) (i j : Nat) : Int := (rn l i).getD j 0
structure KeyOf (T K : List (List Int)) : Prop where
  len : K.length = 4
  row : ∀ i, i < 4 → (rn K i).length = 4
  cl : ∀ i j, i < 4 → j < 4 → cell K i j = if j < (rn T i).length then cell T i j + 1 else 0
theorem rn_get {l : List (List Int)} {i : Nat} (h : i < l.length) : l[i]? = some (rn l i) := by
  unfold rn
  rw [List.getD_eq_getElem?_getD, List.getElem?_eq_getElem h]
  rfl
theorem cell_get {l : List (List Int)} {i j : Nat} (h : j < (rn l i).length) : (rn l i)[j]? = some (cell l i j) := by
  unfold cell
  rw [List.getD_eq_getElem?_getD, List.getElem?_eq_getElem h]
  rfl
theorem rn_put {l : List (List Int)} {k : Nat} (hk : k < l.length) (r : List Int) (i : Nat) : rn (put l (k : Int) r) i = if i = k then r else rn l i := by
  unfold rn
  rw [put_nat, List.getD_eq_getElem?_getD, List.getD_eq_getElem?_getD]
  by_cases e : k = i
  · subst e
    rw [if_pos rfl, List.getElem?_set_self hk]
    rfl
  · rw [if_neg (fun h => e h.symm), List.getElem?_set_ne e]
theorem cell_put {l : List (List Int)} {k j : Nat} (hk : k < l.length) (hj : j < (rn l k).length) (v : Int) (i q : Nat) : cell (put l (k : Int) (put (rn l k) (j : Int) v)) i q = if i = k ∧ q = j then v else cell l i q := by
  unfold cell
  rw [rn_put hk]
  by_cases e : i = k
  · subst e
    rw [if_pos rfl, put_nat, List.getD_eq_getElem?_getD, List.getD_eq_getElem?_getD]
    by_cases e2 : j = q
    · subst e2
      rw [if_pos ⟨rfl, rfl⟩, List.getElem?_set_self hj]
      rfl
    · rw [if_neg (fun h => e2 h.2.symm), List.getElem?_set_ne e2]
  · rw [if_neg e, if_neg (fun h => e h.1)]
structure KMid (T : List (List Int)) (k j : Nat) (K : List (List Int)) : Prop where
  len : K.length = 4
  row : ∀ i, i < 4 → (rn K i).length = 4
  cl : ∀ i q, i < 4 → q < 4 → cell K i q = if (i < k ∨ (i = k ∧ q < j)) ∧ q < (rn T i).length then cell T i q + 1 else 0
section
variable {d : FleetDepot} {kinds : List Int} (hd : DOk d kinds) {T : List (List Int)} (hT : VT d T)
include hd hT in
theorem elem_bd {i j : Nat} (hi : i < T.length) (hj : j < (rn T i).length) : 0 ≤ cell T i j ∧ cell T i j ≤ 99 := by
  have h1 : cell T i j ∈ T.flatten := List.mem_flatten.2 ⟨rn T i, List.mem_of_getElem? (rn_get hi), List.mem_of_getElem? (cell_get hj)⟩
  have := hd.el _ (hT.sub _ h1)
  exact ⟨this.1, this.2.1⟩
include hd hT in
theorem state_spec : ∃ K, mFleetStateOf ⟨d.Room, T⟩ = some K ∧ KeyOf T K := by
  have hlen := hT.len
  have n4 := hd.n4
  have hrows := rows_le hd hT
  have h0 : KMid T 0 0 (List.replicate 4 (List.replicate 4 0)) := by
    have hr : ∀ i, i < 4 → rn (List.replicate 4 (List.replicate 4 (0 : Int))) i = List.replicate 4 0 := fun i hi => by
      unfold rn
      rw [List.getD_eq_getElem?_getD, List.getElem?_replicate, if_pos hi]
      rfl
    refine ⟨List.length_replicate, fun i hi => by rw [hr i hi, List.length_replicate], fun i q hi hq => ?_⟩
    rw [if_neg (fun h => h.1.elim (fun h => by omega) (fun h => by omega))]
    unfold cell
    rw [hr i hi, List.getD_eq_getElem?_getD, List.getElem?_replicate, if_pos hq]
    rfl
  unfold mFleetStateOf
  obtain ⟨K, h1, h2⟩ := forS_inv (body := mFleetStateOf_L400 ⟨d.Room, T⟩) (fun k K => KMid T k 0 K) T.length 0 (List.replicate 4 (List.replicate 4 0)) h0 (fun k K _ hk hi => by
    have hk' : k < T.length := by omega
    have hrl := hrows _ (List.mem_of_getElem? (rn_get hk'))
    unfold mFleetStateOf_L400
    show ∃ s', ((idx T (k : Int)).bind _) = some s' ∧ _
    rw [idx_nat (rn_get hk'), Option.bind_some]
    obtain ⟨K', e1, e2⟩ := forS_inv (body := mFleetStateOf_L670 k (rn T k)) (fun j K => KMid T k j K) (rn T k).length 0 K hi (fun j K _ hj hm => by
      have hj' : j < (rn T k).length := by omega
      have hb := elem_bd hd hT hk' hj'
      have hl := hm.len
      have hr := hm.row k (by omega)
      unfold mFleetStateOf_L670
      rw [idx_nat (cell_get hj'), Option.bind_some, chk_ok (by omega) (by omega), Option.bind_some, idx_nat (rn_get (l := K) (i := k) (by omega)), Option.bind_some, idx_nat (cell_get (l := K) (i := k) (j := j) (by omega)), Option.bind_some]
      refine ⟨_, rfl, by rw [put_length]; exact hl, fun i h4 => ?_, fun i q h4 hq => ?_⟩
      · rw [rn_put (by omega)]
        by_cases e : i = k
        · rw [if_pos e, put_length]
          exact hr
        · rw [if_neg e]
          exact hm.row i h4
      · rw [cell_put (by omega) (by omega), hm.cl i q h4 hq]
        by_cases e : i = k ∧ q = j
        · obtain ⟨rfl, rfl⟩ := e
          rw [if_pos ⟨rfl, rfl⟩, if_pos ⟨.inr ⟨rfl, by omega⟩, hj'⟩]
        · rw [if_neg e]
          by_cases c : (i < k ∨ (i = k ∧ q < j)) ∧ q < (rn T i).length
          · rw [if_pos c, if_pos ⟨c.1.elim .inl (fun h => .inr ⟨h.1, by omega⟩), c.2⟩]
          · rw [if_neg c, if_neg (fun h => c ⟨h.1.elim .inl (fun h2 => .inr ⟨h2.1, by
              have : q ≠ j := fun e3 => e ⟨h2.1, e3⟩
              omega⟩), h.2⟩)])
    rw [e1, Option.bind_some]
    refine ⟨K', rfl, e2.len, e2.row, fun i q h4 hq => ?_⟩
    rw [e2.cl i q h4 hq, Nat.zero_add]
    by_cases c : (i < k ∨ (i = k ∧ q < (rn T k).length)) ∧ q < (rn T i).length
    · rw [if_pos c, if_pos ⟨.inl (c.1.elim (fun h => by omega) (fun h => by omega)), c.2⟩]
    · rw [if_neg c, if_neg (fun h => c ⟨h.1.elim (fun h1 => by
        by_cases e : i = k
        · exact .inr ⟨e, by have := h.2; rw [e] at this; exact this⟩
        · exact .inl (by omega)) (fun h1 => absurd h1.2 (by omega)), h.2⟩)])
  show ∃ K, ((forS (mFleetStateOf_L400 ⟨d.Room, T⟩) T.length 0 (List.replicate 4 (List.replicate 4 0))).bind _) = some K ∧ _
  rw [h1, Option.bind_some]
  refine ⟨K, rfl, h2.len, h2.row, fun i j hi hj => ?_⟩
  rw [h2.cl i j hi hj, Nat.zero_add]
  by_cases c : j < (rn T i).length
  · have hil : i < T.length := by
      rcases Nat.lt_or_ge i T.length with h | h
      · exact h
      · have : rn T i = [] := by
          unfold rn
          rw [List.getD_eq_getElem?_getD, List.getElem?_eq_none h]
          rfl
        rw [this] at c
        exact absurd c (Nat.not_lt_zero _)
    rw [if_pos c, if_pos ⟨.inl hil, c⟩]
  · rw [if_neg c, if_neg (fun h => c h.2)]
include hd hT in
theorem key_inj {T' K : List (List Int)} (hT' : VT d T') (h : KeyOf T K) (h' : KeyOf T' K) : T = T' := by
  have hlen := hT.len
  have hlen' := hT'.len
  have n4 := hd.n4
  have hrows := rows_le hd hT
  have hrows' := rows_le hd hT'
  refine List.ext_getElem? (fun i => ?_)
  by_cases hi : i < T.length
  · have hi' : i < T'.length := by omega
    rw [rn_get hi, rn_get hi']
    have hl := hrows _ (List.mem_of_getElem? (rn_get hi))
    have hl' := hrows' _ (List.mem_of_getElem? (rn_get hi'))
    congr 1
    have hlens : (rn T i).length = (rn T' i).length := by
      rcases Nat.lt_trichotomy (rn T i).length (rn T' i).length with c | c | c
      · have h1 := h.cl i (rn T i).length (by omega) (by omega)
        have h2 := h'.cl i (rn T i).length (by omega) (by omega)
        rw [if_neg (by omega)] at h1
        rw [if_pos c, h1] at h2
        have := elem_bd hd hT' hi' c
        omega
      · exact c
      · have h1 := h'.cl i (rn T' i).length (by omega) (by omega)
        have h2 := h.cl i (rn T' i).length (by omega) (by omega)
        rw [if_neg (by omega)] at h1
        rw [if_pos c, h1] at h2
        have := elem_bd hd hT hi c
        omega
    refine List.ext_getElem? (fun j => ?_)
    by_cases hj : j < (rn T i).length
    · rw [cell_get hj, cell_get (l := T') (by omega)]
      have h1 := h.cl i j (by omega) (by omega)
      have h2 := h'.cl i j (by omega) (by omega)
      rw [if_pos hj] at h1
      rw [if_pos (by omega), h1] at h2
      congr 1
      omega
    · rw [List.getElem?_eq_none (by omega), List.getElem?_eq_none (by omega)]
  · rw [List.getElem?_eq_none (by omega), List.getElem?_eq_none (by omega)]
end
end Go.Proofs.Ytajmocgpjkhjlaa
