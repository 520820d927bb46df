/- Plain: what the search reaches is legal. -/
import Derived.Test.YtajmocgpjkhjlaaAL3
set_option linter.unusedVariables false
set_option linter.unusedSimpArgs false
namespace Go.Proofs.Ytajmocgpjkhjlaa
open Go.RowKit Go.Fp

def total (T : List (List Int)) (k : Int) : Nat := (T.map (fun t => t.count k)).sum
theorem total_set : ∀ {T : List (List Int)} {j : Nat} {t : List Int} (k k' : Int), T[j]? = some t → total (T.set j (t ++ [k])) k' = total T k' + (if k' = k then 1 else 0)
  | [], j, t, k, k', h => by simp at h
  | r :: T, 0, t, k, k', h => by
    simp at h
    subst h
    unfold total
    simp only [List.set_cons_zero, List.map_cons, List.sum_cons, List.count_append, List.count_cons, List.count_nil]
    by_cases e : k' = k
    · subst e
      simp
      omega
    · rw [if_neg e, if_neg (by simpa using fun h => e h.symm)]
      omega
  | r :: T, j + 1, t, k, k', h => by
    have ih := total_set (T := T) (j := j) (t := t) k k' (by simpa using h)
    unfold total at ih ⊢
    simp only [List.set_cons_succ, List.map_cons, List.sum_cons]
    omega
structure Chain (l : List FleetTask) (x : Int) (s : FleetSet) (t : List Int) : Prop where
  val : ∀ y ∈ t, Val l y
  home : ∀ a, t[0]? = some a → (tk l a).From = s.Home
  foll : ∀ q a b, t[q]? = some a → t[q + 1]? = some b → Foll l x a b
  nodup : t.Nodup
structure Goodly (l : List FleetTask) (x : Int) (S : List FleetSet) (o : List Int) (i : Nat) (m : Int) (f : Nat) (T : List (List Int)) : Prop where
  len : T.length = S.length
  chain : ∀ (j : Nat) s t, S[j]? = some s → T[j]? = some t → Chain l x s t
  cnt : ∀ k : Int, (total T k : Int) = if k ∈ o.take i then (tk l k).Units else if o[i]? = some k then m else 0
  wher : ∀ (j : Nat) (t : List Int), T[j]? = some t → ∀ y ∈ t, y ∈ o.take i ∨ (o[i]? = some y ∧ j < f)
structure Done_ (l : List FleetTask) (x : Int) (S : List FleetSet) (o : List Int) (U : List (List Int)) : Prop where
  len : U.length = S.length
  chain : ∀ (j : Nat) s t, S[j]? = some s → U[j]? = some t → Chain l x s t
  cnt : ∀ k ∈ o, (total U k : Int) = (tk l k).Units
section
variable {l : List FleetTask} {x : Int} {S : List FleetSet} {o : List Int}
theorem chain_add {s : FleetSet} {t : List Int} {k : Int} (h : Chain l x s t) (hk : Val l k) (ht : Take l x s t k) (hn : k ∉ t) : Chain l x s (t ++ [k]) := by
  refine ⟨fun y hy => ?_, fun a ha => ?_, fun q a b ha hb => ?_, ?_⟩
  · rcases List.mem_append.1 hy with hy | hy
    · exact h.val y hy
    · rw [List.mem_singleton.1 hy]; exact hk
  · cases t with
    | nil =>
      simp at ha
      subst ha
      exact ht
    | cons c t => exact h.home a (by simpa using ha)
  · by_cases hq : q + 1 < t.length
    · rw [List.getElem?_append_left (by omega)] at ha
      rw [List.getElem?_append_left hq] at hb
      exact h.foll q a b ha hb
    · by_cases hq2 : q + 1 = t.length
      · rw [List.getElem?_append_left (by omega)] at ha
        rw [List.getElem?_append_right (by omega), show q + 1 - t.length = 0 by omega] at hb
        simp at hb
        subst hb
        have hne : t ≠ [] := fun e => by subst e; simp at hq2
        have hl : t.getLast? = some a := by
          rw [List.getLast?_eq_getElem?, ← ha]
          congr 1
          omega
        unfold Take at ht
        rw [hl] at ht
        exact ht
      · have := (List.getElem?_eq_some_iff.1 hb).1
        rw [List.length_append] at this
        simp at this
        omega
  · rw [List.nodup_append]
    refine ⟨h.nodup, by simp, fun a ha b hb e => ?_⟩
    rw [List.mem_singleton.1 hb] at e
    exact hn (e ▸ ha)
theorem reach_good (ho : o.Nodup) (hv : ∀ y ∈ o, Val l y) {i : Nat} {m : Int} {f : Nat} {T U : List (List Int)} (h : Reach l x S o i m f T U) : Goodly l x S o i m f T → Done_ l x S o U := by
  induction h with
  | fin =>
    intro g
    refine ⟨g.len, g.chain, fun k hk => ?_⟩
    rw [g.cnt k, List.take_length, if_pos hk]
  | @next i m f T U hi hm hr ih =>
    intro g
    have htk : o.take (i + 1) = o.take i ++ [o[i]] := List.take_succ_eq_append_getElem hi
    have hoi := List.getElem?_eq_getElem hi
    refine ih ⟨g.len, g.chain, fun k => ?_, fun j t ht y hy => ?_⟩
    · rw [g.cnt k, htk]
      by_cases h1 : k ∈ o.take i
      · rw [if_pos h1, if_pos (List.mem_append_left _ h1)]
      · rw [if_neg h1, hoi]
        by_cases h2 : k = o[i]
        · subst h2
          rw [if_pos rfl, if_pos (List.mem_append_right _ (List.mem_singleton.2 rfl))]
          exact hm
        · rw [if_neg (fun e => h2 (by injection e with e; exact e.symm)), if_neg (fun hm => (List.mem_append.1 hm).elim h1 (fun h => h2 (List.mem_singleton.1 h)))]
          split <;> rfl
    · refine .inl ?_
      rw [htk]
      rcases g.wher j t ht y hy with h1 | ⟨h1, _⟩
      · exact List.mem_append_left _ h1
      · rw [hoi] at h1
        injection h1 with h1
        rw [← h1]
        exact List.mem_append_right _ (List.mem_singleton.2 rfl)
  | @take i m f j T U s t hi hm hf hs ht hk hr ih =>
    intro g
    have hoi := List.getElem?_eq_getElem hi
    have hnot : o[i] ∉ o.take i := fun hm => by
      obtain ⟨q, hq, he⟩ := List.getElem_of_mem hm
      rw [List.length_take] at hq
      rw [List.getElem_take] at he
      exact (List.pairwise_iff_getElem.1 ho) q i (by omega) hi (by omega) he
    have hnt : o[i] ∉ t := fun hm => by
      rcases g.wher j t ht _ hm with h1 | ⟨_, h1⟩
      · exact hnot h1
      · omega
    refine ih ⟨by rw [List.length_set]; exact g.len, fun j' s' t' hs' ht' => ?_, fun k => ?_, fun j' t' ht' y hy => ?_⟩
    · by_cases e : j = j'
      · subst e
        rw [List.getElem?_set_self (List.getElem?_eq_some_iff.1 ht).1] at ht'
        injection ht' with ht'
        rw [hs] at hs'
        injection hs' with hs'
        subst ht' hs'
        exact chain_add (g.chain j s t hs ht) (hv _ (List.getElem_mem hi)) hk hnt
      · rw [List.getElem?_set_ne e] at ht'
        exact g.chain j' s' t' hs' ht'
    · rw [total_set _ _ ht, Int.natCast_add, g.cnt k, hoi]
      by_cases h1 : k ∈ o.take i
      · have : k ≠ o[i] := fun e => hnot (e ▸ h1)
        rw [if_pos h1, if_pos h1, if_neg this]
        simp
      · rw [if_neg h1, if_neg h1]
        by_cases h2 : k = o[i]
        · subst h2
          rw [if_pos rfl, if_pos rfl, if_pos rfl]
          rfl
        · have h3 : ¬ some o[i] = some k := fun e => h2 (by injection e with e; exact e.symm)
          rw [if_neg h3, if_neg h2, if_neg h3]
          rfl
    · by_cases e : j = j'
      · subst e
        rw [List.getElem?_set_self (List.getElem?_eq_some_iff.1 ht).1] at ht'
        injection ht' with ht'
        subst ht'
        rcases List.mem_append.1 hy with hy | hy
        · rcases g.wher j t ht y hy with h1 | ⟨h1, h2⟩
          · exact .inl h1
          · exact .inr ⟨h1, by omega⟩
        · rw [List.mem_singleton.1 hy]
          exact .inr ⟨hoi, by omega⟩
      · rw [List.getElem?_set_ne e] at ht'
        rcases g.wher j' t' ht' y hy with h1 | ⟨h1, h2⟩
        · exact .inl h1
        · exact .inr ⟨h1, by omega⟩
theorem good_start (S : List FleetSet) (hU : 0 < o.length ∨ True) : Goodly l x S o 0 0 0 (List.replicate S.length []) := by
  have hnil : ∀ (j : Nat) (t : List Int), (List.replicate S.length ([] : List Int))[j]? = some t → t = [] := fun j t h => by
    rw [List.getElem?_replicate] at h
    split at h
    · injection h with h; exact h.symm
    · cases h
  refine ⟨List.length_replicate, fun j s t _ ht => ?_, fun k => ?_, fun j t ht y hy => ?_⟩
  · rw [hnil j t ht]
    exact ⟨(fun y hy => absurd hy (by simp)), (fun a ha => absurd ha (by simp)), (fun q a b ha => absurd ha (by simp)), List.nodup_nil⟩
  · have : total (List.replicate S.length []) k = 0 := by
      unfold total
      rw [List.map_replicate]
      simp
    rw [this]
    simp
  · rw [hnil j t ht] at hy
    cases hy
/-- One set more: what it could do before it can do still. -/
theorem reach_more (s1 : FleetSet) {i : Nat} {m : Int} {f : Nat} {T U : List (List Int)} (h : Reach l x S o i m f T U) : T.length = S.length → Reach l x (S ++ [s1]) o i m f (T ++ [[]]) (U ++ [[]]) := by
  induction h with
  | fin => exact fun _ => .fin
  | next hi hm _ ih => exact fun hl => .next hi hm (ih hl)
  | @take i m f j T U s t hi hm hf hs ht hk hr ih =>
    intro hl
    have hj : j < S.length := (List.getElem?_eq_some_iff.1 hs).1
    refine .take hi hm hf (s := s) (t := t) (by rw [List.getElem?_append_left hj]; exact hs) (by rw [List.getElem?_append_left (by omega)]; exact ht) hk ?_
    rw [List.set_append_left (h := by omega)]
    exact ih (by rw [List.length_set]; exact hl)
end
end Go.Proofs.Ytajmocgpjkhjlaa
