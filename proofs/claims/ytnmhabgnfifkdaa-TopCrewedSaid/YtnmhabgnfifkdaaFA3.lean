/- Plain: what the rosters of the search are; judging one; loads, greatest load. -/
import Derived.Test.YtnmhabgnfifkdaaFA2
set_option linter.unusedVariables false
set_option linter.unusedSimpArgs false
namespace Go.Proofs.Ytnmhabgnfifkdaa
open Go.RowKit Go.Fp

def iota : Nat → Int → List Int
  | 0, _ => []
  | m + 1, s => s :: iota m (s + 1)
theorem iota_mem : ∀ {m : Nat} {s x : Int}, x ∈ iota m s ↔ s ≤ x ∧ x < s + m
  | 0, s, x => by
    simp only [iota, List.not_mem_nil, false_iff]
    omega
  | m + 1, s, x => by
    rw [iota, List.mem_cons, iota_mem (m := m)]
    omega
theorem iota_nodup : ∀ (m : Nat) (s : Int), (iota m s).Nodup
  | 0, _ => .nil
  | m + 1, s => by
    rw [iota, List.nodup_cons]
    exact ⟨fun h => by have := iota_mem.1 h; omega, iota_nodup m (s + 1)⟩
theorem iota_length : ∀ (m : Nat) (s : Int), (iota m s).length = m
  | 0, _ => rfl
  | m + 1, s => by rw [iota, List.length_cons, iota_length]
theorem flat_snoc : ∀ {ro : Ro} {d : Nat} (h : d < ro.length) (s : Int), (ro.set d (ro[d] ++ [s])).flatten.Perm (ro.flatten ++ [s])
  | r :: ro, 0, _, s => by
    show ((r ++ [s]) ++ ro.flatten).Perm ((r ++ ro.flatten) ++ [s])
    rw [List.append_assoc, List.append_assoc]
    exact List.Perm.append_left r List.perm_append_comm
  | r :: ro, d + 1, h, s => by
    have hd : d < ro.length := by simpa using h
    have := flat_snoc (ro := ro) (d := d) (by simpa using h) s
    show (r ++ (ro.set d (ro[d] ++ [s])).flatten).Perm ((r ++ ro.flatten) ++ [s])
    rw [List.append_assoc]
    exact List.Perm.append_left r this
theorem leaf_inv {fit : List Int → Bool} : ∀ {m : Nat} {s : Int} {ro q : Ro}, q ∈ leaves fit m s ro → q.length = ro.length ∧ q.flatten.Perm (ro.flatten ++ iota m s) ∧ ((∀ r ∈ ro, r = [] ∨ fit r = true) → ∀ r ∈ q, r = [] ∨ fit r = true)
  | 0, s, ro, q, h => by
    simp only [leaves, List.mem_cons, List.not_mem_nil, or_false] at h
    subst h
    exact ⟨rfl, by simp [iota], id⟩
  | m + 1, s, ro, q, h => by
    rw [leaves, List.mem_flatMap] at h
    obtain ⟨d, hd, hq⟩ := h
    have hd' : d < ro.length := List.mem_range.1 hd
    rw [getD_get hd'] at hq
    split at hq
    · rename_i hf
      obtain ⟨h1, h2, h3⟩ := leaf_inv hq
      refine ⟨by rw [h1, List.length_set], ?_, fun hr r hm => h3 (fun r hm => ?_) r hm⟩
      · have := (h2.trans ((flat_snoc hd' s).append_right _))
        rw [List.append_assoc] at this
        exact this
      · rcases List.mem_or_eq_of_mem_set hm with h | h
        · exact hr r h
        · exact .inr (h ▸ hf)
    · simp at hq
theorem leaf_more {fit : List Int → Bool} : ∀ {m : Nat} {s : Int} {ro q : Ro}, q ∈ leaves fit m s ro → (q ++ [[]]) ∈ leaves fit m s (ro ++ [[]])
  | 0, s, ro, q, h => by
    simp only [leaves, List.mem_cons, List.not_mem_nil, or_false] at h ⊢
    rw [h]
  | m + 1, s, ro, q, h => by
    rw [leaves, List.mem_flatMap] at h ⊢
    obtain ⟨d, hd, hq⟩ := h
    have hd' : d < ro.length := List.mem_range.1 hd
    have hd2 : d < (ro ++ [[]]).length := by rw [List.length_append]; omega
    rw [getD_get hd'] at hq
    have e : (ro ++ [[]])[d] = ro[d] := List.getElem_append_left hd'
    refine ⟨d, List.mem_range.2 hd2, ?_⟩
    rw [getD_get hd2, e]
    split at hq
    · rename_i hf
      rw [if_pos hf, List.set_append_left _ _ hd']
      exact leaf_more hq
    · simp at hq
theorem fold_max (l : List FleetShift) : ∀ (q : Ro) (a : Int), a ≤ q.foldl (fun a r => max a (ld l r)) a ∧ (∀ r ∈ q, ld l r ≤ q.foldl (fun a r => max a (ld l r)) a) ∧ ∀ v, a ≤ v → (∀ r ∈ q, ld l r ≤ v) → q.foldl (fun a r => max a (ld l r)) a ≤ v
  | [], a => ⟨Int.le_refl _, fun r h => by simp at h, fun v h _ => h⟩
  | r :: q, a => by
    obtain ⟨h1, h2, h3⟩ := fold_max l q (max a (ld l r))
    rw [List.foldl_cons]
    refine ⟨by omega, fun x hx => ?_, fun v hv hr => h3 v (by have := hr r (List.mem_cons_self ..); omega) (fun x hx => hr x (List.mem_cons_of_mem _ hx))⟩
    rcases List.mem_cons.1 hx with rfl | hx
    · omega
    · exact h2 x hx
theorem most_nonneg (l : List FleetShift) (q : Ro) : 0 ≤ mostOf l q := (fold_max l q 0).1
theorem most_ge {l : List FleetShift} {q : Ro} {r : List Int} (h : r ∈ q) : ld l r ≤ mostOf l q := (fold_max l q 0).2.1 r h
theorem most_le {l : List FleetShift} {q : Ro} {v : Int} (h0 : 0 ≤ v) (h : ∀ r ∈ q, ld l r ≤ v) : mostOf l q ≤ v := (fold_max l q 0).2.2 v h0 h
theorem most_more (l : List FleetShift) (q : Ro) : mostOf l (q ++ [[]]) = mostOf l q := by
  have h := most_nonneg l q
  unfold mostOf at h ⊢
  rw [List.foldl_append]
  simp only [List.foldl_cons, List.foldl_nil, ld_nil]
  omega
theorem fold_better (l : List FleetShift) : ∀ (L : List Ro) (a : Int × Ro), (0 ≤ a.1 → 0 ≤ (L.foldl (better l) a).1 ∧ (L.foldl (better l) a).1 ≤ a.1) ∧ (∀ q ∈ L, 0 ≤ (L.foldl (better l) a).1 ∧ (L.foldl (better l) a).1 ≤ mostOf l q) ∧ (L.foldl (better l) a = a ∨ (L.foldl (better l) a).2 ∈ L ∧ (L.foldl (better l) a).1 = mostOf l (L.foldl (better l) a).2)
  | [], a => ⟨fun h => ⟨h, Int.le_refl _⟩, fun q h => by simp at h, .inl rfl⟩
  | q :: L, a => by
    obtain ⟨h1, h2, h3⟩ := fold_better l L (better l a q)
    rw [List.foldl_cons]
    have hm := most_nonneg l q
    have hb : 0 ≤ (better l a q).1 ∧ (better l a q).1 ≤ mostOf l q ∧ (0 ≤ a.1 → (better l a q).1 ≤ a.1) := by
      unfold better
      split
      · rename_i h
        exact ⟨hm, Int.le_refl _, fun h0 => by rcases h with h | h <;> simp only <;> omega⟩
      · rename_i h
        exact ⟨by omega, by omega, fun _ => Int.le_refl _⟩
    have h4 := h1 hb.1
    refine ⟨fun h0 => ⟨h4.1, by have := hb.2.2 h0; omega⟩, fun x hx => ?_, ?_⟩
    · rcases List.mem_cons.1 hx with rfl | hx
      · exact ⟨h4.1, by have := hb.2.1; omega⟩
      · exact h2 x hx
    · rcases h3 with h3 | ⟨h3, h5⟩
      · rw [h3]
        unfold better
        split
        · exact .inr ⟨List.mem_cons_self .., rfl⟩
        · exact .inl rfl
      · exact .inr ⟨List.mem_cons_of_mem _ h3, h5⟩
section
variable {l : List FleetShift} (hl : ∀ s ∈ l, OkS s) (hn : l.length ≤ 8)
/-- A roster in which each shift is once, and each driver's shifts keep the rules. -/
structure Good (l : List FleetShift) (x : FleetLimits) (q : Ro) : Prop where
  few : q.length ≤ 4
  once : q.flatten.Perm (iota l.length 0)
  keep : ∀ r ∈ q, r = [] ∨ fitB l x r = true
theorem Good.nums {x : FleetLimits} {q : Ro} (h : Good l x q) {r : List Int} (hr : r ∈ q) : Nums l r := fun s hs => by
  have := iota_mem.1 (h.once.subset (List.mem_flatten_of_mem hr hs))
  omega
theorem flat_len_le : ∀ {q : Ro} {r : List Int}, r ∈ q → r.length ≤ q.flatten.length
  | a :: q, r, h => by
    rw [List.flatten_cons, List.length_append]
    rcases List.mem_cons.1 h with rfl | h
    · omega
    · have := flat_len_le h; omega
theorem Good.len {x : FleetLimits} {q : Ro} (h : Good l x q) {r : List Int} (hr : r ∈ q) : r.length ≤ l.length := by
  have h1 := flat_len_le hr
  rw [h.once.length_eq, iota_length] at h1
  exact h1
theorem checkRoster_eq {q : Ro} (h4 : q.length ≤ 4) (hq : ∀ r ∈ q, Nums l r) (hn : l.length ≤ 8) : mFleetCheckRoster l q = some 0 := by
  unfold mFleetCheckRoster
  rw [if_neg (by omega)]
  rcases forM_inv (body := mFleetCheckRoster_L123 l q) (fun _ _ => True) (fun _ => False) q.length 0 () trivial (fun k s _ hk _ => by
      have hk' : k < q.length := by omega
      refine .inl ⟨(), ?_, trivial⟩
      unfold mFleetCheckRoster_L123
      rw [idx_lt hk', Option.bind_some]
      rcases forM_inv (body := mFleetCheckRoster_L194 l q[k]) (fun _ _ => True) (fun _ => False) q[k].length 0 () trivial (fun j s _ hj _ => by
          have hj' : j < q[k].length := by omega
          have h := nums_get (hq _ (List.getElem_mem hk')) hj'
          refine .inl ⟨(), ?_, trivial⟩
          unfold mFleetCheckRoster_L194
          rw [idx_lt hj', Option.bind_some, chk_ok (by omega) (by omega), Option.bind_some, within_eq, Option.bind_some, decide_eq_true (by omega), if_pos rfl]) with ⟨s, e, _⟩ | ⟨t, _, h⟩
      · rw [e]; rfl
      · exact h.elim) with ⟨s, e, _⟩ | ⟨t, _, h⟩
  · rw [e]; rfl
  · exact h.elim
theorem contains_one {L : List Int} (h : ∀ y ∈ L, y = 1) : mSlicesContainsFunc_2 L = some false := by
  unfold mSlicesContainsFunc_2 mSlicesIndexFunc_2
  rcases forM_inv (body := mSlicesIndexFunc_2_L42 L) (fun _ _ => True) (fun _ => False) L.length 0 () trivial (fun k s _ hk _ => by
      have hk' : k < L.length := by omega
      refine .inl ⟨(), ?_, trivial⟩
      unfold mSlicesIndexFunc_2_L42 mFleetJudgeRoster_1
      rw [idx_lt hk', Option.bind_some, Option.bind_some, h _ (List.getElem_mem hk')]
      rfl) with ⟨s, e, _⟩ | ⟨t, _, h⟩
  · rw [e]; rfl
  · exact h.elim
/-- How often each number is there. -/
def Tally (n : Nat) (L : List Int) (many : List Int) : Prop := many.length = n ∧ ∀ (j : Nat) (h : j < many.length), many[j] = (L.count (j : Int) : Int)
theorem Tally.put {n : Nat} {L many : List Int} (h : Tally n L many) {s : Int} (hs : 0 ≤ s ∧ s < (n : Int)) (hb : L.length ≤ 1000) : ∃ c, idx many s = some c ∧ chk (c + 1) = some (c + 1) ∧ Tally n (L ++ [s]) (put many s (c + 1)) := by
  obtain ⟨h1, h2⟩ := h
  obtain ⟨k, rfl⟩ : ∃ k : Nat, s = k := ⟨s.toNat, by omega⟩
  have hk : k < many.length := by omega
  have hc := h2 k hk
  have hle : L.count (k : Int) ≤ L.length := List.count_le_length
  refine ⟨many[k], idx_lt hk, chk_ok (by omega) (by omega), by rw [put_length]; exact h1, fun j hj => ?_⟩
  rw [put_length] at hj
  simp only [put_nat, List.getElem_set, List.count_append, List.count_singleton]
  by_cases e : k = j
  · subst e
    rw [if_pos rfl, hc]
    simp
  · rw [if_neg e, h2 j hj]
    have : ¬ ((k : Int) == (j : Int)) = true := by simp; omega
    rw [if_neg this]
    simp
include hn in
theorem judge_eq {x : FleetLimits} {q : Ro} (hs : mFleetCheckShifts l = some 0) (hx : mFleetCheckLimits x = some 0) (h : Good l x q) : mFleetJudgeRoster l q x = some (0, 0) := by
  unfold mFleetJudgeRoster
  rw [hs, Option.bind_some, if_neg (by decide), hx, Option.bind_some, if_neg (by decide), checkRoster_eq h.few (fun r hr => h.nums hr) hn, Option.bind_some, if_neg (by decide)]
  have hlen : q.flatten.length ≤ 8 := by rw [h.once.length_eq, iota_length]; exact hn
  have tk : ∀ k, (q.take k).flatten.length ≤ 8 := fun k => by
    have : q.flatten = (q.take k).flatten ++ (q.drop k).flatten := by rw [← List.flatten_append, List.take_append_drop]
    rw [this, List.length_append] at hlen
    omega
  have hj : mFleetJudgeRoster_2 l q x = some 0 := by
    unfold mFleetJudgeRoster_2
    rw [mkLen_ok (by omega) (by omega), Option.bind_some]
    obtain ⟨a, e, hI⟩ := forS_inv (body := mFleetJudgeRoster_2_L620 l q x) (fun k a => a.1 = false ∧ a.2.1 = false ∧ a.2.2.1 = false ∧ Tally l.length (q.take k).flatten a.2.2.2) q.length 0 (false, false, false, List.replicate l.length 0) ⟨rfl, rfl, rfl, by simp, fun j hj => by simp⟩ (fun k a _ hk hI => by
      have hk' : k < q.length := by omega
      obtain ⟨a1, a2, a3, a4⟩ := a
      obtain ⟨h1, h2, h3, h4⟩ := hI
      simp only at h1 h2 h3 h4
      subst h1; subst h2; subst h3
      have hr := List.getElem_mem hk'
      have hnum := h.nums hr
      unfold mFleetJudgeRoster_2_L620
      simp only [unc4]
      rw [idx_lt hk', Option.bind_some]
      obtain ⟨b, f, hJ⟩ := forS_inv (body := mFleetJudgeRoster_2_L1027 q[k]) (fun j b => Tally l.length ((q.take k).flatten ++ q[k].take j) b) q[k].length 0 a4 (by simpa using h4) (fun j b _ hj hJ => by
        have hj' : j < q[k].length := by omega
        have hs := nums_get hnum hj'
        have hb : ((q.take k).flatten ++ q[k].take j).length ≤ 1000 := by
          have := tk k
          have := h.len hr
          rw [List.length_append, List.length_take]
          omega
        obtain ⟨c, c1, c2, c3⟩ := hJ.put hs hb
        unfold mFleetJudgeRoster_2_L1027
        rw [idx_lt hj', Option.bind_some, c1, Option.bind_some, c2, Option.bind_some, Option.bind_some]
        refine ⟨_, rfl, ?_⟩
        rw [take_succ_get hj', ← List.append_assoc]
        exact c3)
      have hbr : mFleetDriverBreaks l q[k] x = some (false, false, false) := by
        rcases h.keep _ hr with e | e
        · rw [e]; exact breaks_nil l x
        · exact of_decide_eq_true e
      rw [f, Option.bind_some, hbr]
      refine ⟨_, rfl, rfl, rfl, rfl, ?_⟩
      rw [Nat.zero_add, List.take_length] at hJ
      rw [take_succ_get hk', List.flatten_append]
      simpa using hJ)
    obtain ⟨a1, a2, a3, a4⟩ := a
    obtain ⟨h1, h2, h3, h4, h5⟩ := hI
    simp only at h1 h2 h3 h4 h5
    rw [e, pass4, h1, h2, h3, contains_one (L := a4) (fun y hy => by
      obtain ⟨j, hj, rfl⟩ := List.getElem_of_mem hy
      rw [h5 j hj, Nat.zero_add, List.take_length, h.once.count_eq, (iota_nodup _ _).count, if_pos (iota_mem.2 (by omega))]
      rfl), Option.bind_some]
    rfl
  rw [hj, Option.bind_some]
end
end Go.Proofs.Ytnmhabgnfifkdaa
