/- Plain: what Assign answers; its rows are legal and can be inspected. -/
import Derived.Test.YtajmocgpjkhjlaaAL5
set_option linter.unusedVariables false
set_option linter.unusedSimpArgs false
namespace Go.Proofs.Ytajmocgpjkhjlaa
open Go.RowKit Go.Fp

theorem total_append (A B : List (List Int)) (k : Int) : total (A ++ B) k = total A k + total B k := by
  unfold total
  rw [List.map_append, List.sum_append]
theorem total_one (t : List Int) (k : Int) : total [t] k = t.count k := by
  unfold total
  simp
theorem total_le : ∀ (T : List (List Int)) (k : Int), (∀ t ∈ T, t.length ≤ 8) → total T k ≤ 8 * T.length
  | [], k, _ => by simp [total]
  | t :: T, k, h => by
    have h1 := total_le T k (fun t ht => h t (List.mem_cons_of_mem _ ht))
    have h2 := h t List.mem_cons_self
    have h3 := List.count_le_length (a := k) (l := t)
    have e : total (t :: T) k = t.count k + total T k := by
      rw [show t :: T = [t] ++ T from rfl, total_append, total_one]
    rw [e, List.length_cons]
    omega
theorem index_none {l : List Int} {x : Int} (h : x ∉ l) : mSlicesIndex l x = some (-1) := by
  unfold mSlicesIndex
  rw [forU_ok _ (fun k hk => by
    unfold mSlicesIndex_L39
    rw [idx_lt hk, Option.bind_some, if_neg (fun e => h (by rw [e]; exact List.getElem_mem hk))])]
  rfl
theorem contains_none {l : List Int} {x : Int} (h : x ∉ l) : mSlicesContains l x = some false := by
  unfold mSlicesContains
  rw [index_none h]
  rfl
def ct (c : List Int) (j : Nat) : Int := (c[j]?).getD 0
theorem ct_set {c : List Int} {i j : Nat} {y : Int} (h : i < c.length) : ct (c.set i y) j = if i = j then y else ct c j := by
  unfold ct
  by_cases e : i = j
  · subst e
    rw [List.getElem?_set_self h, if_pos rfl]
    rfl
  · rw [List.getElem?_set_ne e, if_neg e]
theorem ct_idx {c : List Int} {j : Nat} (h : j < c.length) : idx c (j : Int) = some (ct c j) := by
  rw [idx_lt h]
  unfold ct
  rw [List.getElem?_eq_getElem h]
  rfl
section
variable {l : List FleetTask} {x : Int} {S : List FleetSet} {p : FleetShop} {o : List Int}
theorem chain_len {s : FleetSet} {t : List Int} (h : Chain l x s t) : t.length ≤ l.length := nodup_leI _ _ h.nodup h.val
theorem foll_eq (hT : TurnOk l x) {a b y : Int} (ha : Val l a) (hy : 0 ≤ y ∧ y ≤ 28800) : ∃ r, mFleetFollows (tk l a) (tk l b) y = some r ∧ (r = true ↔ Foll l y a b) := follows_eq (hT.tasks _ (tk_mem ha)) hy
theorem legal_row (hT : TurnOk l x) (hn : l.length ≤ 8) {s : FleetSet} {t : List Int} (hc : Chain l x s t) {c0 : List Int} (hcl : c0.length = l.length) (hb : ∀ j, j < l.length → 0 ≤ ct c0 j ∧ ct c0 j ≤ 1000) :
    ∃ c, forM (mFleetLegal_L3530 l x t) t.length 0 c0 = some (.inl c) ∧ c.length = l.length ∧ ∀ j, j < l.length → ct c j = ct c0 j + (t.count (j : Int) : Int) := by
  have htl := chain_len hc
  rcases forM_inv (body := mFleetLegal_L3530 l x t) (fun k c => c.length = l.length ∧ ∀ j, j < l.length → ct c j = ct c0 j + ((t.take k).count (j : Int) : Int)) (fun _ => False) t.length 0 c0 ⟨hcl, fun j hj => by simp⟩ (fun k c _ hk hi => by
    have hk' : k < t.length := by omega
    have hv := hc.val _ (List.getElem_mem hk')
    obtain ⟨j, hj⟩ : ∃ j : Nat, t[k] = (j : Int) := ⟨t[k].toNat, by have := hv.1; omega⟩
    have hjl : j < l.length := by have := hv.2; omega
    refine .inl ?_
    unfold mFleetLegal_L3530
    rw [idx_lt hk', Option.bind_some, chk_ok (by omega) (by omega), Option.bind_some, within_eq, Option.bind_some, decide_eq_true (show 0 ≤ t[k] ∧ t[k] ≤ (l.length : Int) - 1 by omega), if_pos rfl]
    have hcut : cutS t 0 (k : Int) = some (t.take k) := by
      have := cutS_ok (l := t) (a := 0) (b := k) (by omega) (by omega)
      simpa using this
    have hnot : t[k] ∉ t.take k := fun hm => by
      obtain ⟨q, hq, he⟩ := List.getElem_of_mem hm
      rw [List.length_take] at hq
      rw [List.getElem_take] at he
      exact (List.pairwise_iff_getElem.1 hc.nodup) q k (by omega) hk' (by omega) he
    rw [hcut, Option.bind_some, contains_none hnot, Option.bind_some, if_neg (by decide)]
    have hf : (if 0 < (k : Int) then (chk ((k : Int) - 1)).bind fun _ => (idx t ((k : Int) - 1)).bind fun x4108 => (idx l x4108).bind fun x4118 => (idx l t[k]).bind fun x4128 => (mFleetFollows x4118 x4128 x).bind fun x4138 => some (!x4138) else some false) = some false := by
      by_cases h0 : 0 < k
      · obtain ⟨q, rfl⟩ : ∃ q, k = q + 1 := ⟨k - 1, by omega⟩
        have hq : q < t.length := by omega
        have e0 : ((q + 1 : Nat) : Int) - 1 = (q : Int) := by omega
        obtain ⟨r, r1, r2⟩ := foll_eq hT (b := t[q + 1]) (hc.val _ (List.getElem_mem hq)) hT.turn
        have hr : r = true := r2.2 (hc.foll q _ _ (List.getElem?_eq_getElem hq) (List.getElem?_eq_getElem hk'))
        rw [if_pos (by omega), e0, chk_ok (by omega) (by omega), Option.bind_some, idx_lt hq, Option.bind_some, idx_tk (hc.val _ (List.getElem_mem hq)), Option.bind_some, idx_tk hv, Option.bind_some, r1, Option.bind_some, hr]
        rfl
      · rw [if_neg (by omega)]
    rw [hf, Option.bind_some, if_neg (by decide), hj, ct_idx (by omega), Option.bind_some]
    have h1 := hi.2 j hjl
    have h2 := hb j hjl
    have h3 := List.count_le_length (a := (j : Int)) (l := t.take k)
    rw [List.length_take] at h3
    rw [chk_ok (by omega) (by omega), Option.bind_some, Option.bind_some, put_nat]
    refine ⟨_, rfl, by rw [List.length_set]; exact hi.1, fun i hil => ?_⟩
    rw [ct_set (by omega), List.take_succ_eq_append_getElem hk', List.count_append, hj]
    by_cases e : j = i
    · subst e
      rw [if_pos rfl, h1]
      simp
      omega
    · rw [if_neg e, hi.2 i hil, List.count_cons, List.count_nil]
      have : ¬ ((j : Int) == (i : Int)) = true := by simp; omega
      rw [if_neg this]
      simp) with ⟨c, h1, h2, h3⟩ | ⟨_, _, hf⟩
  · refine ⟨c, h1, h2, fun j hj => ?_⟩
    rw [h3 j hj, Nat.zero_add, List.take_length]
  · exact hf.elim
theorem sets_at {U : List (List Int)} (hl : U.length = S.length) {k : Nat} (hk : k < U.length) : ∃ s, S[k]? = some s := ⟨S[k]'(by omega), List.getElem?_eq_getElem _⟩
theorem legal_ok (hT : TurnOk l x) (hn : l.length ≤ 8) (h7 : S.length ≤ 7) (hp : o.Perm (iota l.length)) {U : List (List Int)} (hD : Done_ l x S o U) : mFleetLegal l x U = some 0 := by
  obtain ⟨c, c1, c2⟩ := turn_spec l x
  have hl := hD.len
  have hch : ∀ k (hk : k < U.length), ∃ s, Chain l x s U[k] := fun k hk => by
    obtain ⟨s, hs⟩ := sets_at hl hk
    exact ⟨s, hD.chain k s _ hs (List.getElem?_eq_getElem hk)⟩
  have h8 : ∀ t ∈ U, t.length ≤ 8 := fun t ht => by
    obtain ⟨k, hk, rfl⟩ := List.getElem_of_mem ht
    obtain ⟨s, hs⟩ := hch k hk
    have := chain_len hs
    omega
  unfold mFleetLegal
  rw [c1, Option.bind_some, if_neg (by simpa using c2.2 hT), mkLen_ok (by omega) (by omega), Option.bind_some]
  rcases forM_inv (body := mFleetLegal_L2187 l U x) (fun k c => c.length = l.length ∧ ∀ j, j < l.length → ct c j = (total (U.take k) (j : Int) : Int)) (fun _ => False) U.length 0 (List.replicate l.length 0) ⟨List.length_replicate, fun j hj => by
      unfold ct
      rw [List.getElem?_replicate, if_pos hj]
      simp [total]⟩ (fun k c _ hk hi => by
    have hk' : k < U.length := by omega
    obtain ⟨s, hs⟩ := hch k hk'
    obtain ⟨c', e1, e2, e3⟩ := legal_row hT hn hs hi.1 (fun j hj => by
      rw [hi.2 j hj]
      have := total_le (U.take k) (j : Int) (fun t ht => h8 t (List.mem_of_mem_take ht))
      rw [List.length_take] at this
      omega)
    refine .inl ⟨c', ?_, e2, fun j hj => ?_⟩
    · unfold mFleetLegal_L2187
      rw [idx_lt hk', Option.bind_some, e1]
      rfl
    · rw [e3 j hj, hi.2 j hj, List.take_succ_eq_append_getElem hk', total_append, total_one]
      omega) with ⟨c', h1, h2, h3⟩ | ⟨_, _, hf⟩
  · rw [h1, Option.bind_some, Sum.elim_inl, forU_ok _ (fun k hk => by
      have hd := hD.cnt (k : Int) (hp.mem_iff.2 (List.mem_map.2 ⟨k, List.mem_range.2 hk, rfl⟩))
      have hk3 := h3 k hk
      rw [Nat.zero_add, List.take_length] at hk3
      have ek : tk l (k : Int) = l[k] := by
        have := idx_tk (l := l) (i := (k : Int)) ⟨by omega, by omega⟩
        rw [idx_lt hk] at this
        injection this with this
        exact this.symm
      rw [ek] at hd
      unfold mFleetLegal_L4180
      rw [idx_lt hk, Option.bind_some, ct_idx (by omega), Option.bind_some, if_neg (by omega), Option.bind_some, if_neg (by omega)])]
    rfl
  · exact hf.elim
theorem inspect_ok (hT : TurnOk l x) (hS : ∀ s ∈ S, OkSet p.Limit s) (hp : OkShop p) (hn : l.length ≤ 8) (h7 : S.length ≤ 7) {U : List (List Int)} (hD : Done_ l x S o U) (hpos : ∀ y ∈ S.zip U, mFleetPositions l y.2 y.1 p = some (true, posOf l p y)) : mFleetInspect l U S p = some (0, outs l p S U) := by
  obtain ⟨c, c1, c2⟩ := tasks_spec l
  obtain ⟨d, d1, d2⟩ := sets_spec S p 40
  have hl := hD.len
  unfold mFleetInspect
  rw [c1, Option.bind_some, if_neg (by simpa using c2.2 ⟨by omega, hT.tasks⟩), show mFleetCheckSets S p 40 = some d from d1, Option.bind_some, if_neg (by simpa using d2.2 ⟨by omega, hS, hp⟩), if_neg (by omega)]
  rw [forU_ok (body := mFleetInspect_L1819 l U S) U.length (fun k hk => by
    obtain ⟨s, hs⟩ := sets_at hl hk
    have hc := hD.chain k s _ hs (List.getElem?_eq_getElem hk)
    have hcl := chain_len hc
    unfold mFleetInspect_L1819
    rw [idx_lt hk, Option.bind_some, forU_ok (body := mFleetInspect_L2620 l S k U[k]) (U[k]).length (fun j hj => by
      have hv := hc.val _ (List.getElem_mem hj)
      unfold mFleetInspect_L2620
      have hv2 := hv.2
      have hv1 := hv.1
      rw [idx_lt hj, Option.bind_some, chk_ok (by omega) (by omega), Option.bind_some, within_eq, Option.bind_some, decide_eq_true (show 0 ≤ (U[k])[j] ∧ (U[k])[j] ≤ (l.length : Int) - 1 by omega), if_pos rfl]
      by_cases h0 : j = 0
      · subst h0
        have hh := hc.home _ (List.getElem?_eq_getElem hj)
        rw [if_pos (by omega), idx_tk hv, Option.bind_some, idx_nat hs, Option.bind_some, if_neg (fun h => h hh), if_neg (by omega), Option.bind_some, if_neg (by decide)]
      · obtain ⟨q, rfl⟩ : ∃ q, j = q + 1 := ⟨j - 1, by omega⟩
        have hq : q < (U[k]).length := by omega
        have e0 : ((q + 1 : Nat) : Int) - 1 = (q : Int) := by omega
        have hvq := hc.val _ (List.getElem_mem hq)
        obtain ⟨r, r1, r2⟩ := foll_eq hT (b := (U[k])[q + 1]) (y := 0) hvq (by omega)
        have hfo := hc.foll q _ _ (List.getElem?_eq_getElem hq) (List.getElem?_eq_getElem hj)
        have hr : r = true := r2.2 ⟨hfo.1, by have := hfo.2; have := hT.turn; omega⟩
        rw [if_neg (by omega), if_pos (by omega), e0, chk_ok (by omega) (by omega), Option.bind_some, idx_lt hq, Option.bind_some, idx_tk hvq, Option.bind_some, idx_tk hv, Option.bind_some, r1, Option.bind_some, hr]
        rfl)]
    rfl), Option.bind_some, Sum.elim_inl]
  have hz : (S.zip U).length = U.length := by rw [List.length_zip]; omega
  rcases forM_inv (body := mFleetInspect_L3392 l U S p) (fun k r => r = ((S.zip U).take k).map (posOf l p)) (fun _ => False) U.length 0 [] rfl (fun k r _ hk hi => by
    have hk' : k < U.length := by omega
    have hks : k < S.length := by omega
    have hpk := hpos _ (List.getElem_mem (show k < (S.zip U).length by omega))
    rw [List.getElem_zip] at hpk
    simp only at hpk
    have hrl : r.length = k := by rw [hi, List.length_map, List.length_take]; omega
    refine .inl ⟨_, ?_, rfl⟩
    unfold mFleetInspect_L3392
    rw [idx_lt hk', Option.bind_some, idx_lt hks, Option.bind_some, hpk, pass2, if_pos rfl, room_ok (by omega) (by omega), Option.bind_some]
    rw [List.take_succ_eq_append_getElem (show k < (S.zip U).length by omega), List.map_append, ← hi, List.getElem_zip]
    rfl) with ⟨r, h1, h2⟩ | ⟨_, _, hf⟩
  · rw [h1, h2, Nat.zero_add, ← hz, List.take_length]
    rfl
  · exact hf.elim
theorem equal_self (l : List Int) (h : l.length ≤ 1000) : mSlicesEqual l l = some true := by
  unfold mSlicesEqual
  rw [if_neg (by omega), forU_ok (body := mSlicesEqual_L104 l l) l.length (fun k hk => by
    unfold mSlicesEqual_L104
    rw [idx_lt hk, Option.bind_some, Option.bind_some, if_neg (by simp)])]
  rfl
theorem equalFunc_self (L : List (List Int)) (h : ∀ t ∈ L, t.length ≤ 1000) : mSlicesEqualFunc L L = some true := by
  unfold mSlicesEqualFunc
  rw [if_neg (by omega), forU_ok (body := mSlicesEqualFunc_L80 L L) L.length (fun k hk => by
    unfold mSlicesEqualFunc_L80
    rw [idx_lt hk, Option.bind_some, Option.bind_some, equal_self _ (h _ (List.getElem_mem hk)), Option.bind_some, if_pos rfl])]
  rfl
end
end Go.Proofs.Ytajmocgpjkhjlaa
