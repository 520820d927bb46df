/- Plain: the turns are legal. -/
import Derived.Test.YtajmocgpjkhjlaaNL3
set_option linter.unusedVariables false
set_option linter.unusedSimpArgs false
namespace Go.Proofs.Ytajmocgpjkhjlaa
open Go.RowKit Go.Fp

theorem nodup_leI : ∀ (n : Nat) (q : List Int), q.Nodup → (∀ y ∈ q, 0 ≤ y ∧ y < (n : Int)) → q.length ≤ n
  | 0, q, _, h => by
    cases q with
    | nil => exact Nat.le_refl _
    | cons a q => exact absurd (h a (by simp)) (by omega)
  | n + 1, q, hq, h => by
    by_cases hm : (n : Int) ∈ q
    · have h1 := nodup_leI n (q.erase (n : Int)) (hq.erase _) (fun v hv => by
        have h2 := (List.Nodup.mem_erase_iff hq).1 hv
        have h3 := h v h2.2
        have h4 := h2.1
        omega)
      rw [List.length_erase_of_mem hm] at h1
      omega
    · have := nodup_leI n q hq (fun v hv => by
        have h3 := h v hv
        have : v ≠ (n : Int) := fun e => hm (e ▸ hv)
        omega)
      omega
theorem count_ls (k : Int) : ∀ E : List Int, (E.count k : Int) = ls (fun y => if y = k then 1 else 0) E
  | [] => rfl
  | y :: E => by
    have ih := count_ls k E
    rw [ls_cons, ← ih, List.count_cons]
    by_cases e : y = k
    · rw [if_pos (by simpa using e), if_pos e]
      omega
    · rw [if_neg (by simpa using e), if_neg e]
      omega
theorem sumN_single {c : Int} {q : Nat} : ∀ n, sumN n (fun i => if i = q then c else 0) = if q < n then c else 0
  | 0 => by rw [if_neg (by omega)]; rfl
  | n + 1 => by
    rw [sumN_succ, sumN_single n]
    by_cases e : n = q
    · subst e
      rw [if_neg (by omega), if_pos rfl, if_pos (by omega)]
      omega
    · rw [if_neg e]
      by_cases h : q < n
      · rw [if_pos h, if_pos (by omega)]; omega
      · rw [if_neg h, if_neg (by omega)]; omega
theorem total_le : ∀ (T : List (List Int)) (k : Int), (∀ t ∈ T, t.length ≤ 40) → total T k ≤ 40 * T.length
  | [], k, _ => by simp [total]
  | t :: T, k, h => by
    have h1 := total_le T k (fun t ht => h t (List.mem_cons_of_mem _ ht))
    have h2 := h t List.mem_cons_self
    have h3 := List.count_le_length (a := k) (l := t)
    have e : total (t :: T) k = t.count k + total T k := by
      rw [show t :: T = [t] ++ T from rfl, total_append, total_one]
    rw [e, List.length_cons]
    omega
theorem index_none {l : List Int} {x : Int} (h : x ∉ l) : mSlicesIndex l x = some (-1) := by
  unfold mSlicesIndex
  rw [forU_ok _ (fun k hk => by
    unfold mSlicesIndex_L39
    rw [idx_lt hk, Option.bind_some, if_neg (fun e => h (by rw [e]; exact List.getElem_mem hk))])]
  rfl
theorem contains_none {l : List Int} {x : Int} (h : x ∉ l) : mSlicesContains l x = some false := by
  unfold mSlicesContains
  rw [index_none h]
  rfl
def ct (c : List Int) (j : Nat) : Int := (c[j]?).getD 0
theorem ct_set {c : List Int} {i j : Nat} {y : Int} (h : i < c.length) : ct (c.set i y) j = if i = j then y else ct c j := by
  unfold ct
  by_cases e : i = j
  · subst e
    rw [List.getElem?_set_self h, if_pos rfl]
    rfl
  · rw [List.getElem?_set_ne e, if_neg e]
theorem ct_idx {c : List Int} {j : Nat} (h : j < c.length) : idx c (j : Int) = some (ct c j) := by
  rw [idx_lt h]
  unfold ct
  rw [List.getElem?_eq_getElem h]
  rfl
section
variable {l : List FleetTask} {x : Int}
theorem chain_nodup {t : List Int} (h : ChainR l x t) : t.Nodup := h.inc.imp (fun {a b} hab e => by subst e; omega)
theorem chain_len {t : List Int} (h : ChainR l x t) (hv : ∀ y ∈ t, Val l y) : t.length ≤ l.length := nodup_leI _ _ (chain_nodup h) hv
theorem foll_eq (hT : TurnOk l x) {a b y : Int} (ha : Val l a) (hy : 0 ≤ y ∧ y ≤ 28800) : ∃ r, mFleetFollows (tk l a) (tk l b) y = some r ∧ (r = true ↔ Foll l y a b) := follows_eq (hT.tasks _ (tk_mem ha)) hy
theorem legal_row (hT : TurnOk l x) {t : List Int} (hc : ChainR l x t) (hval : ∀ y ∈ t, Val l y) {c0 : List Int} (hcl : c0.length = l.length) (hb : ∀ j, j < l.length → 0 ≤ ct c0 j ∧ ct c0 j ≤ 10000) :
    ∃ c, forM (mFleetLegal_L3530 l x t) t.length 0 c0 = some (.inl c) ∧ c.length = l.length ∧ ∀ j, j < l.length → ct c j = ct c0 j + (t.count (j : Int) : Int) := by
  have htl := chain_len hc hval
  have hn := hT.n40
  rcases forM_inv (body := mFleetLegal_L3530 l x t) (fun k c => c.length = l.length ∧ ∀ j, j < l.length → ct c j = ct c0 j + ((t.take k).count (j : Int) : Int)) (fun _ => False) t.length 0 c0 ⟨hcl, fun j hj => by simp⟩ (fun k c _ hk hi => by
    have hk' : k < t.length := by omega
    have hv := hval _ (List.getElem_mem hk')
    obtain ⟨j, hj⟩ : ∃ j : Nat, t[k] = (j : Int) := ⟨t[k].toNat, by have := hv.1; omega⟩
    have hjl : j < l.length := by have := hv.2; omega
    refine .inl ?_
    unfold mFleetLegal_L3530
    rw [idx_lt hk', Option.bind_some, chk_ok (by omega) (by omega), Option.bind_some, within_eq, Option.bind_some, decide_eq_true (show 0 ≤ t[k] ∧ t[k] ≤ (l.length : Int) - 1 by omega), if_pos rfl]
    have hcut : cutS t 0 (k : Int) = some (t.take k) := by
      have := cutS_ok (l := t) (a := 0) (b := k) (by omega) (by omega)
      simpa using this
    have hnot : t[k] ∉ t.take k := fun hm => by
      obtain ⟨q, hq, he⟩ := List.getElem_of_mem hm
      rw [List.length_take] at hq
      rw [List.getElem_take] at he
      exact (List.pairwise_iff_getElem.1 (chain_nodup hc)) q k (by omega) hk' (by omega) he
    rw [hcut, Option.bind_some, contains_none hnot, Option.bind_some, if_neg (by decide)]
    have hf : (if 0 < (k : Int) then (chk ((k : Int) - 1)).bind fun _ => (idx t ((k : Int) - 1)).bind fun x4108 => (idx l x4108).bind fun x4118 => (idx l t[k]).bind fun x4128 => (mFleetFollows x4118 x4128 x).bind fun x4138 => some (!x4138) else some false) = some false := by
      by_cases h0 : 0 < k
      · obtain ⟨q, rfl⟩ : ∃ q, k = q + 1 := ⟨k - 1, by omega⟩
        have hq : q < t.length := by omega
        have e0 : ((q + 1 : Nat) : Int) - 1 = (q : Int) := by omega
        obtain ⟨r, r1, r2⟩ := foll_eq hT (b := t[q + 1]) (hval _ (List.getElem_mem hq)) hT.turn
        have hr : r = true := r2.2 (hc.foll q _ _ (List.getElem?_eq_getElem hq) (List.getElem?_eq_getElem hk'))
        rw [if_pos (by omega), e0, chk_ok (by omega) (by omega), Option.bind_some, idx_lt hq, Option.bind_some, idx_tk (hval _ (List.getElem_mem hq)), Option.bind_some, idx_tk hv, Option.bind_some, r1, Option.bind_some, hr]
        rfl
      · rw [if_neg (by omega)]
    rw [hf, Option.bind_some, if_neg (by decide), hj, ct_idx (by omega), Option.bind_some]
    have h1 := hi.2 j hjl
    have h2 := hb j hjl
    have h3 := List.count_le_length (a := (j : Int)) (l := t.take k)
    rw [List.length_take] at h3
    rw [chk_ok (by omega) (by omega), Option.bind_some, Option.bind_some, put_nat]
    refine ⟨_, rfl, by rw [List.length_set]; exact hi.1, fun i hil => ?_⟩
    rw [ct_set (by omega), List.take_succ_eq_append_getElem hk', List.count_append, hj]
    by_cases e : j = i
    · subst e
      rw [if_pos rfl, h1]
      simp
      omega
    · rw [if_neg e, hi.2 i hil, List.count_cons, List.count_nil]
      have : ¬ ((j : Int) == (i : Int)) = true := by simp; omega
      rw [if_neg this]
      simp) with ⟨c, h1, h2, h3⟩ | ⟨_, _, hf⟩
  · refine ⟨c, h1, h2, fun j hj => ?_⟩
    rw [h3 j hj, Nat.zero_add, List.take_length]
  · exact hf.elim
theorem legal_ok (hT : TurnOk l x) {o : List Int} (hp : o.Perm (iota l.length)) {U : List (List Int)} {S : Nat → Int} (hI : Inv l x (exl l o) (exl l o) U S) : mFleetLegal l x U = some 0 := by
  obtain ⟨c, c1, c2⟩ := turn_spec l x
  have hn := hT.n40
  have hv : ∀ y ∈ o, Val l y := fun y hy => iota_mem (hp.subset hy)
  have hU : U.length ≤ 160 := by
    have h1 := hI.wf.1
    have h2 := exl_len hT o hv
    have h3 := hp.length_eq
    rw [iota_len] at h3
    omega
  have h8 : ∀ t ∈ U, t.length ≤ 40 := fun t ht => by
    have := chain_len (hI.chain t ht) (hI.wf.2 t ht).2.2
    omega
  unfold mFleetLegal
  rw [c1, Option.bind_some, if_neg (by simpa using c2.2 hT), mkLen_ok (by omega) (by omega), Option.bind_some]
  rcases forM_inv (body := mFleetLegal_L2187 l U x) (fun k c => c.length = l.length ∧ ∀ j, j < l.length → ct c j = (total (U.take k) (j : Int) : Int)) (fun _ => False) U.length 0 (List.replicate l.length 0) ⟨List.length_replicate, fun j hj => by
      unfold ct
      rw [List.getElem?_replicate, if_pos hj]
      simp [total]⟩ (fun k c _ hk hi => by
    have hk' : k < U.length := by omega
    have hm := List.getElem_mem hk'
    obtain ⟨c', e1, e2, e3⟩ := legal_row hT (hI.chain _ hm) (hI.wf.2 _ hm).2.2 hi.1 (fun j hj => by
      rw [hi.2 j hj]
      have := total_le (U.take k) (j : Int) (fun t ht => h8 t (List.mem_of_mem_take ht))
      rw [List.length_take] at this
      omega)
    refine .inl ⟨c', ?_, e2, fun j hj => ?_⟩
    · unfold mFleetLegal_L2187
      rw [idx_lt hk', Option.bind_some, e1]
      rfl
    · rw [e3 j hj, hi.2 j hj, List.take_succ_eq_append_getElem hk', total_append, total_one]
      omega) with ⟨c', h1, h2, h3⟩ | ⟨_, _, hf⟩
  · rw [h1, Option.bind_some, Sum.elim_inl, forU_ok _ (fun k hk => by
      have hk3 := h3 k hk
      rw [Nat.zero_add, List.take_length, hI.tot, count_ls, ls_all hT _ hp, sumN_congr (g := fun i => if i = k then (tk l (k : Int)).Units else 0) (fun i hi => by
        by_cases e : i = k
        · subst e
          rw [if_pos rfl, if_pos rfl, Int.mul_one]
        · rw [if_neg (by omega), if_neg e, Int.mul_zero]), sumN_single, if_pos hk] at hk3
      have ek : tk l (k : Int) = l[k] := by
        have := idx_tk (l := l) (i := (k : Int)) ⟨by omega, by omega⟩
        rw [idx_lt hk] at this
        injection this with this
        exact this.symm
      rw [ek] at hk3
      unfold mFleetLegal_L4180
      rw [idx_lt hk, Option.bind_some, ct_idx (by omega), Option.bind_some, if_neg (by omega), Option.bind_some, if_neg (by omega)])]
    rfl
  · exact hf.elim
end
end Go.Proofs.Ytajmocgpjkhjlaa
