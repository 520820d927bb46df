/- Plain: FleetEmpties answers true at every input. -/
import Derived.Test.YtajmocgpjkhjlaaEL5
set_option linter.unusedVariables false
set_option linter.unusedSimpArgs false
namespace Go.Proofs.Ytajmocgpjkhjlaa
open Go.RowKit Go.Fp

theorem awake_true : mFishkeep2AwakeFleet = some true := by kernel_rfl
def twoT : List FleetTask := [⟨0, 1, 10, 20, 0, 1⟩, ⟨1, 0, 25, 29, 0, 1⟩]
theorem ins_two : mSlicesInsertionSortCmpFunc 0 2 twoT [0, 1] = some [0, 1] := by
  have i1 : loopM (mSlicesInsertionSortCmpFunc_L10142 0 twoT) (1, [0, 1]) = some [0, 1] := loopM_last (by kernel_rfl)
  have s1 : mSlicesInsertionSortCmpFunc_L5538 0 2 twoT (1, [0, 1]) = some (.inl (2, [0, 1])) := by
    unfold mSlicesInsertionSortCmpFunc_L5538
    simp only [unc2]
    rw [if_pos (by decide), i1]
    kernel_rfl
  have s2 : mSlicesInsertionSortCmpFunc_L5538 0 2 twoT (2, [0, 1]) = some (.inr [0, 1]) := by kernel_rfl
  unfold mSlicesInsertionSortCmpFunc
  show loopM (mSlicesInsertionSortCmpFunc_L5538 0 2 twoT) (1, [0, 1]) = _
  rw [loopM_next s1, loopM_last s2]
theorem sort_two : mSlicesSortStableFunc twoT [0, 1] = some [0, 1] := by
  unfold mSlicesSortStableFunc mSlicesStableCmpFunc
  show ((loopM (mSlicesStableCmpFunc_L604 2 twoT) (0, 20, [0, 1])).bind _).bind _ = _
  rw [loopM_last (t := (0, [0, 1])) (by kernel_rfl), Option.bind_some]
  show ((mSlicesInsertionSortCmpFunc 0 2 twoT [0, 1]).bind _).bind _ = _
  rw [ins_two, Option.bind_some]
  show (loopM (mSlicesStableCmpFunc_L655 2 twoT) (20, [0, 1])).bind _ = _
  rw [loopM_last (t := [0, 1]) (by kernel_rfl)]
  rfl
theorem order_two : mFleetOrder twoT = some [0, 1] := by
  unfold mFleetOrder
  show (mSlicesSortStableFunc twoT [0, 1]).bind _ = _
  rw [sort_two]
  rfl
theorem turns_two : mFleetTurns twoT 0 = some (0, [[0, 1]]) := by
  unfold mFleetTurns
  rw [show mFleetCheckTurn twoT 0 = some 0 by kernel_rfl, Option.bind_some, if_neg (by decide), order_two, Option.bind_some]
  kernel_rfl
theorem sets_true : mFishkeep2Sets = some true := by
  unfold mFishkeep2Sets
  show (mFleetTurns twoT 0).bind _ = _
  rw [turns_two]
  kernel_rfl
def unit (t : FleetTask) : FleetTask := ⟨t.From, t.To, t.Dep, t.Arr, t.Km, 1⟩
theorem units_eq (l : List FleetTask) (hn : l.length ≤ 1000) : forS (mFishkeep2FleetEmpties_L272 l) l.length 0 ([] : List FleetTask) = some (l.map unit) := by
  obtain ⟨u, h1, h2⟩ := forS_inv (body := mFishkeep2FleetEmpties_L272 l) (fun k u => u = (l.take k).map unit) l.length 0 [] (by simp) (fun k u _ hk hi => by
    have hk' : k < l.length := by omega
    have hl : u.length = k := by rw [hi, List.length_map, List.length_take]; omega
    unfold mFishkeep2FleetEmpties_L272
    rw [idx_lt hk', Option.bind_some, room_ok (by omega) (by omega), Option.bind_some]
    refine ⟨_, rfl, ?_⟩
    rw [List.take_succ_eq_append_getElem hk', List.map_append, hi]
    rfl)
  rw [h1, h2, Nat.zero_add, List.take_length]
def Z : List (List Int) := List.replicate 12 (List.replicate 12 0)
theorem zeros_eq : forS mFishkeep2FleetEmpties_L371 12 0 (List.replicate 12 ([] : List Int)) = some Z := by
  obtain ⟨u, h1, h2, h3⟩ := forS_inv (body := mFishkeep2FleetEmpties_L371) (fun k (u : List (List Int)) => u.length = 12 ∧ ∀ j, j < k → u[j]? = some (List.replicate 12 0)) 12 0 (List.replicate 12 ([] : List Int)) ⟨List.length_replicate, fun j hj => absurd hj (by omega)⟩ (fun k u _ hk hi => by
    unfold mFishkeep2FleetEmpties_L371
    rw [show mkLen 8 12 = some 12 from mkLen_ok (m := 12) (by omega) (by omega), Option.bind_some, idx_lt (show k < u.length by omega), Option.bind_some]
    refine ⟨_, rfl, by rw [put_length]; exact hi.1, fun j hj => ?_⟩
    rw [put_nat]
    by_cases e : k = j
    · subst e
      rw [List.getElem?_set_self (by omega)]
    · rw [List.getElem?_set_ne e]
      exact hi.2 j (by omega))
  have hu : u = Z := by
    apply List.ext_getElem?
    intro j
    unfold Z
    rw [List.getElem?_replicate]
    by_cases hj : j < 12
    · rw [h3 j (by omega), if_pos hj]
    · rw [List.getElem?_eq_none (by omega), if_neg hj]
  rw [h1, hu]
theorem Z_at {i j : Nat} (hi : i < 12) (hj : j < 12) : tb Z i j = 0 := by
  unfold tb Z
  rw [List.getElem?_replicate, if_pos hi]
  unfold at_
  rw [Option.getD_some, List.getElem?_replicate, if_pos hj]
  rfl
theorem Z_ok : SecOk Z := by
  refine ⟨⟨List.length_replicate, fun i hi => ?_⟩, fun i j hi hj => ?_, fun i hi => Z_at hi hi, fun a b c ha hb hc => ?_⟩
  · have hm : Z[i] ∈ Z := List.getElem_mem hi
    have := (List.mem_replicate.1 hm).2
    rw [this, List.length_replicate]
  · rw [Z_at hi hj]; decide
  · rw [Z_at ha hc, Z_at ha hb, Z_at hb hc]; decide
theorem unit_ok {t : FleetTask} (h : OkTask t) : OkTask (unit t) := by
  unfold OkTask unit at *
  simp only
  omega
theorem empty_units {l : List FleetTask} {x : Int} {T : List (List Int)} (h : EmptyOk l x T) : EmptyOk (l.map unit) x T := by
  refine ⟨⟨by rw [List.length_map]; exact h.turn.n40, fun t ht => ?_, h.turn.turn⟩, by rw [List.length_map]; exact h.n20, h.sec, fun t ht => ?_⟩
  · obtain ⟨s, hs, rfl⟩ := List.mem_map.1 ht
    exact unit_ok (h.turn.tasks s hs)
  · obtain ⟨s, hs, rfl⟩ := List.mem_map.1 ht
    exact h.run s hs
theorem empty_zero {l : List FleetTask} {x : Int} {T : List (List Int)} (h : EmptyOk l x T) : EmptyOk l x Z := by
  refine ⟨h.turn, h.n20, Z_ok, fun t ht => ?_⟩
  have ho := h.turn.tasks t ht
  unfold RunOk
  unfold OkTask at ho
  rw [Z_at (by omega) (by omega)]
  omega
theorem emptiesPlain (l : List FleetTask) (x : Int) (T : List (List Int)) : mFishkeep2FleetEmpties l x T = some true := by
  unfold mFishkeep2FleetEmpties
  rw [awake_true, Option.bind_some, if_pos rfl, sets_true, Option.bind_some, if_pos rfl]
  obtain ⟨c, c1, c2⟩ := empty_spec l x T
  rw [c1, Option.bind_some]
  by_cases hc : c = 0
  · have h0 := c2 hc
    have h := empty_units h0
    have hz := empty_zero h
    have hU : ∀ t ∈ l.map unit, t.Units = 1 := fun t ht => by
      obtain ⟨s, _, rfl⟩ := List.mem_map.1 ht
      rfl
    rw [if_neg (by simpa using hc), units_eq l (by have := h0.n20; omega), Option.bind_some]
    obtain ⟨o1, P1, a1, a2, a3, a4⟩ := covers_spec h
    obtain ⟨T2, Q2, b1, b2, b3⟩ := turns_spec h.turn h.n20 hU
    obtain ⟨o3, P3, d1, d2, d3, d4⟩ := covers_spec hz
    rw [a1, pass2, b1, pass2, show mkLen 24 12 = some 12 from mkLen_ok (m := 12) (by omega) (by omega), Option.bind_some, List.length_replicate, zeros_eq, Option.bind_some, d1, pass2, if_pos rfl, if_pos rfl, if_pos rfl]
    have ok : ∀ i, i < (l.map unit).length → OkTask (tk (l.map unit) i) := fun i hi => h.turn.tasks _ (tk_mem hi)
    have e1 := a4 Q2 ⟨fun b hb => by
      rcases b2.edge b hb with q | ⟨q1, q2, q3, q4⟩
      · exact .inl q
      · have o1 := ok b hb
        have o2 := ok (Q2 b).toNat (by omega)
        unfold OkTask at o1 o2
        refine .inr ⟨q1, q2, ?_⟩
        unfold Can
        rw [q3, h.sec.diag _ (by omega)]
        omega, b2.inj⟩
    have e2 := d4 P1 ⟨fun b hb => by
      rcases a3.edge b hb with q | ⟨q1, q2, q3⟩
      · exact .inl q
      · have o1 := ok b hb
        have o2 := ok (P1 b).toNat (by omega)
        unfold OkTask at o1 o2
        refine .inr ⟨q1, q2, ?_⟩
        unfold Can at q3 ⊢
        rw [Z_at (by omega) (by omega)]
        have := h.sec.val (tk (l.map unit) (P1 b).toNat).To.toNat (tk (l.map unit) b).From.toNat (by omega) (by omega)
        omega, a3.inj⟩
    rw [if_pos (by omega), decide_eq_true (by omega)]
    rfl
  · rw [if_pos hc]
end Go.Proofs.Ytajmocgpjkhjlaa
