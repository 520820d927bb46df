/- Plain: the law of FleetAssigned. -/
import Derived.Test.YtajmocgpjkhjlaaAL6
set_option linter.unusedVariables false
set_option linter.unusedSimpArgs false
namespace Go.Proofs.Ytajmocgpjkhjlaa
open Go.RowKit Go.Fp

theorem units_loop {l : List FleetTask} (h40 : l.length ≤ 40) (ht : ∀ t ∈ l, OkTask t) : ∃ u, forS (mFleetAssign_L392 l) l.length 0 0 = some u ∧ (l.length : Int) ≤ u := by
  obtain ⟨u, h1, h2, h3⟩ := forS_inv (body := mFleetAssign_L392 l) (fun k u => (k : Int) ≤ u ∧ u ≤ 4 * (k : Int)) l.length 0 0 ⟨by omega, by omega⟩ (fun k u _ hk hi => by
    have hk' : k < l.length := by omega
    have := ht _ (List.getElem_mem hk')
    unfold OkTask at this
    unfold mFleetAssign_L392
    rw [idx_lt hk', Option.bind_some, chk_ok (by omega) (by omega), Option.bind_some]
    exact ⟨_, rfl, by omega, by omega⟩)
  exact ⟨u, h1, by omega⟩
structure AOk (l : List FleetTask) (x : Int) (S : List FleetSet) (p : FleetShop) : Prop where
  turn : TurnOk l x
  s6 : S.length ≤ 6
  sets : ∀ s ∈ S, OkSet p.Limit s
  shop : OkShop p
  units : ∃ u, forS (mFleetAssign_L392 l) l.length 0 0 = some u ∧ u ≤ 8
def Start (S : List FleetSet) : List (List Int) := List.replicate S.length []
theorem best_out {l : List FleetTask} {x : Int} {S : List FleetSet} {p : FleetShop} {o : List Int} (hS : Sit l x S p o) (h0 : l.length = 0 → S.length = 0 → ∃ U c, Reach l x S o 0 0 0 (Start S) U ∧ costs l p S U = some c) (hlen : ∀ U, Reach l x S o 0 0 0 (Start S) U → U.length = S.length) {B : List (List Int)} {z : Bool} {c : Int} (hs : Said (costs l p S) (Reach l x S o 0 0 0 (Start S)) [] true 0 B z c) :
    ((((some (B, z, c, Start S)).bind (unc4 fun l520 z521 _ _ => (if z521 = true then (if 0 < (l.length : Int) then some true else some (decide (0 < (S.length : Int)))) else some false).bind fun x538 => if x538 = true then some ([], true, 9, []) else (forS (mFleetAssign_L543 l S p l520) l520.length 0 ([] : List (List Int))).bind fun l681 => some (l520, z521, 0, l681)) : Option (List (List Int) × Bool × Int × List (List Int))) = some ([], true, 9, []) ∧ ∀ U c, Reach l x S o 0 0 0 (Start S) U → costs l p S U ≠ some c) ∨
    ∃ X c, ((some (B, z, c, Start S)).bind (unc4 fun l520 z521 _ _ => (if z521 = true then (if 0 < (l.length : Int) then some true else some (decide (0 < (S.length : Int)))) else some false).bind fun x538 => if x538 = true then some ([], true, 9, []) else (forS (mFleetAssign_L543 l S p l520) l520.length 0 ([] : List (List Int))).bind fun l681 => some (l520, z521, 0, l681)) : Option (List (List Int) × Bool × Int × List (List Int))) = some (X, false, 0, outs l p S X) ∧ Reach l x S o 0 0 0 (Start S) X ∧ costs l p S X = some c ∧ ∀ U c', Reach l x S o 0 0 0 (Start S) U → costs l p S U = some c' → c ≤ c') := by
  rw [pass4]
  rcases hs.src with ⟨rfl, rfl, rfl⟩ | ⟨U, u1, u2, rfl, rfl⟩
  · refine .inl ⟨?_, fun U c hU hc => ?_⟩
    · rw [if_pos rfl]
      by_cases hl : 0 < l.length
      · rw [if_pos (by omega)]
        rfl
      · rw [if_neg (by omega)]
        by_cases hl2 : 0 < S.length
        · rw [decide_eq_true (by omega)]
          rfl
        · obtain ⟨U, c, h1, h2⟩ := h0 (by omega) (by omega)
          have := (hs.low U c h1 h2).1
          cases this
    · have := (hs.low U c hU hc).1
      cases this
  · refine .inr ⟨B, c, ?_, u1, u2, fun U c' h1 h2 => (hs.low U c' h1 h2).2⟩
    rw [pass4, if_neg (show ¬ (false = true) by decide), Option.bind_some, if_neg (show ¬ (false = true) by decide), assign_out (hlen B u1) (by have := hS.s7; omega) (costs_ok u2).1]
    rfl
theorem start_good {l : List FleetTask} {x : Int} {S : List FleetSet} {o : List Int} (ho : o.Nodup) (hv : ∀ y ∈ o, Val l y) {U : List (List Int)} (h : Reach l x S o 0 0 0 (Start S) U) : Done_ l x S o U := reach_good ho hv h (good_start S (.inr trivial))
theorem order_of {l : List FleetTask} (hn : l.length ≤ 20) {o : List Int} (h : o.Perm (iota l.length)) : o.Nodup ∧ ∀ y ∈ o, Val l y := by
  refine ⟨h.nodup_iff.2 ?_, fun y hy => iota_mem (h.mem_iff.1 hy)⟩
  exact (iota_lt l.length).imp (fun h => by omega)
theorem aok_small {l : List FleetTask} {x : Int} {S : List FleetSet} {p : FleetShop} (h : AOk l x S p) : l.length ≤ 8 := by
  obtain ⟨u, h1, h2⟩ := h.units
  obtain ⟨v, h3, h4⟩ := units_loop h.turn.n40 h.turn.tasks
  rw [h1] at h3
  injection h3 with h3
  omega
theorem assign_ok {l : List FleetTask} {x : Int} {S : List FleetSet} {p : FleetShop} (h : AOk l x S p) {o : List Int} (ho : mFleetOrder l = some o) (hp : o.Perm (iota l.length)) :
    (mFleetAssign l x S p = some ([], true, 9, []) ∧ ∀ U c, Reach l x S o 0 0 0 (Start S) U → costs l p S U ≠ some c) ∨
    ∃ X c, mFleetAssign l x S p = some (X, false, 0, outs l p S X) ∧ Reach l x S o 0 0 0 (Start S) X ∧ costs l p S X = some c ∧ ∀ U c', Reach l x S o 0 0 0 (Start S) U → costs l p S U = some c' → c ≤ c' := by
  have h8 := aok_small h
  have h6 := h.s6
  obtain ⟨o1, o2⟩ := order_of (by omega) hp
  have hol : o.length = l.length := by rw [hp.length_eq, iota_len]
  have hS : Sit l x S p o := ⟨h.turn, h8, by omega, h.sets, h.shop, o2, hol⟩
  have hA : At l S o 0 0 0 0 (Start S) := by
    refine ⟨⟨List.length_replicate, fun t ht y hy => ?_, fun t ht => ?_⟩, by omega, by omega, fun hi => ?_, by omega, by unfold mu; omega⟩
    · have := (List.mem_replicate.1 ht).2
      rw [this] at hy
      cases hy
    · rw [(List.mem_replicate.1 ht).2]
      simp
    · have := h.turn.tasks _ (tk_mem (o2 _ (List.getElem_mem hi)))
      unfold OkTask at this
      omega
  obtain ⟨c, c1, c2⟩ := turn_spec l x
  obtain ⟨d, d1, d2⟩ := sets_spec S p 6
  obtain ⟨u, u1, u2⟩ := h.units
  unfold mFleetAssign
  rw [c1, Option.bind_some, if_neg (by simpa using c2.2 h.turn), show mFleetCheckSets S p 6 = some d from d1, Option.bind_some, if_neg (by simpa using d2.2 ⟨h6, h.sets, h.shop⟩), u1, Option.bind_some, if_neg (by omega), ho, Option.bind_some, mkLen_ok (by omega) (by omega), Option.bind_some, pass3]
  obtain ⟨r, r1, B, z, least, r2, r3⟩ := lim_ok (f := fun N => give l x S p o N 0 0 0 [] true 0 (Start S)) (P := fun r => ∃ B z least, r = (B, z, least, Start S) ∧ Said (costs l p S) (Reach l x S o 0 0 0 (Start S)) [] true 0 B z least) (by
      rcases give_says hS (mu o 0 0 + 1) 0 0 0 0 [] true 0 (Start S) hA with ⟨_, h2⟩ | ⟨B, z, least, h1, _⟩
      · exact absurd h2 (by omega)
      · exact ⟨_, _, h1⟩) (fun N r hr => by
      rcases give_says hS N 0 0 0 0 [] true 0 (Start S) hA with ⟨h1, _⟩ | ⟨B, z, least, h1, h2⟩
      · rw [show give l x S p o N 0 0 0 [] true 0 (Start S) = some r from hr] at h1
        cases h1
      · rw [show give l x S p o N 0 0 0 [] true 0 (Start S) = some r from hr] at h1
        injection h1 with h1
        exact ⟨B, z, least, h1, h2⟩)
  rw [show lim (fun N => mFleetGiverGive N 0 0 0 l x S p.Place p.Long p.Limit [] true 0 o (List.replicate S.length []) false) = some r from r1, r2]
  refine best_out hS (fun e1 e2 => ?_) (fun U hU => (start_good o1 o2 hU).len) r3
  have e3 : o.length = 0 := by omega
  have e4 : S = [] := List.length_eq_zero_iff.1 e2
  subst e4
  have e5 : o = [] := List.length_eq_zero_iff.1 e3
  subst e5
  exact ⟨[], 0, .fin, rfl⟩
theorem assign_err {l : List FleetTask} {x : Int} {S : List FleetSet} {p : FleetShop} (h : ¬ AOk l x S p) : ∃ e, e ≠ 0 ∧ mFleetAssign l x S p = some ([], true, e, []) := by
  obtain ⟨c, c1, c2⟩ := turn_spec l x
  obtain ⟨d, d1, d2⟩ := sets_spec S p 6
  unfold mFleetAssign
  rw [c1, Option.bind_some]
  by_cases hc : c = 0
  · have hT := c2.1 hc
    rw [if_neg (by simpa using hc), show mFleetCheckSets S p 6 = some d from d1, Option.bind_some]
    by_cases hd : d = 0
    · obtain ⟨g1, g2, g3⟩ := d2.1 hd
      obtain ⟨u, u1, u2⟩ := units_loop hT.n40 hT.tasks
      rw [if_neg (by simpa using hd), u1, Option.bind_some]
      by_cases hu : 8 < u
      · rw [if_pos hu]
        exact ⟨4, by decide, rfl⟩
      · exact absurd ⟨hT, g1, g2, g3, u, u1, by omega⟩ h
    · rw [if_pos hd]
      exact ⟨d, hd, rfl⟩
  · rw [if_pos hc]
    exact ⟨c, hc, rfl⟩
/-- What a set more that does nothing costs. -/
theorem costs_more {l : List FleetTask} {p : FleetShop} {S : List FleetSet} {U : List (List Int)} (hl : U.length = S.length) {s1 : FleetSet} (hs1 : OkSet p.Limit s1) (hp : OkShop p) {c : Int} (h : costs l p S U = some c) : costs l p (S ++ [s1]) (U ++ [[]]) = some c := by
  obtain ⟨b, r, r1, _, r3⟩ := pos_total (l4 := l) (x := []) (s := s1) ⟨by simp, fun j v hj => by simp at hj⟩ hp hs1
  obtain ⟨e1, e2⟩ := r3 rfl
  subst e1 e2
  unfold costs at h ⊢
  rw [List.zip_append (by omega), List.foldl_append, h, show [s1].zip [([] : List Int)] = [(s1, [])] from rfl, List.foldl_cons, List.foldl_nil, add1_true r1]
  simp
theorem awake_true : mFishkeep2AwakeFleet = some true := by kernel_rfl
def twoT : List FleetTask := [⟨0, 1, 10, 20, 0, 1⟩, ⟨1, 0, 25, 29, 0, 1⟩]
theorem ins_two : mSlicesInsertionSortCmpFunc 0 2 twoT [0, 1] = some [0, 1] := by
  have i1 : loopM (mSlicesInsertionSortCmpFunc_L10142 0 twoT) (1, [0, 1]) = some [0, 1] := loopM_last (by kernel_rfl)
  have s1 : mSlicesInsertionSortCmpFunc_L5538 0 2 twoT (1, [0, 1]) = some (.inl (2, [0, 1])) := by
    unfold mSlicesInsertionSortCmpFunc_L5538
    simp only [unc2]
    rw [if_pos (by decide), i1]
    kernel_rfl
  have s2 : mSlicesInsertionSortCmpFunc_L5538 0 2 twoT (2, [0, 1]) = some (.inr [0, 1]) := by kernel_rfl
  unfold mSlicesInsertionSortCmpFunc
  show loopM (mSlicesInsertionSortCmpFunc_L5538 0 2 twoT) (1, [0, 1]) = _
  rw [loopM_next s1, loopM_last s2]
theorem sort_two : mSlicesSortStableFunc twoT [0, 1] = some [0, 1] := by
  unfold mSlicesSortStableFunc mSlicesStableCmpFunc
  show ((loopM (mSlicesStableCmpFunc_L604 2 twoT) (0, 20, [0, 1])).bind _).bind _ = _
  rw [loopM_last (t := (0, [0, 1])) (by kernel_rfl), Option.bind_some]
  show ((mSlicesInsertionSortCmpFunc 0 2 twoT [0, 1]).bind _).bind _ = _
  rw [ins_two, Option.bind_some]
  show (loopM (mSlicesStableCmpFunc_L655 2 twoT) (20, [0, 1])).bind _ = _
  rw [loopM_last (t := [0, 1]) (by kernel_rfl)]
  rfl
theorem order_two : mFleetOrder twoT = some [0, 1] := by
  unfold mFleetOrder
  show (mSlicesSortStableFunc twoT [0, 1]).bind _ = _
  rw [sort_two]
  rfl
theorem turns_two : mFleetTurns twoT 0 = some (0, [[0, 1]]) := by
  unfold mFleetTurns
  rw [show mFleetCheckTurn twoT 0 = some 0 by kernel_rfl, Option.bind_some, if_neg (by decide), order_two, Option.bind_some]
  kernel_rfl
theorem sets_true : mFishkeep2Sets = some true := by
  unfold mFishkeep2Sets
  show (mFleetTurns twoT 0).bind _ = _
  rw [turns_two]
  kernel_rfl
theorem outs_len {l : List FleetTask} {x : Int} {S : List FleetSet} {p : FleetShop} {o : List Int} (h : AOk l x S p) {U : List (List Int)} (hD : Done_ l x S o U) : ∀ r ∈ outs l p S U, r.length ≤ 1000 := by
  intro r hr
  have h8 := aok_small h
  have h6 := h.s6
  obtain ⟨y, hy, rfl⟩ := List.mem_map.1 hr
  obtain ⟨k, hk, rfl⟩ := List.getElem_of_mem hy
  rw [List.length_zip] at hk
  rw [List.getElem_zip]
  have hks : k < S.length := by omega
  have hku : k < U.length := by omega
  have hc := hD.chain k _ _ (List.getElem?_eq_getElem hks) (List.getElem?_eq_getElem hku)
  have hcl := chain_len hc
  obtain ⟨b, l1, r1, r2, _⟩ := pos_total (l4 := l) (x := U[k]) (s := S[k]) ⟨by omega, fun j v hj => ⟨tk l v, idx_tk (hc.val v (List.mem_of_getElem? hj)), h.turn.tasks _ (tk_mem (hc.val v (List.mem_of_getElem? hj)))⟩⟩ h.shop (h.sets _ (List.getElem_mem hks))
  rw [posOf_eq r1]
  omega
theorem outs_rows {l : List FleetTask} {x : Int} {S : List FleetSet} {p : FleetShop} {o : List Int} (h : AOk l x S p) {U : List (List Int)} (hD : Done_ l x S o U) : (outs l p S U).length ≤ 1000 := by
  have := h.s6
  unfold outs
  rw [List.length_map, List.length_zip]
  omega
theorem assignedPlain (l : List FleetTask) (x : Int) (S : List FleetSet) (p : FleetShop) : mFishkeep2FleetAssigned l x S p = some true := by
  unfold mFishkeep2FleetAssigned
  rw [awake_true, Option.bind_some, if_pos rfl, sets_true, Option.bind_some, if_pos rfl]
  by_cases h : AOk l x S p
  · have h8 := aok_small h
    have h6 := h.s6
    obtain ⟨o, ho, hp⟩ := order_small (l := l) (by omega)
    obtain ⟨o1, o2⟩ := order_of (by omega) hp
    rcases assign_ok h ho hp with ⟨h1, _⟩ | ⟨X, c, h1, hX, hc, hmin⟩
    · rw [h1, pass4, if_pos (by decide)]
      rfl
    · have hD := start_good o1 o2 hX
      obtain ⟨hpos, hsum⟩ := costs_ok hc
      rw [h1, pass4, if_neg (by decide), inspect_ok h.turn h.sets h.shop h8 (by omega) hD hpos, pass2, legal_ok h.turn h8 (by omega) hp hD, Option.bind_some, if_neg (by decide), if_neg (by decide), equalFunc_self _ (outs_len h hD), Option.bind_some, if_pos rfl, Option.bind_some, decide_eq_false (by have := hD.len; omega), if_neg (by decide)]
      by_cases h0 : S.length = 0
      · rw [if_pos (by omega)]
        rfl
      rw [if_neg (by omega)]
      by_cases h4 : 4 ≤ S.length
      · rw [decide_eq_true (by omega), Option.bind_some, if_pos rfl]
      · have hs0 : 0 < S.length := by omega
        have hi0 : idx S 0 = some S[0] := idx_lt (j := 0) hs0
        have h' : AOk l x (S ++ [S[0]]) p := ⟨h.turn, by rw [List.length_append]; simp; omega, fun s hs => by
          rcases List.mem_append.1 hs with hs | hs
          · exact h.sets s hs
          · rw [List.mem_singleton.1 hs]; exact h.sets _ (List.getElem_mem hs0), h.shop, h.units⟩
        have hcl : mSlicesClone_3 S = some S := by
          unfold mSlicesClone_3
          rw [room_ok (by omega) (by omega)]
          rfl
        have hst : Start (S ++ [S[0]]) = Start S ++ [[]] := by
          unfold Start
          rw [List.length_append, List.length_singleton, List.replicate_succ']
        have hR : Reach l x (S ++ [S[0]]) o 0 0 0 (Start (S ++ [S[0]])) (X ++ [[]]) := by
          rw [hst]
          exact reach_more _ hX List.length_replicate
        have hC := costs_more hD.len (h.sets _ (List.getElem_mem hs0)) h.shop hc
        rw [decide_eq_false (by omega), Option.bind_some, if_neg (by decide), hcl, Option.bind_some, hi0, Option.bind_some, room_ok (by omega) (by omega), Option.bind_some]
        rcases assign_ok h' ho hp with ⟨g1, g2⟩ | ⟨Y, d, g1, hY, hd, hmin2⟩
        · exact absurd hC (g2 _ _ hR)
        · have hD' := start_good o1 o2 hY
          have hle := hmin2 _ _ hR hC
          have hsum2 := (costs_ok hd).2
          rw [g1, pass4, pass2, if_pos rfl, many_eq _ (outs_len h' hD') (outs_rows h' hD'), Option.bind_some, many_eq _ (outs_len h hD) (outs_rows h hD), Option.bind_some, decide_eq_true (by omega)]
          rfl
  · obtain ⟨e, he, h1⟩ := assign_err h
    rw [h1, pass4, if_pos he]
    rfl
end Go.Proofs.Ytajmocgpjkhjlaa
