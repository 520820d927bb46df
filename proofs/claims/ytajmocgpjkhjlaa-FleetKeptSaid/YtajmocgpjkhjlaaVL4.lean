/- Plain: FleetKept answers true at every input. -/
import Derived.Test.YtajmocgpjkhjlaaVL3
import Derived.KernelRfl
set_option linter.unusedVariables false
set_option linter.unusedSimpArgs false
namespace Go.Proofs.Ytajmocgpjkhjlaa
open Go.RowKit Go.Fp

section
variable {l : List FleetTask} {s : FleetLimits}
def u0 (l : List FleetTask) : List Bool := List.replicate l.length false
theorem free_le (u : List Bool) : free u ≤ u.length := List.count_le_length
theorem u0_len (l : List FleetTask) : (u0 l).length = l.length := List.length_replicate
theorem duties_step (C : Ctx l s) (k : Nat) (hk : k ≤ l.length) :
    (∃ R, mFleetDuties_L139 l s k () = some (.inr (0, R)) ∧ Comp l s R (u0 l) (-1) ∧ R.length = k) ∨
    (mFleetDuties_L139 l s k () = some (.inl ()) ∧ ∀ R, Comp l s R (u0 l) (-1) → R.length ≠ k) := by
  have n8 := C.n8
  have I : In l (u0 l) (k : Int) (-1) [] [] := by
    have := free_le (u0 l)
    rw [u0_len] at this
    refine ⟨u0_len l, by omega, fun h => absurd rfl h, by omega, (fun i hi => absurd hi (by simp)), by simp; omega, ?_⟩
    rw [if_pos rfl]
    simp
    omega
  unfold mFleetDuties_L139
  rw [mkLen_ok (by omega) (by omega), Option.bind_some, Option.bind_some]
  obtain ⟨t, h1, h2⟩ := lim_ok (f := fun N => mFleetDividerDivide N (k : Int) (-1) [] l s.Change s.Long s.Work s.After s.Break s.Rest s.Row (List.replicate l.length false) [])
    (P := fun t => (∃ u' R, t = (true, u', R) ∧ Sol l s (u0 l) (k : Int) (-1) [] R) ∨ (∃ u', t = (false, u', []) ∧ ∀ R, ¬ Sol l s (u0 l) (k : Int) (-1) [] R))
    (by
      have := div_says C (cost (u0 l) [] + 1) (u0 l) (k : Int) (-1) [] [] I
      rcases this with ⟨_, h⟩ | ⟨u', R, h, _⟩ | ⟨h, _⟩
      · omega
      · exact ⟨_, _, h⟩
      · exact ⟨_, _, h⟩)
    (fun N t ht => by
      rcases div_says C N (u0 l) (k : Int) (-1) [] [] I with ⟨h, _⟩ | ⟨u', R, h, hs⟩ | ⟨h, hs⟩
      · have := ht.symm.trans h
        cases this
      · have := ht.symm.trans h
        injection this with this
        exact .inl ⟨u', R, this, hs⟩
      · have := ht.symm.trans h
        injection this with this
        exact .inr ⟨_, this, hs⟩)
  rw [h1]
  rcases h2 with ⟨u', R, rfl, hs⟩ | ⟨u', rfl, hs⟩
  · rw [pass3, if_pos rfl]
    exact .inl ⟨R, rfl, hs.1, by have := hs.2; omega⟩
  · rw [pass3, if_neg (by decide)]
    exact .inr ⟨rfl, fun R hR e => hs R ⟨hR, by omega⟩⟩
theorem duties_spec (C : Ctx l s) : (∃ R, mFleetDuties l s = some (0, R) ∧ Comp l s R (u0 l) (-1) ∧ R.length ≤ l.length ∧ ∀ R', Comp l s R' (u0 l) (-1) → R.length ≤ R'.length) ∨
    (mFleetDuties l s = some (9, []) ∧ ∀ R, Comp l s R (u0 l) (-1) → l.length < R.length) := by
  have n8 := C.n8
  unfold mFleetDuties
  obtain ⟨c, h1, h2⟩ := both_spec l s
  have hc : c = 0 := h2.2 ⟨⟨by omega, C.tasks⟩, C.lim⟩
  subst hc
  rw [h1, Option.bind_some, if_neg (by decide), if_neg (by omega), chk_ok (by omega) (by omega), Option.bind_some, Option.bind_some]
  rcases forM_inv (body := mFleetDuties_L139 l s) (fun k _ => ∀ R, Comp l s R (u0 l) (-1) → k ≤ R.length) (fun t => ∃ R, t = (0, R) ∧ Comp l s R (u0 l) (-1) ∧ R.length ≤ l.length ∧ ∀ R', Comp l s R' (u0 l) (-1) → R.length ≤ R'.length) ((l.length : Int) + 1).toNat 0 () (fun _ _ => Nat.zero_le _) (fun k x _ hk hi => by
    rcases duties_step C k (by omega) with ⟨R, h3, h4, h5⟩ | ⟨h3, h4⟩
    · exact .inr ⟨_, h3, R, rfl, h4, by omega, fun R' hR' => by have := hi R' hR'; omega⟩
    · exact .inl ⟨(), h3, fun R hR => by have := hi R hR; have := h4 R hR; omega⟩) with ⟨x, h3, h4⟩ | ⟨t, h3, R, rfl, h4⟩
  · rw [h3]
    refine .inr ⟨rfl, fun R hR => ?_⟩
    have := h4 R hR
    omega
  · rw [h3]
    exact .inl ⟨R, rfl, h4⟩
theorem marks_len : ∀ (x : List Int) (u : List Bool), (marks u x).length = u.length
  | [], u => rfl
  | k :: x, u => (marks_len x _).trans (put_length _ _ _)
theorem comp_mono {s' : FleetLimits} (C : Ctx l s) (C' : Ctx l s') (L : Looser s s') : ∀ (R : List (List Int)) (u : List Bool) (a : Int), u.length = l.length → Comp l s R u a → Comp l s' R u a
  | [], u, a, _, h => h
  | d :: D, u, a, hu, h => by
    obtain ⟨k, x, rfl, h1, h2, h3, h4⟩ := h
    have := h2.len
    have := free_le u
    have n8 := C.n8
    exact ⟨k, x, rfl, h1, h2, judge_mono C C' L (fun i hi => free_val hu (h2.val i hi)) (by simp) (by omega) h3, comp_mono C C' L D _ _ (by rw [marks_len]; exact hu) h4⟩
theorem Fit.nodup {u : List Bool} {x : List Int} (h : Fit u x) : x.Nodup := by
  induction x generalizing u with
  | nil => exact List.nodup_nil
  | cons k x ih =>
    refine List.nodup_cons.2 ⟨fun hm => ?_, ih h.2⟩
    exact (h.2.val k hm).of_put.2 h.1.1 rfl
theorem contains_eq (x : List Int) (i : Int) : ∃ b, mSlicesContains_2 x i = some b ∧ (b = true → i ∈ x) := by
  unfold mSlicesContains_2 mSlicesIndex_2
  rcases forM_inv (body := mSlicesIndex_2_L39 x i) (fun k _ => True) (fun c => i ∈ x) x.length 0 () trivial (fun k s _ hk hi => by
    have hk' : k < x.length := by omega
    unfold mSlicesIndex_2_L39
    rw [idx_lt hk', Option.bind_some]
    by_cases e : i = x[k]
    · refine .inr ⟨(k : Int), by rw [if_pos e], ?_⟩
      rw [e]
      exact List.getElem_mem _
    · exact .inl ⟨(), by rw [if_neg e], trivial⟩) with ⟨_, h1, h2⟩ | ⟨c, h1, h2⟩
  · rw [h1]
    exact ⟨false, rfl, fun h => absurd h (by decide)⟩
  · rw [h1]
    exact ⟨_, rfl, fun _ => h2⟩
theorem judge2_ok (C : Ctx l s) {u : List Bool} (hu : u.length = l.length) {d : List Int} (hd : d ≠ []) (hf : Fit u d) (hj : mFleetJudge l d s = some 0) : mFleetJudge_2 l d s = some (0, 0) := by
  have n8 := C.n8
  unfold mFleetJudge_2
  obtain ⟨c, h1, h2⟩ := both_spec l s
  have hc : c = 0 := h2.2 ⟨⟨by omega, C.tasks⟩, C.lim⟩
  subst hc
  have hl : d.length ≠ 0 := fun h => hd (List.length_eq_zero_iff.1 h)
  rw [h1, Option.bind_some, if_neg (by decide), if_neg (by omega)]
  rcases forM_inv (body := mFleetJudge_2_L99 l d) (fun _ _ => True) (fun _ => False) d.length 0 () trivial (fun k x _ hk _ => by
    have hk' : k < d.length := by omega
    have hv := free_val hu (hf.val _ (List.getElem_mem hk'))
    have hv1 := hv.1
    have hv2 := hv.2
    unfold mFleetJudge_2_L99
    rw [idx_lt hk', Option.bind_some, chk_ok (by omega) (by omega), Option.bind_some, within_eq, Option.bind_some, decide_eq_true (by omega), if_pos rfl]
    rw [show cutS d 0 (k : Int) = some (d.take k) from (cutS_ok (a := 0) (b := k) (Nat.zero_le _) (by omega)).trans (by simp), Option.bind_some]
    obtain ⟨b, hb1, hb2⟩ := contains_eq (d.take k) d[k]
    rw [hb1, Option.bind_some]
    have hb : b = false := by
      cases b with
      | false => rfl
      | true =>
        exfalso
        have hm := hb2 rfl
        obtain ⟨j, hj, he⟩ := List.getElem_of_mem hm
        rw [List.length_take] at hj
        rw [List.getElem_take] at he
        have := (List.pairwise_iff_getElem.1 hf.nodup) j k (by omega) hk' (by omega)
        exact this he
    subst hb
    exact .inl ⟨(), by rw [if_neg (by decide)], trivial⟩) with ⟨x, h3, _⟩ | ⟨t, _, h⟩
  · rw [h3, Option.bind_some]
    simp only [Sum.elim_inl]
    rw [hj]
    rfl
  · exact h.elim
def cnt (u : List Bool) : List Int := u.map (fun b => if b = true then 1 else 0)
theorem cnt_len (u : List Bool) : (cnt u).length = u.length := List.length_map _
theorem cnt_put (u : List Bool) (i : Int) : put (cnt u) i 1 = cnt (put u i true) := by
  unfold put cnt
  rw [List.map_set]
  rfl
theorem cnt_free {u : List Bool} {i : Int} (h : Free u i) : idx (cnt u) i = some 0 := by
  unfold idx cnt
  rw [if_pos h.1, List.getElem?_map, h.2]
  rfl
theorem count_loop {u : List Bool} (hu : u.length = l.length) {d : List Int} (hf : Fit u d) : forM (mFishkeep2FleetKept_L1177 l d) d.length 0 (cnt u) = some (.inl (cnt (marks u d))) := by
  rcases forM_inv (body := mFishkeep2FleetKept_L1177 l d) (fun k x => ∃ v, x = cnt v ∧ Fit v (d.drop k) ∧ marks v (d.drop k) = marks u d ∧ v.length = l.length) (fun _ => False) d.length 0 (cnt u) ⟨u, rfl, hf, rfl, hu⟩ (fun k x _ hk hi => by
    obtain ⟨v, rfl, h1, h2, h3⟩ := hi
    have hk' : k < d.length := by omega
    rw [List.drop_eq_getElem_cons hk'] at h1 h2
    have hv := free_val h3 h1.1
    have hv1 := hv.1
    have hv2 := hv.2
    unfold mFishkeep2FleetKept_L1177
    rw [idx_lt hk', Option.bind_some, if_neg (by omega), Option.bind_some, decide_eq_false (by omega), if_neg (by decide), cnt_free h1.1, Option.bind_some, chk_ok (by omega) (by omega), Option.bind_some, Option.bind_some]
    exact .inl ⟨_, rfl, put v d[k] true, cnt_put v d[k], h1.2, h2, by rw [put_length]; exact h3⟩) with ⟨x, h1, v, rfl, h2, h3, h4⟩ | ⟨t, _, h⟩
  · rw [h1]
    rw [show 0 + d.length = d.length by omega, List.drop_length] at h3
    rw [← h3]
    rfl
  · exact h.elim
theorem law_loop (C : Ctx l s) {R : List (List Int)} (hR : Comp l s R (u0 l) (-1)) : ∃ v, forM (mFishkeep2FleetKept_L721 l s R) R.length 0 (cnt (u0 l)) = some (.inl (cnt v)) ∧ ∀ b ∈ v, b = true := by
  rcases forM_inv (body := mFishkeep2FleetKept_L721 l s R) (fun k x => ∃ v a, x = cnt v ∧ Comp l s (R.drop k) v a ∧ v.length = l.length) (fun _ => False) R.length 0 (cnt (u0 l)) ⟨u0 l, -1, rfl, hR, u0_len l⟩ (fun k x _ hk hi => by
    obtain ⟨v, a, rfl, h1, h2⟩ := hi
    have hk' : k < R.length := by omega
    rw [List.drop_eq_getElem_cons hk'] at h1
    obtain ⟨j, y, he, _, hfit, hj, hc⟩ := h1
    unfold mFishkeep2FleetKept_L721
    rw [idx_lt hk', Option.bind_some, judge2_ok C h2 (by rw [he]; simp) hfit hj, Option.bind_some]
    simp only [unc2]
    rw [if_neg (by decide), Option.bind_some, decide_eq_false (by decide), if_neg (by decide), count_loop h2 hfit, Option.bind_some]
    exact .inl ⟨_, rfl, _, _, rfl, hc, by rw [marks_len]; exact h2⟩) with ⟨x, h1, v, a, rfl, h2, h3⟩ | ⟨t, _, h⟩
  · rw [show 0 + R.length = R.length by omega, List.drop_length] at h2
    exact ⟨v, h1, h2⟩
  · exact h.elim
theorem ones {v : List Bool} (h : ∀ b ∈ v, b = true) : mSlicesContainsFunc (cnt v) = some false := by
  unfold mSlicesContainsFunc mSlicesIndexFunc
  rcases forM_inv (body := mSlicesIndexFunc_L42 (cnt v)) (fun _ _ => True) (fun _ => False) (cnt v).length 0 () trivial (fun k x _ hk _ => by
    have hk' : k < (cnt v).length := by omega
    have he : (cnt v)[k] = 1 := by
      have := h (v[k]'(by rwa [cnt_len] at hk')) (List.getElem_mem _)
      have e := List.getElem_map (fun b : Bool => if b = true then (1 : Int) else 0) (l := v) (i := k) (h := hk')
      rw [this] at e
      exact e
    unfold mSlicesIndexFunc_L42 mFishkeep2FleetKept_1
    rw [idx_lt hk', Option.bind_some, Option.bind_some, he]
    exact .inl ⟨(), rfl, trivial⟩) with ⟨x, h3, _⟩ | ⟨t, _, h⟩
  · rw [h3]
    rfl
  · exact h.elim
end
theorem awake_true : mFishkeep2AwakeFleet = some true := by kernel_rfl
def twoT : List FleetTask := [⟨0, 1, 10, 20, 0, 1⟩, ⟨1, 0, 25, 29, 0, 1⟩]
theorem ins_two : mSlicesInsertionSortCmpFunc 0 2 twoT [0, 1] = some [0, 1] := by
  have i1 : loopM (mSlicesInsertionSortCmpFunc_L10142 0 twoT) (1, [0, 1]) = some [0, 1] := loopM_last (by kernel_rfl)
  have s1 : mSlicesInsertionSortCmpFunc_L5538 0 2 twoT (1, [0, 1]) = some (.inl (2, [0, 1])) := by
    unfold mSlicesInsertionSortCmpFunc_L5538
    simp only [unc2]
    rw [if_pos (by decide), i1]
    kernel_rfl
  have s2 : mSlicesInsertionSortCmpFunc_L5538 0 2 twoT (2, [0, 1]) = some (.inr [0, 1]) := by kernel_rfl
  unfold mSlicesInsertionSortCmpFunc
  show loopM (mSlicesInsertionSortCmpFunc_L5538 0 2 twoT) (1, [0, 1]) = _
  rw [loopM_next s1, loopM_last s2]
theorem sort_two : mSlicesSortStableFunc twoT [0, 1] = some [0, 1] := by
  unfold mSlicesSortStableFunc mSlicesStableCmpFunc
  show ((loopM (mSlicesStableCmpFunc_L604 2 twoT) (0, 20, [0, 1])).bind _).bind _ = _
  rw [loopM_last (t := (0, [0, 1])) (by kernel_rfl), Option.bind_some]
  show ((mSlicesInsertionSortCmpFunc 0 2 twoT [0, 1]).bind _).bind _ = _
  rw [ins_two, Option.bind_some]
  show (loopM (mSlicesStableCmpFunc_L655 2 twoT) (20, [0, 1])).bind _ = _
  rw [loopM_last (t := [0, 1]) (by kernel_rfl)]
  rfl
theorem order_two : mFleetOrder twoT = some [0, 1] := by
  unfold mFleetOrder
  show (mSlicesSortStableFunc twoT [0, 1]).bind _ = _
  rw [sort_two]
  rfl
theorem turns_two : mFleetTurns twoT 0 = some (0, [[0, 1]]) := by
  unfold mFleetTurns
  rw [show mFleetCheckTurn twoT 0 = some 0 by kernel_rfl, Option.bind_some, if_neg (by decide), order_two, Option.bind_some]
  kernel_rfl
theorem sets_true : mFishkeep2Sets = some true := by
  unfold mFishkeep2Sets
  show (mFleetTurns twoT 0).bind _ = _
  rw [turns_two]
  kernel_rfl
theorem pass2 {β γ τ : Type} {A : β → γ → Option τ} {y : β} {z : γ} : (some (y, z)).bind (unc2 A) = A y z := rfl
theorem keptPlain (l : List FleetTask) (s : FleetLimits) (d : Int) : mFishkeep2FleetKept l s d = some true := by
  unfold mFishkeep2FleetKept
  rw [awake_true, Option.bind_some, if_pos rfl, sets_true, Option.bind_some, if_pos rfl]
  obtain ⟨c, c1, c2⟩ := both_spec l s
  by_cases hc : c = 0
  · by_cases h8 : l.length ≤ 8
    · have hh := c2.1 hc
      have C : Ctx l s := ⟨h8, hh.1.2, hh.2⟩
      rcases duties_spec C with ⟨R, r1, r2, r3, r4⟩ | ⟨r1, _⟩
      · rw [r1, pass2, if_neg (by decide), mkLen_ok (by omega) (by omega), Option.bind_some]
        have e0 : List.replicate l.length (0 : Int) = cnt (u0 l) := by
          unfold cnt u0
          rw [List.map_replicate]
          rfl
        obtain ⟨v, v1, v2⟩ := law_loop C r2
        rw [e0, v1, Option.bind_some]
        simp only [Sum.elim_inl]
        have g1 := C.lim.1 s.Change (by simp [lims])
        have g2 := C.lim.1 s.Long (by simp [lims])
        have g3 := C.lim.1 s.Work (by simp [lims])
        have g4 := C.lim.1 s.After (by simp [lims])
        have g5 := C.lim.1 s.Break (by simp [lims])
        have g6 := C.lim.1 s.Rest (by simp [lims])
        rw [ones v2, Option.bind_some, if_neg (by decide), chk_ok (by omega) (by omega), Option.bind_some, chk_ok (by omega) (by omega), Option.bind_some, chk_ok (by omega) (by omega), Option.bind_some]
        by_cases hd : d < 0
        · rw [if_pos hd, Option.bind_some, if_pos rfl]
        · rw [if_neg hd, Option.bind_some]
          by_cases hd2 : (min (min (min (86400 - s.Long) (86400 - s.Work)) (86400 - s.After)) s.Change) < d
          · rw [decide_eq_true hd2, if_pos rfl]
          · rw [decide_eq_false hd2, if_neg (by decide), chk_ok (by omega) (by omega), Option.bind_some, chk_ok (by omega) (by omega), Option.bind_some, chk_ok (by omega) (by omega), Option.bind_some, chk_ok (by omega) (by omega), Option.bind_some]
            have C' : Ctx l ⟨s.Change - d, s.Long + d, s.Work + d, s.After + d, s.Break, s.Rest, s.Row⟩ := by
              refine ⟨h8, hh.1.2, ?_, C.lim.2⟩
              intro x hx
              simp only [lims, List.mem_cons, List.not_mem_nil, or_false] at hx
              rcases hx with rfl | rfl | rfl | rfl | rfl | rfl <;> omega
            have L : Looser s ⟨s.Change - d, s.Long + d, s.Work + d, s.After + d, s.Break, s.Rest, s.Row⟩ := ⟨by simp only; omega, by simp only; omega, by simp only; omega, by simp only; omega, rfl⟩
            have r5 := comp_mono C C' L R _ _ (u0_len l) r2
            rcases duties_spec C' with ⟨R', q1, q2, q3, q4⟩ | ⟨q1, q2⟩
            · rw [q1, pass2, if_pos rfl, Option.bind_some]
              have := q4 R r5
              rw [decide_eq_true (by omega)]
            · have := q2 R r5
              omega
      · rw [r1, pass2, if_pos (by decide)]
        rfl
    · have e : mFleetDuties l s = some (4, []) := by
        unfold mFleetDuties
        rw [c1, Option.bind_some, if_neg (by simpa using hc), if_pos (by omega)]
      rw [e, pass2, if_pos (by decide)]
      rfl
  · have e : mFleetDuties l s = some (c, []) := by
      unfold mFleetDuties
      rw [c1, Option.bind_some, if_pos hc]
    rw [e, pass2, if_pos hc]
    rfl
end Go.Proofs.Ytajmocgpjkhjlaa
