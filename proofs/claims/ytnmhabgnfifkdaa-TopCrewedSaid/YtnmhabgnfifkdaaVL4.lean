/- Plain: FleetKept answers true at every input. -/
import Derived.Test.YtnmhabgnfifkdaaVL3
import Derived.KernelRfl
set_option linter.unusedVariables false
set_option linter.unusedSimpArgs false
namespace Go.Proofs.Ytnmhabgnfifkdaa.Kept
open Go.RowKit Go.Fp

section
variable {l : List FleetTask} {s : FleetLimits}
def u0 (l : List FleetTask) : List Bool := List.replicate l.length false
theorem free_le (u : List Bool) : free u ≤ u.length := List.count_le_length
theorem u0_len (l : List FleetTask) : (u0 l).length = l.length := List.length_replicate
theorem duties_step (C : Ctx l s) (k : Nat) (hk : k ≤ l.length) :
    (∃ R, mFleetDuties_L139 l s k () = some (.inr (0, R)) ∧ Comp l s R (u0 l) (-1) ∧ R.length = k) ∨
    (mFleetDuties_L139 l s k () = some (.inl ()) ∧ ∀ R, Comp l s R (u0 l) (-1) → R.length ≠ k) := by
  have n8 := C.n8
  have I : In l (u0 l) (k : Int) (-1) [] [] := by
    have := free_le (u0 l)
    rw [u0_len] at this
    refine ⟨u0_len l, by omega, fun h => absurd rfl h, by omega, (fun i hi => absurd hi (by simp)), by simp; omega, ?_⟩
    rw [if_pos rfl]
    simp
    omega
  unfold mFleetDuties_L139
  rw [mkLen_ok (by omega) (by omega), Option.bind_some, Option.bind_some]
  obtain ⟨t, h1, h2⟩ := lim_ok (f := fun N => mFleetDividerDivide N (k : Int) (-1) [] l s.Change s.Long s.Work s.After s.Break s.Rest s.Row (List.replicate l.length false) [])
    (P := fun t => (∃ u' R, t = (true, u', R) ∧ Sol l s (u0 l) (k : Int) (-1) [] R) ∨ (∃ u', t = (false, u', []) ∧ ∀ R, ¬ Sol l s (u0 l) (k : Int) (-1) [] R))
    (by
      have := div_says C (cost (u0 l) [] + 1) (u0 l) (k : Int) (-1) [] [] I
      rcases this with ⟨_, h⟩ | ⟨u', R, h, _⟩ | ⟨h, _⟩
      · omega
      · exact ⟨_, _, h⟩
      · exact ⟨_, _, h⟩)
    (fun N t ht => by
      rcases div_says C N (u0 l) (k : Int) (-1) [] [] I with ⟨h, _⟩ | ⟨u', R, h, hs⟩ | ⟨h, hs⟩
      · have := ht.symm.trans h
        cases this
      · have := ht.symm.trans h
        injection this with this
        exact .inl ⟨u', R, this, hs⟩
      · have := ht.symm.trans h
        injection this with this
        exact .inr ⟨_, this, hs⟩)
  rw [h1]
  rcases h2 with ⟨u', R, rfl, hs⟩ | ⟨u', rfl, hs⟩
  · rw [pass3, if_pos rfl]
    exact .inl ⟨R, rfl, hs.1, by have := hs.2; omega⟩
  · rw [pass3, if_neg (by decide)]
    exact .inr ⟨rfl, fun R hR e => hs R ⟨hR, by omega⟩⟩
theorem duties_spec (C : Ctx l s) : (∃ R, mFleetDuties l s = some (0, R) ∧ Comp l s R (u0 l) (-1) ∧ R.length ≤ l.length ∧ ∀ R', Comp l s R' (u0 l) (-1) → R.length ≤ R'.length) ∨
    (mFleetDuties l s = some (9, []) ∧ ∀ R, Comp l s R (u0 l) (-1) → l.length < R.length) := by
  have n8 := C.n8
  unfold mFleetDuties
  obtain ⟨c, h1, h2⟩ := both_spec l s
  have hc : c = 0 := h2.2 ⟨⟨by omega, C.tasks⟩, C.lim⟩
  subst hc
  rw [h1, Option.bind_some, if_neg (by decide), if_neg (by omega), chk_ok (by omega) (by omega), Option.bind_some, Option.bind_some]
  rcases forM_inv (body := mFleetDuties_L139 l s) (fun k _ => ∀ R, Comp l s R (u0 l) (-1) → k ≤ R.length) (fun t => ∃ R, t = (0, R) ∧ Comp l s R (u0 l) (-1) ∧ R.length ≤ l.length ∧ ∀ R', Comp l s R' (u0 l) (-1) → R.length ≤ R'.length) ((l.length : Int) + 1).toNat 0 () (fun _ _ => Nat.zero_le _) (fun k x _ hk hi => by
    rcases duties_step C k (by omega) with ⟨R, h3, h4, h5⟩ | ⟨h3, h4⟩
    · exact .inr ⟨_, h3, R, rfl, h4, by omega, fun R' hR' => by have := hi R' hR'; omega⟩
    · exact .inl ⟨(), h3, fun R hR => by have := hi R hR; have := h4 R hR; omega⟩) with ⟨x, h3, h4⟩ | ⟨t, h3, R, rfl, h4⟩
  · rw [h3]
    refine .inr ⟨rfl, fun R hR => ?_⟩
    have := h4 R hR
    omega
  · rw [h3]
    exact .inl ⟨R, rfl, h4⟩
theorem marks_len : ∀ (x : List Int) (u : List Bool), (marks u x).length = u.length
  | [], u => rfl
  | k :: x, u => (marks_len x _).trans (put_length _ _ _)
theorem comp_mono {s' : FleetLimits} (C : Ctx l s) (C' : Ctx l s') (L : Looser s s') : ∀ (R : List (List Int)) (u : List Bool) (a : Int), u.length = l.length → Comp l s R u a → Comp l s' R u a
  | [], u, a, _, h => h
  | d :: D, u, a, hu, h => by
    obtain ⟨k, x, rfl, h1, h2, h3, h4⟩ := h
    have := h2.len
    have := free_le u
    have n8 := C.n8
    exact ⟨k, x, rfl, h1, h2, judge_mono C C' L (fun i hi => free_val hu (h2.val i hi)) (by simp) (by omega) h3, comp_mono C C' L D _ _ (by rw [marks_len]; exact hu) h4⟩
theorem Fit.nodup {u : List Bool} {x : List Int} (h : Fit u x) : x.Nodup := by
  induction x generalizing u with
  | nil => exact List.nodup_nil
  | cons k x ih =>
    refine List.nodup_cons.2 ⟨fun hm => ?_, ih h.2⟩
    exact (h.2.val k hm).of_put.2 h.1.1 rfl
theorem contains_eq (x : List Int) (i : Int) : ∃ b, mSlicesContains_3 x i = some b ∧ (b = true → i ∈ x) := by
  unfold mSlicesContains_3 mSlicesIndex_3
  rcases forM_inv (body := mSlicesIndex_3_L39 x i) (fun k _ => True) (fun c => i ∈ x) x.length 0 () trivial (fun k s _ hk hi => by
    have hk' : k < x.length := by omega
    unfold mSlicesIndex_3_L39
    rw [idx_lt hk', Option.bind_some]
    by_cases e : i = x[k]
    · refine .inr ⟨(k : Int), by rw [if_pos e], ?_⟩
      rw [e]
      exact List.getElem_mem _
    · exact .inl ⟨(), by rw [if_neg e], trivial⟩) with ⟨_, h1, h2⟩ | ⟨c, h1, h2⟩
  · rw [h1]
    exact ⟨false, rfl, fun h => absurd h (by decide)⟩
  · rw [h1]
    exact ⟨_, rfl, fun _ => h2⟩
theorem judge2_ok (C : Ctx l s) {u : List Bool} (hu : u.length = l.length) {d : List Int} (hd : d ≠ []) (hf : Fit u d) (hj : mFleetJudge l d s = some 0) : mFleetJudge_2 l d s = some (0, 0) := by
  have n8 := C.n8
  unfold mFleetJudge_2
  obtain ⟨c, h1, h2⟩ := both_spec l s
  have hc : c = 0 := h2.2 ⟨⟨by omega, C.tasks⟩, C.lim⟩
  subst hc
  have hl : d.length ≠ 0 := fun h => hd (List.length_eq_zero_iff.1 h)
  rw [h1, Option.bind_some, if_neg (by decide), if_neg (by omega)]
  rcases forM_inv (body := mFleetJudge_2_L99 l d) (fun _ _ => True) (fun _ => False) d.length 0 () trivial (fun k x _ hk _ => by
    have hk' : k < d.length := by omega
    have hv := free_val hu (hf.val _ (List.getElem_mem hk'))
    have hv1 := hv.1
    have hv2 := hv.2
    unfold mFleetJudge_2_L99
    rw [idx_lt hk', Option.bind_some, chk_ok (by omega) (by omega), Option.bind_some, within_eq, Option.bind_some, decide_eq_true (by omega), if_pos rfl]
    rw [show cutS d 0 (k : Int) = some (d.take k) from (cutS_ok (a := 0) (b := k) (Nat.zero_le _) (by omega)).trans (by simp), Option.bind_some]
    obtain ⟨b, hb1, hb2⟩ := contains_eq (d.take k) d[k]
    rw [hb1, Option.bind_some]
    have hb : b = false := by
      cases b with
      | false => rfl
      | true =>
        exfalso
        have hm := hb2 rfl
        obtain ⟨j, hj, he⟩ := List.getElem_of_mem hm
        rw [List.length_take] at hj
        rw [List.getElem_take] at he
        have := (List.pairwise_iff_getElem.1 hf.nodup) j k (by omega) hk' (by omega)
        exact this he
    subst hb
    exact .inl ⟨(), by rw [if_neg (by decide)], trivial⟩) with ⟨x, h3, _⟩ | ⟨t, _, h⟩
  · rw [h3, Option.bind_some]
    simp only [Sum.elim_inl]
    rw [hj]
    rfl
  · exact h.elim
end
end Go.Proofs.Ytnmhabgnfifkdaa.Kept
