/- Plain: the law FleetFair. -/
import Derived.Test.YtbhomnclohcecaaFA5
set_option linter.unusedVariables false
set_option linter.unusedSimpArgs false
namespace Go.Proofs.Ytbhomnclohcecaa
open Go.RowKit Go.Fp

theorem awake_true : mFishkeep2AwakeFleet = some true := by kernel_rfl
def twoT : List FleetTask := [⟨0, 1, 10, 20, 0, 1⟩, ⟨1, 0, 25, 29, 0, 1⟩]
theorem ins_two : mSlicesInsertionSortCmpFunc 0 2 twoT [0, 1] = some [0, 1] := by
  have i1 : loopM (mSlicesInsertionSortCmpFunc_L10109 0 twoT) (1, [0, 1]) = some [0, 1] := loopM_last (by kernel_rfl)
  have s1 : mSlicesInsertionSortCmpFunc_L5520 0 2 twoT (1, [0, 1]) = some (.inl (2, [0, 1])) := by
    unfold mSlicesInsertionSortCmpFunc_L5520
    simp only [unc2]
    rw [if_pos (by decide), i1]
    kernel_rfl
  have s2 : mSlicesInsertionSortCmpFunc_L5520 0 2 twoT (2, [0, 1]) = some (.inr [0, 1]) := by kernel_rfl
  unfold mSlicesInsertionSortCmpFunc
  show loopM (mSlicesInsertionSortCmpFunc_L5520 0 2 twoT) (1, [0, 1]) = _
  rw [loopM_next s1, loopM_last s2]
theorem sort_two : mSlicesSortStableFunc twoT [0, 1] = some [0, 1] := by
  unfold mSlicesSortStableFunc mSlicesStableCmpFunc
  show ((loopM (mSlicesStableCmpFunc_L604 2 twoT) (0, 20, [0, 1])).bind _).bind _ = _
  rw [loopM_last (t := (0, [0, 1])) (by kernel_rfl), Option.bind_some]
  show ((mSlicesInsertionSortCmpFunc 0 2 twoT [0, 1]).bind _).bind _ = _
  rw [ins_two, Option.bind_some]
  show (loopM (mSlicesStableCmpFunc_L655 2 twoT) (20, [0, 1])).bind _ = _
  rw [loopM_last (t := [0, 1]) (by kernel_rfl)]
  rfl
theorem order_two : mFleetOrder twoT = some [0, 1] := by
  unfold mFleetOrder
  show (mSlicesSortStableFunc twoT [0, 1]).bind _ = _
  rw [sort_two]
  rfl
theorem turns_two : mFleetTurns twoT 0 = some (0, [[0, 1]]) := by
  unfold mFleetTurns
  rw [show mFleetCheckTurn twoT 0 = some 0 by kernel_rfl, Option.bind_some, if_neg (by decide), order_two, Option.bind_some]
  kernel_rfl
theorem sets_true : mFishkeep2Sets = some true := by
  unfold mFishkeep2Sets
  show (mFleetTurns twoT 0).bind _ = _
  rw [turns_two]
  kernel_rfl
theorem has_away (l : List FleetAbsence) (x : FleetAbsence) : mSlicesContains l x = some (decide (x ∈ l)) := by
  unfold mSlicesContains mSlicesIndex
  obtain ⟨r, h1, h2⟩ := any_spec (p := fun y => x.Driver = y.Driver ∧ x.Day = y.Day) l (mSlicesIndex_L61 l x) (fun k h => by
    unfold mSlicesIndex_L61
    rw [idx_lt h, Option.bind_some]
    by_cases c : x.Driver = l[k].Driver ∧ x.Day = l[k].Day
    · rw [if_pos c, if_pos c]
    · rw [if_neg c, if_neg c])
  rw [h1, Option.bind_some]
  have : (∃ y ∈ l, x.Driver = y.Driver ∧ x.Day = y.Day) ↔ x ∈ l := ⟨fun ⟨y, hy, e1, e2⟩ => by
    have : x = y := by cases x; cases y; simp only at e1 e2; rw [e1, e2]
    rw [this]; exact hy, fun h => ⟨x, h, rfl, rfl⟩⟩
  rw [this] at h2
  simp [h2]
theorem has_num (l : List Int) (x : Int) : mSlicesContains_2 l x = some (decide (x ∈ l)) := by
  unfold mSlicesContains_2 mSlicesIndex_2
  obtain ⟨r, h1, h2⟩ := any_spec (p := fun y => x = y) l (mSlicesIndex_2_L39 l x) (fun k h => by
    unfold mSlicesIndex_2_L39
    rw [idx_lt h, Option.bind_some]
    by_cases c : x = l[k]
    · rw [if_pos c, if_pos c]
    · rw [if_neg c, if_neg c])
  rw [h1, Option.bind_some]
  have : (∃ y ∈ l, x = y) ↔ x ∈ l := ⟨fun ⟨y, hy, e⟩ => e ▸ hy, fun h => ⟨x, h, rfl⟩⟩
  rw [this] at h2
  simp [h2]
theorem roster_cases (l : List FleetShift) (d : Int) (x : FleetLimits) : (∃ e, e ≠ 0 ∧ mFleetRoster l d x = some (e, [])) ∨ ∃ k : Nat, d = (k : Int) ∧ 1 ≤ k ∧ k ≤ 4 ∧ mFleetCheckShifts l = some 0 ∧ mFleetCheckLimits x = some 0 ∧ l.length ≤ 8 ∧ ∀ s ∈ l, OkS s := by
  obtain ⟨c, c1, c2⟩ := shifts_says l
  by_cases hc : c = 0
  · subst hc
    obtain ⟨e, e1⟩ := limits_says x
    by_cases he : e = 0
    · subst he
      by_cases hd : 1 ≤ d ∧ d ≤ 4
      · refine .inr ⟨d.toNat, by omega, by omega, by omega, c1, e1, (c2 rfl).1, (c2 rfl).2⟩
      · refine .inl ⟨2, by decide, ?_⟩
        unfold mFleetRoster
        rw [c1, Option.bind_some, if_neg (by decide), e1, Option.bind_some, if_neg (by decide), within_eq, Option.bind_some, decide_eq_false hd, if_neg (by decide)]
    · refine .inl ⟨e, he, ?_⟩
      unfold mFleetRoster
      rw [c1, Option.bind_some, if_neg (by decide), e1, Option.bind_some, if_pos he]
  · refine .inl ⟨c, hc, ?_⟩
    unfold mFleetRoster
    rw [c1, Option.bind_some, if_pos hc]
section
variable {l : List FleetShift} (hl : ∀ s ∈ l, OkS s) (hn : l.length ≤ 8)
theorem flat_rep (k : Nat) : (List.replicate k ([] : List Int)).flatten = [] := by
  induction k with
  | zero => rfl
  | succ k ih => rw [List.replicate_succ, List.flatten_cons, ih]; rfl
theorem leaf_good {x : FleetLimits} {k : Nat} (hk : k ≤ 4) {q : Ro} (h : q ∈ leaves (fitB l x) l.length 0 (List.replicate k [])) : Good l x q ∧ q.length = k := by
  obtain ⟨h1, h2, h3⟩ := leaf_inv h
  rw [List.length_replicate] at h1
  rw [flat_rep, List.nil_append] at h2
  exact ⟨⟨by omega, h2, h3 (fun r hr => .inl (List.eq_of_mem_replicate hr))⟩, h1⟩
include hn in
theorem count_eq (away : List FleetAbsence) (now : Ro) (opn : List Int) (hp : (now.flatten ++ opn).Perm (iota l.length 0)) (ha : ∀ (d : Nat) (h : d < now.length), ∀ s ∈ now[d], (⟨(d : Int), (at0 l s).Day⟩ : FleetAbsence) ∉ away) :
    forM (mFishkeep2FleetFair_L872 l away now opn) now.length 0 (opn.length : Int) = some (.inl (l.length : Int)) := by
  have hlen := hp.length_eq
  rw [List.length_append, iota_length] at hlen
  have hnd : (now.flatten ++ opn).Nodup := hp.nodup_iff.2 (iota_nodup _ _)
  have cut : ∀ k, (now.take k).flatten.length ≤ 8 := fun k => by
    have : now.flatten = (now.take k).flatten ++ (now.drop k).flatten := by rw [← List.flatten_append, List.take_append_drop]
    have h2 : now.flatten.length ≤ 8 := by omega
    rw [this, List.length_append] at h2
    omega
  rcases forM_inv (body := mFishkeep2FleetFair_L872 l away now opn) (fun k c => c = (opn.length : Int) + ((now.take k).flatten.length : Int)) (fun _ => False) now.length 0 (opn.length : Int) (by simp) (fun k c _ hk hI => by
      have hk' : k < now.length := by omega
      have hm := List.getElem_mem hk'
      subst hI
      have hck := cut k
      have hkl := flat_len_le hm
      unfold mFishkeep2FleetFair_L872
      rw [idx_lt hk', Option.bind_some]
      rcases forM_inv (body := mFishkeep2FleetFair_L1243 l away opn k now[k]) (fun j c => c = (opn.length : Int) + ((now.take k).flatten.length : Int) + (j : Int)) (fun _ => False) now[k].length 0 ((opn.length : Int) + ((now.take k).flatten.length : Int)) (by simp) (fun j c _ hj hJ => by
          have hj' : j < now[k].length := by omega
          have hs := List.getElem_mem hj'
          have hf : now[k][j] ∈ now.flatten := List.mem_flatten_of_mem hm hs
          have hr := iota_mem.1 (hp.subset (List.mem_append_left _ hf))
          have hno : now[k][j] ∉ opn := fun h => (List.nodup_append.1 hnd).2.2 _ hf _ h rfl
          subst hJ
          unfold mFishkeep2FleetFair_L1243
          rw [idx_lt hj', Option.bind_some, chk_ok (by omega) (by omega), Option.bind_some, if_neg (by omega), if_neg (by omega), (idx_at (l := l) (s := now[k][j]) (by omega)).1, Option.bind_some, has_away, Option.bind_some, decide_eq_false (ha k hk' _ hs), if_neg (by decide), has_num, Option.bind_some, decide_eq_false hno, Option.bind_some, if_neg (by decide)]
          exact .inl ⟨_, rfl, by omega⟩) with ⟨c, e, hJ⟩ | ⟨t, _, h⟩
      · rw [e]
        refine .inl ⟨_, rfl, ?_⟩
        rw [hJ, take_succ_get hk', List.flatten_append, List.length_append]
        simp
        omega
      · exact h.elim) with ⟨c, e, hI⟩ | ⟨t, _, h⟩
  · rw [e, hI, Nat.zero_add, List.take_length]
    congr 2
    omega
  · exact h.elim
end
theorem fairPlain (l : List FleetShift) (d : Int) (x : FleetLimits) (away : List FleetAbsence) : mFishkeep2FleetFair l d x away = some true := by
  unfold mFishkeep2FleetFair
  rw [awake_true, Option.bind_some, if_pos rfl, sets_true, Option.bind_some, if_pos rfl]
  rcases roster_cases l d x with ⟨e, he, h⟩ | ⟨k, rfl, h1, h4, hs, hx, hn, hl⟩
  · rw [h, pass2, if_pos he]
    rfl
  · obtain ⟨a, ha, hr⟩ := roster_eq hl hn (x := x) hs hx h1 h4
    rw [hr]
    obtain ⟨f1, f2, f3⟩ := fold_better l (leaves (fitB l x) l.length 0 (List.replicate k [])) (-1, [])
    rw [← ha] at f1 f2 f3
    by_cases hneg : a.1 < 0
    · rw [if_pos hneg, pass2, if_pos (by decide)]
      rfl
    · rw [if_neg hneg, pass2, if_neg (by decide)]
      have hfound : a.2 ∈ leaves (fitB l x) l.length 0 (List.replicate k []) ∧ a.1 = mostOf l a.2 := by
        rcases f3 with h | h
        · rw [h] at hneg; exact absurd (by decide) hneg
        · exact h
      obtain ⟨a1, q⟩ := a
      simp only at hneg hfound ⊢
      obtain ⟨hq, hqk⟩ := leaf_good h4 hfound.1
      have hnums : ∀ r ∈ q, Nums l r ∧ r.length ≤ 8 := fun r hr => ⟨hq.nums hr, by have := hq.len hr; omega⟩
      rw [judge_eq hn hs hx hq, pass2, if_neg (by decide), if_neg (by decide), Option.bind_some, if_neg (by simp [hqk]), loads_eq hl hn hs (by omega) (by omega) hnums, pass2, if_neg (by decide), if_neg (by simp [hqk]), Option.bind_some, if_neg (by simp; omega)]
      have hne : q.map (ld l) ≠ [] := fun e => by
        have := congrArg List.length e
        rw [List.length_map] at this
        simp at this
        rw [this] at hqk
        simp at hqk
        omega
      have hmore : (if (k : Int) < 4 then (
          (chk ((k : Int) + 1)).bind fun _ =>
          (mFleetRoster l ((k : Int) + 1) x).bind (unc2 fun x806 l807 =>
          if x806 ≠ 0 then (
          some (.inr false))
          else (
          (mFleetLoads l l807).bind (unc2 fun x817 l818 =>
          (if x817 ≠ 0 then (
          some true)
          else (
          (chk ((k : Int) + 1)).bind fun _ =>
          if (l818.length : Int) ≠ ((k : Int) + 1) then (
          some true)
          else (
          (mSlicesMax l818).bind fun x840 =>
          (mSlicesMax (q.map (ld l))).bind fun x842 =>
          some (decide (x842 < x840))))).bind (fun x835 =>
          if x835 = true then (
          some (.inr false))
          else (
          some (.inl ())))))))
          else (
          some (.inl ()))) = some (Sum.inl () : Unit ⊕ Bool) := by
        by_cases hk4 : (k : Int) < 4
        · rw [if_pos hk4, chk_ok (by omega) (by omega), Option.bind_some]
          obtain ⟨b, hb, hr2⟩ := roster_eq hl hn (x := x) hs hx (k := k + 1) (by omega) (by omega)
          rw [show ((k : Int) + 1) = ((k + 1 : Nat) : Int) by omega, hr2]
          obtain ⟨g1, g2, g3⟩ := fold_better l (leaves (fitB l x) l.length 0 (List.replicate (k + 1) [])) (-1, [])
          rw [← hb] at g1 g2 g3
          have hin : (q ++ [[]]) ∈ leaves (fitB l x) l.length 0 (List.replicate (k + 1) []) := by
            rw [List.replicate_succ']
            exact leaf_more hfound.1
          obtain ⟨g4, g5⟩ := g2 _ hin
          rw [most_more] at g5
          rw [if_neg (by omega), pass2, if_neg (by decide)]
          have hfound2 : b.2 ∈ leaves (fitB l x) l.length 0 (List.replicate (k + 1) []) ∧ b.1 = mostOf l b.2 := by
            rcases g3 with h | h
            · rw [h] at g4; exact absurd g4 (by decide)
            · exact h
          obtain ⟨b1, p⟩ := b
          simp only at g4 g5 hfound2 ⊢
          obtain ⟨hp, hpk⟩ := leaf_good (by omega) hfound2.1
          have hnums2 : ∀ r ∈ p, Nums l r ∧ r.length ≤ 8 := fun r hr => ⟨hp.nums hr, by have := hp.len hr; omega⟩
          rw [loads_eq hl hn hs (by omega) (by omega) hnums2, pass2, if_neg (by decide), Option.bind_some, if_neg (by simp [hpk])]
          have hne2 : p.map (ld l) ≠ [] := fun e => by
            have := congrArg List.length e
            rw [List.length_map, hpk] at this
            simp at this
          obtain ⟨v, v1, v2, v3⟩ := max_says hne2 (by rw [List.length_map]; omega)
          obtain ⟨u, u1, u2, u3⟩ := max_says hne (by rw [List.length_map]; omega)
          rw [v1, Option.bind_some, u1, Option.bind_some]
          obtain ⟨r, hr, rfl⟩ := List.mem_map.1 v2
          obtain ⟨r', hr', rfl⟩ := List.mem_map.1 u2
          have w1 := most_ge (l := l) hr
          have w2 := (ld_bound hl (hnums r' hr').1).1
          have w3 : mostOf l q ≤ ld l r' := most_le w2 (fun y hy => u3 _ (List.mem_map.2 ⟨y, hy, rfl⟩))
          rw [decide_eq_false (by omega), Option.bind_some, if_neg (by decide)]
        · rw [if_neg hk4]
      rw [hmore, Option.bind_some]
      show ((mFleetStandIns l q x away).bind _) = _
      rcases standIns_says hl hn hs hx hq (by omega) away with h | ⟨now, opn, h, z1, z2, z3⟩
      · rw [h, pass3, if_pos (by decide)]
        rfl
      · rw [h, pass3, if_neg (by decide), count_eq hn away now opn z2 z3, Option.bind_some]
        show ((if (l.length : Int) = (l.length : Int) then some (decide ((now.length : Int) = (k : Int))) else some false).bind _) = _
        rw [if_pos rfl, Option.bind_some, decide_eq_true (by omega)]
end Go.Proofs.Ytbhomnclohcecaa
