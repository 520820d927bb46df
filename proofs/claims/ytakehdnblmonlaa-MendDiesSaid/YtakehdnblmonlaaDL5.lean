/- Plain: what Room leaves. -/
import Derived.Test.YtakehdnblmonlaaDL4
set_option linter.unusedVariables false
set_option linter.unusedSimpArgs false
namespace Go.Proofs.Ytakehdnblmonlaa
open Go.RowKit Go.Fp

theorem put_put {α : Type} (U : List α) (i : Nat) (r r' : α) : put (put U (i : Int) r) (i : Int) r' = put U (i : Int) r' := by
  rw [put_nat, put_nat, put_nat, List.set_set]
theorem idx_put {α : Type} {U : List α} {i : Nat} (hi : i < U.length) (r : α) : idx (put U (i : Int) r) (i : Int) = some r := by
  rw [put_nat]
  exact idx_nat (List.getElem?_set_self hi)
def fR (x : Int) : Nat := if x < 0 then 115201 else x.toNat
def fC (x : Int) : Nat := if x < 0 then 0 else 1
structure RoomMid (r : MendRound) (i : Int) (row : List Int) : Prop where
  len : row.length = r.Plan.length
  on : av row i = 0
  bd : ∀ v : Int, 0 ≤ v → v < (r.Plan.length : Int) → -1 ≤ av row v ∧ av row v ≤ 14400 * (sumN fC row : Int)
def RClo (r : MendRound) (row : List Int) (l : MendLink) : Prop := 0 ≤ av row l.From → 0 ≤ av row l.To ∧ av row l.To ≤ av row l.From + sg r l
structure RoomRow (r : MendRound) (i : Int) (row : List Int) : Prop where
  len : row.length = r.Plan.length
  on : av row i = 0
  cl : ∀ l ∈ r.Links, RClo r row l
  hi : ∀ v : Int, 0 ≤ v → v < (r.Plan.length : Int) → av row v ≤ 1000000
structure RRnd (r : MendRound) (k : Nat) (U : List (List Int)) (row0 : List Int) (i : Nat) (row : List Int) (b : Bool) : Prop where
  mid : RoomMid r (k : Int) row
  no : b = false → row = row0 ∧ ∀ (j : Nat) x, j < i → r.Links[j]? = some x → RClo r row0 x
  less : sumN fR row + (if b = true then 1 else 0) ≤ sumN fR row0
section
variable {r : MendRound} (hR : RoundOk r) {k : Nat} (hk : k < r.Plan.length) {U : List (List Int)} (hU : U.length = r.Plan.length)
include hR hk hU in
theorem room_step {row0 : List Int} {i : Nat} (hi : i < r.Links.length) {row : List Int} {b : Bool} (h : RRnd r k U row0 i row b) : ∃ b' row', mMendRoom_L58013 r k i (b, put U (k : Int) row) = some (b', put U (k : Int) row') ∧ RRnd r k U row0 (i + 1) row' b' := by
  obtain ⟨hmid, hno, hless⟩ := h
  obtain ⟨x, x1, x2, x3⟩ := link_at hi
  have hx := hR.ok x x3
  have hs := sg_bd hR.toPlanOk hx
  have hs0 := hR.s0 x x3
  have hlen := hmid.len
  have hn8 := hR.n8
  have hc8 : sumN fC row ≤ 8 := by
    have := sumN_le fC 1 row (fun x _ => by unfold fC; split <;> omega)
    omega
  have stay : RClo r row x → RRnd r k U row0 (i + 1) row b := fun hc => by
    refine ⟨hmid, fun h => ⟨(hno h).1, fun j y hj hy => ?_⟩, hless⟩
    by_cases e : j = i
    · subst e
      rw [x2] at hy
      injection hy with hy
      subst hy
      rw [← (hno h).1]
      exact hc
    · exact (hno h).2 j y (by omega) hy
  have hf := hmid.bd x.From hx.f0 hx.f1
  have ht := hmid.bd x.To hx.t0 hx.t1
  unfold mMendRoom_L58013
  simp only [unc2]
  have hg : idx (put U (k : Int) row) (k : Int) = some row := idx_put (by omega) row
  rw [x1, Option.bind_some, hg, Option.bind_some, idx_av hx.f0 (by rw [hlen]; exact hx.f1), Option.bind_some]
  by_cases hneg : av row x.From < 0
  · rw [if_pos hneg]
    exact ⟨_, _, rfl, stay (fun h => by omega)⟩
  · rw [if_neg hneg, Option.bind_some, idx_av hx.f0 (by rw [hlen]; exact hx.f1), Option.bind_some, slack_ok hR.toPlanOk hx, Option.bind_some, chk_ok (by omega) (by omega), Option.bind_some, Option.bind_some, idx_av hx.t0 (by rw [hlen]; exact hx.t1), Option.bind_some]
    have rf : ∃ c, (if av row x.To < 0 then some true else (some row).bind fun x59524 => (idx x59524 x.To).bind fun x59544 => some (decide (av row x.From + sg r x < x59544))) = some c ∧ (c = true ↔ av row x.To < 0 ∨ av row x.From + sg r x < av row x.To) := by
      by_cases h1 : av row x.To < 0
      · rw [if_pos h1]
        exact ⟨_, rfl, ⟨fun _ => .inl h1, fun _ => rfl⟩⟩
      · rw [if_neg h1, Option.bind_some, idx_av hx.t0 (by rw [hlen]; exact hx.t1), Option.bind_some]
        exact ⟨_, rfl, ⟨fun h => .inr (of_decide_eq_true h), fun h => decide_eq_true (h.elim (fun h => absurd h h1) id)⟩⟩
    obtain ⟨c, c1, c2⟩ := rf
    rw [c1, Option.bind_some]
    cases c with
    | false =>
      rw [if_neg (by decide)]
      refine ⟨_, _, rfl, stay (fun _ => ?_)⟩
      have : ¬ (av row x.To < 0 ∨ av row x.From + sg r x < av row x.To) := fun h => by cases c2.2 h
      exact ⟨by omega, by omega⟩
    | true =>
      have hc := c2.1 rfl
      rw [if_pos rfl, Option.bind_some, idx_av hx.t0 (by rw [hlen]; exact hx.t1), Option.bind_some, put_put]
      have hput : ∀ u : Int, 0 ≤ u → av (put row x.To (av row x.From + sg r x)) u = if u = x.To then av row x.From + sg r x else av row u := fun u hu => av_put hx.t0 (by rw [hlen]; exact hx.t1) hu
      have e1 := sumN_put fC (l := row) (v := x.To) hx.t0 (by rw [hlen]; exact hx.t1) (av row x.From + sg r x)
      have e2 := sumN_put fR (l := row) (v := x.To) hx.t0 (by rw [hlen]; exact hx.t1) (av row x.From + sg r x)
      have e3 : fC (av row x.From + sg r x) = 1 := by
        unfold fC
        rw [if_neg (by omega)]
      have e4 : fC (av row x.To) ≤ 1 ∧ (av row x.To < 0 → fC (av row x.To) = 0) := by
        unfold fC
        split <;> omega
      have e5 : fR (av row x.From + sg r x) < fR (av row x.To) := by
        unfold fR
        rw [if_neg (by omega)]
        split
        · -- it was not reached: one more is
          have hc7 : sumN fC row ≤ 7 := by
            have e6 : fC (av row x.To) = 0 := e4.2 (by assumption)
            have := sumN_le fC 1 (put row x.To (av row x.From + sg r x)) (fun x _ => by unfold fC; split <;> omega)
            rw [put_length] at this
            omega
          omega
        · omega
      have ne : x.To ≠ (k : Int) := fun e => by
        have h1 := hmid.on
        rw [e, h1] at hc
        omega
      refine ⟨_, _, rfl, ⟨by rw [put_length]; exact hlen, by rw [hput _ (by omega), if_neg (fun e => ne e.symm)]; exact hmid.on, fun v a c => ?_⟩, (fun h => by cases h), ?_⟩
      · rw [hput v a]
        have := hmid.bd v a c
        by_cases e : v = x.To
        · rw [if_pos e]
          by_cases hneg2 : av row x.To < 0
          · have := e4.2 hneg2
            omega
          · omega
        · rw [if_neg e]
          omega
      · rw [if_pos rfl]
        have : (0 : Nat) ≤ (if b = true then 1 else 0) := Nat.zero_le _
        omega
include hR hk hU in
theorem room_row : ∃ row, mMendRoom_L29836 r k U = some (put U (k : Int) row) ∧ RoomRow r (k : Int) row := by
  have hn8 := hR.n8
  unfold mMendRoom_L29836
  rw [repeat_eq (-1) hn8, Option.bind_some, idx_lt (show k < U.length by omega), Option.bind_some, idx_put (by omega), Option.bind_some, idx_av (by omega) (by rw [List.length_replicate]; omega), Option.bind_some, put_put]
  have hon : ∀ v : Int, 0 ≤ v → v < (r.Plan.length : Int) → av (put (List.replicate r.Plan.length (-1)) (k : Int) 0) v = if v = (k : Int) then 0 else -1 := fun v a c => by
    rw [av_put (by omega) (by rw [List.length_replicate]; omega) a]
    by_cases e : v = (k : Int)
    · rw [if_pos e, if_pos e]
    · rw [if_neg e, if_neg e, av_rep a c]
  have h0 : RoomMid r (k : Int) (put (List.replicate r.Plan.length (-1)) (k : Int) 0) := ⟨by rw [put_length, List.length_replicate], by rw [hon _ (by omega) (by omega), if_pos rfl], fun v a c => by rw [hon v a c]; split <;> omega⟩
  obtain ⟨out, h1, h2⟩ := loopM_inv (step := mMendRoom_L54748 r k) (fun s => ∃ row, s.2 = put U (k : Int) row ∧ RoomMid r (k : Int) row ∧ (s.1 = false → ∀ x ∈ r.Links, RClo r row x)) (fun out => ∃ row, out = put U (k : Int) row ∧ RoomRow r (k : Int) row) (fun s => 2 * sumN fR (s.2.getD k []) + (if s.1 = true then 1 else 0)) (fun s hs => by
    obtain ⟨b, V⟩ := s
    obtain ⟨row, hV, s1, s2⟩ := hs
    replace hV : V = put U (k : Int) row := hV
    subst hV
    replace s2 : b = false → ∀ x ∈ r.Links, RClo r row x := s2
    have hget : ∀ w : List Int, (put U (k : Int) w).getD k [] = w := fun w => by
      rw [put_nat, List.getD_eq_getElem?_getD, List.getElem?_set_self (by omega)]
      rfl
    unfold mMendRoom_L54748
    simp only [unc2]
    cases b with
    | false =>
      rw [if_neg (by decide)]
      refine .inr ⟨_, rfl, row, rfl, s1.len, s1.on, s2 rfl, fun v a c => ?_⟩
      have h1 := (s1.bd v a c).2
      have h2 := sumN_le fC 1 row (fun x _ => by unfold fC; split <;> omega)
      have h3 := s1.len
      omega
    | true =>
      rw [if_pos rfl]
      obtain ⟨⟨b', V'⟩, e1, row', e2, e3⟩ := forS_inv (body := mMendRoom_L58013 r k) (fun i s => ∃ row', s.2 = put U (k : Int) row' ∧ RRnd r k U row i row' s.1) r.Links.length 0 (false, put U (k : Int) row) ⟨row, rfl, s1, fun _ => ⟨rfl, fun j x hj => absurd hj (by omega)⟩, Nat.le_refl _⟩ (fun i s _ hi h => by
        obtain ⟨bb, VV⟩ := s
        obtain ⟨row', q1, q2⟩ := h
        replace q1 : VV = put U (k : Int) row' := q1
        subst q1
        obtain ⟨b2, r2, g1, g2⟩ := room_step hR hk hU (show i < r.Links.length by omega) q2
        exact ⟨_, g1, r2, rfl, g2⟩)
      replace e2 : V' = put U (k : Int) row' := e2
      replace e3 : RRnd r k U row (0 + r.Links.length) row' b' := e3
      subst e2
      rw [Nat.zero_add] at e3
      rw [e1, Option.bind_some]
      simp only [unc2]
      refine .inl ⟨_, rfl, ⟨row', rfl, e3.mid, fun h x hx => ?_⟩, ?_⟩
      · have h3 := e3.no h
        obtain ⟨j, hj, rfl⟩ := List.getElem_of_mem hx
        rw [h3.1]
        exact h3.2 j _ hj (List.getElem?_eq_getElem hj)
      · have h3 := e3.less
        show 2 * sumN fR ((put U (k : Int) row').getD k []) + (if b' = true then 1 else 0) < 2 * sumN fR ((put U (k : Int) row).getD k []) + 1
        rw [hget, hget]
        cases b' with
        | true =>
          rw [if_pos rfl] at h3 ⊢
          omega
        | false =>
          rw [if_neg (by decide)] at h3 ⊢
          omega) (true, put U (k : Int) (put (List.replicate r.Plan.length (-1)) (k : Int) 0)) ⟨_, rfl, h0, fun h => by cases h⟩
  obtain ⟨row, rfl, h3⟩ := h2
  rw [h1]
  exact ⟨row, rfl, h3⟩
end
theorem room_spec {r : MendRound} (hR : RoundOk r) : ∃ out, mMendRoom r = some (0, out) ∧ out.length = r.Plan.length ∧ ∀ (i : Nat), i < r.Plan.length → ∃ row, out[i]? = some row ∧ RoomRow r (i : Int) row := by
  have hn8 := hR.n8
  unfold mMendRoom
  rw [check_ok hR, Option.bind_some, if_neg (by decide), mkLen_ok (by omega) (by omega), Option.bind_some, List.length_replicate]
  obtain ⟨out, h1, h2, h3⟩ := forS_inv (body := mMendRoom_L29836 r) (fun k U => U.length = r.Plan.length ∧ ∀ (i : Nat), i < k → ∃ row, U[i]? = some row ∧ RoomRow r (i : Int) row) r.Plan.length 0 (List.replicate r.Plan.length ([] : List Int)) ⟨List.length_replicate, fun i hi => absurd hi (by omega)⟩ (fun k U _ hk hi => by
    obtain ⟨row, e1, e2⟩ := room_row hR (show k < r.Plan.length by omega) hi.1
    refine ⟨_, e1, by rw [put_length]; exact hi.1, fun i hlt => ?_⟩
    rw [put_nat]
    by_cases e : i = k
    · subst e
      exact ⟨row, List.getElem?_set_self (by rw [hi.1]; omega), e2⟩
    · rw [List.getElem?_set_ne (fun h => e h.symm)]
      exact hi.2 i (by omega))
  rw [h1, Option.bind_some]
  exact ⟨out, rfl, h2, fun i hi => h3 i (by omega)⟩
end Go.Proofs.Ytakehdnblmonlaa
