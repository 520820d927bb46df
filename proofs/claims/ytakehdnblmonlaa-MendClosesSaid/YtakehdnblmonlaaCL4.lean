/- Plain: MendCloses answers true at every input. -/
import Derived.Test.YtakehdnblmonlaaCL3
set_option linter.unusedVariables false
set_option linter.unusedSimpArgs false
namespace Go.Proofs.Ytakehdnblmonlaa
open Go.RowKit Go.Fp

theorem pass2 {β γ τ : Type} {A : β → γ → Option τ} {y : β} {z : γ} : (some (y, z)).bind (unc2 A) = A y z := rfl
theorem awake_true : mFishkeep2AwakeMend = some true := by kernel_rfl
def two : MendRound := ⟨9, [0, 5], [(⟨0, 1, 3, 0⟩ : MendLink)]⟩
theorem room0 : mMendRoom_L29836 two 0 [[], []] = some [[0, 2], []] := by
  unfold mMendRoom_L29836
  rw [show mSlicesRepeat [(-1)] (two.Plan.length : Int) = some [-1, -1] from repeat_eq (-1) (n := 2) (by omega)]
  show (loopM (mMendRoom_L54748 two 0) (true, [[0, -1], []])).bind _ = _
  rw [loopM_next (show mMendRoom_L54748 two 0 (true, [[0, -1], []]) = some (.inl (true, [[0, 2], []])) by kernel_rfl), loopM_next (show mMendRoom_L54748 two 0 (true, [[0, 2], []]) = some (.inl (false, [[0, 2], []])) by kernel_rfl), loopM_last (show mMendRoom_L54748 two 0 (false, [[0, 2], []]) = some (.inr [[0, 2], []]) by kernel_rfl)]
  rfl
theorem room1 : mMendRoom_L29836 two 1 [[0, 2], []] = some [[0, 2], [-1, 0]] := by
  unfold mMendRoom_L29836
  rw [show mSlicesRepeat [(-1)] (two.Plan.length : Int) = some [-1, -1] from repeat_eq (-1) (n := 2) (by omega)]
  show (loopM (mMendRoom_L54748 two 1) (true, [[0, 2], [-1, 0]])).bind _ = _
  rw [loopM_next (show mMendRoom_L54748 two 1 (true, [[0, 2], [-1, 0]]) = some (.inl (false, [[0, 2], [-1, 0]])) by kernel_rfl), loopM_last (show mMendRoom_L54748 two 1 (false, [[0, 2], [-1, 0]]) = some (.inr [[0, 2], [-1, 0]]) by kernel_rfl)]
  rfl
theorem room_two : mMendRoom two = some (0, [[0, 2], [-1, 0]]) := by
  unfold mMendRoom
  rw [show mMendCheckRound two = some 0 by kernel_rfl, Option.bind_some, if_neg (by decide)]
  have hf : forS (mMendRoom_L29836 two) 2 0 [[], []] = some [[0, 2], [-1, 0]] := by
    show (mMendRoom_L29836 two 0 [[], []]).bind _ = _
    rw [room0, Option.bind_some]
    show (mMendRoom_L29836 two 1 [[0, 2], []]).bind _ = _
    rw [room1]
    rfl
  show (forS (mMendRoom_L29836 two) 2 0 [[], []]).bind _ = _
  rw [hf]
  rfl
theorem rounds_true : mFishkeep2Rounds = some true := by
  unfold mFishkeep2Rounds
  show (mMendRoom two).bind _ = _
  rw [room_two]
  kernel_rfl
theorem closure_any (T : List (List Int)) : (∃ e, mMendClosure T = some (e, []) ∧ e ≠ 0) ∨ ∃ c, Sq T.length T ∧ OkT T ∧ T.length ≤ 8 ∧ mMendClosure T = some (0, c) ∧ Sq T.length c ∧ Clo (tb T) T.length (tb c) := by
  by_cases h8 : T.length ≤ 8
  · by_cases hq : ∀ r ∈ T, r.length = T.length
    · have hS : Sq T.length T := ⟨rfl, fun i hi => hq _ (List.getElem_mem hi)⟩
      by_cases hO : OkT T
      · rcases closure_spec h8 hS hO with ⟨c, h1, h2, h3⟩ | ⟨h1, _⟩
        · exact .inr ⟨c, hS, hO, h8, h1, h2, h3⟩
        · exact .inl ⟨5, h1, by decide⟩
      · obtain ⟨b, b1, b2⟩ := square_spec T
        obtain ⟨c, c1, c2⟩ := table_spec T
        have hb : b = false := by
          cases b with
          | false => rfl
          | true => exact absurd hq (b2.1 rfl)
        have hc : c ≠ 0 := fun h => hO (c2.1 h)
        refine .inl ⟨c, ?_, hc⟩
        unfold mMendClosure
        rw [if_neg (by omega), b1, Option.bind_some, hb, if_neg (by decide), c1, Option.bind_some, if_pos hc]
    · obtain ⟨b, b1, b2⟩ := square_spec T
      refine .inl ⟨1, ?_, by decide⟩
      unfold mMendClosure
      rw [if_neg (by omega), b1, Option.bind_some, if_pos (b2.2 hq)]
  · refine .inl ⟨4, ?_, by decide⟩
    unfold mMendClosure
    rw [if_pos (by omega)]
/-- The closure of a closure: itself, or the table is wide. -/
theorem closure_twice {n : Nat} (h8 : n ≤ 8) {f : Nat → Nat → Int} {c : List (List Int)} (hS : Sq n c) (hC : Clo f n (tb c)) (hO : OkT c) : mMendClosure c = some (0, c) := by
  rcases closure_spec h8 hS hO with ⟨c', h1, h2, h3⟩ | ⟨_, i, p, hi, hp, hf, h0⟩
  · rw [h1, h2.ext hS (fun i j hi hj => hC.again h3 hi hj)]
  · have h1 := (hC.own p i i hi hi hp hf).2
    rw [hC.diag i hi] at h1
    omega
theorem step_spec {n : Nat} (h8 : n ≤ 8) {T : List (List Int)} (hS : Sq n T) (hO : OkT T) : ∃ S, forM (mFishkeep2MendCloses_L823 T) T.length 0 (List.replicate T.length ([] : List Int)) = some (.inl S) ∧ Sq n S ∧ OkT S ∧ Step (tb T) n (tb S) := by
  have hl := hS.len
  rcases forM_inv (body := mFishkeep2MendCloses_L823 T) (fun k U => U.length = n ∧ ∀ a, a < n → a < k → ∃ r, T[a]? = some r ∧ U[a]? = some (put r (a : Int) (max (r.getD a 0) 0))) (fun _ => False) T.length 0 (List.replicate T.length ([] : List Int)) ⟨by rw [List.length_replicate]; exact hl, fun a _ h => absurd h (by omega)⟩ (fun k U _ hk hi => by
    have hk' : k < T.length := by omega
    have hr := hS.row k hk'
    unfold mFishkeep2MendCloses_L823
    rw [idx_lt hk', Option.bind_some, if_neg (by omega), clone_eq (by omega), Option.bind_some, idx_lt (show k < U.length by omega), Option.bind_some, idx_put (by omega)]
    simp only [Option.bind_some]
    rw [idx_getD (by omega)]
    simp only [Option.bind_some]
    rw [put_put]
    refine .inl ⟨_, rfl, by rw [put_length]; exact hi.1, fun a ha hak => ?_⟩
    rw [put_nat]
    by_cases e : k = a
    · subst e
      exact ⟨T[k], List.getElem?_eq_getElem hk', List.getElem?_set_self (by omega)⟩
    · rw [List.getElem?_set_ne e]
      exact hi.2 a ha (by omega)) with ⟨S, h1, h2, h3⟩ | ⟨_, _, h⟩
  · rw [hl, Nat.zero_add] at h3
    have hrow : ∀ a, a < n → ∃ r, T[a]? = some r ∧ r.length = n ∧ (∀ x ∈ r, OkE x) ∧ S[a]? = some (put r (a : Int) (max (r.getD a 0) 0)) := fun a ha => by
      obtain ⟨r, r1, r2⟩ := h3 a ha ha
      have ha' : a < T.length := by omega
      have e := List.getElem?_eq_getElem ha'
      rw [r1] at e
      injection e with e
      exact ⟨r, r1, by rw [e]; exact hS.row a ha', by rw [e]; exact hO _ (List.getElem_mem _), r2⟩
    refine ⟨S, h1, ⟨h2, fun i hi => ?_⟩, fun r hr x hx => ?_, ⟨fun i j hi hj hne => ?_, fun i hi => ?_⟩⟩
    · obtain ⟨r, _, r2, _, r4⟩ := hrow i (by omega)
      rw [List.getElem?_eq_getElem hi] at r4
      injection r4 with r4
      rw [r4, put_length]
      exact r2
    · obtain ⟨i, hi, rfl⟩ := List.getElem_of_mem hr
      obtain ⟨r, _, r2, r3, r4⟩ := hrow i (by omega)
      rw [List.getElem?_eq_getElem hi] at r4
      injection r4 with r4
      rw [r4, put_nat] at hx
      rcases List.mem_or_eq_of_mem_set hx with hx | hx
      · exact r3 x hx
      · have hm : r.getD i 0 ∈ r := by
          rw [List.getD_eq_getElem?_getD, List.getElem?_eq_getElem (by omega)]
          exact List.getElem_mem _
        rw [hx]
        rcases r3 _ hm with h | h
        · rw [h]
          exact .inr (by decide)
        · exact .inr (by omega)
    · obtain ⟨r, r1, r2, _, r4⟩ := hrow i hi
      rw [tb_some r4, getD_put (by omega), if_neg (fun h => hne h.symm), tb_some r1]
    · obtain ⟨r, r1, r2, _, r4⟩ := hrow i hi
      rw [tb_some r4, getD_put (by omega), if_pos rfl, tb_some r1]
  · exact h.elim
theorem powers {n : Nat} (h8 : n ≤ 8) {f : Nat → Nat → Int} {c S : List (List Int)} (hc : Sq n c) (hC : Clo f n (tb c)) (hS : Sq n S) (hO : OkT S) (hst : Step f n (tb S)) :
    forM mFishkeep2MendCloses_L1419 n 0 (S, S) = some (.inl (S, c)) ∨ forM mFishkeep2MendCloses_L1419 n 0 (S, S) = some (.inr true) := by
  rcases forM_inv (body := mFishkeep2MendCloses_L1419) (fun m x => x.1 = S ∧ Sq n x.2 ∧ All f (tb c) n m (tb x.2)) (fun t => t = true) n 0 (S, S) ⟨rfl, hS, All.start hst hC⟩ (fun m x _ hm hi => by
    obtain ⟨S', P⟩ := x
    obtain ⟨rfl, h2, h3⟩ := hi
    simp only at h2 h3
    unfold mFishkeep2MendCloses_L1419
    simp only [unc2]
    obtain ⟨b, b1, b2⟩ := wide_spec P
    rw [b1, Option.bind_some]
    cases b with
    | true => exact .inr ⟨true, by rw [if_pos rfl], rfl⟩
    | false =>
      obtain ⟨P', p1, p2, p3⟩ := product_spec h2 (b2 rfl) hS hO h8
      rw [if_neg (by decide), p1, pass2, if_neg (by decide)]
      exact .inl ⟨_, rfl, rfl, p2, h3.next hst hC p3⟩) with ⟨x, h1, h2, h3, h4⟩ | ⟨t, h1, rfl⟩
  · obtain ⟨S', P⟩ := x
    simp only at h2 h3 h4
    subst h2
    rw [Nat.zero_add] at h4
    rw [h1, h3.ext hc (fun i j hi hj => h4.last hC hi hj)]
    exact .inl rfl
  · exact .inr h1
theorem closesPlain (T : List (List Int)) : mFishkeep2MendCloses T = some true := by
  unfold mFishkeep2MendCloses
  rw [awake_true, Option.bind_some, if_pos rfl, rounds_true, Option.bind_some, if_pos rfl]
  rcases closure_any T with ⟨e, h1, h2⟩ | ⟨c, hS, hO, h8, h1, hc, hC⟩
  · rw [h1, pass2, if_pos h2]
    rfl
  · rw [h1, pass2, if_neg (by decide)]
    obtain ⟨S, s1, s2, s3, s4⟩ := step_spec h8 hS hO
    have hend : ((mkLen 24 (T.length : Int)).bind fun m817 =>
        (forM (mFishkeep2MendCloses_L823 T) T.length 0 (List.replicate m817 (([] : List Int) : (List Int)) : (List (List Int)))).bind fun t => Sum.elim (fun l1219 =>
        (forM mFishkeep2MendCloses_L1419 T.length 0 (l1219, l1219)).bind fun t => Sum.elim (unc2 fun _ l1499 =>
        (mSlicesEqualFunc l1499 c).bind fun x1524 =>
        some x1524) (fun q => some q) t) (fun q => some q) t) = some true := by
      rw [mkLen_ok (by omega) (by omega), Option.bind_some, s1, Option.bind_some]
      simp only [Sum.elim_inl]
      rcases powers h8 hc hC s2 s3 s4 with h | h
      · rw [h, Option.bind_some]
        simp only [Sum.elim_inl, unc2]
        rw [equalF_refl]
        rfl
      · rw [h]
        rfl
    rcases closure_any c with ⟨e, e1, e2⟩ | ⟨c', hS', hO', h8', e1, hc', hC'⟩
    · rw [e1, pass2]
      obtain ⟨b, b1, b2⟩ := wide_spec c
      have hb : b = true := by
        cases b with
        | true => rfl
        | false =>
          have := closure_twice h8 hc hC (b2 rfl)
          rw [e1] at this
          injection this with this
          injection this with this
          exact absurd this e2
      rw [hb] at b1
      rw [if_pos e2, b1, Option.bind_some, Option.bind_some]
      rw [if_neg (by decide), if_neg e2, Option.bind_some, if_neg (by decide)]
      exact hend
    · rw [hc.len] at hS' h8'
      have e3 := closure_twice h8 hc hC hO'
      rw [e3, pass2]
      rw [if_neg (by decide), Option.bind_some, if_neg (by decide), if_pos rfl, equalF_refl, Option.bind_some, Option.bind_some, if_neg (by decide)]
      exact hend
end Go.Proofs.Ytakehdnblmonlaa
