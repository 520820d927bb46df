/- Plain: moves of sets. -/
import Derived.Test.YtajmocgpjkhjlaaHL1
set_option linter.unusedVariables false
set_option linter.unusedSimpArgs false
namespace Go.Proofs.Ytajmocgpjkhjlaa
open Go.RowKit Go.Fp

theorem set_perm {α : Type} : ∀ {T : List (List α)} {i : Nat} {r r' : List α}, T[i]? = some r → ((T.set i r').flatten ++ r).Perm (T.flatten ++ r')
  | [], _, _, _, h => by cases h
  | a :: T, 0, r, r', h => by
    injection h with h
    subst h
    show ((r' ++ T.flatten) ++ a).Perm ((a ++ T.flatten) ++ r')
    refine List.perm_append_comm.trans ?_
    rw [List.append_assoc]
    exact List.Perm.append_left a List.perm_append_comm
  | a :: T, i + 1, r, r', h => by
    show ((a ++ (T.set i r').flatten) ++ r).Perm ((a ++ T.flatten) ++ r')
    rw [List.append_assoc, List.append_assoc]
    exact List.Perm.append_left a (set_perm h)
def top_ (T : List (List Int)) (f : Int) : Int := av (rw_ T f) ((rw_ T f).length - 1)
def cut_ (T : List (List Int)) (f : Int) : List (List Int) := put T f ((rw_ T f).take ((rw_ T f).length - 1))
/-- A move: the set that is moved, and the tracks behind it. -/
def mv (room : List Int) (T : List (List Int)) (f t : Int) : Option (Int × List (List Int)) :=
  if (0 ≤ f ∧ f < (T.length : Int)) ∧ (t = -1 ∨ (0 ≤ t ∧ t < (T.length : Int))) ∧ f ≠ t ∧ rw_ T f ≠ [] ∧ (0 ≤ t → ((rw_ T t).length : Int) < av room t) then
    some (top_ T f, if 0 ≤ t then put (cut_ T f) t (rw_ T t ++ [top_ T f]) else cut_ T f)
  else none
structure VT (d : FleetDepot) (T : List (List Int)) : Prop where
  len : T.length = d.Tracks.length
  fit : ∀ i : Int, 0 ≤ i → i < (d.Tracks.length : Int) → ((rw_ T i).length : Int) ≤ av d.Room i
  nd : T.flatten.Nodup
  sub : ∀ x ∈ T.flatten, x ∈ d.Tracks.flatten
theorem VT.start {d : FleetDepot} {kinds : List Int} (h : DOk d kinds) : VT d d.Tracks := ⟨rfl, h.fit, h.nd, fun _ hx => hx⟩
theorem VT.n6 {d : FleetDepot} {kinds : List Int} (h : DOk d kinds) {T : List (List Int)} (hT : VT d T) : T.flatten.length ≤ 6 := by
  have := nodup_sub hT.nd hT.sub
  have := h.n6
  omega
theorem row_split {T : List (List Int)} {f : Int} (h : rw_ T f ≠ []) : rw_ T f = (rw_ T f).take ((rw_ T f).length - 1) ++ [top_ T f] := by
  have hl : 0 < (rw_ T f).length := List.length_pos_iff.2 h
  have hg : (rw_ T f)[(rw_ T f).length - 1]? = some (top_ T f) := by
    have := av_get (l := rw_ T f) (v := ((rw_ T f).length : Int) - 1) (by omega) (by omega)
    rw [show (((rw_ T f).length : Int) - 1).toNat = (rw_ T f).length - 1 by omega] at this
    exact this
  have h1 := take_get hg
  rw [show (rw_ T f).length - 1 + 1 = (rw_ T f).length by omega, List.take_length] at h1
  exact h1
theorem cut_perm {T : List (List Int)} {f : Int} (h0 : 0 ≤ f) (h1 : f < (T.length : Int)) (h : rw_ T f ≠ []) : ((cut_ T f).flatten ++ [top_ T f]).Perm T.flatten := by
  have hp := set_perm (r' := (rw_ T f).take ((rw_ T f).length - 1)) (rw_get h0 h1)
  have e : (T.set f.toNat ((rw_ T f).take ((rw_ T f).length - 1))).flatten ++ rw_ T f = ((cut_ T f).flatten ++ (rw_ T f).take ((rw_ T f).length - 1)) ++ [top_ T f] := by
    rw [List.append_assoc, ← row_split h]
    rfl
  rw [e] at hp
  have h2 : (((cut_ T f).flatten ++ [top_ T f]) ++ (rw_ T f).take ((rw_ T f).length - 1)).Perm (T.flatten ++ (rw_ T f).take ((rw_ T f).length - 1)) := by
    refine List.Perm.trans ?_ hp
    rw [List.append_assoc, List.append_assoc]
    exact List.Perm.append_left _ List.perm_append_comm
  exact (List.perm_append_right_iff _).1 h2
section
variable {d : FleetDepot} {kinds : List Int} (hd : DOk d kinds) {T : List (List Int)} (hT : VT d T) {f t s : Int} {T' : List (List Int)}
include hT in
theorem mv_facts (h : mv d.Room T f t = some (s, T')) : VT d T' ∧ s ∈ T.flatten ∧ (0 ≤ f ∧ f < (d.Tracks.length : Int)) ∧ (t = -1 ∨ (0 ≤ t ∧ t < (d.Tracks.length : Int))) ∧ (0 ≤ t → T'.flatten.length = T.flatten.length) ∧ (t < 0 → T'.flatten.length + 1 = T.flatten.length) := by
  unfold mv at h
  split at h
  · rename_i hc
    obtain ⟨⟨f0, f1⟩, ht, hne, hr, hroom⟩ := hc
    injection h with h
    injection h with hs hT'
    subst hs
    have hp := cut_perm f0 f1 hr
    have hlen := hT.len
    have hn1 : ((cut_ T f).flatten ++ [top_ T f]).Nodup := hp.nodup_iff.2 hT.nd
    have hmem : ∀ x ∈ (cut_ T f).flatten, x ∈ T.flatten := fun x hx => hp.subset (List.mem_append_left _ hx)
    have htop : top_ T f ∈ T.flatten := hp.subset (List.mem_append_right _ (by simp))
    have hl1 : (cut_ T f).flatten.length + 1 = T.flatten.length := by
      have := hp.length_eq
      rw [List.length_append] at this
      exact this
    have hlc : (cut_ T f).length = T.length := by
      unfold cut_
      rw [put_length]
    have hrowc : ∀ u : Int, 0 ≤ u → rw_ (cut_ T f) u = if u = f then (rw_ T f).take ((rw_ T f).length - 1) else rw_ T u := fun u hu => rw_put f0 f1 hu
    have hfitc : ∀ i : Int, 0 ≤ i → i < (d.Tracks.length : Int) → ((rw_ (cut_ T f) i).length : Int) ≤ av d.Room i := fun i a b => by
      have h1 := hT.fit i a b
      rw [hrowc i a]
      by_cases e : i = f
      · subst e
        rw [if_pos rfl, List.length_take]
        omega
      · rw [if_neg e]
        exact h1
    refine ⟨?_, htop, ⟨f0, by omega⟩, ?_, ?_, ?_⟩
    · rcases ht with ht | ⟨t0, t1⟩
      · rw [if_neg (by omega)] at hT'
        subst hT'
        exact ⟨by omega, hfitc, (List.nodup_append.1 hn1).1, fun x hx => hT.sub x (hmem x hx)⟩
      · rw [if_pos t0] at hT'
        subst hT'
        have hrt : rw_ (cut_ T f) t = rw_ T t := by rw [hrowc t t0, if_neg (fun e => hne e.symm)]
        have hp2 := set_perm (r' := rw_ T t ++ [top_ T f]) (rw_get (T := cut_ T f) (v := t) t0 (by omega))
        rw [hrt] at hp2
        have hp3 : (put (cut_ T f) t (rw_ T t ++ [top_ T f])).flatten.Perm ((cut_ T f).flatten ++ [top_ T f]) := by
          have h2 : ((put (cut_ T f) t (rw_ T t ++ [top_ T f])).flatten ++ rw_ T t).Perm (((cut_ T f).flatten ++ [top_ T f]) ++ rw_ T t) := by
            refine List.Perm.trans hp2 ?_
            rw [List.append_assoc]
            exact List.Perm.append_left _ List.perm_append_comm
          exact (List.perm_append_right_iff _).1 h2
        refine ⟨by rw [put_length]; omega, fun i a b => ?_, hp3.nodup_iff.2 hn1, fun x hx => hT.sub x (hp.subset (hp3.subset hx))⟩
        rw [rw_put t0 (by omega) a]
        by_cases e : i = t
        · subst e
          have := hroom t0
          rw [if_pos rfl, List.length_append]
          show (((rw_ T i).length + 1 : Nat) : Int) ≤ _
          omega
        · rw [if_neg e]
          exact hfitc i a b
    · rcases ht with ht | ⟨t0, t1⟩
      · exact .inl ht
      · exact .inr ⟨t0, by omega⟩
    · intro t0
      rw [if_pos t0] at hT'
      subst hT'
      have t1 : t < (T.length : Int) := by omega
      have hrt : rw_ (cut_ T f) t = rw_ T t := by rw [hrowc t t0, if_neg (fun e => hne e.symm)]
      have hp2 := (set_perm (r' := rw_ T t ++ [top_ T f]) (rw_get (T := cut_ T f) (v := t) t0 (by omega))).length_eq
      rw [hrt, List.length_append, List.length_append, List.length_append] at hp2
      have e2 : (put (cut_ T f) t (rw_ T t ++ [top_ T f])).flatten.length + (rw_ T t).length = (cut_ T f).flatten.length + ((rw_ T t).length + 1) := hp2
      omega
    · intro t0
      rw [if_neg (by omega)] at hT'
      subst hT'
      exact hl1
  · cases h
theorem clone_all (hn : T.length ≤ 4) (hr : ∀ r ∈ T, r.length ≤ 4) (room : List Int) : forS (mFleetDo_L749 ⟨room, T⟩) T.length 0 [] = some T := by
  obtain ⟨l, h1, h2⟩ := forS_inv (body := mFleetDo_L749 ⟨room, T⟩) (fun k l => l = T.take k) T.length 0 [] rfl (fun k l _ hk hi => by
    obtain ⟨r, x1, x2, x3⟩ := elem_at (l := T) (k := k) (by omega)
    have hrl := hr r x3
    have hll : l.length ≤ 4 := by rw [hi, List.length_take]; omega
    unfold mFleetDo_L749 mSlicesClone
    show ∃ s', ((idx T (k : Int)).bind _) = some s' ∧ _
    rw [x1, Option.bind_some, room_ok (by omega) (by omega), Option.bind_some, Option.bind_some, room_ok (by omega) (by omega), Option.bind_some]
    exact ⟨_, rfl, by rw [hi, take_get x2]⟩)
  rw [Nat.zero_add, List.take_length] at h2
  rw [h1, h2]
include hd hT in
theorem rows_le : ∀ r ∈ T, r.length ≤ 4 := fun r hr => by
  obtain ⟨i, hi, he⟩ := List.getElem_of_mem hr
  have hlen := hT.len
  have h1 := hT.fit (i : Int) (by omega) (by omega)
  have h2 := hd.room (i : Int) (by omega) (by omega)
  have h3 : rw_ T (i : Int) = r := by
    unfold rw_
    rw [Int.toNat_natCast, List.getD_eq_getElem?_getD, List.getElem?_eq_getElem hi, he]
    rfl
  rw [h3] at h1
  omega
include hd hT in
theorem do_spec (f t : Int) : (∃ s T', mv d.Room T f t = some (s, T') ∧ mFleetDo ⟨d.Room, T⟩ ⟨f, t⟩ = some (s, 0, d.Room, T')) ∨ (mv d.Room T f t = none ∧ ∃ e, e ≠ 0 ∧ mFleetDo ⟨d.Room, T⟩ ⟨f, t⟩ = some (0, e, [], [])) := by
  have hlen := hT.len
  have n4 := hd.n4
  have n1 := hd.n1
  have rl := hd.rl
  have hrows := rows_le hd hT
  unfold mFleetDo
  show (∃ s T', _ ∧ ((mFleetDo_1 f d.Room T).bind _).bind _ = _) ∨ (_ ∧ ∃ e, _ ∧ ((mFleetDo_1 f d.Room T).bind _).bind _ = _)
  have d1 : ∀ x, mFleetDo_1 x d.Room T = some (decide (0 ≤ x ∧ x ≤ (T.length : Int) - 1)) := fun x => by
    unfold mFleetDo_1
    rw [chk_ok (by omega) (by omega), Option.bind_some, within_eq, Option.bind_some]
  rw [d1, Option.bind_some]
  by_cases hf : 0 ≤ f ∧ f ≤ (T.length : Int) - 1
  · rw [if_pos (decide_eq_true hf)]
    show (∃ s T', _ ∧ ((mFleetDo_1 t d.Room T).bind _).bind _ = _) ∨ (_ ∧ ∃ e, _ ∧ ((mFleetDo_1 t d.Room T).bind _).bind _ = _)
    rw [d1, Option.bind_some]
    have ht : ∃ c, (if decide (0 ≤ t ∧ t ≤ (T.length : Int) - 1) = true then some false else some (decide (t ≠ -1))) = some c ∧ (c = true ↔ ¬ (t = -1 ∨ (0 ≤ t ∧ t < (T.length : Int)))) := by
      by_cases h1 : 0 ≤ t ∧ t ≤ (T.length : Int) - 1
      · rw [if_pos (decide_eq_true h1)]
        exact ⟨_, rfl, ⟨(fun h => by cases h), fun h => absurd (.inr ⟨h1.1, by omega⟩) h⟩⟩
      · rw [if_neg (by rw [decide_eq_false h1]; decide)]
        refine ⟨_, rfl, ⟨fun h => ?_, fun h => decide_eq_true (fun e => h (.inl e))⟩⟩
        have := of_decide_eq_true h
        exact fun h2 => h2.elim this (fun h3 => h1 ⟨h3.1, by omega⟩)
    obtain ⟨c, c1, c2⟩ := ht
    show (∃ s T', _ ∧ (if decide (0 ≤ t ∧ t ≤ (T.length : Int) - 1) = true then some false else some (decide (t ≠ -1))).bind _ = _) ∨ (_ ∧ ∃ e, _ ∧ (if decide (0 ≤ t ∧ t ≤ (T.length : Int) - 1) = true then some false else some (decide (t ≠ -1))).bind _ = _)
    rw [c1, Option.bind_some]
    cases c with
    | true =>
      rw [if_pos rfl]
      refine .inr ⟨?_, 2, by decide, rfl⟩
      unfold mv
      rw [if_neg (fun h => c2.1 rfl h.2.1)]
    | false =>
      have htt : t = -1 ∨ (0 ≤ t ∧ t < (T.length : Int)) := Classical.byContradiction (fun h => by cases c2.2 h)
      rw [if_neg (by decide)]
      show (∃ s T', _ ∧ (if f = t then _ else _) = _) ∨ (_ ∧ ∃ e, _ ∧ (if f = t then _ else _) = _)
      by_cases hft : f = t
      · rw [if_pos hft]
        refine .inr ⟨?_, 1, by decide, rfl⟩
        unfold mv
        rw [if_neg (fun h => h.2.2.1 hft)]
      · rw [if_neg hft]
        show (∃ s T', _ ∧ (idx T f).bind _ = _) ∨ (_ ∧ ∃ e, _ ∧ (idx T f).bind _ = _)
        rw [idx_rw hf.1 (by omega), Option.bind_some]
        by_cases hr : ((rw_ T f).length : Int) = 0
        · rw [if_pos hr]
          refine .inr ⟨?_, 9, by decide, rfl⟩
          unfold mv
          rw [if_neg (fun h => h.2.2.2.1 (List.length_eq_zero_iff.1 (by omega)))]
        · rw [if_neg hr]
          have hrn : rw_ T f ≠ [] := fun e => hr (by rw [e]; rfl)
          have full : ∃ c, (if 0 ≤ t then (idx T t).bind fun x716 => (idx d.Room t).bind fun x729 => some (decide (x729 ≤ (x716.length : Int))) else some false) = some c ∧ (c = true ↔ ¬ (0 ≤ t → ((rw_ T t).length : Int) < av d.Room t)) := by
            by_cases t0 : 0 ≤ t
            · have t1 : t < (T.length : Int) := by omega
              rw [if_pos t0, idx_rw t0 t1, Option.bind_some, idx_av t0 (by omega), Option.bind_some]
              refine ⟨_, rfl, ⟨fun h h2 => ?_, fun h => decide_eq_true ?_⟩⟩
              · have := of_decide_eq_true h
                have := h2 t0
                omega
              · rcases Int.lt_or_le ((rw_ T t).length : Int) (av d.Room t) with h3 | h3
                · exact absurd (fun _ => h3) h
                · exact h3
            · rw [if_neg t0]
              exact ⟨_, rfl, ⟨(fun h => by cases h), fun h => absurd (fun h2 => absurd h2 t0) h⟩⟩
          obtain ⟨c, g1, g2⟩ := full
          show (∃ s T', _ ∧ (if 0 ≤ t then (idx T t).bind fun x716 => (idx d.Room t).bind fun x729 => some (decide (x729 ≤ (x716.length : Int))) else some false).bind _ = _) ∨ (_ ∧ ∃ e, _ ∧ (if 0 ≤ t then (idx T t).bind fun x716 => (idx d.Room t).bind fun x729 => some (decide (x729 ≤ (x716.length : Int))) else some false).bind _ = _)
          rw [g1, Option.bind_some]
          cases c with
          | true =>
            rw [if_pos rfl]
            refine .inr ⟨?_, 14, by decide, rfl⟩
            unfold mv
            rw [if_neg (fun h => g2.1 rfl h.2.2.2.2)]
          | false =>
            have hroom : 0 ≤ t → ((rw_ T t).length : Int) < av d.Room t := Classical.byContradiction (fun h => by cases g2.2 h)
            have hmv : mv d.Room T f t = some (top_ T f, if 0 ≤ t then put (cut_ T f) t (rw_ T t ++ [top_ T f]) else cut_ T f) := by
              unfold mv
              rw [if_pos ⟨⟨hf.1, by omega⟩, htt, hft, hrn, hroom⟩]
            refine .inl ⟨_, _, hmv, ?_⟩
            have hrl : (rw_ T f).length ≤ 4 := hrows _ (List.mem_of_getElem? (rw_get hf.1 (by omega)))
            have hcutS : cutS (rw_ T f) 0 (((rw_ T f).length : Int) - 1) = some ((rw_ T f).take ((rw_ T f).length - 1)) := by
              have h1 := cutS_ok (l := rw_ T f) (a := 0) (b := (rw_ T f).length - 1) (by omega) (by omega)
              rw [List.drop_zero] at h1
              rw [← h1]
              congr 1
              omega
            rw [if_neg (by decide)]
            unfold mSlicesClone
            show ((room 8 d.Room.length).bind fun _ => some d.Room).bind _ = _
            rw [room_ok (by omega) (by omega), Option.bind_some, Option.bind_some]
            show (forS (mFleetDo_L749 ⟨d.Room, T⟩) T.length 0 []).bind _ = _
            rw [clone_all (by omega) hrows, Option.bind_some]
            show (idx T f).bind _ = _
            rw [idx_rw hf.1 (by omega), Option.bind_some, chk_ok (by omega) (by omega), Option.bind_some, idx_av (by omega) (by omega), Option.bind_some, Option.bind_some, hcutS, Option.bind_some, Option.bind_some]
            show (if 0 ≤ t then (idx (cut_ T f) t).bind fun x1130 => (room 8 (x1130.length + 1)).bind fun _ => (idx (cut_ T f) t).bind fun _ => some (put (cut_ T f) t (x1130 ++ [top_ T f])) else some (cut_ T f)).bind _ = _
            have hlc : (cut_ T f).length = T.length := by
              unfold cut_
              rw [put_length]
            by_cases t0 : 0 ≤ t
            · have t1 : t < (T.length : Int) := by omega
              have hrt : rw_ (cut_ T f) t = rw_ T t := by
                unfold cut_
                rw [rw_put hf.1 (by omega) t0, if_neg (fun e => hft e.symm)]
              have hrl2 : (rw_ T t).length ≤ 4 := hrows _ (List.mem_of_getElem? (rw_get t0 t1))
              rw [if_pos t0, if_pos t0, idx_rw t0 (by omega), Option.bind_some, hrt, room_ok (by omega) (by omega), Option.bind_some, Option.bind_some, Option.bind_some]
              rfl
            · rw [if_neg t0, if_neg t0, Option.bind_some]
              rfl
  · rw [if_neg (by rw [decide_eq_false hf]; decide), Option.bind_some, if_pos rfl]
    refine .inr ⟨?_, 2, by decide, rfl⟩
    unfold mv
    rw [if_neg (fun h => hf ⟨h.1.1, by omega⟩)]
end
end Go.Proofs.Ytajmocgpjkhjlaa
