/- Plain: lists by whole numbers, depots that may be, what the checks say. -/
import Derived.Test.YtajmocgpjkhjlaaX6
import Derived.Test.YtajmocgpjkhjlaaHD
import Derived.KernelRfl
set_option linter.unusedVariables false
set_option linter.unusedSimpArgs false
namespace Go.Proofs.Ytajmocgpjkhjlaa
open Go.RowKit Go.Fp

theorem awake_true : mFishkeep2AwakeFleet = some true := by kernel_rfl
def twoT : List FleetTask := [⟨0, 1, 10, 20, 0, 1⟩, ⟨1, 0, 25, 29, 0, 1⟩]
theorem ins_two : mSlicesInsertionSortCmpFunc 0 2 twoT [0, 1] = some [0, 1] := by
  have i1 : loopM (mSlicesInsertionSortCmpFunc_L10142 0 twoT) (1, [0, 1]) = some [0, 1] := loopM_last (by kernel_rfl)
  have s1 : mSlicesInsertionSortCmpFunc_L5538 0 2 twoT (1, [0, 1]) = some (.inl (2, [0, 1])) := by
    unfold mSlicesInsertionSortCmpFunc_L5538
    simp only [unc2]
    rw [if_pos (by decide), i1]
    kernel_rfl
  have s2 : mSlicesInsertionSortCmpFunc_L5538 0 2 twoT (2, [0, 1]) = some (.inr [0, 1]) := by kernel_rfl
  unfold mSlicesInsertionSortCmpFunc
  show loopM (mSlicesInsertionSortCmpFunc_L5538 0 2 twoT) (1, [0, 1]) = _
  rw [loopM_next s1, loopM_last s2]
theorem sort_two : mSlicesSortStableFunc twoT [0, 1] = some [0, 1] := by
  unfold mSlicesSortStableFunc mSlicesStableCmpFunc
  show ((loopM (mSlicesStableCmpFunc_L604 2 twoT) (0, 20, [0, 1])).bind _).bind _ = _
  rw [loopM_last (t := (0, [0, 1])) (by kernel_rfl), Option.bind_some]
  show ((mSlicesInsertionSortCmpFunc 0 2 twoT [0, 1]).bind _).bind _ = _
  rw [ins_two, Option.bind_some]
  show (loopM (mSlicesStableCmpFunc_L655 2 twoT) (20, [0, 1])).bind _ = _
  rw [loopM_last (t := [0, 1]) (by kernel_rfl)]
  rfl
theorem order_two : mFleetOrder twoT = some [0, 1] := by
  unfold mFleetOrder
  show (mSlicesSortStableFunc twoT [0, 1]).bind _ = _
  rw [sort_two]
  rfl
theorem turns_two : mFleetTurns twoT 0 = some (0, [[0, 1]]) := by
  unfold mFleetTurns
  rw [show mFleetCheckTurn twoT 0 = some 0 by kernel_rfl, Option.bind_some, if_neg (by decide), order_two, Option.bind_some]
  kernel_rfl
theorem sets_true : mFishkeep2Sets = some true := by
  unfold mFishkeep2Sets
  show (mFleetTurns twoT 0).bind _ = _
  rw [turns_two]
  kernel_rfl
/- ---- lists ---- -/
def av (l : List Int) (v : Int) : Int := l.getD v.toNat 0
def rw_ (T : List (List Int)) (v : Int) : List Int := T.getD v.toNat []
theorem idx_av {l : List Int} {v : Int} (h0 : 0 ≤ v) (h : v < (l.length : Int)) : idx l v = some (av l v) := by
  unfold idx av
  rw [if_pos h0, List.getD_eq_getElem?_getD, List.getElem?_eq_getElem (by omega)]
  rfl
theorem idx_rw {T : List (List Int)} {v : Int} (h0 : 0 ≤ v) (h : v < (T.length : Int)) : idx T v = some (rw_ T v) := by
  unfold idx rw_
  rw [if_pos h0, List.getD_eq_getElem?_getD, List.getElem?_eq_getElem (by omega)]
  rfl
theorem rw_get {T : List (List Int)} {v : Int} (h0 : 0 ≤ v) (h : v < (T.length : Int)) : T[v.toNat]? = some (rw_ T v) := by
  unfold rw_
  rw [List.getD_eq_getElem?_getD, List.getElem?_eq_getElem (by omega)]
  rfl
theorem av_get {l : List Int} {v : Int} (h0 : 0 ≤ v) (h : v < (l.length : Int)) : l[v.toNat]? = some (av l v) := by
  unfold av
  rw [List.getD_eq_getElem?_getD, List.getElem?_eq_getElem (by omega)]
  rfl
theorem rw_put {T : List (List Int)} {v : Int} {x : List Int} (h0 : 0 ≤ v) (h : v < (T.length : Int)) {u : Int} (hu : 0 ≤ u) : rw_ (put T v x) u = if u = v then x else rw_ T u := by
  unfold rw_ put
  rw [List.getD_eq_getElem?_getD, List.getD_eq_getElem?_getD]
  by_cases e : u = v
  · subst e
    rw [if_pos rfl, List.getElem?_set_self (by omega)]
    rfl
  · rw [if_neg e, List.getElem?_set_ne (by omega)]
theorem av_put {l : List Int} {v x : Int} (h0 : 0 ≤ v) (h : v < (l.length : Int)) {u : Int} (hu : 0 ≤ u) : av (put l v x) u = if u = v then x else av l u := by
  unfold av put
  rw [List.getD_eq_getElem?_getD, List.getD_eq_getElem?_getD]
  by_cases e : u = v
  · subst e
    rw [if_pos rfl, List.getElem?_set_self (by omega)]
    rfl
  · rw [if_neg e, List.getElem?_set_ne (by omega)]
theorem elem_at {α : Type} {l : List α} {k : Nat} (h : k < l.length) : ∃ x, idx l (k : Int) = some x ∧ l[k]? = some x ∧ x ∈ l := ⟨l[k], idx_lt h, List.getElem?_eq_getElem h, List.getElem_mem h⟩
theorem take_get {α : Type} {l : List α} {k : Nat} {x : α} (h : l[k]? = some x) : l.take (k + 1) = l.take k ++ [x] := by
  have hk : k < l.length := (List.getElem?_eq_some_iff.1 h).1
  rw [List.take_add_one, h]
  rfl
theorem nodup_sub : ∀ {l L : List Int}, l.Nodup → (∀ x ∈ l, x ∈ L) → l.length ≤ L.length
  | [], L, _, _ => Nat.zero_le _
  | a :: l, L, h, hs => by
    have ha := hs a List.mem_cons_self
    obtain ⟨h1, h2⟩ := List.nodup_cons.1 h
    have h3 := nodup_sub (l := l) (L := L.erase a) h2 (fun x hx => by
      have : x ≠ a := fun e => h1 (e ▸ hx)
      exact (List.mem_erase_of_ne this).2 (hs x (List.mem_cons_of_mem _ hx)))
    rw [List.length_erase_of_mem ha] at h3
    have : 0 < L.length := List.length_pos_of_mem ha
    rw [List.length_cons]
    omega
theorem within_eq (x a b : Int) : mFleetWithin x a b = some (decide (a ≤ x ∧ x ≤ b)) := by
  unfold mFleetWithin
  by_cases h : a ≤ x
  · rw [if_pos h, Option.bind_some]
    congr 1
    exact decide_eq_decide.2 ⟨fun h2 => ⟨h, h2⟩, fun h2 => h2.2⟩
  · rw [if_neg h, Option.bind_some, decide_eq_false (fun h2 => h h2.1)]
theorem withinR_eq (x a b : Int) : mFishref2Within x a b = some (decide (a ≤ x ∧ x ≤ b)) := within_eq x a b
theorem contains_eq (l : List Int) (x : Int) : mSlicesContains l x = some (decide (x ∈ l)) := by
  have key : ∃ i, mSlicesIndex l x = some i ∧ (0 ≤ i ↔ x ∈ l) := by
    unfold mSlicesIndex
    rcases forM_inv (body := mSlicesIndex_L39 l x) (fun k _ => ∀ (j : Nat) y, j < k → l[j]? = some y → y ≠ x) (fun t => 0 ≤ t ∧ x ∈ l) l.length 0 () (fun j y h => absurd h (by omega)) (fun k u _ hk hi => by
      obtain ⟨y, x1, x2, x3⟩ := elem_at (l := l) (k := k) (by omega)
      unfold mSlicesIndex_L39
      rw [x1, Option.bind_some]
      by_cases hc : x = y
      · rw [if_pos hc]
        exact .inr ⟨_, rfl, by omega, hc ▸ x3⟩
      · rw [if_neg hc]
        refine .inl ⟨(), rfl, fun j z hj h => ?_⟩
        by_cases e : j = k
        · subst e
          rw [x2] at h
          injection h with h
          exact fun e => hc (e.symm.trans h.symm)
        · exact hi j z (by omega) h) with ⟨_, h1, h2⟩ | ⟨t, h1, h2, h3⟩
    · rw [h1]
      refine ⟨_, rfl, ⟨fun h => absurd h (by omega), fun h => ?_⟩⟩
      obtain ⟨j, hj, he⟩ := List.getElem_of_mem h
      exact absurd he (h2 j _ (by omega) (List.getElem?_eq_getElem hj))
    · rw [h1]
      exact ⟨_, rfl, ⟨fun _ => h3, fun _ => h2⟩⟩
  obtain ⟨i, h1, h2⟩ := key
  unfold mSlicesContains
  rw [h1, Option.bind_some]
  congr 1
  exact decide_eq_decide.2 h2
/- ---- depots ---- -/
structure DOk (d : FleetDepot) (kinds : List Int) : Prop where
  n1 : 1 ≤ d.Tracks.length
  n4 : d.Tracks.length ≤ 4
  rl : d.Room.length = d.Tracks.length
  room : ∀ i : Int, 0 ≤ i → i < (d.Tracks.length : Int) → 1 ≤ av d.Room i ∧ av d.Room i ≤ 4
  fit : ∀ i : Int, 0 ≤ i → i < (d.Tracks.length : Int) → ((rw_ d.Tracks i).length : Int) ≤ av d.Room i
  nd : d.Tracks.flatten.Nodup
  el : ∀ x ∈ d.Tracks.flatten, 0 ≤ x ∧ x ≤ 99 ∧ x < (kinds.length : Int)
  n6 : d.Tracks.flatten.length ≤ 6
structure DF (d : FleetDepot) (k : Nat) (S : List Int) : Prop where
  eq : S = (d.Tracks.take k).flatten
  nd : S.Nodup
  el : ∀ x ∈ S, 0 ≤ x ∧ x ≤ 99
  room : ∀ i : Int, 0 ≤ i → i < (k : Int) → 1 ≤ av d.Room i ∧ av d.Room i ≤ 4
  fit : ∀ i : Int, 0 ≤ i → i < (k : Int) → ((rw_ d.Tracks i).length : Int) ≤ av d.Room i
  le : S.length ≤ 4 * k
theorem depot_fault (d : FleetDepot) : ∃ e, mFishref2DepotFault d = some e ∧ (e = 0 → 1 ≤ d.Tracks.length ∧ d.Tracks.length ≤ 4 ∧ d.Room.length = d.Tracks.length ∧ ∃ S, DF d d.Tracks.length S) := by
  unfold mFishref2DepotFault
  rw [withinR_eq, Option.bind_some]
  by_cases hn : 1 ≤ (d.Room.length : Int) ∧ (d.Room.length : Int) ≤ 4
  · rw [if_pos (decide_eq_true hn)]
    by_cases hl : (d.Tracks.length : Int) ≠ (d.Room.length : Int)
    · rw [if_pos hl]
      exact ⟨1, rfl, fun h => by cases h⟩
    · rw [if_neg hl]
      have hrl : d.Room.length = d.Tracks.length := by omega
      rcases forM_inv (body := mFishref2DepotFault_L428 d) (fun k S => DF d k S) (fun e => e ≠ 0) d.Room.length 0 [] ⟨by simp, List.nodup_nil, (fun x hx => by cases hx), (fun i _ h => by omega), (fun i _ h => by omega), Nat.zero_le _⟩ (fun k S _ hk hi => by
        unfold mFishref2DepotFault_L428
        rw [idx_av (l := d.Room) (v := (k : Int)) (by omega) (by omega), Option.bind_some, withinR_eq, Option.bind_some]
        by_cases hr : 1 ≤ av d.Room (k : Int) ∧ av d.Room (k : Int) ≤ 4
        · rw [if_pos (decide_eq_true hr), idx_rw (T := d.Tracks) (v := (k : Int)) (by omega) (by omega), Option.bind_some]
          by_cases hf : av d.Room (k : Int) < ((rw_ d.Tracks (k : Int)).length : Int)
          · rw [if_pos hf]
            exact .inr ⟨14, rfl, by decide⟩
          · rw [if_neg hf, Option.bind_some]
            have hget : d.Tracks[k]? = some (rw_ d.Tracks (k : Int)) := rw_get (T := d.Tracks) (v := (k : Int)) (by omega) (by omega)
            generalize hrow : rw_ d.Tracks (k : Int) = row at hf hget
            rcases forM_inv (body := mFishref2DepotFault_L745 row) (fun j S' => S' = S ++ row.take j ∧ S'.Nodup ∧ ∀ x ∈ S', 0 ≤ x ∧ x ≤ 99) (fun t => ∃ e : Int, t = .inr e ∧ e ≠ 0) row.length 0 S ⟨by simp, hi.nd, hi.el⟩ (fun j S' _ hj hj' => by
              obtain ⟨s1, s2, s3⟩ := hj'
              obtain ⟨x, x1, x2, x3⟩ := elem_at (l := row) (k := j) (by omega)
              unfold mFishref2DepotFault_L745
              rw [x1, Option.bind_some, withinR_eq, Option.bind_some]
              by_cases hx : 0 ≤ x ∧ x ≤ 99
              · rw [if_pos (decide_eq_true hx), contains_eq, Option.bind_some]
                by_cases hm : x ∈ S'
                · rw [if_pos (decide_eq_true hm)]
                  exact .inr ⟨_, rfl, 6, rfl, by decide⟩
                · have hlen : S'.length ≤ 100 := by
                    have := hi.le
                    rw [s1, List.length_append, List.length_take]
                    omega
                  rw [if_neg (by rw [decide_eq_false hm]; decide), room_ok (by omega) (by omega), Option.bind_some]
                  refine .inl ⟨_, rfl, ?_, ?_, ?_⟩
                  · rw [s1, take_get x2, List.append_assoc]
                  · refine List.nodup_append.2 ⟨s2, by simp, fun a ha b hb => ?_⟩
                    rw [List.mem_singleton.1 hb]
                    exact fun e => hm (e ▸ ha)
                  · intro y hy
                    rcases List.mem_append.1 hy with hy | hy
                    · exact s3 y hy
                    · rw [List.mem_singleton.1 hy]; exact hx
              · rw [if_neg (by rw [decide_eq_false hx]; decide)]
                exact .inr ⟨_, rfl, 2, rfl, by decide⟩) with ⟨S', h1, h2, h3, h4⟩ | ⟨t, h1, e, h2, h3⟩
            · rw [h1, Option.bind_some]
              rw [Nat.zero_add, List.take_length] at h2
              refine .inl ⟨S', rfl, ?_, h3, h4, fun i a b => ?_, fun i a b => ?_, ?_⟩
              · rw [take_get hget, List.flatten_append, h2, hi.eq]
                simp
              · by_cases e : i = (k : Int)
                · rw [e]; exact hr
                · exact hi.room i a (by omega)
              · by_cases e : i = (k : Int)
                · rw [e, hrow]; omega
                · exact hi.fit i a (by omega)
              · have := hi.le
                rw [h2, List.length_append]
                omega
            · rw [h1, Option.bind_some, h2]
              exact .inr ⟨e, rfl, h3⟩
        · rw [if_neg (by rw [decide_eq_false hr]; decide)]
          exact .inr ⟨2, rfl, by decide⟩) with ⟨S, h1, h2⟩ | ⟨e, h1, h2⟩
      · rw [h1, Option.bind_some]
        refine ⟨0, rfl, fun _ => ⟨by omega, by omega, hrl, S, ?_⟩⟩
        rw [Nat.zero_add, hrl] at h2
        exact h2
      · rw [h1, Option.bind_some]
        exact ⟨e, rfl, fun h => absurd h h2⟩
  · rw [if_neg (by rw [decide_eq_false hn]; decide)]
    exact ⟨4, rfl, fun h => by cases h⟩
theorem total_spec {d : FleetDepot} {body : Nat → Int → Option Int} (hb : ∀ k x, body k x = (idx d.Tracks (k : Int)).bind fun r => (chk (x + (r.length : Int))).bind fun _ => some (x + (r.length : Int))) (hle : ∀ i : Int, 0 ≤ i → i < (d.Tracks.length : Int) → ((rw_ d.Tracks i).length : Int) ≤ 4) (hn : d.Tracks.length ≤ 4) : forS body d.Tracks.length 0 0 = some (d.Tracks.flatten.length : Int) := by
  obtain ⟨x, h1, h2, h3⟩ := forS_inv (body := body) (fun k x => x = ((d.Tracks.take k).flatten.length : Int) ∧ x ≤ 4 * (k : Int)) d.Tracks.length 0 0 ⟨by simp, by omega⟩ (fun k x _ hk hi => by
    have hget : d.Tracks[k]? = some (rw_ d.Tracks (k : Int)) := rw_get (T := d.Tracks) (v := (k : Int)) (by omega) (by omega)
    have h4 := hle (k : Int) (by omega) (by omega)
    rw [hb, idx_rw (T := d.Tracks) (v := (k : Int)) (by omega) (by omega), Option.bind_some, chk_ok (by omega) (by omega), Option.bind_some]
    refine ⟨_, rfl, ?_, by omega⟩
    rw [take_get hget, List.flatten_append, List.length_append, hi.1]
    simp)
  rw [Nat.zero_add, List.take_length] at h2
  rw [h1, h2]
theorem shunt_fault (d : FleetDepot) (kinds : List Int) : ∃ e, mFishref2ShuntFault d kinds = some e ∧ (e = 0 → DOk d kinds) := by
  obtain ⟨e, e1, e2⟩ := depot_fault d
  unfold mFishref2ShuntFault
  rw [e1, Option.bind_some]
  by_cases he : e ≠ 0
  · rw [if_pos he]
    exact ⟨e, rfl, fun h => absurd h he⟩
  · obtain ⟨n1, n4, rl, S, hS⟩ := e2 (Classical.not_not.1 he)
    have hle : ∀ i : Int, 0 ≤ i → i < (d.Tracks.length : Int) → ((rw_ d.Tracks i).length : Int) ≤ 4 := fun i a b => by
      have := hS.fit i a b
      have := (hS.room i a b).2
      omega
    have hSe := hS.eq
    rw [List.take_length] at hSe
    subst hSe
    rw [if_neg he, total_spec (body := mFishref2ShuntFault_L172 d) (fun k x => rfl) hle n4, Option.bind_some]
    by_cases h6 : 6 < (d.Tracks.flatten.length : Int)
    · rw [if_pos h6]
      exact ⟨4, rfl, fun h => by cases h⟩
    · rw [if_neg h6]
      rcases forM_inv (body := mFishref2ShuntFault_L224 d kinds) (fun k _ => ∀ x ∈ (d.Tracks.take k).flatten, x < (kinds.length : Int)) (fun e => e ≠ 0) d.Tracks.length 0 () (fun x hx => by simp at hx) (fun k u _ hk hi => by
        have hget : d.Tracks[k]? = some (rw_ d.Tracks (k : Int)) := rw_get (T := d.Tracks) (v := (k : Int)) (by omega) (by omega)
        unfold mFishref2ShuntFault_L224
        rw [idx_rw (T := d.Tracks) (v := (k : Int)) (by omega) (by omega), Option.bind_some]
        generalize rw_ d.Tracks (k : Int) = row at hget
        rcases forM_inv (body := mFishref2ShuntFault_L289 kinds row) (fun j _ => ∀ x ∈ row.take j, x < (kinds.length : Int)) (fun t => ∃ e : Int, t = .inr e ∧ e ≠ 0) row.length 0 () (fun x hx => by simp at hx) (fun j u _ hj hj' => by
          obtain ⟨x, x1, x2, x3⟩ := elem_at (l := row) (k := j) (by omega)
          unfold mFishref2ShuntFault_L289
          rw [x1, Option.bind_some]
          by_cases hx : (kinds.length : Int) ≤ x
          · rw [if_pos hx]
            exact .inr ⟨_, rfl, 2, rfl, by decide⟩
          · rw [if_neg hx]
            refine .inl ⟨(), rfl, fun y hy => ?_⟩
            rw [take_get x2] at hy
            rcases List.mem_append.1 hy with hy | hy
            · exact hj' y hy
            · rw [List.mem_singleton.1 hy]; omega) with ⟨_, h1, h2⟩ | ⟨t, h1, e, h2, h3⟩
        · rw [h1, Option.bind_some]
          refine .inl ⟨(), rfl, fun x hx => ?_⟩
          rw [Nat.zero_add, List.take_length] at h2
          rw [take_get hget, List.flatten_append] at hx
          rcases List.mem_append.1 hx with hx | hx
          · exact hi x hx
          · simp at hx
            exact h2 x hx
        · rw [h1, Option.bind_some, h2]
          exact .inr ⟨e, rfl, h3⟩) with ⟨_, h1, h2⟩ | ⟨e, h1, h2⟩
      · rw [h1, Option.bind_some]
        rw [Nat.zero_add, List.take_length] at h2
        exact ⟨0, rfl, fun _ => ⟨n1, n4, rl, hS.room, hS.fit, hS.nd, fun x hx => ⟨(hS.el x hx).1, (hS.el x hx).2, h2 x hx⟩, by omega⟩⟩
      · rw [h1, Option.bind_some]
        exact ⟨e, rfl, fun h => absurd h h2⟩
theorem mgetD_put (m : List (Int × Bool)) (x y : Int) : mgetD (mput m x true) y false = true ↔ y = x ∨ mgetD m y false = true := by
  unfold mgetD
  by_cases e : y = x
  · subst e
    rw [mget_mput_same]
    exact ⟨fun _ => .inl rfl, fun _ => rfl⟩
  · rw [mget_mput_other _ _ e]
    exact ⟨fun h => .inr h, fun h => h.elim (fun h => absurd h e) id⟩
theorem check_depot {d : FleetDepot} {kinds : List Int} (h : DOk d kinds) : mFleetCheckDepot d = some 0 := by
  have n1 := h.n1
  have n4 := h.n4
  have rl := h.rl
  unfold mFleetCheckDepot
  rw [within_eq, Option.bind_some, if_pos (decide_eq_true ⟨by omega, by omega⟩), if_neg (by omega)]
  rcases forM_inv (body := mFleetCheckDepot_L417 d) (fun k m => ∀ x, mgetD m x false = true → x ∈ (d.Tracks.take k).flatten) (fun _ => False) d.Tracks.length 0 [] (fun x hx => by cases hx) (fun k m _ hk hi => by
    have hget : d.Tracks[k]? = some (rw_ d.Tracks (k : Int)) := rw_get (T := d.Tracks) (v := (k : Int)) (by omega) (by omega)
    have hr := h.room (k : Int) (by omega) (by omega)
    have hf := h.fit (k : Int) (by omega) (by omega)
    unfold mFleetCheckDepot_L417
    rw [idx_rw (T := d.Tracks) (v := (k : Int)) (by omega) (by omega), Option.bind_some, idx_av (l := d.Room) (v := (k : Int)) (by omega) (by omega), Option.bind_some, within_eq, Option.bind_some, if_pos (decide_eq_true hr), Option.bind_some, if_neg (by omega)]
    generalize rw_ d.Tracks (k : Int) = row at hget
    have hsplit : d.Tracks.flatten = (d.Tracks.take k).flatten ++ (row ++ (d.Tracks.drop (k + 1)).flatten) := by
      have h1 : d.Tracks = d.Tracks.take (k + 1) ++ d.Tracks.drop (k + 1) := (List.take_append_drop _ _).symm
      have h2 : d.Tracks.flatten = (d.Tracks.take (k + 1) ++ d.Tracks.drop (k + 1)).flatten := by rw [← h1]
      rw [h2, take_get hget, List.flatten_append, List.flatten_append]
      simp
    have hnd := h.nd
    rw [hsplit] at hnd
    rcases forM_inv (body := mFleetCheckDepot_L718 row) (fun j m => ∀ x, mgetD m x false = true → x ∈ (d.Tracks.take k).flatten ++ row.take j) (fun _ => False) row.length 0 m (fun x hx => List.mem_append_left _ (hi x hx)) (fun j m _ hj hj' => by
      obtain ⟨x, x1, x2, x3⟩ := elem_at (l := row) (k := j) (by omega)
      have hx := h.el x (by rw [hsplit]; exact List.mem_append_right _ (List.mem_append_left _ x3))
      unfold mFleetCheckDepot_L718
      rw [x1, Option.bind_some, within_eq, Option.bind_some, if_pos (decide_eq_true ⟨hx.1, hx.2.1⟩), Option.bind_some]
      have hno : mgetD m x false = false := by
        cases hq : mgetD m x false with
        | false => rfl
        | true =>
          exfalso
          have h1 := hj' x hq
          have h2 : row = row.take j ++ (x :: row.drop (j + 1)) := by
            have h3 := (List.take_append_drop (j + 1) row).symm
            rw [take_get x2, List.append_assoc] at h3
            exact h3
          rw [h2] at hnd
          have h4 := (List.nodup_append.1 hnd).2.2
          have h5 := (List.nodup_append.1 (List.nodup_append.1 (List.nodup_append.1 hnd).2.1).1).2.2
          rcases List.mem_append.1 h1 with h1 | h1
          · exact h4 x h1 x (by simp) rfl
          · exact h5 x h1 x (by simp) rfl
      rw [hno, if_neg (by decide)]
      refine .inl ⟨_, rfl, fun y hy => ?_⟩
      rw [take_get x2, ← List.append_assoc]
      rcases (mgetD_put m x y).1 hy with rfl | hy
      · exact List.mem_append_right _ (by simp)
      · exact List.mem_append_left _ (hj' y hy)) with ⟨m', h1, h2⟩ | ⟨_, _, hh⟩
    · rw [h1, Option.bind_some]
      refine .inl ⟨m', rfl, fun x hx => ?_⟩
      have := h2 x hx
      rw [Nat.zero_add, List.take_length] at this
      rw [take_get hget, List.flatten_append]
      simpa using this
    · exact hh.elim) with ⟨m, h1, _⟩ | ⟨_, _, hh⟩
  · rw [h1, Option.bind_some]
    rfl
  · exact hh.elim
end Go.Proofs.Ytajmocgpjkhjlaa
