/- Plain: FleetShunted answers true at every input. -/
import Derived.Test.YtajmocgpjkhjlaaHL6
set_option linter.unusedVariables false
set_option linter.unusedSimpArgs false
namespace Go.Proofs.Ytajmocgpjkhjlaa
open Go.RowKit Go.Fp

section
variable {d : FleetDepot} {kinds want : List Int} (hd : DOk d kinds)
include hd in
theorem begin_ok {K : List (List Int)} (hK : KeyOf d.Tracks K) : BI d kinds want [] [⟨d, 0, []⟩] (mput [] K true) := by
  have hmem : ∀ y : FleetTry, y ∈ ([] : List FleetTry) ++ [⟨d, 0, []⟩] ↔ y = ⟨d, 0, []⟩ := fun y => by simp
  refine ⟨⟨fun y hy => ?_, by simp, fun T K' hT hK' => ?_, rfl, by simp, fun y hy => ?_, (fun y hy => by cases hy), ⟨_, (hmem _).2 rfl, rfl, rfl⟩, fun K' hK' => ?_⟩, fun a ha b hb => ?_, (fun e he => by cases he), (fun e he => by cases he)⟩
  · rw [(hmem y).1 hy]
    exact ⟨[], .nil, rfl, rfl⟩
  · rw [mgetD_putK]
    refine ⟨fun h => ?_, fun ⟨y, hy, h⟩ => ?_⟩
    · rcases h with h | h
      · subst h
        exact ⟨_, (hmem _).2 rfl, key_inj hd (VT.start hd) hT hK hK'⟩
      · cases h
    · rw [(hmem y).1 hy] at h
      have h : d.Tracks = T := h
      subst h
      exact .inl (key_uniq hK' hK)
  · rw [(hmem y).1 hy]
    exact Nat.le_refl _
  · by_cases e : K' = K
    · subst e
      rw [mget_mput_same] at hK'
      cases hK'
    · rw [mget_mput_other _ _ e] at hK'
      cases hK'
  · rw [List.mem_singleton.1 ha, List.mem_singleton.1 hb]
    exact Nat.zero_le _
theorem kinds_ok (hd : DOk d kinds) {row : List Int} (h : row ∈ d.Tracks) : mSlicesContainsFunc row kinds = some false := by
  unfold mSlicesContainsFunc mSlicesIndexFunc
  rcases forM_inv (body := mSlicesIndexFunc_L51 row kinds) (fun _ _ => True) (fun _ => False) row.length 0 () trivial (fun k u _ hk _ => by
    obtain ⟨x, x1, x2, x3⟩ := elem_at (l := row) (k := k) (by omega)
    have hx := (hd.el x (List.mem_flatten.2 ⟨row, h, x3⟩)).2.2
    unfold mSlicesIndexFunc_L51 mFleetShunt_1
    rw [x1, Option.bind_some, Option.bind_some, if_neg (by rw [decide_eq_false (by omega)]; decide)]
    exact .inl ⟨(), rfl, trivial⟩) with ⟨_, h1, _⟩ | ⟨_, _, hh⟩
  · rw [h1]
    rfl
  · exact hh.elim
include hd in
theorem shunt_spec (want : List Int) : ∃ l e, mFleetShunt d kinds want = some (l, e) ∧ Found d kinds want l e := by
  have n4 := hd.n4
  have n6 := hd.n6
  have hle : ∀ i : Int, 0 ≤ i → i < (d.Tracks.length : Int) → ((rw_ d.Tracks i).length : Int) ≤ 4 := fun i a b => by
    have := hd.fit i a b
    have := (hd.room i a b).2
    omega
  unfold mFleetShunt
  rw [check_depot hd, Option.bind_some, if_neg (by decide), total_spec (body := mFleetShunt_L26008 d) (fun k x => rfl) hle n4, Option.bind_some, if_neg (by omega)]
  rcases forM_inv (body := mFleetShunt_L26060 d kinds) (fun _ _ => True) (fun _ => False) d.Tracks.length 0 () trivial (fun k u _ hk _ => by
    obtain ⟨row, x1, x2, x3⟩ := elem_at (l := d.Tracks) (k := k) (by omega)
    unfold mFleetShunt_L26060
    rw [x1, Option.bind_some, kinds_ok hd x3, Option.bind_some, if_neg (by decide)]
    exact .inl ⟨(), rfl, trivial⟩) with ⟨_, h1, _⟩ | ⟨_, _, hh⟩
  · rw [h1, Option.bind_some]
    show ∃ l e, (if (d.Tracks.flatten.length : Int) < (want.length : Int) then _ else _) = some (l, e) ∧ _
    by_cases hw : (d.Tracks.flatten.length : Int) < (want.length : Int)
    · rw [if_pos hw]
      refine ⟨_, _, rfl, .inl ⟨rfl, rfl, fun ms T g hp hg => ?_⟩⟩
      have := (hp.facts hd).2.1
      omega
    · rw [if_neg hw]
      obtain ⟨K, k1, k2⟩ := state_spec hd (VT.start hd)
      have k1 : mFleetStateOf d = some K := k1
      rw [k1, Option.bind_some]
      unfold mFleetQueuePut
      rw [room_ok (by decide) (by decide), Option.bind_some, Option.bind_some]
      exact search_spec hd (begin_ok hd k2)
  · exact hh.elim
/- ---- the moves are played ---- -/
theorem forM_snoc {σ τ : Type} {body : Nat → σ → Option (σ ⊕ τ)} : ∀ {m k : Nat} {s s' s'' : σ}, forM body m k s = some (.inl s') → body (k + m) s' = some (.inl s'') → forM body (m + 1) k s = some (.inl s'')
  | 0, k, s, s', s'', h1, h2 => by
    injection h1 with h1
    injection h1 with h1
    subst h1
    have h2 : body k s = some (.inl s'') := h2
    rw [forM_succ_inl h2]
    rfl
  | m + 1, k, s, s', s'', h1, h2 => by
    cases hb : body k s with
    | none =>
      exfalso
      have h1 : (match body k s with | none => none | some (.inl s') => forM body m (k + 1) s' | some (.inr t) => some (.inr t)) = some (.inl s') := h1
      rw [hb] at h1
      cases h1
    | some t =>
      cases t with
      | inl a =>
        rw [forM_succ_inl hb] at h1 ⊢
        exact forM_snoc h1 (by rw [show k + 1 + m = k + (m + 1) by omega]; exact h2)
      | inr b =>
        rw [forM_succ_inr hb] at h1
        cases h1
include hd in
theorem play_path {ms : List FleetMove} {T : List (List Int)} {g : List Int} (h : Pth d kinds want ms T g) : ∀ rest, forM (mFleetPlay_L533 (ms ++ rest)) ms.length 0 (([], d.Room, d.Tracks) : List Int × List Int × List (List Int)) = some (.inl (g, d.Room, T)) := by
  induction h with
  | nil => exact fun _ => rfl
  | @stay ms T T' g f t s h1 h2 h3 h4 ih =>
    intro rest
    have hv := (h1.facts hd).1
    have h5 := ih (⟨f, t⟩ :: rest)
    rw [show ms ++ [(⟨f, t⟩ : FleetMove)] ++ rest = ms ++ ⟨f, t⟩ :: rest by simp, List.length_append]
    refine forM_snoc h5 ?_
    unfold mFleetPlay_L533
    simp only [unc3]
    have hidx : idx (ms ++ (⟨f, t⟩ : FleetMove) :: rest) ((0 + ms.length : Nat) : Int) = some ⟨f, t⟩ := idx_nat (by rw [Nat.zero_add, List.getElem?_append_right (Nat.le_refl _), Nat.sub_self]; rfl)
    rw [hidx, Option.bind_some]
    rcases do_spec hd hv f t with ⟨s', T'', m1, m2⟩ | ⟨m1, _⟩
    · rw [h3] at m1
      injection m1 with m1
      injection m1 with m1 m3
      subst m1; subst m3
      obtain ⟨z0, hz0⟩ : ∃ z : Int, z = 0 := ⟨_, rfl⟩
      rw [← hz0] at m2
      rw [m2, pass4, if_neg (Classical.not_not.2 hz0), if_neg (show ¬ (⟨f, t⟩ : FleetMove).To < 0 from by show ¬ t < 0; omega)]
    · rw [h3] at m1
      cases m1
  | @leave ms T T' g f t s h1 h2 h3 h4 h6 ih =>
    intro rest
    have hf := h1.facts hd
    have hv := hf.1
    have h5 := ih (⟨f, t⟩ :: rest)
    rw [show ms ++ [(⟨f, t⟩ : FleetMove)] ++ rest = ms ++ ⟨f, t⟩ :: rest by simp, List.length_append]
    refine forM_snoc h5 ?_
    unfold mFleetPlay_L533
    simp only [unc3]
    have hidx : idx (ms ++ (⟨f, t⟩ : FleetMove) :: rest) ((0 + ms.length : Nat) : Int) = some ⟨f, t⟩ := idx_nat (by rw [Nat.zero_add, List.getElem?_append_right (Nat.le_refl _), Nat.sub_self]; rfl)
    rw [hidx, Option.bind_some]
    have hg6 : g.length ≤ 6 := by
      have := hf.2.1
      have := hd.n6
      omega
    rcases do_spec hd hv f t with ⟨s', T'', m1, m2⟩ | ⟨m1, _⟩
    · rw [h3] at m1
      injection m1 with m1
      injection m1 with m1 m3
      subst m1; subst m3
      obtain ⟨z0, hz0⟩ : ∃ z : Int, z = 0 := ⟨_, rfl⟩
      rw [← hz0] at m2
      rw [m2, pass4, if_neg (Classical.not_not.2 hz0), if_pos (show (⟨f, t⟩ : FleetMove).To < 0 from h4), room_ok (by omega) (by omega), Option.bind_some]
    · rw [h3] at m1
      cases m1
theorem clone_start (hd : DOk d kinds) : forS (mFleetPlay_L387 d) d.Tracks.length 0 ([] : List (List Int)) = some d.Tracks := by
  have hrows := rows_le hd (VT.start hd)
  have n4 := hd.n4
  obtain ⟨l, h1, h2⟩ := forS_inv (body := mFleetPlay_L387 d) (fun k l => l = d.Tracks.take k) d.Tracks.length 0 [] rfl (fun k l _ hk hi => by
    obtain ⟨r, x1, x2, x3⟩ := elem_at (l := d.Tracks) (k := k) (by omega)
    have hrl := hrows r x3
    have hll : l.length ≤ 4 := by rw [hi, List.length_take]; omega
    unfold mFleetPlay_L387 mSlicesClone
    rw [x1, Option.bind_some, room_ok (by omega) (by omega), Option.bind_some, Option.bind_some, room_ok (by omega) (by omega), Option.bind_some]
    exact ⟨_, rfl, by rw [hi, take_get x2]⟩)
  rw [Nat.zero_add, List.take_length] at h2
  rw [h1, h2]
include hd in
theorem play_spec {ms : List FleetMove} {T : List (List Int)} {g : List Int} (h : Pth d kinds want ms T g) : mFleetPlay d ms = some (0, d.Room, T, g) := by
  have n4 := hd.n4
  have rl := hd.rl
  have h1 := play_path hd h []
  rw [List.append_nil] at h1
  unfold mFleetPlay mSlicesClone
  rw [check_depot hd, Option.bind_some, if_neg (by decide), room_ok (by omega) (by omega), Option.bind_some, Option.bind_some, clone_start hd, Option.bind_some, h1]
  rfl
/- ---- one wanted less ---- -/
theorem less_path {m1 : Nat} (hm : want.length = m1 + 1) {ms : List FleetMove} {T : List (List Int)} {g : List Int} (h : Pth d kinds want ms T g) :
    (g.length ≤ m1 → Pth d kinds (want.take m1) ms T g ∨ ∃ ms1 T1 g1, Pth d kinds (want.take m1) ms1 T1 g1 ∧ g1.length = m1 ∧ ms1.length ≤ ms.length) ∧ (g.length = m1 + 1 → ∃ ms1 T1 g1, Pth d kinds (want.take m1) ms1 T1 g1 ∧ g1.length = m1 ∧ ms1.length < ms.length) := by
  have hwl : (want.take m1).length = m1 := by rw [List.length_take]; omega
  have hav : ∀ i : Nat, i < m1 → av (want.take m1) (i : Int) = av want (i : Int) := fun i hi => by
    unfold av
    rw [Int.toNat_natCast, List.getD_eq_getElem?_getD, List.getD_eq_getElem?_getD, List.getElem?_take, if_pos hi]
  induction h with
  | nil => exact ⟨fun _ => .inl .nil, fun h => by cases h⟩
  | @stay ms T T' g f t s h1 h2 h3 h4 ih =>
    refine ⟨fun hg => ?_, fun hg => by omega⟩
    rw [List.length_append]
    rcases ih.1 hg with h5 | ⟨ms1, T1, g1, q1, q2, q3⟩
    · by_cases e : g.length = m1
      · exact .inr ⟨ms, T, g, h5, e, by omega⟩
      · exact .inl (.stay h5 (by omega) h3 h4)
    · exact .inr ⟨ms1, T1, g1, q1, q2, by omega⟩
  | @leave ms T T' g f t s h1 h2 h3 h4 h6 ih =>
    rw [List.length_append, List.length_append]
    refine ⟨fun hg => ?_, fun hg => ?_⟩
    · have hg : g.length + 1 ≤ m1 := hg
      rcases ih.1 (by omega) with h5 | ⟨ms1, T1, g1, q1, q2, q3⟩
      · exact .inl (.leave h5 (by omega) h3 h4 (by rw [hav _ (by omega)]; exact h6))
      · exact .inr ⟨ms1, T1, g1, q1, q2, by omega⟩
    · have hg : g.length + 1 = m1 + 1 := hg
      rcases ih.1 (by omega) with h5 | ⟨ms1, T1, g1, q1, q2, q3⟩
      · exact ⟨ms, T, g, h5, by omega, by show ms.length < ms.length + 1; omega⟩
      · exact ⟨ms1, T1, g1, q1, q2, by show ms1.length < ms.length + 1; omega⟩
end
theorem left_ok {d : FleetDepot} {kinds want : List Int} (hd : DOk d kinds) {ms : List FleetMove} {T : List (List Int)} {g : List Int} (h : Pth d kinds want ms T g) (hg : g.length = want.length) : forM (mFishkeep2FleetShunted_L422 kinds want g) g.length 0 () = some (.inl ()) := by
  obtain ⟨f1, f2, f3, f4, f5⟩ := h.facts hd
  rcases forM_inv (body := mFishkeep2FleetShunted_L422 kinds want g) (fun _ _ => True) (fun _ => False) g.length 0 () trivial (fun k u _ hk _ => by
    obtain ⟨x, x1, x2, x3⟩ := elem_at (l := g) (k := k) (by omega)
    have hx := hd.el x (f3 x x3)
    have he := f5 k x x2
    unfold mFishkeep2FleetShunted_L422
    rw [x1, Option.bind_some, if_neg (by omega), if_neg (by omega), idx_av hx.1 hx.2.2, Option.bind_some, idx_av (l := want) (v := (k : Int)) (by omega) (by omega), Option.bind_some, Option.bind_some, if_neg (by rw [he]; simp)]
    exact .inl ⟨(), rfl, trivial⟩) with ⟨_, h1, _⟩ | ⟨_, _, hh⟩
  · exact h1
  · exact hh.elim
theorem shuntedPlain (d : FleetDepot) (kinds want : List Int) : mFishkeep2FleetShunted d kinds want = some true := by
  unfold mFishkeep2FleetShunted
  rw [awake_true, Option.bind_some, if_pos rfl, sets_true, Option.bind_some, if_pos rfl]
  obtain ⟨e, e1, e2⟩ := shunt_fault d kinds
  rw [e1, Option.bind_some]
  by_cases he : e ≠ 0
  · rw [if_pos he, Option.bind_some, if_pos rfl]
  · have hd := e2 (Classical.not_not.1 he)
    rw [if_neg he, Option.bind_some]
    by_cases h6 : 6 < (want.length : Int)
    · rw [if_pos (decide_eq_true h6)]
    · rw [if_neg (by rw [decide_eq_false h6]; decide)]
      obtain ⟨l, c, s1, s2⟩ := shunt_spec hd want
      rw [s1, pass2]
      rcases s2 with ⟨hc, hl, _⟩ | ⟨hc, T, g, p1, p2, p3⟩
      · rw [if_pos (by omega), if_pos hc, hl]
        rfl
      · rw [if_neg (by omega)]
        have hplay := play_spec hd p1
        obtain ⟨z0, hz0⟩ : ∃ z : Int, z = 0 := ⟨_, rfl⟩
        rw [← hz0] at hplay
        rw [hplay, pass4, if_neg (Classical.not_not.2 hz0), Option.bind_some, if_neg (by rw [p2]; simp), left_ok hd p1 p2, Option.bind_some]
        show (if (want.length : Int) = 0 then _ else _) = _
        by_cases hw : (want.length : Int) = 0
        · rw [if_pos hw]
          have := p3 [] d.Tracks [] .nil (by rw [List.length_nil]; omega)
          rw [List.length_nil] at this
          rw [decide_eq_true (by omega)]
        · rw [if_neg hw]
          obtain ⟨m1, hm⟩ : ∃ m1, want.length = m1 + 1 := ⟨want.length - 1, by omega⟩
          have hcut : cutS want 0 ((want.length : Int) - 1) = some (want.take m1) := by
            have h1 := cutS_ok (l := want) (a := 0) (b := m1) (by omega) (by omega)
            rw [List.drop_zero] at h1
            rw [← h1]
            congr 1
            omega
          rw [chk_ok (by omega) (by omega), Option.bind_some, hcut, Option.bind_some]
          obtain ⟨l', c', t1, t2⟩ := shunt_spec hd (want.take m1)
          obtain ⟨ms1, T1, g1, q1, q2, q3⟩ := (less_path hm p1).2 (by omega)
          have hwl : (want.take m1).length = m1 := by rw [List.length_take]; omega
          rw [t1, pass2]
          rcases t2 with ⟨_, _, h⟩ | ⟨hc', T', g', _, _, h⟩
          · exact (h ms1 T1 g1 q1 (by omega)).elim
          · have := h ms1 T1 g1 q1 (by omega)
            rw [if_pos hc', Option.bind_some, decide_eq_true (by omega)]
end Go.Proofs.Ytajmocgpjkhjlaa
