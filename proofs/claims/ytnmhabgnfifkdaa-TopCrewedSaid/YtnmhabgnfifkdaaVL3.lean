/- Plain: the search for duties, whole. -/
import Derived.Test.YtnmhabgnfifkdaaVL2
set_option linter.unusedVariables false
set_option linter.unusedSimpArgs false
namespace Go.Proofs.Ytnmhabgnfifkdaa.Kept
open Go.RowKit Go.Fp

theorem containsB (u : List Bool) : ∃ b, mSlicesContains u false = some b ∧ (b = true ↔ false ∈ u) := by
  unfold mSlicesContains mSlicesIndex
  rcases forM_inv (body := mSlicesIndex_L39 u false) (fun k _ => ∀ j (h : j < u.length), j < k → u[j] = true) (fun c => 0 ≤ c ∧ false ∈ u) u.length 0 () (fun j _ hj => absurd hj (by omega)) (fun k s _ hk hi => by
    have hk' : k < u.length := by omega
    unfold mSlicesIndex_L39
    rw [idx_lt hk', Option.bind_some]
    cases hb : u[k] with
    | false =>
      refine .inr ⟨(k : Int), by simp, by omega, ?_⟩
      rw [← hb]
      exact List.getElem_mem _
    | true =>
      refine .inl ⟨(), by simp, fun j hj hjk => ?_⟩
      by_cases he : j = k
      · subst he; exact hb
      · exact hi j hj (by omega)) with ⟨_, h1, h2⟩ | ⟨c, h1, h2, h3⟩
  · rw [h1]
    refine ⟨false, rfl, ⟨fun h => absurd h (by decide), fun h => ?_⟩⟩
    obtain ⟨j, hj, he⟩ := List.getElem_of_mem h
    have := h2 j hj (by omega)
    rw [he] at this
    cases this
  · rw [h1]
    refine ⟨true, ?_, ⟨fun _ => h3, fun _ => rfl⟩⟩
    simp only [Option.bind_some, Sum.elim_inr]
    rw [decide_eq_true h2]
theorem pass3 {β γ τ : Type} {A B : β → γ → Option τ} {b : Bool} {y : β} {z : γ} : (some (b, y, z)).bind (unc3 fun x y z => if x = true then A y z else B y z) = if b = true then A y z else B y z := rfl
section
variable {l : List FleetTask} {s : FleetLimits}
theorem sol_nil {u : List Bool} {m a j : Int} {R : List (List Int)} (hf : Free u j) (ha : a < j) (h : Sol l s (put u j true) m a [j] R) : Sol l s u m a [] R := by
  obtain ⟨x, D, rfl, h1, h2, h3, h4⟩ := h
  exact ⟨⟨j, x, rfl, ha, ⟨hf, h1⟩, h2, h3⟩, by rw [List.length_cons]; omega⟩
theorem sol_nil' {u : List Bool} {m a : Int} {R : List (List Int)} (hf : false ∈ u) (h : Sol l s u m a [] R) : ∃ j, a < j ∧ Free u j ∧ Sol l s (put u j true) m a [j] R := by
  obtain ⟨h1, h2⟩ := h
  cases R with
  | nil => exact absurd (h1 _ hf) (by decide)
  | cons d D =>
    obtain ⟨j, x, rfl, ha, hfit, hj, hc⟩ := h1
    exact ⟨j, ha, hfit.1, x, D, rfl, hfit.2, hj, hc, by rw [List.length_cons] at h2; omega⟩
theorem sol_cons {u : List Bool} {m a j k : Int} {y : List Int} {R : List (List Int)} (hf : Free u j) (h : Sol l s (put u j true) m a ((k :: y) ++ [j]) R) : Sol l s u m a (k :: y) R := by
  have h' : ∃ x D, R = ((k :: (y ++ [j])) ++ x) :: D ∧ Fit (put u j true) x ∧ mFleetJudge l ((k :: (y ++ [j])) ++ x) s = some 0 ∧ Comp l s D (marks (put u j true) x) k ∧ (D.length : Int) + 1 = m := h
  obtain ⟨x, D, h0, h1, h2, h3, h4⟩ := h'
  have e : (k :: (y ++ [j])) ++ x = (k :: y) ++ (j :: x) := by simp
  rw [e] at h0 h2
  exact ⟨j :: x, D, h0, ⟨hf, h1⟩, h2, h3, h4⟩
theorem free_val {u : List Bool} {j : Int} (hl : u.length = l.length) (h : Free u j) : Val l j := ⟨h.1, by have := h.lt; omega⟩
theorem sol_split (C : Ctx l s) {u : List Bool} {m a k : Int} {y : List Int} {R D0 : List (List Int)} (I : In l u m a (k :: y) D0) (h : Sol l s u m a (k :: y) R) :
    (mFleetJudge l (k :: y) s = some 0 ∧ ∃ D, R = (k :: y) :: D ∧ Comp l s D u k ∧ (D.length : Int) + 1 = m) ∨
    ∃ j, Free u j ∧ (∀ h : (k :: y) ≠ [], Fol l s ((k :: y).getLast h) j) ∧ Sol l s (put u j true) m a ((k :: y) ++ [j]) R := by
  obtain ⟨x, D, h0, h1, h2, h3, h4⟩ := h
  cases x with
  | nil =>
    rw [List.append_nil] at h0 h2
    exact .inl ⟨h2, D, h0, h3, h4⟩
  | cons j x =>
    refine .inr ⟨j, h1.1, fun hne => ?_, ?_⟩
    · have hx := h1.len
      have hd := I.df
      have hv : ∀ i ∈ (k :: y) ++ (j :: x), Val l i := fun i hi => by
        rcases List.mem_append.1 hi with hi | hi
        · exact I.dv i hi
        · exact free_val I.len (h1.val i hi)
      obtain ⟨c, hc, hF⟩ := judge_total C hv (by simp) (by rw [List.length_append]; omega)
      rw [h2] at hc
      injection hc with hc
      have := hF hc.symm (k :: y).length (by simp) (by simp)
      rw [List.getLast_eq_getElem]
      rw [List.getElem_append_left (by simp), List.getElem_append_right (by simp)] at this
      simpa using this
    · have e : (k :: y) ++ (j :: x) = (k :: (y ++ [j])) ++ x := by simp
      rw [e] at h0 h2
      exact ⟨x, D, h0, h1.2, h2, h3, h4⟩
theorem div_nil (C : Ctx l s) (N : Nat) (ih : (∀ (u : List Bool) (m a : Int) (d : List Int) (D : List (List Int)), In l u m a d D → Says l s (N < cost u d + 1) (div l s N m a d u D) u D (Sol l s u m a d))) (u : List Bool) (m a : Int) (D : List (List Int)) (I : In l u m a [] D) : Says l s (N + 1 < cost u [] + 1) (div l s (N + 1) m a [] u D) u D (Sol l s u m a []) := by
    have n8 := C.n8
    have a0 := I.a0
    unfold div
    rw [mFleetDividerDivide]
    dsimp only
    rw [if_pos (show ([] : List Int).isEmpty = true from rfl)]
    obtain ⟨b, hb, hb2⟩ := containsB u
    rw [hb, Option.bind_some]
    by_cases hf : false ∈ u
    · rw [hb2.2 hf, if_pos rfl]
      by_cases hm : m = 0
      · rw [if_pos hm]
        refine .inr (.inr ⟨rfl, fun R hR => ?_⟩)
        obtain ⟨h1, h2⟩ := hR
        cases R with
        | nil => exact absurd (h1 _ hf) (by decide)
        | cons d R => rw [List.length_cons] at h2; omega
      · rw [if_neg hm, chk_ok (by omega) (by omega), Option.bind_some]
        have hm1 : 1 ≤ m := by have := I.m0; omega
        rcases loopM_invX (step := mFleetDividerDivide_L952 l m a s.Change s.Long s.Work s.After s.Break s.Rest s.Row (mFleetDividerDivide N)) (N + 1 < cost u [] + 1)
          (fun x => x.2.1 = u ∧ x.2.2 = D ∧ a + 1 ≤ x.1 ∧ x.1 ≤ 9 ∧ ∀ j : Int, a < j → j < x.1 → Free u j → ∀ R, ¬ Sol l s (put u j true) m a [j] R)
          (fun t => (t = .inl (u, D) ∧ ∀ R, ¬ Sol l s u m a [] R) ∨ ∃ u' R, t = .inr (true, u', D ++ R) ∧ Sol l s u m a [] R)
          (fun x => (20 - x.1).toNat) (fun x hi => by
            obtain ⟨k, u1, D1⟩ := x
            obtain ⟨rfl, rfl, h3, h4, h5⟩ := hi
            simp only at h3 h4 h5
            unfold mFleetDividerDivide_L952
            simp only [unc3]
            by_cases hk : k < (l.length : Int)
            · rw [if_pos hk]
              obtain ⟨q, rfl⟩ : ∃ q : Nat, k = (q : Int) := ⟨k.toNat, by omega⟩
              rcases take_says C ih I hm1 (k := q) (by omega) with ⟨h6, h7⟩ | ⟨u', R, h6, h7⟩ | ⟨h6, h7⟩
              · exact .inl ⟨by rw [show mFleetDividerTake (mFleetDividerDivide N) m a [] (q : Int) l s.Change s.Long s.Work s.After s.Break s.Rest s.Row u1 D1 = none from h6]; rfl, h7⟩
              · refine .inr (.inr ⟨_, by rw [show mFleetDividerTake (mFleetDividerDivide N) m a [] (q : Int) l s.Change s.Long s.Work s.After s.Break s.Rest s.Row u1 D1 = _ from h6, pass3, if_pos rfl], .inr ⟨u', R, rfl, ?_⟩⟩)
                exact sol_nil h7.1 (by omega) h7.2.2
              · refine .inr (.inl ⟨((q : Int) + 1, u1, D1), ?_, ⟨rfl, rfl, by simp only; omega, by simp only; omega, ?_⟩, by simp only; omega⟩)
                · rw [show mFleetDividerTake (mFleetDividerDivide N) m a [] (q : Int) l s.Change s.Long s.Work s.After s.Break s.Rest s.Row u1 D1 = _ from h6, pass3, if_neg (by decide), chk_ok (by omega) (by omega), Option.bind_some]
                · intro j hj hjk hfj R hR
                  simp only at hjk
                  by_cases e : j = (q : Int)
                  · subst e
                    exact h7 R ⟨hfj, fun h => absurd rfl h, hR⟩
                  · exact h5 j hj (by omega) hfj R hR
            · rw [if_neg hk]
              refine .inr (.inr ⟨_, rfl, .inl ⟨rfl, fun R hR => ?_⟩⟩)
              obtain ⟨j, hj, hfj, hs⟩ := sol_nil' hf hR
              have := hfj.lt
              rw [I.len] at this
              exact h5 j hj (by omega) hfj R hs) (a + 1, u, D) ⟨rfl, rfl, by simp only; omega, by simp only; omega, fun j h1 h2 => by simp only at h2; omega⟩ with ⟨h1, h2⟩ | ⟨t, h1, h2⟩
        · rw [h1]
          exact .inl ⟨rfl, h2⟩
        · rw [h1, Option.bind_some]
          rcases h2 with ⟨rfl, h2⟩ | ⟨u', R, rfl, h2⟩
          · exact .inr (.inr ⟨rfl, h2⟩)
          · exact .inr (.inl ⟨u', R, rfl, h2⟩)
    · have hbf : b = false := by
        cases b with
        | false => rfl
        | true => exact absurd (hb2.1 rfl) hf
      rw [hbf, if_neg (by decide)]
      have hall : ∀ b ∈ u, b = true := fun b hb => by
        cases b with
        | true => rfl
        | false => exact absurd hb hf
      by_cases hm : m = 0
      · rw [decide_eq_true hm]
        exact .inr (.inl ⟨u, [], by rw [List.append_nil], hall, by rw [hm]; rfl⟩)
      · rw [decide_eq_false hm]
        refine .inr (.inr ⟨rfl, fun R hR => ?_⟩)
        obtain ⟨h1, h2⟩ := hR
        cases R with
        | nil => exact hm (by rw [← h2]; rfl)
        | cons d R =>
          obtain ⟨j, x, rfl, ha, hfit, _⟩ := h1
          have := List.mem_of_getElem? hfit.1.2
          exact hf this
theorem div_cons (C : Ctx l s) (N : Nat) (ih : (∀ (u : List Bool) (m a : Int) (d : List Int) (D : List (List Int)), In l u m a d D → Says l s (N < cost u d + 1) (div l s N m a d u D) u D (Sol l s u m a d))) (u : List Bool) (m a k0 : Int) (y : List Int) (D : List (List Int)) (I : In l u m a (k0 :: y) D) : Says l s (N + 1 < cost u (k0 :: y) + 1) (div l s (N + 1) m a (k0 :: y) u D) u D (Sol l s u m a (k0 :: y)) := by
    have n8 := C.n8
    have a0 := I.a0
    have hm1 := I.m1 (by simp)
    have hm8 := I.m0
    have hDl := I.Dl
    rw [if_neg (by simp)] at hDl
    have hdf := I.df
    have hkv := I.dv k0 (by simp)
    have hk1 := hkv.1
    have hk2 := hkv.2
    unfold div
    rw [mFleetDividerDivide]
    dsimp only
    rw [if_neg (show ¬ (k0 :: y).isEmpty = true by simp)]
    obtain ⟨c, hc, _⟩ := judge_total C I.dv (by simp) (by omega)
    rw [show (⟨s.Change, s.Long, s.Work, s.After, s.Break, s.Rest, s.Row⟩ : FleetLimits) = s from rfl, hc, Option.bind_some]
    have I1 : In l u (m - 1) k0 [] (D ++ [k0 :: y]) := by
      refine ⟨I.len, by omega, fun h => absurd rfl h, by omega, (fun i hi => absurd hi (by simp)), (by simp at hdf ⊢; omega), ?_⟩
      rw [if_pos rfl, List.length_append]
      simp
      omega
    have first : Says l s (N + 1 < cost u (k0 :: y) + 1) (if c = 0 then div l s N (m - 1) k0 [] u (D ++ [k0 :: y]) else some (false, u, D ++ [k0 :: y])) u (D ++ [k0 :: y]) (fun R => c = 0 ∧ Sol l s u (m - 1) k0 [] R) := by
      by_cases h0 : c = 0
      · rw [if_pos h0]
        rcases ih _ _ _ _ _ I1 with ⟨h1, h2⟩ | ⟨u', R, h1, h2⟩ | ⟨h1, h2⟩
        · refine .inl ⟨h1, ?_⟩
          unfold cost at h2 ⊢
          rw [if_pos rfl] at h2
          rw [if_neg (by simp)]
          omega
        · exact .inr (.inl ⟨u', R, h1, h0, h2⟩)
        · exact .inr (.inr ⟨h1, fun R hR => h2 R hR.2⟩)
      · rw [if_neg h0]
        exact .inr (.inr ⟨rfl, fun R hR => h0 hR.1⟩)
    have loop : (∀ R, ¬ (c = 0 ∧ Sol l s u (m - 1) k0 [] R)) → Says l s (N + 1 < cost u (k0 :: y) + 1) ((forM (mFleetDividerDivide_L1175 (k0 :: y) l m a s.Change s.Long s.Work s.After s.Break s.Rest s.Row (mFleetDividerDivide N)) l.length 0 (u, D)).bind fun t => Sum.elim (unc2 fun l1226 l1228 =>
        some (false, l1226, l1228)) (fun q => some q) t) u D (Sol l s u m a (k0 :: y)) := fun hno => by
      rcases forM_invX (body := mFleetDividerDivide_L1175 (k0 :: y) l m a s.Change s.Long s.Work s.After s.Break s.Rest s.Row (mFleetDividerDivide N)) (N + 1 < cost u (k0 :: y) + 1)
        (fun k x => x = (u, D) ∧ ∀ j : Nat, j < k → ∀ R, ¬ (Free u (j : Int) ∧ (∀ h : (k0 :: y) ≠ [], Fol l s ((k0 :: y).getLast h) (j : Int)) ∧ Sol l s (put u (j : Int) true) m a ((k0 :: y) ++ [(j : Int)]) R))
        (fun t => ∃ u' R, t = (true, u', D ++ R) ∧ Sol l s u m a (k0 :: y) R) l.length 0 (u, D) ⟨rfl, fun j hj => absurd hj (by omega)⟩ (fun k x _ hk hi => by
          obtain ⟨rfl, hi⟩ := hi
          unfold mFleetDividerDivide_L1175
          simp only [unc2]
          rcases take_says C ih I hm1 (k := k) (by omega) with ⟨h6, h7⟩ | ⟨u', R, h6, h7⟩ | ⟨h6, h7⟩
          · exact .inl ⟨by rw [show mFleetDividerTake (mFleetDividerDivide N) m a (k0 :: y) (k : Int) l s.Change s.Long s.Work s.After s.Break s.Rest s.Row u D = none from h6]; rfl, h7⟩
          · refine .inr (.inr ⟨_, by rw [show mFleetDividerTake (mFleetDividerDivide N) m a (k0 :: y) (k : Int) l s.Change s.Long s.Work s.After s.Break s.Rest s.Row u D = _ from h6, pass3, if_pos rfl], u', R, rfl, ?_⟩)
            exact sol_cons h7.1 h7.2.2
          · refine .inr (.inl ⟨(u, D), by rw [show mFleetDividerTake (mFleetDividerDivide N) m a (k0 :: y) (k : Int) l s.Change s.Long s.Work s.After s.Break s.Rest s.Row u D = _ from h6, pass3, if_neg (by decide)], rfl, fun j hj R hR => ?_⟩)
            by_cases e : j = k
            · subst e; exact h7 R hR
            · exact hi j (by omega) R hR) with ⟨h1, h2⟩ | ⟨x, h1, rfl, h2⟩ | ⟨t, h1, u', R, rfl, h2⟩
      · rw [h1]
        exact .inl ⟨rfl, h2⟩
      · rw [h1, Option.bind_some]
        refine .inr (.inr ⟨rfl, fun R hR => ?_⟩)
        rcases sol_split C I hR with ⟨h3, D', rfl, h4, h5⟩ | ⟨j, h3, h4, h5⟩
        · rw [hc] at h3
          injection h3 with h3
          exact hno D' ⟨h3, h4, by omega⟩
        · have := h3.lt
          have := h3.1
          have hl := I.len
          refine h2 j.toNat (by omega) R ?_
          rw [show ((j.toNat : Nat) : Int) = j by omega]
          exact ⟨h3, h4, h5⟩
      · rw [h1, Option.bind_some]
        exact .inr (.inl ⟨u', R, rfl, h2⟩)
    by_cases h0 : c = 0
    · rw [if_pos h0] at first
      rw [if_pos h0, room_ok (by omega) (by omega), Option.bind_some, chk_ok (by omega) (by omega), Option.bind_some, show idx (k0 :: y) 0 = some k0 from rfl, Option.bind_some]
      rcases first with ⟨h1, h2⟩ | ⟨u', R, h1, h2⟩ | ⟨h1, h2⟩
      · rw [show mFleetDividerDivide N (m - 1) k0 [] l s.Change s.Long s.Work s.After s.Break s.Rest s.Row u (D ++ [k0 :: y]) = none from h1]
        exact .inl ⟨rfl, h2⟩
      · rw [show mFleetDividerDivide N (m - 1) k0 [] l s.Change s.Long s.Work s.After s.Break s.Rest s.Row u (D ++ [k0 :: y]) = _ from h1, pass3, if_pos rfl]
        refine .inr (.inl ⟨u', (k0 :: y) :: R, ?_, [], R, by rw [List.append_nil], trivial, by rw [List.append_nil, hc, h0], h2.2.1, by have := h2.2.2; omega⟩)
        rw [List.append_assoc]
        rfl
      · rw [show mFleetDividerDivide N (m - 1) k0 [] l s.Change s.Long s.Work s.After s.Break s.Rest s.Row u (D ++ [k0 :: y]) = _ from h1, pass3]
        have hcut : cutS (D ++ [k0 :: y]) 0 (((D ++ [k0 :: y]).length : Int) - 1) = some D := by
          have hl : (D ++ [k0 :: y]).length = D.length + 1 := by simp
          rw [show (((D ++ [k0 :: y]).length : Int) - 1) = ((D.length : Nat) : Int) by omega]
          refine (cutS_ok (a := 0) (Nat.zero_le _) (by omega)).trans ?_
          simp
        rw [if_neg (by decide), chk_ok (by simp <;> omega) (by simp <;> omega), Option.bind_some, hcut, Option.bind_some, Option.bind_some]
        exact loop h2
    · rw [if_neg h0, Option.bind_some]
      exact loop (fun R hR => h0 hR.1)
theorem div_says (C : Ctx l s) (N : Nat) : ∀ (u : List Bool) (m a : Int) (d : List Int) (D : List (List Int)), In l u m a d D → Says l s (N < cost u d + 1) (div l s N m a d u D) u D (Sol l s u m a d) := by
  induction N with
  | zero => exact fun u m a d D I => .inl ⟨rfl, by omega⟩
  | succ N ih =>
    intro u m a d D I
    cases d with
    | nil => exact div_nil C N ih u m a D I
    | cons k y => exact div_cons C N ih u m a k y D I
end
end Go.Proofs.Ytnmhabgnfifkdaa.Kept
