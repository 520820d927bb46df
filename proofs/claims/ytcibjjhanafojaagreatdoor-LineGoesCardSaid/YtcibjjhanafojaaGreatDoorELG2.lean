/- Plain: the chains, one by one; the law of chains. -/
import Derived.Test.YtcibjjhanafojaaGreatDoorELG1
set_option linter.unusedVariables false
set_option linter.unusedSimpArgs false
namespace Go.Proofs.YtcibjjhanafojaaGreatDoor
open Go.RowKit Go.Fp

/-- The way of a leg so far. -/
def Steps (n : ApiNet) (tr : Int) (rs : List ApiRoute) (leg : List Int) : Prop := ∀ i (h : i < leg.length), addM n tr rs (leg.take i) leg[i] = some 0
theorem steps_in {n : ApiNet} {rs : List ApiRoute} (C : Ctx n rs) {tr : Int} {leg : List Int} (hl : leg.length ≤ 60) (h : Steps n tr rs leg) : ∀ j ∈ leg, InR rs j := by
  have key : ∀ i, i ≤ leg.length → ∀ j ∈ leg.take i, InR rs j := by
    intro i
    induction i with
    | zero => intro _ j hj; simp at hj
    | succ i ih =>
      intro hi j hj
      have hi' : i < leg.length := by omega
      rw [List.take_add_one, List.getElem?_eq_getElem hi', Option.toList_some] at hj
      rcases List.mem_append.1 hj with hj | hj
      · exact ih (by omega) j hj
      · rw [List.mem_singleton.1 hj]
        obtain ⟨c, h1, h2⟩ := add_total C tr (ih (by omega)) (by simp; omega) leg[i]
        rw [h i hi'] at h1
        exact h2 (Option.some.inj h1).symm
  intro j hj
  exact key leg.length (Nat.le_refl _) j (by simpa using hj)
theorem steps_nil (n : ApiNet) (tr : Int) (rs : List ApiRoute) : Steps n tr rs [] := fun i h => absurd h (by simp)
theorem steps_add {n : ApiNet} {tr : Int} {rs : List ApiRoute} {leg : List Int} {k : Int} (h : Steps n tr rs leg) (hk : addM n tr rs leg k = some 0) : Steps n tr rs (leg ++ [k]) := fun i hi => by
  rw [List.length_append, List.length_singleton] at hi
  by_cases c : i < leg.length
  · rw [List.getElem_append_left c, List.take_append_of_le_length (by omega)]
    exact h i c
  · have e : i = leg.length := by omega
    subst e
    rw [List.getElem_append_right (by omega), List.take_append_of_le_length (by omega), List.take_length]
    simpa using hk
structure LegOk (n : ApiNet) (tr to : Int) (rs : List ApiRoute) (leg : List Int) : Prop where
  steps : Steps n tr rs leg
  some : 1 ≤ leg.length
  many : leg.length ≤ 4
  last : lastM n tr rs leg = .some to
structure Out (n : ApiNet) (tr to most : Int) (rs : List ApiRoute) (z : List Int) (out : List (List Int)) : Prop where
  so : out.Pairwise lexlt
  ok : ∀ o ∈ out, LegOk n tr to rs o
  lt : ∀ o ∈ out, lexlt o z
  few : (out.length : Int) ≤ most
theorem Out.to {n : ApiNet} {tr to most : Int} {rs : List ApiRoute} {z z' : List Int} {out : List (List Int)} (h : Out n tr to most rs z out) (hz : lexlt z z') : Out n tr to most rs z' out :=
  ⟨h.so, h.ok, fun o ho => lexlt_trans (h.lt o ho) hz, h.few⟩
theorem clone2_eq {l : List Int} (h : l.length ≤ 60) : mSlicesClone_2 l = some l := by
  unfold mSlicesClone_2
  rw [room_ok (by omega) (by omega)]
  rfl
/-- One number more at the end of a leg. -/
theorem chain_body {n : ApiNet} {rs : List ApiRoute} (C : Ctx n rs) {tr to most : Int} (hmost : 1 ≤ most ∧ most ≤ 20) {D : Prop} {leg : List Int} (hl : leg.length < 4) (hs : Steps n tr rs leg)
    {rc : List ApiRoute → Int → Int → List ByteArray → List ApiSection → List ApiLink → List ApiSignal → List ApiGate → Int → List ApiRoute → List Int → List (List Int) → List (List ApiNeed) → Option (List (List Int))}
    (hrc : ∀ (way : List Int) (out : List (List Int)), way.length = leg.length + 1 → way.length < 4 → Steps n tr rs way → Out n tr to most rs (way ++ [0]) out →
      (rc rs most to n.Stations n.Sections n.Links n.Signals n.Gates tr rs way out (rs.map (nd n)) = none ∧ D) ∨ ∃ o, rc rs most to n.Stations n.Sections n.Links n.Signals n.Gates tr rs way out (rs.map (nd n)) = some o ∧ Out n tr to most rs (way ++ [(rs.length : Int)]) o)
    {k : Nat} (hk : k < rs.length) {out : List (List Int)} (ho : Out n tr to most rs (leg ++ [(k : Int)]) out) :
    (mLineChains_1_3_L384 rs n.Stations n.Sections n.Links n.Signals n.Gates rs leg (rs.map (nd n)) most to tr rc k out = none ∧ D) ∨
    (∃ o, mLineChains_1_3_L384 rs n.Stations n.Sections n.Links n.Signals n.Gates rs leg (rs.map (nd n)) most to tr rc k out = some (.inl o) ∧ Out n tr to most rs (leg ++ [((k + 1 : Nat) : Int)]) o) ∨
    ∃ o, mLineChains_1_3_L384 rs n.Stations n.Sections n.Links n.Signals n.Gates rs leg (rs.map (nd n)) most to tr rc k out = some (.inr o) ∧ Out n tr to most rs (leg ++ [(rs.length : Int)]) o := by
  have hnext : lexlt (leg ++ [(k : Int)]) (leg ++ [((k + 1 : Nat) : Int)]) := lex_app (by omega) leg [] []
  have hin := steps_in C (by omega) hs
  unfold mLineChains_1_3_L384
  by_cases c0 : (out.length : Int) = most
  · rw [if_pos c0]
    refine .inr (.inr ⟨_, rfl, ho.to (lex_app (by omega) leg [] [])⟩)
  · rw [if_neg c0]
    obtain ⟨c, h1, h2⟩ := add_total C tr hin (by omega) (k : Int)
    have h1' : mLineLegsAdd_2 (k : Int) n.Stations n.Sections n.Links n.Signals n.Gates tr rs leg (rs.map (nd n)) = some c := h1
    rw [h1', Option.bind_some]
    by_cases c1 : c = 0
    · subst c1
      have hst := steps_add hs h1
      have hin2 := steps_in C (by simp; omega) hst
      obtain ⟨z, hz⟩ := last_total C tr hin2 (by simp) (by simp; omega)
      have hz' : mLineLegsLast n.Stations n.Sections n.Links n.Signals n.Gates tr rs (leg ++ [(k : Int)]) (rs.map (nd n)) = some z := hz
      rw [if_neg (by decide), clone2_eq (by omega), Option.bind_some, room_ok (by omega) (by omega), Option.bind_some, hz', Option.bind_some]
      by_cases c2 : z = to
      · have hfew := ho.few
        rw [if_pos c2, room_ok (by omega) (by omega), Option.bind_some]
        refine .inr (.inl ⟨_, rfl, ⟨?_, fun o hm => ?_, fun o hm => ?_, ?_⟩⟩)
        · rw [List.pairwise_append]
          refine ⟨ho.so, .cons (fun _ h => (List.not_mem_nil h).elim) .nil, fun a ha b hb => ?_⟩
          rw [List.mem_singleton.1 hb]
          exact ho.lt a ha
        · rcases List.mem_append.1 hm with hm | hm
          · exact ho.ok o hm
          · rw [List.mem_singleton.1 hm]
            exact ⟨hst, by simp, by simp; omega, by rw [hz, c2]⟩
        · rcases List.mem_append.1 hm with hm | hm
          · exact lexlt_trans (ho.lt o hm) hnext
          · rw [List.mem_singleton.1 hm]
            exact hnext
        · rw [List.length_append, List.length_singleton]
          push_cast
          omega
      · rw [if_neg c2]
        by_cases c3 : ((leg ++ [(k : Int)]).length : Int) < 4
        · rw [if_pos c3]
          rcases hrc (leg ++ [(k : Int)]) out (by simp) (by omega) hst (ho.to (lex_pre _ [])) with ⟨g1, hd⟩ | ⟨o, g1, g2⟩
          · rw [g1]
            exact .inl ⟨rfl, hd⟩
          · rw [g1]
            refine .inr (.inl ⟨_, rfl, g2.to ?_⟩)
            have := lex_app (show (k : Int) < ((k + 1 : Nat) : Int) by omega) leg [(rs.length : Int)] []
            simpa using this
        · rw [if_neg c3]
          exact .inr (.inl ⟨_, rfl, ho.to hnext⟩)
    · rw [if_pos c1]
      exact .inr (.inl ⟨_, rfl, ho.to hnext⟩)
theorem forM_invD {σ τ : Type} {body : Nat → σ → Option (σ ⊕ τ)} {D : Prop} (I : Nat → σ → Prop) (Q : τ → Prop) : ∀ (m k : Nat) (s : σ), I k s → (∀ j s, k ≤ j → j < k + m → I j s → (body j s = none ∧ D) ∨ (∃ s', body j s = some (.inl s') ∧ I (j + 1) s') ∨ ∃ t, body j s = some (.inr t) ∧ Q t) →
    (forM body m k s = none ∧ D) ∨ (∃ s', forM body m k s = some (.inl s') ∧ I (k + m) s') ∨ ∃ t, forM body m k s = some (.inr t) ∧ Q t
  | 0, k, s, h0, _ => .inr (.inl ⟨s, rfl, h0⟩)
  | m + 1, k, s, h0, h => by
    rcases h k s (Nat.le_refl _) (by omega) h0 with ⟨h1, hd⟩ | ⟨s', h1, h2⟩ | ⟨t, h1, h2⟩
    · refine .inl ⟨?_, hd⟩
      unfold Fp.forM
      rw [h1]
    · rw [forM_succ_inl h1, show k + (m + 1) = k + 1 + m by omega]
      exact forM_invD I Q m (k + 1) s' h2 (fun j t hj hj' hi => h j t (by omega) (by omega) hi)
    · exact .inr (.inr ⟨t, forM_succ_inr h1, h2⟩)
theorem chain_spec {n : ApiNet} {rs : List ApiRoute} (C : Ctx n rs) {tr to most : Int} (hmost : 1 ≤ most ∧ most ≤ 20) : ∀ (N : Nat) (leg : List Int) (out : List (List Int)), leg.length < 4 → Steps n tr rs leg → Out n tr to most rs (leg ++ [0]) out →
    (mLineChains_1_3 N rs most to n.Stations n.Sections n.Links n.Signals n.Gates tr rs leg out (rs.map (nd n)) = none ∧ N + leg.length ≤ 3) ∨ ∃ o, mLineChains_1_3 N rs most to n.Stations n.Sections n.Links n.Signals n.Gates tr rs leg out (rs.map (nd n)) = some o ∧ Out n tr to most rs (leg ++ [(rs.length : Int)]) o
  | 0, leg, out, hl, _, _ => .inl ⟨rfl, by omega⟩
  | N + 1, leg, out, hl, hs, ho => by
    unfold mLineChains_1_3
    rcases forM_invD (body := mLineChains_1_3_L384 rs n.Stations n.Sections n.Links n.Signals n.Gates rs leg (rs.map (nd n)) most to tr (mLineChains_1_3 N)) (D := N + (leg.length + 1) ≤ 3) (fun k out => Out n tr to most rs (leg ++ [(k : Int)]) out) (fun o => Out n tr to most rs (leg ++ [(rs.length : Int)]) o) rs.length 0 out ho (fun k out _ hk hi =>
      chain_body C hmost hl hs (fun way out hw hw4 hsw how => by
        have := chain_spec C hmost N way out hw4 hsw how
        rw [hw] at this
        exact this) (by omega) hi) with ⟨h1, hd⟩ | ⟨o, h1, h2⟩ | ⟨o, h1, h2⟩
    · rw [h1]
      exact .inl ⟨rfl, by omega⟩
    · rw [h1]
      rw [Nat.zero_add] at h2
      exact .inr ⟨o, rfl, h2⟩
    · rw [h1]
      exact .inr ⟨o, rfl, h2⟩
theorem chain_first {n : ApiNet} {rs : List ApiRoute} (C : Ctx n rs) {tr to most : Int} (hmost : 1 ≤ most ∧ most ≤ 20) : ∃ o, mLineChains_1 [] rs most to n.Stations n.Sections n.Links n.Signals n.Gates tr rs [] (rs.map (nd n)) = some o ∧ Out n tr to most rs [(rs.length : Int)] o := by
  unfold mLineChains_1
  have h0 : Out n tr to most rs ([] ++ [((0 : Nat) : Int)]) [] := ⟨.nil, fun o ho => (List.not_mem_nil ho).elim, fun o ho => (List.not_mem_nil ho).elim, by simp; omega⟩
  rcases forM_invD (body := mLineChains_1_L231 [] rs n.Stations n.Sections n.Links n.Signals n.Gates rs (rs.map (nd n)) most to tr) (D := False) (fun k out => Out n tr to most rs ([] ++ [(k : Int)]) out) (fun o => Out n tr to most rs ([] ++ [(rs.length : Int)]) o) rs.length 0 [] h0 (fun k out _ hk hi =>
    chain_body (D := False) (rc := fun a b c d e f g h i j w o t => lim (fun N => mLineChains_1_3 N a b c d e f g h i j w o t)) C hmost (by decide) (steps_nil n tr rs) (fun way out hw hw4 hsw how => .inr (by
      refine lim_ok ?_ (fun N t ht => ?_)
      · rcases chain_spec C hmost 4 way out hw4 hsw how with ⟨_, h⟩ | ⟨o, h, _⟩
        · omega
        · exact ⟨4, o, h⟩
      · rcases chain_spec C hmost N way out hw4 hsw how with ⟨h, _⟩ | ⟨o, h, h2⟩
        · rw [h] at ht; cases ht
        · rw [h] at ht
          rw [← Option.some.inj ht]
          exact h2)) (by omega) hi) with ⟨h1, hd⟩ | ⟨o, h1, h2⟩ | ⟨o, h1, h2⟩
  · exact hd.elim
  · rw [h1]
    rw [Nat.zero_add] at h2
    exact ⟨o, rfl, h2⟩
  · rw [h1]
    exact ⟨o, rfl, h2⟩
theorem platform_total {n : ApiNet} (hN : NetOk n) (x : Int) : ∃ b, mLinePlatform n x = some b := by
  have := hN.n60
  unfold mLinePlatform
  rw [chk_ok (by omega) (by omega), Option.bind_some, within_eq, Option.bind_some]
  by_cases c : 0 ≤ x ∧ x ≤ (n.Sections.length : Int) - 1
  · rw [decide_eq_true c, if_pos rfl, idx_sec ⟨c.1, by omega⟩, Option.bind_some, Option.bind_some]
    exact ⟨_, rfl⟩
  · rw [decide_eq_false c, if_neg (by decide), Option.bind_some]
    exact ⟨_, rfl⟩
theorem leg_checked {n : ApiNet} {rs : List ApiRoute} (C : Ctx n rs) {tr to : Int} (hr : mLineRoutes n = some (0, rs)) (h1 : mLinePlatform n tr = some true) (h2 : mLinePlatform n to = some true) {leg : List Int} (h : LegOk n tr to rs leg) : mLineCheckLeg n tr leg = some 0 := by
  have hs := h.some
  have hm := h.many
  have hl := h.last
  unfold lastM at hl
  have pass8 : ∀ {A : List ByteArray → List ApiSection → List ApiLink → List ApiSignal → List ApiGate → Int → List ApiRoute → List (List ApiNeed) → Option Int} {a b c d e f g h}, (some (a, b, c, d, e, f, g, h)).bind (unc8 A) = A a b c d e f g h := rfl
  unfold mLineCheckLeg
  rw [hr, pass2, if_neg (by decide), h1, Option.bind_some, if_pos rfl, if_neg (by omega), if_neg (by omega), open_eq C.net tr C.ok C.many, pass8]
  rcases forU (body := mLineCheckLeg_L232 leg n.Stations n.Sections n.Links n.Signals n.Gates rs (rs.map (nd n)) tr) (fun _ => True) (fun _ => False) leg.length (fun k hk => by
    have hcut : cutS leg 0 (k : Int) = some (leg.take k) := by
      have := cutS_ok (l := leg) (a := 0) (b := k) (by omega) (by omega)
      simpa using this
    have ha : mLineLegsAdd (leg.take k) leg[k] n.Stations n.Sections n.Links n.Signals n.Gates tr rs (rs.map (nd n)) = some 0 := h.steps k hk
    unfold mLineCheckLeg_L232
    rw [idx_lt hk, Option.bind_some, hcut, Option.bind_some, ha, Option.bind_some, if_neg (by decide)]
    exact .inl ⟨rfl, trivial⟩) with ⟨f1, _⟩ | ⟨_, _, hf⟩
  · rw [f1, Option.bind_some, Sum.elim_inl, hl, Option.bind_some, h2, Option.bind_some, Option.bind_some]
    rfl
  · exact hf.elim
theorem goes_plain {n : ApiNet} (hS : Small n) (from_ to most : Int) : mFishkeep1LineGoes n from_ to most = some true := by
  obtain ⟨c, hc, hok⟩ := check_spec hS
  have pass8 : ∀ {A : List ByteArray → List ApiSection → List ApiLink → List ApiSignal → List ApiGate → Int → List ApiRoute → List (List ApiNeed) → Option (Int × List (List Int))} {a b c d e f g h}, (some (a, b, c, d, e, f, g, h)).bind (unc8 A) = A a b c d e f g h := rfl
  -- a refusal
  have bad : ∀ e : Int, e ≠ 0 → mLineChains n from_ to most = some (e, []) → mFishkeep1LineGoes n from_ to most = some true := fun e he h => by
    unfold mFishkeep1LineGoes
    rw [awake_true, Option.bind_some, if_pos rfl, h, pass2, if_pos he]
    rfl
  by_cases h0 : c = 0
  · subst h0
    have hN := hok rfl
    obtain ⟨d, rs, h1, h2, h3, h4, h5⟩ := routes_spec hN
    have hr : mLineRoutes n = some (d, rs) := by
      unfold mLineRoutes
      rw [hc, Option.bind_some, if_neg (by decide), h1, pass2]
    by_cases hd : d = 0
    · subst hd
      have C : Ctx n rs := ⟨hN, h3, h5⟩
      obtain ⟨b1, p1⟩ := platform_total hN from_
      obtain ⟨b2, p2⟩ := platform_total hN to
      have hch : mLineChains n from_ to most = (if b1 = true then some (!b2) else some true).bind (fun x150 => if x150 = true then some (3, []) else (mLineWithin most 1 20).bind fun x158 => if x158 = true then (mLineOpen n from_ rs).bind (unc8 fun l165 l166 l167 l168 l169 x170 l171 l172 => (if from_ ≠ to then (mLineChains_1 [] rs most to l165 l166 l167 l168 l169 x170 l171 [] l172).bind fun l221 => some l221 else some []).bind (fun l218 => some (0, l218))) else some (2, [])) := by
        unfold mLineChains
        rw [hr, pass2, if_neg (by decide), p1, Option.bind_some, p2, Option.bind_some]
      by_cases hb : b1 = true ∧ b2 = true
      · obtain ⟨rfl, rfl⟩ := hb
        rw [if_pos rfl, Option.bind_some, if_neg (by decide), within_eq, Option.bind_some] at hch
        by_cases hmost : 1 ≤ most ∧ most ≤ 20
        · rw [decide_eq_true hmost, if_pos rfl, open_eq hN from_ h3 h5, pass8] at hch
          obtain ⟨l, hl, hout⟩ : ∃ l, mLineChains n from_ to most = some (0, l) ∧ Out n from_ to most rs [(rs.length : Int)] l := by
            by_cases hne : from_ ≠ to
            · obtain ⟨o, g1, g2⟩ := chain_first C (tr := from_) (to := to) hmost
              rw [if_pos hne, g1] at hch
              exact ⟨o, hch, g2⟩
            · rw [if_neg hne] at hch
              exact ⟨[], hch, ⟨.nil, fun o ho => (List.not_mem_nil ho).elim, fun o ho => (List.not_mem_nil ho).elim, by simp; omega⟩⟩
          have hfew := hout.few
          unfold mFishkeep1LineGoes
          rw [awake_true, Option.bind_some, if_pos rfl, hl, pass2, if_neg (by decide), hr, pass2]
          rcases forU (body := mFishkeep1LineGoes_L316 n from_ to l rs) (fun _ => True) (fun _ => False) l.length (fun k hk => by
            have hleg := hout.ok _ (List.getElem_mem hk)
            have hlast := hleg.last
            have hs1 := hleg.some
            have hs4 := hleg.many
            unfold lastM mLineLegsLast_2 at hlast
            unfold mFishkeep1LineGoes_L316
            rw [idx_lt hk, Option.bind_some, leg_checked C hr p1 p2 hleg, Option.bind_some, if_neg (by decide)]
            obtain ⟨q, hq, hqf⟩ : ∃ q, (if 0 < (k : Int) then (chk ((k : Int) - 1)).bind fun _ => (idx l ((k : Int) - 1)).bind fun x496 => (mSlicesCompare x496 l[k]).bind fun x515 => some (decide (0 ≤ x515)) else some false) = some q ∧ q = false := by
              by_cases hk0 : 0 < (k : Int)
              · obtain ⟨j, rfl⟩ : ∃ j, k = j + 1 := ⟨k - 1, by omega⟩
                obtain ⟨v, hv, hv2⟩ := compare_lt (List.pairwise_iff_getElem.1 hout.so j (j + 1) (by omega) hk (by omega))
                rw [if_pos hk0, chk_ok (by omega) (by omega), Option.bind_some, show ((j + 1 : Nat) : Int) - 1 = (j : Int) by omega, idx_lt (show j < l.length by omega), Option.bind_some, hv, Option.bind_some]
                exact ⟨_, rfl, decide_eq_false (by omega)⟩
              · rw [if_neg hk0]
                exact ⟨_, rfl, rfl⟩
            rw [hq, Option.bind_some, if_neg (by simp [hqf])]
            obtain ⟨z1, e1, hlast⟩ := bindS hlast
            obtain ⟨z2, e2, hlast⟩ := bindS hlast
            obtain ⟨z3, e3, hlast⟩ := bindS hlast
            obtain ⟨z4, e4, hlast⟩ := bindS hlast
            obtain ⟨z5, e5, hlast⟩ := bindS hlast
            have hz : z5.Section = to := Option.some.inj hlast
            rw [e1, Option.bind_some, e2, Option.bind_some, e3, Option.bind_some, e4, Option.bind_some, e5, Option.bind_some, if_neg (by simp [hz])]
            exact .inl ⟨rfl, trivial⟩) with ⟨f1, _⟩ | ⟨_, _, hf⟩
          · rw [f1, Option.bind_some, Sum.elim_inl, decide_eq_true hfew]
          · exact hf.elim
        · rw [decide_eq_false hmost, if_neg (by decide)] at hch
          exact bad 2 (by decide) hch
      · refine bad 3 (by decide) ?_
        rw [hch]
        cases b1 <;> cases b2 <;> first | rfl | exact absurd ⟨rfl, rfl⟩ hb
    · rcases h2 with h2 | ⟨h2, rfl⟩
      · exact absurd h2 hd
      · refine bad d hd ?_
        unfold mLineChains
        rw [hr, pass2, if_pos hd]
  · refine bad c h0 ?_
    unfold mLineChains mLineRoutes
    rw [hc, Option.bind_some, if_pos h0, pass2, if_pos h0]
end Go.Proofs.YtcibjjhanafojaaGreatDoor
