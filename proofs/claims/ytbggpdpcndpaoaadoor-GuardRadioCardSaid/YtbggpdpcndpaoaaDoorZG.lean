/- Plain: GuardRadio: a round, and the law. -/
import Derived.Test.YtbggpdpcndpaoaaDoorZF
set_option linter.unusedVariables false
set_option linter.unusedSimpArgs false
namespace Go.Proofs.YtbggpdpcndpaoaaDoor
open Go.RowKit Go.Fp

theorem un18 {A1 A2 A3 A4 A5 A6 A7 A8 A9 A10 A11 A12 A13 A14 A15 A16 A17 A18 τ : Type} {F : A1 → A2 → A3 → A4 → A5 → A6 → A7 → A8 → A9 → A10 → A11 → A12 → A13 → A14 → A15 → A16 → A17 → A18 → Option τ} {x1 : A1} {x2 : A2} {x3 : A3} {x4 : A4} {x5 : A5} {x6 : A6} {x7 : A7} {x8 : A8} {x9 : A9} {x10 : A10} {x11 : A11} {x12 : A12} {x13 : A13} {x14 : A14} {x15 : A15} {x16 : A16} {x17 : A17} {x18 : A18} : unc18 F (x1, x2, x3, x4, x5, x6, x7, x8, x9, x10, x11, x12, x13, x14, x15, x16, x17, x18) = F x1 x2 x3 x4 x5 x6 x7 x8 x9 x10 x11 x12 x13 x14 x15 x16 x17 x18 := rfl
/-- The numbers of an act. -/
def ActOk (a : Fishkeep1Act) : Prop := (0 ≤ a.Wait ∧ a.Wait ≤ 100) ∧ (0 ≤ a.A ∧ a.A ≤ 1073741824) ∧ (0 ≤ a.B ∧ a.B ≤ 1073741824) ∧ 0 ≤ a.C ∧ a.C ≤ 1073741824
theorem act_spec (a : Fishkeep1Act) : ∃ b, (if a.Wait < 0 then some true else if 100 < a.Wait then some true else if a.A < 0 then some true else if 1073741824 < a.A then some true else if a.B < 0 then some true else if 1073741824 < a.B then some true else if a.C < 0 then some true else some (decide (1073741824 < a.C))) = some b ∧ (b = false → ActOk a) := by
  by_cases c1 : a.Wait < 0
  · rw [if_pos c1]; exact ⟨true, rfl, fun h => by cases h⟩
  rw [if_neg c1]
  by_cases c2 : 100 < a.Wait
  · rw [if_pos c2]; exact ⟨true, rfl, fun h => by cases h⟩
  rw [if_neg c2]
  by_cases c3 : a.A < 0
  · rw [if_pos c3]; exact ⟨true, rfl, fun h => by cases h⟩
  rw [if_neg c3]
  by_cases c4 : 1073741824 < a.A
  · rw [if_pos c4]; exact ⟨true, rfl, fun h => by cases h⟩
  rw [if_neg c4]
  by_cases c5 : a.B < 0
  · rw [if_pos c5]; exact ⟨true, rfl, fun h => by cases h⟩
  rw [if_neg c5]
  by_cases c6 : 1073741824 < a.B
  · rw [if_pos c6]; exact ⟨true, rfl, fun h => by cases h⟩
  rw [if_neg c6]
  by_cases c7 : a.C < 0
  · rw [if_pos c7]; exact ⟨true, rfl, fun h => by cases h⟩
  rw [if_neg c7]
  refine ⟨_, rfl, fun h => ?_⟩
  have := of_decide_eq_false h
  refine ⟨⟨by omega, by omega⟩, ⟨by omega, by omega⟩, ⟨by omega, by omega⟩, by omega, by omega⟩
/-- The end of each way through a round. -/
theorem ends {k : Nat} {t : St} (i : Inv k t) : Good k ((some false).bind fun x => if x = true then some (.inr false) else some (.inl (tup t))) := .inl ⟨t, rfl, i⟩
theorem kinds3 {x a b c : Int} : ∃ g, (if x = a then some (decide (x = a)) else if x = b then some (decide (x = b)) else some (decide (x = c))) = some g ∧ (g = true ↔ x = a ∨ x = b ∨ x = c) := by
  by_cases h1 : x = a
  · rw [if_pos h1]; exact ⟨_, rfl, by simp [h1]⟩
  rw [if_neg h1]
  by_cases h2 : x = b
  · rw [if_pos h2]; exact ⟨_, rfl, by simp [h2]⟩
  rw [if_neg h2]
  exact ⟨_, rfl, by simp [h1, h2]⟩
theorem step {l : List Fishkeep1Act} {k : Nat} (hk : k < l.length) (h400 : k < 400) {t : St} (i : Inv k t) : Good (k + 1) (mFishkeep1GuardRadio_L1861 l k (tup t)) := by
  have l1 := i.len1; have l2 := i.len2; have l3 := i.len3; have he := i.e0; have hnw := i.nw; have hN := i.N0
  unfold mFishkeep1GuardRadio_L1861 tup
  rw [un18, idx_lt hk, Option.bind_some]
  generalize l[k] = a
  obtain ⟨b, hb, hok⟩ := act_spec a
  rw [hb, Option.bind_some]
  cases b with
  | true => rw [if_pos rfl]; exact .inr rfl
  | false =>
    obtain ⟨w1, w2, w3, w4⟩ := hok rfl
    rw [if_neg Bool.false_ne_true, chk_ok (by show -9223372036854775808 ≤ t.now + a.Wait; omega) (by show t.now + a.Wait ≤ 9223372036854775807; omega), Option.bind_some]
    have im := i.wait w1.1 w1.2
    by_cases c0 : a.Kind = 0
    · rw [if_pos c0]
      obtain ⟨q, err, s', e', n', h', w', e1, e2⟩ := begin_spec (t.now + a.Wait) (if 0 < t.s then max (t.e - a.A) 0 else a.A) t.s t.e t.n t.h t.w i.s0
      rw [at_spec (s := t.s) (e := t.e) (n := t.n) (h := t.h) (w := t.w) he w2, Option.bind_some, show mGuardUnitBegin (t.now + a.Wait) (if 0 < t.s then max (t.e - a.A) 0 else a.A) t.s t.e t.n t.h t.w = _ from e1, ps14, more_sent0 (l := t.sent) (by omega), Option.bind_some]
      rcases e2 with ⟨h0, rfl, rfl, rfl, rfl, rfl⟩ | ⟨rfl, hr, rfl, rfl, rfl, rfl, rfl, rfl⟩
      · rw [if_neg h0, test_bind (R := t.R) im.safe]
        exact ends im
      · rw [if_pos rfl]
        have i2 := i.begin (m := t.now + a.Wait) im (A := a.A) w2.1 rfl hr.1 hr.2
        rw [test_bind (R := t.R) i2.safe]
        exact ends i2
    rw [if_neg c0]
    by_cases c1 : a.Kind = 1
    · rw [if_pos c1]
      obtain ⟨q, err, n', e1, e2⟩ := say_spec (t.now + a.Wait) a.A 0 t.s t.e t.n t.h t.w i.n0.1
      rw [show mGuardUnitSay (t.now + a.Wait) a.A 0 t.s t.e t.n t.h t.w = _ from e1, ps10, more_sent0 (l := t.sent) (by omega), Option.bind_some]
      rcases e2 with ⟨h0, rfl⟩ | ⟨rfl, hs, hq1, hq2, rfl, hlt⟩
      · rw [if_neg h0, test_bind (R := t.R) im.safe]
        exact ends im
      · rw [if_pos rfl]
        have hs0 := i.s0
        have hn0 := i.n0
        have i2 := (im.count (n := t.n + 1) (w := t.w) ⟨by omega, by omega⟩).tell (q := q) (.inr (.inl hq1)) (by omega) (by simp only; omega) (by simp only; omega)
        rw [test_bind (R := t.R) i2.safe]
        exact ends i2
    rw [if_neg c1]
    obtain ⟨g, hg, hg2⟩ := kinds3 (x := a.Kind) (a := 2) (b := 3) (c := 4)
    rw [hg, Option.bind_some]
    by_cases cg : g = true
    · rw [if_pos cg]
      obtain ⟨q, ok, N', R', asks', e1, e2⟩ := asked_spec a.Kind (t.now + a.Wait) a.A t.S t.L t.N t.H t.R t.k0 t.k1 t.k2 t.k3 t.asks (hg2.1 cg) (by omega) hN.1
      rw [show mFishkeep1Asked_2 a.Kind (t.now + a.Wait) a.A t.S t.L t.N t.H t.R t.k0 t.k1 t.k2 t.k3 t.asks = _ from e1, ps12, more_sent (l := t.sent) (by omega), Option.bind_some]
      rcases e2 with ⟨rfl, rfl, rfl, rfl⟩ | ⟨rfl, hS, rfl, hlt, hq1, hq2, hq3, hR, hR2, rfl⟩
      · rw [if_neg Bool.false_ne_true, test_bind (R := t.R) im.safe]
        exact ends im
      · rw [if_pos rfl]
        have i2 := im.ask (q := q) (end_ := q.End) (R := R') (N := t.N + 1) hq1 hS hq2 hq3 rfl hR hR2 ⟨by omega, by omega⟩ (by simp only; omega) (by simp only; omega)
        rw [test_bind (R := R') i2.safe]
        exact ends i2
    rw [if_neg cg]
    obtain ⟨g', hg', hg2'⟩ := kinds3 (x := a.Kind) (a := 5) (b := 6) (c := 8)
    rw [hg', Option.bind_some]
    by_cases cg' : g' = true
    · rw [if_pos cg']
      by_cases cl : (t.sent.length : Int) = 0
      · rw [if_pos (show (t.sent.length : Int) = 0 from cl)]
        exact .inl ⟨_, rfl, im⟩
      · rw [if_neg (show ¬ (t.sent.length : Int) = 0 from cl)]
        have hne : ne0 (t.sent.length : Int) = some () := by
          unfold ne0
          rw [if_neg cl]
        have hm : Int.tmod a.A (t.sent.length : Int) = ((a.A.toNat % t.sent.length : Nat) : Int) := by
          obtain ⟨b, hb⟩ : ∃ b : Nat, a.A = (b : Int) := ⟨a.A.toNat, by omega⟩
          rw [hb, Int.toNat_natCast]
          exact (Int.ofNat_tmod b t.sent.length).symm
        have hlt : a.A.toNat % t.sent.length < t.sent.length := Nat.mod_lt _ (by omega)
        have hp := List.getElem_mem hlt
        obtain ⟨q, ok, t', e1, f1, f2, f3, f4, f5⟩ := comes_spec (by omega) i im a (hg2'.1 cg') w3.1 hp
        have e0 : idx t.sent (Int.tmod a.A (t.sent.length : Int)) = some t.sent[a.A.toNat % t.sent.length] := by rw [hm, idx_lt hlt]
        rw [show ne0 (t.sent.length : Int) = some () from hne, Option.bind_some, show idx t.sent (Int.tmod a.A (t.sent.length : Int)) = _ from e0, Option.bind_some]
        rw [show mFishkeep1Comes_2 a t.sent[a.A.toNat % t.sent.length] (t.now + a.Wait) t.s t.e t.n t.h t.w t.S t.L t.N t.H t.R t.k0 t.k1 t.k2 t.k3 t.bf t.asks = _ from e1, ps24, more_sent (l := t.sent) (by omega), Option.bind_some]
        cases ok with
        | false =>
          rw [if_neg Bool.false_ne_true, test_bind (R := t'.R) (e := t'.e) f4.safe]
          refine .inl ⟨t', ?_, f4⟩
          rw [← f1, ← f2, ← f3]
          rfl
        | true =>
          have f6 := f5 rfl
          rw [if_pos rfl, test_bind (R := t'.R) (e := t'.e) f6.safe]
          refine .inl ⟨_, ?_, f6⟩
          rw [← f1, ← f2]
          rfl
    rw [if_neg cg']
    by_cases c7 : a.Kind = 7
    · rw [if_pos c7, show room 8 (t.bf.length + 1) = some () from room_ok (by show (t.bf.length + 1) * 8 ≤ _; omega) (by show t.bf.length + 1 ≤ _; omega), Option.bind_some]
      obtain ⟨N', z1, z2, z3, z4, zl, e1, hN'⟩ : ∃ N' z1 z2 z3 z4 zl, mGuardCentreHand t.S t.L t.N t.H t.R t.asks t.k0 t.k1 t.k2 t.k3 = some (t.S, t.L, N', t.H, t.R, t.k0, t.k1, t.k2, t.k3, z1, z2, z3, z4, zl, t.asks) ∧ (N' = t.N ∨ N' = t.N + 1000) ∧ z1 = 0 := by
        unfold mGuardCentreHand
        rw [room_ok (by simp; omega) (by simp; omega), Option.bind_some]
        by_cases d : t.S ≠ 0
        · rw [if_pos d, chk_ok (by omega) (by omega), Option.bind_some]
          exact ⟨_, _, _, _, _, _, rfl, .inr rfl, rfl⟩
        · rw [if_neg d]
          refine ⟨_, _, _, _, _, _, rfl, .inl rfl, ?_⟩
          show t.S = 0
          omega
      rw [show mGuardCentreHand t.S t.L t.N t.H t.R t.asks t.k0 t.k1 t.k2 t.k3 = _ from e1, ps15, Option.bind_some]
      have i2 := i.hand (m := t.now + a.Wait) im hN'.1 (b := ⟨z1, t.L, z2, z3, z4, zl, [t.k0, t.k1, t.k2, t.k3]⟩) hN'.2
      rw [test_bind (R := t.R) i2.safe]
      exact ends i2
    · rw [if_neg c7, Option.bind_some, test_bind (R := t.R) im.safe]
      exact ends im
def t0 : St := ⟨0, 0, 0, 0, 0, 0, 0, 0, 0, 0, 0, 0, 0, 0, 0, [], [], []⟩
theorem inv0 : Inv 0 t0 where
  nw := by decide
  e0 := by decide
  n0 := by decide
  s0 := by decide
  N0 := by decide
  LS := by decide
  R0 := fun _ => rfl
  eR := fun h => absurd rfl h
  Ls := by decide
  pos := fun p hp => by cases hp
  all := fun p hp => by cases hp
  hello := fun p hp => by cases hp
  sess := fun p hp => by cases hp
  grants := fun p hp => by cases hp
  ofs := fun p hp => by cases hp
  agrees := fun h => absurd rfl h
  ends := fun h => absurd rfl h
  none_ := fun _ => rfl
  bfs := fun p hp => by cases hp
  len1 := Nat.le_refl 0
  len2 := Nat.le_refl 0
  len3 := Nat.le_refl 0
theorem radioPlain (l : List Fishkeep1Act) : mFishkeep1GuardRadio l = some true := by
  have hcut : cutS l 0 (min (l.length : Int) 400) = some (l.take (min l.length 400)) := by
    have := cutS_ok (l := l) (a := 0) (b := min l.length 400) (by omega) (by omega)
    rw [show ((0 : Nat) : Int) = 0 from rfl, show ((min l.length 400 : Nat) : Int) = min (l.length : Int) 400 by omega] at this
    rw [this]
    rfl
  have hlen : (l.take (min l.length 400)).length ≤ 400 := by rw [List.length_take]; omega
  unfold mFishkeep1GuardRadio
  rw [awakeT, Option.bind_some, if_pos rfl]
  show ((cutS l 0 (min (l.length : Int) 400)).bind _) = _
  rw [hcut, Option.bind_some]
  generalize l.take (min l.length 400) = m at hlen
  rcases forM_inv (body := mFishkeep1GuardRadio_L1861 m) (fun k s => ∃ t, s = tup t ∧ Inv k t) (fun b : Bool => b = true) m.length 0 (tup t0) ⟨t0, rfl, inv0⟩ (fun k s _ hk ⟨t, hs, hi⟩ => by
    subst hs
    rcases step (l := m) (by omega) (by omega) hi with ⟨t', h1, h2⟩ | h1
    · exact .inl ⟨_, h1, t', rfl, h2⟩
    · exact .inr ⟨_, h1, rfl⟩) with ⟨s, e1, _⟩ | ⟨b, e1, e2⟩
  · rw [show Go.Fp.forM (mFishkeep1GuardRadio_L1861 m) m.length 0 (0, 0, 0, 0, 0, 0, 0, 0, 0, 0, 0, 0, 0, 0, 0, [], [], []) = _ from e1]
    rfl
  · rw [show Go.Fp.forM (mFishkeep1GuardRadio_L1861 m) m.length 0 (0, 0, 0, 0, 0, 0, 0, 0, 0, 0, 0, 0, 0, 0, 0, [], [], []) = _ from e1, e2]
    rfl
end Go.Proofs.YtbggpdpcndpaoaaDoor
