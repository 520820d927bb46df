/- Plain: packets, a unit, a centre: what each hears and sends. -/
import Derived.Test.YtbggpdpcndpaoaaDoorZS
set_option linter.unusedVariables false
set_option linter.unusedSimpArgs false
namespace Go.Proofs.YtbggpdpcndpaoaaDoor
open Go.RowKit Go.Fp

/-- A packet that passes the check. -/
structure POk (p : GuardPacket) : Prop where
  kind : 1 ≤ p.Kind ∧ p.Kind ≤ 8
  sess : 1 ≤ p.Session ∧ p.Session ≤ 1000000
  no : 1 ≤ p.No ∧ p.No ≤ 1000000
  of_ : 0 ≤ p.Of ∧ p.Of ≤ 1000000
  end_ : 0 ≤ p.End ∧ p.End ≤ 20000000
  at_ : 0 ≤ p.At ∧ p.At ≤ 20000000
  sent : 0 ≤ p.Sent ∧ p.Sent ≤ 28800
theorem used_total (p : GuardPacket) : ∃ a b c d e f g h, mGuardPacketUsed p = some (a, b, c, d, e, f, g, h) := by
  unfold mGuardPacketUsed
  have key : ∀ (t : Option (Int × Int × Int × Int)), (∃ x y z u, t = some (x, y, z, u)) → ∃ a b c d e f g h, t.bind (unc4 fun x58 x59 x60 x61 => some (p.Kind, p.Session, p.No, x58, x59, x60, x61, p.Sent)) = some (a, b, c, d, e, f, g, h) := fun t ⟨x, y, z, u, ht⟩ => by subst ht; exact ⟨_, _, _, _, _, _, _, _, rfl⟩
  refine key _ ?_
  by_cases h1 : p.Kind = 1
  · rw [if_pos h1]; exact ⟨_, _, _, _, rfl⟩
  rw [if_neg h1]
  by_cases h3 : p.Kind = 3
  · rw [if_pos h3]; exact ⟨_, _, _, _, rfl⟩
  rw [if_neg h3]
  obtain ⟨b, hb⟩ : ∃ b, (if p.Kind = 4 then some (decide (p.Kind = 4)) else some (decide (p.Kind = 5))) = some b := by
    split <;> exact ⟨_, rfl⟩
  rw [hb, Option.bind_some]
  split
  · exact ⟨_, _, _, _, rfl⟩
  · split
    · exact ⟨_, _, _, _, rfl⟩
    · split <;> exact ⟨_, _, _, _, rfl⟩
theorem pcheck (p : GuardPacket) : ∃ e, mGuardPacketCheck p = some e ∧ (e = 0 → POk p) := by
  unfold mGuardPacketCheck
  simp only [gwithin_eq, Option.bind_some]
  by_cases k1 : 1 ≤ p.Kind ∧ p.Kind ≤ 8
  case neg => exact ⟨15, by simp [k1], fun h => absurd h (by decide)⟩
  by_cases k2 : 1 ≤ p.Session ∧ p.Session ≤ 1000000
  case neg => exact ⟨2, by simp [k1, k2], fun h => absurd h (by decide)⟩
  by_cases k3 : 1 ≤ p.No ∧ p.No ≤ 1000000
  case neg => exact ⟨2, by simp [k1, k2, k3], fun h => absurd h (by decide)⟩
  by_cases k4 : 0 ≤ p.Of ∧ p.Of ≤ 1000000
  case neg => exact ⟨2, by simp [k1, k2, k3, k4], fun h => absurd h (by decide)⟩
  by_cases k5 : 0 ≤ p.End ∧ p.End ≤ 20000000
  case neg => exact ⟨2, by simp [k1, k2, k3, k4, k5], fun h => absurd h (by decide)⟩
  by_cases k6 : 0 ≤ p.At ∧ p.At ≤ 20000000
  case neg => exact ⟨2, by simp [k1, k2, k3, k4, k5, k6], fun h => absurd h (by decide)⟩
  by_cases k7 : 0 ≤ p.Speed ∧ p.Speed ≤ 6000
  case neg => exact ⟨2, by simp [k1, k2, k3, k4, k5, k6, k7], fun h => absurd h (by decide)⟩
  by_cases k8 : 0 ≤ p.Sent ∧ p.Sent ≤ 28800
  case neg => exact ⟨2, by simp [k1, k2, k3, k4, k5, k6, k7, k8], fun h => absurd h (by decide)⟩
  obtain ⟨a, b, c, d, e, f, g, h, hu⟩ := used_total p
  have hall : POk p := ⟨k1, k2, k3, k4, k5, k6, k8⟩
  simp only [k1, k2, k3, k4, k5, k6, k7, k8, and_self, decide_true, if_true, Bool.not_true, Option.bind_some]
  rw [if_neg (by decide), hu, Option.bind_some]
  simp only [unc8]
  by_cases h1 : p.Kind = a ∧ p.Session = b ∧ p.No = c ∧ p.Of = d ∧ p.End = e ∧ p.At = f ∧ p.Speed = g ∧ p.Sent = h
  · rw [if_pos h1]
    by_cases h2 : p.Of = 0
    · rw [if_pos h2, Option.bind_some]
      by_cases h3 : 7 ≤ p.Kind
      · exact ⟨1, by simp [h3], fun _ => hall⟩
      · exact ⟨0, by simp [h3], fun _ => hall⟩
    · rw [if_neg h2]
      exact ⟨0, by simp, fun _ => hall⟩
  · rw [if_neg h1]
    exact ⟨1, by simp, fun _ => hall⟩
theorem fresh_spec (p : GuardPacket) {now : Int} (h0 : 0 ≤ now) (h1 : now ≤ 1000000) : ∃ b, mGuardFresh p now = some b ∧ (b = true → POk p) := by
  obtain ⟨e, he, hp⟩ := pcheck p
  unfold mGuardFresh
  rw [he, Option.bind_some]
  by_cases c : e = 0
  · have ho := hp c
    have := ho.sent
    rw [if_pos c, gwithin_eq, Option.bind_some]
    by_cases d : 0 ≤ now ∧ now ≤ 28800
    · rw [decide_eq_true d, if_pos rfl, chk_ok (by omega) (by omega), Option.bind_some, gwithin_eq, Option.bind_some, Option.bind_some]
      exact ⟨_, rfl, fun _ => ho⟩
    · rw [decide_eq_false d, if_neg Bool.false_ne_true, Option.bind_some]
      exact ⟨_, rfl, fun h => by cases h⟩
  · rw [if_neg c, Option.bind_some]
    exact ⟨_, rfl, fun h => by cases h⟩
/-- What a unit makes of a packet. -/
def HearU (p : GuardPacket) (now s e n h w : Int) (q : GuardPacket) (ok : Bool) (e' n' h' w' : Int) : Prop :=
  (ok = false ∧ e' = e ∧ n' = n ∧ h' = h ∧ w' = w) ∨
  (POk p ∧ p.Session = s ∧ h < p.No ∧ h' = p.No ∧ w' = now ∧ (0 ≤ n' ∧ n' ≤ 1000000) ∧
    ((ok = false ∧ (e' = e ∨ p.Kind = 4 ∧ e' = max e p.End)) ∨
     (ok = true ∧ q.Session = s ∧ (0 ≤ e' ∧ e' ≤ e) ∧ (q.Kind = 8 ∨ q.Kind = 7 ∧ q.Of = p.No ∧ q.End = e' ∧ (p.Kind = 5 ∨ p.Kind = 6)))))
theorem guard_spec (p : GuardPacket) {now a c s h : Int} (h0 : 0 ≤ now) (h1 : now ≤ 1000000) : ∃ g, ((mGuardFresh p now).bind fun x => if x = true then (if p.Session ≠ s then some true else if p.No ≤ h then some true else (mGuardWithin a 0 20000000).bind fun y => if y = true then (mGuardWithin c 0 20000000).bind fun z => some (!z) else some true) else some true) = some g ∧ (g = false → POk p ∧ p.Session = s ∧ h < p.No ∧ (0 ≤ a ∧ a ≤ 20000000) ∧ 0 ≤ c ∧ c ≤ 20000000) := by
  obtain ⟨b, hb, hp⟩ := fresh_spec p h0 h1
  rw [hb, Option.bind_some]
  cases b with
  | false => rw [if_neg Bool.false_ne_true]; exact ⟨true, rfl, fun h => by cases h⟩
  | true =>
    rw [if_pos rfl]
    by_cases e1 : p.Session ≠ s
    · rw [if_pos e1]; exact ⟨true, rfl, fun h => by cases h⟩
    · rw [if_neg e1]
      by_cases e2 : p.No ≤ h
      · rw [if_pos e2]; exact ⟨true, rfl, fun h => by cases h⟩
      · rw [if_neg e2, gwithin_eq, Option.bind_some]
        by_cases e3 : 0 ≤ a ∧ a ≤ 20000000
        · rw [decide_eq_true e3, if_pos rfl, gwithin_eq, Option.bind_some]
          refine ⟨_, rfl, fun hg => ⟨hp rfl, by omega, by omega, e3, ?_⟩⟩
          have : decide (0 ≤ c ∧ c ≤ 20000000) = true := by simpa using hg
          exact of_decide_eq_true this
        · rw [decide_eq_false e3, if_neg Bool.false_ne_true]; exact ⟨true, rfl, fun h => by cases h⟩
abbrev pt (q : GuardPacket) (ok : Bool) (e n h w : Int) : Int × Int × Int × Int × Int × Int × Int × Int × Bool × Int × Int × Int × Int := (q.Kind, q.Session, q.No, q.Of, q.End, q.At, q.Speed, q.Sent, ok, e, n, h, w)
def p0 : GuardPacket := ⟨0, 0, 0, 0, 0, 0, 0, 0⟩
theorem full_spec {p : GuardPacket} {n : Int} : ∃ g, (if p.Kind = 5 then some (decide (1000000 ≤ n)) else if p.Kind = 6 then some (decide (1000000 ≤ n)) else some false) = some g ∧ (g = false → (p.Kind = 5 ∨ p.Kind = 6) → n < 1000000) := by
  by_cases h5 : p.Kind = 5
  · rw [if_pos h5]
    exact ⟨_, rfl, fun h _ => by have := of_decide_eq_false h; omega⟩
  · rw [if_neg h5]
    by_cases h6 : p.Kind = 6
    · rw [if_pos h6]
      exact ⟨_, rfl, fun h _ => by have := of_decide_eq_false h; omega⟩
    · rw [if_neg h6]
      exact ⟨_, rfl, fun _ h => by omega⟩
theorem pass9 {A1 A2 A3 A4 A5 A6 A7 A8 A9 τ : Type} {F : A1 → A2 → A3 → A4 → A5 → A6 → A7 → A8 → A9 → Option τ} {a : A1} {b : A2} {c : A3} {d : A4} {e : A5} {f : A6} {g : A7} {h : A8} {i : A9} : (some (a, b, c, d, e, f, g, h, i)).bind (unc9 F) = F a b c d e f g h i := rfl
theorem hearU_spec (p : GuardPacket) {now a c s e n h w : Int} (h0 : 0 ≤ now) (h1 : now ≤ 1000000) (e0 : 0 ≤ e) (e1 : e ≤ 20000000) (n0 : 0 ≤ n) (n1 : n ≤ 1000000) :
    ∃ q ok e' n' h' w', mGuardUnitHear p now a c s e n h w = some (pt q ok e' n' h' w') ∧ HearU p now s e n h w q ok e' n' h' w' := by
  obtain ⟨g, hg, hp⟩ := guard_spec p (a := a) (c := c) (s := s) (h := h) h0 h1
  obtain ⟨f, hf, hn⟩ := full_spec (p := p) (n := n)
  have no : ∃ q ok e' n' h' w', some (pt p0 false e n h w) = some (pt q ok e' n' h' w') ∧ HearU p now s e n h w q ok e' n' h' w' := ⟨p0, false, e, n, h, w, rfl, .inl ⟨rfl, rfl, rfl, rfl, rfl⟩⟩
  unfold mGuardUnitHear
  by_cases k2 : p.Kind = (2 : Int)
  · rw [if_pos k2, hg, Option.bind_some]
    cases g with
    | true => rw [if_pos rfl]; exact no
    | false =>
      obtain ⟨ho, o1, o2, o3, o4⟩ := hp rfl
      rw [if_neg Bool.false_ne_true, hf, Option.bind_some]
      cases f with
      | true => rw [if_pos rfl]; exact no
      | false =>
        rw [if_neg Bool.false_ne_true]
        unfold mGuardUnitWelcome
        refine ⟨p0, false, e, n, p.No, now, rfl, .inr ⟨ho, o1, o2, rfl, rfl, ⟨n0, n1⟩, .inl ⟨rfl, .inl rfl⟩⟩⟩
  rw [if_neg k2]
  by_cases k4 : p.Kind = (4 : Int)
  · rw [if_pos k4, hg, Option.bind_some]
    cases g with
    | true => rw [if_pos rfl]; exact no
    | false =>
      obtain ⟨ho, o1, o2, o3, o4⟩ := hp rfl
      rw [if_neg Bool.false_ne_true, hf, Option.bind_some]
      cases f with
      | true => rw [if_pos rfl]; exact no
      | false =>
        rw [if_neg Bool.false_ne_true]
        unfold mGuardUnitGrant
        refine ⟨p0, false, max e p.End, n, p.No, now, rfl, .inr ⟨ho, o1, o2, rfl, rfl, ⟨n0, n1⟩, .inl ⟨rfl, .inr ⟨k4, rfl⟩⟩⟩⟩
  rw [if_neg k4]
  by_cases k5 : p.Kind = (5 : Int)
  · rw [if_pos k5, hg, Option.bind_some]
    cases g with
    | true => rw [if_pos rfl]; exact no
    | false =>
      obtain ⟨ho, o1, o2, o3, o4⟩ := hp rfl
      rw [if_neg Bool.false_ne_true, hf, Option.bind_some]
      cases f with
      | true => rw [if_pos rfl]; exact no
      | false =>
        have hlt := hn rfl (.inl k5)
        have he := ho.end_
        rw [if_neg Bool.false_ne_true]
        unfold mGuardUnitShort
        simp only
        rw [chk_ok (by omega) (by omega), Option.bind_some]
        by_cases hs : p.End < a + c
        · rw [if_pos hs, pass9]
          rw [if_neg (fun hh => absurd hh.1 (by decide)), chk_ok (by omega) (by omega), Option.bind_some]
          exact ⟨⟨8, s, n + 1, p.No, 0, 0, 0, now⟩, true, e, n + 1, p.No, now, rfl, .inr ⟨ho, o1, o2, rfl, rfl, ⟨by omega, by omega⟩, .inr ⟨rfl, rfl, ⟨e0, Int.le_refl _⟩, .inl rfl⟩⟩⟩
        · rw [if_neg hs, pass9]
          rw [if_neg (fun hh => absurd hh.1 (by decide)), chk_ok (by omega) (by omega), Option.bind_some]
          exact ⟨⟨7, s, n + 1, p.No, min e p.End, 0, 0, now⟩, true, min e p.End, n + 1, p.No, now, rfl, .inr ⟨ho, o1, o2, rfl, rfl, ⟨by omega, by omega⟩, .inr ⟨rfl, rfl, ⟨by omega, by omega⟩, .inr ⟨rfl, rfl, rfl, .inl k5⟩⟩⟩⟩
  rw [if_neg k5]
  by_cases k6 : p.Kind = (6 : Int)
  · rw [if_pos k6, hg, Option.bind_some]
    cases g with
    | true => rw [if_pos rfl]; exact no
    | false =>
      obtain ⟨ho, o1, o2, o3, o4⟩ := hp rfl
      rw [if_neg Bool.false_ne_true, hf, Option.bind_some]
      cases f with
      | true => rw [if_pos rfl]; exact no
      | false =>
        have hlt := hn rfl (.inr k6)
        rw [if_neg Bool.false_ne_true]
        unfold mGuardUnitStop
        simp only
        rw [chk_ok (by omega) (by omega), Option.bind_some, pass9]
        rw [if_neg (fun hh => absurd hh.1 (by decide)), chk_ok (by omega) (by omega), Option.bind_some]
        exact ⟨⟨7, s, n + 1, p.No, min e (a + c), 0, 0, now⟩, true, min e (a + c), n + 1, p.No, now, rfl, .inr ⟨ho, o1, o2, rfl, rfl, ⟨by omega, by omega⟩, .inr ⟨rfl, rfl, ⟨by omega, by omega⟩, .inr ⟨rfl, rfl, rfl, .inr k6⟩⟩⟩⟩
  rw [if_neg k6]
  exact no
end Go.Proofs.YtbggpdpcndpaoaaDoor
