/- Plain: GuardRadio, act by act. -/
import Derived.Test.YtbggpdpcndpaoaaDoorZC
set_option linter.unusedVariables false
set_option linter.unusedSimpArgs false
namespace Go.Proofs.YtbggpdpcndpaoaaDoor
open Go.RowKit Go.Fp

abbrev T18 := Int × Int × Int × Int × Int × Int × Int × Int × Int × Int × Int × Int × Int × Int × Int × (List GuardCentre) × (List GuardPacket) × (List GuardAsk)
def tup (t : St) : T18 := (t.now, t.s, t.e, t.n, t.h, t.w, t.S, t.L, t.N, t.H, t.R, t.k0, t.k1, t.k2, t.k3, t.bf, t.sent, t.asks)
/-- The test behind each act. -/
theorem test_ok {e R : Int} (h : 0 < R → e ≤ R) : (if 0 < R then some (decide (R < e)) else some false) = some false := by
  by_cases c : 0 < R
  · rw [if_pos c, decide_eq_false (by have := h c; omega)]
  · rw [if_neg c]
abbrev Res := Option (T18 ⊕ Bool)
/-- A round ends well. -/
def Good (k : Nat) (r : Res) : Prop := (∃ t', r = some (.inl (tup t')) ∧ Inv k t') ∨ r = some (.inr true)
theorem good_end {k : Nat} {t : St} (i : Inv k t) (r : Res) (hr : r = some (.inl (tup t))) : Good k r := .inl ⟨t, hr, i⟩
/-- The packets, with one more if it was sent. -/
theorem more_sent {l : List GuardPacket} {q : GuardPacket} {b : Bool} (hl : l.length ≤ 1000) : (if b = true then (room 64 (l.length + 1)).bind fun _ => some (l ++ [q]) else some l) = some (if b = true then l ++ [q] else l) := by
  cases b with
  | true => rw [if_pos rfl, if_pos rfl, room_ok (by omega) (by omega), Option.bind_some]
  | false => rw [if_neg Bool.false_ne_true, if_neg Bool.false_ne_true]
theorem more_sent0 {l : List GuardPacket} {q : GuardPacket} {c : Int} (hl : l.length ≤ 1000) : (if c = 0 then (room 64 (l.length + 1)).bind fun _ => some (l ++ [q]) else some l) = some (if c = 0 then l ++ [q] else l) := by
  by_cases h : c = 0
  · rw [if_pos h, if_pos h, room_ok (by omega) (by omega), Option.bind_some]
  · rw [if_neg h, if_neg h]
theorem begin_spec (now at_ s e n h w : Int) (hs : 0 ≤ s) : ∃ (q : GuardPacket) (err s' e' n' h' w' : Int), mGuardUnitBegin now at_ s e n h w = some (q.Kind, q.Session, q.No, q.Of, q.End, q.At, q.Speed, q.Sent, err, s', e', n', h', w') ∧
    ((err ≠ 0 ∧ s' = s ∧ e' = e ∧ n' = n ∧ h' = h ∧ w' = w) ∨ (err = 0 ∧ (0 ≤ at_ ∧ at_ ≤ 20000000) ∧ q = ⟨1, s + 1, 1, 0, 0, at_, 0, now⟩ ∧ s' = s + 1 ∧ e' = at_ ∧ n' = 1 ∧ h' = 0 ∧ w' = now)) := by
  unfold mGuardUnitBegin
  obtain ⟨g, hg, hg2⟩ : ∃ g, ((mGuardWithin now 0 28800).bind fun x => if x = true then (mGuardWithin at_ 0 20000000).bind fun y => some (!y) else some true) = some g ∧ (g = false → 0 ≤ at_ ∧ at_ ≤ 20000000) := by
    rw [gwithin_eq, Option.bind_some]
    split
    · rw [gwithin_eq, Option.bind_some]
      exact ⟨_, rfl, fun h => by have : decide (0 ≤ at_ ∧ at_ ≤ 20000000) = true := by simpa using h
                                 exact of_decide_eq_true this⟩
    · exact ⟨_, rfl, fun h => by cases h⟩
  rw [hg, Option.bind_some]
  cases g with
  | true => rw [if_pos rfl]; exact ⟨p0, 2, s, e, n, h, w, rfl, .inl ⟨by decide, rfl, rfl, rfl, rfl, rfl⟩⟩
  | false =>
    rw [if_neg Bool.false_ne_true]
    by_cases c : 1000000 ≤ s
    · rw [if_pos c]; exact ⟨p0, 4, s, e, n, h, w, rfl, .inl ⟨by decide, rfl, rfl, rfl, rfl, rfl⟩⟩
    · rw [if_neg c, chk_ok (by omega) (by omega), Option.bind_some]
      exact ⟨⟨1, s + 1, 1, 0, 0, at_, 0, now⟩, 0, s + 1, at_, 1, 0, now, rfl, .inr ⟨rfl, hg2 rfl, rfl, rfl, rfl, rfl, rfl, rfl⟩⟩
theorem say_spec (now a b s e n h w : Int) (hn : 0 ≤ n) : ∃ (q : GuardPacket) (err n' : Int), mGuardUnitSay now a b s e n h w = some (q.Kind, q.Session, q.No, q.Of, q.End, q.At, q.Speed, q.Sent, err, n') ∧
    ((err ≠ 0 ∧ n' = n) ∨ (err = 0 ∧ s ≠ 0 ∧ q.Kind = 3 ∧ q.Session = s ∧ n' = n + 1 ∧ n < 1000000)) := by
  unfold mGuardUnitSay
  by_cases c0 : s = 0
  · rw [if_pos c0]; exact ⟨p0, 7, n, rfl, .inl ⟨by decide, rfl⟩⟩
  rw [if_neg c0]
  obtain ⟨g, hg⟩ : ∃ g, ((mGuardWithin now 0 28800).bind fun x => if x = true then (mGuardWithin a 0 20000000).bind fun y => if y = true then (mGuardWithin b 0 6000).bind fun z => some (!z) else some true else some true) = some g := by
    rw [gwithin_eq, Option.bind_some]
    split
    · rw [gwithin_eq, Option.bind_some]
      split
      · rw [gwithin_eq, Option.bind_some]; exact ⟨_, rfl⟩
      · exact ⟨_, rfl⟩
    · exact ⟨_, rfl⟩
  rw [hg, Option.bind_some]
  cases g with
  | true => rw [if_pos rfl]; exact ⟨p0, 2, n, rfl, .inl ⟨by decide, rfl⟩⟩
  | false =>
    rw [if_neg Bool.false_ne_true]
    by_cases c : 1000000 ≤ n
    · rw [if_pos c]; exact ⟨p0, 4, n, rfl, .inl ⟨by decide, rfl⟩⟩
    · rw [if_neg c, chk_ok (by omega) (by omega), Option.bind_some]
      exact ⟨⟨3, s, n + 1, 0, e, a, b, now⟩, 0, n + 1, rfl, .inr ⟨rfl, c0, rfl, rfl, rfl, by omega⟩⟩
/-- A centre that is asked to send. -/
theorem asked_spec (kind now end_ S L N H R k0 k1 k2 k3 : Int) (asks : List GuardAsk) (hk : kind = 2 ∨ kind = 3 ∨ kind = 4) (hl : asks.length ≤ 1000) (hN : 0 ≤ N) :
    ∃ (q : GuardPacket) (ok : Bool) (N' R' : Int) (asks' : List GuardAsk), mFishkeep1Asked_2 kind now end_ S L N H R k0 k1 k2 k3 asks = some (q.Kind, q.Session, q.No, q.Of, q.End, q.At, q.Speed, q.Sent, ok, N', R', asks') ∧
      ((ok = false ∧ N' = N ∧ R' = R ∧ asks' = asks) ∨ (ok = true ∧ S ≠ 0 ∧ N' = N + 1 ∧ N < 1000000 ∧ (q.Kind = 4 ∨ q.Kind = 5 ∨ q.Kind = 6) ∧ q.Session = S ∧ q.No = N + 1 ∧ R ≤ R' ∧ (q.Kind = 4 → q.End ≤ R') ∧ asks' = asks ++ [⟨N + 1, q.End, decide (q.Kind = 4)⟩])) := by
  unfold mFishkeep1Asked_2
  by_cases h2 : kind = 2
  · obtain ⟨q, err, N', asks', e1, e2⟩ := send_spec 4 now end_ S L N H R k0 k1 k2 k3 asks hl hN
    rw [if_pos h2]
    unfold mGuardCentreGrant_2
    rw [e1]
    rcases e2 with ⟨h0, rfl, rfl⟩ | ⟨rfl, hS, rfl, hN2, hq1, hq2, hq3, hq4, rfl⟩
    · refine ⟨q, false, N', R, asks', ?_, .inl ⟨rfl, rfl, rfl, rfl⟩⟩
      have : decide (err = 0) = false := decide_eq_false h0
      show ((((if err = 0 then some (max R end_) else some R).bind _).bind _).bind _) = _
      rw [if_neg h0]
      show some (_, _, _, _, _, _, _, _, decide (err = 0), _, _, _) = _
      rw [this]
    · refine ⟨q, true, N + 1, max R end_, _, rfl, .inr ⟨rfl, hS, rfl, hN2, .inl hq1, hq2, hq3, by omega, fun _ => by omega, by rw [hq4, hq1]⟩⟩
  rw [if_neg h2]
  by_cases h3 : kind = 3
  · obtain ⟨q, err, N', asks', e1, e2⟩ := send_spec 5 now end_ S L N H R k0 k1 k2 k3 asks hl hN
    rw [if_pos h3]
    unfold mGuardCentreShort_2
    rw [e1]
    rcases e2 with ⟨h0, rfl, rfl⟩ | ⟨rfl, hS, rfl, hN2, hq1, hq2, hq3, hq4, rfl⟩
    · refine ⟨q, false, N', R, asks', ?_, .inl ⟨rfl, rfl, rfl, rfl⟩⟩
      have : decide (err = 0) = false := decide_eq_false h0
      show some (_, _, _, _, _, _, _, _, decide (err = 0), _, _, _) = _
      rw [this]
    · refine ⟨q, true, N + 1, R, _, rfl, .inr ⟨rfl, hS, rfl, hN2, .inr (.inl hq1), hq2, hq3, by omega, fun h => by omega, by rw [hq4, hq1]⟩⟩
  · obtain ⟨q, err, N', asks', e1, e2⟩ := send_spec 6 now 0 S L N H R k0 k1 k2 k3 asks hl hN
    rw [if_neg h3]
    unfold mGuardCentreStop_2
    rw [e1]
    rcases e2 with ⟨h0, rfl, rfl⟩ | ⟨rfl, hS, rfl, hN2, hq1, hq2, hq3, hq4, rfl⟩
    · refine ⟨q, false, N', R, asks', ?_, .inl ⟨rfl, rfl, rfl, rfl⟩⟩
      have : decide (err = 0) = false := decide_eq_false h0
      show some (_, _, _, _, _, _, _, _, decide (err = 0), _, _, _) = _
      rw [this]
    · refine ⟨q, true, N + 1, R, _, rfl, .inr ⟨rfl, hS, rfl, hN2, .inr (.inr hq1), hq2, hq3, by omega, fun h => by omega, by rw [hq4, hq1]⟩⟩
end Go.Proofs.YtbggpdpcndpaoaaDoor
