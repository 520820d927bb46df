/- Plain: a centre, and what holds throughout. -/
import Derived.Test.YtbggpdpcndpaoaaDoorZA
set_option linter.unusedVariables false
set_option linter.unusedSimpArgs false
namespace Go.Proofs.YtbggpdpcndpaoaaDoor
open Go.RowKit Go.Fp

/-- What a centre makes of an agreement: its asks and what it reserves. -/
structure Agreed (p : GuardPacket) (asks : List GuardAsk) (r : Int) (asks' : List GuardAsk) : Prop where
  end_ : p.End ≤ r
  later : ∀ a ∈ asks, a.grant = true → p.Of < a.no → a.end_ ≤ r
  keep : ∀ a ∈ asks, a.grant = true → a ∈ asks'
  old : ∀ a ∈ asks', a ∈ asks
  len : asks'.length ≤ asks.length
theorem agree_spec (p : GuardPacket) (asks : List GuardAsk) (hl : asks.length ≤ 1000) (x8 x9 x10 x11 R x13 x14 x15 x16 : Int) : ∃ r asks', mGuardCentreAgree_3 p x8 x9 x10 x11 R x13 x14 x15 x16 asks = some (r, asks') ∧ ((r = R ∧ asks' = asks) ∨ Agreed p asks r asks') := by
  obtain ⟨t, e1, e2, e3, e4, e5, e6⟩ := forS_inv (body := mGuardCentreAgree_3_L196 p asks) (fun k t => p.End ≤ t.2.1 ∧ (∀ j (h : j < asks.length), j < k → asks[j].grant = true → p.Of < asks[j].no → asks[j].end_ ≤ t.2.1) ∧ (∀ j (h : j < asks.length), j < k → asks[j].grant = true → asks[j] ∈ t.2.2) ∧ (∀ a ∈ t.2.2, a ∈ asks) ∧ t.2.2.length ≤ k) asks.length 0 (false, p.End, []) ⟨Int.le_refl _, fun j _ hj => by omega, fun j _ hj => by omega, fun a ha => by simp at ha, by simp⟩ (fun k t _ hk hi => by
    obtain ⟨b, m, l⟩ := t
    obtain ⟨i1, i2, i3, i4, i5⟩ := hi
    simp only at i1 i2 i3 i4 i5
    have hk' : k < asks.length := by omega
    have hroom : room 24 (l.length + 1) = some () := room_ok (by omega) (by omega)
    unfold mGuardCentreAgree_3_L196
    show ∃ s', (idx asks (k : Int)).bind _ = some s' ∧ _
    rw [idx_lt hk', Option.bind_some]
    by_cases c1 : asks[k].no = p.Of ∧ asks[k].grant = false
    · rw [if_pos c1.1, c1.2, Option.bind_some]
      refine ⟨_, rfl, i1, fun j h hj hg ho => ?_, fun j h hj hg => ?_, i4, by simp only; omega⟩
      · by_cases hjk : j = k
        · subst hjk
          rw [c1.2] at hg
          cases hg
        · exact i2 j h (by omega) hg ho
      · by_cases hjk : j = k
        · subst hjk
          rw [c1.2] at hg
          cases hg
        · exact i3 j h (by omega) hg
    · have hf : (if asks[k].no = p.Of then some (!asks[k].grant) else some false) = some false := by
        by_cases c2 : asks[k].no = p.Of
        · rw [if_pos c2]
          cases hg : asks[k].grant with
          | true => rfl
          | false => exact absurd ⟨c2, hg⟩ c1
        · rw [if_neg c2]
      rw [hf, Option.bind_some, if_neg Bool.false_ne_true]
      obtain ⟨m', hm, hm1, hm2⟩ : ∃ m', ((if asks[k].grant = true then some (decide (p.Of < asks[k].no)) else some false).bind fun x => if x = true then some (max m asks[k].end_) else some m) = some m' ∧ m ≤ m' ∧ (asks[k].grant = true → p.Of < asks[k].no → asks[k].end_ ≤ m') := by
        by_cases g1 : asks[k].grant = true
        · rw [if_pos g1, Option.bind_some]
          by_cases g2 : p.Of < asks[k].no
          · rw [decide_eq_true g2, if_pos rfl]
            exact ⟨_, rfl, by omega, fun _ _ => by omega⟩
          · rw [decide_eq_false g2, if_neg Bool.false_ne_true]
            exact ⟨_, rfl, Int.le_refl _, fun _ h => absurd h g2⟩
        · rw [if_neg g1, Option.bind_some, if_neg Bool.false_ne_true]
          exact ⟨_, rfl, Int.le_refl _, fun h => absurd h g1⟩
      rw [hm, Option.bind_some, hroom, Option.bind_some]
      refine ⟨_, rfl, by simp only; omega, fun j h hj hg ho => ?_, fun j h hj hg => ?_, fun a ha => ?_, by simp only [List.length_append, List.length_singleton]; omega⟩
      · simp only
        by_cases hjk : j = k
        · subst hjk
          exact hm2 hg ho
        · have := i2 j h (by omega) hg ho
          omega
      · simp only [List.mem_append, List.mem_singleton]
        by_cases hjk : j = k
        · subst hjk
          exact .inr rfl
        · exact .inl (i3 j h (by omega) hg)
      · simp only [List.mem_append, List.mem_singleton] at ha
        rcases ha with ha | rfl
        · exact i4 a ha
        · exact List.getElem_mem hk')
  obtain ⟨b, m, l⟩ := t
  simp only [Nat.zero_add] at e2 e3 e4 e5 e6
  unfold mGuardCentreAgree_3
  rw [e1, Option.bind_some]
  show ∃ r asks', (if b = true then some (m, l) else some (R, asks)) = some (r, asks') ∧ _
  by_cases hb : b = true
  · rw [if_pos hb]
    refine ⟨_, _, rfl, .inr ⟨e2, fun a ha hg ho => ?_, fun a ha hg => ?_, e5, e6⟩⟩
    · obtain ⟨j, hj, rfl⟩ := List.getElem_of_mem ha
      exact e3 j hj hj hg ho
    · obtain ⟨j, hj, rfl⟩ := List.getElem_of_mem ha
      exact e4 j hj hj hg
  · rw [if_neg hb]
    exact ⟨_, _, rfl, .inl ⟨rfl, rfl⟩⟩
/-- One of those that handed over hears nothing but Hellos. -/
theorem hear2_spec (p : GuardPacket) {now : Int} (h0 : 0 ≤ now) (h1 : now ≤ 1000000) (hk : p.Kind ≠ 1) (S L N H R : Int) (hS : S = 0) (asks : List GuardAsk) (k0 k1 k2 k3 : Int) :
    mGuardCentreHear_2 p now S L N H R asks k0 k1 k2 k3 = some (0, 0, 0, 0, 0, 0, 0, 0, false, S, L, N, H, R, asks, k0, k1, k2, k3) := by
  obtain ⟨b, hb, _⟩ := fresh_spec p h0 h1
  unfold mGuardCentreHear_2
  rw [hb, Option.bind_some]
  cases b with
  | false => rw [if_neg Bool.false_ne_true]
  | true => rw [if_pos rfl, if_neg hk, if_pos hS, Option.bind_some, if_pos rfl]
abbrev ct (q : GuardPacket) (ok : Bool) (S L N H R k0 k1 k2 k3 : Int) (asks : List GuardAsk) : Int × Int × Int × Int × Int × Int × Int × Int × Bool × Int × Int × Int × Int × Int × Int × Int × Int × Int × (List GuardAsk) := (q.Kind, q.Session, q.No, q.Of, q.End, q.At, q.Speed, q.Sent, ok, S, L, N, H, R, k0, k1, k2, k3, asks)
def HearC (p : GuardPacket) (S L N R : Int) (asks : List GuardAsk) (q : GuardPacket) (ok : Bool) (S' L' N' R' : Int) (asks' : List GuardAsk) : Prop :=
  (ok = false ∧ S' = S ∧ L' = L ∧ N' = N ∧ R' = R ∧ asks' = asks) ∨
  (POk p ∧ p.Kind = 1 ∧ L < p.Session ∧ ok = true ∧ q.Kind = 2 ∧ q.Session = p.Session ∧ S' = p.Session ∧ L' = p.Session ∧ N' = 1 ∧ R' = p.At ∧ asks' = []) ∨
  (POk p ∧ p.Kind = 7 ∧ p.Session = S ∧ S ≠ 0 ∧ ok = false ∧ S' = S ∧ L' = L ∧ N' = N ∧ Agreed p asks R' asks')
theorem hearC_spec (p : GuardPacket) {now : Int} (h0 : 0 ≤ now) (h1 : now ≤ 1000000) (S L N H R k0 k1 k2 k3 : Int) (asks : List GuardAsk) (hl : asks.length ≤ 1000) :
    ∃ q ok S' L' N' H' R' k0' k1' k2' k3' asks', mGuardCentreHear_3 p now S L N H R k0 k1 k2 k3 asks = some (ct q ok S' L' N' H' R' k0' k1' k2' k3' asks') ∧ HearC p S L N R asks q ok S' L' N' R' asks' := by
  have no : ∀ H' k0' k1' k2' k3', ∃ q ok S' L' N' H'' R' k0'' k1'' k2'' k3'' asks', some (ct p0 false S L N H' R k0' k1' k2' k3' asks) = some (ct q ok S' L' N' H'' R' k0'' k1'' k2'' k3'' asks') ∧ HearC p S L N R asks q ok S' L' N' R' asks' := fun H' k0' k1' k2' k3' => ⟨p0, false, S, L, N, H', R, k0', k1', k2', k3', asks, rfl, .inl ⟨rfl, rfl, rfl, rfl, rfl, rfl⟩⟩
  obtain ⟨b, hb, hp⟩ := fresh_spec p h0 h1
  unfold mGuardCentreHear_3
  rw [hb, Option.bind_some]
  cases b with
  | false => rw [if_neg Bool.false_ne_true]; exact no H k0 k1 k2 k3
  | true =>
    have ho := hp rfl
    rw [if_pos rfl]
    by_cases c1 : p.Kind = 1
    · rw [if_pos c1]
      by_cases c2 : p.Session ≤ L
      · rw [if_pos c2]; exact no H k0 k1 k2 k3
      · rw [if_neg c2]
        exact ⟨⟨2, p.Session, 1, 0, 0, 0, 0, now⟩, true, p.Session, p.Session, 1, p.No, p.At, p.At, 0, p.At, p.Sent, [], rfl, .inr (.inl ⟨ho, c1, by omega, rfl, rfl, rfl, rfl, rfl, rfl, rfl, rfl⟩)⟩
    · rw [if_neg c1]
      obtain ⟨g, hg, hg2⟩ : ∃ g, (if S = 0 then some true else if p.Session ≠ S then some true else if p.No ≤ H then some true else if p.Kind ≠ 3 then (if p.Kind ≠ 7 then some (decide (p.Kind ≠ 8)) else some false) else some false) = some g ∧ (g = false → S ≠ 0 ∧ p.Session = S) := by
        by_cases d1 : S = 0
        · rw [if_pos d1]; exact ⟨true, rfl, fun h => by cases h⟩
        · rw [if_neg d1]
          by_cases d2 : p.Session ≠ S
          · rw [if_pos d2]; exact ⟨true, rfl, fun h => by cases h⟩
          · rw [if_neg d2]
            by_cases d3 : p.No ≤ H
            · rw [if_pos d3]; exact ⟨true, rfl, fun h => by cases h⟩
            · rw [if_neg d3]
              repeat' split
              all_goals exact ⟨_, rfl, fun _ => ⟨d1, by omega⟩⟩
      rw [hg, Option.bind_some]
      cases g with
      | true => rw [if_pos rfl]; exact no H k0 k1 k2 k3
      | false =>
        obtain ⟨d1, d2⟩ := hg2 rfl
        rw [if_neg Bool.false_ne_true]
        by_cases c3 : p.Kind = 3
        · rw [if_pos c3]
          exact no p.No p.At p.Speed p.End p.Sent
        · rw [if_neg c3]
          by_cases c7 : p.Kind = 7
          · obtain ⟨r, asks', ha, hr⟩ := agree_spec p asks hl S L N p.No R k0 k1 k2 k3
            rw [if_pos c7, ha]
            rcases hr with ⟨rfl, rfl⟩ | hr
            · exact no p.No k0 k1 k2 k3
            · exact ⟨p0, false, S, L, N, p.No, r, k0, k1, k2, k3, asks', rfl, .inr (.inr ⟨ho, c7, d2, d1, rfl, rfl, rfl, rfl, hr⟩)⟩
          · rw [if_neg c7]
            exact no p.No k0 k1 k2 k3
/-- What a centre sends. -/
theorem send_spec (kind now end_ S L N H R k0 k1 k2 k3 : Int) (asks : List GuardAsk) (hl : asks.length ≤ 1000) (hN : 0 ≤ N) :
    ∃ (q : GuardPacket) (err N' : Int) (asks' : List GuardAsk), mGuardCentreSend_2 kind now end_ S L N H R k0 k1 k2 k3 asks = some (q.Kind, q.Session, q.No, q.Of, q.End, q.At, q.Speed, q.Sent, err, N', asks') ∧
      ((err ≠ 0 ∧ N' = N ∧ asks' = asks) ∨ (err = 0 ∧ S ≠ 0 ∧ N' = N + 1 ∧ N < 1000000 ∧ q.Kind = kind ∧ q.Session = S ∧ q.No = N + 1 ∧ q.End = end_ ∧ asks' = asks ++ [⟨N + 1, end_, decide (kind = 4)⟩])) := by
  unfold mGuardCentreSend_2
  by_cases c1 : S = 0
  · rw [if_pos c1]
    exact ⟨p0, 7, N, asks, rfl, .inl ⟨by decide, rfl, rfl⟩⟩
  · rw [if_neg c1]
    obtain ⟨g, hg⟩ : ∃ g, ((mGuardWithin now 0 28800).bind fun x => if x = true then (mGuardWithin end_ 0 20000000).bind fun y => some (!y) else some true) = some g := by
      rw [gwithin_eq, Option.bind_some]
      split
      · rw [gwithin_eq, Option.bind_some]; exact ⟨_, rfl⟩
      · exact ⟨_, rfl⟩
    rw [hg, Option.bind_some]
    cases g with
    | true => rw [if_pos rfl]; exact ⟨p0, 2, N, asks, rfl, .inl ⟨by decide, rfl, rfl⟩⟩
    | false =>
      rw [if_neg Bool.false_ne_true]
      by_cases c2 : 1000000 ≤ N
      · rw [if_pos c2]; exact ⟨p0, 4, N, asks, rfl, .inl ⟨by decide, rfl, rfl⟩⟩
      · rw [if_neg c2, chk_ok (by omega) (by omega), Option.bind_some, room_ok (by omega) (by omega), Option.bind_some, Option.bind_some]
        exact ⟨⟨kind, S, N + 1, 0, end_, 0, 0, now⟩, 0, N + 1, _, rfl, .inr ⟨rfl, c1, rfl, by omega, rfl, rfl, rfl, rfl, rfl⟩⟩
end Go.Proofs.YtbggpdpcndpaoaaDoor
