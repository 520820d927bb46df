/- Plain: the checks of sections and links. -/
import Derived.Test.YtaagdbecijhkmaaDoorTLL1
set_option linter.unusedVariables false
set_option linter.unusedSimpArgs false
namespace Go.Proofs.YtaagdbecijhkmaaDoor
open Go.RowKit Go.Fp

theorem cmp_total (x y : Int) : ∃ v, mCmpCompare x y = some v := by
  unfold mCmpCompare mCmpIsNaN
  rw [Option.bind_some, Option.bind_some, decide_eq_false (by simp), if_neg (by decide), decide_eq_false (by simp), if_neg (by decide)]
  split
  · exact ⟨_, rfl⟩
  · split <;> exact ⟨_, rfl⟩
theorem or_total (l : List Int) : ∃ v, mCmpOr l = some v := by
  unfold mCmpOr
  rcases forU (body := mCmpOr_L38 l) (fun _ => True) (fun _ => True) l.length (fun k hk => by
    unfold mCmpOr_L38
    rw [idx_lt hk, Option.bind_some]
    split
    · exact .inr ⟨_, rfl, trivial⟩
    · exact .inl ⟨rfl, trivial⟩) with ⟨h, _⟩ | ⟨v, h, _⟩
  · rw [h]; exact ⟨_, rfl⟩
  · rw [h]; exact ⟨_, rfl⟩
structure OkSec (s : ApiSection) : Prop where
  kind : endsI s.Kind ≠ 0
  len : 10 ≤ s.Length ∧ s.Length ≤ 3000
  grade : -40 ≤ s.Grade ∧ s.Grade ≤ 40
  speed : 300 ≤ s.Speed ∧ s.Speed ≤ 6000
  cross : s.Kind = 3 → s.Grade = 0
def StOk (s : ApiSection) (m : Int) : Prop := s.Station = 0 ∨ s.Kind = 1 ∧ 0 ≤ s.Station ∧ s.Station ≤ m
theorem section_spec (s : ApiSection) (m : Int) : ∃ c, mLineCheckSection s m = some c ∧ (c = 0 → OkSec s ∧ StOk s m) := by
  unfold mLineCheckSection
  rw [ends_eq, Option.bind_some]
  by_cases h0 : endsI s.Kind = 0
  · rw [if_pos h0]
    exact ⟨1, rfl, fun h => absurd h (by decide)⟩
  · rw [if_neg h0, within_eq, Option.bind_some]
    have bad : ∀ c : Int, c ≠ 0 → ∃ c', some c = some c' ∧ (c' = 0 → OkSec s ∧ StOk s m) := fun c hc => ⟨c, rfl, fun h => absurd h hc⟩
    by_cases h1 : 10 ≤ s.Length ∧ s.Length ≤ 3000
    · rw [decide_eq_true h1, if_pos rfl, within_eq, Option.bind_some]
      by_cases h2 : -40 ≤ s.Grade ∧ s.Grade ≤ 40
      · rw [decide_eq_true h2, if_pos rfl, within_eq, Option.bind_some]
        by_cases h3 : 300 ≤ s.Speed ∧ s.Speed ≤ 6000
        · rw [decide_eq_true h3]
          simp only [Bool.not_true, Option.bind_some, Bool.false_eq_true, if_false, within_eq]
          obtain ⟨b, hb, hbs⟩ : ∃ b, (if s.Kind = 2 then if decide (300 ≤ s.Slow ∧ s.Slow ≤ s.Speed) = true then if s.Kind = 1 then some (!decide (0 ≤ s.Station ∧ s.Station ≤ m)) else some false else some true else if s.Kind = 1 then some (!decide (0 ≤ s.Station ∧ s.Station ≤ m)) else some false) = some b ∧ (b = false → s.Kind = 1 → 0 ≤ s.Station ∧ s.Station ≤ m) := by
            repeat' split
            all_goals first
              | exact ⟨true, rfl, fun h => by cases h⟩
              | exact ⟨_, rfl, fun h _ => by simpa using h⟩
              | exact ⟨false, rfl, fun _ hk => by omega⟩
          rw [hb, Option.bind_some]
          by_cases h4 : b = true
          · rw [if_pos h4]
            exact bad 2 (by decide)
          · rw [if_neg h4]
            obtain ⟨d, hd, hd2⟩ : ∃ d, (if s.Slow ≠ 0 then if s.Kind = 2 then if s.Station ≠ 0 then if s.Kind = 1 then if s.Grade ≠ 0 then some (decide (s.Kind = 3)) else some false else some true else if s.Grade ≠ 0 then some (decide (s.Kind = 3)) else some false else some true else if s.Station ≠ 0 then if s.Kind = 1 then if s.Grade ≠ 0 then some (decide (s.Kind = 3)) else some false else some true else if s.Grade ≠ 0 then some (decide (s.Kind = 3)) else some false) = some d ∧ (d = false → (s.Kind = 3 → s.Grade = 0) ∧ (s.Station ≠ 0 → s.Kind = 1)) := by
              repeat' split
              all_goals first
                | exact ⟨true, rfl, fun h => by cases h⟩
                | exact ⟨_, rfl, fun h => ⟨fun hk => absurd hk (of_decide_eq_false h), fun hs => by omega⟩⟩
                | exact ⟨false, rfl, fun _ => ⟨fun _ => by omega, fun hs => by omega⟩⟩
                | (exfalso; omega)
            rw [hd, Option.bind_some]
            by_cases h5 : d = true
            · rw [if_pos h5]
              exact bad 1 (by decide)
            · rw [if_neg h5]
              have hd3 := hd2 (by simpa using h5)
              refine ⟨0, rfl, fun _ => ⟨⟨h0, h1, h2, h3, hd3.1⟩, ?_⟩⟩
              by_cases hz : s.Station = 0
              · exact .inl hz
              · exact .inr ⟨hd3.2 hz, hbs (by simpa using h4) (hd3.2 hz)⟩
        · rw [decide_eq_false h3]
          exact bad 2 (by decide)
      · rw [decide_eq_false h2, if_neg (by decide), Option.bind_some, if_pos rfl]
        exact bad 2 (by decide)
    · rw [decide_eq_false h1, if_neg (by decide), Option.bind_some, if_pos rfl]
      exact bad 2 (by decide)
theorem mget_put (l : List (LineEnd × Bool)) (a e : LineEnd) : mgetD (mput l a true) e false = true ↔ e = a ∨ mgetD l e false = true := by
  unfold mgetD
  by_cases h : e = a
  · subst h
    rw [mget_mput_same]
    simp
  · rw [mget_mput_other l true h]
    simp [h]
def Seen (L : List ApiLink) (k : Nat) (m : List (LineEnd × Bool)) : Prop := ∀ e, mgetD m e false = true ↔ ∃ j, ∃ h : j < L.length, j < k ∧ (endA L[j] = e ∨ endB L[j] = e)
theorem links_spec {n : ApiNet} (hl : n.Sections.length ≤ 60) (hk : n.Links.length ≤ 90) : ∃ c, mLineCheckLinks n = some c ∧ (c = 0 → Apart n.Links ∧ ∀ x ∈ n.Links, Has n (endA x) ∧ Has n (endB x)) := by
  unfold mLineCheckLinks
  rcases forM_inv (body := mLineCheckLinks_L643 n) (fun k m => Seen n.Links k m ∧ (∀ j (h : j < n.Links.length), j < k → endA n.Links[j] ≠ endB n.Links[j] ∧ Has n (endA n.Links[j]) ∧ Has n (endB n.Links[j])) ∧ ∀ i j (hi : i < n.Links.length) (hj : j < n.Links.length), i < j → j < k → (endA n.Links[i] ≠ endA n.Links[j] ∧ endA n.Links[i] ≠ endB n.Links[j]) ∧ endB n.Links[i] ≠ endA n.Links[j] ∧ endB n.Links[i] ≠ endB n.Links[j]) (fun c : Int => c ≠ 0) n.Links.length 0 []
    ⟨fun e => ⟨fun h => by simp [mgetD, mget] at h, fun ⟨j, _, hj, _⟩ => absurd hj (by omega)⟩, fun j _ hj => absurd hj (by omega), fun i j _ _ _ hj => absurd hj (by omega)⟩ (fun k m _ hkk hi => by
    obtain ⟨i1, i2, i3⟩ := hi
    have hk' : k < n.Links.length := by omega
    have bad : ∀ c : Int, c ≠ 0 → (∃ s', (some (Sum.inr c) : Option (List (LineEnd × Bool) ⊕ Int)) = some (.inl s') ∧ (Seen n.Links (k + 1) s' ∧ (∀ j (h : j < n.Links.length), j < k + 1 → endA n.Links[j] ≠ endB n.Links[j] ∧ Has n (endA n.Links[j]) ∧ Has n (endB n.Links[j])) ∧ ∀ i j (hi : i < n.Links.length) (hj : j < n.Links.length), i < j → j < k + 1 → (endA n.Links[i] ≠ endA n.Links[j] ∧ endA n.Links[i] ≠ endB n.Links[j]) ∧ endB n.Links[i] ≠ endA n.Links[j] ∧ endB n.Links[i] ≠ endB n.Links[j])) ∨ ∃ t, (some (Sum.inr c) : Option (List (LineEnd × Bool) ⊕ Int)) = some (.inr t) ∧ t ≠ 0 := fun c hc => .inr ⟨c, rfl, hc⟩
    unfold mLineCheckLinks_L643
    rw [idx_lt hk', Option.bind_some, Option.bind_some, has_eq hl, Option.bind_some, has_eq hl, Option.bind_some]
    have hh : ∃ b, (if decide (Has n ⟨n.Links[k].A, n.Links[k].EndA⟩) = true then some (!decide (Has n ⟨n.Links[k].B, n.Links[k].EndB⟩)) else some true) = some b ∧ (b = false → Has n (endA n.Links[k]) ∧ Has n (endB n.Links[k])) := by
      by_cases c1 : Has n ⟨n.Links[k].A, n.Links[k].EndA⟩
      · rw [decide_eq_true c1, if_pos rfl]
        refine ⟨_, rfl, fun h => ⟨c1, ?_⟩⟩
        have h : decide (Has n ⟨n.Links[k].B, n.Links[k].EndB⟩) = true := by simpa using h
        exact of_decide_eq_true h
      · rw [decide_eq_false c1, if_neg (by decide)]
        exact ⟨true, rfl, fun h => by cases h⟩
    obtain ⟨b, hb, hb2⟩ := hh
    rw [hb, Option.bind_some]
    by_cases c1 : b = true
    · rw [if_pos c1]
      exact bad 3 (by decide)
    · rw [if_neg c1]
      by_cases c2 : n.Links[k].A = n.Links[k].B
      · rw [if_pos c2]
        exact bad 1 (by decide)
      · rw [if_neg c2]
        by_cases c3 : n.Links[k].B < n.Links[k].A
        · rw [if_pos c3]
          exact bad 5 (by decide)
        · rw [if_neg c3]
          have hord : ∃ d : Bool, (if 0 < (k : Int) then (chk ((k : Int) - 1)).bind fun _ => (idx n.Links ((k : Int) - 1)).bind fun x1159 => ((mCmpCompare x1159.A n.Links[k].A).bind fun x1201 => (mCmpCompare x1159.EndA n.Links[k].EndA).bind fun x1203 => (mCmpOr [x1201, x1203]).bind fun x1208 => some (decide (0 ≤ x1208))).bind (fun x1190 => if x1190 = true then some (.inr (.inr 5)) else some (.inl ())) else some (.inl ()) : Option (Unit ⊕ (List (LineEnd × Bool) ⊕ Int))) = some (if d = true then .inr (.inr 5) else .inl ()) := by
            by_cases h0 : 0 < (k : Int)
            · obtain ⟨q, rfl⟩ : ∃ q, k = q + 1 := ⟨k - 1, by omega⟩
              have hq : q < n.Links.length := by omega
              obtain ⟨v1, e1⟩ := cmp_total n.Links[q].A n.Links[q + 1].A
              obtain ⟨v2, e2⟩ := cmp_total n.Links[q].EndA n.Links[q + 1].EndA
              obtain ⟨v3, e3⟩ := or_total [v1, v2]
              rw [if_pos h0, chk_ok (by omega) (by omega), Option.bind_some, show ((q + 1 : Nat) : Int) - 1 = (q : Int) by omega, idx_lt hq, Option.bind_some, e1, Option.bind_some, e2, Option.bind_some, e3, Option.bind_some, Option.bind_some]
              refine ⟨decide (0 ≤ v3), ?_⟩
              split <;> rfl
            · rw [if_neg h0]
              exact ⟨false, rfl⟩
          obtain ⟨d, hd⟩ := hord
          rw [hd, Option.bind_some]
          by_cases c4 : d = true
          · rw [if_pos c4]
            exact bad 5 (by decide)
          · rw [if_neg c4, Sum.elim_inl, Option.bind_some]
            have hAB : endA n.Links[k] ≠ endB n.Links[k] := fun h => c2 (congrArg LineEnd.section_ h)
            by_cases c5 : mgetD m (endA n.Links[k]) false = true
            · have : mgetD m (⟨n.Links[k].A, n.Links[k].EndA⟩ : LineEnd) false = true := c5
              rw [if_pos this, Option.bind_some, if_pos rfl]
              exact bad 6 (by decide)
            · have h5 : ¬ mgetD m (⟨n.Links[k].A, n.Links[k].EndA⟩ : LineEnd) false = true := c5
              rw [if_neg h5, Option.bind_some, Option.bind_some]
              by_cases c6 : mgetD m (endB n.Links[k]) false = true
              · have : mgetD m (⟨n.Links[k].B, n.Links[k].EndB⟩ : LineEnd) false = true := c6
                rw [if_pos this]
                exact bad 6 (by decide)
              · have h6 : ¬ mgetD m (⟨n.Links[k].B, n.Links[k].EndB⟩ : LineEnd) false = true := c6
                rw [if_neg h6]
                refine .inl ⟨_, rfl, fun e => ?_, fun j hj hjk => ?_, fun i j hi hj hij hjk => ?_⟩
                · show mgetD (mput (mput m (endA n.Links[k]) true) (endB n.Links[k]) true) e false = true ↔ _
                  rw [mget_put, mget_put, i1 e]
                  constructor
                  · rintro (h | h | ⟨j, hj, hjk, h⟩)
                    · exact ⟨k, hk', by omega, .inr h.symm⟩
                    · exact ⟨k, hk', by omega, .inl h.symm⟩
                    · exact ⟨j, hj, by omega, h⟩
                  · rintro ⟨j, hj, hjk, h⟩
                    by_cases ej : j = k
                    · subst ej
                      rcases h with h | h
                      · exact .inr (.inl h.symm)
                      · exact .inl h.symm
                    · exact .inr (.inr ⟨j, hj, by omega, h⟩)
                · by_cases ej : j = k
                  · subst ej; exact ⟨hAB, hb2 (by simpa using c1)⟩
                  · exact i2 j hj (by omega)
                · by_cases ej : j = k
                  · subst ej
                    refine ⟨⟨fun h => c5 ((i1 _).2 ⟨i, hi, hij, .inl h⟩), fun h => c6 ((i1 _).2 ⟨i, hi, hij, .inl h⟩)⟩, fun h => c5 ((i1 _).2 ⟨i, hi, hij, .inr h⟩), fun h => c6 ((i1 _).2 ⟨i, hi, hij, .inr h⟩)⟩
                  · exact i3 i j hi hj hij (by omega)) with ⟨m, h1, h2, h3, h4⟩ | ⟨c, h1, h2⟩
  · rw [h1]
    refine ⟨0, rfl, fun _ => ⟨⟨?_, fun x hx => ?_⟩, fun x hx => ?_⟩⟩
    · rw [List.pairwise_iff_getElem]
      intro i j hi hj hij
      exact h4 i j hi hj hij (by omega)
    · obtain ⟨j, hj, rfl⟩ := List.getElem_of_mem hx
      exact (h3 j hj (by omega)).1
    · obtain ⟨j, hj, rfl⟩ := List.getElem_of_mem hx
      exact (h3 j hj (by omega)).2
  · rw [h1]
    exact ⟨c, rfl, fun h => absurd h h2⟩
end Go.Proofs.YtaagdbecijhkmaaDoor
