/- Plain: the search that gives tasks to sets, whole. -/
import Derived.Test.YtajmocgpjkhjlaaAL2
set_option linter.unusedVariables false
set_option linter.unusedSimpArgs false
namespace Go.Proofs.Ytajmocgpjkhjlaa
open Go.RowKit Go.Fp

theorem set_back {α : Type} {T : List α} {j : Nat} {t y : α} (h : T[j]? = some t) : (T.set j y).set j t = T := by
  rw [List.set_set]
  apply List.ext_getElem?
  intro i
  by_cases e : j = i
  · subst e
    rw [List.getElem?_set_self (List.getElem?_eq_some_iff.1 h).1, h]
  · rw [List.getElem?_set_ne e]
section
variable {l : List FleetTask} {x : Int} {S : List FleetSet} {p : FleetShop} {o : List Int}
theorem reach_fin {m : Int} {f : Nat} {T U : List (List Int)} : Reach l x S o o.length m f T U ↔ U = T := by
  constructor
  · intro h
    cases h with
    | fin => rfl
    | next hi => exact absurd hi (by omega)
    | take hi => exact absurd hi (by omega)
  · rintro rfl
    exact .fin
theorem reach_next {i : Nat} {m : Int} {f : Nat} {T U : List (List Int)} (hi : i < o.length) (hm : m = (tk l o[i]).Units) : Reach l x S o i m f T U ↔ Reach l x S o (i + 1) 0 0 T U := by
  constructor
  · intro h
    cases h with
    | fin => exact absurd hi (by omega)
    | next _ _ h => exact h
    | take _ hm' => exact absurd hm hm'
  · exact .next hi hm
def Via (l : List FleetTask) (x : Int) (S : List FleetSet) (o : List Int) (i : Nat) (m : Int) (T : List (List Int)) (k : Int) (j : Nat) (U : List (List Int)) : Prop :=
  ∃ s t, S[j]? = some s ∧ T[j]? = some t ∧ Take l x s t k ∧ Reach l x S o i (m + 1) (j + 1) (T.set j (t ++ [k])) U
theorem reach_take {i : Nat} {m : Int} {f : Nat} {T U : List (List Int)} (hi : i < o.length) (hm : m ≠ (tk l o[i]).Units) : Reach l x S o i m f T U ↔ ∃ j, f ≤ j ∧ j < S.length ∧ Via l x S o i m T o[i] j U := by
  constructor
  · intro h
    cases h with
    | fin => exact absurd hi (by omega)
    | next _ hm' => exact absurd hm' hm
    | take _ _ hf hs ht hk h => exact ⟨_, hf, (List.getElem?_eq_some_iff.1 hs).1, _, _, hs, ht, hk, h⟩
  · rintro ⟨j, hf, _, s, t, hs, ht, hk, h⟩
    exact .take hi hm hf hs ht hk h
theorem give_says (h : Sit l x S p o) (N : Nat) : ∀ (i : Nat) (m : Int) (f q : Nat) (B : List (List Int)) (z : Bool) (least : Int) (T : List (List Int)), At l S o i m f q T → GSays l x S p o (N < mu o i m + 1) (give l x S p o N i m f B z least T) i m f B z least T := by
  induction N with
  | zero => exact fun i m f q B z least T _ => .inl ⟨rfl, by omega⟩
  | succ N ih =>
    intro i m f q B z least T A
    have hq := A.q
    have n8 := h.n8
    have hol := h.ol
    have s7 := h.s7
    have m0 := A.m0
    have hf7 := A.f
    have hlen := A.rows.len
    unfold give
    rw [mFleetGiverGive]
    dsimp only
    by_cases hin : i = o.length
    · rw [if_pos (by omega)]
      subst hin
      rcases note_spec h (q := q) (by omega) A.rows (B := B) (z := z) (least := least) (zt := false) (a := x) with ⟨c, c1, c2, c3, c4⟩ | ⟨c1, c2⟩
      · rw [c4]
        by_cases hc : z = true ∨ c < least
        · rw [if_pos hc, pass3]
          refine .inr ⟨_, _, _, rfl, .inr ⟨T, reach_fin.2 rfl, c1, rfl, rfl⟩, fun U c' hU hc' => ?_, fun hz => ?_⟩
          · have := reach_fin.1 hU
            subst this
            rw [c1] at hc'
            injection hc' with hc'
            exact ⟨rfl, by omega⟩
          · rcases hc with hc | hc
            · rw [hz] at hc; cases hc
            · exact ⟨rfl, by omega⟩
        · rw [if_neg hc, pass3]
          refine .inr ⟨_, _, _, rfl, .inl ⟨rfl, rfl, rfl⟩, fun U c' hU hc' => ?_, fun hz => ⟨hz, Int.le_refl _⟩⟩
          have := reach_fin.1 hU
          subst this
          rw [c1] at hc'
          injection hc' with hc'
          refine ⟨?_, ?_⟩
          · cases z with
            | false => rfl
            | true => exact absurd (.inl rfl) hc
          · have : ¬ c < least := fun q => hc (.inr q)
            omega
      · rw [c2, pass3]
        refine .inr ⟨_, _, _, rfl, .inl ⟨rfl, rfl, rfl⟩, fun U c' hU hc' => ?_, fun hz => ⟨hz, Int.le_refl _⟩⟩
        have := reach_fin.1 hU
        subst this
        rw [c1] at hc'
        cases hc'
    · have hi : i < o.length := by have := A.il; omega
      have hkv := h.ov _ (List.getElem_mem hi)
      have hmu := A.mu hi
      have hok := h.turn.tasks _ (tk_mem hkv)
      have hU : 1 ≤ (tk l o[i]).Units ∧ (tk l o[i]).Units ≤ 4 := by unfold OkTask at hok; omega
      rw [if_neg (by omega), idx_lt hi, Option.bind_some, idx_tk hkv, Option.bind_some]
      unfold mu at hq
      by_cases hm : m = (tk l o[i]).Units
      · rw [if_pos hm, chk_ok (by omega) (by omega), Option.bind_some, show (i : Int) + 1 = ((i + 1 : Nat) : Int) by omega]
        have A' : At l S o (i + 1) 0 0 q T := ⟨A.rows, by omega, by omega, fun hi' => by
          have := h.turn.tasks _ (tk_mem (h.ov _ (List.getElem_mem hi')))
          unfold OkTask at this
          omega, by omega, by unfold mu; omega⟩
        rcases ih (i + 1) 0 0 q B z least T A' with ⟨h1, h2⟩ | ⟨B', z', l', h1, h2⟩
        · refine .inl ⟨?_, ?_⟩
          · rw [show mFleetGiverGive N ((i + 1 : Nat) : Int) 0 0 l x S p.Place p.Long p.Limit B z least o T false = none from h1]
            rfl
          · unfold mu at h2 ⊢
            omega
        · refine .inr ⟨B', z', l', ?_, h2.iff (fun U => reach_next hi hm)⟩
          rw [show mFleetGiverGive N ((i + 1 : Nat) : Int) 0 0 l x S p.Place p.Long p.Limit B z least o T false = _ from h1, pass4]
      · rw [if_neg hm]
        rcases loopM_invX (step := mFleetGiverGive_L11063 l S o (i : Int) m x p.Place p.Long p.Limit false o[i] (mFleetGiverGive N)) (N + 1 < mu o i m + 1)
          (fun s => ∃ j : Nat, s.1 = (j : Int) ∧ f ≤ j ∧ j ≤ 7 ∧ s.2.2.2.2 = T ∧ Said (costs l p S) (fun U => ∃ j0, f ≤ j0 ∧ j0 < j ∧ Via l x S o i m T o[i] j0 U) B z least s.2.1 s.2.2.1 s.2.2.2.1)
          (fun t => t.2.2.2 = T ∧ Said (costs l p S) (Reach l x S o i m f T) B z least t.1 t.2.1 t.2.2.1)
          (fun s => (8 - s.1).toNat) (fun s hs => by
            obtain ⟨s1, B1, z1, l1, T1⟩ := s
            obtain ⟨j, e1, hfj, hj7, e2, hsaid⟩ := hs
            simp only at e1 e2 hsaid
            subst e1 e2
            unfold mFleetGiverGive_L11063
            show ((if (j : Int) < (S.length : Int) then _ else some (Sum.inr (B1, z1, l1, T1))) = none ∧ _) ∨ (∃ s', (if (j : Int) < (S.length : Int) then _ else some (Sum.inr (B1, z1, l1, T1))) = _ ∧ _) ∨ ∃ t, (if (j : Int) < (S.length : Int) then _ else some (Sum.inr (B1, z1, l1, T1))) = _ ∧ _
            by_cases hj : j < S.length
            · rw [if_pos (by omega)]
              have hjT : j < T1.length := by omega
              have hS := List.getElem?_eq_getElem hj
              have hT := List.getElem?_eq_getElem hjT
              have htm := List.getElem_mem hjT
              have hsh := A.rows.short _ htm
              obtain ⟨b, b1, b2⟩ := take_cond h (A.rows.val _ htm) (by omega) (s := S[j]) (k := o[i]) (j := (j : Int)) hkv (idx_nat hS)
              rw [idx_nat hT, Option.bind_some, b1, Option.bind_some]
              by_cases hb : b = true
              · rw [if_pos hb, pass4, chk_ok (by omega) (by omega), Option.bind_some]
                refine .inr (.inl ⟨_, rfl, ⟨j + 1, by simp only; omega, by omega, by omega, rfl, hsaid.iff (fun U => ⟨?_, ?_⟩)⟩, by simp only; omega⟩)
                · rintro ⟨j0, q1, q2, q3⟩
                  by_cases e : j0 = j
                  · subst e
                    obtain ⟨s, t, u1, u2, u3, _⟩ := q3
                    rw [hS] at u1
                    rw [hT] at u2
                    injection u1 with u1
                    injection u2 with u2
                    subst u1 u2
                    exact absurd u3 (b2.1 hb)
                  · exact ⟨j0, q1, by omega, q3⟩
                · rintro ⟨j0, q1, q2, q3⟩
                  exact ⟨j0, q1, by omega, q3⟩
              · have hTake : Take l x S[j] T1[j] o[i] := Classical.byContradiction fun hc => hb (b2.2 hc)
                rw [if_neg hb, clone_eq (by omega), Option.bind_some, room_ok (by omega) (by omega), Option.bind_some, Option.bind_some, Option.bind_some, chk_ok (by omega) (by omega), Option.bind_some, chk_ok (by omega) (by omega), Option.bind_some, put_nat, show (j : Int) + 1 = ((j + 1 : Nat) : Int) by omega]
                have A' : At l S o i (m + 1) (j + 1) (q + 1) (T1.set j (T1[j] ++ [o[i]])) := ⟨rows_put A.rows hT hkv, by omega, by omega, fun _ => by omega, by omega, by unfold mu; omega⟩
                rcases ih i (m + 1) (j + 1) (q + 1) B1 z1 l1 _ A' with ⟨h1, h2⟩ | ⟨B', z', l', h1, h2⟩
                · refine .inl ⟨?_, ?_⟩
                  · rw [show mFleetGiverGive N (i : Int) (m + 1) ((j + 1 : Nat) : Int) l x S p.Place p.Long p.Limit B1 z1 l1 o (T1.set j (T1[j] ++ [o[i]])) false = none from h1]
                    rfl
                  · unfold mu at h2 ⊢
                    omega
                · rw [show mFleetGiverGive N (i : Int) (m + 1) ((j + 1 : Nat) : Int) l x S p.Place p.Long p.Limit B1 z1 l1 o (T1.set j (T1[j] ++ [o[i]])) false = _ from h1, pass4, idx_lt (show j < (T1.set j (T1[j] ++ [o[i]])).length by rw [List.length_set]; exact hjT), Option.bind_some, put_nat, set_back hT, pass4, Option.bind_some]
                  refine .inr (.inl ⟨_, rfl, ⟨j + 1, rfl, by omega, by omega, rfl, hsaid.trans h2 (fun U => ⟨?_, ?_⟩)⟩, by simp only; omega⟩)
                  · rintro ⟨j0, q1, q2, q3⟩
                    by_cases e : j0 = j
                    · subst e
                      obtain ⟨s, t, u1, u2, u3, u4⟩ := q3
                      rw [hT] at u2
                      injection u2 with u2
                      subst u2
                      exact .inr u4
                    · exact .inl ⟨j0, q1, by omega, q3⟩
                  · rintro (⟨j0, q1, q2, q3⟩ | u4)
                    · exact ⟨j0, q1, by omega, q3⟩
                    · exact ⟨j, hfj, by omega, S[j], T1[j], hS, hT, hTake, u4⟩
            · rw [if_neg (by omega)]
              refine .inr (.inr ⟨_, rfl, rfl, hsaid.iff (fun U => ?_)⟩)
              rw [reach_take hi hm]
              constructor
              · rintro ⟨j0, q1, q2, q3⟩
                exact ⟨j0, q1, by omega, q3⟩
              · rintro ⟨j0, q1, q2, q3⟩
                have q4 := q3
                obtain ⟨s, t, u1, _⟩ := q4
                exact ⟨j0, q1, (List.getElem?_eq_some_iff.1 u1).1, q3⟩) ((f : Int), B, z, least, T) ⟨f, rfl, by omega, hf7, rfl, Said.refl (fun U ⟨j0, q1, q2, _⟩ => by omega)⟩ with ⟨h1, h2⟩ | ⟨t, h1, h2, h3⟩
        · exact .inl ⟨h1, h2⟩
        · obtain ⟨B', z', l', T'⟩ := t
          simp only at h2 h3
          subst h2
          exact .inr ⟨B', z', l', h1, h3⟩
end
end Go.Proofs.Ytajmocgpjkhjlaa
