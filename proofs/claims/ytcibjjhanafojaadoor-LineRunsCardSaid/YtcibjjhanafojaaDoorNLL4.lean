/- Plain: what a path keeps, and that it keeps it backwards. -/
import Derived.Test.YtcibjjhanafojaaDoorNLL3
set_option linter.unusedVariables false
set_option linter.unusedSimpArgs false
namespace Go.Proofs.YtcibjjhanafojaaDoor
open Go.RowKit Go.Fp

def outsL (k i : Int) : List Int := if k = 2 ∧ i = 0 then [1, 2] else if k = 2 then [0] else [xorI .i64 i 1]
def StepOk (n : ApiNet) (s : ApiStep) : Prop := Has n ⟨s.Section, s.In⟩ ∧ Has n ⟨s.Section, s.Out⟩ ∧ s.Out ∈ outsL (sec n s.Section).Kind s.In
structure PathOk (n : ApiNet) (l : List ApiStep) : Prop where
  step : ∀ s ∈ l, StepOk n s
  join : ∀ k (h : k + 1 < l.length), joinL n.Links ⟨l[k].Section, l[k].Out⟩ = some ⟨l[k + 1].Section, l[k + 1].In⟩
  nd : l.Pairwise (fun a b => a.Section ≠ b.Section)
theorem mgetI_put (l : List (Int × Bool)) (a e : Int) : mgetD (mput l a true) e false = true ↔ e = a ∨ mgetD l e false = true := by
  unfold mgetD
  by_cases h : e = a
  · subst h
    rw [mget_mput_same]
    simp
  · rw [mget_mput_other l true h]
    simp [h]
theorem path_spec {n : ApiNet} (hN : NetOk n) {l : List ApiStep} (hl : l.length ≤ 60) : ∃ c, ((forM (mLineCheckPath_L591 n l) l.length 0 (([] : (List (Int × Bool))) : (List (Int × Bool)))).bind fun t => Sum.elim (fun _ => some 0) (fun q => some q) t) = some c ∧ (c = 0 ↔ PathOk n l) := by
  rcases forM_inv (body := mLineCheckPath_L591 n l) (fun k m => (∀ e, mgetD m e false = true ↔ ∃ j, ∃ h : j < l.length, j < k ∧ l[j].Section = e) ∧ (∀ j (h : j < l.length), j < k → StepOk n l[j]) ∧ (∀ j (h : j + 1 < l.length), j + 1 < k → joinL n.Links ⟨l[j].Section, l[j].Out⟩ = some ⟨l[j + 1].Section, l[j + 1].In⟩) ∧ ∀ i j (hi : i < l.length) (hj : j < l.length), i < j → j < k → l[i].Section ≠ l[j].Section) (fun c : Int => c ≠ 0 ∧ ¬ PathOk n l) l.length 0 []
    ⟨fun e => ⟨fun h => by simp [mgetD, mget] at h, fun ⟨j, _, hj, _⟩ => absurd hj (by omega)⟩, fun j _ hj => absurd hj (by omega), fun j _ hj => absurd hj (by omega), fun i j _ _ _ hj => absurd hj (by omega)⟩ (fun k m _ hkk hi => by
    obtain ⟨i1, i2, i3, i4⟩ := hi
    have hk : k < l.length := by omega
    unfold mLineCheckPath_L591
    rw [idx_lt hk, Option.bind_some, has_eq hN.n60, Option.bind_some, has_eq hN.n60, Option.bind_some]
    obtain ⟨b, hb, hb2⟩ : ∃ b : Bool, (if decide (Has n ⟨l[k].Section, l[k].In⟩) = true then some (!decide (Has n ⟨l[k].Section, l[k].Out⟩)) else some true) = some b ∧ (b = false ↔ Has n ⟨l[k].Section, l[k].In⟩ ∧ Has n ⟨l[k].Section, l[k].Out⟩) := by
      by_cases c1 : Has n ⟨l[k].Section, l[k].In⟩
      · rw [decide_eq_true c1, if_pos rfl]
        refine ⟨_, rfl, ?_⟩
        simp [c1]
      · rw [decide_eq_false c1, if_neg (by decide)]
        exact ⟨true, rfl, by simp [c1]⟩
    rw [hb, Option.bind_some]
    by_cases c1 : b = true
    · rw [if_pos c1]
      refine .inr ⟨3, rfl, by decide, fun hp => ?_⟩
      have hs := hp.step _ (List.getElem_mem hk)
      have := hb2.2 ⟨hs.1, hs.2.1⟩
      rw [c1] at this
      cases this
    · obtain ⟨g1, g2⟩ := hb2.1 (by simpa using c1)
      rw [if_neg c1, idx_sec g1.1, Option.bind_some, outs_eq, Option.bind_some, contains_eq, Option.bind_some, Option.bind_some]
      by_cases c2 : l[k].Out ∈ outsL (sec n l[k].Section).Kind l[k].In
      · have c2' : (!decide (l[k].Out ∈ (if (sec n l[k].Section).Kind = 2 ∧ l[k].In = 0 then [1, 2] else if (sec n l[k].Section).Kind = 2 then [0] else [xorI .i64 l[k].In 1]))) = false := by
          have : l[k].Out ∈ (if (sec n l[k].Section).Kind = 2 ∧ l[k].In = 0 then [1, 2] else if (sec n l[k].Section).Kind = 2 then [0] else [xorI .i64 l[k].In 1]) := c2
          rw [decide_eq_true this]
          rfl
        rw [c2', if_neg (by decide)]
        have hstep : StepOk n l[k] := ⟨g1, g2, c2⟩
        obtain ⟨d, hd, hd2⟩ : ∃ d : Bool, (if 0 < (k : Int) then (chk ((k : Int) - 1)).bind fun _ => (idx l ((k : Int) - 1)).bind fun x1103 => (mLineJoined n (⟨x1103.Section, x1103.Out⟩ : LineEnd)).bind (unc3 fun x1114 x1115 x1116 => (if x1116 = true then some (!(decide (x1114 = l[k].Section ∧ x1115 = l[k].In))) else some true).bind (fun x1124 => if x1124 = true then some (.inr (.inr 5)) else some (.inl ()))) else some (.inl ()) : Option (Unit ⊕ (List (Int × Bool) ⊕ Int))) = some (if d = true then .inr (.inr 5) else .inl ()) ∧ (d = false ↔ ∀ j (h : j + 1 < l.length), j + 1 = k → joinL n.Links ⟨l[j].Section, l[j].Out⟩ = some ⟨l[j + 1].Section, l[j + 1].In⟩) := by
          by_cases h0 : 0 < (k : Int)
          · obtain ⟨q, rfl⟩ : ∃ q, k = q + 1 := ⟨k - 1, by omega⟩
            have hq : q < l.length := by omega
            rw [if_pos h0, chk_ok (by omega) (by omega), Option.bind_some, show ((q + 1 : Nat) : Int) - 1 = (q : Int) by omega, idx_lt hq, Option.bind_some, joined_eq, Option.bind_some]
            have only : (∀ j (h : j + 1 < l.length), j + 1 = q + 1 → joinL n.Links ⟨l[j].Section, l[j].Out⟩ = some ⟨l[j + 1].Section, l[j + 1].In⟩) ↔ joinL n.Links ⟨l[q].Section, l[q].Out⟩ = some ⟨l[q + 1].Section, l[q + 1].In⟩ := ⟨fun h => h q hk rfl, fun h j hj e => by
              have : j = q := by omega
              subst this
              exact h⟩
            rw [only]
            unfold joinR
            cases hj : joinL n.Links ⟨l[q].Section, l[q].Out⟩ with
            | none => exact ⟨true, rfl, by simp⟩
            | some f =>
              simp only [unc3, if_true, Option.bind_some]
              by_cases hf : f.section_ = l[q + 1].Section ∧ f.end_ = l[q + 1].In
              · rw [decide_eq_true hf]
                refine ⟨false, rfl, ?_⟩
                have : f = ⟨l[q + 1].Section, l[q + 1].In⟩ := by
                  cases f
                  simp only at hf
                  rw [hf.1, hf.2]
                simp [this]
              · rw [decide_eq_false hf]
                refine ⟨true, rfl, ?_⟩
                have : ¬ f = ⟨l[q + 1].Section, l[q + 1].In⟩ := fun e => hf (by rw [e]; exact ⟨rfl, rfl⟩)
                simp [this]
          · rw [if_neg h0]
            exact ⟨false, rfl, ⟨fun _ j _ e => by omega, fun _ => rfl⟩⟩
        rw [hd, Option.bind_some]
        by_cases c3 : d = true
        · rw [if_pos c3]
          refine .inr ⟨5, rfl, by decide, fun hp => ?_⟩
          have := hd2.2 (fun j h _ => hp.join j h)
          rw [c3] at this
          cases this
        · have hjn := hd2.1 (by simpa using c3)
          rw [if_neg c3, Sum.elim_inl, Option.bind_some]
          by_cases c4 : mgetD m l[k].Section false = true
          · rw [if_pos c4]
            refine .inr ⟨6, rfl, by decide, fun hp => ?_⟩
            obtain ⟨j, hj, hjk, he⟩ := (i1 _).1 c4
            exact List.pairwise_iff_getElem.1 hp.nd j k hj hk hjk he
          · rw [if_neg c4]
            refine .inl ⟨_, rfl, fun e => ?_, fun j hj hjk => ?_, fun j hj hjk => ?_, fun i j hi hj hij hjk => ?_⟩
            · rw [mgetI_put, i1 e]
              constructor
              · rintro (h | ⟨j, hj, hjk, h⟩)
                · exact ⟨k, hk, by omega, h.symm⟩
                · exact ⟨j, hj, by omega, h⟩
              · rintro ⟨j, hj, hjk, h⟩
                by_cases ej : j = k
                · subst ej
                  exact .inl h.symm
                · exact .inr ⟨j, hj, by omega, h⟩
            · by_cases ej : j = k
              · subst ej; exact hstep
              · exact i2 j hj (by omega)
            · by_cases ej : j + 1 = k
              · exact hjn j hj ej
              · exact i3 j hj (by omega)
            · by_cases ej : j = k
              · subst ej
                exact fun h => c4 ((i1 _).2 ⟨i, hi, hij, h⟩)
              · exact i4 i j hi hj hij (by omega)
      · have c2' : (!decide (l[k].Out ∈ (if (sec n l[k].Section).Kind = 2 ∧ l[k].In = 0 then [1, 2] else if (sec n l[k].Section).Kind = 2 then [0] else [xorI .i64 l[k].In 1]))) = true := by
          have : ¬ l[k].Out ∈ (if (sec n l[k].Section).Kind = 2 ∧ l[k].In = 0 then [1, 2] else if (sec n l[k].Section).Kind = 2 then [0] else [xorI .i64 l[k].In 1]) := c2
          rw [decide_eq_false this]
          rfl
        rw [c2', if_pos rfl]
        exact .inr ⟨1, rfl, by decide, fun hp => c2 (hp.step _ (List.getElem_mem hk)).2.2⟩) with ⟨m, h1, h2, h3, h4, h5⟩ | ⟨c, h1, h2, h3⟩
  · rw [h1]
    refine ⟨0, rfl, fun _ => ⟨fun s hs => ?_, fun k h => h4 k h (by omega), ?_⟩, fun _ => rfl⟩
    · obtain ⟨j, hj, rfl⟩ := List.getElem_of_mem hs
      exact h3 j hj (by omega)
    · rw [List.pairwise_iff_getElem]
      intro i j hi hj hij
      exact h5 i j hi hj hij (by omega)
  · rw [h1]
    exact ⟨c, rfl, fun h => absurd h h2, fun h => absurd h h3⟩
end Go.Proofs.YtcibjjhanafojaaDoor
