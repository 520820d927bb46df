/- Plain: the kinds of the needs of a route. -/
import Derived.Test.YtcibjjhanafojaaGreatDoorSLS2
set_option linter.unusedVariables false
set_option linter.unusedSimpArgs false
namespace Go.Proofs.YtcibjjhanafojaaGreatDoor
open Go.RowKit Go.Fp

/-- Whatever comes out keeps 'P'. -/
def Ens {α : Type} (o : Option α) (P : α → Prop) : Prop := ∀ x, o = some x → P x
section
variable {α β γ δ τ : Type} {P : τ → Prop}
theorem ens_some {x : τ} (h : P x) : Ens (some x) P := fun y hy => by injection hy with hy; rw [← hy]; exact h
theorem ens_none : Ens (none : Option τ) P := fun y hy => by cases hy
theorem ens_bind {o : Option α} {f : α → Option τ} (h : ∀ a, o = some a → Ens (f a) P) : Ens (o.bind f) P := fun y hy => by
  obtain ⟨a, h1, h2⟩ := bindS hy
  exact h a h1 y h2
theorem ens_bindP {o : Option α} {f : α → Option τ} (Q : α → Prop) (h1 : Ens o Q) (h : ∀ a, Q a → Ens (f a) P) : Ens (o.bind f) P := ens_bind fun a ha => h a (h1 a ha)
theorem ens_ite {c : Prop} [Decidable c] {a b : Option τ} (h1 : c → Ens a P) (h2 : ¬ c → Ens b P) : Ens (if c then a else b) P := by
  split
  · exact h1 ‹_›
  · exact h2 ‹_›
theorem ens_forS {σ : Type} {body : Nat → σ → Option σ} {I : σ → Prop} (h : ∀ k s, I s → Ens (body k s) I) : ∀ (m k : Nat) (s : σ), I s → Ens (forS body m k s) I
  | 0, k, s, hs => ens_some hs
  | m + 1, k, s, hs => by
    show Ens ((body k s).bind _) I
    exact ens_bindP I (h k s hs) fun a ha => ens_forS h m (k + 1) a ha
theorem ens_lim {f : Nat → Option τ} (h : ∀ N, Ens (f N) P) : Ens (lim f) P := fun y hy => by
  obtain ⟨N, hN⟩ := lim_some hy
  exact h N y hN
end
def KK (S : List ApiNeed × List (ApiNeed × Bool)) : Prop := ∀ x ∈ S.1, 1 ≤ x.Kind ∧ x.Kind ≤ 5
variable {a : List ByteArray} {b : List ApiSection} {c : List ApiLink} {d : List ApiSignal} {e : List ApiGate} {f t : Int} {st lap : List ApiStep}
theorem need_kinds {x : ApiNeed} {l : List ApiNeed} {m : List (ApiNeed × Bool)} (h : KK (l, m)) (hx : 1 ≤ x.Kind ∧ x.Kind ≤ 5) : Ens (mLineLookerNeed x a b c d e f t st lap l m) KK := by
  unfold mLineLookerNeed
  refine ens_bind fun q _ => ens_ite (fun _ => ens_some h) fun _ => ens_bind fun _ _ => ens_some fun y hy => ?_
  rcases List.mem_append.1 hy with hy | hy
  · exact h y hy
  · rw [List.mem_singleton.1 hy]; exact hx
theorem need_kinds2 {x : ApiNeed} {l : List ApiNeed} {m : List (ApiNeed × Bool)} (h : KK (l, m)) (hx : 1 ≤ x.Kind ∧ x.Kind ≤ 5) : Ens ((mLineLookerNeed x a b c d e f t st lap l m).bind (unc2 fun l' m' => some (l', m'))) KK :=
  ens_bindP KK (need_kinds h hx) fun _ ha => ens_some ha
theorem look1_kinds : ∀ (N : Nat) (g : LineEnd) (many i : Int) (l : List ApiNeed) (m : List (ApiNeed × Bool)), KK (l, m) → Ens (mLineLookerLook_1 N g many i a b c d e f t st lap l m) KK
  | 0, g, many, i, l, m, h => ens_none
  | N + 1, g, many, i, l, m, h => by
    have keep : Ens (some (l, m)) KK := ens_some h
    unfold mLineLookerLook_1
    refine ens_bind fun ⟨x, y, z⟩ _ => ?_
    show Ens (Option.bind _ _) KK
    refine ens_bind fun q _ => ens_ite (fun _ => keep) fun _ => ens_bind fun s _ => ens_bindP (fun o : Unit ⊕ _ => ∀ S, o = .inr S → KK S) ?_ ?_
    · refine ens_bind fun q _ => ens_ite (fun _ => ?_) fun _ => ens_ite (fun _ => ens_bind fun v _ => ens_ite (fun _ => ?_) fun _ => ?_) fun _ => ?_
      · refine ens_bindP KK ?_ fun ⟨u, v⟩ hS => ens_some fun S hs => by injection hs with hs; rw [← hs]; exact hS
        exact ens_bind fun q _ => ens_ite (fun _ => keep) fun _ => ens_bind fun _ _ => need_kinds2 h ⟨by simp, by simp⟩
      · refine ens_bindP KK ?_ fun ⟨u, v⟩ hS => ens_some fun S hs => by injection hs with hs; rw [← hs]; exact hS
        exact ens_ite (fun _ => need_kinds2 h ⟨by simp, by simp⟩) fun _ => keep
      · exact ens_some fun S hs => by cases hs
      · exact ens_some fun S hs => by cases hs
    · rintro (u | S) hS
      · rw [Sum.elim_inl]
        refine ens_bind fun o _ => ens_bindP KK ?_ fun ⟨u, v⟩ hS => ens_some hS
        refine ens_forS (fun k ⟨l', m'⟩ hk => ?_) _ _ _ h
        unfold mLineLookerLook_1_L1139
        show Ens (Option.bind _ _) KK
        exact ens_bind fun _ _ => ens_bind fun _ _ => ens_bindP KK (look1_kinds N _ _ _ _ _ hk) fun ⟨u, v⟩ hS => ens_some hS
      · rw [Sum.elim_inr]
        exact ens_some (hS S rfl)
theorem look_kinds (i : Int) (l : List ApiNeed) (m : List (ApiNeed × Bool)) (h : KK (l, m)) : Ens (mLineLookerLook i a b c d e f t st lap l m) KK := by
  unfold mLineLookerLook
  refine ens_bind fun ⟨x, y, z⟩ _ => ?_
  show Ens (Option.bind _ _) KK
  refine ens_bind fun _ _ => ens_bind fun _ _ => ens_bind fun _ _ => ens_bindP KK ?_ fun ⟨u, v⟩ hS => ens_some hS
  refine ens_forS (fun k ⟨l', m'⟩ hk => ?_) _ _ _ h
  unfold mLineLookerLook_L306
  show Ens (Option.bind _ _) KK
  exact ens_bind fun _ _ => ens_ite (fun _ => ens_bindP KK (ens_lim fun N => look1_kinds N _ _ _ _ _ hk) fun ⟨u, v⟩ hS => ens_some hS) fun _ => ens_some hk
/-- Each need has one of the kinds. -/
theorem needs_kinds {n : ApiNet} {r : ApiRoute} {l : List ApiNeed} (h : mLineNeeds n r = some l) : ∀ x ∈ l, 1 ≤ x.Kind ∧ x.Kind ≤ 5 := by
  have f1 : ∀ lap S, KK S → Ens (forS (mLineNeeds_L550 n r lap) r.Steps.length 0 S) KK := fun lap S hS => ens_forS (fun k ⟨l', m'⟩ hk => by
    unfold mLineNeeds_L550
    show Ens (Option.bind _ _) KK
    exact ens_bind fun _ _ => ens_bind fun _ _ => need_kinds2 hk ⟨by simp, by simp⟩) _ _ _ hS
  have f2 : ∀ lap S, KK S → Ens (forS (mLineNeeds_L696 n r lap) lap.length 0 S) KK := fun lap S hS => ens_forS (fun k ⟨l', m'⟩ hk => by
    unfold mLineNeeds_L696
    show Ens (Option.bind _ _) KK
    exact ens_bind fun _ _ => ens_bind fun _ _ => need_kinds2 hk ⟨by simp, by simp⟩) _ _ _ hS
  have f3 : ∀ lap S, KK S → Ens (forS (mLineNeeds_L860 n r lap) r.Steps.length 0 S) KK := fun lap S hS => ens_forS (fun k ⟨l', m'⟩ hk => by
    unfold mLineNeeds_L860
    show Ens (Option.bind _ _) KK
    exact ens_bindP KK (look_kinds _ _ _ hk) fun ⟨u, v⟩ hS => ens_some hS) _ _ _ hS
  have h0 : Ens (mLineNeeds n r) (fun l => ∀ x ∈ l, 1 ≤ x.Kind ∧ x.Kind ≤ 5) := by
    unfold mLineNeeds
    refine ens_bind fun S _ => ?_
    obtain ⟨lap, m0⟩ := S
    show Ens (Option.bind _ _) _
    refine ens_bindP KK (f1 lap ([], m0) fun x hx => by cases hx) fun S h1 => ?_
    obtain ⟨u, v⟩ := S
    show Ens (Option.bind _ _) _
    refine ens_bindP KK (f2 lap (u, v) h1) fun S h2 => ?_
    obtain ⟨u, v⟩ := S
    show Ens (Option.bind _ _) _
    refine ens_bindP KK (f3 lap (u, v) h2) fun S h3 => ?_
    obtain ⟨u, v⟩ := S
    show Ens (Option.bind _ _) _
    refine ens_bindP KK (need_kinds h3 ⟨by simp, by simp⟩) fun S h4 => ?_
    obtain ⟨u, v⟩ := S
    exact ens_some h4
  exact h0 l h
end Go.Proofs.YtcibjjhanafojaaGreatDoor
