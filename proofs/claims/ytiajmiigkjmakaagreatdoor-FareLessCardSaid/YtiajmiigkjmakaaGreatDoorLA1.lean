/- Plain: models with fuel grow; loops side by side. -/
import Derived.Test.YtiajmiigkjmakaaGreatDoorX6
import Derived.Test.YtiajmiigkjmakaaGreatDoorFD
set_option linter.unusedVariables false
set_option linter.unusedSimpArgs false
namespace Go.Proofs.YtiajmiigkjmakaaGreatDoor
open Go.RowKit Go.Fp

/-- What the first gives, the second gives too. -/
def OLe {τ : Type} (a b : Option τ) : Prop := ∀ x, a = some x → b = some x
theorem OLe.refl {τ : Type} (a : Option τ) : OLe a a := fun _ h => h
theorem OLe.bind {τ υ : Type} {a b : Option τ} {f g : τ → Option υ} (h : OLe a b) (hf : ∀ x, OLe (f x) (g x)) : OLe (a.bind f) (b.bind g) := fun x hx => by
  cases a with
  | none => cases hx
  | some y =>
    rw [h y rfl]
    exact hf y x hx
theorem OLe.ite {τ : Type} {c : Prop} [Decidable c] {a a' b b' : Option τ} (h1 : OLe a a') (h2 : OLe b b') : OLe (if c then a else b) (if c then a' else b') := by
  split
  · exact h1
  · exact h2
theorem OLe.sum {σ τ υ : Type} {f f' : σ → Option υ} {g g' : τ → Option υ} (h1 : ∀ x, OLe (f x) (f' x)) (h2 : ∀ x, OLe (g x) (g' x)) (t : σ ⊕ τ) : OLe (Sum.elim f g t) (Sum.elim f' g' t) := by
  cases t with
  | inl s => exact h1 s
  | inr s => exact h2 s
theorem OLe.unc2 {α β υ : Type} {f g : α → β → Option υ} (h : ∀ a b, OLe (f a b) (g a b)) (p : α × β) : OLe (Go.Fp.unc2 f p) (Go.Fp.unc2 g p) := h p.1 p.2
theorem OLe.forS {σ : Type} {f g : Nat → σ → Option σ} (h : ∀ k s, OLe (f k s) (g k s)) : ∀ (m k : Nat) (s : σ), OLe (Go.Fp.forS f m k s) (Go.Fp.forS g m k s)
  | 0, _, _ => .refl _
  | m + 1, k, s => OLe.bind (h k s) (fun x => OLe.forS h m (k + 1) x)
theorem OLe.forM {σ τ : Type} {f g : Nat → σ → Option (σ ⊕ τ)} (h : ∀ k s, OLe (f k s) (g k s)) : ∀ (m k : Nat) (s : σ), OLe (Go.Fp.forM f m k s) (Go.Fp.forM g m k s)
  | 0, _, _ => .refl _
  | m + 1, k, s => fun x hx => by
    have hx : (match f k s with | none => none | some (.inl s') => Go.Fp.forM f m (k + 1) s' | some (.inr t) => some (.inr t)) = some x := hx
    show (match g k s with | none => none | some (.inl s') => Go.Fp.forM g m (k + 1) s' | some (.inr t) => some (.inr t)) = some x
    cases e : f k s with
    | none => rw [e] at hx; cases hx
    | some y =>
      rw [e] at hx
      rw [h k s y e]
      cases y with
      | inl s' => exact OLe.forM h m (k + 1) s' x hx
      | inr t => exact hx
theorem mono_add {τ : Type} {f : Nat → Option τ} (h : ∀ n, OLe (f n) (f (n + 1))) (n d : Nat) : OLe (f n) (f (n + d)) := by
  induction d with
  | zero => exact .refl _
  | succ d ih => exact fun x hx => h _ x (ih x hx)
theorem lim_is {τ : Type} {f : Nat → Option τ} (h : ∀ n, OLe (f n) (f (n + 1))) {n : Nat} {t : τ} (e : f n = some t) : lim f = some t := lim_of e (fun k x hx => h k x hx)
/-- A number that serves all of a list. -/
theorem fuel_all {α : Type} {Q : Nat → α → Prop} (hm : ∀ n a, Q n a → Q (n + 1) a) : ∀ (l : List α), (∀ a ∈ l, ∃ n, Q n a) → ∃ n, ∀ a ∈ l, Q n a
  | [], _ => ⟨0, fun a h => absurd h (List.not_mem_nil)⟩
  | a :: r, h => by
    have up : ∀ n a, Q n a → ∀ d, Q (n + d) a := fun n a hq d => by
      induction d with
      | zero => exact hq
      | succ d ih => exact hm _ _ ih
    obtain ⟨n, hn⟩ := h a (List.mem_cons_self ..)
    obtain ⟨m, hmm⟩ := fuel_all hm r (fun b hb => h b (List.mem_cons_of_mem _ hb))
    refine ⟨n + m, fun b hb => ?_⟩
    rcases List.mem_cons.1 hb with rfl | hb
    · exact up n b hn m
    · rw [Nat.add_comm]
      exact up m b (hmm b hb) n
/-- One loop follows another as long as that one goes on. -/
theorem forM_follow {σ τ υ : Type} {f : Nat → σ → Option (σ ⊕ τ)} {g : Nat → σ → Option (σ ⊕ υ)} : ∀ (m k : Nat) (s t : σ), (∀ j s s', k ≤ j → j < k + m → f j s = some (.inl s') → g j s = some (.inl s')) → Go.Fp.forM f m k s = some (.inl t) → Go.Fp.forM g m k s = some (.inl t)
  | 0, _, s, t, _, h => by
    have h : some (Sum.inl s) = some (Sum.inl t) := h
    injection h with h
    injection h with h
    rw [h]
    rfl
  | m + 1, k, s, t, hs, h => by
    have h : (match f k s with | none => none | some (.inl s') => Go.Fp.forM f m (k + 1) s' | some (.inr t) => some (.inr t)) = some (.inl t) := h
    cases e : f k s with
    | none => rw [e] at h; cases h
    | some y =>
      rw [e] at h
      cases y with
      | inr t' => cases h
      | inl s' =>
        rw [forM_succ_inl (hs k s s' (Nat.le_refl _) (by omega) e)]
        exact forM_follow m (k + 1) s' t (fun j s s' hj hj' => hs j s s' (by omega) (by omega)) h
theorem forM_step {σ τ : Type} {f : Nat → σ → Option (σ ⊕ τ)} {m k : Nat} {s t : σ} (h : Go.Fp.forM f (m + 1) k s = some (.inl t)) : ∃ s', f k s = some (.inl s') ∧ Go.Fp.forM f m (k + 1) s' = some (.inl t) := by
  have h : (match f k s with | none => none | some (.inl s') => Go.Fp.forM f m (k + 1) s' | some (.inr t) => some (.inr t)) = some (.inl t) := h
  cases e : f k s with
  | none => rw [e] at h; cases h
  | some y =>
    rw [e] at h
    cases y with
    | inr t' => cases h
    | inl s' => exact ⟨s', rfl, h⟩
theorem forM_all {τ : Type} {f : Nat → Unit → Option (Unit ⊕ τ)} : ∀ (m k : Nat), Go.Fp.forM f m k () = some (.inl ()) → ∀ j, k ≤ j → j < k + m → f j () = some (.inl ())
  | 0, _, _ => fun j h1 h2 => by omega
  | m + 1, k, h => fun j h1 h2 => by
    obtain ⟨s', e, h⟩ := forM_step h
    rcases Nat.lt_or_ge k j with hj | hj
    · exact forM_all m (k + 1) h j (by omega) (by omega)
    · obtain rfl : j = k := by omega
      exact e
theorem forM_end {σ τ : Type} {f : Nat → σ → Option (σ ⊕ τ)} (Q : τ → Prop) (m k : Nat) (s : σ) (h : ∀ j s, k ≤ j → j < k + m → (∃ s', f j s = some (.inl s')) ∨ ∃ t, f j s = some (.inr t) ∧ Q t) :
    (∃ s', Go.Fp.forM f m k s = some (.inl s')) ∨ ∃ t, Go.Fp.forM f m k s = some (.inr t) ∧ Q t := by
  rcases forM_inv (body := f) (fun _ _ => True) Q m k s trivial (fun j s h1 h2 _ => by
    rcases h j s h1 h2 with ⟨s', h⟩ | h
    · exact .inl ⟨s', h, trivial⟩
    · exact .inr h) with ⟨s', h, _⟩ | h
  · exact .inl ⟨s', h⟩
  · exact .inr h
theorem forS_snoc {σ : Type} {f : Nat → σ → Option σ} : ∀ (m k : Nat) (s : σ), Go.Fp.forS f (m + 1) k s = (Go.Fp.forS f m k s).bind (f (k + m))
  | 0, k, s => by
    show (f k s).bind (fun x => some x) = f (k + 0) s
    rw [Nat.add_zero]
    cases f k s <;> rfl
  | m + 1, k, s => by
    show (f k s).bind (Go.Fp.forS f (m + 1) (k + 1)) = ((f k s).bind (Go.Fp.forS f m (k + 1))).bind (f (k + (m + 1)))
    cases f k s with
    | none => rfl
    | some y =>
      show Go.Fp.forS f (m + 1) (k + 1) y = _
      rw [forS_snoc m (k + 1) y, show k + 1 + m = k + (m + 1) by omega]
      rfl
theorem cond_ind {P : FareCond → Prop} (h : ∀ c : FareCond, (∀ k ∈ c.Kids, P k) → P c) (c : FareCond) : P c := by
  have key : ∀ n : Nat, ∀ c : FareCond, SizeOf.sizeOf c < n → P c := fun n => by
    induction n with
    | zero => intro c hc; omega
    | succ n ih =>
      intro c hc
      refine h c fun k hk => ih k ?_
      have h1 := List.sizeOf_lt_of_mem hk
      have h2 : SizeOf.sizeOf c.Kids < SizeOf.sizeOf c := by
        cases c with
        | mk a b d l => simp only [FareCond.mk.sizeOf_spec]; omega
      omega
  exact key (SizeOf.sizeOf c + 1) c (by omega)
theorem within_spec (x a b : Int) : mFareWithin x a b = some (decide (a ≤ x ∧ x ≤ b)) := by
  unfold mFareWithin
  by_cases h : a ≤ x
  · rw [if_pos h]
    simp [h]
  · rw [if_neg h]
    simp [h]
theorem within_ref (x a b : Int) : mFishref2Within x a b = some (decide (a ≤ x ∧ x ≤ b)) := within_spec x a b
theorem size_mono : ∀ (N : Nat) (c : FareCond), OLe (mFareCondSize N c) (mFareCondSize (N + 1) c)
  | 0, _ => fun _ h => by cases h
  | N + 1, c => by
    rw [mFareCondSize, mFareCondSize]
    refine .bind (.forS (fun k s => ?_) _ _ _) (fun _ => .refl _)
    unfold mFareCondSize_L114
    exact .unc2 (fun _ _ => .bind (.refl _) fun y => .bind (size_mono N y) fun _ => .refl _) s
theorem node_mono : ∀ (N : Nat) (c : FareCond), OLe (mFareCondNode N c) (mFareCondNode (N + 1) c)
  | 0, _ => fun _ h => by cases h
  | N + 1, c => by
    rw [mFareCondNode, mFareCondNode]
    refine .bind (.refl _) fun _ => .bind (.refl _) fun _ => .ite (.bind (.refl _) fun _ => .ite (.refl _) (.bind (.refl _) fun _ => .ite (.refl _) (.bind (.refl _) fun _ => .ite (.refl _) (.bind (.forM (fun k s => ?_) _ _ _) fun _ => .refl _)))) (.refl _)
    unfold mFareCondNode_L301
    exact .bind (.refl _) fun y => .bind (node_mono N y) fun _ => .refl _
theorem shape_mono : ∀ (N : Nat) (c : FareCond) (x : Int), OLe (mFishref2Shape N c x) (mFishref2Shape (N + 1) c x)
  | 0, _, _ => fun _ h => by cases h
  | N + 1, c, x => by
    rw [mFishref2Shape, mFishref2Shape]
    refine .bind (.refl _) fun _ => .ite (.refl _) (.bind (.bind (.forM (fun k s => ?_) _ _ _) fun _ => .refl _) fun _ => .refl _)
    unfold mFishref2Shape_L331
    exact .unc2 (fun _ _ => .bind (.refl _) fun y => .bind (shape_mono N y _) fun _ => .refl _) s
theorem fault_mono : ∀ (N : Nat) (c : FareCond), OLe (mFishref2NodeFault N c) (mFishref2NodeFault (N + 1) c)
  | 0, _ => fun _ h => by cases h
  | N + 1, c => by
    rw [mFishref2NodeFault, mFishref2NodeFault]
    refine .bind (.refl _) fun _ => .ite (.bind (.refl _) fun _ => .ite (.refl _) (.bind (.refl _) fun _ => .bind (.refl _) fun _ => .ite (.refl _) (.bind (.refl _) fun t => .sum (fun _ => .bind (.forM (fun k s => ?_) _ _ _) fun _ => .refl _) (fun _ => .refl _) t))) (.refl _)
    unfold mFishref2NodeFault_L318
    exact .bind (.refl _) fun y => .bind (fault_mono N y) fun _ => .refl _
theorem index_mono2 {f g : FareCond → FareTrip → Option Bool} (h : ∀ c t, OLe (f c t) (g c t)) (l : List FareCond) (a b c d : Int) (e : Bool) (z : List Int) : OLe (mSlicesContainsFunc f l a b c d e z) (mSlicesContainsFunc g l a b c d e z) := by
  unfold mSlicesContainsFunc mSlicesIndexFunc_2
  refine .bind (.bind (.forM (fun k s => ?_) _ _ _) fun _ => .refl _) fun _ => .refl _
  unfold mSlicesIndexFunc_2_L62 mFareCondHolds_2_5
  exact .bind (.refl _) fun y => .bind (.bind (h _ _) fun _ => .refl _) fun _ => .refl _
theorem index_mono3 {f g : FareCond → FareTrip → Option Bool} (h : ∀ c t, OLe (f c t) (g c t)) (l : List FareCond) (a b c d : Int) (e : Bool) (z : List Int) : OLe (mSlicesContainsFunc_2 f l a b c d e z) (mSlicesContainsFunc_2 g l a b c d e z) := by
  unfold mSlicesContainsFunc_2 mSlicesIndexFunc_3
  refine .bind (.bind (.forM (fun k s => ?_) _ _ _) fun _ => .refl _) fun _ => .refl _
  unfold mSlicesIndexFunc_3_L62 mFareCondHolds_3_5
  exact .bind (.refl _) fun y => .bind (.bind (h _ _) fun _ => .refl _) fun _ => .refl _
theorem holds_mono : ∀ (N : Nat) (c : FareCond) (t : FareTrip), OLe (mFareCondHolds N c t) (mFareCondHolds (N + 1) c t)
  | 0, _, _ => fun _ h => by cases h
  | N + 1, c, t => by
    rw [mFareCondHolds, mFareCondHolds]
    refine .ite (.refl _) (.ite (.refl _) (.ite (.refl _) (.ite (.refl _) (.ite (.refl _) (.ite (.refl _) (.ite (.refl _) (.ite (.refl _) (.ite ?_ (.ite ?_ (.ite ?_ (.refl _)))))))))))
    · exact .bind (.refl _) fun y => .bind (holds_mono N y t) fun _ => .refl _
    · exact .bind (index_mono2 (holds_mono N) _ _ _ _ _ _ _) fun _ => .refl _
    · exact .bind (index_mono3 (holds_mono N) _ _ _ _ _ _ _) fun _ => .refl _
end Go.Proofs.YtiajmiigkjmakaaGreatDoor
