import Derived.Test.YtdbehipjelcmbaaGreatDoorF2
import Derived.Test.YtdbehipjelcmbaaGreatDoorQZD
import Derived.KernelRfl
import Derived.Test.YtdbehipjelcmbaaGreatDoorF3
set_option linter.unusedVariables false
set_option linter.unusedSimpArgs false
set_option linter.unusedSectionVars false
namespace Go.Fp
theorem Y0 {σ : Type} {body : Nat → σ → Option σ} (I : Nat → σ → Prop) : ∀ (m k : Nat) (s : σ), I k s → (∀ j s, k ≤ j → j < k + m → I j s → ∃ s', body j s = some s' ∧ I (j + 1) s') → ∃ s', q4M body m k s = some s' ∧ I (k + m) s'
 | 0, k, s, h0, _ => ⟨s, rfl, h0⟩
 | m + 1, k, s, h0, h => by
  obtain ⟨s', h1, h2⟩ := h k s (Nat.le_refl _) (by omega) h0
  obtain ⟨s'', h3, h4⟩ := Y0 I m (k + 1) s' h2 (fun j t hj hj' hi => h j t (by omega) (by omega) hi)
  refine ⟨s'', ?_, by rw [show k + (m + 1) = k + 1 + m by omega]; exact h4⟩
  show (body k s).bind _ = _
  rw [h1]
  exact h3
theorem F7 {σ τ : Type} {body : Nat → σ → Option (σ ⊕ τ)} (I : Nat → σ → Prop) (Q : τ → Prop) : ∀ (m k : Nat) (s : σ), I k s → (∀ j s, k ≤ j → j < k + m → I j s → (∃ s', body j s = some (.inl s') ∧ I (j + 1) s') ∨ ∃ t, body j s = some (.inr t) ∧ Q t) →
  (∃ s', forM body m k s = some (.inl s') ∧ I (k + m) s') ∨ ∃ t, forM body m k s = some (.inr t) ∧ Q t
 | 0, k, s, h0, _ => .inl ⟨s, rfl, h0⟩
 | m + 1, k, s, h0, h => by
  rcases h k s (Nat.le_refl _) (by omega) h0 with ⟨s', h1, h2⟩ | ⟨t, h1, h2⟩
  ·rcases F7 I Q m (k + 1) s' h2 (fun j t hj hj' hi => h j t (by omega) (by omega) hi) with ⟨s'', h3, h4⟩ | ⟨t, h3, h4⟩
   ·refine .inl ⟨s'', ?_, by rw [show k + (m + 1) = k + 1 + m by omega]; exact h4⟩
    show (match body k s with | none => none | some (.inl s') => forM body m (k + 1) s' | some (.inr t) => some (.inr t)) = _
    rw [h1]
    exact h3
   ·refine .inr ⟨t, ?_, h4⟩
    show (match body k s with | none => none | some (.inl s') => forM body m (k + 1) s' | some (.inr t) => some (.inr t)) = _
    rw [h1]
    exact h3
  ·refine .inr ⟨t, ?_, h2⟩
   show (match body k s with | none => none | some (.inl s') => forM body m (k + 1) s' | some (.inr t) => some (.inr t)) = _
   rw [h1]
theorem z2l {σ τ : Type} {body : Nat → σ → Option (σ ⊕ τ)} {m k : Nat} {s s' : σ} (h : body k s = some (.inl s')) : forM body (m + 1) k s = forM body m (k + 1) s' := by
 show (match body k s with | none => none | some (.inl s') => forM body m (k + 1) s' | some (.inr t) => some (.inr t)) = _
 rw [h]
theorem z2k {σ τ : Type} {body : Nat → σ → Option (σ ⊕ τ)} {m k : Nat} {s : σ} {t : τ} (h : body k s = some (.inr t)) : forM body (m + 1) k s = some (.inr t) := by
 show (match body k s with | none => none | some (.inl s') => forM body m (k + 1) s' | some (.inr t) => some (.inr t)) = _
 rw [h]
theorem z6l {σ τ : Type} {step : σ → Option (σ ⊕ τ)} {s s' : σ} (h : step s = some (.inl s')) : q7i step s = q7i step s' := by
 have key : ∀ n t, z1Z step (n + 1) s = some t ↔ z1Z step n s' = some t := fun n t => by
  show (match step s with | none => none | some (.inl s') => z1Z step n s' | some (.inr t) => some t) = some t ↔ _
  rw [h]
 have hz : ∀ t, z1Z step 0 s = some t → False := fun t ht => by cases ht
 unfold q7i
 by_cases hh : ∃ t n, z1Z step n s' = some t
 ·obtain ⟨t, n, ht⟩ := hh
  have mono : ∀ n s t, z1Z step n s = some t → ∀ m, n ≤ m → z1Z step m s = some t := by
   intro n
   induction n with
   | zero => intro s t h; cases h
   | succ n ih =>
    intro s t h m hm
    obtain ⟨m, rfl⟩ : ∃ q, m = q + 1 := ⟨m - 1, by omega⟩
    have h' : (match step s with | none => none | some (.inl s') => z1Z step n s' | some (.inr t) => some t) = some t := h
    show (match step s with | none => none | some (.inl s') => z1Z step m s' | some (.inr t) => some t) = some t
    split at h'
    ·cases h'
    ·exact ih _ _ h' m (by omega)
    ·exact h'
  obtain ⟨a, ha, ha2⟩ := z1r (P := fun x => x = t) (f := fun n => z1Z step n s) ⟨n + 1, t, (key n t).2 ht⟩ (fun m x hx => by
   have h1 := mono m s x hx (max m (n + 1)) (Nat.le_max_left _ _)
   have h2 := mono (n + 1) s t ((key n t).2 ht) (max m (n + 1)) (Nat.le_max_right _ _)
   exact Option.some.inj (h1.symm.trans h2))
  obtain ⟨b, hb, hb2⟩ := z1r (P := fun x => x = t) (f := fun n => z1Z step n s') ⟨n, t, ht⟩ (fun m x hx => by
   have h1 := mono m s' x hx (max m n) (Nat.le_max_left _ _)
   have h2 := mono n s' t ht (max m n) (Nat.le_max_right _ _)
   exact Option.some.inj (h1.symm.trans h2))
  rw [ha, hb, ha2, hb2]
 ·have hh2 : ¬ ∃ t n, z1Z step n s = some t := by
   rintro ⟨t, n, ht⟩
   cases n with
   | zero => exact hz t ht
   | succ n => exact hh ⟨t, n, (key n t).1 ht⟩
  unfold lim
  rw [dif_neg hh, dif_neg hh2]
theorem q8b {σ τ : Type} {step : σ → Option (σ ⊕ τ)} {s : σ} {t : τ} (h : step s = some (.inr t)) : q7i step s = some t := by
 unfold q7i
 obtain ⟨a, ha, ha2⟩ := z1r (P := fun x => x = t) (f := fun n => z1Z step n s) ⟨1, t, by show (match step s with | none => none | some (.inl s') => z1Z step 0 s' | some (.inr t) => some t) = some t; rw [h]⟩ (fun m x hx => by
  cases m with
  | zero => cases hx
  | succ m =>
   have h' : (match step s with | none => none | some (.inl s') => z1Z step m s' | some (.inr t) => some t) = some x := hx
   rw [h] at h'
   exact (Option.some.inj h').symm)
 rw [ha, ha2]
theorem z3b {σ τ : Type} {step : σ → Option (σ ⊕ τ)} (I : σ → Prop) (Q : τ → Prop) (μ : σ → Nat) (h : ∀ s, I s → (∃ s', step s = some (.inl s') ∧ I s' ∧ μ s' < μ s) ∨ ∃ t, step s = some (.inr t) ∧ Q t) (s : σ) (h0 : I s) : ∃ t, q7i step s = some t ∧ Q t := by
 generalize hn : μ s = n
 induction n using Nat.strongRecOn generalizing s with
 | _ n ih =>
  rcases h s h0 with ⟨s', h1, h2, h3⟩ | ⟨t, h1, h2⟩
  ·obtain ⟨t, h4, h5⟩ := ih (μ s') (by omega) s' h2 rfl
   exact ⟨t, by rw [z6l h1]; exact h4, h5⟩
  ·exact ⟨t, q8b h1, h2⟩
theorem q1u {by_ m : Nat} (h : m * by_ ≤ 140737488355328) (h2 : m ≤ 9223372036854775807) : z0G by_ m = some () := by
 unfold z0G
 rw [if_pos ⟨h, h2⟩]
theorem q9f {by_ m : Nat} (h : by_ * m ≤ 281474976710656) (h2 : m ≤ 9223372036854775807) : z0H by_ (m : Int) = some m := by
 unfold z0H
 rw [if_pos ⟨by omega, by simpa using h, by omega⟩, Int.toNat_natCast]
theorem j7 {α : Type} {l : List α} {j : Nat} (h : j < l.length) : idx l (j : Int) = some l[j] := j1J (List.getElem?_eq_getElem h)
theorem q3j {α : Type} {l : List α} {i : Int} (h0 : 0 ≤ i) (h : i < (l.length : Int)) : ∃ x, idx l i = some x ∧ l[i.toNat]? = some x := by
 refine ⟨l[i.toNat]'(by omega), ?_, List.getElem?_eq_getElem (by omega)⟩
 unfold idx
 rw [if_pos h0]
 exact List.getElem?_eq_getElem _
theorem q9U {α : Type} {l : List α} {a b : Nat} (h1 : a ≤ b) (h2 : b ≤ l.length) : z6w l (a : Int) (b : Int) = some ((l.take b).drop a) := by
 unfold z6w
 rw [if_pos ⟨by omega, by omega, by omega⟩]
 simp
end Go.Fp
namespace Go.Proofs.YtdbehipjelcmbaaGreatDoor
open Go.RowKit Go.Fp
theorem H0 {β γ τ : Type} {A : β → γ → Option τ} {y : β} {z : γ} : (some (y, z)).bind (K1 A) = A y z := rfl
theorem z6c {β γ δ τ : Type} {A : β → γ → δ → Option τ} {y : β} {z : γ} {x : δ} : (some (y, z, x)).bind (q4G A) = A y z x := rfl
theorem z6I {τ : Type} {body : Nat → Unit → Option (Unit ⊕ τ)} (R : Nat → Prop) (Q : τ → Prop) (m : Nat) (h : ∀ k, k < m → (body k () = some (.inl ()) ∧ R k) ∨ ∃ t, body k () = some (.inr t) ∧ Q t) :
  (forM body m 0 () = some (.inl ()) ∧ ∀ k, k < m → R k) ∨ ∃ t, forM body m 0 () = some (.inr t) ∧ Q t := by
 rcases F7 (body := body) (fun k _ => ∀ j, j < k → R j) Q m 0 () (fun j hj => absurd hj (by omega)) (fun k s _ hk hi => by
  rcases h k (by omega) with ⟨h1, h2⟩ | h1
  ·exact .inl ⟨(), h1, fun j hj => by
    by_cases e : j = k
    ·subst e; exact h2
    ·exact hi j (by omega)⟩
  ·exact .inr h1) with ⟨s, h1, h2⟩ | h1
 ·exact .inl ⟨h1, fun k hk => h2 k (by omega)⟩
 ·exact .inr h1
theorem q1Y (x a b : Int) : Q8 x a b = some (decide (a ≤ x ∧ x ≤ b)) := by
 unfold Q8
 by_cases h : a ≤ x <;> simp [h]
def q6N (k : Int) : Int := if k = 1 then 2 else if k = 2 then 3 else if k = 3 then 4 else 0
theorem z4F (k : Int) : q3O k = some (q6N k) := by
 unfold q3O q6N
 split
 ·rfl
 ·split
  ·rfl
  ·split <;> rfl
theorem z5x (k : Int) : 0 ≤ q6N k ∧ q6N k ≤ 4 := by
 unfold q6N
 split
 ·omega
 ·split
  ·omega
  ·split <;> omega
def sec (n : ApiNet) (i : Int) : ApiSection := (n.Sections[i.toNat]?).getD ⟨0, 0, 0, 0, 0, 0, false⟩
theorem q2E {n : ApiNet} {i : Int} (h : 0 ≤ i ∧ i < (n.Sections.length : Int)) : idx n.Sections i = some (sec n i) := by
 obtain ⟨x, h1, h2⟩ := q3j h.1 h.2
 rw [h1]
 unfold sec
 rw [h2]
 rfl
def Has (n : ApiNet) (e : LineEnd) : Prop := (0 ≤ e.section_ ∧ e.section_ < (n.Sections.length : Int)) ∧ 0 ≤ e.end_ ∧ e.end_ < q6N (sec n e.section_).Kind
instance (n : ApiNet) (e : LineEnd) : Decidable (Has n e) := by unfold Has; exact inferInstance
theorem z7K {n : ApiNet} (hl : n.Sections.length ≤ 60) (e : LineEnd) : q5a n e = some (decide (Has n e)) := by
 unfold q5a
 rw [X0 (by omega) (by omega), Option.bind_some, q1Y, Option.bind_some]
 by_cases h : 0 ≤ e.section_ ∧ e.section_ ≤ (n.Sections.length : Int) - 1
 ·have hb := z5x (sec n e.section_).Kind
  rw [decide_eq_true h, if_pos rfl, q2E ⟨h.1, by omega⟩, Option.bind_some, z4F, Option.bind_some, X0 (by omega) (by omega), Option.bind_some, q1Y, Option.bind_some, Option.bind_some]
  refine congrArg some (decide_eq_decide.2 ?_)
  unfold Has
  omega
 ·rw [decide_eq_false h, if_neg (by decide), Option.bind_some]
  congr 1
  symm
  rw [decide_eq_false_iff_not]
  intro hh
  unfold Has at hh
  omega
theorem z7j (k i : Int) : q1G k i = some (if k = 2 ∧ i = 0 then [1, 2] else if k = 2 then [0] else [z4V .i64 i 1]) := by
 unfold q1G
 by_cases h : k = 2
 ·rw [if_pos h, Option.bind_some]
  by_cases h2 : i = 0
  ·rw [decide_eq_true h2, if_pos rfl, if_pos ⟨h, h2⟩]
  ·rw [decide_eq_false h2, if_neg (by decide), if_pos h, if_neg (fun h' => h2 h'.2), if_pos h]
 ·rw [if_neg h, Option.bind_some, if_neg (by decide), if_neg h, if_neg (fun h' => h h'.1), if_neg h]
theorem z1I : ∀ i : Fin 4, z4V .i64 (i.val : Int) 1 = (if i.val = 0 then 1 else if i.val = 1 then 0 else if i.val = 2 then 3 else 2) := by decide +kernel
def q4P (k : ApiLink) : LineEnd := ⟨k.A, k.EndA⟩
def q4O (k : ApiLink) : LineEnd := ⟨k.B, k.EndB⟩
def q1S : List ApiLink → LineEnd → Option LineEnd
 | [], _ => none
 | k :: r, e => if q4P k = e then some (q4O k) else if q4O k = e then some (q4P k) else q1S r e
theorem z1s (k : ApiLink) (r : List ApiLink) (e : LineEnd) : q1S (k :: r) e = if q4P k = e then some (q4O k) else if q4O k = e then some (q4P k) else q1S r e := rfl
def q7k (o : Option LineEnd) : Int × Int × Bool := match o with
 | none => (0, 0, false)
 | some e => (e.section_, e.end_, true)
theorem z4t (n : ApiNet) (e : LineEnd) (k : Nat) (hk : k < n.Links.length) : q0Z n e k () = some (if q4P n.Links[k] = e then .inr (q7k (some (q4O n.Links[k]))) else if q4O n.Links[k] = e then .inr (q7k (some (q4P n.Links[k]))) else .inl ()) := by
 have eq : ∀ a b : Int, ((⟨a, b⟩ : LineEnd) = e ↔ a = e.section_ ∧ b = e.end_) := fun a b => by
  cases e
  simp
 unfold q0Z
 rw [j7 hk, Option.bind_some]
 unfold q4P q4O
 simp only [eq]
 by_cases h1 : n.Links[k].A = e.section_ ∧ n.Links[k].EndA = e.end_
 ·rw [if_pos h1.1, decide_eq_true h1.2, Option.bind_some, if_pos rfl, if_pos h1]
  rfl
 ·have e1 : (if n.Links[k].A = e.section_ then some (decide (n.Links[k].EndA = e.end_)) else some false) = some false := by
   by_cases c : n.Links[k].A = e.section_
   ·rw [if_pos c, decide_eq_false (fun h => h1 ⟨c, h⟩)]
   ·rw [if_neg c]
  rw [e1, Option.bind_some, if_neg (by decide), if_neg h1]
  by_cases h2 : n.Links[k].B = e.section_ ∧ n.Links[k].EndB = e.end_
  ·rw [if_pos h2.1, decide_eq_true h2.2, Option.bind_some, if_pos rfl, if_pos h2]
   rfl
  ·have e2 : (if n.Links[k].B = e.section_ then some (decide (n.Links[k].EndB = e.end_)) else some false) = some false := by
    by_cases c : n.Links[k].B = e.section_
    ·rw [if_pos c, decide_eq_false (fun h => h2 ⟨c, h⟩)]
    ·rw [if_neg c]
   rw [e2, Option.bind_some, if_neg (by decide), if_neg h2]
theorem q8h {e : LineEnd} : ∀ (l : List ApiLink) (k : Nat), (∀ j (h : j < l.length), j < k → q4P l[j] ≠ e ∧ q4O l[j] ≠ e) → q1S l e = q1S (l.drop k) e
 | [], k, _ => by simp
 | x :: l, 0, _ => rfl
 | x :: l, k + 1, h => by
  have h0 := h 0 (by simp) (by omega)
  simp only [List.getElem_cons_zero] at h0
  rw [List.drop_succ_cons, ← q8h l k (fun j hj hjk => by
   have := h (j + 1) (by simp; omega) (by omega)
   simpa using this)]
  rw [z1s, if_neg h0.1, if_neg h0.2]
theorem q5K (n : ApiNet) (e : LineEnd) : W0 n e = some (q7k (q1S n.Links e)) := by
 unfold W0
 rcases F7 (body := q0Z n e) (fun k _ => ∀ j (h : j < n.Links.length), j < k → q4P n.Links[j] ≠ e ∧ q4O n.Links[j] ≠ e) (fun t => t = q7k (q1S n.Links e)) n.Links.length 0 () (fun j _ hj => absurd hj (by omega)) (fun k s _ hk hi => by
  have hk' : k < n.Links.length := by omega
  have hd := q8h n.Links k hi
  rw [List.drop_eq_getElem_cons hk'] at hd
  rw [z4t n e k hk']
  by_cases h1 : q4P n.Links[k] = e
  ·rw [if_pos h1]
   refine .inr ⟨_, rfl, ?_⟩
   rw [hd]
   show _ = q7k (if q4P n.Links[k] = e then some (q4O n.Links[k]) else _)
   rw [if_pos h1]
  ·rw [if_neg h1]
   by_cases h2 : q4O n.Links[k] = e
   ·rw [if_pos h2]
    refine .inr ⟨_, rfl, ?_⟩
    rw [hd]
    show _ = q7k (if q4P n.Links[k] = e then some (q4O n.Links[k]) else if q4O n.Links[k] = e then some (q4P n.Links[k]) else _)
    rw [if_neg h1, if_pos h2]
   ·rw [if_neg h2]
    refine .inl ⟨(), rfl, fun j hj hjk => ?_⟩
    by_cases ej : j = k
    ·subst ej; exact ⟨h1, h2⟩
    ·exact hi j hj (by omega)) with ⟨s, h1, h2⟩ | ⟨t, h1, h2⟩
 ·rw [h1]
  have := q8h n.Links n.Links.length (fun j hj hjk => h2 j hj (by omega))
  rw [List.drop_length] at this
  rw [this]
  rfl
 ·rw [h1, h2]
  rfl
def j2u (l : List ApiLink) : Prop := l.Pairwise (fun x y => (q4P x ≠ q4P y ∧ q4P x ≠ q4O y) ∧ q4O x ≠ q4P y ∧ q4O x ≠ q4O y) ∧ ∀ x ∈ l, q4P x ≠ q4O x
theorem q7l {e f : LineEnd} : ∀ {l : List ApiLink}, q1S l e = some f → ∃ x ∈ l, (q4P x = e ∧ q4O x = f) ∨ (q4O x = e ∧ q4P x = f)
 | [], h => by cases h
 | x :: l, h => by
  rw [z1s] at h
  by_cases h1 : q4P x = e
  ·rw [if_pos h1] at h
   injection h with h
   exact ⟨x, List.mem_cons_self, .inl ⟨h1, h⟩⟩
  ·rw [if_neg h1] at h
   by_cases h2 : q4O x = e
   ·rw [if_pos h2] at h
    injection h with h
    exact ⟨x, List.mem_cons_self, .inr ⟨h2, h⟩⟩
   ·rw [if_neg h2] at h
    obtain ⟨y, hy, h3⟩ := q7l h
    exact ⟨y, List.mem_cons_of_mem _ hy, h3⟩
theorem q7s (x y : Int) : ∃ v, J1 x y = some v := by
 unfold J1 q5J
 rw [Option.bind_some, Option.bind_some, decide_eq_false (by simp), if_neg (by decide), decide_eq_false (by simp), if_neg (by decide)]
 split
 ·exact ⟨_, rfl⟩
 ·split <;> exact ⟨_, rfl⟩
theorem z5i (l : List Int) : ∃ v, q7h l = some v := by
 unfold q7h
 rcases z6I (body := q6n l) (fun _ => True) (fun _ => True) l.length (fun k hk => by
  unfold q6n
  rw [j7 hk, Option.bind_some]
  split
  ·exact .inr ⟨_, rfl, trivial⟩
  ·exact .inl ⟨rfl, trivial⟩) with ⟨h, _⟩ | ⟨v, h, _⟩
 ·rw [h]; exact ⟨_, rfl⟩
 ·rw [h]; exact ⟨_, rfl⟩
structure j0m (s : ApiSection) : Prop where
 kind : q6N s.Kind ≠ 0
 len : 10 ≤ s.Length ∧ s.Length ≤ 3000
 grade : -40 ≤ s.Grade ∧ s.Grade ≤ 40
 speed : 300 ≤ s.Speed ∧ s.Speed ≤ 6000
 cross : s.Kind = 3 → s.Grade = 0
def j4K (s : ApiSection) (m : Int) : Prop := s.Station = 0 ∨ s.Kind = 1 ∧ 0 ≤ s.Station ∧ s.Station ≤ m
theorem z2V (s : ApiSection) (m : Int) : ∃ c, P4 s m = some c ∧ (c = 0 → j0m s ∧ j4K s m) := by
 unfold P4
 rw [z4F, Option.bind_some]
 by_cases h0 : q6N s.Kind = 0
 ·rw [if_pos h0]
  exact ⟨1, rfl, fun h => absurd h (by decide)⟩
 ·rw [if_neg h0, q1Y, Option.bind_some]
  have bad : ∀ c : Int, c ≠ 0 → ∃ c', some c = some c' ∧ (c' = 0 → j0m s ∧ j4K s m) := fun c hc => ⟨c, rfl, fun h => absurd h hc⟩
  by_cases h1 : 10 ≤ s.Length ∧ s.Length ≤ 3000
  ·rw [decide_eq_true h1, if_pos rfl, q1Y, Option.bind_some]
   by_cases h2 : -40 ≤ s.Grade ∧ s.Grade ≤ 40
   ·rw [decide_eq_true h2, if_pos rfl, q1Y, Option.bind_some]
    by_cases h3 : 300 ≤ s.Speed ∧ s.Speed ≤ 6000
    ·rw [decide_eq_true h3]
     simp only [Bool.not_true, Option.bind_some, Bool.false_eq_true, if_false, q1Y]
     obtain ⟨b, hb, hbs⟩ : ∃ b, (if s.Kind = 2 then if decide (300 ≤ s.Slow ∧ s.Slow ≤ s.Speed) = true then if s.Kind = 1 then some (!decide (0 ≤ s.Station ∧ s.Station ≤ m)) else some false else some true else if s.Kind = 1 then some (!decide (0 ≤ s.Station ∧ s.Station ≤ m)) else some false) = some b ∧ (b = false → s.Kind = 1 → 0 ≤ s.Station ∧ s.Station ≤ m) := by
      repeat' split
      all_goals first
       | exact ⟨true, rfl, fun h => by cases h⟩
       | exact ⟨_, rfl, fun h _ => by simpa using h⟩
       | exact ⟨false, rfl, fun _ hk => by omega⟩
     rw [hb, Option.bind_some]
     by_cases h4 : b = true
     ·rw [if_pos h4]
      exact bad 2 (by decide)
     ·rw [if_neg h4]
      obtain ⟨d, hd, hd2⟩ : ∃ d, (if s.Slow ≠ 0 then if s.Kind = 2 then if s.Station ≠ 0 then if s.Kind = 1 then if s.Grade ≠ 0 then some (decide (s.Kind = 3)) else some false else some true else if s.Grade ≠ 0 then some (decide (s.Kind = 3)) else some false else some true else if s.Station ≠ 0 then if s.Kind = 1 then if s.Grade ≠ 0 then some (decide (s.Kind = 3)) else some false else some true else if s.Grade ≠ 0 then some (decide (s.Kind = 3)) else some false) = some d ∧ (d = false → (s.Kind = 3 → s.Grade = 0) ∧ (s.Station ≠ 0 → s.Kind = 1)) := by
       repeat' split
       all_goals first
        | exact ⟨true, rfl, fun h => by cases h⟩
        | exact ⟨_, rfl, fun h => ⟨fun hk => absurd hk (of_decide_eq_false h), fun hs => by omega⟩⟩
        | exact ⟨false, rfl, fun _ => ⟨fun _ => by omega, fun hs => by omega⟩⟩
        | (exfalso; omega)
      rw [hd, Option.bind_some]
      by_cases h5 : d = true
      ·rw [if_pos h5]
       exact bad 1 (by decide)
      ·rw [if_neg h5]
       have hd3 := hd2 (by simpa using h5)
       refine ⟨0, rfl, fun _ => ⟨⟨h0, h1, h2, h3, hd3.1⟩, ?_⟩⟩
       by_cases hz : s.Station = 0
       ·exact .inl hz
       ·exact .inr ⟨hd3.2 hz, hbs (by simpa using h4) (hd3.2 hz)⟩
    ·rw [decide_eq_false h3]
     exact bad 2 (by decide)
   ·rw [decide_eq_false h2, if_neg (by decide), Option.bind_some, if_pos rfl]
    exact bad 2 (by decide)
  ·rw [decide_eq_false h1, if_neg (by decide), Option.bind_some, if_pos rfl]
   exact bad 2 (by decide)
theorem z5l (l : List (LineEnd × Bool)) (a e : LineEnd) : P8 (F2 l a true) e false = true ↔ e = a ∨ P8 l e false = true := by
 unfold P8
 by_cases h : e = a
 ·subst h
  rw [Z5]
  simp
 ·rw [Q0 l true h]
  simp [h]
def j5Q (L : List ApiLink) (k : Nat) (m : List (LineEnd × Bool)) : Prop := ∀ e, P8 m e false = true ↔ ∃ j, ∃ h : j < L.length, j < k ∧ (q4P L[j] = e ∨ q4O L[j] = e)
theorem z6m {n : ApiNet} (hl : n.Sections.length ≤ 60) (hk : n.Links.length ≤ 90) : ∃ c, q1a n = some c ∧ (c = 0 → j2u n.Links ∧ ∀ x ∈ n.Links, Has n (q4P x) ∧ Has n (q4O x)) := by
 unfold q1a
 rcases F7 (body := F5 n) (fun k m => j5Q n.Links k m ∧ (∀ j (h : j < n.Links.length), j < k → q4P n.Links[j] ≠ q4O n.Links[j] ∧ Has n (q4P n.Links[j]) ∧ Has n (q4O n.Links[j])) ∧ ∀ i j (hi : i < n.Links.length) (hj : j < n.Links.length), i < j → j < k → (q4P n.Links[i] ≠ q4P n.Links[j] ∧ q4P n.Links[i] ≠ q4O n.Links[j]) ∧ q4O n.Links[i] ≠ q4P n.Links[j] ∧ q4O n.Links[i] ≠ q4O n.Links[j]) (fun c : Int => c ≠ 0) n.Links.length 0 []
  ⟨fun e => ⟨fun h => by simp [P8, Q7] at h, fun ⟨j, _, hj, _⟩ => absurd hj (by omega)⟩, fun j _ hj => absurd hj (by omega), fun i j _ _ _ hj => absurd hj (by omega)⟩ (fun k m _ hkk hi => by
  obtain ⟨i1, i2, i3⟩ := hi
  have hk' : k < n.Links.length := by omega
  have bad : ∀ c : Int, c ≠ 0 → (∃ s', (some (Sum.inr c) : Option (List (LineEnd × Bool) ⊕ Int)) = some (.inl s') ∧ (j5Q n.Links (k + 1) s' ∧ (∀ j (h : j < n.Links.length), j < k + 1 → q4P n.Links[j] ≠ q4O n.Links[j] ∧ Has n (q4P n.Links[j]) ∧ Has n (q4O n.Links[j])) ∧ ∀ i j (hi : i < n.Links.length) (hj : j < n.Links.length), i < j → j < k + 1 → (q4P n.Links[i] ≠ q4P n.Links[j] ∧ q4P n.Links[i] ≠ q4O n.Links[j]) ∧ q4O n.Links[i] ≠ q4P n.Links[j] ∧ q4O n.Links[i] ≠ q4O n.Links[j])) ∨ ∃ t, (some (Sum.inr c) : Option (List (LineEnd × Bool) ⊕ Int)) = some (.inr t) ∧ t ≠ 0 := fun c hc => .inr ⟨c, rfl, hc⟩
  unfold F5
  rw [j7 hk', Option.bind_some, Option.bind_some, z7K hl, Option.bind_some, z7K hl, Option.bind_some]
  have hh : ∃ b, (if decide (Has n ⟨n.Links[k].A, n.Links[k].EndA⟩) = true then some (!decide (Has n ⟨n.Links[k].B, n.Links[k].EndB⟩)) else some true) = some b ∧ (b = false → Has n (q4P n.Links[k]) ∧ Has n (q4O n.Links[k])) := by
   by_cases c1 : Has n ⟨n.Links[k].A, n.Links[k].EndA⟩
   ·rw [decide_eq_true c1, if_pos rfl]
    refine ⟨_, rfl, fun h => ⟨c1, ?_⟩⟩
    have h : decide (Has n ⟨n.Links[k].B, n.Links[k].EndB⟩) = true := by simpa using h
    exact of_decide_eq_true h
   ·rw [decide_eq_false c1, if_neg (by decide)]
    exact ⟨true, rfl, fun h => by cases h⟩
  obtain ⟨b, hb, hb2⟩ := hh
  rw [hb, Option.bind_some]
  by_cases c1 : b = true
  ·rw [if_pos c1]
   exact bad 3 (by decide)
  ·rw [if_neg c1]
   by_cases c2 : n.Links[k].A = n.Links[k].B
   ·rw [if_pos c2]
    exact bad 1 (by decide)
   ·rw [if_neg c2]
    by_cases c3 : n.Links[k].B < n.Links[k].A
    ·rw [if_pos c3]
     exact bad 5 (by decide)
    ·rw [if_neg c3]
     have hord : ∃ d : Bool, (if 0 < (k : Int) then (chk ((k : Int) - 1)).bind fun _ => (idx n.Links ((k : Int) - 1)).bind fun x1159 => ((J1 x1159.A n.Links[k].A).bind fun x1201 => (J1 x1159.EndA n.Links[k].EndA).bind fun x1203 => (q7h [x1201, x1203]).bind fun x1208 => some (decide (0 ≤ x1208))).bind (fun x1190 => if x1190 = true then some (.inr (.inr 5)) else some (.inl ())) else some (.inl ()) : Option (Unit ⊕ (List (LineEnd × Bool) ⊕ Int))) = some (if d = true then .inr (.inr 5) else .inl ()) := by
      by_cases h0 : 0 < (k : Int)
      ·obtain ⟨q, rfl⟩ : ∃ q, k = q + 1 := ⟨k - 1, by omega⟩
       have hq : q < n.Links.length := by omega
       obtain ⟨v1, e1⟩ := q7s n.Links[q].A n.Links[q + 1].A
       obtain ⟨v2, e2⟩ := q7s n.Links[q].EndA n.Links[q + 1].EndA
       obtain ⟨v3, e3⟩ := z5i [v1, v2]
       rw [if_pos h0, X0 (by omega) (by omega), Option.bind_some, show ((q + 1 : Nat) : Int) - 1 = (q : Int) by omega, j7 hq, Option.bind_some, e1, Option.bind_some, e2, Option.bind_some, e3, Option.bind_some, Option.bind_some]
       refine ⟨decide (0 ≤ v3), ?_⟩
       split <;> rfl
      ·rw [if_neg h0]
       exact ⟨false, rfl⟩
     obtain ⟨d, hd⟩ := hord
     rw [hd, Option.bind_some]
     by_cases c4 : d = true
     ·rw [if_pos c4]
      exact bad 5 (by decide)
     ·rw [if_neg c4, Sum.elim_inl, Option.bind_some]
      have hAB : q4P n.Links[k] ≠ q4O n.Links[k] := fun h => c2 (congrArg LineEnd.section_ h)
      by_cases c5 : P8 m (q4P n.Links[k]) false = true
      ·have : P8 m (⟨n.Links[k].A, n.Links[k].EndA⟩ : LineEnd) false = true := c5
       rw [if_pos this, Option.bind_some, if_pos rfl]
       exact bad 6 (by decide)
      ·have h5 : ¬ P8 m (⟨n.Links[k].A, n.Links[k].EndA⟩ : LineEnd) false = true := c5
       rw [if_neg h5, Option.bind_some, Option.bind_some]
       by_cases c6 : P8 m (q4O n.Links[k]) false = true
       ·have : P8 m (⟨n.Links[k].B, n.Links[k].EndB⟩ : LineEnd) false = true := c6
        rw [if_pos this]
        exact bad 6 (by decide)
       ·have h6 : ¬ P8 m (⟨n.Links[k].B, n.Links[k].EndB⟩ : LineEnd) false = true := c6
        rw [if_neg h6]
        refine .inl ⟨_, rfl, fun e => ?_, fun j hj hjk => ?_, fun i j hi hj hij hjk => ?_⟩
        ·show P8 (F2 (F2 m (q4P n.Links[k]) true) (q4O n.Links[k]) true) e false = true ↔ _
         rw [z5l, z5l, i1 e]
         constructor
         ·rintro (h | h | ⟨j, hj, hjk, h⟩)
          ·exact ⟨k, hk', by omega, .inr h.symm⟩
          ·exact ⟨k, hk', by omega, .inl h.symm⟩
          ·exact ⟨j, hj, by omega, h⟩
         ·rintro ⟨j, hj, hjk, h⟩
          by_cases ej : j = k
          ·subst ej
           rcases h with h | h
           ·exact .inr (.inl h.symm)
           ·exact .inl h.symm
          ·exact .inr (.inr ⟨j, hj, by omega, h⟩)
        ·by_cases ej : j = k
         ·subst ej; exact ⟨hAB, hb2 (by simpa using c1)⟩
         ·exact i2 j hj (by omega)
        ·by_cases ej : j = k
         ·subst ej
          refine ⟨⟨fun h => c5 ((i1 _).2 ⟨i, hi, hij, .inl h⟩), fun h => c6 ((i1 _).2 ⟨i, hi, hij, .inl h⟩)⟩, fun h => c5 ((i1 _).2 ⟨i, hi, hij, .inr h⟩), fun h => c6 ((i1 _).2 ⟨i, hi, hij, .inr h⟩)⟩
         ·exact i3 i j hi hj hij (by omega)) with ⟨m, h1, h2, h3, h4⟩ | ⟨c, h1, h2⟩
 ·rw [h1]
  refine ⟨0, rfl, fun _ => ⟨⟨?_, fun x hx => ?_⟩, fun x hx => ?_⟩⟩
  ·rw [List.pairwise_iff_getElem]
   intro i j hi hj hij
   exact h4 i j hi hj hij (by omega)
  ·obtain ⟨j, hj, rfl⟩ := List.getElem_of_mem hx
   exact (h3 j hj (by omega)).1
  ·obtain ⟨j, hj, rfl⟩ := List.getElem_of_mem hx
   exact (h3 j hj (by omega)).2
 ·rw [h1]
  exact ⟨c, rfl, fun h => absurd h h2⟩
def j4y (n : ApiNet) : Prop := ∀ s ∈ n.Stations, s.size ≤ 9223372036854775807
theorem z6k {s : ByteArray} (h : s.size ≤ 9223372036854775807) : ∃ b, q5I s = some b := by
 unfold q5I
 rw [X0 (by omega) (by omega), Option.bind_some]
 rcases z6I (body := q3y s) (fun _ => True) (fun _ => True) (q1s s).length (fun k hk => by
  unfold q3y
  rw [j7 hk, Option.bind_some]
  by_cases c : (q1s s)[k] < 97
  ·rw [if_pos c, Option.bind_some, if_pos rfl]
   exact .inr ⟨_, rfl, trivial⟩
  ·rw [if_neg c, Option.bind_some]
   split
   ·exact .inr ⟨_, rfl, trivial⟩
   ·exact .inl ⟨rfl, trivial⟩) with ⟨h1, _⟩ | ⟨t, h1, _⟩
 ·rw [h1, Option.bind_some, Sum.elim_inl]
  split <;> exact ⟨_, rfl⟩
 ·rw [h1]
  exact ⟨_, rfl⟩
theorem q9W (l : List ByteArray) (x : ByteArray) : ∃ b, q0T l x = some b := by
 unfold q0T q4n
 rcases z6I (body := q1J l x) (fun _ => True) (fun _ => True) l.length (fun k hk => by
  unfold q1J
  rw [j7 hk, Option.bind_some]
  split
  ·exact .inr ⟨_, rfl, trivial⟩
  ·exact .inl ⟨rfl, trivial⟩) with ⟨h1, _⟩ | ⟨t, h1, _⟩
 ·rw [h1]; exact ⟨_, rfl⟩
 ·rw [h1]; exact ⟨_, rfl⟩
theorem z4g (a b c d : Int) : ∃ v : Bool, ((J1 a b).bind fun x => (J1 c d).bind fun y => (q7h [x, y]).bind fun z => some (decide (0 ≤ z))) = some v := by
 obtain ⟨v1, e1⟩ := q7s a b
 obtain ⟨v2, e2⟩ := q7s c d
 obtain ⟨v3, e3⟩ := z5i [v1, v2]
 rw [e1, Option.bind_some, e2, Option.bind_some, e3, Option.bind_some]
 exact ⟨_, rfl⟩
theorem z1Y {n : ApiNet} (hl : n.Sections.length ≤ 60) (hg : n.Signals.length ≤ 40) : ∃ c, P3 n = some c ∧ (c = 0 → ∀ s ∈ n.Signals, Has n ⟨s.Section, s.End⟩) := by
 unfold P3
 rcases z6I (body := X9 n) (fun k => ∀ h : k < n.Signals.length, Has n ⟨n.Signals[k].Section, n.Signals[k].End⟩) (fun c : Int => c ≠ 0) n.Signals.length (fun k hk => by
  have good : ∀ (t : Option (Unit ⊕ Int)), (∃ v, t = some v ∧ Sum.elim (fun _ => Has n ⟨n.Signals[k].Section, n.Signals[k].End⟩) (fun c : Int => c ≠ 0) v) → (t = some (.inl ()) ∧ ∀ h : k < n.Signals.length, Has n ⟨n.Signals[k].Section, n.Signals[k].End⟩) ∨ ∃ v, t = some (.inr v) ∧ v ≠ 0 := fun t ⟨v, hv, hw⟩ => by
   rcases v with u | v
   ·exact .inl ⟨hv, fun _ => hw⟩
   ·exact .inr ⟨v, hv, hw⟩
  refine good _ ?_
  unfold X9
  rw [j7 hk, Option.bind_some, z7K hl, Option.bind_some]
  by_cases h : Has n ⟨n.Signals[k].Section, n.Signals[k].End⟩
  ·rw [decide_eq_true h, if_pos rfl, q5K, Option.bind_some]
   unfold q7k
   have hs : idx n.Sections n.Signals[k].Section = some (sec n n.Signals[k].Section) := q2E h.1
   have tail : ∃ v, (if 0 < (k : Int) then (chk ((k : Int) - 1)).bind fun _ => (idx n.Signals ((k : Int) - 1)).bind fun x402 => ((J1 x402.Section n.Signals[k].Section).bind fun x444 => (J1 x402.End n.Signals[k].End).bind fun x446 => (q7h [x444, x446]).bind fun x451 => some (decide (0 ≤ x451))).bind (fun x433 => if x433 = true then some (.inr 5) else some (.inl ())) else some (.inl ()) : Option (Unit ⊕ Int)) = some v ∧ Sum.elim (fun _ => Has n ⟨n.Signals[k].Section, n.Signals[k].End⟩) (fun c : Int => c ≠ 0) v := by
    by_cases h0 : 0 < (k : Int)
    ·obtain ⟨q, rfl⟩ : ∃ q, k = q + 1 := ⟨k - 1, by omega⟩
     obtain ⟨v, hv⟩ := z4g n.Signals[q].Section n.Signals[q + 1].Section n.Signals[q].End n.Signals[q + 1].End
     rw [if_pos h0, X0 (by omega) (by omega), Option.bind_some, show ((q + 1 : Nat) : Int) - 1 = (q : Int) by omega, j7 (show q < n.Signals.length by omega), Option.bind_some, hv, Option.bind_some]
     split
     ·exact ⟨_, rfl, show (5 : Int) ≠ 0 by decide⟩
     ·exact ⟨_, rfl, h⟩
    ·rw [if_neg h0]
     exact ⟨_, rfl, h⟩
   cases q1S n.Links ⟨n.Signals[k].Section, n.Signals[k].End⟩ with
   | none =>
    simp only [q4G, Bool.false_eq_true, if_false, Option.bind_some, if_true]
    exact ⟨_, rfl, show (1 : Int) ≠ 0 by decide⟩
   | some f =>
    simp only [q4G, if_true, hs, Option.bind_some]
    by_cases hk1 : (sec n n.Signals[k].Section).Kind ≠ 1
    ·rw [decide_eq_true hk1, if_pos rfl]
     exact ⟨_, rfl, show (1 : Int) ≠ 0 by decide⟩
    ·rw [decide_eq_false hk1, if_neg (by decide)]
     exact tail
  ·rw [decide_eq_false h, if_neg (by decide)]
   exact ⟨_, rfl, show (3 : Int) ≠ 0 by decide⟩) with ⟨h1, h2⟩ | ⟨t, h1, h2⟩
 ·rw [h1]
  refine ⟨_, rfl, fun _ s hs => ?_⟩
  obtain ⟨j, hj, rfl⟩ := List.getElem_of_mem hs
  exact h2 j hj hj
 ·rw [h1]; exact ⟨_, rfl, fun h => absurd h h2⟩
theorem z4w {n : ApiNet} (hl : n.Sections.length ≤ 60) (hg : n.Gates.length ≤ 8) : ∃ c, q1b n = some c := by
 unfold q1b
 rcases z6I (body := F6 n) (fun _ => True) (fun _ => True) n.Gates.length (fun k hk => by
  have good : ∀ (t : Option (Unit ⊕ Int)), (∃ v, t = some v) → (t = some (.inl ()) ∧ True) ∨ ∃ v, t = some (.inr v) ∧ True := fun t ⟨v, hv⟩ => by
   rcases v with u | v
   ·exact .inl ⟨hv, trivial⟩
   ·exact .inr ⟨v, hv, trivial⟩
  refine good _ ?_
  unfold F6
  rw [j7 hk, Option.bind_some, X0 (by omega) (by omega), Option.bind_some, q1Y, Option.bind_some]
  by_cases h : 0 ≤ n.Gates[k].Section ∧ n.Gates[k].Section ≤ (n.Sections.length : Int) - 1
  ·rw [decide_eq_true h, if_pos rfl, q2E ⟨h.1, by omega⟩, Option.bind_some]
   split
   ·exact ⟨_, rfl⟩
   ·rw [q1Y, Option.bind_some]
    split
    ·have tail : ∃ v : Bool, (if 0 < (k : Int) then (chk ((k : Int) - 1)).bind fun _ => (idx n.Gates ((k : Int) - 1)).bind fun x361 => some (decide (n.Gates[k].Section ≤ x361.Section)) else some false) = some v := by
      by_cases h0 : 0 < (k : Int)
      ·obtain ⟨q, rfl⟩ : ∃ q, k = q + 1 := ⟨k - 1, by omega⟩
       rw [if_pos h0, X0 (by omega) (by omega), Option.bind_some, show ((q + 1 : Nat) : Int) - 1 = (q : Int) by omega, j7 (show q < n.Gates.length by omega), Option.bind_some]
       exact ⟨_, rfl⟩
      ·rw [if_neg h0]
       exact ⟨_, rfl⟩
     obtain ⟨v, hv⟩ := tail
     rw [hv, Option.bind_some]
     split <;> exact ⟨_, rfl⟩
    ·exact ⟨_, rfl⟩
  ·rw [decide_eq_false h, if_neg (by decide)]
   exact ⟨_, rfl⟩) with ⟨h1, _⟩ | ⟨t, h1, _⟩
 ·rw [h1]; exact ⟨_, rfl⟩
 ·rw [h1]; exact ⟨_, rfl⟩
structure q4T (n : ApiNet) : Prop where
 n60 : n.Sections.length ≤ 60
 secs : ∀ s ∈ n.Sections, j0m s
 apart : j2u n.Links
 ends : ∀ x ∈ n.Links, Has n (q4P x) ∧ Has n (q4O x)
 sigs : ∀ s ∈ n.Signals, Has n ⟨s.Section, s.End⟩
 g40 : n.Signals.length ≤ 40
 stat : ∀ s ∈ n.Sections, j4K s (n.Stations.length : Int)
 s12 : n.Stations.length ≤ 12
theorem z6z {n : ApiNet} (hS : j4y n) : ∃ c, Y4 n = some c ∧ (c = 0 → q4T n) := by
 have bad : ∀ c : Int, c ≠ 0 → ∃ c', some c = some c' ∧ (c' = 0 → q4T n) := fun c hc => ⟨c, rfl, fun h => absurd h hc⟩
 unfold Y4
 by_cases h0 : (n.Sections.length : Int) = 0
 ·rw [if_pos h0]
  exact bad 1 (by decide)
 ·rw [if_neg h0]
  obtain ⟨b, hb, hb2⟩ : ∃ b : Bool, (if 12 < (n.Stations.length : Int) then some true else if 60 < (n.Sections.length : Int) then some true else if 90 < (n.Links.length : Int) then some true else if 40 < (n.Signals.length : Int) then some true else some (decide (8 < (n.Gates.length : Int)))) = some b ∧ (b = false → n.Stations.length ≤ 12 ∧ n.Sections.length ≤ 60 ∧ n.Links.length ≤ 90 ∧ n.Signals.length ≤ 40 ∧ n.Gates.length ≤ 8) := by
   by_cases c1 : 12 < (n.Stations.length : Int)
   ·rw [if_pos c1]; exact ⟨true, rfl, fun h => by cases h⟩
   ·rw [if_neg c1]
    by_cases c2 : 60 < (n.Sections.length : Int)
    ·rw [if_pos c2]; exact ⟨true, rfl, fun h => by cases h⟩
    ·rw [if_neg c2]
     by_cases c3 : 90 < (n.Links.length : Int)
     ·rw [if_pos c3]; exact ⟨true, rfl, fun h => by cases h⟩
     ·rw [if_neg c3]
      by_cases c4 : 40 < (n.Signals.length : Int)
      ·rw [if_pos c4]; exact ⟨true, rfl, fun h => by cases h⟩
      ·rw [if_neg c4]
       refine ⟨_, rfl, fun h => ?_⟩
       have := of_decide_eq_false h
       omega
  rw [hb, Option.bind_some]
  by_cases hbt : b = true
  ·rw [if_pos hbt]
   exact bad 4 (by decide)
  ·obtain ⟨l0, l1, l2, l3, l4⟩ := hb2 (by simpa using hbt)
   rw [if_neg hbt]
   rcases z6I (body := q2q n) (fun _ => True) (fun c : Int => c ≠ 0) n.Stations.length (fun k hk => by
    obtain ⟨v, hv⟩ := z6k (hS _ (List.getElem_mem hk))
    obtain ⟨u, hu⟩ := q9W (n.Stations.take k) n.Stations[k]
    have hcut : z6w n.Stations 0 (k : Int) = some (n.Stations.take k) := by
     have := q9U (l := n.Stations) (a := 0) (b := k) (by omega) (by omega)
     simpa using this
    unfold q2q
    rw [j7 hk, Option.bind_some, hv, Option.bind_some]
    split
    ·rw [hcut, Option.bind_some, hu, Option.bind_some]
     split
     ·exact .inr ⟨6, rfl, by decide⟩
     ·exact .inl ⟨rfl, trivial⟩
    ·exact .inr ⟨1, rfl, by decide⟩) with ⟨h1, _⟩ | ⟨t, h1, h2⟩
   ·rw [h1, Option.bind_some, Sum.elim_inl]
    rcases z6I (body := q2p n) (fun k => ∀ h : k < n.Sections.length, j0m n.Sections[k] ∧ j4K n.Sections[k] (n.Stations.length : Int)) (fun c : Int => c ≠ 0) n.Sections.length (fun k hk => by
     obtain ⟨c, c1, c2⟩ := z2V n.Sections[k] (n.Stations.length : Int)
     unfold q2p
     rw [j7 hk, Option.bind_some, c1, Option.bind_some]
     by_cases hc : c = 0
     ·rw [if_neg (by simpa using hc)]
      exact .inl ⟨rfl, fun _ => c2 hc⟩
     ·rw [if_pos hc]
      exact .inr ⟨c, rfl, hc⟩) with ⟨g1, g2⟩ | ⟨t, g1, g2⟩
    ·rw [g1, Option.bind_some, Sum.elim_inl]
     rcases z6I (body := q2o n) (fun k => (k = 0 → j2u n.Links ∧ ∀ x ∈ n.Links, Has n (q4P x) ∧ Has n (q4O x)) ∧ (k = 1 → ∀ s ∈ n.Signals, Has n ⟨s.Section, s.End⟩)) (fun c : Int => c ≠ 0) 3 (fun k hk => by
      have fin : ∀ (c : Int) (Z : Prop), (c = 0 → Z) → ((if c ≠ 0 then some (.inr c) else some (.inl ()) : Option (Unit ⊕ Int)) = some (.inl ()) ∧ Z) ∨ ∃ t, (if c ≠ 0 then some (.inr c) else some (.inl ()) : Option (Unit ⊕ Int)) = some (.inr t) ∧ t ≠ 0 := fun c Z hz => by
       by_cases hc : c = 0
       ·rw [if_neg (by simpa using hc)]
        exact .inl ⟨rfl, hz hc⟩
       ·rw [if_pos hc]
        exact .inr ⟨c, rfl, hc⟩
      unfold q2o
      by_cases k0 : (k : Int) = 0
      ·obtain ⟨c, c1, c2⟩ := z6m l1 l2
       rw [if_pos k0, c1, Option.bind_some]
       exact fin c _ (fun h => ⟨fun _ => c2 h, fun h => by omega⟩)
      ·rw [if_neg k0]
       by_cases k1 : (k : Int) = 1
       ·obtain ⟨c, c1, c2⟩ := z1Y l1 l3
        rw [if_pos k1, c1, Option.bind_some]
        exact fin c _ (fun h => ⟨fun h => by omega, fun _ => c2 h⟩)
       ·obtain ⟨c, c1⟩ := z4w l1 l4
        rw [if_neg k1, if_pos (by omega), c1, Option.bind_some]
        exact fin c _ (fun _ => ⟨fun h => by omega, fun h => by omega⟩)) with ⟨f1, f2⟩ | ⟨t, f1, f2⟩
     ·rw [f1, Option.bind_some, Sum.elim_inl]
      refine ⟨0, rfl, fun _ => ⟨l1, fun s hs => ?_, ((f2 0 (by decide)).1 rfl).1, ((f2 0 (by decide)).1 rfl).2, (f2 1 (by decide)).2 rfl, l3, fun s hs => ?_, l0⟩⟩
      ·obtain ⟨j, hj, rfl⟩ := List.getElem_of_mem hs
       exact (g2 j hj hj).1
      ·obtain ⟨j, hj, rfl⟩ := List.getElem_of_mem hs
       exact (g2 j hj hj).2
     ·rw [f1, Option.bind_some, Sum.elim_inr]
      exact bad t f2
    ·rw [g1, Option.bind_some, Sum.elim_inr]
     exact bad t g2
   ·rw [h1, Option.bind_some, Sum.elim_inr]
    exact bad t h2
def q7W (k i : Int) : List Int := if k = 2 ∧ i = 0 then [1, 2] else if k = 2 then [0] else [z4V .i64 i 1]
theorem j3g {k i : Int} (h : 0 ≤ i ∧ i < q6N k) : k = 1 ∧ (i = 0 ∨ i = 1) ∨ k = 2 ∧ (i = 0 ∨ i = 1 ∨ i = 2) ∨ k = 3 ∧ (i = 0 ∨ i = 1 ∨ i = 2 ∨ i = 3) := by
 unfold q6N at h
 split at h
 ·exact .inl ⟨by assumption, by omega⟩
 ·split at h
  ·exact .inr (.inl ⟨by assumption, by omega⟩)
  ·split at h
   ·exact .inr (.inr ⟨by assumption, by omega⟩)
   ·omega
theorem j1x {k i o : Int} (h : 0 ≤ i ∧ i < q6N k) (ho : o ∈ q7W k i) : 0 ≤ o ∧ o < q6N k := by
 have x0 := z1I 0
 have x1 := z1I 1
 have x2 := z1I 2
 have x3 := z1I 3
 simp at x0 x1 x2 x3
 rcases j3g h with ⟨rfl, rfl | rfl⟩ | ⟨rfl, rfl | rfl | rfl⟩ | ⟨rfl, rfl | rfl | rfl | rfl⟩ <;> simp [q7W, x0, x1, x2, x3] at ho <;> first | (subst ho; decide) | (rcases ho with rfl | rfl <;> decide)
def q4z (n : ApiNet) (s : ApiStep) : Prop := Has n ⟨s.Section, s.In⟩ ∧ Has n ⟨s.Section, s.Out⟩ ∧ s.Out ∈ q7W (sec n s.Section).Kind s.In
structure j4z (n : ApiNet) (l : List ApiStep) : Prop where
 step : ∀ s ∈ l, q4z n s
 join : ∀ k (h : k + 1 < l.length), q1S n.Links ⟨l[k].Section, l[k].Out⟩ = some ⟨l[k + 1].Section, l[k + 1].In⟩
 nd : l.Pairwise (fun a b => a.Section ≠ b.Section)
theorem z2O {n : ApiNet} (hN : q4T n) (e : LineEnd) : ∃ ws, q0t n e = some ws ∧ ws.length ≤ 2 ∧ ∀ s ∈ ws, q1S n.Links e = some ⟨s.Section, s.In⟩ ∧ q4z n s := by
 unfold q0t
 rw [q5K]
 cases hj : q1S n.Links e with
 | none => exact ⟨[], rfl, by simp, fun s hs => by cases hs⟩
 | some f =>
  obtain ⟨x, hx, h⟩ := q7l hj
  have hf : Has n f := by
   rcases h with ⟨_, h⟩ | ⟨_, h⟩
   ·rw [← h]; exact (hN.ends x hx).2
   ·rw [← h]; exact (hN.ends x hx).1
  have e1 : (some (q7k (some f))).bind (q4G fun x y q => if q = true then (idx n.Sections x).bind fun p => (q1G p.Kind y).bind fun o => some (o.map fun k => (⟨x, y, k⟩ : ApiStep)) else some []) = (idx n.Sections f.section_).bind fun p => (q1G p.Kind f.end_).bind fun o => some (o.map fun k => (⟨f.section_, f.end_, k⟩ : ApiStep)) := rfl
  rw [e1, q2E hf.1, Option.bind_some, z7j, Option.bind_some]
  show ∃ ws, some ((q7W (sec n f.section_).Kind f.end_).map _) = some ws ∧ _
  refine ⟨_, rfl, ?_, fun s hs => ?_⟩
  ·rw [List.length_map]
   unfold q7W
   split
   ·simp
   ·split <;> simp
  ·obtain ⟨k, hk, rfl⟩ := List.mem_map.1 hs
   exact ⟨rfl, hf, ⟨hf.1, j1x hf.2 hk⟩, hk⟩
noncomputable def sg (n : ApiNet) (e : LineEnd) : Int := (H8 n e).getD (-1)
theorem q6H (n : ApiNet) (e : LineEnd) : H8 n e = some (sg n e) ∧ (sg n e = -1 ∨ ∃ k, ∃ h : k < n.Signals.length, sg n e = (k : Int) ∧ n.Signals[k] = ⟨e.section_, e.end_⟩) := by
 have key : ∃ v, H8 n e = some v ∧ (v = -1 ∨ ∃ k, ∃ h : k < n.Signals.length, v = (k : Int) ∧ n.Signals[k] = ⟨e.section_, e.end_⟩) := by
  unfold H8 q2L
  rcases z6I (body := q0D n.Signals ⟨e.section_, e.end_⟩) (fun _ => True) (fun v : Int => ∃ k, ∃ h : k < n.Signals.length, v = (k : Int) ∧ n.Signals[k] = ⟨e.section_, e.end_⟩) n.Signals.length (fun k hk => by
   unfold q0D
   rw [j7 hk, Option.bind_some]
   by_cases c : e.section_ = n.Signals[k].Section ∧ e.end_ = n.Signals[k].End
   ·rw [if_pos c]
    refine .inr ⟨_, rfl, k, hk, rfl, ?_⟩
    rw [c.1, c.2]
   ·rw [if_neg c]
    exact .inl ⟨rfl, trivial⟩) with ⟨h1, _⟩ | ⟨v, h1, h2⟩
  ·rw [h1]
   exact ⟨-1, rfl, .inl rfl⟩
  ·rw [h1]
   exact ⟨v, rfl, .inr h2⟩
 obtain ⟨v, h1, h2⟩ := key
 unfold sg
 rw [h1]
 exact ⟨rfl, h2⟩
theorem q5B (l : List ApiStep) (x : Int) : Z9 l x = some (decide (∃ s ∈ l, s.Section = x)) := by
 unfold Z9 q0c q1K
 rcases z6I (body := F3 l x) (fun k => ∀ h : k < l.length, l[k].Section ≠ x) (fun v => 0 ≤ v ∧ ∃ s ∈ l, s.Section = x) l.length (fun k hk => by
  unfold F3 q3x
  rw [j7 hk, Option.bind_some, Option.bind_some]
  by_cases c : l[k].Section = x
  ·rw [if_pos (decide_eq_true c)]
   exact .inr ⟨_, rfl, by omega, _, List.getElem_mem hk, c⟩
  ·rw [if_neg (by simpa using c)]
   exact .inl ⟨rfl, fun _ => c⟩) with ⟨h1, h2⟩ | ⟨v, h1, h2, h3⟩
 ·rw [h1]
  show some (decide ((0 : Int) ≤ -1)) = _
  rw [decide_eq_false (by decide), decide_eq_false (fun ⟨s, hs, e⟩ => by
   obtain ⟨j, hj, rfl⟩ := List.getElem_of_mem hs
   exact h2 j hj hj e)]
 ·rw [h1]
  show some (decide (0 ≤ v)) = _
  rw [decide_eq_true h2, decide_eq_true h3]
theorem j0e {l : List ApiStep} (h : l.length ≤ 60) : q2V l = some l := by
 unfold q2V
 rw [q1u (by omega) (by omega)]
 rfl
def q7c (s : ApiStep) : LineEnd := ⟨s.Section, s.Out⟩
noncomputable def z0z (n : ApiNet) (f : Int) : LineEnd := ⟨((n.Signals[f.toNat]?).getD ⟨0, 0⟩).Section, ((n.Signals[f.toNat]?).getD ⟨0, 0⟩).End⟩
theorem q9M {n : ApiNet} {i : Int} (h : 0 ≤ i ∧ i < (n.Signals.length : Int)) : idx n.Signals i = some ⟨(z0z n i).section_, (z0z n i).end_⟩ := by
 obtain ⟨x, h1, h2⟩ := q3j h.1 h.2
 rw [h1]
 unfold z0z
 rw [h2]
 rfl
theorem j1q {n : ApiNet} (hN : q4T n) {i : Int} (h : 0 ≤ i ∧ i < (n.Signals.length : Int)) : Has n (z0z n i) := by
 obtain ⟨x, h1, h2⟩ := q3j h.1 h.2
 unfold z0z
 rw [h2]
 exact hN.sigs x (List.mem_of_getElem? h2)
structure z2L (n : ApiNet) (f : Int) (w : List ApiStep) : Prop where
 path : j4z n w
 home : ∀ s ∈ w, s.Section ≠ (z0z n f).section_
 head : ∀ s, w.head? = some s → q1S n.Links (z0z n f) = some ⟨s.Section, s.In⟩
 many : w.length ≤ 16
noncomputable def atE (n : ApiNet) (f : Int) (w : List ApiStep) : LineEnd := (w.getLast?.map q7c).getD (z0z n f)
structure q4a (n : ApiNet) (r : ApiRoute) : Prop where
 from_ : 0 ≤ r.From ∧ r.From < (n.Signals.length : Int)
 way : z2L n r.From r.Steps
 last : ∃ w s, r.Steps = w ++ [s] ∧ (∀ t ∈ w, sg n (q7c t) < 0) ∧ r.To = sg n (q7c s) ∧ (r.To < 0 → q1S n.Links (q7c s) = none)
theorem j1b (n : ApiNet) (f : Int) : z2L n f [] :=
 ⟨⟨fun s hs => (List.not_mem_nil hs).elim, fun k h => absurd h (by simp), .nil⟩, fun s hs => (List.not_mem_nil hs).elim, fun s hs => (by simp at hs), by simp⟩
theorem z8Z {n : ApiNet} {f : Int} {w : List ApiStep} {s : ApiStep} (h : z2L n f w) (hl : w.length < 16) (hs : q4z n s) (hj : q1S n.Links (atE n f w) = some ⟨s.Section, s.In⟩)
  (hn : ¬ ∃ t ∈ w, t.Section = s.Section) (hh : s.Section ≠ (z0z n f).section_) : z2L n f (w ++ [s]) := by
 refine ⟨⟨fun t ht => ?_, fun k hk => ?_, ?_⟩, fun t ht => ?_, fun t ht => ?_, by simp; omega⟩
 ·rcases List.mem_append.1 ht with ht | ht
  ·exact h.path.step t ht
  ·rw [List.mem_singleton.1 ht]; exact hs
 ·rw [List.length_append, List.length_singleton] at hk
  by_cases c : k + 1 < w.length
  ·rw [List.getElem_append_left (by omega), List.getElem_append_left c]
   exact h.path.join k c
  ·have e : k + 1 = w.length := by omega
   have hne : w ≠ [] := fun h0 => by rw [h0] at e; simp at e
   rw [List.getElem_append_left (by omega), List.getElem_append_right (by omega)]
   have hg : w.getLast? = some (w[k]'(by omega)) := by
    rw [List.getLast?_eq_getElem?, show w.length - 1 = k by omega]
    exact List.getElem?_eq_getElem (by omega)
   unfold atE at hj
   rw [hg] at hj
   have hj : q1S n.Links (q7c (w[k]'(by omega))) = some ⟨s.Section, s.In⟩ := hj
   simpa [q7c] using hj
 ·rw [List.pairwise_append]
  refine ⟨h.path.nd, .cons (fun _ h => by cases h) .nil, fun a ha b hb => ?_⟩
  rw [List.mem_singleton.1 hb]
  exact fun e => hn ⟨a, ha, e⟩
 ·rcases List.mem_append.1 ht with ht | ht
  ·exact h.home t ht
  ·rw [List.mem_singleton.1 ht]; exact hh
 ·cases w with
  | nil =>
   have : s = t := by simpa using ht
   subst this
   exact hj
  | cons a w => exact h.head t (by simpa using ht)
theorem j2q {n : ApiNet} {f : Int} {w : List ApiStep} {s : ApiStep} : atE n f (w ++ [s]) = q7c s := by
 unfold atE
 rw [List.getLast?_concat]
 rfl
theorem z5r {α σ τ : Type} {body : α → σ → Option (σ ⊕ τ)} {D : Prop} (I : σ → Prop) (Q : τ → Prop) : ∀ (xs : List α) (s : σ), I s → (∀ x ∈ xs, ∀ s, I s → (body x s = none ∧ D) ∨ (∃ s', body x s = some (.inl s') ∧ I s') ∨ ∃ t, body x s = some (.inr t) ∧ Q t) →
  (q4f body xs s = none ∧ D) ∨ (∃ s', q4f body xs s = some (.inl s') ∧ I s') ∨ ∃ t, q4f body xs s = some (.inr t) ∧ Q t
 | [], s, h0, _ => .inr (.inl ⟨s, rfl, h0⟩)
 | x :: xs, s, h0, h => by
  unfold q4f
  rcases h x (List.mem_cons_self ..) s h0 with ⟨h1, hd⟩ | ⟨s', h1, h2⟩ | ⟨t, h1, h2⟩
  ·rw [h1]; exact .inl ⟨rfl, hd⟩
  ·rw [h1]; exact z5r I Q xs s' h2 (fun y hy => h y (List.mem_cons_of_mem _ hy))
  ·rw [h1]; exact .inr (.inr ⟨t, rfl, h2⟩)
structure z5S (n : ApiNet) (f : Int) (p : Int) (lg : Bool) (rs : List ApiRoute) : Prop where
 p0 : (rs.length : Int) ≤ p
 p1 : p ≤ 81
 p2 : lg = false → p ≤ 80
 ok : ∀ r ∈ rs, q4a n r
 fr : ∀ r ∈ rs, r.From ≤ f
 so : rs.Pairwise (fun a b => a.From ≤ b.From)
def z1d (n : ApiNet) (f : Int) : Int × Bool × List ApiRoute → Prop := q4G fun p lg rs => z5S n f p lg rs
theorem z1t {n : ApiNet} {f p : Int} {rs : List ApiRoute} (h : z5S n f p false rs) (a : List ByteArray) (b : List ApiSection) (c : List ApiLink) (d : List ApiSignal) (e : List ApiGate) (rs' : List ApiRoute) :
  Y3 a b c d e p false rs' = some (p + 1, decide (80 < p + 1)) := by
 have h0 := h.p0
 have h2 := h.p2 rfl
 unfold Y3
 rw [X0 (by omega) (by omega), Option.bind_some, if_neg (by decide)]
theorem z7L {n : ApiNet} {f p : Int} {rs : List ApiRoute} (h : z5S n f p false rs) : z5S n f (p + 1) (decide (80 < p + 1)) rs := by
 have h0 := h.p0
 have h2 := h.p2 rfl
 exact ⟨by omega, by omega, fun e => by have := of_decide_eq_false e; omega, h.ok, h.fr, h.so⟩
theorem z9K {n : ApiNet} {f p : Int} {rs : List ApiRoute} (h : z5S n f p false rs) {r : ApiRoute} (hr : q4a n r) (hf : r.From = f) : z5S n f (p + 1) (decide (80 < p + 1)) (rs ++ [r]) := by
 have h0 := h.p0
 have h2 := h.p2 rfl
 refine ⟨by simp; omega, by omega, fun e => by have := of_decide_eq_false e; omega, fun x hx => ?_, fun x hx => ?_, ?_⟩
 ·rcases List.mem_append.1 hx with hx | hx
  ·exact h.ok x hx
  ·rw [List.mem_singleton.1 hx]; exact hr
 ·rcases List.mem_append.1 hx with hx | hx
  ·exact h.fr x hx
  ·rw [List.mem_singleton.1 hx]; omega
 ·rw [List.pairwise_append]
  refine ⟨h.so, .cons (fun _ h => (List.not_mem_nil h).elim) .nil, fun a ha b hb => ?_⟩
  rw [List.mem_singleton.1 hb, hf]
  exact h.fr a ha
theorem z8C {n : ApiNet} (hN : q4T n) {f : Int} (hf : 0 ≤ f ∧ f < (n.Signals.length : Int)) {w : List ApiStep} (hw : z2L n f w) (hm : ∀ t ∈ w, sg n (q7c t) < 0) {D : Prop}
  {rc : Int → List ApiStep → LineEnd → List ByteArray → List ApiSection → List ApiLink → List ApiSignal → List ApiGate → Int → Bool → List ApiRoute → Option (Int × Bool × List ApiRoute)}
  (hrc : ∀ (v : List ApiStep) (p : Int) (lg : Bool) (rs : List ApiRoute), v.length = w.length + 1 → z2L n f v → (∀ t ∈ v, sg n (q7c t) < 0) → z5S n f p lg rs →
   (rc f v (atE n f v) n.Stations n.Sections n.Links n.Signals n.Gates p lg rs = none ∧ D) ∨ ∃ r, rc f v (atE n f v) n.Stations n.Sections n.Links n.Signals n.Gates p lg rs = some r ∧ z1d n f r)
  {s : ApiStep} (hj : q1S n.Links (atE n f w) = some ⟨s.Section, s.In⟩) (hs : q4z n s) {S : Int × Bool × List ApiRoute} (hS : z1d n f S) :
  (w7 f w n.Stations n.Sections n.Links n.Signals n.Gates (z0z n f).section_ rc s S = none ∧ D) ∨
  (∃ S', w7 f w n.Stations n.Sections n.Links n.Signals n.Gates (z0z n f).section_ rc s S = some (.inl S') ∧ z1d n f S') ∨
  ∃ S', w7 f w n.Stations n.Sections n.Links n.Signals n.Gates (z0z n f).section_ rc s S = some (.inr S') ∧ z1d n f S' := by
 obtain ⟨p, lg, rs⟩ := S
 have hS : z5S n f p lg rs := hS
 have hmany := hw.many
 unfold w7
 show (q4G _ (p, lg, rs) = none ∧ D) ∨ _
 simp only [q4G]
 cases lg with
 | true =>
  rw [if_pos rfl]
  exact .inr (.inr ⟨_, rfl, hS⟩)
 | false =>
  rw [if_neg (by decide)]
  have hst : (if s.Section = (z0z n f).section_ then some true else (Z9 w s.Section).bind fun x => some x) = some (decide (s.Section = (z0z n f).section_ ∨ ∃ t ∈ w, t.Section = s.Section)) := by
   rw [q5B, Option.bind_some]
   by_cases c : s.Section = (z0z n f).section_
   ·rw [if_pos c, decide_eq_true (Or.inl c)]
   ·rw [if_neg c]
    congr 1
    exact decide_eq_decide.2 ⟨.inr, fun h => h.resolve_left c⟩
  rw [hst, Option.bind_some]
  by_cases c1 : s.Section = (z0z n f).section_ ∨ ∃ t ∈ w, t.Section = s.Section
  ·rw [decide_eq_true c1, if_pos rfl, z1t hS, Option.bind_some]
   exact .inr (.inr ⟨_, rfl, z7L hS⟩)
  ·rw [decide_eq_false c1, if_neg (by decide), j0e (by omega), Option.bind_some, q1u (by omega) (by omega), Option.bind_some, Option.bind_some]
   by_cases c2 : 16 < ((w ++ [s]).length : Int)
   ·rw [if_pos c2]
    exact .inr (.inr ⟨_, rfl, hS.p0, hS.p1, fun h => Bool.noConfusion h, hS.ok, hS.fr, hS.so⟩)
   ·have hl : w.length < 16 := by simp at c2; omega
    have hv : z2L n f (w ++ [s]) := z8Z hw hl hs hj (fun h => c1 (.inr h)) (fun h => c1 (.inl h))
    rw [if_neg c2]
    have e1 : H8 (⟨n.Stations, n.Sections, n.Links, n.Signals, n.Gates⟩ : ApiNet) ⟨s.Section, s.Out⟩ = some (sg n (q7c s)) := (q6H n (q7c s)).1
    have e2 : W0 (⟨n.Stations, n.Sections, n.Links, n.Signals, n.Gates⟩ : ApiNet) ⟨s.Section, s.Out⟩ = some (q7k (q1S n.Links (q7c s))) := q5K n (q7c s)
    have e3 : (some (q7k (q1S n.Links (q7c s)))).bind (q4G fun _ _ x => some x) = some ((q1S n.Links (q7c s)).isSome) := by
     cases q1S n.Links (q7c s) <;> rfl
    rw [e1, Option.bind_some, e2, e3, Option.bind_some]
    have e4 : (if (q1S n.Links (q7c s)).isSome = true then some (decide (sg n (q7c s) < 0)) else some false) = some (decide ((q1S n.Links (q7c s)).isSome = true ∧ sg n (q7c s) < 0)) := by
     by_cases c : (q1S n.Links (q7c s)).isSome = true
     ·rw [if_pos c]
      congr 1
      exact decide_eq_decide.2 ⟨fun h => ⟨c, h⟩, fun h => h.2⟩
     ·rw [if_neg c, decide_eq_false (fun h => c h.1)]
    rw [e4, Option.bind_some]
    by_cases c3 : (q1S n.Links (q7c s)).isSome = true ∧ sg n (q7c s) < 0
    ·rw [decide_eq_true c3, if_pos rfl]
     have := hrc (w ++ [s]) p false rs (by simp) hv (fun t ht => by
      rcases List.mem_append.1 ht with ht | ht
      ·exact hm t ht
      ·rw [List.mem_singleton.1 ht]; exact c3.2) hS
     rw [j2q] at this
     have eo : (⟨s.Section, s.Out⟩ : LineEnd) = q7c s := rfl
     rw [eo]
     rcases this with ⟨h1, hd⟩ | ⟨⟨p', lg', rs'⟩, h1, h2⟩
     ·rw [h1]
      exact .inl ⟨rfl, hd⟩
     ·rw [h1]
      exact .inr (.inl ⟨_, rfl, h2⟩)
    ·rw [decide_eq_false c3, if_neg (by decide)]
     have h0 := hS.p0
     have h1 := hS.p1
     rw [q1u (by omega) (by omega), Option.bind_some, Option.bind_some, z1t hS, Option.bind_some]
     refine .inr (.inl ⟨_, rfl, z9K hS ⟨hf, hv, w, s, rfl, hm, rfl, fun h => ?_⟩ rfl⟩)
     have h : sg n (q7c s) < 0 := h
     cases hjo : q1S n.Links (q7c s) with
     | none => rfl
     | some g => exact absurd ⟨by rw [hjo]; rfl, h⟩ c3
theorem q9O {n : ApiNet} (hN : q4T n) {f : Int} (hf : 0 ≤ f ∧ f < (n.Signals.length : Int)) : ∀ (N : Nat) (w : List ApiStep) (p : Int) (lg : Bool) (rs : List ApiRoute), z2L n f w → (∀ t ∈ w, sg n (q7c t) < 0) → z5S n f p lg rs →
  (k7 N f w (atE n f w) n.Stations n.Sections n.Links n.Signals n.Gates p lg rs = none ∧ N + w.length ≤ 16) ∨ ∃ r, k7 N f w (atE n f w) n.Stations n.Sections n.Links n.Signals n.Gates p lg rs = some r ∧ z1d n f r
 | 0, w, p, lg, rs, hw, _, _ => .inl ⟨rfl, by have := hw.many; omega⟩
 | N + 1, w, p, lg, rs, hw, hm, hg => by
  show ((((idx n.Signals f).bind fun x1399 => some x1399.Section).bind (fun x1386 => (q0t (⟨n.Stations, n.Sections, n.Links, n.Signals, n.Gates⟩ : ApiNet) (atE n f w)).bind fun l1416 => (q4f (w7 f w n.Stations n.Sections n.Links n.Signals n.Gates x1386 (k7 N)) l1416 (p, lg, rs)).bind fun t => Sum.elim (q4G fun x1817 x1818 l1819 => some (x1817, x1818, l1819)) (fun q => some q) t)) = none ∧ _) ∨ ∃ r, ((idx n.Signals f).bind fun x1399 => some x1399.Section).bind (fun x1386 => (q0t (⟨n.Stations, n.Sections, n.Links, n.Signals, n.Gates⟩ : ApiNet) (atE n f w)).bind fun l1416 => (q4f (w7 f w n.Stations n.Sections n.Links n.Signals n.Gates x1386 (k7 N)) l1416 (p, lg, rs)).bind fun t => Sum.elim (q4G fun x1817 x1818 l1819 => some (x1817, x1818, l1819)) (fun q => some q) t) = some r ∧ _
  obtain ⟨ws, h1, _, h2⟩ := z2O hN (atE n f w)
  have h1 : q0t (⟨n.Stations, n.Sections, n.Links, n.Signals, n.Gates⟩ : ApiNet) (atE n f w) = some ws := h1
  rw [q9M hf, Option.bind_some, Option.bind_some, h1, Option.bind_some]
  rcases z5r (body := w7 f w n.Stations n.Sections n.Links n.Signals n.Gates (z0z n f).section_ (k7 N)) (D := N + (w.length + 1) ≤ 16) (z1d n f) (z1d n f) ws (p, lg, rs) hg (fun s hs S hS => by
   refine z8C hN hf hw hm (fun v p' lg' rs' hl hv hmv hg' => ?_) (h2 s hs).1 (h2 s hs).2 hS
   have := q9O hN hf N v p' lg' rs' hv hmv hg'
   rw [hl] at this
   exact this) with ⟨h3, hd⟩ | ⟨⟨p', lg', rs'⟩, h3, h4⟩ | ⟨⟨p', lg', rs'⟩, h3, h4⟩
  ·exact .inl ⟨by rw [h3]; rfl, by omega⟩
  ·exact .inr ⟨_, by rw [h3]; rfl, h4⟩
  ·exact .inr ⟨_, by rw [h3]; rfl, h4⟩
theorem z9F {n : ApiNet} (hN : q4T n) {f : Int} (hf : 0 ≤ f ∧ f < (n.Signals.length : Int)) (w : List ApiStep) (p : Int) (lg : Bool) (rs : List ApiRoute) (hw : z2L n f w) (hm : ∀ t ∈ w, sg n (q7c t) < 0) (hg : z5S n f p lg rs) :
  ∃ r, lim (fun N => k7 N f w (atE n f w) n.Stations n.Sections n.Links n.Signals n.Gates p lg rs) = some r ∧ z1d n f r := by
 refine z1r ?_ (fun N t ht => ?_)
 ·rcases q9O hN hf 17 w p lg rs hw hm hg with ⟨_, h⟩ | ⟨r, h, _⟩
  ·omega
  ·exact ⟨17, r, h⟩
 ·rcases q9O hN hf N w p lg rs hw hm hg with ⟨h, _⟩ | ⟨r, h, h2⟩
  ·rw [h] at ht; cases ht
  ·rw [h] at ht
   rw [← Option.some.inj ht]
   exact h2
theorem z6t {n : ApiNet} (hN : q4T n) {f : Int} (hf : 0 ≤ f ∧ f < (n.Signals.length : Int)) (p : Int) (lg : Bool) (rs : List ApiRoute) (hg : z5S n f p lg rs) :
  ∃ r, lim (fun N => k7 N f [] (z0z n f) n.Stations n.Sections n.Links n.Signals n.Gates p lg rs) = some r ∧ z1d n f r :=
 z9F hN hf [] p lg rs (j1b n f) (fun t ht => (List.not_mem_nil ht).elim) hg
theorem z7M {n : ApiNet} {f g p : Int} {lg : Bool} {rs : List ApiRoute} (h : z5S n f p lg rs) (hg : f ≤ g) : z5S n g p lg rs :=
 ⟨h.p0, h.p1, h.p2, h.ok, fun r hr => Int.le_trans (h.fr r hr) hg, h.so⟩
theorem z4d {n : ApiNet} (hN : q4T n) : ∃ c rs, q2m n = some (c, rs) ∧ (c = 0 ∨ c = 4 ∧ rs = []) ∧ (∀ r ∈ rs, q4a n r) ∧ rs.Pairwise (fun a b => a.From ≤ b.From) ∧ rs.length ≤ 81 := by
 unfold q2m
 obtain ⟨⟨p, lg, rs⟩, h1, h2⟩ := Y0 (body := q0J n) (fun k => z1d n (k : Int)) n.Signals.length 0 (0, false, []) ⟨by simp, by decide, fun _ => by decide, fun r hr => (List.not_mem_nil hr).elim, fun r hr => (List.not_mem_nil hr).elim, .nil⟩ (fun k S _ hk hS => by
  obtain ⟨p, lg, rs⟩ := S
  have hk : k < n.Signals.length := by omega
  obtain ⟨⟨p', lg', rs'⟩, h1, h2⟩ := z6t hN (f := (k : Int)) ⟨by omega, by omega⟩ p lg rs hS
  refine ⟨(p', lg', rs'), ?_, z7M h2 (by omega)⟩
  unfold q0J
  simp only [q4G]
  rw [q9M ⟨by omega, by omega⟩, Option.bind_some]
  have h1 : lim (fun N => k7 N (k : Int) [] ⟨(z0z n (k : Int)).section_, (z0z n (k : Int)).end_⟩ n.Stations n.Sections n.Links n.Signals n.Gates p lg rs) = some (p', lg', rs') := h1
  rw [h1, Option.bind_some]
  rfl)
 have h2 : z5S n _ p lg rs := h2
 rw [h1, Option.bind_some]
 simp only [q4G]
 cases lg with
 | true =>
  rw [if_pos rfl]
  exact ⟨4, [], rfl, .inr ⟨rfl, rfl⟩, fun r hr => (List.not_mem_nil hr).elim, .nil, by simp⟩
 | false =>
  rw [if_neg (by decide)]
  have h3 := h2.p0
  have h4 := h2.p1
  exact ⟨0, rs, rfl, .inl rfl, h2.ok, h2.so, by omega⟩
theorem z3O {α : Type} {l : List α} {body : Nat → Unit → Option (Unit ⊕ Int)} (P : α → Prop) [DecidablePred P] [Decidable (∃ x ∈ l, P x)] (h : ∀ k (hk : k < l.length), body k () = some (if P l[k] then .inr (k : Int) else .inl ())) :
  ((forM body l.length 0 ()).bind fun t => Sum.elim (fun _ => some (-1)) (fun q => some q) t).bind (fun x => some (decide (0 ≤ x))) = some (decide (∃ x ∈ l, P x)) := by
 rcases z6I (body := body) (fun k => ∀ h : k < l.length, ¬ P l[k]) (fun v => 0 ≤ v ∧ ∃ x ∈ l, P x) l.length (fun k hk => by
  rw [h k hk]
  by_cases c : P l[k]
  ·rw [if_pos c]
   exact .inr ⟨_, rfl, by omega, _, List.getElem_mem hk, c⟩
  ·rw [if_neg c]
   exact .inl ⟨rfl, fun _ => c⟩) with ⟨h1, h2⟩ | ⟨v, h1, h2, h3⟩
 ·rw [h1]
  show some (decide ((0 : Int) ≤ -1)) = _
  rw [decide_eq_false (by decide), decide_eq_false (fun ⟨s, hs, e⟩ => by
   obtain ⟨j, hj, rfl⟩ := List.getElem_of_mem hs
   exact h2 j hj hj e)]
 ·rw [h1]
  show some (decide (0 ≤ v)) = _
  rw [decide_eq_true h2, decide_eq_true h3]
theorem j5e {α β γ δ τ : Type} {A : α → β → γ → δ → Option τ} {x : α} {y : β} {z : γ} {w : δ} : (some (x, y, z, w)).bind (z4Y A) = A x y z w := rfl
def z8T (x : ApiNeed) : Prop := x.Kind = 1 ∨ x.Kind = 2
def Fl (x y : ApiNeed) : Prop := x.Kind = 3 ∧ (y.Kind = 3 ∨ z8T y) ∧ x.Position ≠ y.Position
def Gd (x y : ApiNeed) : Prop := x.Kind = 4 ∧ y.Kind = 5
def q9n (a b : ApiNeed) : Prop := a.Place = b.Place ∧ (z8T a ∧ z8T b ∨ Fl a b ∨ Fl b a ∨ Gd a b ∨ Gd b a)
theorem z9E {a b : ApiNeed} (h : q9n a b) : q9n b a := by
 refine ⟨h.1.symm, ?_⟩
 rcases h.2 with ⟨x, y⟩ | h | h | h | h
 ·exact .inl ⟨y, x⟩
 ·exact .inr (.inr (.inl h))
 ·exact .inr (.inl h)
 ·exact .inr (.inr (.inr (.inr h)))
 ·exact .inr (.inr (.inr (.inl h)))
noncomputable instance (x : ApiNeed) : Decidable (z8T x) := Classical.propDecidable _
noncomputable instance (x y : ApiNeed) : Decidable (Fl x y) := Classical.propDecidable _
noncomputable instance (x y : ApiNeed) : Decidable (Gd x y) := Classical.propDecidable _
noncomputable instance (x y : ApiNeed) : Decidable (q9n x y) := Classical.propDecidable _
theorem z4N (x : ApiNeed) : q0Y x = some (decide (z8T x)) := by
 unfold q0Y
 by_cases h : x.Kind = 1
 ·rw [if_pos h, Option.bind_some, decide_eq_true (show z8T x from .inl h)]
 ·rw [if_neg h, Option.bind_some]
  congr 1
  exact decide_eq_decide.2 ⟨fun k => (.inr k : z8T x), fun k => Or.resolve_left k h⟩
theorem j3o (x y : ApiNeed) : K8 x y = some (decide (Fl x y)) := by
 unfold K8
 by_cases h : x.Kind = 3
 ·rw [if_pos h]
  by_cases h2 : y.Kind = 3
  ·rw [if_pos h2, Option.bind_some]
   congr 1
   exact decide_eq_decide.2 ⟨fun k => (⟨h, .inl h2, k⟩ : Fl x y), fun k => k.2.2⟩
  ·rw [if_neg h2, z4N, Option.bind_some]
   by_cases h3 : z8T y
   ·rw [decide_eq_true h3, if_pos rfl, Option.bind_some]
    congr 1
    exact decide_eq_decide.2 ⟨fun k => (⟨h, .inr h3, k⟩ : Fl x y), fun k => k.2.2⟩
   ·rw [decide_eq_false h3, if_neg (by decide), Option.bind_some, decide_eq_false (fun k : Fl x y => k.2.1.elim h2 h3)]
 ·rw [if_neg h, Option.bind_some, decide_eq_false (fun k : Fl x y => h k.1)]
theorem j3n (x y : ApiNeed) : K7 x y = some (decide (Gd x y)) := by
 unfold K7
 by_cases h : x.Kind = 4
 ·rw [if_pos h, Option.bind_some]
  congr 1
  exact decide_eq_decide.2 ⟨fun k => (⟨h, k⟩ : Gd x y), fun k => k.2⟩
 ·rw [if_neg h, Option.bind_some, decide_eq_false (fun k : Gd x y => h k.1)]
theorem z5n (a b : ApiNeed) : q2D a b = some (decide (q9n a b)) := by
 have tail : ((K8 a b).bind fun x149 => if x149 = true then some true else (K8 b a).bind fun x154 => if x154 = true then some true else (K7 a b).bind fun x159 => if x159 = true then some true else (K7 b a).bind fun x162 => some x162) = some (decide (Fl a b ∨ Fl b a ∨ Gd a b ∨ Gd b a)) := by
  rw [j3o, Option.bind_some]
  by_cases h1 : Fl a b
  ·rw [decide_eq_true h1, if_pos rfl, decide_eq_true (Or.inl h1)]
  ·rw [decide_eq_false h1, if_neg (by decide), j3o, Option.bind_some]
   by_cases h2 : Fl b a
   ·rw [decide_eq_true h2, if_pos rfl, decide_eq_true (Or.inr (Or.inl h2))]
   ·rw [decide_eq_false h2, if_neg (by decide), j3n, Option.bind_some]
    by_cases h3 : Gd a b
    ·rw [decide_eq_true h3, if_pos rfl, decide_eq_true (Or.inr (Or.inr (Or.inl h3)))]
    ·rw [decide_eq_false h3, if_neg (by decide), j3n, Option.bind_some]
     congr 1
     exact decide_eq_decide.2 ⟨fun k => .inr (.inr (.inr k)), fun k => ((k.resolve_left h1).resolve_left h2).resolve_left h3⟩
 unfold q2D
 by_cases hp : a.Place = b.Place
 ·rw [if_neg (by simpa using hp), z4N, Option.bind_some]
  by_cases ha : z8T a
  ·rw [decide_eq_true ha, if_pos rfl, z4N, Option.bind_some]
   by_cases hb : z8T b
   ·rw [decide_eq_true hb, if_pos rfl, Option.bind_some, decide_eq_true (show q9n a b from ⟨hp, .inl ⟨ha, hb⟩⟩)]
   ·rw [decide_eq_false hb, if_neg (by decide), tail, Option.bind_some]
    congr 1
    exact decide_eq_decide.2 ⟨fun k => (⟨hp, .inr k⟩ : q9n a b), fun k => k.2.resolve_left (fun h => hb h.2)⟩
  ·rw [decide_eq_false ha, if_neg (by decide), tail, Option.bind_some]
   congr 1
   exact decide_eq_decide.2 ⟨fun k => (⟨hp, .inr k⟩ : q9n a b), fun k => k.2.resolve_left (fun h => ha h.1)⟩
 ·rw [if_pos hp, decide_eq_false (fun k : q9n a b => hp k.1)]
theorem j0u {n : ApiNet} {r : ApiRoute} (h : q4a n r) (ht : ¬ r.To < 0) : 0 ≤ r.To ∧ r.To < (n.Signals.length : Int) := by
 obtain ⟨w, s, _, _, hto, _⟩ := h.last
 rcases (q6H n (q7c s)).2 with e | ⟨k, hk, e, _⟩ <;> omega
theorem q8u {n : ApiNet} (hN : q4T n) {r : ApiRoute} (h : q4a n r) : ∃ l, q3c n r = some l ∧ l.length ≤ 50 ∧ ∀ s ∈ l, q4z n s := by
 unfold q3c
 by_cases ht : r.To < 0
 ·rw [if_pos ht]
  exact ⟨[], rfl, by simp, fun s hs => (List.not_mem_nil hs).elim⟩
 ·rw [if_neg ht, q9M (j0u h ht), Option.bind_some, Option.bind_some, Option.bind_some]
  simp only [K1]
  obtain ⟨l, h1, h2⟩ := z3b (step := q0K n r) (fun S => ∃ d x y l, S = (d, x, y, l) ∧ 0 ≤ d ∧ d ≤ 5000 ∧ 10 * (l.length : Int) ≤ d ∧ (l.length : Int) ≤ 50 ∧ (d < 50 → (l.length : Int) ≤ 4) ∧ ∀ s ∈ l, q4z n s) (fun l => l.length ≤ 50 ∧ ∀ s ∈ l, q4z n s) (fun S => (50 - S.1).toNat) (fun S ⟨d, x, y, l, hS, h0, h9, h1, h2, h3, h4⟩ => by
   subst hS
   unfold q0K
   simp only [z4Y]
   by_cases c : d < 50
   ·rw [if_pos c]
    obtain ⟨ws, g1, _, g2⟩ := z2O hN (⟨x, y⟩ : LineEnd)
    rw [g1, Option.bind_some]
    cases ws with
    | nil =>
     refine .inr ⟨l, ?_, by omega, h4⟩
     rfl
    | cons s ws =>
     have e1 : (q4f q2n (s :: ws) ()).bind (fun t => Sum.elim (fun _ => some (0, 0, 0, false)) (fun q => some q) t) = some (s.Section, s.In, s.Out, true) := rfl
     obtain ⟨_, hs⟩ := g2 s (List.mem_cons_self ..)
     rw [e1, j5e]
     have hf := q9M (n := n) h.from_
     obtain ⟨q, hq⟩ : ∃ q, (if true = true then (Z9 r.Steps s.Section).bind fun x1989 => if x1989 = true then some true else (Z9 l s.Section).bind fun x1992 => if x1992 = true then some true else (idx n.Signals r.From).bind fun x1995 => some (decide (s.Section = x1995.Section)) else some true) = some q := by
      rw [if_pos rfl, q5B, Option.bind_some]
      split
      ·exact ⟨_, rfl⟩
      ·rw [q5B, Option.bind_some]
       split
       ·exact ⟨_, rfl⟩
       ·rw [hf, Option.bind_some]
        exact ⟨_, rfl⟩
     rw [hq, Option.bind_some]
     by_cases cq : q = true
     ·rw [if_pos cq]
      exact .inr ⟨l, rfl, by omega, h4⟩
     ·have hsec : n.Sections[s.Section.toNat]? = some (sec n s.Section) := by
       have hh := hs.1.1
       unfold sec
       rw [List.getElem?_eq_getElem (by have := hh.1; have := hh.2; simp only at *; omega)]
       rfl
      have hlen := (hN.secs _ (List.mem_of_getElem? hsec)).len
      have i1 := q2E (n := n) hs.1.1
      simp only at i1
      rw [if_neg cq, q1u (by omega) (by omega), Option.bind_some, i1, Option.bind_some, X0 (by omega) (by omega), Option.bind_some]
      refine .inl ⟨_, rfl, ⟨_, _, _, _, rfl, by omega, by omega, ?_, ?_, ?_, fun t ht => ?_⟩, ?_⟩
      ·rw [List.length_append, List.length_singleton]; push_cast; omega
      ·rw [List.length_append, List.length_singleton]; push_cast; omega
      ·intro hd
       rw [List.length_append, List.length_singleton]; push_cast; omega
      ·rcases List.mem_append.1 ht with ht | ht
       ·exact h4 t ht
       ·rw [List.mem_singleton.1 ht]; exact hs
      ·show (50 - (d + (sec n s.Section).Length)).toNat < (50 - d).toNat
       omega
   ·rw [if_neg c]
    exact .inr ⟨l, rfl, by omega, h4⟩) (0, (z0z n r.To).section_, (z0z n r.To).end_, []) ⟨_, _, _, _, rfl, by decide, by decide, by simp, by simp, by simp, fun s hs => (List.not_mem_nil hs).elim⟩
  rw [h1, Option.bind_some]
  exact ⟨l, rfl, h2⟩
theorem z3l {σ : Type} {body : Nat → σ → Option σ} {D : Prop} (I : Nat → σ → Prop) : ∀ (m k : Nat) (s : σ), I k s → (∀ j s, k ≤ j → j < k + m → I j s → (body j s = none ∧ D) ∨ ∃ s', body j s = some s' ∧ I (j + 1) s') → (q4M body m k s = none ∧ D) ∨ ∃ s', q4M body m k s = some s' ∧ I (k + m) s'
 | 0, k, s, h0, _ => .inr ⟨s, rfl, h0⟩
 | m + 1, k, s, h0, h => by
  rcases h k s (Nat.le_refl _) (by omega) h0 with ⟨h1, hd⟩ | ⟨s', h1, h2⟩
  ·refine .inl ⟨?_, hd⟩
   show (body k s).bind _ = _
   rw [h1]
   rfl
  ·rcases z3l (D := D) I m (k + 1) s' h2 (fun j t hj hj' hi => h j t (by omega) (by omega) hi) with ⟨h3, hd⟩ | ⟨s'', h3, h4⟩
   ·refine .inl ⟨?_, hd⟩
    show (body k s).bind _ = _
    rw [h1]
    exact h3
   ·refine .inr ⟨s'', ?_, by rw [show k + (m + 1) = k + 1 + m by omega]; exact h4⟩
    show (body k s).bind _ = _
    rw [h1]
    exact h3
def Few (B : Nat) : List ApiNeed × List (ApiNeed × Bool) → Prop := fun S => S.1.length ≤ B
theorem q7e (x : ApiNeed) (a : List ByteArray) (b : List ApiSection) (c : List ApiLink) (d : List ApiSignal) (e : List ApiGate) (f t : Int) (st lap : List ApiStep) (l : List ApiNeed) (m : List (ApiNeed × Bool)) (h : l.length ≤ 1000000) :
  ∃ S, v9 x a b c d e f t st lap l m = some S ∧ Few (l.length + 1) S := by
 unfold v9
 rw [Option.bind_some]
 split
 ·exact ⟨_, rfl, Nat.le_succ _⟩
 ·rw [q1u (by omega) (by omega), Option.bind_some]
  exact ⟨_, rfl, by show (l ++ [x]).length ≤ _; simp⟩
theorem z4D (x p : Int) (a : List ByteArray) (b : List ApiSection) (c : List ApiLink) (d : List ApiSignal) (e : List ApiGate) (f t : Int) (st lap : List ApiStep) (l : List ApiNeed) (m : List (ApiNeed × Bool)) :
  ∃ q, Y2 x p a b c d e f t st lap l m = some q := by
 unfold Y2 Y8 q0E
 rcases z6I (body := X7 x p l) (fun _ => True) (fun _ => True) l.length (fun k hk => by
  unfold X7 q0L
  rw [j7 hk, Option.bind_some]
  obtain ⟨q, hq⟩ : ∃ q, (if l[k].Kind = 3 then if l[k].Place = x then some (decide (l[k].Position = p)) else some false else some false) = some q := by
   split
   ·split <;> exact ⟨_, rfl⟩
   ·exact ⟨_, rfl⟩
  rw [hq, Option.bind_some, Option.bind_some]
  split
  ·exact .inr ⟨_, rfl, trivial⟩
  ·exact .inl ⟨rfl, trivial⟩) with ⟨h1, _⟩ | ⟨v, h1, _⟩
 ·rw [h1]; exact ⟨_, rfl⟩
 ·rw [h1]; exact ⟨_, rfl⟩
theorem z7k (k i : Int) : (q7W k i).length ≤ 2 := by
 unfold q7W
 split
 ·simp
 ·split <;> simp
theorem q8d {n : ApiNet} (hN : q4T n) (i f t : Int) (st lap : List ApiStep) : ∀ (N : Nat) (e : LineEnd) (many : Nat) (l : List ApiNeed) (m : List (ApiNeed × Bool)), many ≤ 8 → l.length + 2 ^ (9 - many) ≤ 1000000 →
  (v6 N e (many : Int) i n.Stations n.Sections n.Links n.Signals n.Gates f t st lap l m = none ∧ N + many ≤ 8) ∨ ∃ S, v6 N e (many : Int) i n.Stations n.Sections n.Links n.Signals n.Gates f t st lap l m = some S ∧ Few (l.length + 2 ^ (9 - many)) S
 | 0, e, many, l, m, hm, _ => .inl ⟨rfl, by omega⟩
 | N + 1, e, many, l, m, hm, hb => by
  have e0 : W0 (⟨n.Stations, n.Sections, n.Links, n.Signals, n.Gates⟩ : ApiNet) e = some (q7k (q1S n.Links e)) := q5K n e
  have hpos : 1 ≤ 2 ^ (9 - many) := Nat.one_le_two_pow
  have stay : ∃ S, (some (l, m) : Option (List ApiNeed × List (ApiNeed × Bool))) = some S ∧ Few (l.length + 2 ^ (9 - many)) S := ⟨_, rfl, Nat.le_add_right _ _⟩
  have more : ∀ x, ∃ S, v9 x n.Stations n.Sections n.Links n.Signals n.Gates f t st lap l m = some S ∧ Few (l.length + 2 ^ (9 - many)) S := fun x => by
   obtain ⟨S, h1, h2⟩ := q7e x n.Stations n.Sections n.Links n.Signals n.Gates f t st lap l m (by omega)
   exact ⟨S, h1, Nat.le_trans h2 (by omega)⟩
  unfold v6
  rw [e0]
  cases hj : q1S n.Links e with
  | none =>
   have e1 : (some (q7k none)).bind (q4G fun x857 x858 x859 => some (x859, x857, x858)) = some (false, (0 : Int), (0 : Int)) := rfl
   rw [e1, z6c, if_neg (by decide), Option.bind_some, if_pos rfl]
   exact .inr stay
  | some g =>
   obtain ⟨x, hx, hg⟩ := q7l hj
   have hG : Has n g := by
    rcases hg with ⟨_, h⟩ | ⟨_, h⟩
    ·rw [← h]; exact (hN.ends x hx).2
    ·rw [← h]; exact (hN.ends x hx).1
   have e1 : (some (q7k (some g))).bind (q4G fun x857 x858 x859 => some (x859, x857, x858)) = some (true, g.section_, g.end_) := rfl
   rw [e1, z6c, if_pos rfl]
   obtain ⟨q, hq, hq8⟩ : ∃ q, (if (many : Int) = 8 then some true else (Z9 st g.section_).bind fun x891 => if x891 = true then some true else (Z9 lap g.section_).bind fun x894 => some x894) = some q ∧ (q = false → many < 8) := by
    by_cases c : (many : Int) = 8
    ·rw [if_pos c]; exact ⟨true, rfl, fun h => by cases h⟩
    ·rw [if_neg c, q5B, Option.bind_some]
     split
     ·exact ⟨_, rfl, fun _ => by omega⟩
     ·rw [q5B, Option.bind_some]
      exact ⟨_, rfl, fun _ => by omega⟩
   rw [hq, Option.bind_some]
   by_cases cq : q = true
   ·rw [if_pos cq]
    exact .inr stay
   ·have h8 : many < 8 := hq8 (by simpa using cq)
    have i1 := q2E (n := n) hG.1
    rw [if_neg cq, i1, Option.bind_some]
    obtain ⟨o, ho, ho2⟩ : ∃ o : (Unit ⊕ (List ApiNeed × List (ApiNeed × Bool))), ((if (sec n g.section_).Kind = 2 then some (decide (0 < g.end_)) else some false).bind (fun x1029 =>
      if x1029 = true then (
       ((Y2 g.section_ g.end_ n.Stations n.Sections n.Links n.Signals n.Gates f t st lap l m).bind fun x1065 =>
       if x1065 = true then (some (l, m)) else (
       (chk (3 - g.end_)).bind fun _ =>
       (v9 (⟨3, g.section_, 3 - g.end_, i⟩ : ApiNeed) n.Stations n.Sections n.Links n.Signals n.Gates f t st lap l m).bind (K1 fun l1071 l1072 => some (l1071, l1072)))).bind (K1 fun l1061 l1063 => some (.inr (l1061, l1063))))
      else (
       if (sec n g.section_).Kind = 1 then (
        (H8 (⟨n.Stations, n.Sections, n.Links, n.Signals, n.Gates⟩ : ApiNet) (⟨g.section_, g.end_⟩ : LineEnd)).bind fun x1087 =>
        if 0 ≤ x1087 then (
         (if x1087 ≠ f then ((v9 (⟨4, x1087, 0, i⟩ : ApiNeed) n.Stations n.Sections n.Links n.Signals n.Gates f t st lap l m).bind (K1 fun l1118 l1119 => some (l1118, l1119))) else (some (l, m))).bind (K1 fun l1113 l1115 => some (.inr (l1113, l1115))))
        else (some (.inl ())))
       else (some (.inl ()))))) = some o ∧ ∀ S, o = .inr S → Few (l.length + 2 ^ (9 - many)) S := by
     obtain ⟨d, hd⟩ : ∃ d : Bool, (if (sec n g.section_).Kind = 2 then some (decide (0 < g.end_)) else some false) = some d := by
      split <;> exact ⟨_, rfl⟩
     rw [hd, Option.bind_some]
     by_cases cd : d = true
     ·rw [if_pos cd]
      obtain ⟨q2, hq2⟩ := z4D g.section_ g.end_ n.Stations n.Sections n.Links n.Signals n.Gates f t st lap l m
      rw [hq2, Option.bind_some]
      split
      ·exact ⟨_, rfl, fun S hS => by injection hS with hS; rw [← hS]; exact Nat.le_add_right _ _⟩
      ·have hk := j3g hG.2
       obtain ⟨⟨l', m'⟩, h1, h2⟩ := more (⟨3, g.section_, 3 - g.end_, i⟩ : ApiNeed)
       rw [X0 (by omega) (by omega), Option.bind_some, h1]
       exact ⟨_, rfl, fun S hS => by injection hS with hS; rw [← hS]; exact h2⟩
     ·rw [if_neg cd]
      split
      ·have e2 : H8 (⟨n.Stations, n.Sections, n.Links, n.Signals, n.Gates⟩ : ApiNet) ⟨g.section_, g.end_⟩ = some (sg n g) := (q6H n g).1
       rw [e2, Option.bind_some]
       split
       ·split
        ·obtain ⟨⟨l', m'⟩, h1, h2⟩ := more (⟨4, sg n g, 0, i⟩ : ApiNeed)
         rw [h1]
         exact ⟨_, rfl, fun S hS => by injection hS with hS; rw [← hS]; exact h2⟩
        ·exact ⟨_, rfl, fun S hS => by injection hS with hS; rw [← hS]; exact Nat.le_add_right _ _⟩
       ·exact ⟨_, rfl, fun S hS => by cases hS⟩
      ·exact ⟨_, rfl, fun S hS => by cases hS⟩
    rw [ho, Option.bind_some]
    rcases o with u | S
    ·have e3 : q1G (sec n g.section_).Kind g.end_ = some (q7W (sec n g.section_).Kind g.end_) := z7j _ _
     rw [Sum.elim_inl, e3, Option.bind_some]
     have ho3 := z7k (sec n g.section_).Kind g.end_
     have hp2 : 2 ^ (9 - many) = 2 * 2 ^ (8 - many) := by
      rw [show 9 - many = (8 - many) + 1 by omega, Nat.pow_succ]
      omega
     rcases z3l (body := J0 n.Stations n.Sections n.Links n.Signals n.Gates st lap (many : Int) i f t g.section_ (q7W (sec n g.section_).Kind g.end_) (v6 N)) (D := N + 1 + many ≤ 8) (fun k => Few (l.length + k * 2 ^ (8 - many))) (q7W (sec n g.section_).Kind g.end_).length 0 (l, m) (by show l.length ≤ _; omega) (fun k S _ hk hS => by
      obtain ⟨l', m'⟩ := S
      have hS : l'.length ≤ l.length + k * 2 ^ (8 - many) := hS
      have hk1 : k * 2 ^ (8 - many) + 2 ^ (8 - many) ≤ 2 * 2 ^ (8 - many) := by
       rw [← Nat.succ_mul]
       exact Nat.mul_le_mul_right _ (by omega)
      unfold J0
      simp only [K1]
      rw [j7 (show k < (q7W (sec n g.section_).Kind g.end_).length by omega), Option.bind_some, X0 (by omega) (by omega), Option.bind_some]
      have ih := q8d hN i f t st lap N ⟨g.section_, (q7W (sec n g.section_).Kind g.end_)[k]⟩ (many + 1) l' m' (by omega) (by rw [show 9 - (many + 1) = 8 - many by omega]; omega)
      rw [show (((many + 1 : Nat)) : Int) = (many : Int) + 1 by push_cast; rfl] at ih
      rcases ih with ⟨h1, hd⟩ | ⟨⟨l2, m2⟩, h1, h2⟩
      ·rw [h1]
       exact .inl ⟨rfl, by omega⟩
      ·rw [h1]
       refine .inr ⟨_, rfl, ?_⟩
       have h2 : l2.length ≤ l'.length + 2 ^ (9 - (many + 1)) := h2
       rw [show 9 - (many + 1) = 8 - many by omega] at h2
       show l2.length ≤ l.length + (k + 1) * 2 ^ (8 - many)
       rw [Nat.succ_mul]
       omega) with ⟨h1, hd⟩ | ⟨⟨l', m'⟩, h1, h2⟩
     ·rw [h1]
      exact .inl ⟨rfl, by omega⟩
     ·rw [h1]
      refine .inr ⟨_, rfl, ?_⟩
      have h2 : l'.length ≤ l.length + (0 + (q7W (sec n g.section_).Kind g.end_).length) * 2 ^ (8 - many) := h2
      show l'.length ≤ _
      have := Nat.mul_le_mul_right (2 ^ (8 - many)) ho3
      rw [Nat.zero_add] at h2
      omega
    ·rw [Sum.elim_inr]
     exact .inr ⟨S, rfl, ho2 S rfl⟩
theorem z7C {n : ApiNet} (hN : q4T n) (f t : Int) {st : List ApiStep} (lap : List ApiStep) (hst : ∀ s ∈ st, q4z n s) {i : Nat} (hi : i < st.length) (l : List ApiNeed) (m : List (ApiNeed × Bool)) (hb : l.length + 4096 ≤ 1000000) :
  ∃ S, H9 (i : Int) n.Stations n.Sections n.Links n.Signals n.Gates f t st lap l m = some S ∧ Few (l.length + 2048) S := by
 have hs := hst _ (List.getElem_mem hi)
 have hE := z5x (sec n st[i].Section).Kind
 have i1 := q2E (n := n) hs.1.1
 simp only at i1
 unfold H9
 rw [j7 hi, Option.bind_some, z6c, i1, Option.bind_some, z4F, Option.bind_some, X0 (by omega) (by omega), Option.bind_some]
 obtain ⟨⟨l', m'⟩, h1, h2⟩ := Y0 (body := W9 n.Stations n.Sections n.Links n.Signals n.Gates st lap (i : Int) f t st[i].Section st[i].In st[i].Out) (fun k => Few (l.length + k * 512)) (q6N (sec n st[i].Section).Kind).toNat 0 (l, m) (by show l.length ≤ _; omega) (fun k S _ hk hS => by
  obtain ⟨l', m'⟩ := S
  have hS : l'.length ≤ l.length + k * 512 := hS
  have hk4 : k < 4 := by omega
  unfold W9
  simp only [K1]
  obtain ⟨q, hq⟩ : ∃ q, (if (k : Int) ≠ st[i].In then some (decide ((k : Int) ≠ st[i].Out)) else some false) = some q := by
   split <;> exact ⟨_, rfl⟩
  rw [hq, Option.bind_some]
  by_cases cq : q = true
  ·rw [if_pos cq]
   obtain ⟨⟨l2, m2⟩, h1, h2⟩ := z1r (P := Few (l'.length + 512)) (f := fun N => v6 N ⟨st[i].Section, (k : Int)⟩ 0 (i : Int) n.Stations n.Sections n.Links n.Signals n.Gates f t st lap l' m') (by
    have hp : l'.length + 2 ^ (9 - 0) ≤ 1000000 := by rw [show (2 : Nat) ^ (9 - 0) = 512 from rfl]; omega
    rcases q8d hN (i : Int) f t st lap 9 ⟨st[i].Section, (k : Int)⟩ 0 l' m' (by omega) hp with ⟨_, h⟩ | ⟨S, h, _⟩
    ·omega
    ·exact ⟨9, S, h⟩) (fun N S hS => by
    have hp : l'.length + 2 ^ (9 - 0) ≤ 1000000 := by rw [show (2 : Nat) ^ (9 - 0) = 512 from rfl]; omega
    rcases q8d hN (i : Int) f t st lap N ⟨st[i].Section, (k : Int)⟩ 0 l' m' (by omega) hp with ⟨h, _⟩ | ⟨S', h, h2⟩
    ·have h : v6 N ⟨st[i].Section, (k : Int)⟩ 0 (i : Int) n.Stations n.Sections n.Links n.Signals n.Gates f t st lap l' m' = none := h
     rw [h] at hS; cases hS
    ·have h : v6 N ⟨st[i].Section, (k : Int)⟩ 0 (i : Int) n.Stations n.Sections n.Links n.Signals n.Gates f t st lap l' m' = some S' := h
     rw [h] at hS
     rw [← Option.some.inj hS]
     rw [show (2 : Nat) ^ (9 - 0) = 512 from rfl] at h2
     exact h2)
   rw [h1]
   refine ⟨_, rfl, ?_⟩
   have h2 : l2.length ≤ l'.length + 512 := h2
   show l2.length ≤ _
   omega
  ·rw [if_neg cq]
   refine ⟨_, rfl, ?_⟩
   show l'.length ≤ l.length + (k + 1) * 512
   rw [Nat.succ_mul]
   exact Nat.le_trans hS (by rw [← Nat.add_assoc]; exact Nat.le_add_right _ _))
 rw [h1]
 refine ⟨_, rfl, ?_⟩
 have h2 : l'.length ≤ l.length + (0 + (q6N (sec n st[i].Section).Kind).toNat) * 512 := h2
 show l'.length ≤ _
 omega
theorem q6y {n : ApiNet} {s : ApiStep} (h : q4z n s) : ∃ p, G6 n s = some p := by
 unfold G6
 have i1 := q2E (n := n) h.1.1
 simp only at i1
 rw [i1, Option.bind_some]
 split <;> exact ⟨_, rfl⟩
theorem z4k {n : ApiNet} (hN : q4T n) {r : ApiRoute} (h : q4a n r) : ∃ l, K6 n r = some l := by
 obtain ⟨lap, h1, h2, h3⟩ := q8u hN h
 have hm := h.way.many
 have hp := h.way.path.step
 unfold K6
 rw [h1, Option.bind_some, H0]
 obtain ⟨⟨l1, m1⟩, g1, g2⟩ := Y0 (body := H5 n r lap) (fun k => Few k) r.Steps.length 0 ([], []) (Nat.le_refl _) (fun k S _ hk hS => by
  obtain ⟨l, m⟩ := S
  have hS : l.length ≤ k := hS
  have hk : k < r.Steps.length := by omega
  obtain ⟨p, hp1⟩ := q6y (hp _ (List.getElem_mem hk))
  obtain ⟨⟨l', m'⟩, e1, e2⟩ := q7e ⟨1, r.Steps[k].Section, p, (k : Int)⟩ n.Stations n.Sections n.Links n.Signals n.Gates r.From r.To r.Steps lap l m (by omega)
  unfold H5
  simp only [K1]
  rw [j7 hk, Option.bind_some, hp1, Option.bind_some, e1]
  have e2 : l'.length ≤ l.length + 1 := e2
  exact ⟨_, rfl, by show l'.length ≤ _; omega⟩)
 have g2 : l1.length ≤ 0 + r.Steps.length := g2
 rw [g1, H0]
 obtain ⟨⟨l2, m2⟩, f1, f2⟩ := Y0 (body := H4 n r lap) (fun k => Few (l1.length + k)) lap.length 0 (l1, m1) (Nat.le_refl _) (fun k S _ hk hS => by
  obtain ⟨l, m⟩ := S
  have hS : l.length ≤ l1.length + k := hS
  have hk : k < lap.length := by omega
  obtain ⟨p, hp1⟩ := q6y (h3 _ (List.getElem_mem hk))
  obtain ⟨⟨l', m'⟩, e1, e2⟩ := q7e ⟨2, lap[k].Section, p, -1⟩ n.Stations n.Sections n.Links n.Signals n.Gates r.From r.To r.Steps lap l m (by omega)
  unfold H4
  simp only [K1]
  rw [j7 hk, Option.bind_some, hp1, Option.bind_some, e1]
  have e2 : l'.length ≤ l.length + 1 := e2
  exact ⟨_, rfl, by show l'.length ≤ _; omega⟩)
 have f2 : l2.length ≤ l1.length + (0 + lap.length) := f2
 rw [f1, H0]
 obtain ⟨⟨l3, m3⟩, d1, d2⟩ := Y0 (body := H3 n r lap) (fun k => Few (l2.length + k * 2048)) r.Steps.length 0 (l2, m2) (by show l2.length ≤ _; omega) (fun k S _ hk hS => by
  obtain ⟨l, m⟩ := S
  have hS : l.length ≤ l2.length + k * 2048 := hS
  have hk : k < r.Steps.length := by omega
  obtain ⟨⟨l', m'⟩, e1, e2⟩ := z7C hN r.From r.To lap hp hk l m (by omega)
  unfold H3
  simp only [K1]
  rw [e1]
  have e2 : l'.length ≤ l.length + 2048 := e2
  exact ⟨_, rfl, by show l'.length ≤ _; omega⟩)
 have d2 : l3.length ≤ l2.length + (0 + r.Steps.length) * 2048 := d2
 rw [d1, H0]
 obtain ⟨⟨l4, m4⟩, c1, c2⟩ := q7e ⟨5, r.From, 0, -1⟩ n.Stations n.Sections n.Links n.Signals n.Gates r.From r.To r.Steps lap l3 m3 (by omega)
 rw [c1]
 exact ⟨_, rfl⟩
def Ens {α : Type} (o : Option α) (P : α → Prop) : Prop := ∀ x, o = some x → P x
section
variable {α β γ δ τ : Type} {P : τ → Prop}
theorem V7 {x : τ} (h : P x) : Ens (some x) P := fun y hy => by injection hy with hy; rw [← hy]; exact h
theorem z9Y : Ens (none : Option τ) P := fun y hy => by cases hy
theorem K4 {o : Option α} {f : α → Option τ} (h : ∀ a, o = some a → Ens (f a) P) : Ens (o.bind f) P := fun y hy => by
 obtain ⟨a, h1, h2⟩ := q8S hy
 exact h a h1 y h2
theorem V1 {o : Option α} {f : α → Option τ} (Q : α → Prop) (h1 : Ens o Q) (h : ∀ a, Q a → Ens (f a) P) : Ens (o.bind f) P := K4 fun a ha => h a (h1 a ha)
theorem q5Q {c : Prop} [Decidable c] {a b : Option τ} (h1 : c → Ens a P) (h2 : ¬ c → Ens b P) : Ens (if c then a else b) P := by
 split
 ·exact h1 ‹_›
 ·exact h2 ‹_›
theorem z2v {σ : Type} {body : Nat → σ → Option σ} {I : σ → Prop} (h : ∀ k s, I s → Ens (body k s) I) : ∀ (m k : Nat) (s : σ), I s → Ens (q4M body m k s) I
 | 0, k, s, hs => V7 hs
 | m + 1, k, s, hs => by
  show Ens ((body k s).bind _) I
  exact V1 I (h k s hs) fun a ha => z2v h m (k + 1) a ha
theorem j1P {f : Nat → Option τ} (h : ∀ N, Ens (f N) P) : Ens (lim f) P := fun y hy => by
 obtain ⟨N, hN⟩ := q7j hy
 exact h N y hN
end
def KK (S : List ApiNeed × List (ApiNeed × Bool)) : Prop := ∀ x ∈ S.1, 1 ≤ x.Kind ∧ x.Kind ≤ 5
variable {a : List ByteArray} {b : List ApiSection} {c : List ApiLink} {d : List ApiSignal} {e : List ApiGate} {f t : Int} {st lap : List ApiStep}
end Go.Proofs.YtdbehipjelcmbaaGreatDoor
