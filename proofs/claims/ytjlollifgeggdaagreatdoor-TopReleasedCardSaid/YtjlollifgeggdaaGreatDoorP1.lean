import Derived.Test.YtjlollifgeggdaaGreatDoorF2
import Derived.Test.YtjlollifgeggdaaGreatDoorQZD
import Derived.KernelRfl
import Derived.Test.YtjlollifgeggdaaGreatDoorF3
set_option linter.unusedVariables false
set_option linter.unusedSimpArgs false
set_option linter.unusedSectionVars false
namespace Go.Fp
theorem H6 {σ : Type} {body : Nat → σ → Option σ} (I : Nat → σ → Prop) : ∀ (m k : Nat) (s : σ), I k s → (∀ j s, k ≤ j → j < k + m → I j s → ∃ s', body j s = some s' ∧ I (j + 1) s') → ∃ s', forS body m k s = some s' ∧ I (k + m) s'
 | 0, k, s, h0, _ => ⟨s, rfl, h0⟩
 | m + 1, k, s, h0, h => by
  obtain ⟨s', h1, h2⟩ := h k s (Nat.le_refl _) (by omega) h0
  obtain ⟨s'', h3, h4⟩ := H6 I m (k + 1) s' h2 (fun j t hj hj' hi => h j t (by omega) (by omega) hi)
  refine ⟨s'', ?_, by rw [show k + (m + 1) = k + 1 + m by omega]; exact h4⟩
  show (body k s).bind _ = _
  rw [h1]
  exact h3
theorem q1q {σ τ : Type} {body : Nat → σ → Option (σ ⊕ τ)} (I : Nat → σ → Prop) (Q : τ → Prop) : ∀ (m k : Nat) (s : σ), I k s → (∀ j s, k ≤ j → j < k + m → I j s → (∃ s', body j s = some (.inl s') ∧ I (j + 1) s') ∨ ∃ t, body j s = some (.inr t) ∧ Q t) →
  (∃ s', forM body m k s = some (.inl s') ∧ I (k + m) s') ∨ ∃ t, forM body m k s = some (.inr t) ∧ Q t
 | 0, k, s, h0, _ => .inl ⟨s, rfl, h0⟩
 | m + 1, k, s, h0, h => by
  rcases h k s (Nat.le_refl _) (by omega) h0 with ⟨s', h1, h2⟩ | ⟨t, h1, h2⟩
  ·rcases q1q I Q m (k + 1) s' h2 (fun j t hj hj' hi => h j t (by omega) (by omega) hi) with ⟨s'', h3, h4⟩ | ⟨t, h3, h4⟩
   ·refine .inl ⟨s'', ?_, by rw [show k + (m + 1) = k + 1 + m by omega]; exact h4⟩
    show (match body k s with | none => none | some (.inl s') => forM body m (k + 1) s' | some (.inr t) => some (.inr t)) = _
    rw [h1]
    exact h3
   ·refine .inr ⟨t, ?_, h4⟩
    show (match body k s with | none => none | some (.inl s') => forM body m (k + 1) s' | some (.inr t) => some (.inr t)) = _
    rw [h1]
    exact h3
  ·refine .inr ⟨t, ?_, h2⟩
   show (match body k s with | none => none | some (.inl s') => forM body m (k + 1) s' | some (.inr t) => some (.inr t)) = _
   rw [h1]
theorem q5H {σ τ : Type} {body : Nat → σ → Option (σ ⊕ τ)} {m k : Nat} {s s' : σ} (h : body k s = some (.inl s')) : forM body (m + 1) k s = forM body m (k + 1) s' := by
 show (match body k s with | none => none | some (.inl s') => forM body m (k + 1) s' | some (.inr t) => some (.inr t)) = _
 rw [h]
theorem q8h {σ τ : Type} {body : Nat → σ → Option (σ ⊕ τ)} {m k : Nat} {s : σ} {t : τ} (h : body k s = some (.inr t)) : forM body (m + 1) k s = some (.inr t) := by
 show (match body k s with | none => none | some (.inl s') => forM body m (k + 1) s' | some (.inr t) => some (.inr t)) = _
 rw [h]
theorem z7K {σ τ : Type} {step : σ → Option (σ ⊕ τ)} {s s' : σ} (h : step s = some (.inl s')) : q7g step s = q7g step s' := by
 have key : ∀ n t, runN step (n + 1) s = some t ↔ runN step n s' = some t := fun n t => by
  show (match step s with | none => none | some (.inl s') => runN step n s' | some (.inr t) => some t) = some t ↔ _
  rw [h]
 have hz : ∀ t, runN step 0 s = some t → False := fun t ht => by cases ht
 unfold q7g
 by_cases hh : ∃ t n, runN step n s' = some t
 ·obtain ⟨t, n, ht⟩ := hh
  have mono : ∀ n s t, runN step n s = some t → ∀ m, n ≤ m → runN step m s = some t := by
   intro n
   induction n with
   | zero => intro s t h; cases h
   | succ n ih =>
    intro s t h m hm
    obtain ⟨m, rfl⟩ : ∃ q, m = q + 1 := ⟨m - 1, by omega⟩
    have h' : (match step s with | none => none | some (.inl s') => runN step n s' | some (.inr t) => some t) = some t := h
    show (match step s with | none => none | some (.inl s') => runN step m s' | some (.inr t) => some t) = some t
    split at h'
    ·cases h'
    ·exact ih _ _ h' m (by omega)
    ·exact h'
  obtain ⟨a, ha, ha2⟩ := z2r (P := fun x => x = t) (f := fun n => runN step n s) ⟨n + 1, t, (key n t).2 ht⟩ (fun m x hx => by
   have h1 := mono m s x hx (max m (n + 1)) (Nat.le_max_left _ _)
   have h2 := mono (n + 1) s t ((key n t).2 ht) (max m (n + 1)) (Nat.le_max_right _ _)
   exact Kd (h1.symm.trans h2))
  obtain ⟨b, hb, hb2⟩ := z2r (P := fun x => x = t) (f := fun n => runN step n s') ⟨n, t, ht⟩ (fun m x hx => by
   have h1 := mono m s' x hx (max m n) (Nat.le_max_left _ _)
   have h2 := mono n s' t ht (max m n) (Nat.le_max_right _ _)
   exact Kd (h1.symm.trans h2))
  rw [ha, hb, ha2, hb2]
 ·have hh2 : ¬ ∃ t n, runN step n s = some t := by
   rintro ⟨t, n, ht⟩
   cases n with
   | zero => exact hz t ht
   | succ n => exact hh ⟨t, n, (key n t).1 ht⟩
  unfold lim
  rw [dif_neg hh, dif_neg hh2]
theorem q9b {σ τ : Type} {step : σ → Option (σ ⊕ τ)} {s : σ} {t : τ} (h : step s = some (.inr t)) : q7g step s = some t := by
 unfold q7g
 obtain ⟨a, ha, ha2⟩ := z2r (P := fun x => x = t) (f := fun n => runN step n s) ⟨1, t, by show (match step s with | none => none | some (.inl s') => runN step 0 s' | some (.inr t) => some t) = some t; rw [h]⟩ (fun m x hx => by
  cases m with
  | zero => cases hx
  | succ m =>
   have h' : (match step s with | none => none | some (.inl s') => runN step m s' | some (.inr t) => some t) = some x := hx
   rw [h] at h'
   exact (Kd h').symm)
 rw [ha, ha2]
theorem z9k {σ τ : Type} {step : σ → Option (σ ⊕ τ)} (I : σ → Prop) (Q : τ → Prop) (μ : σ → Nat) (h : ∀ s, I s → (∃ s', step s = some (.inl s') ∧ I s' ∧ μ s' < μ s) ∨ ∃ t, step s = some (.inr t) ∧ Q t) (s : σ) (h0 : I s) : ∃ t, q7g step s = some t ∧ Q t := by
 generalize hn : μ s = n
 induction n using Nat.strongRecOn generalizing s with
 | _ n ih =>
  rcases h s h0 with ⟨s', h1, h2, h3⟩ | ⟨t, h1, h2⟩
  ·obtain ⟨t, h4, h5⟩ := ih (μ s') (by omega) s' h2 rfl
   exact ⟨t, by rw [z7K h1]; exact h4, h5⟩
  ·exact ⟨t, q9b h1, h2⟩
theorem q1u {by_ m : Nat} (h : m * by_ ≤ 140737488355328) (h2 : m ≤ 9223372036854775807) : z1z by_ m = some () := by
 unfold z1z
 rw [if_pos ⟨h, h2⟩]
theorem z3f {by_ m : Nat} (h : by_ * m ≤ 281474976710656) (h2 : m ≤ 9223372036854775807) : z3g by_ (m : Int) = some m := by
 unfold z3g
 rw [if_pos ⟨by omega, by simpa using h, by omega⟩, Int.toNat_natCast]
theorem Q6 {α : Type} {l : List α} {j : Nat} (h : j < l.length) : idx l (j : Int) = some l[j] := j3G (Kf h)
theorem q4r {α : Type} {l : List α} {i : Int} (h0 : 0 ≤ i) (h : i < (l.length : Int)) : ∃ x, idx l i = some x ∧ l[i.toNat]? = some x := by
 refine ⟨l[i.toNat]'(by omega), ?_, Kf (by omega)⟩
 unfold idx
 rw [if_pos h0]
 exact Kf _
theorem z9I {α : Type} {l : List α} {a b : Nat} (h1 : a ≤ b) (h2 : b ≤ l.length) : z8f l (a : Int) (b : Int) = some ((l.take b).drop a) := by
 unfold z8f
 rw [if_pos ⟨by omega, by omega, by omega⟩]
 simp
end Go.Fp
namespace Go.Proofs.YtjlollifgeggdaaGreatDoor
open Go.RowKit Go.Fp
theorem q0L {β γ τ : Type} {A : β → γ → Option τ} {y : β} {z : γ} : (some (y, z)).bind (q0q A) = A y z := rfl
theorem z7z {β γ δ τ : Type} {A : β → γ → δ → Option τ} {y : β} {z : γ} {x : δ} : (some (y, z, x)).bind (q5U A) = A y z x := rfl
theorem z5K {τ : Type} {body : Nat → Unit → Option (Unit ⊕ τ)} (R : Nat → Prop) (Q : τ → Prop) (m : Nat) (h : ∀ k, k < m → (body k () = some (.inl ()) ∧ R k) ∨ ∃ t, body k () = some (.inr t) ∧ Q t) :
  (forM body m 0 () = some (.inl ()) ∧ ∀ k, k < m → R k) ∨ ∃ t, forM body m 0 () = some (.inr t) ∧ Q t := by
 rcases q1q (body := body) (fun k _ => ∀ j, j < k → R j) Q m 0 () (fun j hj => absurd hj (by omega)) (fun k s _ hk hi => by
  rcases h k (by omega) with ⟨h1, h2⟩ | h1
  ·exact .inl ⟨(), h1, fun j hj => by
    by_cases e : j = k
    ·subst e; exact h2
    ·exact hi j (by omega)⟩
  ·exact .inr h1) with ⟨s, h1, h2⟩ | h1
 ·exact .inl ⟨h1, fun k hk => h2 k (by omega)⟩
 ·exact .inr h1
theorem q0J (x a b : Int) : V6 x a b = some (decide (a ≤ x ∧ x ≤ b)) := by
 unfold V6
 by_cases h : a ≤ x <;> simp [h]
def q5M (k : Int) : Int := if k = 1 then 2 else if k = 2 then 3 else if k = 3 then 4 else 0
theorem z3w (k : Int) : q4q k = some (q5M k) := by
 unfold q4q q5M
 split
 ·rfl
 ·split
  ·rfl
  ·split <;> rfl
theorem z6S (k : Int) : 0 ≤ q5M k ∧ q5M k ≤ 4 := by
 unfold q5M
 split
 ·omega
 ·split
  ·omega
  ·split <;> omega
def sec (n : j3) (i : Int) : j0 := (n.Sections[i.toNat]?).getD ⟨0, 0, 0, 0, 0, 0, false⟩
theorem q2r {n : j3} {i : Int} (h : 0 ≤ i ∧ i < (n.Sections.length : Int)) : idx n.Sections i = some (sec n i) := by
 obtain ⟨x, h1, h2⟩ := q4r h.1 h.2
 rw [h1]
 unfold sec
 rw [h2]
 rfl
def Has (n : j3) (e : v7) : Prop := (0 ≤ e.section_ ∧ e.section_ < (n.Sections.length : Int)) ∧ 0 ≤ e.end_ ∧ e.end_ < q5M (sec n e.section_).Kind
instance (n : j3) (e : v7) : Decidable (Has n e) := by unfold Has; exact inferInstance
theorem z9t {n : j3} (hl : n.Sections.length ≤ 60) (e : v7) : q5F n e = some (decide (Has n e)) := by
 unfold q5F
 rw [Y3 (by omega) (by omega), Ka, q0J, Ka]
 by_cases h : 0 ≤ e.section_ ∧ e.section_ ≤ (n.Sections.length : Int) - 1
 ·have hb := z6S (sec n e.section_).Kind
  rw [decide_eq_true h, if_pos rfl, q2r ⟨h.1, by omega⟩, Ka, z3w, Ka, Y3 (by omega) (by omega), Ka, q0J, Ka, Ka]
  refine congrArg some (decide_eq_decide.2 ?_)
  unfold Has
  omega
 ·rw [decide_eq_false h, if_neg (by decide), Ka]
  congr 1
  symm
  rw [decide_eq_false_iff_not]
  intro hh
  unfold Has at hh
  omega
theorem z8O (k i : Int) : q2f k i = some (if k = 2 ∧ i = 0 then [1, 2] else if k = 2 then [0] else [z5j .i64 i 1]) := by
 unfold q2f
 by_cases h : k = 2
 ·rw [if_pos h, Ka]
  by_cases h2 : i = 0
  ·rw [decide_eq_true h2, if_pos rfl, if_pos ⟨h, h2⟩]
  ·rw [decide_eq_false h2, if_neg (by decide), if_pos h, if_neg (fun h' => h2 h'.2), if_pos h]
 ·rw [if_neg h, Ka, if_neg (by decide), if_neg h, if_neg (fun h' => h h'.1), if_neg h]
theorem z2K : ∀ i : Fin 4, z5j .i64 (i.val : Int) 1 = (if i.val = 0 then 1 else if i.val = 1 then 0 else if i.val = 2 then 3 else 2) := by decide +kernel
def q5o (k : j9) : v7 := ⟨k.A, k.EndA⟩
def q5n (k : j9) : v7 := ⟨k.B, k.EndB⟩
def q1Y : List j9 → v7 → Option v7
 | [], _ => none
 | k :: r, e => if q5o k = e then some (q5n k) else if q5n k = e then some (q5o k) else q1Y r e
theorem z2t (k : j9) (r : List j9) (e : v7) : q1Y (k :: r) e = if q5o k = e then some (q5n k) else if q5n k = e then some (q5o k) else q1Y r e := rfl
def q7w (o : Option v7) : Int × Int × Bool := match o with
 | none => (0, 0, false)
 | some e => (e.section_, e.end_, true)
theorem z5H (n : j3) (e : v7) (k : Nat) (hk : k < n.Links.length) : q1G n e k () = some (if q5o n.Links[k] = e then .inr (q7w (some (q5n n.Links[k]))) else if q5n n.Links[k] = e then .inr (q7w (some (q5o n.Links[k]))) else .inl ()) := by
 have eq : ∀ a b : Int, ((⟨a, b⟩ : v7) = e ↔ a = e.section_ ∧ b = e.end_) := fun a b => by
  cases e
  simp
 unfold q1G
 rw [Q6 hk, Ka]
 unfold q5o q5n
 simp only [eq]
 by_cases h1 : n.Links[k].A = e.section_ ∧ n.Links[k].EndA = e.end_
 ·rw [if_pos h1.1, decide_eq_true h1.2, Ka, if_pos rfl, if_pos h1]
  rfl
 ·have e1 : (if n.Links[k].A = e.section_ then some (decide (n.Links[k].EndA = e.end_)) else some false) = some false := by
   by_cases c : n.Links[k].A = e.section_
   ·rw [if_pos c, decide_eq_false (fun h => h1 ⟨c, h⟩)]
   ·rw [if_neg c]
  rw [e1, Ka, if_neg (by decide), if_neg h1]
  by_cases h2 : n.Links[k].B = e.section_ ∧ n.Links[k].EndB = e.end_
  ·rw [if_pos h2.1, decide_eq_true h2.2, Ka, if_pos rfl, if_pos h2]
   rfl
  ·have e2 : (if n.Links[k].B = e.section_ then some (decide (n.Links[k].EndB = e.end_)) else some false) = some false := by
    by_cases c : n.Links[k].B = e.section_
    ·rw [if_pos c, decide_eq_false (fun h => h2 ⟨c, h⟩)]
    ·rw [if_neg c]
   rw [e2, Ka, if_neg (by decide), if_neg h2]
theorem q9h {e : v7} : ∀ (l : List j9) (k : Nat), (∀ j (h : j < l.length), j < k → q5o l[j] ≠ e ∧ q5n l[j] ≠ e) → q1Y l e = q1Y (l.drop k) e
 | [], k, _ => by simp
 | x :: l, 0, _ => rfl
 | x :: l, k + 1, h => by
  have h0 := h 0 (by simp) (by omega)
  simp only [List.getElem_cons_zero] at h0
  rw [List.drop_succ_cons, ← q9h l k (fun j hj hjk => by
   have := h (j + 1) (by simp; omega) (by omega)
   simpa using this)]
  rw [z2t, if_neg h0.1, if_neg h0.2]
theorem q5j (n : j3) (e : v7) : Y1 n e = some (q7w (q1Y n.Links e)) := by
 unfold Y1
 rcases q1q (body := q1G n e) (fun k _ => ∀ j (h : j < n.Links.length), j < k → q5o n.Links[j] ≠ e ∧ q5n n.Links[j] ≠ e) (fun t => t = q7w (q1Y n.Links e)) n.Links.length 0 () (fun j _ hj => absurd hj (by omega)) (fun k s _ hk hi => by
  have hk' : k < n.Links.length := by omega
  have hd := q9h n.Links k hi
  rw [List.drop_eq_getElem_cons hk'] at hd
  rw [z5H n e k hk']
  by_cases h1 : q5o n.Links[k] = e
  ·rw [if_pos h1]
   refine .inr ⟨_, rfl, ?_⟩
   rw [hd]
   show _ = q7w (if q5o n.Links[k] = e then some (q5n n.Links[k]) else _)
   rw [if_pos h1]
  ·rw [if_neg h1]
   by_cases h2 : q5n n.Links[k] = e
   ·rw [if_pos h2]
    refine .inr ⟨_, rfl, ?_⟩
    rw [hd]
    show _ = q7w (if q5o n.Links[k] = e then some (q5n n.Links[k]) else if q5n n.Links[k] = e then some (q5o n.Links[k]) else _)
    rw [if_neg h1, if_pos h2]
   ·rw [if_neg h2]
    refine .inl ⟨(), rfl, fun j hj hjk => ?_⟩
    by_cases ej : j = k
    ·subst ej; exact ⟨h1, h2⟩
    ·exact hi j hj (by omega)) with ⟨s, h1, h2⟩ | ⟨t, h1, h2⟩
 ·rw [h1]
  have := q9h n.Links n.Links.length (fun j hj hjk => h2 j hj (by omega))
  rw [List.drop_length] at this
  rw [this]
  rfl
 ·rw [h1, h2]
  rfl
def j4n (l : List j9) : Prop := l.Pairwise (fun x y => (q5o x ≠ q5o y ∧ q5o x ≠ q5n y) ∧ q5n x ≠ q5o y ∧ q5n x ≠ q5n y) ∧ ∀ x ∈ l, q5o x ≠ q5n x
theorem q6y {e f : v7} : ∀ {l : List j9}, q1Y l e = some f → ∃ x ∈ l, (q5o x = e ∧ q5n x = f) ∨ (q5n x = e ∧ q5o x = f)
 | [], h => by cases h
 | x :: l, h => by
  rw [z2t] at h
  by_cases h1 : q5o x = e
  ·rw [if_pos h1] at h
   injection h with h
   exact ⟨x, List.mem_cons_self, .inl ⟨h1, h⟩⟩
  ·rw [if_neg h1] at h
   by_cases h2 : q5n x = e
   ·rw [if_pos h2] at h
    injection h with h
    exact ⟨x, List.mem_cons_self, .inr ⟨h2, h⟩⟩
   ·rw [if_neg h2] at h
    obtain ⟨y, hy, h3⟩ := q6y h
    exact ⟨y, List.mem_cons_of_mem _ hy, h3⟩
theorem q8r (x y : Int) : ∃ v, H5 x y = some v := by
 unfold H5 q6x
 rw [Ka, Ka, decide_eq_false (by simp), if_neg (by decide), decide_eq_false (by simp), if_neg (by decide)]
 split
 ·exact ⟨_, rfl⟩
 ·split <;> exact ⟨_, rfl⟩
theorem z6u (l : List Int) : ∃ v, q8f l = some v := by
 unfold q8f
 rcases z5K (body := q6Z l) (fun _ => True) (fun _ => True) l.length (fun k hk => by
  unfold q6Z
  rw [Q6 hk, Ka]
  split
  ·exact .inr ⟨_, rfl, trivial⟩
  ·exact .inl ⟨rfl, trivial⟩) with ⟨h, _⟩ | ⟨v, h, _⟩
 ·rw [h]; exact ⟨_, rfl⟩
 ·rw [h]; exact ⟨_, rfl⟩
structure j1X (s : j0) : Prop where
 kind : q5M s.Kind ≠ 0
 len : 10 ≤ s.Length ∧ s.Length ≤ 3000
 grade : -40 ≤ s.Grade ∧ s.Grade ≤ 40
 speed : 300 ≤ s.Speed ∧ s.Speed ≤ 6000
 cross : s.Kind = 3 → s.Grade = 0
def j6q (s : j0) (m : Int) : Prop := s.Station = 0 ∨ s.Kind = 1 ∧ 0 ≤ s.Station ∧ s.Station ≤ m
theorem z3Z (s : j0) (m : Int) : ∃ c, q0z s m = some c ∧ (c = 0 → j1X s ∧ j6q s m) := by
 unfold q0z
 rw [z3w, Ka]
 by_cases h0 : q5M s.Kind = 0
 ·rw [if_pos h0]
  exact ⟨1, rfl, fun h => absurd h (by decide)⟩
 ·rw [if_neg h0, q0J, Ka]
  have bad : ∀ c : Int, c ≠ 0 → ∃ c', some c = some c' ∧ (c' = 0 → j1X s ∧ j6q s m) := fun c hc => ⟨c, rfl, fun h => absurd h hc⟩
  by_cases h1 : 10 ≤ s.Length ∧ s.Length ≤ 3000
  ·rw [decide_eq_true h1, if_pos rfl, q0J, Ka]
   by_cases h2 : -40 ≤ s.Grade ∧ s.Grade ≤ 40
   ·rw [decide_eq_true h2, if_pos rfl, q0J, Ka]
    by_cases h3 : 300 ≤ s.Speed ∧ s.Speed ≤ 6000
    ·rw [decide_eq_true h3]
     simp only [Bool.not_true, Ka, Bool.false_eq_true, if_false, q0J]
     obtain ⟨b, hb, hbs⟩ : ∃ b, (if s.Kind = 2 then if decide (300 ≤ s.Slow ∧ s.Slow ≤ s.Speed) = true then if s.Kind = 1 then some (!decide (0 ≤ s.Station ∧ s.Station ≤ m)) else some false else some true else if s.Kind = 1 then some (!decide (0 ≤ s.Station ∧ s.Station ≤ m)) else some false) = some b ∧ (b = false → s.Kind = 1 → 0 ≤ s.Station ∧ s.Station ≤ m) := by
      repeat' split
      all_goals first
       | exact ⟨true, rfl, fun h => by cases h⟩
       | exact ⟨_, rfl, fun h _ => by simpa using h⟩
       | exact ⟨false, rfl, fun _ hk => by omega⟩
     rw [hb, Ka]
     by_cases h4 : b = true
     ·rw [if_pos h4]
      exact bad 2 (by decide)
     ·rw [if_neg h4]
      obtain ⟨d, hd, hd2⟩ : ∃ d, (if s.Slow ≠ 0 then if s.Kind = 2 then if s.Station ≠ 0 then if s.Kind = 1 then if s.Grade ≠ 0 then some (decide (s.Kind = 3)) else some false else some true else if s.Grade ≠ 0 then some (decide (s.Kind = 3)) else some false else some true else if s.Station ≠ 0 then if s.Kind = 1 then if s.Grade ≠ 0 then some (decide (s.Kind = 3)) else some false else some true else if s.Grade ≠ 0 then some (decide (s.Kind = 3)) else some false) = some d ∧ (d = false → (s.Kind = 3 → s.Grade = 0) ∧ (s.Station ≠ 0 → s.Kind = 1)) := by
       repeat' split
       all_goals first
        | exact ⟨true, rfl, fun h => by cases h⟩
        | exact ⟨_, rfl, fun h => ⟨fun hk => absurd hk (of_decide_eq_false h), fun hs => by omega⟩⟩
        | exact ⟨false, rfl, fun _ => ⟨fun _ => by omega, fun hs => by omega⟩⟩
        | (exfalso; omega)
      rw [hd, Ka]
      by_cases h5 : d = true
      ·rw [if_pos h5]
       exact bad 1 (by decide)
      ·rw [if_neg h5]
       have hd3 := hd2 (by simpa using h5)
       refine ⟨0, rfl, fun _ => ⟨⟨h0, h1, h2, h3, hd3.1⟩, ?_⟩⟩
       by_cases hz : s.Station = 0
       ·exact .inl hz
       ·exact .inr ⟨hd3.2 hz, hbs (by simpa using h4) (hd3.2 hz)⟩
    ·rw [decide_eq_false h3]
     exact bad 2 (by decide)
   ·rw [decide_eq_false h2, if_neg (by decide), Ka, if_pos rfl]
    exact bad 2 (by decide)
  ·rw [decide_eq_false h1, if_neg (by decide), Ka, if_pos rfl]
   exact bad 2 (by decide)
theorem z6y (l : List (v7 × Bool)) (a e : v7) : q0D (X7 l a true) e false = true ↔ e = a ∨ q0D l e false = true := by
 unfold q0D
 by_cases h : e = a
 ·subst h
  rw [J0]
  simp
 ·rw [Z5 l true h]
  simp [h]
def j7z (L : List j9) (k : Nat) (m : List (v7 × Bool)) : Prop := ∀ e, q0D m e false = true ↔ ∃ j, ∃ h : j < L.length, j < k ∧ (q5o L[j] = e ∨ q5n L[j] = e)
theorem z7L {n : j3} (hl : n.Sections.length ≤ 60) (hk : n.Links.length ≤ 90) : ∃ c, q1J n = some c ∧ (c = 0 → j4n n.Links ∧ ∀ x ∈ n.Links, Has n (q5o x) ∧ Has n (q5n x)) := by
 unfold q1J
 rcases q1q (body := q0u n) (fun k m => j7z n.Links k m ∧ (∀ j (h : j < n.Links.length), j < k → q5o n.Links[j] ≠ q5n n.Links[j] ∧ Has n (q5o n.Links[j]) ∧ Has n (q5n n.Links[j])) ∧ ∀ i j (hi : i < n.Links.length) (hj : j < n.Links.length), i < j → j < k → (q5o n.Links[i] ≠ q5o n.Links[j] ∧ q5o n.Links[i] ≠ q5n n.Links[j]) ∧ q5n n.Links[i] ≠ q5o n.Links[j] ∧ q5n n.Links[i] ≠ q5n n.Links[j]) (fun c : Int => c ≠ 0) n.Links.length 0 []
  ⟨fun e => ⟨fun h => by simp [q0D, J4] at h, fun ⟨j, _, hj, _⟩ => absurd hj (by omega)⟩, fun j _ hj => absurd hj (by omega), fun i j _ _ _ hj => absurd hj (by omega)⟩ (fun k m _ hkk hi => by
  obtain ⟨i1, i2, i3⟩ := hi
  have hk' : k < n.Links.length := by omega
  have bad : ∀ c : Int, c ≠ 0 → (∃ s', (some (Sum.inr c) : Option (List (v7 × Bool) ⊕ Int)) = some (.inl s') ∧ (j7z n.Links (k + 1) s' ∧ (∀ j (h : j < n.Links.length), j < k + 1 → q5o n.Links[j] ≠ q5n n.Links[j] ∧ Has n (q5o n.Links[j]) ∧ Has n (q5n n.Links[j])) ∧ ∀ i j (hi : i < n.Links.length) (hj : j < n.Links.length), i < j → j < k + 1 → (q5o n.Links[i] ≠ q5o n.Links[j] ∧ q5o n.Links[i] ≠ q5n n.Links[j]) ∧ q5n n.Links[i] ≠ q5o n.Links[j] ∧ q5n n.Links[i] ≠ q5n n.Links[j])) ∨ ∃ t, (some (Sum.inr c) : Option (List (v7 × Bool) ⊕ Int)) = some (.inr t) ∧ t ≠ 0 := fun c hc => .inr ⟨c, rfl, hc⟩
  unfold q0u
  rw [Q6 hk', Ka, Ka, z9t hl, Ka, z9t hl, Ka]
  have hh : ∃ b, (if decide (Has n ⟨n.Links[k].A, n.Links[k].EndA⟩) = true then some (!decide (Has n ⟨n.Links[k].B, n.Links[k].EndB⟩)) else some true) = some b ∧ (b = false → Has n (q5o n.Links[k]) ∧ Has n (q5n n.Links[k])) := by
   by_cases c1 : Has n ⟨n.Links[k].A, n.Links[k].EndA⟩
   ·rw [decide_eq_true c1, if_pos rfl]
    refine ⟨_, rfl, fun h => ⟨c1, ?_⟩⟩
    have h : decide (Has n ⟨n.Links[k].B, n.Links[k].EndB⟩) = true := by simpa using h
    exact of_decide_eq_true h
   ·rw [decide_eq_false c1, if_neg (by decide)]
    exact ⟨true, rfl, fun h => by cases h⟩
  obtain ⟨b, hb, hb2⟩ := hh
  rw [hb, Ka]
  by_cases c1 : b = true
  ·rw [if_pos c1]
   exact bad 3 (by decide)
  ·rw [if_neg c1]
   by_cases c2 : n.Links[k].A = n.Links[k].B
   ·rw [if_pos c2]
    exact bad 1 (by decide)
   ·rw [if_neg c2]
    by_cases c3 : n.Links[k].B < n.Links[k].A
    ·rw [if_pos c3]
     exact bad 5 (by decide)
    ·rw [if_neg c3]
     have hord : ∃ d : Bool, (if 0 < (k : Int) then (chk ((k : Int) - 1)).bind fun _ => (idx n.Links ((k : Int) - 1)).bind fun x1159 => ((H5 x1159.A n.Links[k].A).bind fun x1201 => (H5 x1159.EndA n.Links[k].EndA).bind fun x1203 => (q8f [x1201, x1203]).bind fun x1208 => some (decide (0 ≤ x1208))).bind (fun x1190 => if x1190 = true then some (.inr (.inr 5)) else some (.inl ())) else some (.inl ()) : Option (Unit ⊕ (List (v7 × Bool) ⊕ Int))) = some (if d = true then .inr (.inr 5) else .inl ()) := by
      by_cases h0 : 0 < (k : Int)
      ·obtain ⟨q, rfl⟩ : ∃ q, k = q + 1 := ⟨k - 1, by omega⟩
       have hq : q < n.Links.length := by omega
       obtain ⟨v1, e1⟩ := q8r n.Links[q].A n.Links[q + 1].A
       obtain ⟨v2, e2⟩ := q8r n.Links[q].EndA n.Links[q + 1].EndA
       obtain ⟨v3, e3⟩ := z6u [v1, v2]
       rw [if_pos h0, Y3 (by omega) (by omega), Ka, show ((q + 1 : Nat) : Int) - 1 = (q : Int) by omega, Q6 hq, Ka, e1, Ka, e2, Ka, e3, Ka, Ka]
       refine ⟨decide (0 ≤ v3), ?_⟩
       split <;> rfl
      ·rw [if_neg h0]
       exact ⟨false, rfl⟩
     obtain ⟨d, hd⟩ := hord
     rw [hd, Ka]
     by_cases c4 : d = true
     ·rw [if_pos c4]
      exact bad 5 (by decide)
     ·rw [if_neg c4, Sum.elim_inl, Ka]
      have hAB : q5o n.Links[k] ≠ q5n n.Links[k] := fun h => c2 (congrArg v7.section_ h)
      by_cases c5 : q0D m (q5o n.Links[k]) false = true
      ·have : q0D m (⟨n.Links[k].A, n.Links[k].EndA⟩ : v7) false = true := c5
       rw [if_pos this, Ka, if_pos rfl]
       exact bad 6 (by decide)
      ·have h5 : ¬ q0D m (⟨n.Links[k].A, n.Links[k].EndA⟩ : v7) false = true := c5
       rw [if_neg h5, Ka, Ka]
       by_cases c6 : q0D m (q5n n.Links[k]) false = true
       ·have : q0D m (⟨n.Links[k].B, n.Links[k].EndB⟩ : v7) false = true := c6
        rw [if_pos this]
        exact bad 6 (by decide)
       ·have h6 : ¬ q0D m (⟨n.Links[k].B, n.Links[k].EndB⟩ : v7) false = true := c6
        rw [if_neg h6]
        refine .inl ⟨_, rfl, fun e => ?_, fun j hj hjk => ?_, fun i j hi hj hij hjk => ?_⟩
        ·show q0D (X7 (X7 m (q5o n.Links[k]) true) (q5n n.Links[k]) true) e false = true ↔ _
         rw [z6y, z6y, i1 e]
         constructor
         ·rintro (h | h | ⟨j, hj, hjk, h⟩)
          ·exact ⟨k, hk', by omega, .inr h.symm⟩
          ·exact ⟨k, hk', by omega, .inl h.symm⟩
          ·exact ⟨j, hj, by omega, h⟩
         ·rintro ⟨j, hj, hjk, h⟩
          by_cases ej : j = k
          ·subst ej
           rcases h with h | h
           ·exact .inr (.inl h.symm)
           ·exact .inl h.symm
          ·exact .inr (.inr ⟨j, hj, by omega, h⟩)
        ·by_cases ej : j = k
         ·subst ej; exact ⟨hAB, hb2 (by simpa using c1)⟩
         ·exact i2 j hj (by omega)
        ·by_cases ej : j = k
         ·subst ej
          refine ⟨⟨fun h => c5 ((i1 _).2 ⟨i, hi, hij, .inl h⟩), fun h => c6 ((i1 _).2 ⟨i, hi, hij, .inl h⟩)⟩, fun h => c5 ((i1 _).2 ⟨i, hi, hij, .inr h⟩), fun h => c6 ((i1 _).2 ⟨i, hi, hij, .inr h⟩)⟩
         ·exact i3 i j hi hj hij (by omega)) with ⟨m, h1, h2, h3, h4⟩ | ⟨c, h1, h2⟩
 ·rw [h1]
  refine ⟨0, rfl, fun _ => ⟨⟨?_, fun x hx => ?_⟩, fun x hx => ?_⟩⟩
  ·rw [List.pairwise_iff_getElem]
   intro i j hi hj hij
   exact h4 i j hi hj hij (by omega)
  ·obtain ⟨j, hj, rfl⟩ := List.getElem_of_mem hx
   exact (h3 j hj (by omega)).1
  ·obtain ⟨j, hj, rfl⟩ := List.getElem_of_mem hx
   exact (h3 j hj (by omega)).2
 ·rw [h1]
  exact ⟨c, rfl, fun h => absurd h h2⟩
def j6e (n : j3) : Prop := ∀ s ∈ n.Stations, s.size ≤ 9223372036854775807
theorem z7J {s : ByteArray} (h : s.size ≤ 9223372036854775807) : ∃ b, q6v s = some b := by
 unfold q6v
 rw [Y3 (by omega) (by omega), Ka]
 rcases z5K (body := q3Z s) (fun _ => True) (fun _ => True) (q2a s).length (fun k hk => by
  unfold q3Z
  rw [Q6 hk, Ka]
  by_cases c : (q2a s)[k] < 97
  ·rw [if_pos c, Ka, if_pos rfl]
   exact .inr ⟨_, rfl, trivial⟩
  ·rw [if_neg c, Ka]
   split
   ·exact .inr ⟨_, rfl, trivial⟩
   ·exact .inl ⟨rfl, trivial⟩) with ⟨h1, _⟩ | ⟨t, h1, _⟩
 ·rw [h1, Ka, Sum.elim_inl]
  split <;> exact ⟨_, rfl⟩
 ·rw [h1]
  exact ⟨_, rfl⟩
theorem z0W (l : List ByteArray) (x : ByteArray) : ∃ b, q1y l x = some b := by
 unfold q1y q4H
 rcases z5K (body := q2g l x) (fun _ => True) (fun _ => True) l.length (fun k hk => by
  unfold q2g
  rw [Q6 hk, Ka]
  split
  ·exact .inr ⟨_, rfl, trivial⟩
  ·exact .inl ⟨rfl, trivial⟩) with ⟨h1, _⟩ | ⟨t, h1, _⟩
 ·rw [h1]; exact ⟨_, rfl⟩
 ·rw [h1]; exact ⟨_, rfl⟩
theorem z5u (a b c d : Int) : ∃ v : Bool, ((H5 a b).bind fun x => (H5 c d).bind fun y => (q8f [x, y]).bind fun z => some (decide (0 ≤ z))) = some v := by
 obtain ⟨v1, e1⟩ := q8r a b
 obtain ⟨v2, e2⟩ := q8r c d
 obtain ⟨v3, e3⟩ := z6u [v1, v2]
 rw [e1, Ka, e2, Ka, e3, Ka]
 exact ⟨_, rfl⟩
theorem z2X {n : j3} (hl : n.Sections.length ≤ 60) (hg : n.Signals.length ≤ 40) : ∃ c, Y2 n = some c ∧ (c = 0 → ∀ s ∈ n.Signals, Has n ⟨s.Section, s.End⟩) := by
 unfold Y2
 rcases z5K (body := V2 n) (fun k => ∀ h : k < n.Signals.length, Has n ⟨n.Signals[k].Section, n.Signals[k].End⟩) (fun c : Int => c ≠ 0) n.Signals.length (fun k hk => by
  have good : ∀ (t : Option (Unit ⊕ Int)), (∃ v, t = some v ∧ Sum.elim (fun _ => Has n ⟨n.Signals[k].Section, n.Signals[k].End⟩) (fun c : Int => c ≠ 0) v) → (t = some (.inl ()) ∧ ∀ h : k < n.Signals.length, Has n ⟨n.Signals[k].Section, n.Signals[k].End⟩) ∨ ∃ v, t = some (.inr v) ∧ v ≠ 0 := fun t ⟨v, hv, hw⟩ => by
   rcases v with u | v
   ·exact .inl ⟨hv, fun _ => hw⟩
   ·exact .inr ⟨v, hv, hw⟩
  refine good _ ?_
  unfold V2
  rw [Q6 hk, Ka, z9t hl, Ka]
  by_cases h : Has n ⟨n.Signals[k].Section, n.Signals[k].End⟩
  ·rw [decide_eq_true h, if_pos rfl, q5j, Ka]
   unfold q7w
   have hs : idx n.Sections n.Signals[k].Section = some (sec n n.Signals[k].Section) := q2r h.1
   have tail : ∃ v, (if 0 < (k : Int) then (chk ((k : Int) - 1)).bind fun _ => (idx n.Signals ((k : Int) - 1)).bind fun x402 => ((H5 x402.Section n.Signals[k].Section).bind fun x444 => (H5 x402.End n.Signals[k].End).bind fun x446 => (q8f [x444, x446]).bind fun x451 => some (decide (0 ≤ x451))).bind (fun x433 => if x433 = true then some (.inr 5) else some (.inl ())) else some (.inl ()) : Option (Unit ⊕ Int)) = some v ∧ Sum.elim (fun _ => Has n ⟨n.Signals[k].Section, n.Signals[k].End⟩) (fun c : Int => c ≠ 0) v := by
    by_cases h0 : 0 < (k : Int)
    ·obtain ⟨q, rfl⟩ : ∃ q, k = q + 1 := ⟨k - 1, by omega⟩
     obtain ⟨v, hv⟩ := z5u n.Signals[q].Section n.Signals[q + 1].Section n.Signals[q].End n.Signals[q + 1].End
     rw [if_pos h0, Y3 (by omega) (by omega), Ka, show ((q + 1 : Nat) : Int) - 1 = (q : Int) by omega, Q6 (show q < n.Signals.length by omega), Ka, hv, Ka]
     split
     ·exact ⟨_, rfl, show (5 : Int) ≠ 0 by decide⟩
     ·exact ⟨_, rfl, h⟩
    ·rw [if_neg h0]
     exact ⟨_, rfl, h⟩
   cases q1Y n.Links ⟨n.Signals[k].Section, n.Signals[k].End⟩ with
   | none =>
    simp only [q5U, Bool.false_eq_true, if_false, Ka, if_true]
    exact ⟨_, rfl, show (1 : Int) ≠ 0 by decide⟩
   | some f =>
    simp only [q5U, if_true, hs, Ka]
    by_cases hk1 : (sec n n.Signals[k].Section).Kind ≠ 1
    ·rw [decide_eq_true hk1, if_pos rfl]
     exact ⟨_, rfl, show (1 : Int) ≠ 0 by decide⟩
    ·rw [decide_eq_false hk1, if_neg (by decide)]
     exact tail
  ·rw [decide_eq_false h, if_neg (by decide)]
   exact ⟨_, rfl, show (3 : Int) ≠ 0 by decide⟩) with ⟨h1, h2⟩ | ⟨t, h1, h2⟩
 ·rw [h1]
  refine ⟨_, rfl, fun _ s hs => ?_⟩
  obtain ⟨j, hj, rfl⟩ := List.getElem_of_mem hs
  exact h2 j hj hj
 ·rw [h1]; exact ⟨_, rfl, fun h => absurd h h2⟩
theorem z5J {n : j3} (hl : n.Sections.length ≤ 60) (hg : n.Gates.length ≤ 8) : ∃ c, F6 n = some c := by
 unfold F6
 rcases z5K (body := W7 n) (fun _ => True) (fun _ => True) n.Gates.length (fun k hk => by
  have good : ∀ (t : Option (Unit ⊕ Int)), (∃ v, t = some v) → (t = some (.inl ()) ∧ True) ∨ ∃ v, t = some (.inr v) ∧ True := fun t ⟨v, hv⟩ => by
   rcases v with u | v
   ·exact .inl ⟨hv, trivial⟩
   ·exact .inr ⟨v, hv, trivial⟩
  refine good _ ?_
  unfold W7
  rw [Q6 hk, Ka, Y3 (by omega) (by omega), Ka, q0J, Ka]
  by_cases h : 0 ≤ n.Gates[k].Section ∧ n.Gates[k].Section ≤ (n.Sections.length : Int) - 1
  ·rw [decide_eq_true h, if_pos rfl, q2r ⟨h.1, by omega⟩, Ka]
   split
   ·exact ⟨_, rfl⟩
   ·rw [q0J, Ka]
    split
    ·have tail : ∃ v : Bool, (if 0 < (k : Int) then (chk ((k : Int) - 1)).bind fun _ => (idx n.Gates ((k : Int) - 1)).bind fun x361 => some (decide (n.Gates[k].Section ≤ x361.Section)) else some false) = some v := by
      by_cases h0 : 0 < (k : Int)
      ·obtain ⟨q, rfl⟩ : ∃ q, k = q + 1 := ⟨k - 1, by omega⟩
       rw [if_pos h0, Y3 (by omega) (by omega), Ka, show ((q + 1 : Nat) : Int) - 1 = (q : Int) by omega, Q6 (show q < n.Gates.length by omega), Ka]
       exact ⟨_, rfl⟩
      ·rw [if_neg h0]
       exact ⟨_, rfl⟩
     obtain ⟨v, hv⟩ := tail
     rw [hv, Ka]
     split <;> exact ⟨_, rfl⟩
    ·exact ⟨_, rfl⟩
  ·rw [decide_eq_false h, if_neg (by decide)]
   exact ⟨_, rfl⟩) with ⟨h1, _⟩ | ⟨t, h1, _⟩
 ·rw [h1]; exact ⟨_, rfl⟩
 ·rw [h1]; exact ⟨_, rfl⟩
structure q3P (n : j3) : Prop where
 n60 : n.Sections.length ≤ 60
 secs : ∀ s ∈ n.Sections, j1X s
 apart : j4n n.Links
 ends : ∀ x ∈ n.Links, Has n (q5o x) ∧ Has n (q5n x)
 sigs : ∀ s ∈ n.Signals, Has n ⟨s.Section, s.End⟩
 g40 : n.Signals.length ≤ 40
 stat : ∀ s ∈ n.Sections, j6q s (n.Stations.length : Int)
 s12 : n.Stations.length ≤ 12
theorem z7U {n : j3} (hS : j6e n) : ∃ c, J5 n = some c ∧ (c = 0 → q3P n) := by
 have bad : ∀ c : Int, c ≠ 0 → ∃ c', some c = some c' ∧ (c' = 0 → q3P n) := fun c hc => ⟨c, rfl, fun h => absurd h hc⟩
 unfold J5
 by_cases h0 : (n.Sections.length : Int) = 0
 ·rw [if_pos h0]
  exact bad 1 (by decide)
 ·rw [if_neg h0]
  obtain ⟨b, hb, hb2⟩ : ∃ b : Bool, (if 12 < (n.Stations.length : Int) then some true else if 60 < (n.Sections.length : Int) then some true else if 90 < (n.Links.length : Int) then some true else if 40 < (n.Signals.length : Int) then some true else some (decide (8 < (n.Gates.length : Int)))) = some b ∧ (b = false → n.Stations.length ≤ 12 ∧ n.Sections.length ≤ 60 ∧ n.Links.length ≤ 90 ∧ n.Signals.length ≤ 40 ∧ n.Gates.length ≤ 8) := by
   by_cases c1 : 12 < (n.Stations.length : Int)
   ·rw [if_pos c1]; exact ⟨true, rfl, fun h => by cases h⟩
   ·rw [if_neg c1]
    by_cases c2 : 60 < (n.Sections.length : Int)
    ·rw [if_pos c2]; exact ⟨true, rfl, fun h => by cases h⟩
    ·rw [if_neg c2]
     by_cases c3 : 90 < (n.Links.length : Int)
     ·rw [if_pos c3]; exact ⟨true, rfl, fun h => by cases h⟩
     ·rw [if_neg c3]
      by_cases c4 : 40 < (n.Signals.length : Int)
      ·rw [if_pos c4]; exact ⟨true, rfl, fun h => by cases h⟩
      ·rw [if_neg c4]
       refine ⟨_, rfl, fun h => ?_⟩
       have := of_decide_eq_false h
       omega
  rw [hb, Ka]
  by_cases hbt : b = true
  ·rw [if_pos hbt]
   exact bad 4 (by decide)
  ·obtain ⟨l0, l1, l2, l3, l4⟩ := hb2 (by simpa using hbt)
   rw [if_neg hbt]
   rcases z5K (body := q1I n) (fun _ => True) (fun c : Int => c ≠ 0) n.Stations.length (fun k hk => by
    obtain ⟨v, hv⟩ := z7J (hS _ (List.getElem_mem hk))
    obtain ⟨u, hu⟩ := z0W (n.Stations.take k) n.Stations[k]
    have hcut : z8f n.Stations 0 (k : Int) = some (n.Stations.take k) := by
     have := z9I (l := n.Stations) (a := 0) (b := k) (by omega) (by omega)
     simpa using this
    unfold q1I
    rw [Q6 hk, Ka, hv, Ka]
    split
    ·rw [hcut, Ka, hu, Ka]
     split
     ·exact .inr ⟨6, rfl, by decide⟩
     ·exact .inl ⟨rfl, trivial⟩
    ·exact .inr ⟨1, rfl, by decide⟩) with ⟨h1, _⟩ | ⟨t, h1, h2⟩
   ·rw [h1, Ka, Sum.elim_inl]
    rcases z5K (body := q1H n) (fun k => ∀ h : k < n.Sections.length, j1X n.Sections[k] ∧ j6q n.Sections[k] (n.Stations.length : Int)) (fun c : Int => c ≠ 0) n.Sections.length (fun k hk => by
     obtain ⟨c, c1, c2⟩ := z3Z n.Sections[k] (n.Stations.length : Int)
     unfold q1H
     rw [Q6 hk, Ka, c1, Ka]
     by_cases hc : c = 0
     ·rw [if_neg (by simpa using hc)]
      exact .inl ⟨rfl, fun _ => c2 hc⟩
     ·rw [if_pos hc]
      exact .inr ⟨c, rfl, hc⟩) with ⟨g1, g2⟩ | ⟨t, g1, g2⟩
    ·rw [g1, Ka, Sum.elim_inl]
     rcases z5K (body := q0y n) (fun k => (k = 0 → j4n n.Links ∧ ∀ x ∈ n.Links, Has n (q5o x) ∧ Has n (q5n x)) ∧ (k = 1 → ∀ s ∈ n.Signals, Has n ⟨s.Section, s.End⟩)) (fun c : Int => c ≠ 0) 3 (fun k hk => by
      have fin : ∀ (c : Int) (Z : Prop), (c = 0 → Z) → ((if c ≠ 0 then some (.inr c) else some (.inl ()) : Option (Unit ⊕ Int)) = some (.inl ()) ∧ Z) ∨ ∃ t, (if c ≠ 0 then some (.inr c) else some (.inl ()) : Option (Unit ⊕ Int)) = some (.inr t) ∧ t ≠ 0 := fun c Z hz => by
       by_cases hc : c = 0
       ·rw [if_neg (by simpa using hc)]
        exact .inl ⟨rfl, hz hc⟩
       ·rw [if_pos hc]
        exact .inr ⟨c, rfl, hc⟩
      unfold q0y
      by_cases k0 : (k : Int) = 0
      ·obtain ⟨c, c1, c2⟩ := z7L l1 l2
       rw [if_pos k0, c1, Ka]
       exact fin c _ (fun h => ⟨fun _ => c2 h, fun h => by omega⟩)
      ·rw [if_neg k0]
       by_cases k1 : (k : Int) = 1
       ·obtain ⟨c, c1, c2⟩ := z2X l1 l3
        rw [if_pos k1, c1, Ka]
        exact fin c _ (fun h => ⟨fun h => by omega, fun _ => c2 h⟩)
       ·obtain ⟨c, c1⟩ := z5J l1 l4
        rw [if_neg k1, if_pos (by omega), c1, Ka]
        exact fin c _ (fun _ => ⟨fun h => by omega, fun h => by omega⟩)) with ⟨f1, f2⟩ | ⟨t, f1, f2⟩
     ·rw [f1, Ka, Sum.elim_inl]
      refine ⟨0, rfl, fun _ => ⟨l1, fun s hs => ?_, ((f2 0 (by decide)).1 rfl).1, ((f2 0 (by decide)).1 rfl).2, (f2 1 (by decide)).2 rfl, l3, fun s hs => ?_, l0⟩⟩
      ·obtain ⟨j, hj, rfl⟩ := List.getElem_of_mem hs
       exact (g2 j hj hj).1
      ·obtain ⟨j, hj, rfl⟩ := List.getElem_of_mem hs
       exact (g2 j hj hj).2
     ·rw [f1, Ka, Sum.elim_inr]
      exact bad t f2
    ·rw [g1, Ka, Sum.elim_inr]
     exact bad t g2
   ·rw [h1, Ka, Sum.elim_inr]
    exact bad t h2
def q7Y (k i : Int) : List Int := if k = 2 ∧ i = 0 then [1, 2] else if k = 2 then [0] else [z5j .i64 i 1]
theorem j4X {k i : Int} (h : 0 ≤ i ∧ i < q5M k) : k = 1 ∧ (i = 0 ∨ i = 1) ∨ k = 2 ∧ (i = 0 ∨ i = 1 ∨ i = 2) ∨ k = 3 ∧ (i = 0 ∨ i = 1 ∨ i = 2 ∨ i = 3) := by
 unfold q5M at h
 split at h
 ·exact .inl ⟨by assumption, by omega⟩
 ·split at h
  ·exact .inr (.inl ⟨by assumption, by omega⟩)
  ·split at h
   ·exact .inr (.inr ⟨by assumption, by omega⟩)
   ·omega
theorem j3r {k i o : Int} (h : 0 ≤ i ∧ i < q5M k) (ho : o ∈ q7Y k i) : 0 ≤ o ∧ o < q5M k := by
 have x0 := z2K 0
 have x1 := z2K 1
 have x2 := z2K 2
 have x3 := z2K 3
 simp at x0 x1 x2 x3
 rcases j4X h with ⟨rfl, rfl | rfl⟩ | ⟨rfl, rfl | rfl | rfl⟩ | ⟨rfl, rfl | rfl | rfl | rfl⟩ <;> simp [q7Y, x0, x1, x2, x3] at ho <;> first | (subst ho; decide) | (rcases ho with rfl | rfl <;> decide)
def q3H (n : j3) (s : v6) : Prop := Has n ⟨s.Section, s.In⟩ ∧ Has n ⟨s.Section, s.Out⟩ ∧ s.Out ∈ q7Y (sec n s.Section).Kind s.In
structure j6g (n : j3) (l : List v6) : Prop where
 step : ∀ s ∈ l, q3H n s
 join : ∀ k (h : k + 1 < l.length), q1Y n.Links ⟨l[k].Section, l[k].Out⟩ = some ⟨l[k + 1].Section, l[k + 1].In⟩
 nd : l.Pairwise (fun a b => a.Section ≠ b.Section)
theorem z0k {n : j3} (hN : q3P n) (e : v7) : ∃ ws, q0P n e = some ws ∧ ws.length ≤ 2 ∧ ∀ s ∈ ws, q1Y n.Links e = some ⟨s.Section, s.In⟩ ∧ q3H n s := by
 unfold q0P
 rw [q5j]
 cases hj : q1Y n.Links e with
 | none => exact ⟨[], rfl, by simp, fun s hs => by cases hs⟩
 | some f =>
  obtain ⟨x, hx, h⟩ := q6y hj
  have hf : Has n f := by
   rcases h with ⟨_, h⟩ | ⟨_, h⟩
   ·rw [← h]; exact (hN.ends x hx).2
   ·rw [← h]; exact (hN.ends x hx).1
  have e1 : (some (q7w (some f))).bind (q5U fun x y q => if q = true then (idx n.Sections x).bind fun p => (q2f p.Kind y).bind fun o => some (o.map fun k => (⟨x, y, k⟩ : v6)) else some []) = (idx n.Sections f.section_).bind fun p => (q2f p.Kind f.end_).bind fun o => some (o.map fun k => (⟨f.section_, f.end_, k⟩ : v6)) := rfl
  rw [e1, q2r hf.1, Ka, z8O, Ka]
  show ∃ ws, some ((q7Y (sec n f.section_).Kind f.end_).map _) = some ws ∧ _
  refine ⟨_, rfl, ?_, fun s hs => ?_⟩
  ·rw [List.length_map]
   unfold q7Y
   split
   ·simp
   ·split <;> simp
  ·obtain ⟨k, hk, rfl⟩ := List.mem_map.1 hs
   exact ⟨rfl, hf, ⟨hf.1, j3r hf.2 hk⟩, hk⟩
noncomputable def sg (n : j3) (e : v7) : Int := (F1 n e).getD (-1)
theorem q5z (n : j3) (e : v7) : F1 n e = some (sg n e) ∧ (sg n e = -1 ∨ ∃ k, ∃ h : k < n.Signals.length, sg n e = (k : Int) ∧ n.Signals[k] = ⟨e.section_, e.end_⟩) := by
 have key : ∃ v, F1 n e = some v ∧ (v = -1 ∨ ∃ k, ∃ h : k < n.Signals.length, v = (k : Int) ∧ n.Signals[k] = ⟨e.section_, e.end_⟩) := by
  unfold F1 q3l
  rcases z5K (body := q1c n.Signals ⟨e.section_, e.end_⟩) (fun _ => True) (fun v : Int => ∃ k, ∃ h : k < n.Signals.length, v = (k : Int) ∧ n.Signals[k] = ⟨e.section_, e.end_⟩) n.Signals.length (fun k hk => by
   unfold q1c
   rw [Q6 hk, Ka]
   by_cases c : e.section_ = n.Signals[k].Section ∧ e.end_ = n.Signals[k].End
   ·rw [if_pos c]
    refine .inr ⟨_, rfl, k, hk, rfl, ?_⟩
    rw [c.1, c.2]
   ·rw [if_neg c]
    exact .inl ⟨rfl, trivial⟩) with ⟨h1, _⟩ | ⟨v, h1, h2⟩
  ·rw [h1]
   exact ⟨-1, rfl, .inl rfl⟩
  ·rw [h1]
   exact ⟨v, rfl, .inr h2⟩
 obtain ⟨v, h1, h2⟩ := key
 unfold sg
 rw [h1]
 exact ⟨rfl, h2⟩
theorem q1r (l : List v6) (x : Int) : W6 l x = some (decide (∃ s ∈ l, s.Section = x)) := by
 unfold W6 q0F q2h
 rcases z5K (body := q0s l x) (fun k => ∀ h : k < l.length, l[k].Section ≠ x) (fun v => 0 ≤ v ∧ ∃ s ∈ l, s.Section = x) l.length (fun k hk => by
  unfold q0s q3Y
  rw [Q6 hk, Ka, Ka]
  by_cases c : l[k].Section = x
  ·rw [if_pos (decide_eq_true c)]
   exact .inr ⟨_, rfl, by omega, _, List.getElem_mem hk, c⟩
  ·rw [if_neg (by simpa using c)]
   exact .inl ⟨rfl, fun _ => c⟩) with ⟨h1, h2⟩ | ⟨v, h1, h2, h3⟩
 ·rw [h1]
  show some (decide ((0 : Int) ≤ -1)) = _
  rw [decide_eq_false (by decide), decide_eq_false (fun ⟨s, hs, e⟩ => by
   obtain ⟨j, hj, rfl⟩ := List.getElem_of_mem hs
   exact h2 j hj hj e)]
 ·rw [h1]
  show some (decide (0 ≤ v)) = _
  rw [decide_eq_true h2, decide_eq_true h3]
theorem j1L {l : List v6} (h : l.length ≤ 60) : q3B l = some l := by
 unfold q3B
 rw [q1u (by omega) (by omega)]
 rfl
def q7H (s : v6) : v7 := ⟨s.Section, s.Out⟩
noncomputable def z0E (n : j3) (f : Int) : v7 := ⟨((n.Signals[f.toNat]?).getD ⟨0, 0⟩).Section, ((n.Signals[f.toNat]?).getD ⟨0, 0⟩).End⟩
theorem z0M {n : j3} {i : Int} (h : 0 ≤ i ∧ i < (n.Signals.length : Int)) : idx n.Signals i = some ⟨(z0E n i).section_, (z0E n i).end_⟩ := by
 obtain ⟨x, h1, h2⟩ := q4r h.1 h.2
 rw [h1]
 unfold z0E
 rw [h2]
 rfl
structure z3L (n : j3) (f : Int) (w : List v6) : Prop where
 path : j6g n w
 home : ∀ s ∈ w, s.Section ≠ (z0E n f).section_
 head : ∀ s, w.head? = some s → q1Y n.Links (z0E n f) = some ⟨s.Section, s.In⟩
 many : w.length ≤ 16
noncomputable def atE (n : j3) (f : Int) (w : List v6) : v7 := (w.getLast?.map q7H).getD (z0E n f)
structure q2s (n : j3) (r : z7) : Prop where
 from_ : 0 ≤ r.From ∧ r.From < (n.Signals.length : Int)
 way : z3L n r.From r.Steps
 last : ∃ w s, r.Steps = w ++ [s] ∧ (∀ t ∈ w, sg n (q7H t) < 0) ∧ r.To = sg n (q7H s) ∧ (r.To < 0 → q1Y n.Links (q7H s) = none)
theorem j2U (n : j3) (f : Int) : z3L n f [] :=
 ⟨⟨fun s hs => (List.not_mem_nil hs).elim, fun k h => absurd h (by simp), .nil⟩, fun s hs => (List.not_mem_nil hs).elim, fun s hs => (by simp at hs), by simp⟩
theorem j0H {n : j3} {f : Int} {w : List v6} {s : v6} (h : z3L n f w) (hl : w.length < 16) (hs : q3H n s) (hj : q1Y n.Links (atE n f w) = some ⟨s.Section, s.In⟩)
  (hn : ¬ ∃ t ∈ w, t.Section = s.Section) (hh : s.Section ≠ (z0E n f).section_) : z3L n f (w ++ [s]) := by
 refine ⟨⟨fun t ht => ?_, fun k hk => ?_, ?_⟩, fun t ht => ?_, fun t ht => ?_, by simp; omega⟩
 ·rcases List.mem_append.1 ht with ht | ht
  ·exact h.path.step t ht
  ·rw [List.mem_singleton.1 ht]; exact hs
 ·rw [List.length_append, List.length_singleton] at hk
  by_cases c : k + 1 < w.length
  ·rw [List.getElem_append_left (by omega), List.getElem_append_left c]
   exact h.path.join k c
  ·have e : k + 1 = w.length := by omega
   have hne : w ≠ [] := fun h0 => by rw [h0] at e; simp at e
   rw [List.getElem_append_left (by omega), List.getElem_append_right (by omega)]
   have hg : w.getLast? = some (w[k]'(by omega)) := by
    rw [List.getLast?_eq_getElem?, show w.length - 1 = k by omega]
    exact Kf (by omega)
   unfold atE at hj
   rw [hg] at hj
   have hj : q1Y n.Links (q7H (w[k]'(by omega))) = some ⟨s.Section, s.In⟩ := hj
   simpa [q7H] using hj
 ·rw [List.pairwise_append]
  refine ⟨h.path.nd, .cons (fun _ h => by cases h) .nil, fun a ha b hb => ?_⟩
  rw [List.mem_singleton.1 hb]
  exact fun e => hn ⟨a, ha, e⟩
 ·rcases List.mem_append.1 ht with ht | ht
  ·exact h.home t ht
  ·rw [List.mem_singleton.1 ht]; exact hh
 ·cases w with
  | nil =>
   have : s = t := by simpa using ht
   subst this
   exact hj
  | cons a w => exact h.head t (by simpa using ht)
theorem j4j {n : j3} {f : Int} {w : List v6} {s : v6} : atE n f (w ++ [s]) = q7H s := by
 unfold atE
 rw [List.getLast?_concat]
 rfl
theorem z6H {α σ τ : Type} {body : α → σ → Option (σ ⊕ τ)} {D : Prop} (I : σ → Prop) (Q : τ → Prop) : ∀ (xs : List α) (s : σ), I s → (∀ x ∈ xs, ∀ s, I s → (body x s = none ∧ D) ∨ (∃ s', body x s = some (.inl s') ∧ I s') ∨ ∃ t, body x s = some (.inr t) ∧ Q t) →
  (q4L body xs s = none ∧ D) ∨ (∃ s', q4L body xs s = some (.inl s') ∧ I s') ∨ ∃ t, q4L body xs s = some (.inr t) ∧ Q t
 | [], s, h0, _ => .inr (.inl ⟨s, rfl, h0⟩)
 | x :: xs, s, h0, h => by
  unfold q4L
  rcases h x (List.mem_cons_self ..) s h0 with ⟨h1, hd⟩ | ⟨s', h1, h2⟩ | ⟨t, h1, h2⟩
  ·rw [h1]; exact .inl ⟨rfl, hd⟩
  ·rw [h1]; exact z6H I Q xs s' h2 (fun y hy => h y (List.mem_cons_of_mem _ hy))
  ·rw [h1]; exact .inr (.inr ⟨t, rfl, h2⟩)
structure z7n (n : j3) (f : Int) (p : Int) (lg : Bool) (rs : List z7) : Prop where
 p0 : (rs.length : Int) ≤ p
 p1 : p ≤ 81
 p2 : lg = false → p ≤ 80
 ok : ∀ r ∈ rs, q2s n r
 fr : ∀ r ∈ rs, r.From ≤ f
 so : rs.Pairwise (fun a b => a.From ≤ b.From)
def z2c (n : j3) (f : Int) : Int × Bool × List z7 → Prop := q5U fun p lg rs => z7n n f p lg rs
theorem z2v {n : j3} {f p : Int} {rs : List z7} (h : z7n n f p false rs) (a : List ByteArray) (b : List j0) (c : List j9) (d : List j5) (e : List Q2) (rs' : List z7) :
  P9 a b c d e p false rs' = some (p + 1, decide (80 < p + 1)) := by
 have h0 := h.p0
 have h2 := h.p2 rfl
 unfold P9
 rw [Y3 (by omega) (by omega), Ka, if_neg (by decide)]
theorem z9u {n : j3} {f p : Int} {rs : List z7} (h : z7n n f p false rs) : z7n n f (p + 1) (decide (80 < p + 1)) rs := by
 have h0 := h.p0
 have h2 := h.p2 rfl
 exact ⟨by omega, by omega, fun e => by have := of_decide_eq_false e; omega, h.ok, h.fr, h.so⟩
theorem j1s {n : j3} {f p : Int} {rs : List z7} (h : z7n n f p false rs) {r : z7} (hr : q2s n r) (hf : r.From = f) : z7n n f (p + 1) (decide (80 < p + 1)) (rs ++ [r]) := by
 have h0 := h.p0
 have h2 := h.p2 rfl
 refine ⟨by simp; omega, by omega, fun e => by have := of_decide_eq_false e; omega, fun x hx => ?_, fun x hx => ?_, ?_⟩
 ·rcases List.mem_append.1 hx with hx | hx
  ·exact h.ok x hx
  ·rw [List.mem_singleton.1 hx]; exact hr
 ·rcases List.mem_append.1 hx with hx | hx
  ·exact h.fr x hx
  ·rw [List.mem_singleton.1 hx]; omega
 ·rw [List.pairwise_append]
  refine ⟨h.so, .cons (fun _ h => (List.not_mem_nil h).elim) .nil, fun a ha b hb => ?_⟩
  rw [List.mem_singleton.1 hb, hf]
  exact h.fr a ha
theorem j0l {n : j3} (hN : q3P n) {f : Int} (hf : 0 ≤ f ∧ f < (n.Signals.length : Int)) {w : List v6} (hw : z3L n f w) (hm : ∀ t ∈ w, sg n (q7H t) < 0) {D : Prop}
  {rc : Int → List v6 → v7 → List ByteArray → List j0 → List j9 → List j5 → List Q2 → Int → Bool → List z7 → Option (Int × Bool × List z7)}
  (hrc : ∀ (v : List v6) (p : Int) (lg : Bool) (rs : List z7), v.length = w.length + 1 → z3L n f v → (∀ t ∈ v, sg n (q7H t) < 0) → z7n n f p lg rs →
   (rc f v (atE n f v) n.Stations n.Sections n.Links n.Signals n.Gates p lg rs = none ∧ D) ∨ ∃ r, rc f v (atE n f v) n.Stations n.Sections n.Links n.Signals n.Gates p lg rs = some r ∧ z2c n f r)
  {s : v6} (hj : q1Y n.Links (atE n f w) = some ⟨s.Section, s.In⟩) (hs : q3H n s) {S : Int × Bool × List z7} (hS : z2c n f S) :
  (J2 f w n.Stations n.Sections n.Links n.Signals n.Gates (z0E n f).section_ rc s S = none ∧ D) ∨
  (∃ S', J2 f w n.Stations n.Sections n.Links n.Signals n.Gates (z0E n f).section_ rc s S = some (.inl S') ∧ z2c n f S') ∨
  ∃ S', J2 f w n.Stations n.Sections n.Links n.Signals n.Gates (z0E n f).section_ rc s S = some (.inr S') ∧ z2c n f S' := by
 obtain ⟨p, lg, rs⟩ := S
 have hS : z7n n f p lg rs := hS
 have hmany := hw.many
 unfold J2
 show (q5U _ (p, lg, rs) = none ∧ D) ∨ _
 simp only [q5U]
 cases lg with
 | true =>
  rw [if_pos rfl]
  exact .inr (.inr ⟨_, rfl, hS⟩)
 | false =>
  rw [if_neg (by decide)]
  have hst : (if s.Section = (z0E n f).section_ then some true else (W6 w s.Section).bind fun x => some x) = some (decide (s.Section = (z0E n f).section_ ∨ ∃ t ∈ w, t.Section = s.Section)) := by
   rw [q1r, Ka]
   by_cases c : s.Section = (z0E n f).section_
   ·rw [if_pos c, decide_eq_true (Or.inl c)]
   ·rw [if_neg c]
    congr 1
    exact decide_eq_decide.2 ⟨.inr, fun h => h.resolve_left c⟩
  rw [hst, Ka]
  by_cases c1 : s.Section = (z0E n f).section_ ∨ ∃ t ∈ w, t.Section = s.Section
  ·rw [decide_eq_true c1, if_pos rfl, z2v hS, Ka]
   exact .inr (.inr ⟨_, rfl, z9u hS⟩)
  ·rw [decide_eq_false c1, if_neg (by decide), j1L (by omega), Ka, q1u (by omega) (by omega), Ka, Ka]
   by_cases c2 : 16 < ((w ++ [s]).length : Int)
   ·rw [if_pos c2]
    exact .inr (.inr ⟨_, rfl, hS.p0, hS.p1, fun h => Bool.noConfusion h, hS.ok, hS.fr, hS.so⟩)
   ·have hl : w.length < 16 := by simp at c2; omega
    have hv : z3L n f (w ++ [s]) := j0H hw hl hs hj (fun h => c1 (.inr h)) (fun h => c1 (.inl h))
    rw [if_neg c2]
    have e1 : F1 (⟨n.Stations, n.Sections, n.Links, n.Signals, n.Gates⟩ : j3) ⟨s.Section, s.Out⟩ = some (sg n (q7H s)) := (q5z n (q7H s)).1
    have e2 : Y1 (⟨n.Stations, n.Sections, n.Links, n.Signals, n.Gates⟩ : j3) ⟨s.Section, s.Out⟩ = some (q7w (q1Y n.Links (q7H s))) := q5j n (q7H s)
    have e3 : (some (q7w (q1Y n.Links (q7H s)))).bind (q5U fun _ _ x => some x) = some ((q1Y n.Links (q7H s)).isSome) := by
     cases q1Y n.Links (q7H s) <;> rfl
    rw [e1, Ka, e2, e3, Ka]
    have e4 : (if (q1Y n.Links (q7H s)).isSome = true then some (decide (sg n (q7H s) < 0)) else some false) = some (decide ((q1Y n.Links (q7H s)).isSome = true ∧ sg n (q7H s) < 0)) := by
     by_cases c : (q1Y n.Links (q7H s)).isSome = true
     ·rw [if_pos c]
      congr 1
      exact decide_eq_decide.2 ⟨fun h => ⟨c, h⟩, fun h => h.2⟩
     ·rw [if_neg c, decide_eq_false (fun h => c h.1)]
    rw [e4, Ka]
    by_cases c3 : (q1Y n.Links (q7H s)).isSome = true ∧ sg n (q7H s) < 0
    ·rw [decide_eq_true c3, if_pos rfl]
     have := hrc (w ++ [s]) p false rs (by simp) hv (fun t ht => by
      rcases List.mem_append.1 ht with ht | ht
      ·exact hm t ht
      ·rw [List.mem_singleton.1 ht]; exact c3.2) hS
     rw [j4j] at this
     have eo : (⟨s.Section, s.Out⟩ : v7) = q7H s := rfl
     rw [eo]
     rcases this with ⟨h1, hd⟩ | ⟨⟨p', lg', rs'⟩, h1, h2⟩
     ·rw [h1]
      exact .inl ⟨rfl, hd⟩
     ·rw [h1]
      exact .inr (.inl ⟨_, rfl, h2⟩)
    ·rw [decide_eq_false c3, if_neg (by decide)]
     have h0 := hS.p0
     have h1 := hS.p1
     rw [q1u (by omega) (by omega), Ka, Ka, z2v hS, Ka]
     refine .inr (.inl ⟨_, rfl, j1s hS ⟨hf, hv, w, s, rfl, hm, rfl, fun h => ?_⟩ rfl⟩)
     have h : sg n (q7H s) < 0 := h
     cases hjo : q1Y n.Links (q7H s) with
     | none => rfl
     | some g => exact absurd ⟨by rw [hjo]; rfl, h⟩ c3
theorem z0P {n : j3} (hN : q3P n) {f : Int} (hf : 0 ≤ f ∧ f < (n.Signals.length : Int)) : ∀ (N : Nat) (w : List v6) (p : Int) (lg : Bool) (rs : List z7), z3L n f w → (∀ t ∈ w, sg n (q7H t) < 0) → z7n n f p lg rs →
  (J7 N f w (atE n f w) n.Stations n.Sections n.Links n.Signals n.Gates p lg rs = none ∧ N + w.length ≤ 16) ∨ ∃ r, J7 N f w (atE n f w) n.Stations n.Sections n.Links n.Signals n.Gates p lg rs = some r ∧ z2c n f r
 | 0, w, p, lg, rs, hw, _, _ => .inl ⟨rfl, by have := hw.many; omega⟩
 | N + 1, w, p, lg, rs, hw, hm, hg => by
  show ((((idx n.Signals f).bind fun x1399 => some x1399.Section).bind (fun x1386 => (q0P (⟨n.Stations, n.Sections, n.Links, n.Signals, n.Gates⟩ : j3) (atE n f w)).bind fun l1416 => (q4L (J2 f w n.Stations n.Sections n.Links n.Signals n.Gates x1386 (J7 N)) l1416 (p, lg, rs)).bind fun t => Sum.elim (q5U fun x1817 x1818 l1819 => some (x1817, x1818, l1819)) (fun q => some q) t)) = none ∧ _) ∨ ∃ r, ((idx n.Signals f).bind fun x1399 => some x1399.Section).bind (fun x1386 => (q0P (⟨n.Stations, n.Sections, n.Links, n.Signals, n.Gates⟩ : j3) (atE n f w)).bind fun l1416 => (q4L (J2 f w n.Stations n.Sections n.Links n.Signals n.Gates x1386 (J7 N)) l1416 (p, lg, rs)).bind fun t => Sum.elim (q5U fun x1817 x1818 l1819 => some (x1817, x1818, l1819)) (fun q => some q) t) = some r ∧ _
  obtain ⟨ws, h1, _, h2⟩ := z0k hN (atE n f w)
  have h1 : q0P (⟨n.Stations, n.Sections, n.Links, n.Signals, n.Gates⟩ : j3) (atE n f w) = some ws := h1
  rw [z0M hf, Ka, Ka, h1, Ka]
  rcases z6H (body := J2 f w n.Stations n.Sections n.Links n.Signals n.Gates (z0E n f).section_ (J7 N)) (D := N + (w.length + 1) ≤ 16) (z2c n f) (z2c n f) ws (p, lg, rs) hg (fun s hs S hS => by
   refine j0l hN hf hw hm (fun v p' lg' rs' hl hv hmv hg' => ?_) (h2 s hs).1 (h2 s hs).2 hS
   have := z0P hN hf N v p' lg' rs' hv hmv hg'
   rw [hl] at this
   exact this) with ⟨h3, hd⟩ | ⟨⟨p', lg', rs'⟩, h3, h4⟩ | ⟨⟨p', lg', rs'⟩, h3, h4⟩
  ·exact .inl ⟨by rw [h3]; rfl, by omega⟩
  ·exact .inr ⟨_, by rw [h3]; rfl, h4⟩
  ·exact .inr ⟨_, by rw [h3]; rfl, h4⟩
theorem j1n {n : j3} (hN : q3P n) {f : Int} (hf : 0 ≤ f ∧ f < (n.Signals.length : Int)) (w : List v6) (p : Int) (lg : Bool) (rs : List z7) (hw : z3L n f w) (hm : ∀ t ∈ w, sg n (q7H t) < 0) (hg : z7n n f p lg rs) :
  ∃ r, lim (fun N => J7 N f w (atE n f w) n.Stations n.Sections n.Links n.Signals n.Gates p lg rs) = some r ∧ z2c n f r := by
 refine z2r ?_ (fun N t ht => ?_)
 ·rcases z0P hN hf 17 w p lg rs hw hm hg with ⟨_, h⟩ | ⟨r, h, _⟩
  ·omega
  ·exact ⟨17, r, h⟩
 ·rcases z0P hN hf N w p lg rs hw hm hg with ⟨h, _⟩ | ⟨r, h, h2⟩
  ·rw [h] at ht; cases ht
  ·rw [h] at ht
   rw [← Kd ht]
   exact h2
theorem z7Q {n : j3} (hN : q3P n) {f : Int} (hf : 0 ≤ f ∧ f < (n.Signals.length : Int)) (p : Int) (lg : Bool) (rs : List z7) (hg : z7n n f p lg rs) :
  ∃ r, lim (fun N => J7 N f [] (z0E n f) n.Stations n.Sections n.Links n.Signals n.Gates p lg rs) = some r ∧ z2c n f r :=
 j1n hN hf [] p lg rs (j2U n f) (fun t ht => (List.not_mem_nil ht).elim) hg
theorem z9v {n : j3} {f g p : Int} {lg : Bool} {rs : List z7} (h : z7n n f p lg rs) (hg : f ≤ g) : z7n n g p lg rs :=
 ⟨h.p0, h.p1, h.p2, h.ok, fun r hr => Int.le_trans (h.fr r hr) hg, h.so⟩
theorem z5r {n : j3} (hN : q3P n) : ∃ c rs, q2L n = some (c, rs) ∧ (c = 0 ∨ c = 4 ∧ rs = []) ∧ (∀ r ∈ rs, q2s n r) ∧ rs.Pairwise (fun a b => a.From ≤ b.From) ∧ rs.length ≤ 81 := by
 unfold q2L
 obtain ⟨⟨p, lg, rs⟩, h1, h2⟩ := H6 (body := q1l n) (fun k => z2c n (k : Int)) n.Signals.length 0 (0, false, []) ⟨by simp, by decide, fun _ => by decide, fun r hr => (List.not_mem_nil hr).elim, fun r hr => (List.not_mem_nil hr).elim, .nil⟩ (fun k S _ hk hS => by
  obtain ⟨p, lg, rs⟩ := S
  have hk : k < n.Signals.length := by omega
  obtain ⟨⟨p', lg', rs'⟩, h1, h2⟩ := z7Q hN (f := (k : Int)) ⟨by omega, by omega⟩ p lg rs hS
  refine ⟨(p', lg', rs'), ?_, z9v h2 (by omega)⟩
  unfold q1l
  simp only [q5U]
  rw [z0M ⟨by omega, by omega⟩, Ka]
  have h1 : lim (fun N => J7 N (k : Int) [] ⟨(z0E n (k : Int)).section_, (z0E n (k : Int)).end_⟩ n.Stations n.Sections n.Links n.Signals n.Gates p lg rs) = some (p', lg', rs') := h1
  rw [h1, Ka]
  rfl)
 have h2 : z7n n _ p lg rs := h2
 rw [h1, Ka]
 simp only [q5U]
 cases lg with
 | true =>
  rw [if_pos rfl]
  exact ⟨4, [], rfl, .inr ⟨rfl, rfl⟩, fun r hr => (List.not_mem_nil hr).elim, .nil, by simp⟩
 | false =>
  rw [if_neg (by decide)]
  have h3 := h2.p0
  have h4 := h2.p1
  exact ⟨0, rs, rfl, .inl rfl, h2.ok, h2.so, by omega⟩
theorem q7q {α : Type} {l : List α} {body : Nat → Unit → Option (Unit ⊕ Int)} (P : α → Prop) [DecidablePred P] [Decidable (∃ x ∈ l, P x)] (h : ∀ k (hk : k < l.length), body k () = some (if P l[k] then .inr (k : Int) else .inl ())) :
  ((forM body l.length 0 ()).bind fun t => Sum.elim (fun _ => some (-1)) (fun q => some q) t).bind (fun x => some (decide (0 ≤ x))) = some (decide (∃ x ∈ l, P x)) := by
 rcases z5K (body := body) (fun k => ∀ h : k < l.length, ¬ P l[k]) (fun v => 0 ≤ v ∧ ∃ x ∈ l, P x) l.length (fun k hk => by
  rw [h k hk]
  by_cases c : P l[k]
  ·rw [if_pos c]
   exact .inr ⟨_, rfl, by omega, _, List.getElem_mem hk, c⟩
  ·rw [if_neg c]
   exact .inl ⟨rfl, fun _ => c⟩) with ⟨h1, h2⟩ | ⟨v, h1, h2, h3⟩
 ·rw [h1]
  show some (decide ((0 : Int) ≤ -1)) = _
  rw [decide_eq_false (by decide), decide_eq_false (fun ⟨s, hs, e⟩ => by
   obtain ⟨j, hj, rfl⟩ := List.getElem_of_mem hs
   exact h2 j hj hj e)]
 ·rw [h1]
  show some (decide (0 ≤ v)) = _
  rw [decide_eq_true h2, decide_eq_true h3]
theorem z8L {α β γ δ τ : Type} {A : α → β → γ → δ → Option τ} {x : α} {y : β} {z : γ} {w : δ} : (some (x, y, z, w)).bind (z5b A) = A x y z w := rfl
def j0C (x : q8) : Prop := x.Kind = 1 ∨ x.Kind = 2
def Fl (x y : q8) : Prop := x.Kind = 3 ∧ (y.Kind = 3 ∨ j0C y) ∧ x.Position ≠ y.Position
def Gd (x y : q8) : Prop := x.Kind = 4 ∧ y.Kind = 5
def q6c (a b : q8) : Prop := a.Place = b.Place ∧ (j0C a ∧ j0C b ∨ Fl a b ∨ Fl b a ∨ Gd a b ∨ Gd b a)
theorem z6B {a b : q8} (h : q6c a b) : q6c b a := by
 refine ⟨h.1.symm, ?_⟩
 rcases h.2 with ⟨x, y⟩ | h | h | h | h
 ·exact .inl ⟨y, x⟩
 ·exact .inr (.inr (.inl h))
 ·exact .inr (.inl h)
 ·exact .inr (.inr (.inr (.inr h)))
 ·exact .inr (.inr (.inr (.inl h)))
noncomputable instance (x : q8) : Decidable (j0C x) := Classical.propDecidable _
noncomputable instance (x y : q8) : Decidable (Fl x y) := Classical.propDecidable _
noncomputable instance (x y : q8) : Decidable (Gd x y) := Classical.propDecidable _
noncomputable instance (x y : q8) : Decidable (q6c x y) := Classical.propDecidable _
theorem z5Z (x : q8) : q1F x = some (decide (j0C x)) := by
 unfold q1F
 by_cases h : x.Kind = 1
 ·rw [if_pos h, Ka, decide_eq_true (show j0C x from .inl h)]
 ·rw [if_neg h, Ka]
  congr 1
  exact decide_eq_decide.2 ⟨fun k => (.inr k : j0C x), fun k => Or.resolve_left k h⟩
theorem j5h (x y : q8) : G5 x y = some (decide (Fl x y)) := by
 unfold G5
 by_cases h : x.Kind = 3
 ·rw [if_pos h]
  by_cases h2 : y.Kind = 3
  ·rw [if_pos h2, Ka]
   congr 1
   exact decide_eq_decide.2 ⟨fun k => (⟨h, .inl h2, k⟩ : Fl x y), fun k => k.2.2⟩
  ·rw [if_neg h2, z5Z, Ka]
   by_cases h3 : j0C y
   ·rw [decide_eq_true h3, if_pos rfl, Ka]
    congr 1
    exact decide_eq_decide.2 ⟨fun k => (⟨h, .inr h3, k⟩ : Fl x y), fun k => k.2.2⟩
   ·rw [decide_eq_false h3, if_neg (by decide), Ka, decide_eq_false (fun k : Fl x y => k.2.1.elim h2 h3)]
 ·rw [if_neg h, Ka, decide_eq_false (fun k : Fl x y => h k.1)]
theorem j5f (x y : q8) : G4 x y = some (decide (Gd x y)) := by
 unfold G4
 by_cases h : x.Kind = 4
 ·rw [if_pos h, Ka]
  congr 1
  exact decide_eq_decide.2 ⟨fun k => (⟨h, k⟩ : Gd x y), fun k => k.2⟩
 ·rw [if_neg h, Ka, decide_eq_false (fun k : Gd x y => h k.1)]
theorem z6A (a b : q8) : q2x a b = some (decide (q6c a b)) := by
 have tail : ((G5 a b).bind fun x149 => if x149 = true then some true else (G5 b a).bind fun x154 => if x154 = true then some true else (G4 a b).bind fun x159 => if x159 = true then some true else (G4 b a).bind fun x162 => some x162) = some (decide (Fl a b ∨ Fl b a ∨ Gd a b ∨ Gd b a)) := by
  rw [j5h, Ka]
  by_cases h1 : Fl a b
  ·rw [decide_eq_true h1, if_pos rfl, decide_eq_true (Or.inl h1)]
  ·rw [decide_eq_false h1, if_neg (by decide), j5h, Ka]
   by_cases h2 : Fl b a
   ·rw [decide_eq_true h2, if_pos rfl, decide_eq_true (Or.inr (Or.inl h2))]
   ·rw [decide_eq_false h2, if_neg (by decide), j5f, Ka]
    by_cases h3 : Gd a b
    ·rw [decide_eq_true h3, if_pos rfl, decide_eq_true (Or.inr (Or.inr (Or.inl h3)))]
    ·rw [decide_eq_false h3, if_neg (by decide), j5f, Ka]
     congr 1
     exact decide_eq_decide.2 ⟨fun k => .inr (.inr (.inr k)), fun k => ((k.resolve_left h1).resolve_left h2).resolve_left h3⟩
 unfold q2x
 by_cases hp : a.Place = b.Place
 ·rw [if_neg (by simpa using hp), z5Z, Ka]
  by_cases ha : j0C a
  ·rw [decide_eq_true ha, if_pos rfl, z5Z, Ka]
   by_cases hb : j0C b
   ·rw [decide_eq_true hb, if_pos rfl, Ka, decide_eq_true (show q6c a b from ⟨hp, .inl ⟨ha, hb⟩⟩)]
   ·rw [decide_eq_false hb, if_neg (by decide), tail, Ka]
    congr 1
    exact decide_eq_decide.2 ⟨fun k => (⟨hp, .inr k⟩ : q6c a b), fun k => k.2.resolve_left (fun h => hb h.2)⟩
  ·rw [decide_eq_false ha, if_neg (by decide), tail, Ka]
   congr 1
   exact decide_eq_decide.2 ⟨fun k => (⟨hp, .inr k⟩ : q6c a b), fun k => k.2.resolve_left (fun h => ha h.1)⟩
 ·rw [if_pos hp, decide_eq_false (fun k : q6c a b => hp k.1)]
theorem j2h {n : j3} {r : z7} (h : q2s n r) (ht : ¬ r.To < 0) : 0 ≤ r.To ∧ r.To < (n.Signals.length : Int) := by
 obtain ⟨w, s, _, _, hto, _⟩ := h.last
 rcases (q5z n (q7H s)).2 with e | ⟨k, hk, e, _⟩ <;> omega
theorem q4G {n : j3} (hN : q3P n) {r : z7} (h : q2s n r) : ∃ l, H9 n r = some l ∧ l.length ≤ 50 ∧ ∀ s ∈ l, q3H n s := by
 unfold H9
 by_cases ht : r.To < 0
 ·rw [if_pos ht]
  exact ⟨[], rfl, by simp, fun s hs => (List.not_mem_nil hs).elim⟩
 ·rw [if_neg ht, z0M (j2h h ht), Ka, Ka, Ka]
  simp only [q0q]
  obtain ⟨l, h1, h2⟩ := z9k (step := q0l n r) (fun S => ∃ d x y l, S = (d, x, y, l) ∧ 0 ≤ d ∧ d ≤ 5000 ∧ 10 * (l.length : Int) ≤ d ∧ (l.length : Int) ≤ 50 ∧ (d < 50 → (l.length : Int) ≤ 4) ∧ ∀ s ∈ l, q3H n s) (fun l => l.length ≤ 50 ∧ ∀ s ∈ l, q3H n s) (fun S => (50 - S.1).toNat) (fun S ⟨d, x, y, l, hS, h0, h9, h1, h2, h3, h4⟩ => by
   subst hS
   unfold q0l
   simp only [z5b]
   by_cases c : d < 50
   ·rw [if_pos c]
    obtain ⟨ws, g1, _, g2⟩ := z0k hN (⟨x, y⟩ : v7)
    rw [g1, Ka]
    cases ws with
    | nil =>
     refine .inr ⟨l, ?_, by omega, h4⟩
     rfl
    | cons s ws =>
     have e1 : (q4L q2M (s :: ws) ()).bind (fun t => Sum.elim (fun _ => some (0, 0, 0, false)) (fun q => some q) t) = some (s.Section, s.In, s.Out, true) := rfl
     obtain ⟨_, hs⟩ := g2 s (List.mem_cons_self ..)
     rw [e1, z8L]
     have hf := z0M (n := n) h.from_
     obtain ⟨q, hq⟩ : ∃ q, (if true = true then (W6 r.Steps s.Section).bind fun x1989 => if x1989 = true then some true else (W6 l s.Section).bind fun x1992 => if x1992 = true then some true else (idx n.Signals r.From).bind fun x1995 => some (decide (s.Section = x1995.Section)) else some true) = some q := by
      rw [if_pos rfl, q1r, Ka]
      split
      ·exact ⟨_, rfl⟩
      ·rw [q1r, Ka]
       split
       ·exact ⟨_, rfl⟩
       ·rw [hf, Ka]
        exact ⟨_, rfl⟩
     rw [hq, Ka]
     by_cases cq : q = true
     ·rw [if_pos cq]
      exact .inr ⟨l, rfl, by omega, h4⟩
     ·have hsec : n.Sections[s.Section.toNat]? = some (sec n s.Section) := by
       have hh := hs.1.1
       unfold sec
       rw [Kf (by have := hh.1; have := hh.2; simp only at *; omega)]
       rfl
      have hlen := (hN.secs _ (List.mem_of_getElem? hsec)).len
      have i1 := q2r (n := n) hs.1.1
      simp only at i1
      rw [if_neg cq, q1u (by omega) (by omega), Ka, i1, Ka, Y3 (by omega) (by omega), Ka]
      refine .inl ⟨_, rfl, ⟨_, _, _, _, rfl, by omega, by omega, ?_, ?_, ?_, fun t ht => ?_⟩, ?_⟩
      ·rw [List.length_append, List.length_singleton]; push_cast; omega
      ·rw [List.length_append, List.length_singleton]; push_cast; omega
      ·intro hd
       rw [List.length_append, List.length_singleton]; push_cast; omega
      ·rcases List.mem_append.1 ht with ht | ht
       ·exact h4 t ht
       ·rw [List.mem_singleton.1 ht]; exact hs
      ·show (50 - (d + (sec n s.Section).Length)).toNat < (50 - d).toNat
       omega
   ·rw [if_neg c]
    exact .inr ⟨l, rfl, by omega, h4⟩) (0, (z0E n r.To).section_, (z0E n r.To).end_, []) ⟨_, _, _, _, rfl, by decide, by decide, by simp, by simp, by simp, fun s hs => (List.not_mem_nil hs).elim⟩
  rw [h1, Ka]
  exact ⟨l, rfl, h2⟩
theorem z4t {σ : Type} {body : Nat → σ → Option σ} {D : Prop} (I : Nat → σ → Prop) : ∀ (m k : Nat) (s : σ), I k s → (∀ j s, k ≤ j → j < k + m → I j s → (body j s = none ∧ D) ∨ ∃ s', body j s = some s' ∧ I (j + 1) s') → (forS body m k s = none ∧ D) ∨ ∃ s', forS body m k s = some s' ∧ I (k + m) s'
 | 0, k, s, h0, _ => .inr ⟨s, rfl, h0⟩
 | m + 1, k, s, h0, h => by
  rcases h k s (Nat.le_refl _) (by omega) h0 with ⟨h1, hd⟩ | ⟨s', h1, h2⟩
  ·refine .inl ⟨?_, hd⟩
   show (body k s).bind _ = _
   rw [h1]
   rfl
  ·rcases z4t (D := D) I m (k + 1) s' h2 (fun j t hj hj' hi => h j t (by omega) (by omega) hi) with ⟨h3, hd⟩ | ⟨s'', h3, h4⟩
   ·refine .inl ⟨?_, hd⟩
    show (body k s).bind _ = _
    rw [h1]
    exact h3
   ·refine .inr ⟨s'', ?_, by rw [show k + (m + 1) = k + 1 + m by omega]; exact h4⟩
    show (body k s).bind _ = _
    rw [h1]
    exact h3
def Few (B : Nat) : List q8 × List (q8 × Bool) → Prop := fun S => S.1.length ≤ B
theorem q8b (x : q8) (a : List ByteArray) (b : List j0) (c : List j9) (d : List j5) (e : List Q2) (f t : Int) (st lap : List v6) (l : List q8) (m : List (q8 × Bool)) (h : l.length ≤ 1000000) :
  ∃ S, Z6 x a b c d e f t st lap l m = some S ∧ Few (l.length + 1) S := by
 unfold Z6
 rw [Ka]
 split
 ·exact ⟨_, rfl, Nat.le_succ _⟩
 ·rw [q1u (by omega) (by omega), Ka]
  exact ⟨_, rfl, by show (l ++ [x]).length ≤ _; simp⟩
theorem z5R (x p : Int) (a : List ByteArray) (b : List j0) (c : List j9) (d : List j5) (e : List Q2) (f t : Int) (st lap : List v6) (l : List q8) (m : List (q8 × Bool)) :
  ∃ q, X0 x p a b c d e f t st lap l m = some q := by
 unfold X0 Y6 q0a
 rcases z5K (body := X8 x p l) (fun _ => True) (fun _ => True) l.length (fun k hk => by
  unfold X8 q0m
  rw [Q6 hk, Ka]
  obtain ⟨q, hq⟩ : ∃ q, (if l[k].Kind = 3 then if l[k].Place = x then some (decide (l[k].Position = p)) else some false else some false) = some q := by
   split
   ·split <;> exact ⟨_, rfl⟩
   ·exact ⟨_, rfl⟩
  rw [hq, Ka, Ka]
  split
  ·exact .inr ⟨_, rfl, trivial⟩
  ·exact .inl ⟨rfl, trivial⟩) with ⟨h1, _⟩ | ⟨v, h1, _⟩
 ·rw [h1]; exact ⟨_, rfl⟩
 ·rw [h1]; exact ⟨_, rfl⟩
theorem z8P (k i : Int) : (q7Y k i).length ≤ 2 := by
 unfold q7Y
 split
 ·simp
 ·split <;> simp
theorem q9d {n : j3} (hN : q3P n) (i f t : Int) (st lap : List v6) : ∀ (N : Nat) (e : v7) (many : Nat) (l : List q8) (m : List (q8 × Bool)), many ≤ 8 → l.length + 2 ^ (9 - many) ≤ 1000000 →
  (Z4 N e (many : Int) i n.Stations n.Sections n.Links n.Signals n.Gates f t st lap l m = none ∧ N + many ≤ 8) ∨ ∃ S, Z4 N e (many : Int) i n.Stations n.Sections n.Links n.Signals n.Gates f t st lap l m = some S ∧ Few (l.length + 2 ^ (9 - many)) S
 | 0, e, many, l, m, hm, _ => .inl ⟨rfl, by omega⟩
 | N + 1, e, many, l, m, hm, hb => by
  have e0 : Y1 (⟨n.Stations, n.Sections, n.Links, n.Signals, n.Gates⟩ : j3) e = some (q7w (q1Y n.Links e)) := q5j n e
  have hpos : 1 ≤ 2 ^ (9 - many) := Nat.one_le_two_pow
  have stay : ∃ S, (some (l, m) : Option (List q8 × List (q8 × Bool))) = some S ∧ Few (l.length + 2 ^ (9 - many)) S := ⟨_, rfl, Nat.le_add_right _ _⟩
  have more : ∀ x, ∃ S, Z6 x n.Stations n.Sections n.Links n.Signals n.Gates f t st lap l m = some S ∧ Few (l.length + 2 ^ (9 - many)) S := fun x => by
   obtain ⟨S, h1, h2⟩ := q8b x n.Stations n.Sections n.Links n.Signals n.Gates f t st lap l m (by omega)
   exact ⟨S, h1, Nat.le_trans h2 (by omega)⟩
  unfold Z4
  rw [e0]
  cases hj : q1Y n.Links e with
  | none =>
   have e1 : (some (q7w none)).bind (q5U fun x857 x858 x859 => some (x859, x857, x858)) = some (false, (0 : Int), (0 : Int)) := rfl
   rw [e1, z7z, if_neg (by decide), Ka, if_pos rfl]
   exact .inr stay
  | some g =>
   obtain ⟨x, hx, hg⟩ := q6y hj
   have hG : Has n g := by
    rcases hg with ⟨_, h⟩ | ⟨_, h⟩
    ·rw [← h]; exact (hN.ends x hx).2
    ·rw [← h]; exact (hN.ends x hx).1
   have e1 : (some (q7w (some g))).bind (q5U fun x857 x858 x859 => some (x859, x857, x858)) = some (true, g.section_, g.end_) := rfl
   rw [e1, z7z, if_pos rfl]
   obtain ⟨q, hq, hq8⟩ : ∃ q, (if (many : Int) = 8 then some true else (W6 st g.section_).bind fun x891 => if x891 = true then some true else (W6 lap g.section_).bind fun x894 => some x894) = some q ∧ (q = false → many < 8) := by
    by_cases c : (many : Int) = 8
    ·rw [if_pos c]; exact ⟨true, rfl, fun h => by cases h⟩
    ·rw [if_neg c, q1r, Ka]
     split
     ·exact ⟨_, rfl, fun _ => by omega⟩
     ·rw [q1r, Ka]
      exact ⟨_, rfl, fun _ => by omega⟩
   rw [hq, Ka]
   by_cases cq : q = true
   ·rw [if_pos cq]
    exact .inr stay
   ·have h8 : many < 8 := hq8 (by simpa using cq)
    have i1 := q2r (n := n) hG.1
    rw [if_neg cq, i1, Ka]
    obtain ⟨o, ho, ho2⟩ : ∃ o : (Unit ⊕ (List q8 × List (q8 × Bool))), ((if (sec n g.section_).Kind = 2 then some (decide (0 < g.end_)) else some false).bind (fun x1029 =>
      if x1029 = true then (
       ((X0 g.section_ g.end_ n.Stations n.Sections n.Links n.Signals n.Gates f t st lap l m).bind fun x1065 =>
       if x1065 = true then (some (l, m)) else (
       (chk (3 - g.end_)).bind fun _ =>
       (Z6 (⟨3, g.section_, 3 - g.end_, i⟩ : q8) n.Stations n.Sections n.Links n.Signals n.Gates f t st lap l m).bind (q0q fun l1071 l1072 => some (l1071, l1072)))).bind (q0q fun l1061 l1063 => some (.inr (l1061, l1063))))
      else (
       if (sec n g.section_).Kind = 1 then (
        (F1 (⟨n.Stations, n.Sections, n.Links, n.Signals, n.Gates⟩ : j3) (⟨g.section_, g.end_⟩ : v7)).bind fun x1087 =>
        if 0 ≤ x1087 then (
         (if x1087 ≠ f then ((Z6 (⟨4, x1087, 0, i⟩ : q8) n.Stations n.Sections n.Links n.Signals n.Gates f t st lap l m).bind (q0q fun l1118 l1119 => some (l1118, l1119))) else (some (l, m))).bind (q0q fun l1113 l1115 => some (.inr (l1113, l1115))))
        else (some (.inl ())))
       else (some (.inl ()))))) = some o ∧ ∀ S, o = .inr S → Few (l.length + 2 ^ (9 - many)) S := by
     obtain ⟨d, hd⟩ : ∃ d : Bool, (if (sec n g.section_).Kind = 2 then some (decide (0 < g.end_)) else some false) = some d := by
      split <;> exact ⟨_, rfl⟩
     rw [hd, Ka]
     by_cases cd : d = true
     ·rw [if_pos cd]
      obtain ⟨q2, hq2⟩ := z5R g.section_ g.end_ n.Stations n.Sections n.Links n.Signals n.Gates f t st lap l m
      rw [hq2, Ka]
      split
      ·exact ⟨_, rfl, fun S hS => by injection hS with hS; rw [← hS]; exact Nat.le_add_right _ _⟩
      ·have hk := j4X hG.2
       obtain ⟨⟨l', m'⟩, h1, h2⟩ := more (⟨3, g.section_, 3 - g.end_, i⟩ : q8)
       rw [Y3 (by omega) (by omega), Ka, h1]
       exact ⟨_, rfl, fun S hS => by injection hS with hS; rw [← hS]; exact h2⟩
     ·rw [if_neg cd]
      split
      ·have e2 : F1 (⟨n.Stations, n.Sections, n.Links, n.Signals, n.Gates⟩ : j3) ⟨g.section_, g.end_⟩ = some (sg n g) := (q5z n g).1
       rw [e2, Ka]
       split
       ·split
        ·obtain ⟨⟨l', m'⟩, h1, h2⟩ := more (⟨4, sg n g, 0, i⟩ : q8)
         rw [h1]
         exact ⟨_, rfl, fun S hS => by injection hS with hS; rw [← hS]; exact h2⟩
        ·exact ⟨_, rfl, fun S hS => by injection hS with hS; rw [← hS]; exact Nat.le_add_right _ _⟩
       ·exact ⟨_, rfl, fun S hS => by cases hS⟩
      ·exact ⟨_, rfl, fun S hS => by cases hS⟩
    rw [ho, Ka]
    rcases o with u | S
    ·have e3 : q2f (sec n g.section_).Kind g.end_ = some (q7Y (sec n g.section_).Kind g.end_) := z8O _ _
     rw [Sum.elim_inl, e3, Ka]
     have ho3 := z8P (sec n g.section_).Kind g.end_
     have hp2 : 2 ^ (9 - many) = 2 * 2 ^ (8 - many) := by
      rw [show 9 - many = (8 - many) + 1 by omega, Nat.pow_succ]
      omega
     rcases z4t (body := W0 n.Stations n.Sections n.Links n.Signals n.Gates st lap (many : Int) i f t g.section_ (q7Y (sec n g.section_).Kind g.end_) (Z4 N)) (D := N + 1 + many ≤ 8) (fun k => Few (l.length + k * 2 ^ (8 - many))) (q7Y (sec n g.section_).Kind g.end_).length 0 (l, m) (by show l.length ≤ _; omega) (fun k S _ hk hS => by
      obtain ⟨l', m'⟩ := S
      have hS : l'.length ≤ l.length + k * 2 ^ (8 - many) := hS
      have hk1 : k * 2 ^ (8 - many) + 2 ^ (8 - many) ≤ 2 * 2 ^ (8 - many) := by
       rw [← Nat.succ_mul]
       exact Nat.mul_le_mul_right _ (by omega)
      unfold W0
      simp only [q0q]
      rw [Q6 (show k < (q7Y (sec n g.section_).Kind g.end_).length by omega), Ka, Y3 (by omega) (by omega), Ka]
      have ih := q9d hN i f t st lap N ⟨g.section_, (q7Y (sec n g.section_).Kind g.end_)[k]⟩ (many + 1) l' m' (by omega) (by rw [show 9 - (many + 1) = 8 - many by omega]; omega)
      rw [show (((many + 1 : Nat)) : Int) = (many : Int) + 1 by push_cast; rfl] at ih
      rcases ih with ⟨h1, hd⟩ | ⟨⟨l2, m2⟩, h1, h2⟩
      ·rw [h1]
       exact .inl ⟨rfl, by omega⟩
      ·rw [h1]
       refine .inr ⟨_, rfl, ?_⟩
       have h2 : l2.length ≤ l'.length + 2 ^ (9 - (many + 1)) := h2
       rw [show 9 - (many + 1) = 8 - many by omega] at h2
       show l2.length ≤ l.length + (k + 1) * 2 ^ (8 - many)
       rw [Nat.succ_mul]
       omega) with ⟨h1, hd⟩ | ⟨⟨l', m'⟩, h1, h2⟩
     ·rw [h1]
      exact .inl ⟨rfl, by omega⟩
     ·rw [h1]
      refine .inr ⟨_, rfl, ?_⟩
      have h2 : l'.length ≤ l.length + (0 + (q7Y (sec n g.section_).Kind g.end_).length) * 2 ^ (8 - many) := h2
      show l'.length ≤ _
      have := Nat.mul_le_mul_right (2 ^ (8 - many)) ho3
      rw [Nat.zero_add] at h2
      omega
    ·rw [Sum.elim_inr]
     exact .inr ⟨S, rfl, ho2 S rfl⟩
theorem z9l {n : j3} (hN : q3P n) (f t : Int) {st : List v6} (lap : List v6) (hst : ∀ s ∈ st, q3H n s) {i : Nat} (hi : i < st.length) (l : List q8) (m : List (q8 × Bool)) (hb : l.length + 4096 ≤ 1000000) :
  ∃ S, H4 (i : Int) n.Stations n.Sections n.Links n.Signals n.Gates f t st lap l m = some S ∧ Few (l.length + 2048) S := by
 have hs := hst _ (List.getElem_mem hi)
 have hE := z6S (sec n st[i].Section).Kind
 have i1 := q2r (n := n) hs.1.1
 simp only at i1
 unfold H4
 rw [Q6 hi, Ka, z7z, i1, Ka, z3w, Ka, Y3 (by omega) (by omega), Ka]
 obtain ⟨⟨l', m'⟩, h1, h2⟩ := H6 (body := V1 n.Stations n.Sections n.Links n.Signals n.Gates st lap (i : Int) f t st[i].Section st[i].In st[i].Out) (fun k => Few (l.length + k * 512)) (q5M (sec n st[i].Section).Kind).toNat 0 (l, m) (by show l.length ≤ _; omega) (fun k S _ hk hS => by
  obtain ⟨l', m'⟩ := S
  have hS : l'.length ≤ l.length + k * 512 := hS
  have hk4 : k < 4 := by omega
  unfold V1
  simp only [q0q]
  obtain ⟨q, hq⟩ : ∃ q, (if (k : Int) ≠ st[i].In then some (decide ((k : Int) ≠ st[i].Out)) else some false) = some q := by
   split <;> exact ⟨_, rfl⟩
  rw [hq, Ka]
  by_cases cq : q = true
  ·rw [if_pos cq]
   obtain ⟨⟨l2, m2⟩, h1, h2⟩ := z2r (P := Few (l'.length + 512)) (f := fun N => Z4 N ⟨st[i].Section, (k : Int)⟩ 0 (i : Int) n.Stations n.Sections n.Links n.Signals n.Gates f t st lap l' m') (by
    have hp : l'.length + 2 ^ (9 - 0) ≤ 1000000 := by rw [show (2 : Nat) ^ (9 - 0) = 512 from rfl]; omega
    rcases q9d hN (i : Int) f t st lap 9 ⟨st[i].Section, (k : Int)⟩ 0 l' m' (by omega) hp with ⟨_, h⟩ | ⟨S, h, _⟩
    ·omega
    ·exact ⟨9, S, h⟩) (fun N S hS => by
    have hp : l'.length + 2 ^ (9 - 0) ≤ 1000000 := by rw [show (2 : Nat) ^ (9 - 0) = 512 from rfl]; omega
    rcases q9d hN (i : Int) f t st lap N ⟨st[i].Section, (k : Int)⟩ 0 l' m' (by omega) hp with ⟨h, _⟩ | ⟨S', h, h2⟩
    ·have h : Z4 N ⟨st[i].Section, (k : Int)⟩ 0 (i : Int) n.Stations n.Sections n.Links n.Signals n.Gates f t st lap l' m' = none := h
     rw [h] at hS; cases hS
    ·have h : Z4 N ⟨st[i].Section, (k : Int)⟩ 0 (i : Int) n.Stations n.Sections n.Links n.Signals n.Gates f t st lap l' m' = some S' := h
     rw [h] at hS
     rw [← Kd hS]
     rw [show (2 : Nat) ^ (9 - 0) = 512 from rfl] at h2
     exact h2)
   rw [h1]
   refine ⟨_, rfl, ?_⟩
   have h2 : l2.length ≤ l'.length + 512 := h2
   show l2.length ≤ _
   omega
  ·rw [if_neg cq]
   refine ⟨_, rfl, ?_⟩
   show l'.length ≤ l.length + (k + 1) * 512
   rw [Nat.succ_mul]
   exact Nat.le_trans hS (by rw [← Nat.add_assoc]; exact Nat.le_add_right _ _))
 rw [h1]
 refine ⟨_, rfl, ?_⟩
 have h2 : l'.length ≤ l.length + (0 + (q5M (sec n st[i].Section).Kind).toNat) * 512 := h2
 show l'.length ≤ _
 omega
theorem q7m {n : j3} {s : v6} (h : q3H n s) : ∃ p, K3 n s = some p := by
 unfold K3
 have i1 := q2r (n := n) h.1.1
 simp only at i1
 rw [i1, Ka]
 split <;> exact ⟨_, rfl⟩
theorem z5A {n : j3} (hN : q3P n) {r : z7} (h : q2s n r) : ∃ l, Y0 n r = some l := by
 obtain ⟨lap, h1, h2, h3⟩ := q4G hN h
 have hm := h.way.many
 have hp := h.way.path.step
 unfold Y0
 rw [h1, Ka, q0L]
 obtain ⟨⟨l1, m1⟩, g1, g2⟩ := H6 (body := F5 n r lap) (fun k => Few k) r.Steps.length 0 ([], []) (Nat.le_refl _) (fun k S _ hk hS => by
  obtain ⟨l, m⟩ := S
  have hS : l.length ≤ k := hS
  have hk : k < r.Steps.length := by omega
  obtain ⟨p, hp1⟩ := q7m (hp _ (List.getElem_mem hk))
  obtain ⟨⟨l', m'⟩, e1, e2⟩ := q8b ⟨1, r.Steps[k].Section, p, (k : Int)⟩ n.Stations n.Sections n.Links n.Signals n.Gates r.From r.To r.Steps lap l m (by omega)
  unfold F5
  simp only [q0q]
  rw [Q6 hk, Ka, hp1, Ka, e1]
  have e2 : l'.length ≤ l.length + 1 := e2
  exact ⟨_, rfl, by show l'.length ≤ _; omega⟩)
 have g2 : l1.length ≤ 0 + r.Steps.length := g2
 rw [g1, q0L]
 obtain ⟨⟨l2, m2⟩, f1, f2⟩ := H6 (body := F4 n r lap) (fun k => Few (l1.length + k)) lap.length 0 (l1, m1) (Nat.le_refl _) (fun k S _ hk hS => by
  obtain ⟨l, m⟩ := S
  have hS : l.length ≤ l1.length + k := hS
  have hk : k < lap.length := by omega
  obtain ⟨p, hp1⟩ := q7m (h3 _ (List.getElem_mem hk))
  obtain ⟨⟨l', m'⟩, e1, e2⟩ := q8b ⟨2, lap[k].Section, p, -1⟩ n.Stations n.Sections n.Links n.Signals n.Gates r.From r.To r.Steps lap l m (by omega)
  unfold F4
  simp only [q0q]
  rw [Q6 hk, Ka, hp1, Ka, e1]
  have e2 : l'.length ≤ l.length + 1 := e2
  exact ⟨_, rfl, by show l'.length ≤ _; omega⟩)
 have f2 : l2.length ≤ l1.length + (0 + lap.length) := f2
 rw [f1, q0L]
 obtain ⟨⟨l3, m3⟩, d1, d2⟩ := H6 (body := F3 n r lap) (fun k => Few (l2.length + k * 2048)) r.Steps.length 0 (l2, m2) (by show l2.length ≤ _; omega) (fun k S _ hk hS => by
  obtain ⟨l, m⟩ := S
  have hS : l.length ≤ l2.length + k * 2048 := hS
  have hk : k < r.Steps.length := by omega
  obtain ⟨⟨l', m'⟩, e1, e2⟩ := z9l hN r.From r.To lap hp hk l m (by omega)
  unfold F3
  simp only [q0q]
  rw [e1]
  have e2 : l'.length ≤ l.length + 2048 := e2
  exact ⟨_, rfl, by show l'.length ≤ _; omega⟩)
 have d2 : l3.length ≤ l2.length + (0 + r.Steps.length) * 2048 := d2
 rw [d1, q0L]
 obtain ⟨⟨l4, m4⟩, c1, c2⟩ := q8b ⟨5, r.From, 0, -1⟩ n.Stations n.Sections n.Links n.Signals n.Gates r.From r.To r.Steps lap l3 m3 (by omega)
 rw [c1]
 exact ⟨_, rfl⟩
def Ens {α : Type} (o : Option α) (P : α → Prop) : Prop := ∀ x, o = some x → P x
section
variable {α β γ δ τ : Type} {P : τ → Prop}
theorem w8 {x : τ} (h : P x) : Ens (some x) P := fun y hy => by injection hy with hy; rw [← hy]; exact h
theorem q8p : Ens (none : Option τ) P := fun y hy => by cases hy
theorem k8 {o : Option α} {f : α → Option τ} (h : ∀ a, o = some a → Ens (f a) P) : Ens (o.bind f) P := fun y hy => by
 obtain ⟨a, h1, h2⟩ := q6e hy
 exact h a h1 y h2
theorem Z7 {o : Option α} {f : α → Option τ} (Q : α → Prop) (h1 : Ens o Q) (h : ∀ a, Q a → Ens (f a) P) : Ens (o.bind f) P := k8 fun a ha => h a (h1 a ha)
theorem Z9 {c : Prop} [Decidable c] {a b : Option τ} (h1 : c → Ens a P) (h2 : ¬ c → Ens b P) : Ens (if c then a else b) P := by
 split
 ·exact h1 ‹_›
 ·exact h2 ‹_›
theorem z0i {σ : Type} {body : Nat → σ → Option σ} {I : σ → Prop} (h : ∀ k s, I s → Ens (body k s) I) : ∀ (m k : Nat) (s : σ), I s → Ens (forS body m k s) I
 | 0, k, s, hs => w8 hs
 | m + 1, k, s, hs => by
  show Ens ((body k s).bind _) I
  exact Z7 I (h k s hs) fun a ha => z0i h m (k + 1) a ha
theorem z3v {f : Nat → Option τ} (h : ∀ N, Ens (f N) P) : Ens (lim f) P := fun y hy => by
 obtain ⟨N, hN⟩ := q8g hy
 exact h N y hN
end
variable {a : List ByteArray} {b : List j0} {c : List j9} {d : List j5} {e : List Q2} {f t : Int} {st lap : List v6}
end Go.Proofs.YtjlollifgeggdaaGreatDoor
