import Derived.Test.YtjlollifgeggdaaGreatDoorP1
set_option linter.unusedVariables false
set_option linter.unusedSimpArgs false
set_option linter.unusedSectionVars false
namespace Go.Proofs.YtjlollifgeggdaaGreatDoor
open Go.RowKit Go.Fp
structure q8R (n : j1) (m : Nat) (x : q8) : Prop where
 kind : 1 ≤ x.Kind ∧ x.Kind ≤ 5
 at_ : x.Kind ≠ 2 → x.Kind ≠ 5 → 0 ≤ x.At ∧ x.At < (m : Int)
 place : x.Kind = 1 ∨ x.Kind = 2 ∨ x.Position ≠ 0 → 0 ≤ x.Place ∧ x.Place < (n.Sections.length : Int)
 pos : 0 ≤ x.Position
 pts : x.Position ≠ 0 → (sec n x.Place).Kind = 2
def KQ (n : j1) (m : Nat) (l0 : List q8) (S : List q8 × List (q8 × Bool)) : Prop :=
 (∀ x ∈ S.1, q8R n m x) ∧ (∀ x, q1e S.2 x false = true → x ∈ S.1) ∧ (∀ x ∈ l0, x ∈ S.1) ∧ S.1.length * 32 ≤ 140737488355328
theorem j1E {n : j1} {m : Nat} {l0 l : List q8} {S : List q8 × List (q8 × Bool)} (h : KQ n m l S) (h0 : ∀ x ∈ l0, x ∈ l) : KQ n m l0 S := ⟨h.1, h.2.1, fun x hx => h.2.2.1 x (h0 x hx), h.2.2.2⟩
section
variable {a : List ByteArray} {b : List j3} {c : List k8} {d : List j7} {e : List Q1} {f t : Int} {st lap : List w7} {n : j1} {m : Nat} {l0 : List q8}
theorem z3B {x : q8} {l : List q8} {mm : List (q8 × Bool)} (h : KQ n m l0 (l, mm)) (hx : q8R n m x) : Ens (Q9 x a b c d e f t st lap l mm) (KQ n m (x :: l0)) := by
 unfold Q9
 rw [Ka]
 refine q4O (fun hq => W6 ⟨h.1, h.2.1, fun y hy => ?_, h.2.2.2⟩) fun _ => K4 fun _ hroom => W6 ⟨fun y hy => ?_, fun y hy => ?_, fun y hy => ?_, ?_⟩
 ·rcases List.mem_cons.1 hy with rfl | hy
  ·exact h.2.1 _ hq
  ·exact h.2.2.1 y hy
 ·rcases List.mem_append.1 hy with hy | hy
  ·exact h.1 y hy
  ·rw [List.mem_singleton.1 hy]; exact hx
 ·by_cases c : y = x
  ·rw [c]; exact List.mem_append_right _ (List.mem_singleton.2 rfl)
  ·have hy : (Z7 (V7 mm x true) y).getD false = true := hy
   rw [Q6 _ _ c] at hy
   exact List.mem_append_left _ (h.2.1 y hy)
 ·rcases List.mem_cons.1 hy with rfl | hy
  ·exact List.mem_append_right _ (List.mem_singleton.2 rfl)
  ·exact List.mem_append_left _ (h.2.2.1 y hy)
 ·have := (J9 hroom).1
  simpa using this
theorem z5P {x : q8} {l : List q8} {mm : List (q8 × Bool)} (h : KQ n m l0 (l, mm)) (hx : q8R n m x) : Ens ((Q9 x a b c d e f t st lap l mm).bind (F7 fun l' m' => some (l', m'))) (KQ n m l0) :=
 W3 _ (z3B h hx) fun _ ha => W6 (j1E ha fun y hy => List.mem_cons_of_mem _ hy)
end
theorem z4S {n : j1} (hN : q3R n) {e g : j8} (h : q1q n.Links e = some g) : Has n g := by
 obtain ⟨x, hx, h1 | h1⟩ := q6g h
 ·rw [← h1.2]; exact (hN.ends x hx).2
 ·rw [← h1.2]; exact (hN.ends x hx).1
theorem z5Z {n : j1} (hN : q3R n) {m : Nat} {l0 : List q8} {f t : Int} {st lap : List w7} : ∀ (N : Nat) (g : j8) (many i : Int) (l : List q8) (mm : List (q8 × Bool)), 0 ≤ i ∧ i < (m : Int) → KQ n m l0 (l, mm) → Ens (Q8 N g many i n.Stations n.Sections n.Links n.Signals n.Gates f t st lap l mm) (KQ n m l0)
 | 0, g, many, i, l, mm, hi, h => z8k
 | N + 1, g, many, i, l, mm, hi, h => by
  have keep : Ens (some (l, mm)) (KQ n m l0) := W6 h
  unfold Q8
  have hj : W8 (⟨n.Stations, n.Sections, n.Links, n.Signals, n.Gates⟩ : j1) g = some (q6f (q1q n.Links g)) := q4H n g
  rw [hj]
  refine K4 fun ⟨q1, q2, q3⟩ hq => ?_
  have hz : q1 = true → Has n ⟨q2, q3⟩ := fun h1 => by
   cases hg : q1q n.Links g with
   | none =>
    rw [hg] at hq
    have hq : some (false, _, _) = some (q1, q2, q3) := hq
    injection hq with hq
    injection hq with hq _
    rw [h1] at hq
    cases hq
   | some z =>
    rw [hg] at hq
    have hq : some (true, z.section_, z.end_) = some (q1, q2, q3) := hq
    injection hq with hq
    injection hq with _ hq
    injection hq with e1 e2
    rw [← e1, ← e2]
    exact z4S hN hg
  show Ens (Option.bind _ _) _
  refine K4 fun q hq2 => q4O (fun _ => keep) fun hqn => ?_
  have h1 : q1 = true := by
   cases q1 with
   | true => rfl
   | false =>
    have hq2 : (if false = true then _ else some true) = some q := hq2
    rw [if_neg Kh] at hq2
    exact absurd (Kd hq2).symm hqn
  have hz := hz h1
  refine K4 fun s hs => W3 (fun o : Unit ⊕ _ => ∀ S, o = .inr S → KQ n m l0 S) ?_ ?_
  ·have hs : s = sec n q2 := by
    have := q3x (n := n) hz.1
    simp only at this
    rw [this] at hs
    exact (Kd hs).symm
   refine K4 fun q hq => q4O (fun hq1 => ?_) fun _ => q4O (fun _ => K4 fun v _ => q4O (fun _ => ?_) fun _ => ?_) fun _ => ?_
   ·refine W3 (KQ n m l0) ?_ fun ⟨u, v⟩ hS => W6 fun S hs => by injection hs with hs; rw [← hs]; exact hS
    refine K4 fun q _ => q4O (fun _ => keep) fun _ => K4 fun _ _ => z5P h ?_
    have hk : s.Kind = 2 ∧ 0 < q3 := by
     by_cases c : s.Kind = 2
     ·rw [if_pos c] at hq
      have := Kd hq
      rw [hq1] at this
      exact ⟨c, of_decide_eq_true this⟩
     ·rw [if_neg c] at hq
      have := Kd hq
      rw [hq1] at this
      cases this
    have h2 := hz.2
    simp only at h2
    rw [← hs, hk.1] at h2
    have h3 : q5B 2 = 3 := by decide
    rw [h3] at h2
    exact ⟨by simp, fun _ _ => hi, fun _ => hz.1, by simp only; omega, fun _ => by simp only; rw [← hs]; exact hk.1⟩
   ·refine W3 (KQ n m l0) ?_ fun ⟨u, v⟩ hS => W6 fun S hs => by injection hs with hs; rw [← hs]; exact hS
    exact q4O (fun _ => z5P h ⟨by simp, fun _ _ => hi, fun h => by simp at h, by simp, fun h => absurd rfl h⟩) fun _ => keep
   ·exact W6 fun S hs => by cases hs
   ·exact W6 fun S hs => by cases hs
  ·rintro (u | S) hS
   ·rw [Sum.elim_inl]
    refine K4 fun o _ => W3 (KQ n m l0) ?_ fun ⟨u, v⟩ hS => W6 hS
    refine z0M (fun k ⟨l', m'⟩ hk => ?_) _ _ _ h
    unfold V2
    show Ens (Option.bind _ _) _
    exact K4 fun _ _ => K4 fun _ _ => W3 (KQ n m l0) (z5Z hN N _ _ _ _ _ hi hk) fun ⟨u, v⟩ hS => W6 hS
   ·rw [Sum.elim_inr]
    exact W6 (hS S rfl)
theorem j1B {n : j1} (hN : q3R n) {m : Nat} {l0 : List q8} {f t : Int} {st lap : List w7} (i : Int) (l : List q8) (mm : List (q8 × Bool)) (hi : 0 ≤ i ∧ i < (m : Int)) (h : KQ n m l0 (l, mm)) : Ens (H4 i n.Stations n.Sections n.Links n.Signals n.Gates f t st lap l mm) (KQ n m l0) := by
 unfold H4
 refine K4 fun ⟨x, y, z⟩ _ => ?_
 show Ens (Option.bind _ _) _
 refine K4 fun _ _ => K4 fun _ _ => K4 fun _ _ => W3 (KQ n m l0) ?_ fun ⟨u, v⟩ hS => W6 hS
 refine z0M (fun k ⟨l', m'⟩ hk => ?_) _ _ _ h
 unfold K3
 show Ens (Option.bind _ _) _
 exact K4 fun _ _ => q4O (fun _ => W3 (KQ n m l0) (j0r fun N => z5Z hN N _ _ _ _ _ hi hk) fun ⟨u, v⟩ hS => W6 hS) fun _ => W6 hk
theorem q6o {σ : Type} {body : Nat → σ → Option σ} {I : Nat → σ → Prop} : ∀ (m k : Nat) (s : σ), (∀ j s, k ≤ j → j < k + m → I j s → Ens (body j s) (I (j + 1))) → I k s → Ens (q2K body m k s) (I (k + m))
 | 0, k, s, h, hs => W6 hs
 | m + 1, k, s, h, hs => by
  show Ens ((body k s).bind _) _
  refine W3 (I (k + 1)) (h k s (by omega) (by omega) hs) fun a ha => ?_
  rw [show k + (m + 1) = (k + 1) + m by omega]
  exact q6o m (k + 1) a (fun j s h1 h2 => h j s (by omega) (by omega)) ha
theorem q9G {n : j1} {s : w7} (h : q4s n s) {p : Int} (hp : Y5 n s = some p) : 0 ≤ p ∧ (p ≠ 0 → (sec n s.Section).Kind = 2) := by
 unfold Y5 at hp
 have i1 := q3x (n := n) h.1.1
 simp only at i1
 rw [i1, Ka] at hp
 have h1 := h.1.2
 simp only at h1
 by_cases c : (sec n s.Section).Kind = 2
 ·rw [if_pos c] at hp
  have := Kd hp
  exact ⟨by omega, fun _ => c⟩
 ·rw [if_neg c] at hp
  have := Kd hp
  exact ⟨by omega, fun h => absurd this.symm h⟩
def q9z (r : z8) (i : Nat) (l : List q8) : Prop := ∃ x ∈ l, x.Kind = 1 ∧ x.Place = ((r.Steps[i]?).getD ⟨0, 0, 0⟩).Section ∧ x.At = (i : Int)
theorem q9y {r : z8} {i : Nat} {l l' : List q8} (h : q9z r i l) (hm : ∀ x ∈ l, x ∈ l') : q9z r i l' := let ⟨x, h1, h2⟩ := h; ⟨x, hm x h1, h2⟩
def TQ (n : j1) (r : z8) (k : Nat) (S : List q8 × List (q8 × Bool)) : Prop := ∃ l0, KQ n r.Steps.length l0 S ∧ ∀ i, i < k → q9z r i l0
theorem j0c {n : j1} (hN : q3R n) {r : z8} (hr : q2u n r) {l : List q8} (h : G1 n r = some l) : (∀ x ∈ l, q8R n r.Steps.length x) ∧ (∀ i, i < r.Steps.length → q9z r i l) ∧ l.length * 32 ≤ 140737488355328 := by
 obtain ⟨lap, ho, _, hl⟩ := q7j hN hr
 have hst := hr.way.path.step
 have f1 : Ens (q2K (G0 n r lap) r.Steps.length 0 ([], [])) (TQ n r (0 + r.Steps.length)) := q6o (I := TQ n r) _ _ _ (fun k ⟨l', m'⟩ _ hk ⟨l0, h1, h2⟩ => by
  have hk : k < r.Steps.length := by omega
  have hs := hst _ (List.getElem_mem hk)
  unfold G0
  show Ens (Option.bind _ _) _
  rw [Q7 hk, Ka]
  refine K4 fun p hp => ?_
  have hq := q9G hs hp
  refine W3 _ (z3B h1 ⟨by simp, fun _ _ => by simp only; omega, fun _ => hs.1.1, hq.1, hq.2⟩) fun ⟨u, v⟩ hu => W6 ⟨_, hu, fun i hi => ?_⟩
  by_cases c : i = k
  ·subst c
   exact ⟨_, List.mem_cons_self, rfl, by rw [Kf hk]; rfl, rfl⟩
  ·exact q9y (h2 i (by omega)) fun x hx => List.mem_cons_of_mem _ hx) ⟨[], ⟨fun x hx => (List.not_mem_nil hx).elim, fun x hx => by simp [q1e, Z7] at hx, fun x hx => (List.not_mem_nil hx).elim, by simp⟩, fun i hi => by omega⟩
 have f2 : ∀ S, TQ n r (0 + r.Steps.length) S → Ens (q2K (p9 n r lap) lap.length 0 S) (TQ n r (0 + r.Steps.length)) := fun S hS => q6o (I := fun _ => TQ n r (0 + r.Steps.length)) _ _ _ (fun k ⟨l', m'⟩ _ hk ⟨l0, h1, h2⟩ => by
  have hk : k < lap.length := by omega
  have hs := hl _ (List.getElem_mem hk)
  unfold p9
  show Ens (Option.bind _ _) _
  rw [Q7 hk, Ka]
  refine K4 fun p hp => ?_
  have hq := q9G hs hp
  exact W3 _ (z3B h1 ⟨by simp, fun h => absurd rfl h, fun _ => hs.1.1, hq.1, hq.2⟩) fun ⟨u, v⟩ hu => W6 ⟨_, j1E hu fun x hx => List.mem_cons_of_mem _ hx, h2⟩) hS
 have f3 : ∀ S, TQ n r (0 + r.Steps.length) S → Ens (q2K (p8 n r lap) r.Steps.length 0 S) (TQ n r (0 + r.Steps.length)) := fun S hS => q6o (I := fun _ => TQ n r (0 + r.Steps.length)) _ _ _ (fun k ⟨l', m'⟩ _ hk ⟨l0, h1, h2⟩ => by
  unfold p8
  show Ens (Option.bind _ _) _
  exact W3 _ (j1B hN _ _ _ ⟨by omega, by omega⟩ h1) fun ⟨u, v⟩ hu => W6 ⟨_, hu, h2⟩) hS
 have h0 : Ens (G1 n r) (fun l => (∀ x ∈ l, q8R n r.Steps.length x) ∧ (∀ i, i < r.Steps.length → q9z r i l) ∧ l.length * 32 ≤ 140737488355328) := by
  unfold G1
  rw [ho, Ka, Ka]
  show Ens (Option.bind _ _) _
  refine W3 _ f1 fun S h1 => ?_
  obtain ⟨u, v⟩ := S
  show Ens (Option.bind _ _) _
  refine W3 _ (f2 (u, v) h1) fun S h2 => ?_
  obtain ⟨u, v⟩ := S
  show Ens (Option.bind _ _) _
  refine W3 _ (f3 (u, v) h2) fun S h3 => ?_
  obtain ⟨u, v⟩ := S
  obtain ⟨l0, h3, h4⟩ := h3
  show Ens (Option.bind _ _) _
  refine W3 _ (z3B h3 ⟨by simp, fun _ h => absurd rfl h, fun h => by simp at h, by simp, fun h => absurd rfl h⟩) fun S h5 => ?_
  obtain ⟨u, v⟩ := S
  exact W6 ⟨h5.1, fun i hi => q9y (h4 i (by omega)) fun x hx => h5.2.2.1 x (List.mem_cons_of_mem _ hx), h5.2.2.2⟩
 exact h0 l h
theorem z3L {α τ : Type} {body : α → Unit → Option (Unit ⊕ τ)} {P : α → Prop} [DecidablePred P] {t : α → τ} {p : List α} (hb : ∀ e ∈ p, body e () = some (if P e then .inr (t e) else .inl ())) :
  (q3K body p () = some (.inl ()) ∧ ∀ e ∈ p, ¬ P e) ∨ ∃ e ∈ p, P e ∧ q3K body p () = some (.inr (t e)) := by
 induction p with
 | nil => exact .inl ⟨rfl, fun e h => by cases h⟩
 | cons a p ih =>
  have h1 := hb a List.mem_cons_self
  by_cases c : P a
  ·rw [if_pos c] at h1
   exact .inr ⟨a, List.mem_cons_self, c, by simp only [q3K, h1]⟩
  ·rw [if_neg c] at h1
   have e1 : q3K body (a :: p) () = q3K body p () := by simp only [q3K, h1]
   rw [e1]
   rcases ih fun e he => hb e (List.mem_cons_of_mem _ he) with ⟨h2, h3⟩ | ⟨e, h2, h3⟩
   ·refine .inl ⟨h2, fun e he => ?_⟩
    rcases List.mem_cons.1 he with rfl | he
    ·exact c
    ·exact h3 e he
   ·exact .inr ⟨e, List.mem_cons_of_mem _ h2, h3⟩
theorem z3w {α τ : Type} {body : α → Unit → Option (Unit ⊕ τ)} {P : α → Prop} [DecidablePred P] {t : α → τ} {l : List α} (hb : ∀ e ∈ l, body e () = some (if P e then .inr (t e) else .inl ())) (hu : ∀ e ∈ l, ∀ e' ∈ l, P e → P e' → t e = t e') :
  (z5e (fun p => q3K body p ()) l = some (.inl ()) ∧ ∀ e ∈ l, ¬ P e) ∨ ∃ e ∈ l, P e ∧ z5e (fun p => q3K body p ()) l = some (.inr (t e)) := by
 by_cases c : ∃ e ∈ l, P e
 ·obtain ⟨e, he, hP⟩ := c
  refine .inr ⟨e, he, hP, z2w fun p hp => ?_⟩
  rcases z3L (p := p) (fun x hx => hb x (hp.subset hx)) with ⟨_, h⟩ | ⟨e', h1, h2, h3⟩
  ·exact absurd hP (h e (hp.symm.subset he))
  ·rw [h3, hu e he e' (hp.subset h1) hP h2]
 ·refine .inl ⟨z2w fun p hp => ?_, fun e he h => c ⟨e, he, h⟩⟩
  rcases z3L (p := p) (fun x hx => hb x (hp.subset hx)) with ⟨h, _⟩ | ⟨e', h1, h2, _⟩
  ·exact h
  ·exact absurd ⟨e', hp.subset h1, h2⟩ c
section
variable {ν : Type}
theorem q5Y (l : List (Int × ν)) {k : Int} {x : ν} (h : Z7 l k = some x) : V7 l k x = l := by
 induction l with
 | nil => cases h
 | cons p r ih =>
  obtain ⟨a, b⟩ := p
  simp only [Z7] at h
  simp only [V7]
  by_cases c : a = k
  ·rw [if_pos c] at h ⊢
   rw [← Kd h, c]
  ·rw [if_neg c] at h ⊢
   rw [ih h]
theorem q9H (l : List (Int × ν)) (k : Int) (x y : ν) : V7 (V7 l k x) k y = V7 l k y := by
 induction l with
 | nil => simp [V7]
 | cons p r ih =>
  obtain ⟨a, b⟩ := p
  simp only [V7]
  by_cases c : a = k
  ·rw [if_pos c, if_pos c]
   simp [V7]
  ·rw [if_neg c, if_neg c]
   simp only [V7, if_neg c]
   rw [ih]
theorem z5S (l : List (Int × ν)) {k k' : Int} (x y : ν) {u v : ν} (hk : k ≠ k') (h1 : Z7 l k = some u) (h2 : Z7 l k' = some v) : V7 (V7 l k x) k' y = V7 (V7 l k' y) k x := by
 induction l with
 | nil => cases h1
 | cons p r ih =>
  obtain ⟨a, b⟩ := p
  simp only [Z7] at h1 h2
  simp only [V7]
  by_cases c : a = k
  ·have c' : a ≠ k' := fun e => hk (c ▸ e)
   rw [if_pos c, if_neg c']
   simp only [V7]
   rw [if_neg (fun e => hk e), if_pos c]
  ·by_cases c' : a = k'
   ·rw [if_neg c, if_pos c']
    simp only [V7]
    rw [if_pos c', if_neg (fun e => hk e.symm)]
   ·rw [if_neg c] at h1
    rw [if_neg c'] at h2
    rw [if_neg c, if_neg c']
    simp only [V7]
    rw [if_neg c, if_neg c', ih h1 h2]
end
def cells {ν : Type} (g : Int → ν → ν) : List (Int × Option Int) → List (Int × ν) → List (Int × ν)
 | [], l => l
 | p :: r, l => match Z7 l p.1 with
  | some x => cells g r (V7 l p.1 (g p.1 x))
  | none => cells g r l
theorem q6r {ν : Type} (g : Int → ν → ν) : ∀ (p : List (Int × Option Int)) (l : List (Int × ν)) (k : Int), (p.map (·.1)).Nodup →
  Z7 (cells g p l) k = (Z7 l k).map fun x => if k ∈ p.map (·.1) then g k x else x
 | [], l, k, _ => by
  simp [cells]
 | q :: r, l, k, hn => by
  simp only [List.map_cons, List.nodup_cons] at hn
  simp only [cells]
  cases hq : Z7 l q.1 with
  | none =>
   simp only
   rw [q6r g r l k hn.2]
   by_cases c : k = q.1
   ·rw [c, hq]
    rfl
   ·cases Z7 l k with
    | none => rfl
    | some x =>
     simp only [Option.map_some, List.map_cons, List.mem_cons]
     congr 1
     by_cases d : k ∈ r.map (·.1)
     ·rw [if_pos d, if_pos (.inr d)]
     ·rw [if_neg d, if_neg (fun h => h.elim c d)]
  | some z =>
   simp only
   rw [q6r g r _ k hn.2]
   by_cases c : k = q.1
   ·rw [c, Z1, hq]
    simp only [Option.map_some, List.map_cons, List.mem_cons]
    rw [if_neg hn.1, if_pos (.inl trivial)]
   ·rw [Q6 _ _ c]
    cases Z7 l k with
    | none => rfl
    | some x =>
     simp only [Option.map_some, List.map_cons, List.mem_cons]
     congr 1
     by_cases d : k ∈ r.map (·.1)
     ·rw [if_pos d, if_pos (.inr d)]
     ·rw [if_neg d, if_neg (fun h => h.elim c d)]
theorem z4X {ν : Type} (g : Int → ν → ν) {p q : List (Int × Option Int)} (h : p.Perm q) : ∀ (l : List (Int × ν)), (p.map (·.1)).Nodup → cells g p l = cells g q l := by
 induction h with
 | nil => intro l _; rfl
 | cons x h ih =>
  intro l hn
  simp only [List.map_cons, List.nodup_cons] at hn
  simp only [cells]
  cases Z7 l x.1 with
  | none => exact ih l hn.2
  | some z => exact ih _ hn.2
 | swap x y r =>
  intro l hn
  simp only [List.map_cons, List.nodup_cons, List.mem_cons, not_or] at hn
  have hne : y.1 ≠ x.1 := hn.1.1
  simp only [cells]
  cases hx : Z7 l x.1 with
  | none =>
   cases hy : Z7 l y.1 with
   | none => simp only [hx]
   | some v =>
    simp only
    rw [Q6 _ _ (fun e => hne e.symm), hx]
  | some u =>
   cases hy : Z7 l y.1 with
   | none =>
    simp only
    rw [Q6 _ _ hne, hy]
   | some v =>
    simp only
    rw [Q6 _ _ (fun e => hne e.symm), hx, Q6 _ _ hne, hy]
    simp only
    rw [z5S _ _ _ hne hy hx]
 | trans h1 h2 ih1 ih2 =>
  intro l hn
  rw [ih1 l hn, ih2 l ((h1.map _).nodup_iff.1 hn)]
theorem q9L {ν τ : Type} {g : Int → ν → ν} {body : Int × Option Int → List (Int × ν) → Option (List (Int × ν) ⊕ τ)} : ∀ (p : List (Int × Option Int)) (l : List (Int × ν)),
  (∀ e ∈ p, ∀ l' x, Z7 l' e.1 = some x → Z7 l e.1 = some x → body e l' = some (.inl (V7 l' e.1 (g e.1 x)))) → (∀ e ∈ p, (Z7 l e.1).isSome = true) → (p.map (·.1)).Nodup → q3K body p l = some (.inl (cells g p l))
 | [], l, _, _, _ => rfl
 | q :: r, l, hb, hl, hn => by
  simp only [List.map_cons, List.nodup_cons] at hn
  obtain ⟨x, hx⟩ := Option.isSome_iff_exists.1 (hl q List.mem_cons_self)
  have h1 := hb q List.mem_cons_self l x hx hx
  simp only [q3K, h1, cells, hx]
  have hne : ∀ e ∈ r, e.1 ≠ q.1 := fun e he h => hn.1 (h ▸ List.mem_map_of_mem he)
  refine q9L r _ (fun e he l' y h2 h3 => ?_) (fun e he => ?_) hn.2
  ·rw [Q6 _ _ (hne e he)] at h3
   exact hb e (List.mem_cons_of_mem _ he) l' y h2 h3
  ·rw [Q6 _ _ (hne e he)]
   exact hl e (List.mem_cons_of_mem _ he)
theorem z4G {ν τ : Type} {g : Int → ν → ν} {body : Int × Option Int → List (Int × ν) → Option (List (Int × ν) ⊕ τ)} {mp : List (Int × Option Int)} {l : List (Int × ν)}
  (hb : ∀ e ∈ mp, ∀ l' x, Z7 l' e.1 = some x → Z7 l e.1 = some x → body e l' = some (.inl (V7 l' e.1 (g e.1 x)))) (hl : ∀ e ∈ mp, (Z7 l e.1).isSome = true) (hn : (mp.map (·.1)).Nodup) : z5e (fun p => q3K body p l) mp = some (.inl (cells g mp l)) :=
 z2w fun p hp => by
  rw [q9L p l (fun e he => hb e (hp.subset he)) (fun e he => hl e (hp.subset he)) ((hp.map _).nodup_iff.2 hn), z4X g hp l ((hp.map _).nodup_iff.2 hn)]
def roK (ro : List z8) (k : Int) : z8 := (ro[k.toNat]?).getD ⟨0, 0, []⟩
def neK (ne : List (List q8)) (k : Int) : List q8 := (ne[k.toNat]?).getD []
structure Fix (n : j1) (ro : List z8) (ne : List (List q8)) : Prop where
 net : q3R n
 ok : ∀ r ∈ ro, q2u n r
 many : ro.length ≤ 81
 nel : ne.length = ro.length
 nds : ∀ k : Nat, k < ro.length → G1 n (roK ro k) = some (neK ne k)
 close : ∀ g ∈ n.Gates, g.Close ≤ 9223372036854775807
section
variable {n : j1} {ro : List z8} {ne : List (List q8)}
theorem Fix.rok (F : Fix n ro ne) {k : Int} (h : 0 ≤ k ∧ k < (ro.length : Int)) : q2u n (roK ro k) := by
 have h1 : k.toNat < ro.length := by omega
 unfold roK
 rw [Kf h1]
 exact F.ok _ (List.getElem_mem h1)
theorem Fix.nq (F : Fix n ro ne) {k : Int} (h : 0 ≤ k ∧ k < (ro.length : Int)) : (∀ x ∈ neK ne k, q8R n (roK ro k).Steps.length x) ∧ (∀ i, i < (roK ro k).Steps.length → q9z (roK ro k) i (neK ne k)) ∧ (neK ne k).length * 32 ≤ 140737488355328 := by
 have h1 : k.toNat < ro.length := by omega
 have h2 := F.nds k.toNat h1
 rw [show ((k.toNat : Nat) : Int) = k by omega] at h2
 exact j0c F.net (F.rok h) h2
theorem Fix.idxR (F : Fix n ro ne) {k : Int} (h : 0 ≤ k ∧ k < (ro.length : Int)) : idx ro k = some (roK ro k) := by
 obtain ⟨x, h1, h2⟩ := q2T h.1 h.2
 rw [h1]
 unfold roK
 rw [h2]
 rfl
theorem Fix.idxN (F : Fix n ro ne) {k : Int} (h : 0 ≤ k ∧ k < (ro.length : Int)) : idx ne k = some (neK ne k) := by
 obtain ⟨x, h1, h2⟩ := q2T h.1 (by rw [F.nel]; exact h.2)
 rw [h1]
 unfold neK
 rw [h2]
 rfl
theorem q8d {r : z8} (h : q2u n r) : 0 < r.Steps.length := by
 obtain ⟨w, s, h1, _⟩ := h.last
 rw [h1]
 simp
end
structure LOk (n : j1) (ro : List z8) (ne : List (List q8)) (k : Int) (x : z7) : Prop where
 kr : 0 ≤ k ∧ k < (ro.length : Int)
 route : x.Route = roK ro k
 num : x.number = k
 seen : x.seen.length = x.Route.Steps.length
 gone : x.gone.length = x.Route.Steps.length
 sub : ∀ y ∈ x.needs, y ∈ neK ne k
 trk : ∀ y ∈ neK ne k, y.Kind ≠ 2 → y ∈ x.needs
 len : x.needs.length * 32 ≤ 140737488355328
 g0 : ∀ i : Nat, x.gone[i]? = some true → x.seen[0]? = some true
 leave : 0 ≤ x.leave ∧ x.leave ≤ 90
 clk : 0 ≤ x.clock ∧ (x.laps = true → x.clock < 60)
def q3J (x : z7) (y : q8) : Bool := if y.Kind = 2 then x.laps else if y.Kind = 5 then !((x.seen[0]?).getD true) else !((x.gone[y.At.toNat]?).getD true)
def W9 (x : z7) : List q8 := x.needs.filter (q3J x)
section
variable {n : j1} {ro : List z8} {ne : List (List q8)} {ar : List (Int × z7)} {k : Int} {x : z7}
theorem LOk.pos (F : Fix n ro ne) (h : LOk n ro ne k x) : 0 < x.Route.Steps.length := by
 rw [h.route]
 exact q8d (F.rok h.kr)
theorem LOk.seen0 (F : Fix n ro ne) (h : LOk n ro ne k x) : ∃ b, idx x.seen 0 = some b ∧ x.seen[0]? = some b := by
 have h1 : 0 < x.seen.length := by rw [h.seen]; exact h.pos F
 exact ⟨_, Q7 (j := 0) h1, Kf h1⟩
theorem LOk.need (F : Fix n ro ne) (h : LOk n ro ne k x) {y : q8} (hy : y ∈ x.needs) : q8R n x.Route.Steps.length y := by
 rw [h.route]
 exact (F.nq h.kr).1 y (h.sub y hy)
theorem z7U (F : Fix n ro ne) (h : LOk n ro ne k x) {y : q8} (hy : y ∈ x.needs) (ha : Z7 ar k = some x) : P0 (some k) y ar = some (q3J x y) := by
 unfold P0 q3J
 by_cases c2 : y.Kind = 2
 ·rw [if_pos c2, if_pos c2, Ka, ha, Ka]
 ·rw [if_neg c2, if_neg c2]
  by_cases c5 : y.Kind = 5
  ·obtain ⟨b, h1, h2⟩ := h.seen0 F
   rw [if_pos c5, if_pos c5, Ka, ha, Ka, h1, Ka, h2]
   rfl
  ·have h1 := (h.need F hy).at_ c2 c5
   have h2 : y.At < (x.gone.length : Int) := by rw [h.gone]; exact h1.2
   obtain ⟨b, h3, h4⟩ := q2T h1.1 h2
   rw [if_neg c5, if_neg c5, Ka, ha, Ka, h3, Ka, h4]
   rfl
theorem z6e (F : Fix n ro ne) (h : LOk n ro ne k x) (ha : Z7 ar k = some x) : p7 (some k) ar = some (W9 x) := by
 unfold p7
 rw [Ka, ha, Ka]
 have hlen := h.len
 obtain ⟨s, h1, h2⟩ := V4 (body := Y9 ar k x) (fun j s => s = (x.needs.take j).filter (q3J x)) x.needs.length 0 [] (by simp) (fun j s _ hj hs => by
  have hj : j < x.needs.length := by omega
  subst hs
  unfold Y9
  rw [Q7 hj, Ka, z7U F h (List.getElem_mem hj) ha, Ka, List.take_succ_eq_append_getElem hj, List.filter_append]
  have hl : ((x.needs.take j).filter (q3J x)).length ≤ j := Nat.le_trans (List.length_filter_le _ _) (by simp; omega)
  cases hb : q3J x x.needs[j] with
  | true =>
   rw [if_pos rfl, q0t (by omega) (by omega), Ka]
   exact ⟨_, rfl, by simp [hb]⟩
  | false =>
   rw [if_neg Kh]
   exact ⟨_, rfl, by simp [hb]⟩)
 rw [h1, Ka, h2, Nat.zero_add, List.take_length]
 rfl
theorem q2G {y : q8} : y ∈ W9 x ↔ y ∈ x.needs ∧ q3J x y = true := List.mem_filter
end
structure Inv (n : j1) (ro : List z8) (ne : List (List q8)) (bo : List q9) (gt : List z6) (mp : List (Int × Option Int)) (ar : List (Int × z7)) : Prop where
 bl : bo.length = n.Sections.length
 bb : ∀ s ∈ bo, (0 ≤ s.axles ∧ s.axles ≤ 400) ∧ (0 ≤ s.moving ∧ s.moving ≤ 5) ∧ 1 ≤ s.position ∧ s.position ≤ 2
 gl : gt.length = n.Gates.length
 gb : ∀ g ∈ gt, g.left ≤ 9223372036854775807
 nd : (mp.map (·.1)).Nodup
 en : ∀ p ∈ mp, p.2 = some p.1 ∧ ∃ x, Z7 ar p.1 = some x ∧ LOk n ro ne p.1 x
 ap : ∀ p ∈ mp, ∀ q ∈ mp, p.1 ≠ q.1 → ∀ x y, Z7 ar p.1 = some x → Z7 ar q.1 = some y → ∀ a ∈ W9 x, ∀ b ∈ W9 y, ¬ q3u a b
section
variable {n : j1} {ro : List z8} {ne : List (List q8)} {bo bo' : List q9} {gt gt' : List z6} {mp : List (Int × Option Int)} {ar : List (Int × z7)}
theorem Inv.gates (h : Inv n ro ne bo gt mp ar) (hl : gt'.length = gt.length) (hb : ∀ g ∈ gt', g.left ≤ 9223372036854775807) : Inv n ro ne bo gt' mp ar := ⟨h.bl, h.bb, hl.trans h.gl, hb, h.nd, h.en, h.ap⟩
theorem Inv.some_ (h : Inv n ro ne bo gt mp ar) : ∀ e ∈ mp, (Z7 ar e.1).isSome = true := fun e he => by
 obtain ⟨_, x, hx, _⟩ := h.en e he
 rw [hx]
 rfl
theorem z3D {κ ν : Type} [DecidableEq κ] {l : List (κ × ν)} {k : κ} {v : ν} (h : Z7 l k = some v) : (k, v) ∈ l := by
 induction l with
 | nil => cases h
 | cons p r ih =>
  obtain ⟨a, b⟩ := p
  simp only [Z7] at h
  by_cases c : a = k
  ·rw [if_pos c] at h
   rw [Kd h, c]
   exact List.mem_cons_self
  ·rw [if_neg c] at h
   exact List.mem_cons_of_mem _ (ih h)
theorem z2B {κ ν : Type} [DecidableEq κ] {l : List (κ × ν)} {k : κ} {v : ν} (hn : (l.map (·.1)).Nodup) (h : (k, v) ∈ l) : Z7 l k = some v := by
 induction l with
 | nil => cases h
 | cons p r ih =>
  obtain ⟨a, b⟩ := p
  simp only [List.map_cons, List.nodup_cons] at hn
  simp only [Z7]
  rcases List.mem_cons.1 h with h | h
  ·injection h with h1 h2
   rw [if_pos h1.symm, h2]
  ·rw [if_neg (fun e : a = k => hn.1 (by rw [e]; exact List.mem_map_of_mem (f := (·.1)) h))]
   exact ih hn.2 h
theorem z5U {κ ν : Type} [DecidableEq κ] {l : List (κ × ν)} {k : κ} (h : Z7 l k = none) : k ∉ l.map (·.1) := by
 induction l with
 | nil => simp
 | cons p r ih =>
  obtain ⟨a, b⟩ := p
  simp only [Z7] at h
  by_cases c : a = k
  ·rw [if_pos c] at h; cases h
  ·rw [if_neg c] at h
   simp only [List.map_cons, List.mem_cons, not_or]
   exact ⟨fun e => c e.symm, ih h⟩
theorem Inv.look (h : Inv n ro ne bo gt mp ar) (k : Int) : (q1e mp k none = none ∧ k ∉ mp.map (·.1)) ∨ (q1e mp k none = some k ∧ (k, some k) ∈ mp ∧ ∃ x, Z7 ar k = some x ∧ LOk n ro ne k x) := by
 cases hk : Z7 mp k with
 | none => exact .inl ⟨by simp [q1e, hk], z5U hk⟩
 | some v =>
  have h1 := z3D hk
  obtain ⟨h2, h3⟩ := h.en _ h1
  have h2 : v = some k := h2
  subst h2
  exact .inr ⟨by simp [q1e, hk], h1, h3⟩
end
theorem z7Y {τ : Type} {body : Nat → Unit → Option (Unit ⊕ τ)} {Q : Nat → Prop} [DecidablePred Q] {t : τ} {m : Nat} (hb : ∀ j, j < m → body j () = some (if Q j then .inr t else .inl ())) :
  (forM body m 0 () = some (.inl ()) ∧ ∀ j, j < m → ¬ Q j) ∨ (forM body m 0 () = some (.inr t) ∧ ∃ j, j < m ∧ Q j) := by
 rcases q2k (body := body) (fun k _ => ∀ j, j < k → ¬ Q j) (fun v => v = t ∧ ∃ j, j < m ∧ Q j) m 0 () (fun j h => by omega) (fun j s _ hj hI => by
  have hj : j < m := by omega
  rw [show s = () from rfl, hb j hj]
  by_cases c : Q j
  ·rw [if_pos c]
   exact .inr ⟨t, rfl, rfl, j, hj, c⟩
  ·rw [if_neg c]
   refine .inl ⟨(), rfl, fun i hi => ?_⟩
   by_cases e : i = j
   ·rw [e]; exact c
   ·exact hI i (by omega)) with ⟨s, h1, h2⟩ | ⟨v, h1, h2, h3⟩
 ·exact .inl ⟨h1, fun j hj => h2 j (by omega)⟩
 ·exact .inr ⟨by rw [h1, h2], h3⟩
open Classical in
theorem z6k {τ : Type} {body : Nat → Unit → Option (Unit ⊕ τ)} {Q : Nat → Prop} {t : τ} {m : Nat} (hb : ∀ j, j < m → body j () = some (if Q j then .inr t else .inl ())) :
  forM body m 0 () = some (if ∃ j, j < m ∧ Q j then .inr t else .inl ()) := by
 rcases z7Y hb with ⟨h1, h2⟩ | ⟨h1, h2⟩
 ·rw [h1, if_neg (fun ⟨j, h, hq⟩ => h2 j h hq)]
 ·rw [h1, if_pos h2]
def z8P (x : z7) (s : Int) : Prop := ∃ i, i < x.Route.Steps.length ∧ ((x.Route.Steps[i]?).getD ⟨0, 0, 0⟩).Section = s ∧ x.gone[i]? = some false
section
variable {n : j1} {ro : List z8} {ne : List (List q8)} {bo : List q9} {gt : List z6} {mp : List (Int × Option Int)} {ar : List (Int × z7)}
theorem z1o (F : Fix n ro ne) {k : Int} {x : z7} (h : LOk n ro ne k x) {s : Int} (ho : z8P x s) : ∃ a ∈ W9 x, a.Kind = 1 ∧ a.Place = s := by
 obtain ⟨i, h1, h2, h3⟩ := ho
 obtain ⟨a, ha, hk, hp, hat⟩ := (F.nq h.kr).2.1 i (by rw [← h.route]; exact h1)
 refine ⟨a, q2G.2 ⟨h.trk a ha (by omega), ?_⟩, hk, ?_⟩
 ·unfold q3J
  rw [if_neg (by omega), if_neg (by omega), hat, show ((i : Int)).toNat = i by omega, h3]
  rfl
 ·rw [hp, ← h2, h.route]
theorem z4F (F : Fix n ro ne) (h : Inv n ro ne bo gt mp ar) {p q : Int × Option Int} (hp : p ∈ mp) (hq : q ∈ mp) {x y : z7} (hx : Z7 ar p.1 = some x) (hy : Z7 ar q.1 = some y) {s : Int} (h1 : z8P x s) (h2 : z8P y s) : p.1 = q.1 := by
 refine Classical.byContradiction fun c => ?_
 obtain ⟨_, x', hx', kx⟩ := h.en p hp
 obtain ⟨_, y', hy', ky⟩ := h.en q hq
 rw [hx] at hx'
 rw [hy] at hy'
 rw [← Kd hx'] at kx
 rw [← Kd hy'] at ky
 obtain ⟨a, ha, ka, pa⟩ := z1o F kx h1
 obtain ⟨b, hb, kb, pb⟩ := z1o F ky h2
 exact h.ap p hp q hq c x y hx hy a ha b hb ⟨by rw [pa, pb], .inl ⟨.inl ka, .inl kb⟩⟩
open Classical in
theorem z4E (F : Fix n ro ne) (h : Inv n ro ne bo gt mp ar) (s : Int) {e : Int × Option Int} (he : e ∈ mp) :
  H2 mp ar s e () = some (if (∃ x, Z7 ar e.1 = some x ∧ z8P x s) then .inr (.inr (e.1, mp)) else .inl ()) := by
 obtain ⟨h1, x, hx, kx⟩ := h.en e he
 unfold H2
 rw [h1, Ka, hx, Ka]
 rw [z6k (Q := fun i => ((x.Route.Steps[i]?).getD ⟨0, 0, 0⟩).Section = s ∧ x.gone[i]? = some false) (t := .inr (.inr (e.1, mp))) (fun i hi => by
  have hg : i < x.gone.length := by rw [kx.gone]; exact hi
  unfold q1p
  rw [Q7 hi, Ka, Kf hi, Kf hg]
  by_cases c : x.Route.Steps[i].Section = s
  ·rw [if_pos c, hx, Ka, Q7 hg, Ka, Ka]
   cases hb : x.gone[i] with
   | true =>
    rw [if_neg (by simp), if_neg (by simp)]
   | false =>
    rw [if_pos (by simp), Ka, kx.num, if_pos ⟨c, rfl⟩]
  ·rw [if_neg c, Ka, if_neg (by simp), if_neg (fun h => c h.1)])]
 rw [Ka]
 by_cases c : ∃ i, i < x.Route.Steps.length ∧ ((x.Route.Steps[i]?).getD ⟨0, 0, 0⟩).Section = s ∧ x.gone[i]? = some false
 ·rw [if_pos c, if_pos ⟨x, rfl, c⟩]
  rfl
 ·rw [if_neg c, if_neg (fun ⟨y, hy, ho⟩ => c (by rw [← Kd hy] at ho; exact ho))]
  rfl
theorem z7K (F : Fix n ro ne) (h : Inv n ro ne bo gt mp ar) (a1 : List ByteArray) (a2 : List j3) (a3 : List k8) (a4 : List j7) (a5 : List Q1) (a6 : List z8) (a7 : List (List q8)) (a8 : List q9) (a9 : List z6) (s : Int) :
  ∃ r, q1B s a1 a2 a3 a4 a5 a6 a7 a8 a9 mp ar = some (r, mp) ∧ ((r = -1 ∧ ∀ e ∈ mp, ∀ x, Z7 ar e.1 = some x → ¬ z8P x s) ∨ ∃ x, (r, some r) ∈ mp ∧ Z7 ar r = some x ∧ z8P x s) := by
 classical
 unfold q1B
 rcases z3w (body := H2 mp ar s) (P := fun e => ∃ x, Z7 ar e.1 = some x ∧ z8P x s) (t := fun e => .inr (e.1, mp)) (l := mp) (fun e he => by
  rw [z4E F h s he]) (fun e he e' he' ⟨x, h1, h2⟩ ⟨y, h3, h4⟩ => by rw [z4F F h he he' h1 h3 h2 h4]) with ⟨h1, h2⟩ | ⟨e, he, ⟨x, hx, ho⟩, h1⟩
 ·refine ⟨-1, by rw [h1]; rfl, .inl ⟨rfl, fun e he x hx ho => h2 e he ⟨x, hx, ho⟩⟩⟩
 ·refine ⟨e.1, by rw [h1]; rfl, .inr ⟨x, ?_, hx, ho⟩⟩
  have := (h.en e he).1
  rw [← this]
  exact he
theorem z1F (y : q8) (l : List q8) [Decidable (∃ a ∈ l, q3u a y)] : X9 y.Kind y.Place y.Position y.At l = some (decide (∃ a ∈ l, q3u a y)) :=
 z4i (fun a => q3u a y) (fun k hk => by
  unfold q0a q0T
  rw [Q7 hk, Ka]
  have : q0U l[k] ⟨y.Kind, y.Place, y.Position, y.At⟩ = some (decide (q3u l[k] y)) := z0w _ _
  rw [this, Ka, Ka]
  by_cases c : q3u l[k] y
  ·rw [decide_eq_true c, if_pos rfl, if_pos c]
  ·rw [decide_eq_false c, if_neg Kh, if_neg c])
theorem q9P (F : Fix n ro ne) (h : Inv n ro ne bo gt mp ar) (a1 : List ByteArray) (a2 : List j3) (a3 : List k8) (a4 : List j7) (a5 : List Q1) (a7 : List (List q8)) (a8 : List q9) (a9 : List z6) {k : Int} (hk : 0 ≤ k ∧ k < (ro.length : Int)) (needs : List q8) :
  ∃ b, q0z k a1 a2 a3 a4 a5 ro a7 needs a8 a9 mp ar = some (b, mp) ∧ (b = false → ∀ e ∈ mp, ∀ x, Z7 ar e.1 = some x → ∀ y ∈ W9 x, ¬ (y.Kind = 2 ∧ x.Route.To = (roK ro k).From) → ∀ a ∈ needs, ¬ q3u a y) ∧ (b = true → ∃ e ∈ mp, ∃ x, Z7 ar e.1 = some x ∧ ∃ y ∈ W9 x, ¬ (y.Kind = 2 ∧ x.Route.To = (roK ro k).From) ∧ ∃ a ∈ needs, q3u a y) := by
 classical
 unfold q0z
 rcases z3w (body := Y4 ro needs mp ar k) (P := fun e => ∃ x, Z7 ar e.1 = some x ∧ ∃ i, i < (W9 x).length ∧ ∃ y, (W9 x)[i]? = some y ∧ ¬ (y.Kind = 2 ∧ x.Route.To = (roK ro k).From) ∧ ∃ a ∈ needs, q3u a y) (t := fun _ => .inr (true, mp)) (l := mp) (fun e he => by
  obtain ⟨h1, x, hx, kx⟩ := h.en e he
  unfold Y4
  rw [h1, z6e F kx hx, Ka]
  have key : (forM (J6 ro needs mp ar k (W9 x)) (W9 x).length 0 (some e.1) = some (.inl (some e.1)) ∧ ∀ i, i < (W9 x).length → ¬ ∃ y, (W9 x)[i]? = some y ∧ ¬ (y.Kind = 2 ∧ x.Route.To = (roK ro k).From) ∧ ∃ a ∈ needs, q3u a y) ∨
    (forM (J6 ro needs mp ar k (W9 x)) (W9 x).length 0 (some e.1) = some (.inr (.inr (.inr (true, mp)))) ∧ ∃ i, i < (W9 x).length ∧ ∃ y, (W9 x)[i]? = some y ∧ ¬ (y.Kind = 2 ∧ x.Route.To = (roK ro k).From) ∧ ∃ a ∈ needs, q3u a y) := by
   rcases q2k (body := J6 ro needs mp ar k (W9 x)) (fun j q => q = some e.1 ∧ ∀ i, i < j → ¬ ∃ y, (W9 x)[i]? = some y ∧ ¬ (y.Kind = 2 ∧ x.Route.To = (roK ro k).From) ∧ ∃ a ∈ needs, q3u a y)
    (fun v => v = .inr (.inr (true, mp)) ∧ ∃ i, i < (W9 x).length ∧ ∃ y, (W9 x)[i]? = some y ∧ ¬ (y.Kind = 2 ∧ x.Route.To = (roK ro k).From) ∧ ∃ a ∈ needs, q3u a y) (W9 x).length 0 (some e.1) ⟨rfl, fun i hi => by omega⟩ (fun j q _ hj hI => by
    obtain ⟨hq, hI⟩ := hI
    subst hq
    have hj : j < (W9 x).length := by omega
    have next : ¬ (∃ y, (W9 x)[j]? = some y ∧ ¬ (y.Kind = 2 ∧ x.Route.To = (roK ro k).From) ∧ ∃ a ∈ needs, q3u a y) → ∀ i, i < j + 1 → ¬ ∃ y, (W9 x)[i]? = some y ∧ ¬ (y.Kind = 2 ∧ x.Route.To = (roK ro k).From) ∧ ∃ a ∈ needs, q3u a y := fun c i hi => by
     by_cases e : i = j
     ·rw [e]; exact c
     ·exact hI i (by omega)
    unfold J6
    rw [Q7 hj, Ka, Ka, hx, Ka, F.idxR hk, Ka]
    have e1 : (if (W9 x)[j].Kind = 2 then some (some e.1, decide (x.Route.To = (roK ro k).From)) else some (some e.1, false)) = some (some e.1, decide ((W9 x)[j].Kind = 2 ∧ x.Route.To = (roK ro k).From)) := by
     by_cases c : (W9 x)[j].Kind = 2
     ·rw [if_pos c]
      congr 2
      exact decide_eq_decide.2 ⟨fun h => ⟨c, h⟩, fun h => h.2⟩
     ·rw [if_neg c, decide_eq_false (fun h => c h.1)]
    rw [e1, q1U]
    by_cases c : (W9 x)[j].Kind = 2 ∧ x.Route.To = (roK ro k).From
    ·rw [decide_eq_true c, if_pos rfl]
     refine .inl ⟨_, rfl, rfl, next fun ⟨y, h1, h2, _⟩ => h2 ?_⟩
     rw [Kf hj] at h1
     rw [← Kd h1]
     exact c
    ·rw [decide_eq_false c, if_neg Kh, z1F, Ka]
     by_cases c2 : ∃ a ∈ needs, q3u a (W9 x)[j]
     ·rw [decide_eq_true c2, if_pos rfl]
      exact .inr ⟨_, rfl, rfl, j, hj, _, Kf hj, c, c2⟩
     ·rw [decide_eq_false c2, if_neg Kh]
      refine .inl ⟨_, rfl, rfl, next fun ⟨y, h1, _, h3⟩ => c2 ?_⟩
      rw [Kf hj] at h1
      rw [Kd h1]
      exact h3) with ⟨q, h1, h2, h3⟩ | ⟨v, h1, h2, h3⟩
   ·exact .inl ⟨by rw [h1, h2], fun i hi => h3 i (by omega)⟩
   ·exact .inr ⟨by rw [h1, h2], h3⟩
  rcases key with ⟨h2, h3⟩ | ⟨h2, h3⟩
  ·rw [h2, if_neg (fun ⟨y, hy, i, hi, h4⟩ => by rw [hx] at hy; rw [← Kd hy] at hi h4; exact h3 i hi h4)]
   rfl
  ·rw [h2, if_pos ⟨x, hx, h3⟩]
   rfl) (fun _ _ _ _ _ _ => rfl) with ⟨h1, h2⟩ | ⟨e, he, hP, h1⟩
 ·refine ⟨false, by rw [h1]; rfl, fun _ e he x hx y hy hc a ha hm => h2 e he ?_, fun h => by cases h⟩
  obtain ⟨i, hi, hg⟩ := List.getElem_of_mem hy
  exact ⟨x, hx, i, hi, y, by rw [Kf hi, hg], hc, a, ha, hm⟩
 ·refine ⟨true, by rw [h1]; rfl, (fun h => by cases h), fun _ => ?_⟩
  obtain ⟨x, hx, i, hi, y, hy, hc, ha⟩ := hP
  exact ⟨e, he, x, hx, y, List.mem_of_getElem? hy, hc, ha⟩
end
def z7h (s : q9) : Prop := (0 ≤ s.axles ∧ s.axles ≤ 400) ∧ (0 ≤ s.moving ∧ s.moving ≤ 5) ∧ 1 ≤ s.position ∧ s.position ≤ 2
def z2c (m : Nat) (l : List q9) : Prop := l.length = m ∧ ∀ s ∈ l, z7h s
theorem z2c.get {m : Nat} {l : List q9} (h : z2c m l) {i : Int} (h0 : 0 ≤ i ∧ i < (m : Int)) : ∃ s, idx l i = some s ∧ z7h s := by
 obtain ⟨x, h1, h2⟩ := q2T h0.1 (by rw [h.1]; exact h0.2)
 exact ⟨x, h1, h.2 x (List.mem_of_getElem? h2)⟩
theorem z2c.put {m : Nat} {l : List q9} (h : z2c m l) (i : Int) {y : q9} (hy : z7h y) : z2c m (put l i y) :=
 ⟨by rw [w8]; exact h.1, fun s hs => by
  rcases List.mem_or_eq_of_mem_set hs with h1 | h1
  ·exact h.2 s h1
  ·rw [h1]; exact hy⟩
def z7j (m : Nat) (l : List z6) : Prop := l.length = m ∧ ∀ g ∈ l, g.left ≤ 9223372036854775807
theorem z7j.get {m : Nat} {l : List z6} (h : z7j m l) {i : Int} (h0 : 0 ≤ i ∧ i < (m : Int)) : ∃ s, idx l i = some s ∧ s.left ≤ 9223372036854775807 := by
 obtain ⟨x, h1, h2⟩ := q2T h0.1 (by rw [h.1]; exact h0.2)
 exact ⟨x, h1, h.2 x (List.mem_of_getElem? h2)⟩
theorem z7j.put {m : Nat} {l : List z6} (h : z7j m l) (i : Int) {y : z6} (hy : y.left ≤ 9223372036854775807) : z7j m (put l i y) :=
 ⟨by rw [w8]; exact h.1, fun s hs => by
  rcases List.mem_or_eq_of_mem_set hs with h1 | h1
  ·exact h.2 s h1
  ·rw [h1]; exact hy⟩
section
variable {n : j1} {ro : List z8} {ne : List (List q8)} {bo bo' : List q9} {gt gt' : List z6} {mp : List (Int × Option Int)} {ar : List (Int × z7)}
variable {a1 : List ByteArray} {a2 : List j3} {a3 : List k8} {a4 : List j7} {a5 : List Q1} {a6 : List z8} {a7 : List (List q8)} {a8 : List q9} {a9 : List z6} {b1 : List (Int × Option Int)} {b2 : List (Int × z7)}
theorem Inv.B (h : Inv n ro ne bo gt mp ar) : z2c n.Sections.length bo := ⟨h.bl, h.bb⟩
theorem Inv.G (h : Inv n ro ne bo gt mp ar) : z7j n.Gates.length gt := ⟨h.gl, h.gb⟩
theorem Inv.toB (h : Inv n ro ne bo gt mp ar) (hb : z2c n.Sections.length bo') : Inv n ro ne bo' gt mp ar := ⟨hb.1, hb.2, h.gl, h.gb, h.nd, h.en, h.ap⟩
theorem Inv.toG (h : Inv n ro ne bo gt mp ar) (hb : z7j n.Gates.length gt') : Inv n ro ne bo gt' mp ar := ⟨h.bl, h.bb, hb.1, hb.2, h.nd, h.en, h.ap⟩
theorem q5y (a : Int) : X0 a a1 a2 a3 a4 a5 ro a7 a8 a9 b1 b2 = some (decide (0 ≤ a ∧ a < (ro.length : Int))) := by
 unfold X0
 by_cases c : 0 ≤ a
 ·rw [if_pos c, Ka]
  congr 1
  exact decide_eq_decide.2 ⟨fun h => ⟨c, h⟩, fun h => h.2⟩
 ·rw [if_neg c, Ka, decide_eq_false (fun h => c h.1)]
theorem q5T (s : q9) : W0 s = some (decide (0 < s.axles) || s.disturbed) := by
 unfold W0
 by_cases c : 0 < s.axles
 ·rw [if_pos c, decide_eq_true c]; rfl
 ·rw [if_neg c, decide_eq_false c]; rfl
theorem Inv.less {mp' : List (Int × Option Int)} {ar' : List (Int × z7)} (h : Inv n ro ne bo gt mp ar) (hs : ∀ p ∈ mp', p ∈ mp) (hn : (mp'.map (·.1)).Nodup)
  (hx : ∀ p ∈ mp', ∀ x, Z7 ar p.1 = some x → LOk n ro ne p.1 x → ∃ x', Z7 ar' p.1 = some x' ∧ LOk n ro ne p.1 x' ∧ ∀ a ∈ W9 x', a ∈ W9 x) : Inv n ro ne bo gt mp' ar' :=
 ⟨h.bl, h.bb, h.gl, h.gb, hn, fun p hp => by
  obtain ⟨h1, x, h2, h3⟩ := h.en p (hs p hp)
  obtain ⟨x', h4, h5, _⟩ := hx p hp x h2 h3
  exact ⟨h1, x', h4, h5⟩, fun p hp q hq hne x y h1 h2 a ha b hb => by
  obtain ⟨_, x0, h3, h4⟩ := h.en p (hs p hp)
  obtain ⟨_, y0, h5, h6⟩ := h.en q (hs q hq)
  obtain ⟨x', h7, _, h8⟩ := hx p hp x0 h3 h4
  obtain ⟨y', h9, _, h10⟩ := hx q hq y0 h5 h6
  rw [h1] at h7
  rw [h2] at h9
  rw [← Kd h7] at h8
  rw [← Kd h9] at h10
  exact h.ap p (hs p hp) q (hs q hq) hne x0 y0 h3 h5 a (h8 a ha) b (h10 b hb)⟩
end
section
variable {n : j1} {ro : List z8} {ne : List (List q8)} {bo bo' : List q9} {gt gt' : List z6} {mp : List (Int × Option Int)} {ar : List (Int × z7)}
variable {a1 : List ByteArray} {a2 : List j3} {a3 : List k8} {a4 : List j7} {a5 : List Q1} {a6 : List z8} {a7 : List (List q8)} {a8 : List q9} {a9 : List z6} {b1 : List (Int × Option Int)} {b2 : List (Int × z7)}
end
theorem z2u {α β γ δ ε τ : Type} {A : α → β → γ → δ → ε → Option τ} {x : α} {y : β} {z : γ} {w : δ} {v : ε} : (some (x, y, z, w, v)).bind (z8G A) = A x y z w v := rfl
section
variable {n : j1} {ro : List z8} {ne : List (List q8)} {bo bo' : List q9} {gt gt' : List z6} {mp : List (Int × Option Int)} {ar : List (Int × z7)}
variable {a1 : List ByteArray} {a2 : List j3} {a3 : List k8} {a4 : List j7} {a5 : List Q1} {a6 : List z8} {a7 : List (List q8)} {a8 : List q9} {a9 : List z6} {b1 : List (Int × Option Int)} {b2 : List (Int × z7)}
theorem z0v {ν : Type} {l : List (Int × ν)} {k : Int} (h : k ∉ l.map (·.1)) (v : ν) : V7 l k v = l ++ [(k, v)] := by
 induction l with
 | nil => rfl
 | cons p r ih =>
  obtain ⟨a, b⟩ := p
  simp only [List.map_cons, List.mem_cons, not_or] at h
  simp only [V7]
  rw [if_neg (fun e => h.1 e.symm), ih h.2]
  rfl
theorem z5O (h : Inv n ro ne bo gt mp ar) {k : Int} (hk : k ∉ mp.map (·.1)) : z1q mp k = some () := by
 unfold z1q
 rw [if_pos]
 rw [List.all_eq_true]
 intro p hp
 refine decide_eq_true fun e => hk ?_
 rw [(h.en p hp).1] at e
 rw [← Kd e]
 exact List.mem_map_of_mem hp
def q8U (f : Int) (x : z7) : z7 := if x.Route.To = f then ⟨x.Route, x.needs, x.seen, x.gone, false, x.sight, x.leave, x.clock, x.number⟩ else x
theorem q5w {k : Int} {x : z7} (h : LOk n ro ne k x) (f : Int) : LOk n ro ne k (q8U f x) ∧ (∀ a ∈ W9 (q8U f x), a ∈ W9 x) ∧ ∀ a ∈ W9 (q8U f x), ¬ (a.Kind = 2 ∧ x.Route.To = f) := by
 unfold q8U
 by_cases c : x.Route.To = f
 ·rw [if_pos c]
  refine ⟨⟨h.kr, h.route, h.num, h.seen, h.gone, h.sub, h.trk, h.len, h.g0, h.leave, h.clk.1, fun h => by cases h⟩, fun a ha => ?_, fun a ha hc => ?_⟩
  ·obtain ⟨ha, hb⟩ := q2G.1 ha
   refine q2G.2 ⟨ha, ?_⟩
   unfold q3J at hb ⊢
   by_cases c2 : a.Kind = 2
   ·rw [if_pos c2] at hb
    cases hb
   ·rw [if_neg c2] at hb ⊢
    exact hb
  ·obtain ⟨ha, hb⟩ := q2G.1 ha
   unfold q3J at hb
   rw [if_pos hc.1] at hb
   cases hb
 ·rw [if_neg c]
  exact ⟨h, fun a ha => ha, fun a ha hc => c hc.2⟩
theorem j0f (h : Inv n ro ne bo gt mp ar) (r : z8) : z5e (fun p => q3K (q0k r) p ar) mp = some (.inl (cells (fun _ => q8U r.From) mp ar)) :=
 z4G (g := fun _ => q8U r.From) (fun e he l' x h1 h2 => by
  unfold q0k
  rw [(h.en e he).1, Ka, h1, Ka]
  unfold q8U
  by_cases c : x.Route.To = r.From
  ·rw [if_pos c, if_pos c]
  ·rw [if_neg c, if_neg c, q5Y l' h1]) h.some_ h.nd
end
section
variable {n : j1} {ro : List z8} {ne : List (List q8)} {bo bo' : List q9} {gt gt' : List z6} {mp : List (Int × Option Int)} {ar : List (Int × z7)}
variable {a1 : List ByteArray} {a2 : List j3} {a3 : List k8} {a4 : List j7} {a5 : List Q1} {a6 : List z8} {a7 : List (List q8)} {a8 : List q9} {a9 : List z6} {b1 : List (Int × Option Int)} {b2 : List (Int × z7)}
theorem z2A (F : Fix n ro ne) {k : Int} (hk : 0 ≤ k ∧ k < (ro.length : Int)) {l : List q8} (hl : ∀ y ∈ l, y ∈ neK ne k) : ∀ y ∈ l, (y.Kind = 1 ∨ y.Kind = 2 ∨ y.Position ≠ 0) → 0 ≤ y.Place ∧ y.Place < (n.Sections.length : Int) := fun y hy => ((F.nq hk).1 y (hl y hy)).place
def q4D (ro : List z8) (k : Int) (l : List q8) (i : Bool) : z7 := ⟨roK ro k, l, List.replicate (roK ro k).Steps.length false, List.replicate (roK ro k).Steps.length false, !i, i, 0, 0, k⟩
theorem j0b (F : Fix n ro ne) {k : Int} (hk : 0 ≤ k ∧ k < (ro.length : Int)) {l : List q8} (hl : ∀ y ∈ l, y ∈ neK ne k) (ht : ∀ y ∈ neK ne k, y.Kind ≠ 2 → y ∈ l) (hlen : l.length * 32 ≤ 140737488355328) (i : Bool) : LOk n ro ne k (q4D ro k l i) :=
 ⟨hk, rfl, rfl, by simp [q4D], by simp [q4D], hl, ht, hlen, fun j hj => (by
  have hj : (List.replicate (roK ro k).Steps.length false)[j]? = some true := hj
  rw [List.getElem?_replicate] at hj
  split at hj <;> cases hj), ⟨by simp [q4D], by simp [q4D]⟩, ⟨by simp [q4D], fun _ => by simp [q4D]⟩⟩
theorem Inv.add (F : Fix n ro ne) (h : Inv n ro ne bo gt mp ar) {k : Int} (hk : 0 ≤ k ∧ k < (ro.length : Int)) (hnew : k ∉ mp.map (·.1)) {l : List q8} (hl : ∀ y ∈ l, y ∈ neK ne k) (ht : ∀ y ∈ neK ne k, y.Kind ≠ 2 → y ∈ l) (hlen : l.length * 32 ≤ 140737488355328) (i : Bool)
  (hc : ∀ e ∈ mp, ∀ x, Z7 ar e.1 = some x → ∀ y ∈ W9 x, ¬ (y.Kind = 2 ∧ x.Route.To = (roK ro k).From) → ∀ a ∈ l, ¬ q3u a y) :
  Inv n ro ne bo gt (V7 mp k (some k)) (V7 (cells (fun _ => q8U (roK ro k).From) mp ar) k (q4D ro k l i)) := by
 have hm := z0v hnew (some k)
 have hne : ∀ e ∈ mp, e.1 ≠ k := fun e he hh => hnew (hh ▸ List.mem_map_of_mem he)
 have hX := j0b F hk hl ht hlen i
 have hold : ∀ e ∈ mp, ∃ x, Z7 ar e.1 = some x ∧ LOk n ro ne e.1 x ∧ Z7 (V7 (cells (fun _ => q8U (roK ro k).From) mp ar) k (q4D ro k l i)) e.1 = some (q8U (roK ro k).From x) := fun e he => by
  obtain ⟨_, x, h1, h2⟩ := h.en e he
  refine ⟨x, h1, h2, ?_⟩
  rw [Q6 _ _ (hne e he), q6r _ mp ar e.1 h.nd, h1]
  show some (if _ then _ else _) = _
  rw [if_pos (List.mem_map_of_mem he)]
 have hheld : ∀ a ∈ W9 (q4D ro k l i), a ∈ l := fun a ha => (q2G.1 ha).1
 refine ⟨h.bl, h.bb, h.gl, h.gb, ?_, fun p hp => ?_, fun p hp q hq hpq x y hx hy a ha b hb hmeet => ?_⟩
 ·rw [hm, List.map_append, List.nodup_append]
  refine ⟨h.nd, by simp, fun a ha b hb => ?_⟩
  have hb : b = k := by simpa using hb
  rw [hb]
  exact fun e => hnew (e ▸ ha)
 ·rw [hm] at hp
  rcases List.mem_append.1 hp with hp | hp
  ·obtain ⟨x, _, h2, h3⟩ := hold p hp
   exact ⟨(h.en p hp).1, _, h3, (q5w h2 _).1⟩
  ·rw [List.mem_singleton.1 hp]
   exact ⟨rfl, _, Z1 _ _ _, hX⟩
 ·rw [hm] at hp hq
  rcases List.mem_append.1 hp with hp | hp
  ·obtain ⟨x0, p1, p2, p3⟩ := hold p hp
   rw [p3] at hx
   rw [← Kd hx] at ha
   rcases List.mem_append.1 hq with hq | hq
   ·obtain ⟨y0, q1, q2, q3⟩ := hold q hq
    rw [q3] at hy
    rw [← Kd hy] at hb
    exact h.ap p hp q hq hpq x0 y0 p1 q1 a ((q5w p2 _).2.1 a ha) b ((q5w q2 _).2.1 b hb) hmeet
   ·rw [List.mem_singleton.1 hq] at hy
    have hy : Z7 (V7 (cells (fun _ => q8U (roK ro k).From) mp ar) k (q4D ro k l i)) k = some y := hy
    rw [Z1] at hy
    rw [← Kd hy] at hb
    exact hc p hp x0 p1 a ((q5w p2 _).2.1 a ha) ((q5w p2 _).2.2 a ha) b (hheld b hb) (z0x hmeet)
  ·rw [List.mem_singleton.1 hp] at hx hpq
   have hx : Z7 (V7 (cells (fun _ => q8U (roK ro k).From) mp ar) k (q4D ro k l i)) k = some x := hx
   rw [Z1] at hx
   rw [← Kd hx] at ha
   rcases List.mem_append.1 hq with hq | hq
   ·obtain ⟨y0, q1, q2, q3⟩ := hold q hq
    rw [q3] at hy
    rw [← Kd hy] at hb
    exact hc q hq y0 q1 b ((q5w q2 _).2.1 b hb) ((q5w q2 _).2.2 b hb) a (hheld a ha) hmeet
   ·rw [List.mem_singleton.1 hq] at hpq
    exact absurd rfl hpq
theorem z0y {ν : Type} : ∀ (l : List (Int × ν)) (k : Int), (q7L l k).Sublist l
 | [], _ => .slnil
 | (a, b) :: r, k => by
  simp only [q7L]
  split
  ·exact List.sublist_cons_self _ _
  ·exact List.Sublist.cons_cons _ (z0y r k)
theorem Inv.del (h : Inv n ro ne bo gt mp ar) (k : Int) : Inv n ro ne bo gt (q7L mp k) ar :=
 h.less (fun p hp => (z0y mp k).subset hp) ((z0y mp k).map _ |>.nodup h.nd) fun p _ x h1 h2 => ⟨x, h1, h2, fun a ha => ha⟩
theorem Inv.put (h : Inv n ro ne bo gt mp ar) {k : Int} {x x' : z7} (hx : Z7 ar k = some x) (h1 : LOk n ro ne k x → LOk n ro ne k x') (h2 : ∀ a ∈ W9 x', a ∈ W9 x) : Inv n ro ne bo gt mp (V7 ar k x') :=
 h.less (fun p hp => hp) h.nd fun p hp y h3 h4 => by
  by_cases c : p.1 = k
  ·rw [c] at h3 h4 ⊢
   rw [hx] at h3
   rw [← Kd h3] at h4 ⊢
   exact ⟨x', Z1 _ _ _, h1 h4, h2⟩
  ·exact ⟨y, by rw [Q6 _ _ c]; exact h3, h4, fun a ha => ha⟩
end
end Go.Proofs.YtjlollifgeggdaaGreatDoor
