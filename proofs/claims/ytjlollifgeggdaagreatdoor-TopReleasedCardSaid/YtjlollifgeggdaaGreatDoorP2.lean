import Derived.Test.YtjlollifgeggdaaGreatDoorP1
set_option linter.unusedVariables false
set_option linter.unusedSimpArgs false
set_option linter.unusedSectionVars false
namespace Go.Proofs.YtjlollifgeggdaaGreatDoor
open Go.RowKit Go.Fp
structure z1v (n : j3) (m : Nat) (x : q8) : Prop where
 kind : 1 ≤ x.Kind ∧ x.Kind ≤ 5
 at_ : x.Kind ≠ 2 → x.Kind ≠ 5 → 0 ≤ x.At ∧ x.At < (m : Int)
 place : x.Kind = 1 ∨ x.Kind = 2 ∨ x.Position ≠ 0 → 0 ≤ x.Place ∧ x.Place < (n.Sections.length : Int)
 pos : 0 ≤ x.Position
 pts : x.Position ≠ 0 → (sec n x.Place).Kind = 2
def KQ (n : j3) (m : Nat) (l0 : List q8) (S : List q8 × List (q8 × Bool)) : Prop :=
 (∀ x ∈ S.1, z1v n m x) ∧ (∀ x, q0D S.2 x false = true → x ∈ S.1) ∧ (∀ x ∈ l0, x ∈ S.1) ∧ S.1.length * 32 ≤ 140737488355328
theorem j4V {n : j3} {m : Nat} {l0 l : List q8} {S : List q8 × List (q8 × Bool)} (h : KQ n m l S) (h0 : ∀ x ∈ l0, x ∈ l) : KQ n m l0 S := ⟨h.1, h.2.1, fun x hx => h.2.2.1 x (h0 x hx), h.2.2.2⟩
section
variable {a : List ByteArray} {b : List j0} {c : List j9} {d : List j5} {e : List Q2} {f t : Int} {st lap : List v6} {n : j3} {m : Nat} {l0 : List q8}
theorem z6w {x : q8} {l : List q8} {mm : List (q8 × Bool)} (h : KQ n m l0 (l, mm)) (hx : z1v n m x) : Ens (Z6 x a b c d e f t st lap l mm) (KQ n m (x :: l0)) := by
 unfold Z6
 rw [Ka]
 refine Z9 (fun hq => w8 ⟨h.1, h.2.1, fun y hy => ?_, h.2.2.2⟩) fun _ => k8 fun _ hroom => w8 ⟨fun y hy => ?_, fun y hy => ?_, fun y hy => ?_, ?_⟩
 ·rcases List.mem_cons.1 hy with rfl | hy
  ·exact h.2.1 _ hq
  ·exact h.2.2.1 y hy
 ·rcases List.mem_append.1 hy with hy | hy
  ·exact h.1 y hy
  ·rw [List.mem_singleton.1 hy]; exact hx
 ·by_cases c : y = x
  ·rw [c]; exact List.mem_append_right _ (List.mem_singleton.2 rfl)
  ·have hy : (J4 (X7 mm x true) y).getD false = true := hy
   rw [Z5 _ _ c] at hy
   exact List.mem_append_left _ (h.2.1 y hy)
 ·rcases List.mem_cons.1 hy with rfl | hy
  ·exact List.mem_append_right _ (List.mem_singleton.2 rfl)
  ·exact List.mem_append_left _ (h.2.2.1 y hy)
 ·have := (W9 hroom).1
  simpa using this
theorem z8Z {x : q8} {l : List q8} {mm : List (q8 × Bool)} (h : KQ n m l0 (l, mm)) (hx : z1v n m x) : Ens ((Z6 x a b c d e f t st lap l mm).bind (q0q fun l' m' => some (l', m'))) (KQ n m l0) :=
 Z7 _ (z6w h hx) fun _ ha => w8 (j4V ha fun y hy => List.mem_cons_of_mem _ hy)
end
theorem z2s {n : j3} (hN : q3P n) {e g : v7} (h : q1Y n.Links e = some g) : Has n g := by
 obtain ⟨x, hx, h1 | h1⟩ := q6y h
 ·rw [← h1.2]; exact (hN.ends x hx).2
 ·rw [← h1.2]; exact (hN.ends x hx).1
theorem z9m {n : j3} (hN : q3P n) {m : Nat} {l0 : List q8} {f t : Int} {st lap : List v6} : ∀ (N : Nat) (g : v7) (many i : Int) (l : List q8) (mm : List (q8 × Bool)), 0 ≤ i ∧ i < (m : Int) → KQ n m l0 (l, mm) → Ens (Z4 N g many i n.Stations n.Sections n.Links n.Signals n.Gates f t st lap l mm) (KQ n m l0)
 | 0, g, many, i, l, mm, hi, h => q8p
 | N + 1, g, many, i, l, mm, hi, h => by
  have keep : Ens (some (l, mm)) (KQ n m l0) := w8 h
  unfold Z4
  have hj : Y1 (⟨n.Stations, n.Sections, n.Links, n.Signals, n.Gates⟩ : j3) g = some (q7w (q1Y n.Links g)) := q5j n g
  rw [hj]
  refine k8 fun ⟨q1, q2, q3⟩ hq => ?_
  have hz : q1 = true → Has n ⟨q2, q3⟩ := fun h1 => by
   cases hg : q1Y n.Links g with
   | none =>
    rw [hg] at hq
    have hq : some (false, _, _) = some (q1, q2, q3) := hq
    injection hq with hq
    injection hq with hq _
    rw [h1] at hq
    cases hq
   | some z =>
    rw [hg] at hq
    have hq : some (true, z.section_, z.end_) = some (q1, q2, q3) := hq
    injection hq with hq
    injection hq with _ hq
    injection hq with e1 e2
    rw [← e1, ← e2]
    exact z2s hN hg
  show Ens (Option.bind _ _) _
  refine k8 fun q hq2 => Z9 (fun _ => keep) fun hqn => ?_
  have h1 : q1 = true := by
   cases q1 with
   | true => rfl
   | false =>
    have hq2 : (if false = true then _ else some true) = some q := hq2
    rw [if_neg Kh] at hq2
    exact absurd (Kd hq2).symm hqn
  have hz := hz h1
  refine k8 fun s hs => Z7 (fun o : Unit ⊕ _ => ∀ S, o = .inr S → KQ n m l0 S) ?_ ?_
  ·have hs : s = sec n q2 := by
    have := q2r (n := n) hz.1
    simp only at this
    rw [this] at hs
    exact (Kd hs).symm
   refine k8 fun q hq => Z9 (fun hq1 => ?_) fun _ => Z9 (fun _ => k8 fun v _ => Z9 (fun _ => ?_) fun _ => ?_) fun _ => ?_
   ·refine Z7 (KQ n m l0) ?_ fun ⟨u, v⟩ hS => w8 fun S hs => by injection hs with hs; rw [← hs]; exact hS
    refine k8 fun q _ => Z9 (fun _ => keep) fun _ => k8 fun _ _ => z8Z h ?_
    have hk : s.Kind = 2 ∧ 0 < q3 := by
     by_cases c : s.Kind = 2
     ·rw [if_pos c] at hq
      have := Kd hq
      rw [hq1] at this
      exact ⟨c, of_decide_eq_true this⟩
     ·rw [if_neg c] at hq
      have := Kd hq
      rw [hq1] at this
      cases this
    have h2 := hz.2
    simp only at h2
    rw [← hs, hk.1] at h2
    have h3 : q5M 2 = 3 := by decide
    rw [h3] at h2
    exact ⟨by simp, fun _ _ => hi, fun _ => hz.1, by simp only; omega, fun _ => by simp only; rw [← hs]; exact hk.1⟩
   ·refine Z7 (KQ n m l0) ?_ fun ⟨u, v⟩ hS => w8 fun S hs => by injection hs with hs; rw [← hs]; exact hS
    exact Z9 (fun _ => z8Z h ⟨by simp, fun _ _ => hi, fun h => by simp at h, by simp, fun h => absurd rfl h⟩) fun _ => keep
   ·exact w8 fun S hs => by cases hs
   ·exact w8 fun S hs => by cases hs
  ·rintro (u | S) hS
   ·rw [Sum.elim_inl]
    refine k8 fun o _ => Z7 (KQ n m l0) ?_ fun ⟨u, v⟩ hS => w8 hS
    refine z0i (fun k ⟨l', m'⟩ hk => ?_) _ _ _ h
    unfold W0
    show Ens (Option.bind _ _) _
    exact k8 fun _ _ => k8 fun _ _ => Z7 (KQ n m l0) (z9m hN N _ _ _ _ _ hi hk) fun ⟨u, v⟩ hS => w8 hS
   ·rw [Sum.elim_inr]
    exact w8 (hS S rfl)
theorem j4S {n : j3} (hN : q3P n) {m : Nat} {l0 : List q8} {f t : Int} {st lap : List v6} (i : Int) (l : List q8) (mm : List (q8 × Bool)) (hi : 0 ≤ i ∧ i < (m : Int)) (h : KQ n m l0 (l, mm)) : Ens (H4 i n.Stations n.Sections n.Links n.Signals n.Gates f t st lap l mm) (KQ n m l0) := by
 unfold H4
 refine k8 fun ⟨x, y, z⟩ _ => ?_
 show Ens (Option.bind _ _) _
 refine k8 fun _ _ => k8 fun _ _ => k8 fun _ _ => Z7 (KQ n m l0) ?_ fun ⟨u, v⟩ hS => w8 hS
 refine z0i (fun k ⟨l', m'⟩ hk => ?_) _ _ _ h
 unfold V1
 show Ens (Option.bind _ _) _
 exact k8 fun _ _ => Z9 (fun _ => Z7 (KQ n m l0) (z3v fun N => z9m hN N _ _ _ _ _ hi hk) fun ⟨u, v⟩ hS => w8 hS) fun _ => w8 hk
theorem q4t {σ : Type} {body : Nat → σ → Option σ} {I : Nat → σ → Prop} : ∀ (m k : Nat) (s : σ), (∀ j s, k ≤ j → j < k + m → I j s → Ens (body j s) (I (j + 1))) → I k s → Ens (forS body m k s) (I (k + m))
 | 0, k, s, h, hs => w8 hs
 | m + 1, k, s, h, hs => by
  show Ens ((body k s).bind _) _
  refine Z7 (I (k + 1)) (h k s (by omega) (by omega) hs) fun a ha => ?_
  rw [show k + (m + 1) = (k + 1) + m by omega]
  exact q4t m (k + 1) a (fun j s h1 h2 => h j s (by omega) (by omega)) ha
theorem z2o {n : j3} {s : v6} (h : q3H n s) {p : Int} (hp : K3 n s = some p) : 0 ≤ p ∧ (p ≠ 0 → (sec n s.Section).Kind = 2) := by
 unfold K3 at hp
 have i1 := q2r (n := n) h.1.1
 simp only at i1
 rw [i1, Ka] at hp
 have h1 := h.1.2
 simp only at h1
 by_cases c : (sec n s.Section).Kind = 2
 ·rw [if_pos c] at hp
  have := Kd hp
  exact ⟨by omega, fun _ => c⟩
 ·rw [if_neg c] at hp
  have := Kd hp
  exact ⟨by omega, fun h => absurd this.symm h⟩
def z2h (r : z7) (i : Nat) (l : List q8) : Prop := ∃ x ∈ l, x.Kind = 1 ∧ x.Place = ((r.Steps[i]?).getD ⟨0, 0, 0⟩).Section ∧ x.At = (i : Int)
theorem z2g {r : z7} {i : Nat} {l l' : List q8} (h : z2h r i l) (hm : ∀ x ∈ l, x ∈ l') : z2h r i l' := let ⟨x, h1, h2⟩ := h; ⟨x, hm x h1, h2⟩
def TQ (n : j3) (r : z7) (k : Nat) (S : List q8 × List (q8 × Bool)) : Prop := ∃ l0, KQ n r.Steps.length l0 S ∧ ∀ i, i < k → z2h r i l0
theorem j3z {n : j3} (hN : q3P n) {r : z7} (hr : q2s n r) {l : List q8} (h : Y0 n r = some l) : (∀ x ∈ l, z1v n r.Steps.length x) ∧ (∀ i, i < r.Steps.length → z2h r i l) ∧ l.length * 32 ≤ 140737488355328 := by
 obtain ⟨lap, ho, _, hl⟩ := q4G hN hr
 have hst := hr.way.path.step
 have f1 : Ens (forS (F5 n r lap) r.Steps.length 0 ([], [])) (TQ n r (0 + r.Steps.length)) := q4t (I := TQ n r) _ _ _ (fun k ⟨l', m'⟩ _ hk ⟨l0, h1, h2⟩ => by
  have hk : k < r.Steps.length := by omega
  have hs := hst _ (List.getElem_mem hk)
  unfold F5
  show Ens (Option.bind _ _) _
  rw [Q6 hk, Ka]
  refine k8 fun p hp => ?_
  have hq := z2o hs hp
  refine Z7 _ (z6w h1 ⟨by simp, fun _ _ => by simp only; omega, fun _ => hs.1.1, hq.1, hq.2⟩) fun ⟨u, v⟩ hu => w8 ⟨_, hu, fun i hi => ?_⟩
  by_cases c : i = k
  ·subst c
   exact ⟨_, List.mem_cons_self, rfl, by rw [Kf hk]; rfl, rfl⟩
  ·exact z2g (h2 i (by omega)) fun x hx => List.mem_cons_of_mem _ hx) ⟨[], ⟨fun x hx => (List.not_mem_nil hx).elim, fun x hx => by simp [q0D, J4] at hx, fun x hx => (List.not_mem_nil hx).elim, by simp⟩, fun i hi => by omega⟩
 have f2 : ∀ S, TQ n r (0 + r.Steps.length) S → Ens (forS (F4 n r lap) lap.length 0 S) (TQ n r (0 + r.Steps.length)) := fun S hS => q4t (I := fun _ => TQ n r (0 + r.Steps.length)) _ _ _ (fun k ⟨l', m'⟩ _ hk ⟨l0, h1, h2⟩ => by
  have hk : k < lap.length := by omega
  have hs := hl _ (List.getElem_mem hk)
  unfold F4
  show Ens (Option.bind _ _) _
  rw [Q6 hk, Ka]
  refine k8 fun p hp => ?_
  have hq := z2o hs hp
  exact Z7 _ (z6w h1 ⟨by simp, fun h => absurd rfl h, fun _ => hs.1.1, hq.1, hq.2⟩) fun ⟨u, v⟩ hu => w8 ⟨_, j4V hu fun x hx => List.mem_cons_of_mem _ hx, h2⟩) hS
 have f3 : ∀ S, TQ n r (0 + r.Steps.length) S → Ens (forS (F3 n r lap) r.Steps.length 0 S) (TQ n r (0 + r.Steps.length)) := fun S hS => q4t (I := fun _ => TQ n r (0 + r.Steps.length)) _ _ _ (fun k ⟨l', m'⟩ _ hk ⟨l0, h1, h2⟩ => by
  unfold F3
  show Ens (Option.bind _ _) _
  exact Z7 _ (j4S hN _ _ _ ⟨by omega, by omega⟩ h1) fun ⟨u, v⟩ hu => w8 ⟨_, hu, h2⟩) hS
 have h0 : Ens (Y0 n r) (fun l => (∀ x ∈ l, z1v n r.Steps.length x) ∧ (∀ i, i < r.Steps.length → z2h r i l) ∧ l.length * 32 ≤ 140737488355328) := by
  unfold Y0
  rw [ho, Ka, Ka]
  show Ens (Option.bind _ _) _
  refine Z7 _ f1 fun S h1 => ?_
  obtain ⟨u, v⟩ := S
  show Ens (Option.bind _ _) _
  refine Z7 _ (f2 (u, v) h1) fun S h2 => ?_
  obtain ⟨u, v⟩ := S
  show Ens (Option.bind _ _) _
  refine Z7 _ (f3 (u, v) h2) fun S h3 => ?_
  obtain ⟨u, v⟩ := S
  obtain ⟨l0, h3, h4⟩ := h3
  show Ens (Option.bind _ _) _
  refine Z7 _ (z6w h3 ⟨by simp, fun _ h => absurd rfl h, fun h => by simp at h, by simp, fun h => absurd rfl h⟩) fun S h5 => ?_
  obtain ⟨u, v⟩ := S
  exact w8 ⟨h5.1, fun i hi => z2g (h4 i (by omega)) fun x hx => h5.2.2.1 x (List.mem_cons_of_mem _ hx), h5.2.2.2⟩
 exact h0 l h
theorem z6I {α τ : Type} {body : α → Unit → Option (Unit ⊕ τ)} {P : α → Prop} [DecidablePred P] {t : α → τ} {p : List α} (hb : ∀ e ∈ p, body e () = some (if P e then .inr (t e) else .inl ())) :
  (q4L body p () = some (.inl ()) ∧ ∀ e ∈ p, ¬ P e) ∨ ∃ e ∈ p, P e ∧ q4L body p () = some (.inr (t e)) := by
 induction p with
 | nil => exact .inl ⟨rfl, fun e h => by cases h⟩
 | cons a p ih =>
  have h1 := hb a List.mem_cons_self
  by_cases c : P a
  ·rw [if_pos c] at h1
   exact .inr ⟨a, List.mem_cons_self, c, by simp only [q4L, h1]⟩
  ·rw [if_neg c] at h1
   have e1 : q4L body (a :: p) () = q4L body p () := by simp only [q4L, h1]
   rw [e1]
   rcases ih fun e he => hb e (List.mem_cons_of_mem _ he) with ⟨h2, h3⟩ | ⟨e, h2, h3⟩
   ·refine .inl ⟨h2, fun e he => ?_⟩
    rcases List.mem_cons.1 he with rfl | he
    ·exact c
    ·exact h3 e he
   ·exact .inr ⟨e, List.mem_cons_of_mem _ h2, h3⟩
theorem z6t {α τ : Type} {body : α → Unit → Option (Unit ⊕ τ)} {P : α → Prop} [DecidablePred P] {t : α → τ} {l : List α} (hb : ∀ e ∈ l, body e () = some (if P e then .inr (t e) else .inl ())) (hu : ∀ e ∈ l, ∀ e' ∈ l, P e → P e' → t e = t e') :
  (z5w (fun p => q4L body p ()) l = some (.inl ()) ∧ ∀ e ∈ l, ¬ P e) ∨ ∃ e ∈ l, P e ∧ z5w (fun p => q4L body p ()) l = some (.inr (t e)) := by
 by_cases c : ∃ e ∈ l, P e
 ·obtain ⟨e, he, hP⟩ := c
  refine .inr ⟨e, he, hP, z5v fun p hp => ?_⟩
  rcases z6I (p := p) (fun x hx => hb x (hp.subset hx)) with ⟨_, h⟩ | ⟨e', h1, h2, h3⟩
  ·exact absurd hP (h e (hp.symm.subset he))
  ·rw [h3, hu e he e' (hp.subset h1) hP h2]
 ·refine .inl ⟨z5v fun p hp => ?_, fun e he h => c ⟨e, he, h⟩⟩
  rcases z6I (p := p) (fun x hx => hb x (hp.subset hx)) with ⟨h, _⟩ | ⟨e', h1, h2, _⟩
  ·exact h
  ·exact absurd ⟨e', hp.subset h1, h2⟩ c
section
variable {ν : Type}
theorem q6s (l : List (Int × ν)) {k : Int} {x : ν} (h : J4 l k = some x) : X7 l k x = l := by
 induction l with
 | nil => cases h
 | cons p r ih =>
  obtain ⟨a, b⟩ := p
  simp only [J4] at h
  simp only [X7]
  by_cases c : a = k
  ·rw [if_pos c] at h ⊢
   rw [← Kd h, c]
  ·rw [if_neg c] at h ⊢
   rw [ih h]
theorem q6Y (l : List (Int × ν)) (k : Int) (x y : ν) : X7 (X7 l k x) k y = X7 l k y := by
 induction l with
 | nil => simp [X7]
 | cons p r ih =>
  obtain ⟨a, b⟩ := p
  simp only [X7]
  by_cases c : a = k
  ·rw [if_pos c, if_pos c]
   simp [X7]
  ·rw [if_neg c, if_neg c]
   simp only [X7, if_neg c]
   rw [ih]
theorem z9d (l : List (Int × ν)) {k k' : Int} (x y : ν) {u v : ν} (hk : k ≠ k') (h1 : J4 l k = some u) (h2 : J4 l k' = some v) : X7 (X7 l k x) k' y = X7 (X7 l k' y) k x := by
 induction l with
 | nil => cases h1
 | cons p r ih =>
  obtain ⟨a, b⟩ := p
  simp only [J4] at h1 h2
  simp only [X7]
  by_cases c : a = k
  ·have c' : a ≠ k' := fun e => hk (c ▸ e)
   rw [if_pos c, if_neg c']
   simp only [X7]
   rw [if_neg (fun e => hk e), if_pos c]
  ·by_cases c' : a = k'
   ·rw [if_neg c, if_pos c']
    simp only [X7]
    rw [if_pos c', if_neg (fun e => hk e.symm)]
   ·rw [if_neg c] at h1
    rw [if_neg c'] at h2
    rw [if_neg c, if_neg c']
    simp only [X7]
    rw [if_neg c, if_neg c', ih h1 h2]
end
def cells {ν : Type} (g : Int → ν → ν) : List (Int × Option Int) → List (Int × ν) → List (Int × ν)
 | [], l => l
 | p :: r, l => match J4 l p.1 with
  | some x => cells g r (X7 l p.1 (g p.1 x))
  | none => cells g r l
theorem q5p {ν : Type} (g : Int → ν → ν) : ∀ (p : List (Int × Option Int)) (l : List (Int × ν)) (k : Int), (p.map (·.1)).Nodup →
  J4 (cells g p l) k = (J4 l k).map fun x => if k ∈ p.map (·.1) then g k x else x
 | [], l, k, _ => by
  simp [cells]
 | q :: r, l, k, hn => by
  simp only [List.map_cons, List.nodup_cons] at hn
  simp only [cells]
  cases hq : J4 l q.1 with
  | none =>
   simp only
   rw [q5p g r l k hn.2]
   by_cases c : k = q.1
   ·rw [c, hq]
    rfl
   ·cases J4 l k with
    | none => rfl
    | some x =>
     simp only [Option.map_some, List.map_cons, List.mem_cons]
     congr 1
     by_cases d : k ∈ r.map (·.1)
     ·rw [if_pos d, if_pos (.inr d)]
     ·rw [if_neg d, if_neg (fun h => h.elim c d)]
  | some z =>
   simp only
   rw [q5p g r _ k hn.2]
   by_cases c : k = q.1
   ·rw [c, J0, hq]
    simp only [Option.map_some, List.map_cons, List.mem_cons]
    rw [if_neg hn.1, if_pos (.inl trivial)]
   ·rw [Z5 _ _ c]
    cases J4 l k with
    | none => rfl
    | some x =>
     simp only [Option.map_some, List.map_cons, List.mem_cons]
     congr 1
     by_cases d : k ∈ r.map (·.1)
     ·rw [if_pos d, if_pos (.inr d)]
     ·rw [if_neg d, if_neg (fun h => h.elim c d)]
theorem z7W {ν : Type} (g : Int → ν → ν) {p q : List (Int × Option Int)} (h : p.Perm q) : ∀ (l : List (Int × ν)), (p.map (·.1)).Nodup → cells g p l = cells g q l := by
 induction h with
 | nil => intro l _; rfl
 | cons x h ih =>
  intro l hn
  simp only [List.map_cons, List.nodup_cons] at hn
  simp only [cells]
  cases J4 l x.1 with
  | none => exact ih l hn.2
  | some z => exact ih _ hn.2
 | swap x y r =>
  intro l hn
  simp only [List.map_cons, List.nodup_cons, List.mem_cons, not_or] at hn
  have hne : y.1 ≠ x.1 := hn.1.1
  simp only [cells]
  cases hx : J4 l x.1 with
  | none =>
   cases hy : J4 l y.1 with
   | none => simp only [hx]
   | some v =>
    simp only
    rw [Z5 _ _ (fun e => hne e.symm), hx]
  | some u =>
   cases hy : J4 l y.1 with
   | none =>
    simp only
    rw [Z5 _ _ hne, hy]
   | some v =>
    simp only
    rw [Z5 _ _ (fun e => hne e.symm), hx, Z5 _ _ hne, hy]
    simp only
    rw [z9d _ _ _ hne hy hx]
 | trans h1 h2 ih1 ih2 =>
  intro l hn
  rw [ih1 l hn, ih2 l ((h1.map _).nodup_iff.1 hn)]
theorem z2x {ν τ : Type} {g : Int → ν → ν} {body : Int × Option Int → List (Int × ν) → Option (List (Int × ν) ⊕ τ)} : ∀ (p : List (Int × Option Int)) (l : List (Int × ν)),
  (∀ e ∈ p, ∀ l' x, J4 l' e.1 = some x → J4 l e.1 = some x → body e l' = some (.inl (X7 l' e.1 (g e.1 x)))) → (∀ e ∈ p, (J4 l e.1).isSome = true) → (p.map (·.1)).Nodup → q4L body p l = some (.inl (cells g p l))
 | [], l, _, _, _ => rfl
 | q :: r, l, hb, hl, hn => by
  simp only [List.map_cons, List.nodup_cons] at hn
  obtain ⟨x, hx⟩ := Option.isSome_iff_exists.1 (hl q List.mem_cons_self)
  have h1 := hb q List.mem_cons_self l x hx hx
  simp only [q4L, h1, cells, hx]
  have hne : ∀ e ∈ r, e.1 ≠ q.1 := fun e he h => hn.1 (h ▸ List.mem_map_of_mem he)
  refine z2x r _ (fun e he l' y h2 h3 => ?_) (fun e he => ?_) hn.2
  ·rw [Z5 _ _ (hne e he)] at h3
   exact hb e (List.mem_cons_of_mem _ he) l' y h2 h3
  ·rw [Z5 _ _ (hne e he)]
   exact hl e (List.mem_cons_of_mem _ he)
theorem z2q {ν τ : Type} {g : Int → ν → ν} {body : Int × Option Int → List (Int × ν) → Option (List (Int × ν) ⊕ τ)} {mp : List (Int × Option Int)} {l : List (Int × ν)}
  (hb : ∀ e ∈ mp, ∀ l' x, J4 l' e.1 = some x → J4 l e.1 = some x → body e l' = some (.inl (X7 l' e.1 (g e.1 x)))) (hl : ∀ e ∈ mp, (J4 l e.1).isSome = true) (hn : (mp.map (·.1)).Nodup) : z5w (fun p => q4L body p l) mp = some (.inl (cells g mp l)) :=
 z5v fun p hp => by
  rw [z2x p l (fun e he => hb e (hp.subset he)) (fun e he => hl e (hp.subset he)) ((hp.map _).nodup_iff.2 hn), z7W g hp l ((hp.map _).nodup_iff.2 hn)]
def roK (ro : List z7) (k : Int) : z7 := (ro[k.toNat]?).getD ⟨0, 0, []⟩
def neK (ne : List (List q8)) (k : Int) : List q8 := (ne[k.toNat]?).getD []
structure Fix (n : j3) (ro : List z7) (ne : List (List q8)) : Prop where
 net : q3P n
 ok : ∀ r ∈ ro, q2s n r
 many : ro.length ≤ 81
 nel : ne.length = ro.length
 nds : ∀ k : Nat, k < ro.length → Y0 n (roK ro k) = some (neK ne k)
 close : ∀ g ∈ n.Gates, g.Close ≤ 9223372036854775807
section
variable {n : j3} {ro : List z7} {ne : List (List q8)}
theorem Fix.rok (F : Fix n ro ne) {k : Int} (h : 0 ≤ k ∧ k < (ro.length : Int)) : q2s n (roK ro k) := by
 have h1 : k.toNat < ro.length := by omega
 unfold roK
 rw [Kf h1]
 exact F.ok _ (List.getElem_mem h1)
theorem Fix.nq (F : Fix n ro ne) {k : Int} (h : 0 ≤ k ∧ k < (ro.length : Int)) : (∀ x ∈ neK ne k, z1v n (roK ro k).Steps.length x) ∧ (∀ i, i < (roK ro k).Steps.length → z2h (roK ro k) i (neK ne k)) ∧ (neK ne k).length * 32 ≤ 140737488355328 := by
 have h1 : k.toNat < ro.length := by omega
 have h2 := F.nds k.toNat h1
 rw [show ((k.toNat : Nat) : Int) = k by omega] at h2
 exact j3z F.net (F.rok h) h2
theorem Fix.idxR (F : Fix n ro ne) {k : Int} (h : 0 ≤ k ∧ k < (ro.length : Int)) : idx ro k = some (roK ro k) := by
 obtain ⟨x, h1, h2⟩ := q4r h.1 h.2
 rw [h1]
 unfold roK
 rw [h2]
 rfl
theorem Fix.idxN (F : Fix n ro ne) {k : Int} (h : 0 ≤ k ∧ k < (ro.length : Int)) : idx ne k = some (neK ne k) := by
 obtain ⟨x, h1, h2⟩ := q4r h.1 (by rw [F.nel]; exact h.2)
 rw [h1]
 unfold neK
 rw [h2]
 rfl
theorem z3S {r : z7} (h : q2s n r) : 0 < r.Steps.length := by
 obtain ⟨w, s, h1, _⟩ := h.last
 rw [h1]
 simp
end
structure LOk (n : j3) (ro : List z7) (ne : List (List q8)) (k : Int) (x : z6) : Prop where
 kr : 0 ≤ k ∧ k < (ro.length : Int)
 route : x.Route = roK ro k
 num : x.number = k
 seen : x.seen.length = x.Route.Steps.length
 gone : x.gone.length = x.Route.Steps.length
 sub : ∀ y ∈ x.needs, y ∈ neK ne k
 trk : ∀ y ∈ neK ne k, y.Kind ≠ 2 → y ∈ x.needs
 len : x.needs.length * 32 ≤ 140737488355328
 g0 : ∀ i : Nat, x.gone[i]? = some true → x.seen[0]? = some true
 leave : 0 ≤ x.leave ∧ x.leave ≤ 90
 clk : 0 ≤ x.clock ∧ (x.laps = true → x.clock < 60)
def q3E (x : z6) (y : q8) : Bool := if y.Kind = 2 then x.laps else if y.Kind = 5 then !((x.seen[0]?).getD true) else !((x.gone[y.At.toNat]?).getD true)
def W3 (x : z6) : List q8 := x.needs.filter (q3E x)
section
variable {n : j3} {ro : List z7} {ne : List (List q8)} {ar : List (Int × z6)} {k : Int} {x : z6}
theorem LOk.pos (F : Fix n ro ne) (h : LOk n ro ne k x) : 0 < x.Route.Steps.length := by
 rw [h.route]
 exact z3S (F.rok h.kr)
theorem LOk.seen0 (F : Fix n ro ne) (h : LOk n ro ne k x) : ∃ b, idx x.seen 0 = some b ∧ x.seen[0]? = some b := by
 have h1 : 0 < x.seen.length := by rw [h.seen]; exact h.pos F
 exact ⟨_, Q6 (j := 0) h1, Kf h1⟩
theorem LOk.need (F : Fix n ro ne) (h : LOk n ro ne k x) {y : q8} (hy : y ∈ x.needs) : z1v n x.Route.Steps.length y := by
 rw [h.route]
 exact (F.nq h.kr).1 y (h.sub y hy)
theorem j1r (F : Fix n ro ne) (h : LOk n ro ne k x) {y : q8} (hy : y ∈ x.needs) (ha : J4 ar k = some x) : q0N (some k) y ar = some (q3E x y) := by
 unfold q0N q3E
 by_cases c2 : y.Kind = 2
 ·rw [if_pos c2, if_pos c2, Ka, ha, Ka]
 ·rw [if_neg c2, if_neg c2]
  by_cases c5 : y.Kind = 5
  ·obtain ⟨b, h1, h2⟩ := h.seen0 F
   rw [if_pos c5, if_pos c5, Ka, ha, Ka, h1, Ka, h2]
   rfl
  ·have h1 := (h.need F hy).at_ c2 c5
   have h2 : y.At < (x.gone.length : Int) := by rw [h.gone]; exact h1.2
   obtain ⟨b, h3, h4⟩ := q4r h1.1 h2
   rw [if_neg c5, if_neg c5, Ka, ha, Ka, h3, Ka, h4]
   rfl
theorem z3k (F : Fix n ro ne) (h : LOk n ro ne k x) (ha : J4 ar k = some x) : G8 (some k) ar = some (W3 x) := by
 unfold G8
 rw [Ka, ha, Ka]
 have hlen := h.len
 obtain ⟨s, h1, h2⟩ := H6 (body := q0t ar k x) (fun j s => s = (x.needs.take j).filter (q3E x)) x.needs.length 0 [] (by simp) (fun j s _ hj hs => by
  have hj : j < x.needs.length := by omega
  subst hs
  unfold q0t
  rw [Q6 hj, Ka, j1r F h (List.getElem_mem hj) ha, Ka, List.take_succ_eq_append_getElem hj, List.filter_append]
  have hl : ((x.needs.take j).filter (q3E x)).length ≤ j := Nat.le_trans (List.length_filter_le _ _) (by simp; omega)
  cases hb : q3E x x.needs[j] with
  | true =>
   rw [if_pos rfl, q1u (by omega) (by omega), Ka]
   exact ⟨_, rfl, by simp [hb]⟩
  | false =>
   rw [if_neg Kh]
   exact ⟨_, rfl, by simp [hb]⟩)
 rw [h1, Ka, h2, Nat.zero_add, List.take_length]
 rfl
theorem q0v {y : q8} : y ∈ W3 x ↔ y ∈ x.needs ∧ q3E x y = true := List.mem_filter
end
structure Inv (n : j3) (ro : List z7) (ne : List (List q8)) (bo : List q9) (gt : List z8) (mp : List (Int × Option Int)) (ar : List (Int × z6)) : Prop where
 bl : bo.length = n.Sections.length
 bb : ∀ s ∈ bo, (0 ≤ s.axles ∧ s.axles ≤ 400) ∧ (0 ≤ s.moving ∧ s.moving ≤ 5) ∧ 1 ≤ s.position ∧ s.position ≤ 2
 gl : gt.length = n.Gates.length
 gb : ∀ g ∈ gt, g.left ≤ 9223372036854775807
 nd : (mp.map (·.1)).Nodup
 en : ∀ p ∈ mp, p.2 = some p.1 ∧ ∃ x, J4 ar p.1 = some x ∧ LOk n ro ne p.1 x
 ap : ∀ p ∈ mp, ∀ q ∈ mp, p.1 ≠ q.1 → ∀ x y, J4 ar p.1 = some x → J4 ar q.1 = some y → ∀ a ∈ W3 x, ∀ b ∈ W3 y, ¬ q6c a b
section
variable {n : j3} {ro : List z7} {ne : List (List q8)} {bo bo' : List q9} {gt gt' : List z8} {mp : List (Int × Option Int)} {ar : List (Int × z6)}
theorem Inv.gates (h : Inv n ro ne bo gt mp ar) (hl : gt'.length = gt.length) (hb : ∀ g ∈ gt', g.left ≤ 9223372036854775807) : Inv n ro ne bo gt' mp ar := ⟨h.bl, h.bb, hl.trans h.gl, hb, h.nd, h.en, h.ap⟩
theorem Inv.some_ (h : Inv n ro ne bo gt mp ar) : ∀ e ∈ mp, (J4 ar e.1).isSome = true := fun e he => by
 obtain ⟨_, x, hx, _⟩ := h.en e he
 rw [hx]
 rfl
theorem z6z {κ ν : Type} [DecidableEq κ] {l : List (κ × ν)} {k : κ} {v : ν} (h : J4 l k = some v) : (k, v) ∈ l := by
 induction l with
 | nil => cases h
 | cons p r ih =>
  obtain ⟨a, b⟩ := p
  simp only [J4] at h
  by_cases c : a = k
  ·rw [if_pos c] at h
   rw [Kd h, c]
   exact List.mem_cons_self
  ·rw [if_neg c] at h
   exact List.mem_cons_of_mem _ (ih h)
theorem z5C {κ ν : Type} [DecidableEq κ] {l : List (κ × ν)} {k : κ} {v : ν} (hn : (l.map (·.1)).Nodup) (h : (k, v) ∈ l) : J4 l k = some v := by
 induction l with
 | nil => cases h
 | cons p r ih =>
  obtain ⟨a, b⟩ := p
  simp only [List.map_cons, List.nodup_cons] at hn
  simp only [J4]
  rcases List.mem_cons.1 h with h | h
  ·injection h with h1 h2
   rw [if_pos h1.symm, h2]
  ·rw [if_neg (fun e : a = k => hn.1 (by rw [e]; exact List.mem_map_of_mem (f := (·.1)) h))]
   exact ih hn.2 h
theorem z9f {κ ν : Type} [DecidableEq κ] {l : List (κ × ν)} {k : κ} (h : J4 l k = none) : k ∉ l.map (·.1) := by
 induction l with
 | nil => simp
 | cons p r ih =>
  obtain ⟨a, b⟩ := p
  simp only [J4] at h
  by_cases c : a = k
  ·rw [if_pos c] at h; cases h
  ·rw [if_neg c] at h
   simp only [List.map_cons, List.mem_cons, not_or]
   exact ⟨fun e => c e.symm, ih h⟩
theorem Inv.look (h : Inv n ro ne bo gt mp ar) (k : Int) : (q0D mp k none = none ∧ k ∉ mp.map (·.1)) ∨ (q0D mp k none = some k ∧ (k, some k) ∈ mp ∧ ∃ x, J4 ar k = some x ∧ LOk n ro ne k x) := by
 cases hk : J4 mp k with
 | none => exact .inl ⟨by simp [q0D, hk], z9f hk⟩
 | some v =>
  have h1 := z6z hk
  obtain ⟨h2, h3⟩ := h.en _ h1
  have h2 : v = some k := h2
  subst h2
  exact .inr ⟨by simp [q0D, hk], h1, h3⟩
end
theorem j1u {τ : Type} {body : Nat → Unit → Option (Unit ⊕ τ)} {Q : Nat → Prop} [DecidablePred Q] {t : τ} {m : Nat} (hb : ∀ j, j < m → body j () = some (if Q j then .inr t else .inl ())) :
  (forM body m 0 () = some (.inl ()) ∧ ∀ j, j < m → ¬ Q j) ∨ (forM body m 0 () = some (.inr t) ∧ ∃ j, j < m ∧ Q j) := by
 rcases q1q (body := body) (fun k _ => ∀ j, j < k → ¬ Q j) (fun v => v = t ∧ ∃ j, j < m ∧ Q j) m 0 () (fun j h => by omega) (fun j s _ hj hI => by
  have hj : j < m := by omega
  rw [show s = () from rfl, hb j hj]
  by_cases c : Q j
  ·rw [if_pos c]
   exact .inr ⟨t, rfl, rfl, j, hj, c⟩
  ·rw [if_neg c]
   refine .inl ⟨(), rfl, fun i hi => ?_⟩
   by_cases e : i = j
   ·rw [e]; exact c
   ·exact hI i (by omega)) with ⟨s, h1, h2⟩ | ⟨v, h1, h2, h3⟩
 ·exact .inl ⟨h1, fun j hj => h2 j (by omega)⟩
 ·exact .inr ⟨by rw [h1, h2], h3⟩
open Classical in
theorem z9z {τ : Type} {body : Nat → Unit → Option (Unit ⊕ τ)} {Q : Nat → Prop} {t : τ} {m : Nat} (hb : ∀ j, j < m → body j () = some (if Q j then .inr t else .inl ())) :
  forM body m 0 () = some (if ∃ j, j < m ∧ Q j then .inr t else .inl ()) := by
 rcases j1u hb with ⟨h1, h2⟩ | ⟨h1, h2⟩
 ·rw [h1, if_neg (fun ⟨j, h, hq⟩ => h2 j h hq)]
 ·rw [h1, if_pos h2]
def z8M (x : z6) (s : Int) : Prop := ∃ i, i < x.Route.Steps.length ∧ ((x.Route.Steps[i]?).getD ⟨0, 0, 0⟩).Section = s ∧ x.gone[i]? = some false
section
variable {n : j3} {ro : List z7} {ne : List (List q8)} {bo : List q9} {gt : List z8} {mp : List (Int × Option Int)} {ar : List (Int × z6)}
theorem z4c (F : Fix n ro ne) {k : Int} {x : z6} (h : LOk n ro ne k x) {s : Int} (ho : z8M x s) : ∃ a ∈ W3 x, a.Kind = 1 ∧ a.Place = s := by
 obtain ⟨i, h1, h2, h3⟩ := ho
 obtain ⟨a, ha, hk, hp, hat⟩ := (F.nq h.kr).2.1 i (by rw [← h.route]; exact h1)
 refine ⟨a, q0v.2 ⟨h.trk a ha (by omega), ?_⟩, hk, ?_⟩
 ·unfold q3E
  rw [if_neg (by omega), if_neg (by omega), hat, show ((i : Int)).toNat = i by omega, h3]
  rfl
 ·rw [hp, ← h2, h.route]
theorem z7C (F : Fix n ro ne) (h : Inv n ro ne bo gt mp ar) {p q : Int × Option Int} (hp : p ∈ mp) (hq : q ∈ mp) {x y : z6} (hx : J4 ar p.1 = some x) (hy : J4 ar q.1 = some y) {s : Int} (h1 : z8M x s) (h2 : z8M y s) : p.1 = q.1 := by
 refine Classical.byContradiction fun c => ?_
 obtain ⟨_, x', hx', kx⟩ := h.en p hp
 obtain ⟨_, y', hy', ky⟩ := h.en q hq
 rw [hx] at hx'
 rw [hy] at hy'
 rw [← Kd hx'] at kx
 rw [← Kd hy'] at ky
 obtain ⟨a, ha, ka, pa⟩ := z4c F kx h1
 obtain ⟨b, hb, kb, pb⟩ := z4c F ky h2
 exact h.ap p hp q hq c x y hx hy a ha b hb ⟨by rw [pa, pb], .inl ⟨.inl ka, .inl kb⟩⟩
open Classical in
theorem z7B (F : Fix n ro ne) (h : Inv n ro ne bo gt mp ar) (s : Int) {e : Int × Option Int} (he : e ∈ mp) :
  F0 mp ar s e () = some (if (∃ x, J4 ar e.1 = some x ∧ z8M x s) then .inr (.inr (e.1, mp)) else .inl ()) := by
 obtain ⟨h1, x, hx, kx⟩ := h.en e he
 unfold F0
 rw [h1, Ka, hx, Ka]
 rw [z9z (Q := fun i => ((x.Route.Steps[i]?).getD ⟨0, 0, 0⟩).Section = s ∧ x.gone[i]? = some false) (t := .inr (.inr (e.1, mp))) (fun i hi => by
  have hg : i < x.gone.length := by rw [kx.gone]; exact hi
  unfold q2q
  rw [Q6 hi, Ka, Kf hi, Kf hg]
  by_cases c : x.Route.Steps[i].Section = s
  ·rw [if_pos c, hx, Ka, Q6 hg, Ka, Ka]
   cases hb : x.gone[i] with
   | true =>
    rw [if_neg (by simp), if_neg (by simp)]
   | false =>
    rw [if_pos (by simp), Ka, kx.num, if_pos ⟨c, rfl⟩]
  ·rw [if_neg c, Ka, if_neg (by simp), if_neg (fun h => c h.1)])]
 rw [Ka]
 by_cases c : ∃ i, i < x.Route.Steps.length ∧ ((x.Route.Steps[i]?).getD ⟨0, 0, 0⟩).Section = s ∧ x.gone[i]? = some false
 ·rw [if_pos c, if_pos ⟨x, rfl, c⟩]
  rfl
 ·rw [if_neg c, if_neg (fun ⟨y, hy, ho⟩ => c (by rw [← Kd hy] at ho; exact ho))]
  rfl
theorem z6s (F : Fix n ro ne) (h : Inv n ro ne bo gt mp ar) (a1 : List ByteArray) (a2 : List j0) (a3 : List j9) (a4 : List j5) (a5 : List Q2) (a6 : List z7) (a7 : List (List q8)) (a8 : List q9) (a9 : List z8) (s : Int) :
  ∃ r, q1V s a1 a2 a3 a4 a5 a6 a7 a8 a9 mp ar = some (r, mp) ∧ ((r = -1 ∧ ∀ e ∈ mp, ∀ x, J4 ar e.1 = some x → ¬ z8M x s) ∨ ∃ x, (r, some r) ∈ mp ∧ J4 ar r = some x ∧ z8M x s) := by
 classical
 unfold q1V
 rcases z6t (body := F0 mp ar s) (P := fun e => ∃ x, J4 ar e.1 = some x ∧ z8M x s) (t := fun e => .inr (e.1, mp)) (l := mp) (fun e he => by
  rw [z7B F h s he]) (fun e he e' he' ⟨x, h1, h2⟩ ⟨y, h3, h4⟩ => by rw [z7C F h he he' h1 h3 h2 h4]) with ⟨h1, h2⟩ | ⟨e, he, ⟨x, hx, ho⟩, h1⟩
 ·refine ⟨-1, by rw [h1]; rfl, .inl ⟨rfl, fun e he x hx ho => h2 e he ⟨x, hx, ho⟩⟩⟩
 ·refine ⟨e.1, by rw [h1]; rfl, .inr ⟨x, ?_, hx, ho⟩⟩
  have := (h.en e he).1
  rw [← this]
  exact he
theorem z4A (y : q8) (l : List q8) [Decidable (∃ a ∈ l, q6c a y)] : q0d y.Kind y.Place y.Position y.At l = some (decide (∃ a ∈ l, q6c a y)) :=
 q7q (fun a => q6c a y) (fun k hk => by
  unfold q0V q1W
  rw [Q6 hk, Ka]
  have : q2x l[k] ⟨y.Kind, y.Place, y.Position, y.At⟩ = some (decide (q6c l[k] y)) := z6A _ _
  rw [this, Ka, Ka]
  by_cases c : q6c l[k] y
  ·rw [decide_eq_true c, if_pos rfl, if_pos c]
  ·rw [decide_eq_false c, if_neg Kh, if_neg c])
theorem z7T (F : Fix n ro ne) (h : Inv n ro ne bo gt mp ar) (a1 : List ByteArray) (a2 : List j0) (a3 : List j9) (a4 : List j5) (a5 : List Q2) (a7 : List (List q8)) (a8 : List q9) (a9 : List z8) {k : Int} (hk : 0 ≤ k ∧ k < (ro.length : Int)) (needs : List q8) :
  ∃ b, q1E k a1 a2 a3 a4 a5 ro a7 needs a8 a9 mp ar = some (b, mp) ∧ (b = false → ∀ e ∈ mp, ∀ x, J4 ar e.1 = some x → ∀ y ∈ W3 x, ¬ (y.Kind = 2 ∧ x.Route.To = (roK ro k).From) → ∀ a ∈ needs, ¬ q6c a y) ∧ (b = true → ∃ e ∈ mp, ∃ x, J4 ar e.1 = some x ∧ ∃ y ∈ W3 x, ¬ (y.Kind = 2 ∧ x.Route.To = (roK ro k).From) ∧ ∃ a ∈ needs, q6c a y) := by
 classical
 unfold q1E
 rcases z6t (body := q0k ro needs mp ar k) (P := fun e => ∃ x, J4 ar e.1 = some x ∧ ∃ i, i < (W3 x).length ∧ ∃ y, (W3 x)[i]? = some y ∧ ¬ (y.Kind = 2 ∧ x.Route.To = (roK ro k).From) ∧ ∃ a ∈ needs, q6c a y) (t := fun _ => .inr (true, mp)) (l := mp) (fun e he => by
  obtain ⟨h1, x, hx, kx⟩ := h.en e he
  unfold q0k
  rw [h1, z3k F kx hx, Ka]
  have key : (forM (K8 ro needs mp ar k (W3 x)) (W3 x).length 0 (some e.1) = some (.inl (some e.1)) ∧ ∀ i, i < (W3 x).length → ¬ ∃ y, (W3 x)[i]? = some y ∧ ¬ (y.Kind = 2 ∧ x.Route.To = (roK ro k).From) ∧ ∃ a ∈ needs, q6c a y) ∨
    (forM (K8 ro needs mp ar k (W3 x)) (W3 x).length 0 (some e.1) = some (.inr (.inr (.inr (true, mp)))) ∧ ∃ i, i < (W3 x).length ∧ ∃ y, (W3 x)[i]? = some y ∧ ¬ (y.Kind = 2 ∧ x.Route.To = (roK ro k).From) ∧ ∃ a ∈ needs, q6c a y) := by
   rcases q1q (body := K8 ro needs mp ar k (W3 x)) (fun j q => q = some e.1 ∧ ∀ i, i < j → ¬ ∃ y, (W3 x)[i]? = some y ∧ ¬ (y.Kind = 2 ∧ x.Route.To = (roK ro k).From) ∧ ∃ a ∈ needs, q6c a y)
    (fun v => v = .inr (.inr (true, mp)) ∧ ∃ i, i < (W3 x).length ∧ ∃ y, (W3 x)[i]? = some y ∧ ¬ (y.Kind = 2 ∧ x.Route.To = (roK ro k).From) ∧ ∃ a ∈ needs, q6c a y) (W3 x).length 0 (some e.1) ⟨rfl, fun i hi => by omega⟩ (fun j q _ hj hI => by
    obtain ⟨hq, hI⟩ := hI
    subst hq
    have hj : j < (W3 x).length := by omega
    have next : ¬ (∃ y, (W3 x)[j]? = some y ∧ ¬ (y.Kind = 2 ∧ x.Route.To = (roK ro k).From) ∧ ∃ a ∈ needs, q6c a y) → ∀ i, i < j + 1 → ¬ ∃ y, (W3 x)[i]? = some y ∧ ¬ (y.Kind = 2 ∧ x.Route.To = (roK ro k).From) ∧ ∃ a ∈ needs, q6c a y := fun c i hi => by
     by_cases e : i = j
     ·rw [e]; exact c
     ·exact hI i (by omega)
    unfold K8
    rw [Q6 hj, Ka, Ka, hx, Ka, F.idxR hk, Ka]
    have e1 : (if (W3 x)[j].Kind = 2 then some (some e.1, decide (x.Route.To = (roK ro k).From)) else some (some e.1, false)) = some (some e.1, decide ((W3 x)[j].Kind = 2 ∧ x.Route.To = (roK ro k).From)) := by
     by_cases c : (W3 x)[j].Kind = 2
     ·rw [if_pos c]
      congr 2
      exact decide_eq_decide.2 ⟨fun h => ⟨c, h⟩, fun h => h.2⟩
     ·rw [if_neg c, decide_eq_false (fun h => c h.1)]
    rw [e1, q0L]
    by_cases c : (W3 x)[j].Kind = 2 ∧ x.Route.To = (roK ro k).From
    ·rw [decide_eq_true c, if_pos rfl]
     refine .inl ⟨_, rfl, rfl, next fun ⟨y, h1, h2, _⟩ => h2 ?_⟩
     rw [Kf hj] at h1
     rw [← Kd h1]
     exact c
    ·rw [decide_eq_false c, if_neg Kh, z4A, Ka]
     by_cases c2 : ∃ a ∈ needs, q6c a (W3 x)[j]
     ·rw [decide_eq_true c2, if_pos rfl]
      exact .inr ⟨_, rfl, rfl, j, hj, _, Kf hj, c, c2⟩
     ·rw [decide_eq_false c2, if_neg Kh]
      refine .inl ⟨_, rfl, rfl, next fun ⟨y, h1, _, h3⟩ => c2 ?_⟩
      rw [Kf hj] at h1
      rw [Kd h1]
      exact h3) with ⟨q, h1, h2, h3⟩ | ⟨v, h1, h2, h3⟩
   ·exact .inl ⟨by rw [h1, h2], fun i hi => h3 i (by omega)⟩
   ·exact .inr ⟨by rw [h1, h2], h3⟩
  rcases key with ⟨h2, h3⟩ | ⟨h2, h3⟩
  ·rw [h2, if_neg (fun ⟨y, hy, i, hi, h4⟩ => by rw [hx] at hy; rw [← Kd hy] at hi h4; exact h3 i hi h4)]
   rfl
  ·rw [h2, if_pos ⟨x, hx, h3⟩]
   rfl) (fun _ _ _ _ _ _ => rfl) with ⟨h1, h2⟩ | ⟨e, he, hP, h1⟩
 ·refine ⟨false, by rw [h1]; rfl, fun _ e he x hx y hy hc a ha hm => h2 e he ?_, fun h => by cases h⟩
  obtain ⟨i, hi, hg⟩ := List.getElem_of_mem hy
  exact ⟨x, hx, i, hi, y, by rw [Kf hi, hg], hc, a, ha, hm⟩
 ·refine ⟨true, by rw [h1]; rfl, (fun h => by cases h), fun _ => ?_⟩
  obtain ⟨x, hx, i, hi, y, hy, hc, ha⟩ := hP
  exact ⟨e, he, x, hx, y, List.mem_of_getElem? hy, hc, ha⟩
end
def z4Z (s : q9) : Prop := (0 ≤ s.axles ∧ s.axles ≤ 400) ∧ (0 ≤ s.moving ∧ s.moving ≤ 5) ∧ 1 ≤ s.position ∧ s.position ≤ 2
def z5f (m : Nat) (l : List q9) : Prop := l.length = m ∧ ∀ s ∈ l, z4Z s
theorem z5f.get {m : Nat} {l : List q9} (h : z5f m l) {i : Int} (h0 : 0 ≤ i ∧ i < (m : Int)) : ∃ s, idx l i = some s ∧ z4Z s := by
 obtain ⟨x, h1, h2⟩ := q4r h0.1 (by rw [h.1]; exact h0.2)
 exact ⟨x, h1, h.2 x (List.mem_of_getElem? h2)⟩
theorem z5f.put {m : Nat} {l : List q9} (h : z5f m l) (i : Int) {y : q9} (hy : z4Z y) : z5f m (put l i y) :=
 ⟨by rw [Q4]; exact h.1, fun s hs => by
  rcases List.mem_or_eq_of_mem_set hs with h1 | h1
  ·exact h.2 s h1
  ·rw [h1]; exact hy⟩
def j0y (m : Nat) (l : List z8) : Prop := l.length = m ∧ ∀ g ∈ l, g.left ≤ 9223372036854775807
theorem j0y.get {m : Nat} {l : List z8} (h : j0y m l) {i : Int} (h0 : 0 ≤ i ∧ i < (m : Int)) : ∃ s, idx l i = some s ∧ s.left ≤ 9223372036854775807 := by
 obtain ⟨x, h1, h2⟩ := q4r h0.1 (by rw [h.1]; exact h0.2)
 exact ⟨x, h1, h.2 x (List.mem_of_getElem? h2)⟩
theorem j0y.put {m : Nat} {l : List z8} (h : j0y m l) (i : Int) {y : z8} (hy : y.left ≤ 9223372036854775807) : j0y m (put l i y) :=
 ⟨by rw [Q4]; exact h.1, fun s hs => by
  rcases List.mem_or_eq_of_mem_set hs with h1 | h1
  ·exact h.2 s h1
  ·rw [h1]; exact hy⟩
section
variable {n : j3} {ro : List z7} {ne : List (List q8)} {bo bo' : List q9} {gt gt' : List z8} {mp : List (Int × Option Int)} {ar : List (Int × z6)}
variable {a1 : List ByteArray} {a2 : List j0} {a3 : List j9} {a4 : List j5} {a5 : List Q2} {a6 : List z7} {a7 : List (List q8)} {a8 : List q9} {a9 : List z8} {b1 : List (Int × Option Int)} {b2 : List (Int × z6)}
theorem Inv.B (h : Inv n ro ne bo gt mp ar) : z5f n.Sections.length bo := ⟨h.bl, h.bb⟩
theorem Inv.G (h : Inv n ro ne bo gt mp ar) : j0y n.Gates.length gt := ⟨h.gl, h.gb⟩
theorem Inv.toB (h : Inv n ro ne bo gt mp ar) (hb : z5f n.Sections.length bo') : Inv n ro ne bo' gt mp ar := ⟨hb.1, hb.2, h.gl, h.gb, h.nd, h.en, h.ap⟩
theorem Inv.toG (h : Inv n ro ne bo gt mp ar) (hb : j0y n.Gates.length gt') : Inv n ro ne bo gt' mp ar := ⟨h.bl, h.bb, hb.1, hb.2, h.nd, h.en, h.ap⟩
theorem q8K (a : Int) : q1D a a1 a2 a3 a4 a5 a6 a7 bo a9 b1 b2 = some (decide (0 ≤ a ∧ a < (bo.length : Int))) := by
 unfold q1D
 by_cases c : 0 ≤ a
 ·rw [if_pos c, Ka]
  congr 1
  exact decide_eq_decide.2 ⟨fun h => ⟨c, h⟩, fun h => h.2⟩
 ·rw [if_neg c, Ka, decide_eq_false (fun h => c h.1)]
theorem z0O (a : Int) : P8 a a1 a2 a3 a4 a5 ro a7 a8 a9 b1 b2 = some (decide (0 ≤ a ∧ a < (ro.length : Int))) := by
 unfold P8
 by_cases c : 0 ≤ a
 ·rw [if_pos c, Ka]
  congr 1
  exact decide_eq_decide.2 ⟨fun h => ⟨c, h⟩, fun h => h.2⟩
 ·rw [if_neg c, Ka, decide_eq_false (fun h => c h.1)]
theorem q5A (s : q9) : H1 s = some (decide (0 < s.axles) || s.disturbed) := by
 unfold H1
 by_cases c : 0 < s.axles
 ·rw [if_pos c, decide_eq_true c]; rfl
 ·rw [if_neg c, decide_eq_false c]; rfl
theorem z9x (m : Nat) (a : Int) : (if a < 0 then some true else some (decide ((m : Int) ≤ a))) = some (decide ¬ (0 ≤ a ∧ a < (m : Int))) := by
 by_cases c : a < 0
 ·rw [if_pos c, decide_eq_true (by omega)]
 ·rw [if_neg c]
  congr 1
  exact decide_eq_decide.2 (by omega)
theorem Inv.less {mp' : List (Int × Option Int)} {ar' : List (Int × z6)} (h : Inv n ro ne bo gt mp ar) (hs : ∀ p ∈ mp', p ∈ mp) (hn : (mp'.map (·.1)).Nodup)
  (hx : ∀ p ∈ mp', ∀ x, J4 ar p.1 = some x → LOk n ro ne p.1 x → ∃ x', J4 ar' p.1 = some x' ∧ LOk n ro ne p.1 x' ∧ ∀ a ∈ W3 x', a ∈ W3 x) : Inv n ro ne bo gt mp' ar' :=
 ⟨h.bl, h.bb, h.gl, h.gb, hn, fun p hp => by
  obtain ⟨h1, x, h2, h3⟩ := h.en p (hs p hp)
  obtain ⟨x', h4, h5, _⟩ := hx p hp x h2 h3
  exact ⟨h1, x', h4, h5⟩, fun p hp q hq hne x y h1 h2 a ha b hb => by
  obtain ⟨_, x0, h3, h4⟩ := h.en p (hs p hp)
  obtain ⟨_, y0, h5, h6⟩ := h.en q (hs q hq)
  obtain ⟨x', h7, _, h8⟩ := hx p hp x0 h3 h4
  obtain ⟨y', h9, _, h10⟩ := hx q hq y0 h5 h6
  rw [h1] at h7
  rw [h2] at h9
  rw [← Kd h7] at h8
  rw [← Kd h9] at h10
  exact h.ap p (hs p hp) q (hs q hq) hne x0 y0 h3 h5 a (h8 a ha) b (h10 b hb)⟩
theorem Inv.each (h : Inv n ro ne bo gt mp ar) (g : Int → z6 → z6) (hg : ∀ k x, LOk n ro ne k x → LOk n ro ne k (g k x) ∧ ∀ a ∈ W3 (g k x), a ∈ W3 x) : Inv n ro ne bo gt mp (cells g mp ar) :=
 h.less (fun p hp => hp) h.nd fun p hp x h1 h2 => by
  obtain ⟨h3, h4⟩ := hg p.1 x h2
  refine ⟨g p.1 x, ?_, h3, h4⟩
  rw [q5p g mp ar p.1 h.nd, h1]
  show some (if _ then _ else _) = _
  rw [if_pos (List.mem_map_of_mem hp)]
end
theorem z7N (l : j9) (c d : Int) : q0O l c d = some (decide (l.A = c ∧ l.B = d ∨ l.A = d ∧ l.B = c)) := by
 unfold q0O
 by_cases h1 : l.A = c
 ·rw [if_pos h1]
  by_cases h2 : l.B = d
  ·rw [if_pos h2, Ka, decide_eq_true (.inl ⟨h1, h2⟩)]
  ·rw [if_neg h2]
   by_cases h3 : l.A = d
   ·rw [if_pos h3, Ka]
    congr 1
    exact decide_eq_decide.2 ⟨fun h => .inr ⟨h3, h⟩, fun h => h.elim (fun h => absurd h.2 h2) (fun h => h.2)⟩
   ·rw [if_neg h3, Ka, decide_eq_false (fun h => h.elim (fun h => h2 h.2) (fun h => h3 h.1))]
 ·rw [if_neg h1]
  by_cases h3 : l.A = d
  ·rw [if_pos h3, Ka]
   congr 1
   exact decide_eq_decide.2 ⟨fun h => .inr ⟨h3, h⟩, fun h => h.elim (fun h => absurd h.1 h1) (fun h => h.2)⟩
  ·rw [if_neg h3, Ka, decide_eq_false (fun h => h.elim (fun h => h1 h.1) (fun h => h3 h.1))]
section
variable {n : j3} {ro : List z7} {ne : List (List q8)} {bo bo' : List q9} {gt gt' : List z8} {mp : List (Int × Option Int)} {ar : List (Int × z6)}
variable {a1 : List ByteArray} {a2 : List j0} {a3 : List j9} {a4 : List j5} {a5 : List Q2} {a6 : List z7} {a7 : List (List q8)} {a8 : List q9} {a9 : List z8} {b1 : List (Int × Option Int)} {b2 : List (Int × z6)}
def z1K (s : Int) (x : z6) (i : Nat) (y : z6) : z6 :=
 if ((x.Route.Steps[i]?).getD ⟨0, 0, 0⟩).Section = s ∧ y.gone[i]? = some false then ⟨y.Route, y.needs, put y.seen (i : Int) true, y.gone, y.laps, y.sight, if (i : Int) = 0 then 0 else y.leave, y.clock, y.number⟩ else y
def P5 (s : Int) (x : z6) : Nat → z6
 | 0 => x
 | j + 1 => z1K s x j (P5 s x j)
theorem q8V (s : Int) (x : z6) : ∀ j, (P5 s x j).Route = x.Route ∧ (P5 s x j).needs = x.needs ∧ (P5 s x j).gone = x.gone ∧ (P5 s x j).laps = x.laps ∧ (P5 s x j).sight = x.sight ∧ (P5 s x j).clock = x.clock ∧ (P5 s x j).number = x.number ∧ (P5 s x j).seen.length = x.seen.length ∧ ((P5 s x j).leave = x.leave ∨ (P5 s x j).leave = 0) ∧ ∀ i : Nat, x.seen[i]? = some true → (P5 s x j).seen[i]? = some true
 | 0 => ⟨rfl, rfl, rfl, rfl, rfl, rfl, rfl, rfl, .inl rfl, fun _ h => h⟩
 | j + 1 => by
  obtain ⟨h1, h2, h3, h4, h5, h6, h7, h8, h9, h10⟩ := q8V s x j
  simp only [P5, z1K]
  split
  ·refine ⟨h1, h2, h3, h4, h5, h6, h7, by rw [Q4]; exact h8, ?_, fun i hi => ?_⟩
   ·split
    ·exact .inr rfl
    ·exact h9
   ·have h11 := h10 i hi
    simp only [q0n]
    rw [List.getElem?_set]
    split
    ·rename_i e
     subst e
     rw [if_pos (List.getElem?_eq_some_iff.1 h11).1]
    ·exact h11
  ·exact ⟨h1, h2, h3, h4, h5, h6, h7, h8, h9, h10⟩
theorem j1c (F : Fix n ro ne) {k : Int} {x : z6} (h : LOk n ro ne k x) (s : Int) (j : Nat) : LOk n ro ne k (P5 s x j) ∧ ∀ a ∈ W3 (P5 s x j), a ∈ W3 x := by
 obtain ⟨h1, h2, h3, h4, h5, h6, h7, h8, h9, h10⟩ := q8V s x j
 refine ⟨⟨h.kr, h1.trans h.route, h7.trans h.num, by rw [h8, h1]; exact h.seen, by rw [h3, h1]; exact h.gone, by rw [h2]; exact h.sub, by rw [h2]; exact h.trk, by rw [h2]; exact h.len, fun i hi => h10 0 (h.g0 i (by rw [← h3]; exact hi)), ?_, by rw [h6, h4]; exact h.clk⟩, fun a ha => ?_⟩
 ·have := h.leave
  rcases h9 with e | e <;> rw [e]
  ·exact this
  ·omega
 ·obtain ⟨ha, hb⟩ := q0v.1 ha
  rw [h2] at ha
  refine q0v.2 ⟨ha, ?_⟩
  unfold q3E at hb ⊢
  rw [h4, h3] at hb
  by_cases c2 : a.Kind = 2
  ·rw [if_pos c2] at hb ⊢
   exact hb
  ·rw [if_neg c2] at hb ⊢
   by_cases c5 : a.Kind = 5
   ·rw [if_pos c5] at hb ⊢
    obtain ⟨b, _, h12⟩ := h.seen0 F
    cases b with
    | true =>
     rw [h10 0 h12] at hb
     cases hb
    | false =>
     rw [h12]
     rfl
   ·rw [if_neg c5] at hb ⊢
    exact hb
theorem z8K (F : Fix n ro ne) (h : Inv n ro ne bo gt mp ar) (s : Int) {e : Int × Option Int} (he : e ∈ mp) (l' : List (Int × z6)) (x : z6) (hl : J4 l' e.1 = some x) (h0 : J4 ar e.1 = some x) :
  q0h s e l' = some (.inl (X7 l' e.1 (P5 s x x.Route.Steps.length))) := by
 obtain ⟨h1, x', hx', kx⟩ := h.en e he
 rw [h0] at hx'
 rw [← Kd hx'] at kx
 unfold q0h
 rw [h1, Ka, hl, Ka]
 obtain ⟨t, h2, h3⟩ := H6 (body := q1f s e.1 x) (fun j t => t = X7 l' e.1 (P5 s x j)) x.Route.Steps.length 0 l' (q6s l' hl).symm (fun j t _ hj ht => by
  have hj : j < x.Route.Steps.length := by omega
  obtain ⟨p1, p2, p3, p4, p5, p6, p7, p8, p9, p10⟩ := q8V s x j
  have hg : j < (P5 s x j).gone.length := by rw [p3, kx.gone]; exact hj
  have hs : j < (P5 s x j).seen.length := by rw [p8, kx.seen]; exact hj
  subst ht
  refine ⟨_, ?_, rfl⟩
  unfold q1f
  rw [Q6 hj, Ka]
  have hst : (x.Route.Steps[j]?).getD ⟨0, 0, 0⟩ = x.Route.Steps[j] := by rw [Kf hj]; rfl
  by_cases c : x.Route.Steps[j].Section = s
  ·rw [if_pos c, J0, Ka, Q6 hg, Ka]
   cases hb : (P5 s x j).gone[j] with
   | true =>
    rw [if_pos rfl]
    simp only [P5, z1K]
    rw [if_neg (fun h => by rw [Kf hg, hb] at h; cases h.2)]
   | false =>
    rw [if_neg Kh, Q6 hs, Ka]
    have hyes : z1K s x j (P5 s x j) = ⟨(P5 s x j).Route, (P5 s x j).needs, put (P5 s x j).seen (j : Int) true, (P5 s x j).gone, (P5 s x j).laps, (P5 s x j).sight, if (j : Int) = 0 then 0 else (P5 s x j).leave, (P5 s x j).clock, (P5 s x j).number⟩ :=
     if_pos ⟨by rw [hst]; exact c, by rw [Kf hg, hb]⟩
    show _ = some (X7 l' e.1 (z1K s x j (P5 s x j)))
    rw [hyes]
    by_cases c0 : (j : Int) = 0
    ·rw [if_pos c0, if_pos c0, q6Y]
    ·rw [if_neg c0, if_neg c0, q6Y]
  ·rw [if_neg c]
   simp only [P5, z1K]
   rw [if_neg (fun h => c (by rw [hst] at h; exact h.1))])
 rw [h2, Ka, h3, Nat.zero_add]
end
theorem j1d {α β γ δ ε τ : Type} {A : α → β → γ → δ → ε → Option τ} {x : α} {y : β} {z : γ} {w : δ} {v : ε} : (some (x, y, z, w, v)).bind (z8e A) = A x y z w v := rfl
section
variable {n : j3} {ro : List z7} {ne : List (List q8)} {bo bo' : List q9} {gt gt' : List z8} {mp : List (Int × Option Int)} {ar : List (Int × z6)}
variable {a1 : List ByteArray} {a2 : List j0} {a3 : List j9} {a4 : List j5} {a5 : List Q2} {a6 : List z7} {a7 : List (List q8)} {a8 : List q9} {a9 : List z8} {b1 : List (Int × Option Int)} {b2 : List (Int × z6)}
theorem z6x {ν : Type} {l : List (Int × ν)} {k : Int} (h : k ∉ l.map (·.1)) (v : ν) : X7 l k v = l ++ [(k, v)] := by
 induction l with
 | nil => rfl
 | cons p r ih =>
  obtain ⟨a, b⟩ := p
  simp only [List.map_cons, List.mem_cons, not_or] at h
  simp only [X7]
  rw [if_neg (fun e => h.1 e.symm), ih h.2]
  rfl
theorem z8X (h : Inv n ro ne bo gt mp ar) {k : Int} (hk : k ∉ mp.map (·.1)) : z4f mp k = some () := by
 unfold z4f
 rw [if_pos]
 rw [List.all_eq_true]
 intro p hp
 refine decide_eq_true fun e => hk ?_
 rw [(h.en p hp).1] at e
 rw [← Kd e]
 exact List.mem_map_of_mem hp
def z3j (f : Int) (x : z6) : z6 := if x.Route.To = f then ⟨x.Route, x.needs, x.seen, x.gone, false, x.sight, x.leave, x.clock, x.number⟩ else x
theorem q7v {k : Int} {x : z6} (h : LOk n ro ne k x) (f : Int) : LOk n ro ne k (z3j f x) ∧ (∀ a ∈ W3 (z3j f x), a ∈ W3 x) ∧ ∀ a ∈ W3 (z3j f x), ¬ (a.Kind = 2 ∧ x.Route.To = f) := by
 unfold z3j
 by_cases c : x.Route.To = f
 ·rw [if_pos c]
  refine ⟨⟨h.kr, h.route, h.num, h.seen, h.gone, h.sub, h.trk, h.len, h.g0, h.leave, h.clk.1, fun h => by cases h⟩, fun a ha => ?_, fun a ha hc => ?_⟩
  ·obtain ⟨ha, hb⟩ := q0v.1 ha
   refine q0v.2 ⟨ha, ?_⟩
   unfold q3E at hb ⊢
   by_cases c2 : a.Kind = 2
   ·rw [if_pos c2] at hb
    cases hb
   ·rw [if_neg c2] at hb ⊢
    exact hb
  ·obtain ⟨ha, hb⟩ := q0v.1 ha
   unfold q3E at hb
   rw [if_pos hc.1] at hb
   cases hb
 ·rw [if_neg c]
  exact ⟨h, fun a ha => ha, fun a ha hc => c hc.2⟩
theorem j3D (h : Inv n ro ne bo gt mp ar) (r : z7) : z5w (fun p => q4L (q1h r) p ar) mp = some (.inl (cells (fun _ => z3j r.From) mp ar)) :=
 z2q (g := fun _ => z3j r.From) (fun e he l' x h1 h2 => by
  unfold q1h
  rw [(h.en e he).1, Ka, h1, Ka]
  unfold z3j
  by_cases c : x.Route.To = r.From
  ·rw [if_pos c, if_pos c]
  ·rw [if_neg c, if_neg c, q6s l' h1]) h.some_ h.nd
end
section
variable {n : j3} {ro : List z7} {ne : List (List q8)} {bo bo' : List q9} {gt gt' : List z8} {mp : List (Int × Option Int)} {ar : List (Int × z6)}
variable {a1 : List ByteArray} {a2 : List j0} {a3 : List j9} {a4 : List j5} {a5 : List Q2} {a6 : List z7} {a7 : List (List q8)} {a8 : List q9} {a9 : List z8} {b1 : List (Int × Option Int)} {b2 : List (Int × z6)}
theorem z0H (F : Fix n ro ne) {k : Int} (hk : 0 ≤ k ∧ k < (ro.length : Int)) {l : List q8} (hl : ∀ y ∈ l, y ∈ neK ne k) : ∀ y ∈ l, (y.Kind = 1 ∨ y.Kind = 2 ∨ y.Position ≠ 0) → 0 ≤ y.Place ∧ y.Place < (n.Sections.length : Int) := fun y hy => ((F.nq hk).1 y (hl y hy)).place
def z4h (ro : List z7) (k : Int) (l : List q8) (i : Bool) : z6 := ⟨roK ro k, l, List.replicate (roK ro k).Steps.length false, List.replicate (roK ro k).Steps.length false, !i, i, 0, 0, k⟩
theorem j3y (F : Fix n ro ne) {k : Int} (hk : 0 ≤ k ∧ k < (ro.length : Int)) {l : List q8} (hl : ∀ y ∈ l, y ∈ neK ne k) (ht : ∀ y ∈ neK ne k, y.Kind ≠ 2 → y ∈ l) (hlen : l.length * 32 ≤ 140737488355328) (i : Bool) : LOk n ro ne k (z4h ro k l i) :=
 ⟨hk, rfl, rfl, by simp [z4h], by simp [z4h], hl, ht, hlen, fun j hj => (by
  have hj : (List.replicate (roK ro k).Steps.length false)[j]? = some true := hj
  rw [List.getElem?_replicate] at hj
  split at hj <;> cases hj), ⟨by simp [z4h], by simp [z4h]⟩, ⟨by simp [z4h], fun _ => by simp [z4h]⟩⟩
theorem Inv.add (F : Fix n ro ne) (h : Inv n ro ne bo gt mp ar) {k : Int} (hk : 0 ≤ k ∧ k < (ro.length : Int)) (hnew : k ∉ mp.map (·.1)) {l : List q8} (hl : ∀ y ∈ l, y ∈ neK ne k) (ht : ∀ y ∈ neK ne k, y.Kind ≠ 2 → y ∈ l) (hlen : l.length * 32 ≤ 140737488355328) (i : Bool)
  (hc : ∀ e ∈ mp, ∀ x, J4 ar e.1 = some x → ∀ y ∈ W3 x, ¬ (y.Kind = 2 ∧ x.Route.To = (roK ro k).From) → ∀ a ∈ l, ¬ q6c a y) :
  Inv n ro ne bo gt (X7 mp k (some k)) (X7 (cells (fun _ => z3j (roK ro k).From) mp ar) k (z4h ro k l i)) := by
 have hm := z6x hnew (some k)
 have hne : ∀ e ∈ mp, e.1 ≠ k := fun e he hh => hnew (hh ▸ List.mem_map_of_mem he)
 have hX := j3y F hk hl ht hlen i
 have hold : ∀ e ∈ mp, ∃ x, J4 ar e.1 = some x ∧ LOk n ro ne e.1 x ∧ J4 (X7 (cells (fun _ => z3j (roK ro k).From) mp ar) k (z4h ro k l i)) e.1 = some (z3j (roK ro k).From x) := fun e he => by
  obtain ⟨_, x, h1, h2⟩ := h.en e he
  refine ⟨x, h1, h2, ?_⟩
  rw [Z5 _ _ (hne e he), q5p _ mp ar e.1 h.nd, h1]
  show some (if _ then _ else _) = _
  rw [if_pos (List.mem_map_of_mem he)]
 have hheld : ∀ a ∈ W3 (z4h ro k l i), a ∈ l := fun a ha => (q0v.1 ha).1
 refine ⟨h.bl, h.bb, h.gl, h.gb, ?_, fun p hp => ?_, fun p hp q hq hpq x y hx hy a ha b hb hmeet => ?_⟩
 ·rw [hm, List.map_append, List.nodup_append]
  refine ⟨h.nd, by simp, fun a ha b hb => ?_⟩
  have hb : b = k := by simpa using hb
  rw [hb]
  exact fun e => hnew (e ▸ ha)
 ·rw [hm] at hp
  rcases List.mem_append.1 hp with hp | hp
  ·obtain ⟨x, _, h2, h3⟩ := hold p hp
   exact ⟨(h.en p hp).1, _, h3, (q7v h2 _).1⟩
  ·rw [List.mem_singleton.1 hp]
   exact ⟨rfl, _, J0 _ _ _, hX⟩
 ·rw [hm] at hp hq
  rcases List.mem_append.1 hp with hp | hp
  ·obtain ⟨x0, p1, p2, p3⟩ := hold p hp
   rw [p3] at hx
   rw [← Kd hx] at ha
   rcases List.mem_append.1 hq with hq | hq
   ·obtain ⟨y0, q1, q2, q3⟩ := hold q hq
    rw [q3] at hy
    rw [← Kd hy] at hb
    exact h.ap p hp q hq hpq x0 y0 p1 q1 a ((q7v p2 _).2.1 a ha) b ((q7v q2 _).2.1 b hb) hmeet
   ·rw [List.mem_singleton.1 hq] at hy
    have hy : J4 (X7 (cells (fun _ => z3j (roK ro k).From) mp ar) k (z4h ro k l i)) k = some y := hy
    rw [J0] at hy
    rw [← Kd hy] at hb
    exact hc p hp x0 p1 a ((q7v p2 _).2.1 a ha) ((q7v p2 _).2.2 a ha) b (hheld b hb) (z6B hmeet)
  ·rw [List.mem_singleton.1 hp] at hx hpq
   have hx : J4 (X7 (cells (fun _ => z3j (roK ro k).From) mp ar) k (z4h ro k l i)) k = some x := hx
   rw [J0] at hx
   rw [← Kd hx] at ha
   rcases List.mem_append.1 hq with hq | hq
   ·obtain ⟨y0, q1, q2, q3⟩ := hold q hq
    rw [q3] at hy
    rw [← Kd hy] at hb
    exact hc q hq y0 q1 b ((q7v q2 _).2.1 b hb) ((q7v q2 _).2.2 b hb) a (hheld a ha) hmeet
   ·rw [List.mem_singleton.1 hq] at hpq
    exact absurd rfl hpq
theorem z3h {ν : Type} : ∀ (l : List (Int × ν)) (k : Int), (z0b l k).Sublist l
 | [], _ => .slnil
 | (a, b) :: r, k => by
  simp only [z0b]
  split
  ·exact List.sublist_cons_self _ _
  ·exact List.Sublist.cons_cons _ (z3h r k)
theorem Inv.del (h : Inv n ro ne bo gt mp ar) (k : Int) : Inv n ro ne bo gt (z0b mp k) ar :=
 h.less (fun p hp => (z3h mp k).subset hp) ((z3h mp k).map _ |>.nodup h.nd) fun p _ x h1 h2 => ⟨x, h1, h2, fun a ha => ha⟩
theorem Inv.put (h : Inv n ro ne bo gt mp ar) {k : Int} {x x' : z6} (hx : J4 ar k = some x) (h1 : LOk n ro ne k x → LOk n ro ne k x') (h2 : ∀ a ∈ W3 x', a ∈ W3 x) : Inv n ro ne bo gt mp (X7 ar k x') :=
 h.less (fun p hp => hp) h.nd fun p hp y h3 h4 => by
  by_cases c : p.1 = k
  ·rw [c] at h3 h4 ⊢
   rw [hx] at h3
   rw [← Kd h3] at h4 ⊢
   exact ⟨x', J0 _ _ _, h1 h4, h2⟩
  ·exact ⟨y, by rw [Z5 _ _ c]; exact h3, h4, fun a ha => ha⟩
end
end Go.Proofs.YtjlollifgeggdaaGreatDoor
