import Derived.Test.YtdbehipjelcmbaaGreatDoorP1
set_option linter.unusedVariables false
set_option linter.unusedSimpArgs false
set_option linter.unusedSectionVars false
namespace Go.Proofs.YtdbehipjelcmbaaGreatDoor
open Go.RowKit Go.Fp
structure z1A (n : v6) (m : Nat) (x : q9) : Prop where
 kind : 1 ≤ x.Kind ∧ x.Kind ≤ 5
 at_ : x.Kind ≠ 2 → x.Kind ≠ 5 → 0 ≤ x.At ∧ x.At < (m : Int)
 place : x.Kind = 1 ∨ x.Kind = 2 ∨ x.Position ≠ 0 → 0 ≤ x.Place ∧ x.Place < (n.Sections.length : Int)
 pos : 0 ≤ x.Position
 pts : x.Position ≠ 0 → (sec n x.Place).Kind = 2
def KQ (n : v6) (m : Nat) (l0 : List q9) (S : List q9 × List (q9 × Bool)) : Prop :=
 (∀ x ∈ S.1, z1A n m x) ∧ (∀ x, q2a S.2 x false = true → x ∈ S.1) ∧ (∀ x ∈ l0, x ∈ S.1) ∧ S.1.length * 32 ≤ 140737488355328
theorem j4R {n : v6} {m : Nat} {l0 l : List q9} {S : List q9 × List (q9 × Bool)} (h : KQ n m l S) (h0 : ∀ x ∈ l0, x ∈ l) : KQ n m l0 S := ⟨h.1, h.2.1, fun x hx => h.2.2.1 x (h0 x hx), h.2.2.2⟩
section
variable {a : List ByteArray} {b : List z7} {c : List w5} {d : List j7} {e : List Q1} {f t : Int} {st lap : List Q2} {n : v6} {m : Nat} {l0 : List q9}
theorem z6l {x : q9} {l : List q9} {mm : List (q9 × Bool)} (h : KQ n m l0 (l, mm)) (hx : z1A n m x) : Ens (Z8 x a b c d e f t st lap l mm) (KQ n m (x :: l0)) := by
 unfold Z8
 rw [Ka]
 refine q6E (fun hq => H9 ⟨h.1, h.2.1, fun y hy => ?_, h.2.2.2⟩) fun _ => G0 fun _ hroom => H9 ⟨fun y hy => ?_, fun y hy => ?_, fun y hy => ?_, ?_⟩
 ·rcases List.mem_cons.1 hy with rfl | hy
  ·exact h.2.1 _ hq
  ·exact h.2.2.1 y hy
 ·rcases List.mem_append.1 hy with hy | hy
  ·exact h.1 y hy
  ·rw [List.mem_singleton.1 hy]; exact hx
 ·by_cases c : y = x
  ·rw [c]; exact List.mem_append_right _ (List.mem_singleton.2 rfl)
  ·have hy : (V4 (G1 mm x true) y).getD false = true := hy
   rw [J7 _ _ c] at hy
   exact List.mem_append_left _ (h.2.1 y hy)
 ·rcases List.mem_cons.1 hy with rfl | hy
  ·exact List.mem_append_right _ (List.mem_singleton.2 rfl)
  ·exact List.mem_append_left _ (h.2.2.1 y hy)
 ·have := (V6 hroom).1
  simpa using this
theorem z8G {x : q9} {l : List q9} {mm : List (q9 × Bool)} (h : KQ n m l0 (l, mm)) (hx : z1A n m x) : Ens ((Z8 x a b c d e f t st lap l mm).bind (K5 fun l' m' => some (l', m'))) (KQ n m l0) :=
 H3 _ (z6l h hx) fun _ ha => H9 (j4R ha fun y hy => List.mem_cons_of_mem _ hy)
end
theorem z7D {n : v6} (hN : q5G n) {e g : Q0} (h : q2s n.Links e = some g) : Has n g := by
 obtain ⟨x, hx, h1 | h1⟩ := q8m h
 ·rw [← h1.2]; exact (hN.ends x hx).2
 ·rw [← h1.2]; exact (hN.ends x hx).1
theorem z8O {n : v6} (hN : q5G n) {m : Nat} {l0 : List q9} {f t : Int} {st lap : List Q2} : ∀ (N : Nat) (g : Q0) (many i : Int) (l : List q9) (mm : List (q9 × Bool)), 0 ≤ i ∧ i < (m : Int) → KQ n m l0 (l, mm) → Ens (Z5 N g many i n.Stations n.Sections n.Links n.Signals n.Gates f t st lap l mm) (KQ n m l0)
 | 0, g, many, i, l, mm, hi, h => j1n
 | N + 1, g, many, i, l, mm, hi, h => by
  have keep : Ens (some (l, mm)) (KQ n m l0) := H9 h
  unfold Z5
  have hj : X8 (⟨n.Stations, n.Sections, n.Links, n.Signals, n.Gates⟩ : v6) g = some (q8l (q2s n.Links g)) := q6z n g
  rw [hj]
  refine G0 fun ⟨q1, q2, q3⟩ hq => ?_
  have hz : q1 = true → Has n ⟨q2, q3⟩ := fun h1 => by
   cases hg : q2s n.Links g with
   | none =>
    rw [hg] at hq
    have hq : some (false, _, _) = some (q1, q2, q3) := hq
    injection hq with hq
    injection hq with hq _
    rw [h1] at hq
    cases hq
   | some z =>
    rw [hg] at hq
    have hq : some (true, z.section_, z.end_) = some (q1, q2, q3) := hq
    injection hq with hq
    injection hq with _ hq
    injection hq with e1 e2
    rw [← e1, ← e2]
    exact z7D hN hg
  show Ens (Option.bind _ _) _
  refine G0 fun q hq2 => q6E (fun _ => keep) fun hqn => ?_
  have h1 : q1 = true := by
   cases q1 with
   | true => rfl
   | false =>
    have hq2 : (if false = true then _ else some true) = some q := hq2
    rw [if_neg Kh] at hq2
    exact absurd (Kd hq2).symm hqn
  have hz := hz h1
  refine G0 fun s hs => H3 (fun o : Unit ⊕ _ => ∀ S, o = .inr S → KQ n m l0 S) ?_ ?_
  ·have hs : s = sec n q2 := by
    have := q3j (n := n) hz.1
    simp only at this
    rw [this] at hs
    exact (Kd hs).symm
   refine G0 fun q hq => q6E (fun hq1 => ?_) fun _ => q6E (fun _ => G0 fun v _ => q6E (fun _ => ?_) fun _ => ?_) fun _ => ?_
   ·refine H3 (KQ n m l0) ?_ fun ⟨u, v⟩ hS => H9 fun S hs => by injection hs with hs; rw [← hs]; exact hS
    refine G0 fun q _ => q6E (fun _ => keep) fun _ => G0 fun _ _ => z8G h ?_
    have hk : s.Kind = 2 ∧ 0 < q3 := by
     by_cases c : s.Kind = 2
     ·rw [if_pos c] at hq
      have := Kd hq
      rw [hq1] at this
      exact ⟨c, of_decide_eq_true this⟩
     ·rw [if_neg c] at hq
      have := Kd hq
      rw [hq1] at this
      cases this
    have h2 := hz.2
    simp only at h2
    rw [← hs, hk.1] at h2
    have h3 : q7H 2 = 3 := by decide
    rw [h3] at h2
    exact ⟨by simp, fun _ _ => hi, fun _ => hz.1, by simp only; omega, fun _ => by simp only; rw [← hs]; exact hk.1⟩
   ·refine H3 (KQ n m l0) ?_ fun ⟨u, v⟩ hS => H9 fun S hs => by injection hs with hs; rw [← hs]; exact hS
    exact q6E (fun _ => z8G h ⟨by simp, fun _ _ => hi, fun h => by simp at h, by simp, fun h => absurd rfl h⟩) fun _ => keep
   ·exact H9 fun S hs => by cases hs
   ·exact H9 fun S hs => by cases hs
  ·rintro (u | S) hS
   ·rw [Sum.elim_inl]
    refine G0 fun o _ => H3 (KQ n m l0) ?_ fun ⟨u, v⟩ hS => H9 hS
    refine z3z (fun k ⟨l', m'⟩ hk => ?_) _ _ _ h
    unfold W9
    show Ens (Option.bind _ _) _
    exact G0 fun _ _ => G0 fun _ _ => H3 (KQ n m l0) (z8O hN N _ _ _ _ _ hi hk) fun ⟨u, v⟩ hS => H9 hS
   ·rw [Sum.elim_inr]
    exact H9 (hS S rfl)
theorem j4O {n : v6} (hN : q5G n) {m : Nat} {l0 : List q9} {f t : Int} {st lap : List Q2} (i : Int) (l : List q9) (mm : List (q9 × Bool)) (hi : 0 ≤ i ∧ i < (m : Int)) (h : KQ n m l0 (l, mm)) : Ens (F4 i n.Stations n.Sections n.Links n.Signals n.Gates f t st lap l mm) (KQ n m l0) := by
 unfold F4
 refine G0 fun ⟨x, y, z⟩ _ => ?_
 show Ens (Option.bind _ _) _
 refine G0 fun _ _ => G0 fun _ _ => G0 fun _ _ => H3 (KQ n m l0) ?_ fun ⟨u, v⟩ hS => H9 hS
 refine z3z (fun k ⟨l', m'⟩ hk => ?_) _ _ _ h
 unfold Y6
 show Ens (Option.bind _ _) _
 exact G0 fun _ _ => q6E (fun _ => H3 (KQ n m l0) (j3x fun N => z8O hN N _ _ _ _ _ hi hk) fun ⟨u, v⟩ hS => H9 hS) fun _ => H9 hk
theorem q8q {σ : Type} {body : Nat → σ → Option σ} {I : Nat → σ → Prop} : ∀ (m k : Nat) (s : σ), (∀ j s, k ≤ j → j < k + m → I j s → Ens (body j s) (I (j + 1))) → I k s → Ens (q5z body m k s) (I (k + m))
 | 0, k, s, h, hs => H9 hs
 | m + 1, k, s, h, hs => by
  show Ens ((body k s).bind _) _
  refine H3 (I (k + 1)) (h k s (by omega) (by omega) hs) fun a ha => ?_
  rw [show k + (m + 1) = (k + 1) + m by omega]
  exact q8q m (k + 1) a (fun j s h1 h2 => h j s (by omega) (by omega)) ha
theorem z2p {n : v6} {s : Q2} (h : q5F n s) {p : Int} (hp : q0j n s = some p) : 0 ≤ p ∧ (p ≠ 0 → (sec n s.Section).Kind = 2) := by
 unfold q0j at hp
 have i1 := q3j (n := n) h.1.1
 simp only at i1
 rw [i1, Ka] at hp
 have h1 := h.1.2
 simp only at h1
 by_cases c : (sec n s.Section).Kind = 2
 ·rw [if_pos c] at hp
  have := Kd hp
  exact ⟨by omega, fun _ => c⟩
 ·rw [if_neg c] at hp
  have := Kd hp
  exact ⟨by omega, fun h => absurd this.symm h⟩
def z2j (r : j1) (i : Nat) (l : List q9) : Prop := ∃ x ∈ l, x.Kind = 1 ∧ x.Place = ((r.Steps[i]?).getD ⟨0, 0, 0⟩).Section ∧ x.At = (i : Int)
theorem z2i {r : j1} {i : Nat} {l l' : List q9} (h : z2j r i l) (hm : ∀ x ∈ l, x ∈ l') : z2j r i l' := let ⟨x, h1, h2⟩ := h; ⟨x, hm x h1, h2⟩
def TQ (n : v6) (r : j1) (k : Nat) (S : List q9 × List (q9 × Bool)) : Prop := ∃ l0, KQ n r.Steps.length l0 S ∧ ∀ i, i < k → z2j r i l0
theorem j3i {n : v6} (hN : q5G n) {r : j1} (hr : q4I n r) {l : List q9} (h : G3 n r = some l) : (∀ x ∈ l, z1A n r.Steps.length x) ∧ (∀ i, i < r.Steps.length → z2j r i l) ∧ l.length * 32 ≤ 140737488355328 := by
 obtain ⟨lap, ho, _, hl⟩ := q9A hN hr
 have hst := hr.way.path.step
 have f1 : Ens (q5z (G9 n r lap) r.Steps.length 0 ([], [])) (TQ n r (0 + r.Steps.length)) := q8q (I := TQ n r) _ _ _ (fun k ⟨l', m'⟩ _ hk ⟨l0, h1, h2⟩ => by
  have hk : k < r.Steps.length := by omega
  have hs := hst _ (List.getElem_mem hk)
  unfold G9
  show Ens (Option.bind _ _) _
  rw [Z3 hk, Ka]
  refine G0 fun p hp => ?_
  have hq := z2p hs hp
  refine H3 _ (z6l h1 ⟨by simp, fun _ _ => by simp only; omega, fun _ => hs.1.1, hq.1, hq.2⟩) fun ⟨u, v⟩ hu => H9 ⟨_, hu, fun i hi => ?_⟩
  by_cases c : i = k
  ·subst c
   exact ⟨_, List.mem_cons_self, rfl, by rw [Kf hk]; rfl, rfl⟩
  ·exact z2i (h2 i (by omega)) fun x hx => List.mem_cons_of_mem _ hx) ⟨[], ⟨fun x hx => (List.not_mem_nil hx).elim, fun x hx => by simp [q2a, V4] at hx, fun x hx => (List.not_mem_nil hx).elim, by simp⟩, fun i hi => by omega⟩
 have f2 : ∀ S, TQ n r (0 + r.Steps.length) S → Ens (q5z (G8 n r lap) lap.length 0 S) (TQ n r (0 + r.Steps.length)) := fun S hS => q8q (I := fun _ => TQ n r (0 + r.Steps.length)) _ _ _ (fun k ⟨l', m'⟩ _ hk ⟨l0, h1, h2⟩ => by
  have hk : k < lap.length := by omega
  have hs := hl _ (List.getElem_mem hk)
  unfold G8
  show Ens (Option.bind _ _) _
  rw [Z3 hk, Ka]
  refine G0 fun p hp => ?_
  have hq := z2p hs hp
  exact H3 _ (z6l h1 ⟨by simp, fun h => absurd rfl h, fun _ => hs.1.1, hq.1, hq.2⟩) fun ⟨u, v⟩ hu => H9 ⟨_, j4R hu fun x hx => List.mem_cons_of_mem _ hx, h2⟩) hS
 have f3 : ∀ S, TQ n r (0 + r.Steps.length) S → Ens (q5z (G7 n r lap) r.Steps.length 0 S) (TQ n r (0 + r.Steps.length)) := fun S hS => q8q (I := fun _ => TQ n r (0 + r.Steps.length)) _ _ _ (fun k ⟨l', m'⟩ _ hk ⟨l0, h1, h2⟩ => by
  unfold G7
  show Ens (Option.bind _ _) _
  exact H3 _ (j4O hN _ _ _ ⟨by omega, by omega⟩ h1) fun ⟨u, v⟩ hu => H9 ⟨_, hu, h2⟩) hS
 have h0 : Ens (G3 n r) (fun l => (∀ x ∈ l, z1A n r.Steps.length x) ∧ (∀ i, i < r.Steps.length → z2j r i l) ∧ l.length * 32 ≤ 140737488355328) := by
  unfold G3
  rw [ho, Ka, Ka]
  show Ens (Option.bind _ _) _
  refine H3 _ f1 fun S h1 => ?_
  obtain ⟨u, v⟩ := S
  show Ens (Option.bind _ _) _
  refine H3 _ (f2 (u, v) h1) fun S h2 => ?_
  obtain ⟨u, v⟩ := S
  show Ens (Option.bind _ _) _
  refine H3 _ (f3 (u, v) h2) fun S h3 => ?_
  obtain ⟨u, v⟩ := S
  obtain ⟨l0, h3, h4⟩ := h3
  show Ens (Option.bind _ _) _
  refine H3 _ (z6l h3 ⟨by simp, fun _ h => absurd rfl h, fun h => by simp at h, by simp, fun h => absurd rfl h⟩) fun S h5 => ?_
  obtain ⟨u, v⟩ := S
  exact H9 ⟨h5.1, fun i hi => z2i (h4 i (by omega)) fun x hx => h5.2.2.1 x (List.mem_cons_of_mem _ hx), h5.2.2.2⟩
 exact h0 l h
theorem z6u {α τ : Type} {body : α → Unit → Option (Unit ⊕ τ)} {P : α → Prop} [DecidablePred P] {t : α → τ} {p : List α} (hb : ∀ e ∈ p, body e () = some (if P e then .inr (t e) else .inl ())) :
  (q4k body p () = some (.inl ()) ∧ ∀ e ∈ p, ¬ P e) ∨ ∃ e ∈ p, P e ∧ q4k body p () = some (.inr (t e)) := by
 induction p with
 | nil => exact .inl ⟨rfl, fun e h => by cases h⟩
 | cons a p ih =>
  have h1 := hb a List.mem_cons_self
  by_cases c : P a
  ·rw [if_pos c] at h1
   exact .inr ⟨a, List.mem_cons_self, c, by simp only [q4k, h1]⟩
  ·rw [if_neg c] at h1
   have e1 : q4k body (a :: p) () = q4k body p () := by simp only [q4k, h1]
   rw [e1]
   rcases ih fun e he => hb e (List.mem_cons_of_mem _ he) with ⟨h2, h3⟩ | ⟨e, h2, h3⟩
   ·refine .inl ⟨h2, fun e he => ?_⟩
    rcases List.mem_cons.1 he with rfl | he
    ·exact c
    ·exact h3 e he
   ·exact .inr ⟨e, List.mem_cons_of_mem _ h2, h3⟩
theorem z3g {α τ : Type} {body : α → Unit → Option (Unit ⊕ τ)} {P : α → Prop} [DecidablePred P] {t : α → τ} {l : List α} (hb : ∀ e ∈ l, body e () = some (if P e then .inr (t e) else .inl ())) (hu : ∀ e ∈ l, ∀ e' ∈ l, P e → P e' → t e = t e') :
  (z3U (fun p => q4k body p ()) l = some (.inl ()) ∧ ∀ e ∈ l, ¬ P e) ∨ ∃ e ∈ l, P e ∧ z3U (fun p => q4k body p ()) l = some (.inr (t e)) := by
 by_cases c : ∃ e ∈ l, P e
 ·obtain ⟨e, he, hP⟩ := c
  refine .inr ⟨e, he, hP, z3f fun p hp => ?_⟩
  rcases z6u (p := p) (fun x hx => hb x (hp.subset hx)) with ⟨_, h⟩ | ⟨e', h1, h2, h3⟩
  ·exact absurd hP (h e (hp.symm.subset he))
  ·rw [h3, hu e he e' (hp.subset h1) hP h2]
 ·refine .inl ⟨z3f fun p hp => ?_, fun e he h => c ⟨e, he, h⟩⟩
  rcases z6u (p := p) (fun x hx => hb x (hp.subset hx)) with ⟨h, _⟩ | ⟨e', h1, h2, _⟩
  ·exact h
  ·exact absurd ⟨e', hp.subset h1, h2⟩ c
section
variable {ν : Type}
theorem z0M (l : List (Int × ν)) {k : Int} {x : ν} (h : V4 l k = some x) : G1 l k x = l := by
 induction l with
 | nil => cases h
 | cons p r ih =>
  obtain ⟨a, b⟩ := p
  simp only [V4] at h
  simp only [G1]
  by_cases c : a = k
  ·rw [if_pos c] at h ⊢
   rw [← Kd h, c]
  ·rw [if_neg c] at h ⊢
   rw [ih h]
theorem q8Y (l : List (Int × ν)) (k : Int) (x y : ν) : G1 (G1 l k x) k y = G1 l k y := by
 induction l with
 | nil => simp [G1]
 | cons p r ih =>
  obtain ⟨a, b⟩ := p
  simp only [G1]
  by_cases c : a = k
  ·rw [if_pos c, if_pos c]
   simp [G1]
  ·rw [if_neg c, if_neg c]
   simp only [G1, if_neg c]
   rw [ih]
theorem z8J (l : List (Int × ν)) {k k' : Int} (x y : ν) {u v : ν} (hk : k ≠ k') (h1 : V4 l k = some u) (h2 : V4 l k' = some v) : G1 (G1 l k x) k' y = G1 (G1 l k' y) k x := by
 induction l with
 | nil => cases h1
 | cons p r ih =>
  obtain ⟨a, b⟩ := p
  simp only [V4] at h1 h2
  simp only [G1]
  by_cases c : a = k
  ·have c' : a ≠ k' := fun e => hk (c ▸ e)
   rw [if_pos c, if_neg c']
   simp only [G1]
   rw [if_neg (fun e => hk e), if_pos c]
  ·by_cases c' : a = k'
   ·rw [if_neg c, if_pos c']
    simp only [G1]
    rw [if_pos c', if_neg (fun e => hk e.symm)]
   ·rw [if_neg c] at h1
    rw [if_neg c'] at h2
    rw [if_neg c, if_neg c']
    simp only [G1]
    rw [if_neg c, if_neg c', ih h1 h2]
end
def cells {ν : Type} (g : Int → ν → ν) : List (Int × Option Int) → List (Int × ν) → List (Int × ν)
 | [], l => l
 | p :: r, l => match V4 l p.1 with
  | some x => cells g r (G1 l p.1 (g p.1 x))
  | none => cells g r l
theorem q8u {ν : Type} (g : Int → ν → ν) : ∀ (p : List (Int × Option Int)) (l : List (Int × ν)) (k : Int), (p.map (·.1)).Nodup →
  V4 (cells g p l) k = (V4 l k).map fun x => if k ∈ p.map (·.1) then g k x else x
 | [], l, k, _ => by
  simp [cells]
 | q :: r, l, k, hn => by
  simp only [List.map_cons, List.nodup_cons] at hn
  simp only [cells]
  cases hq : V4 l q.1 with
  | none =>
   simp only
   rw [q8u g r l k hn.2]
   by_cases c : k = q.1
   ·rw [c, hq]
    rfl
   ·cases V4 l k with
    | none => rfl
    | some x =>
     simp only [Option.map_some, List.map_cons, List.mem_cons]
     congr 1
     by_cases d : k ∈ r.map (·.1)
     ·rw [if_pos d, if_pos (.inr d)]
     ·rw [if_neg d, if_neg (fun h => h.elim c d)]
  | some z =>
   simp only
   rw [q8u g r _ k hn.2]
   by_cases c : k = q.1
   ·rw [c, W5, hq]
    simp only [Option.map_some, List.map_cons, List.mem_cons]
    rw [if_neg hn.1, if_pos (.inl trivial)]
   ·rw [J7 _ _ c]
    cases V4 l k with
    | none => rfl
    | some x =>
     simp only [Option.map_some, List.map_cons, List.mem_cons]
     congr 1
     by_cases d : k ∈ r.map (·.1)
     ·rw [if_pos d, if_pos (.inr d)]
     ·rw [if_neg d, if_neg (fun h => h.elim c d)]
theorem z7N {ν : Type} (g : Int → ν → ν) {p q : List (Int × Option Int)} (h : p.Perm q) : ∀ (l : List (Int × ν)), (p.map (·.1)).Nodup → cells g p l = cells g q l := by
 induction h with
 | nil => intro l _; rfl
 | cons x h ih =>
  intro l hn
  simp only [List.map_cons, List.nodup_cons] at hn
  simp only [cells]
  cases V4 l x.1 with
  | none => exact ih l hn.2
  | some z => exact ih _ hn.2
 | swap x y r =>
  intro l hn
  simp only [List.map_cons, List.nodup_cons, List.mem_cons, not_or] at hn
  have hne : y.1 ≠ x.1 := hn.1.1
  simp only [cells]
  cases hx : V4 l x.1 with
  | none =>
   cases hy : V4 l y.1 with
   | none => simp only [hx]
   | some v =>
    simp only
    rw [J7 _ _ (fun e => hne e.symm), hx]
  | some u =>
   cases hy : V4 l y.1 with
   | none =>
    simp only
    rw [J7 _ _ hne, hy]
   | some v =>
    simp only
    rw [J7 _ _ (fun e => hne e.symm), hx, J7 _ _ hne, hy]
    simp only
    rw [z8J _ _ _ hne hy hx]
 | trans h1 h2 ih1 ih2 =>
  intro l hn
  rw [ih1 l hn, ih2 l ((h1.map _).nodup_iff.1 hn)]
theorem z2v {ν τ : Type} {g : Int → ν → ν} {body : Int × Option Int → List (Int × ν) → Option (List (Int × ν) ⊕ τ)} : ∀ (p : List (Int × Option Int)) (l : List (Int × ν)),
  (∀ e ∈ p, ∀ l' x, V4 l' e.1 = some x → V4 l e.1 = some x → body e l' = some (.inl (G1 l' e.1 (g e.1 x)))) → (∀ e ∈ p, (V4 l e.1).isSome = true) → (p.map (·.1)).Nodup → q4k body p l = some (.inl (cells g p l))
 | [], l, _, _, _ => rfl
 | q :: r, l, hb, hl, hn => by
  simp only [List.map_cons, List.nodup_cons] at hn
  obtain ⟨x, hx⟩ := Option.isSome_iff_exists.1 (hl q List.mem_cons_self)
  have h1 := hb q List.mem_cons_self l x hx hx
  simp only [q4k, h1, cells, hx]
  have hne : ∀ e ∈ r, e.1 ≠ q.1 := fun e he h => hn.1 (h ▸ List.mem_map_of_mem he)
  refine z2v r _ (fun e he l' y h2 h3 => ?_) (fun e he => ?_) hn.2
  ·rw [J7 _ _ (hne e he)] at h3
   exact hb e (List.mem_cons_of_mem _ he) l' y h2 h3
  ·rw [J7 _ _ (hne e he)]
   exact hl e (List.mem_cons_of_mem _ he)
theorem z2r {ν τ : Type} {g : Int → ν → ν} {body : Int × Option Int → List (Int × ν) → Option (List (Int × ν) ⊕ τ)} {mp : List (Int × Option Int)} {l : List (Int × ν)}
  (hb : ∀ e ∈ mp, ∀ l' x, V4 l' e.1 = some x → V4 l e.1 = some x → body e l' = some (.inl (G1 l' e.1 (g e.1 x)))) (hl : ∀ e ∈ mp, (V4 l e.1).isSome = true) (hn : (mp.map (·.1)).Nodup) : z3U (fun p => q4k body p l) mp = some (.inl (cells g mp l)) :=
 z3f fun p hp => by
  rw [z2v p l (fun e he => hb e (hp.subset he)) (fun e he => hl e (hp.subset he)) ((hp.map _).nodup_iff.2 hn), z7N g hp l ((hp.map _).nodup_iff.2 hn)]
def roK (ro : List j1) (k : Int) : j1 := (ro[k.toNat]?).getD ⟨0, 0, []⟩
def neK (ne : List (List q9)) (k : Int) : List q9 := (ne[k.toNat]?).getD []
structure Fix (n : v6) (ro : List j1) (ne : List (List q9)) : Prop where
 net : q5G n
 ok : ∀ r ∈ ro, q4I n r
 many : ro.length ≤ 81
 nel : ne.length = ro.length
 nds : ∀ k : Nat, k < ro.length → G3 n (roK ro k) = some (neK ne k)
 close : ∀ g ∈ n.Gates, g.Close ≤ 9223372036854775807
section
variable {n : v6} {ro : List j1} {ne : List (List q9)}
theorem Fix.rok (F : Fix n ro ne) {k : Int} (h : 0 ≤ k ∧ k < (ro.length : Int)) : q4I n (roK ro k) := by
 have h1 : k.toNat < ro.length := by omega
 unfold roK
 rw [Kf h1]
 exact F.ok _ (List.getElem_mem h1)
theorem Fix.nq (F : Fix n ro ne) {k : Int} (h : 0 ≤ k ∧ k < (ro.length : Int)) : (∀ x ∈ neK ne k, z1A n (roK ro k).Steps.length x) ∧ (∀ i, i < (roK ro k).Steps.length → z2j (roK ro k) i (neK ne k)) ∧ (neK ne k).length * 32 ≤ 140737488355328 := by
 have h1 : k.toNat < ro.length := by omega
 have h2 := F.nds k.toNat h1
 rw [show ((k.toNat : Nat) : Int) = k by omega] at h2
 exact j3i F.net (F.rok h) h2
theorem Fix.idxR (F : Fix n ro ne) {k : Int} (h : 0 ≤ k ∧ k < (ro.length : Int)) : idx ro k = some (roK ro k) := by
 obtain ⟨x, h1, h2⟩ := q2T h.1 h.2
 rw [h1]
 unfold roK
 rw [h2]
 rfl
theorem Fix.idxN (F : Fix n ro ne) {k : Int} (h : 0 ≤ k ∧ k < (ro.length : Int)) : idx ne k = some (neK ne k) := by
 obtain ⟨x, h1, h2⟩ := q2T h.1 (by rw [F.nel]; exact h.2)
 rw [h1]
 unfold neK
 rw [h2]
 rfl
theorem z8k {r : j1} (h : q4I n r) : 0 < r.Steps.length := by
 obtain ⟨w, s, h1, _⟩ := h.last
 rw [h1]
 simp
end
structure LOk (n : v6) (ro : List j1) (ne : List (List q9)) (k : Int) (x : j0) : Prop where
 kr : 0 ≤ k ∧ k < (ro.length : Int)
 route : x.Route = roK ro k
 num : x.number = k
 seen : x.seen.length = x.Route.Steps.length
 gone : x.gone.length = x.Route.Steps.length
 sub : ∀ y ∈ x.needs, y ∈ neK ne k
 trk : ∀ y ∈ neK ne k, y.Kind ≠ 2 → y ∈ x.needs
 len : x.needs.length * 32 ≤ 140737488355328
 g0 : ∀ i : Nat, x.gone[i]? = some true → x.seen[0]? = some true
 leave : 0 ≤ x.leave ∧ x.leave ≤ 90
 clk : 0 ≤ x.clock ∧ (x.laps = true → x.clock < 60)
def q5y (x : j0) (y : q9) : Bool := if y.Kind = 2 then x.laps else if y.Kind = 5 then !((x.seen[0]?).getD true) else !((x.gone[y.At.toNat]?).getD true)
def J6 (x : j0) : List q9 := x.needs.filter (q5y x)
section
variable {n : v6} {ro : List j1} {ne : List (List q9)} {ar : List (Int × j0)} {k : Int} {x : j0}
theorem LOk.pos (F : Fix n ro ne) (h : LOk n ro ne k x) : 0 < x.Route.Steps.length := by
 rw [h.route]
 exact z8k (F.rok h.kr)
theorem LOk.seen0 (F : Fix n ro ne) (h : LOk n ro ne k x) : ∃ b, idx x.seen 0 = some b ∧ x.seen[0]? = some b := by
 have h1 : 0 < x.seen.length := by rw [h.seen]; exact h.pos F
 exact ⟨_, Z3 (j := 0) h1, Kf h1⟩
theorem LOk.need (F : Fix n ro ne) (h : LOk n ro ne k x) {y : q9} (hy : y ∈ x.needs) : z1A n x.Route.Steps.length y := by
 rw [h.route]
 exact (F.nq h.kr).1 y (h.sub y hy)
theorem j0Y (F : Fix n ro ne) (h : LOk n ro ne k x) {y : q9} (hy : y ∈ x.needs) (ha : V4 ar k = some x) : q0N (some k) y ar = some (q5y x y) := by
 unfold q0N q5y
 by_cases c2 : y.Kind = 2
 ·rw [if_pos c2, if_pos c2, Ka, ha, Ka]
 ·rw [if_neg c2, if_neg c2]
  by_cases c5 : y.Kind = 5
  ·obtain ⟨b, h1, h2⟩ := h.seen0 F
   rw [if_pos c5, if_pos c5, Ka, ha, Ka, h1, Ka, h2]
   rfl
  ·have h1 := (h.need F hy).at_ c2 c5
   have h2 : y.At < (x.gone.length : Int) := by rw [h.gone]; exact h1.2
   obtain ⟨b, h3, h4⟩ := q2T h1.1 h2
   rw [if_neg c5, if_neg c5, Ka, ha, Ka, h3, Ka, h4]
   rfl
theorem q9j (F : Fix n ro ne) (h : LOk n ro ne k x) (ha : V4 ar k = some x) : H1 (some k) ar = some (J6 x) := by
 unfold H1
 rw [Ka, ha, Ka]
 have hlen := h.len
 obtain ⟨s, h1, h2⟩ := F9 (body := q0q ar k x) (fun j s => s = (x.needs.take j).filter (q5y x)) x.needs.length 0 [] (by simp) (fun j s _ hj hs => by
  have hj : j < x.needs.length := by omega
  subst hs
  unfold q0q
  rw [Z3 hj, Ka, j0Y F h (List.getElem_mem hj) ha, Ka, List.take_succ_eq_append_getElem hj, List.filter_append]
  have hl : ((x.needs.take j).filter (q5y x)).length ≤ j := Nat.le_trans (List.length_filter_le _ _) (by simp; omega)
  cases hb : q5y x x.needs[j] with
  | true =>
   rw [if_pos rfl, q0W (by omega) (by omega), Ka]
   exact ⟨_, rfl, by simp [hb]⟩
  | false =>
   rw [if_neg Kh]
   exact ⟨_, rfl, by simp [hb]⟩)
 rw [h1, Ka, h2, Nat.zero_add, List.take_length]
 rfl
theorem q2k {y : q9} : y ∈ J6 x ↔ y ∈ x.needs ∧ q5y x y = true := List.mem_filter
end
structure Inv (n : v6) (ro : List j1) (ne : List (List q9)) (bo : List q8) (gt : List z6) (mp : List (Int × Option Int)) (ar : List (Int × j0)) : Prop where
 bl : bo.length = n.Sections.length
 bb : ∀ s ∈ bo, (0 ≤ s.axles ∧ s.axles ≤ 400) ∧ (0 ≤ s.moving ∧ s.moving ≤ 5) ∧ 1 ≤ s.position ∧ s.position ≤ 2
 gl : gt.length = n.Gates.length
 gb : ∀ g ∈ gt, g.left ≤ 9223372036854775807
 nd : (mp.map (·.1)).Nodup
 en : ∀ p ∈ mp, p.2 = some p.1 ∧ ∃ x, V4 ar p.1 = some x ∧ LOk n ro ne p.1 x
 ap : ∀ p ∈ mp, ∀ q ∈ mp, p.1 ≠ q.1 → ∀ x y, V4 ar p.1 = some x → V4 ar q.1 = some y → ∀ a ∈ J6 x, ∀ b ∈ J6 y, ¬ z0p a b
section
variable {n : v6} {ro : List j1} {ne : List (List q9)} {bo bo' : List q8} {gt gt' : List z6} {mp : List (Int × Option Int)} {ar : List (Int × j0)}
theorem Inv.gates (h : Inv n ro ne bo gt mp ar) (hl : gt'.length = gt.length) (hb : ∀ g ∈ gt', g.left ≤ 9223372036854775807) : Inv n ro ne bo gt' mp ar := ⟨h.bl, h.bb, hl.trans h.gl, hb, h.nd, h.en, h.ap⟩
theorem Inv.some_ (h : Inv n ro ne bo gt mp ar) : ∀ e ∈ mp, (V4 ar e.1).isSome = true := fun e he => by
 obtain ⟨_, x, hx, _⟩ := h.en e he
 rw [hx]
 rfl
theorem j0S {κ ν : Type} [DecidableEq κ] {l : List (κ × ν)} {k : κ} {v : ν} (h : V4 l k = some v) : (k, v) ∈ l := by
 induction l with
 | nil => cases h
 | cons p r ih =>
  obtain ⟨a, b⟩ := p
  simp only [V4] at h
  by_cases c : a = k
  ·rw [if_pos c] at h
   rw [Kd h, c]
   exact List.mem_cons_self
  ·rw [if_neg c] at h
   exact List.mem_cons_of_mem _ (ih h)
theorem z5t {κ ν : Type} [DecidableEq κ] {l : List (κ × ν)} {k : κ} {v : ν} (hn : (l.map (·.1)).Nodup) (h : (k, v) ∈ l) : V4 l k = some v := by
 induction l with
 | nil => cases h
 | cons p r ih =>
  obtain ⟨a, b⟩ := p
  simp only [List.map_cons, List.nodup_cons] at hn
  simp only [V4]
  rcases List.mem_cons.1 h with h | h
  ·injection h with h1 h2
   rw [if_pos h1.symm, h2]
  ·rw [if_neg (fun e : a = k => hn.1 (by rw [e]; exact List.mem_map_of_mem (f := (·.1)) h))]
   exact ih hn.2 h
theorem z8K {κ ν : Type} [DecidableEq κ] {l : List (κ × ν)} {k : κ} (h : V4 l k = none) : k ∉ l.map (·.1) := by
 induction l with
 | nil => simp
 | cons p r ih =>
  obtain ⟨a, b⟩ := p
  simp only [V4] at h
  by_cases c : a = k
  ·rw [if_pos c] at h; cases h
  ·rw [if_neg c] at h
   simp only [List.map_cons, List.mem_cons, not_or]
   exact ⟨fun e => c e.symm, ih h⟩
theorem Inv.look (h : Inv n ro ne bo gt mp ar) (k : Int) : (q2a mp k none = none ∧ k ∉ mp.map (·.1)) ∨ (q2a mp k none = some k ∧ (k, some k) ∈ mp ∧ ∃ x, V4 ar k = some x ∧ LOk n ro ne k x) := by
 cases hk : V4 mp k with
 | none => exact .inl ⟨by simp [q2a, hk], z8K hk⟩
 | some v =>
  have h1 := j0S hk
  obtain ⟨h2, h3⟩ := h.en _ h1
  have h2 : v = some k := h2
  subst h2
  exact .inr ⟨by simp [q2a, hk], h1, h3⟩
end
theorem j1b {τ : Type} {body : Nat → Unit → Option (Unit ⊕ τ)} {Q : Nat → Prop} [DecidablePred Q] {t : τ} {m : Nat} (hb : ∀ j, j < m → body j () = some (if Q j then .inr t else .inl ())) :
  (forM body m 0 () = some (.inl ()) ∧ ∀ j, j < m → ¬ Q j) ∨ (forM body m 0 () = some (.inr t) ∧ ∃ j, j < m ∧ Q j) := by
 rcases q1n (body := body) (fun k _ => ∀ j, j < k → ¬ Q j) (fun v => v = t ∧ ∃ j, j < m ∧ Q j) m 0 () (fun j h => by omega) (fun j s _ hj hI => by
  have hj : j < m := by omega
  rw [show s = () from rfl, hb j hj]
  by_cases c : Q j
  ·rw [if_pos c]
   exact .inr ⟨t, rfl, rfl, j, hj, c⟩
  ·rw [if_neg c]
   refine .inl ⟨(), rfl, fun i hi => ?_⟩
   by_cases e : i = j
   ·rw [e]; exact c
   ·exact hI i (by omega)) with ⟨s, h1, h2⟩ | ⟨v, h1, h2, h3⟩
 ·exact .inl ⟨h1, fun j hj => h2 j (by omega)⟩
 ·exact .inr ⟨by rw [h1, h2], h3⟩
open Classical in
theorem z4A {τ : Type} {body : Nat → Unit → Option (Unit ⊕ τ)} {Q : Nat → Prop} {t : τ} {m : Nat} (hb : ∀ j, j < m → body j () = some (if Q j then .inr t else .inl ())) :
  forM body m 0 () = some (if ∃ j, j < m ∧ Q j then .inr t else .inl ()) := by
 rcases j1b hb with ⟨h1, h2⟩ | ⟨h1, h2⟩
 ·rw [h1, if_neg (fun ⟨j, h, hq⟩ => h2 j h hq)]
 ·rw [h1, if_pos h2]
def j3a (x : j0) (s : Int) : Prop := ∃ i, i < x.Route.Steps.length ∧ ((x.Route.Steps[i]?).getD ⟨0, 0, 0⟩).Section = s ∧ x.gone[i]? = some false
section
variable {n : v6} {ro : List j1} {ne : List (List q9)} {bo : List q8} {gt : List z6} {mp : List (Int × Option Int)} {ar : List (Int × j0)}
theorem z4i (F : Fix n ro ne) {k : Int} {x : j0} (h : LOk n ro ne k x) {s : Int} (ho : j3a x s) : ∃ a ∈ J6 x, a.Kind = 1 ∧ a.Place = s := by
 obtain ⟨i, h1, h2, h3⟩ := ho
 obtain ⟨a, ha, hk, hp, hat⟩ := (F.nq h.kr).2.1 i (by rw [← h.route]; exact h1)
 refine ⟨a, q2k.2 ⟨h.trk a ha (by omega), ?_⟩, hk, ?_⟩
 ·unfold q5y
  rw [if_neg (by omega), if_neg (by omega), hat, show ((i : Int)).toNat = i by omega, h3]
  rfl
 ·rw [hp, ← h2, h.route]
theorem z2q (F : Fix n ro ne) (h : Inv n ro ne bo gt mp ar) {p q : Int × Option Int} (hp : p ∈ mp) (hq : q ∈ mp) {x y : j0} (hx : V4 ar p.1 = some x) (hy : V4 ar q.1 = some y) {s : Int} (h1 : j3a x s) (h2 : j3a y s) : p.1 = q.1 := by
 refine Classical.byContradiction fun c => ?_
 obtain ⟨_, x', hx', kx⟩ := h.en p hp
 obtain ⟨_, y', hy', ky⟩ := h.en q hq
 rw [hx] at hx'
 rw [hy] at hy'
 rw [← Kd hx'] at kx
 rw [← Kd hy'] at ky
 obtain ⟨a, ha, ka, pa⟩ := z4i F kx h1
 obtain ⟨b, hb, kb, pb⟩ := z4i F ky h2
 exact h.ap p hp q hq c x y hx hy a ha b hb ⟨by rw [pa, pb], .inl ⟨.inl ka, .inl kb⟩⟩
open Classical in
theorem z7m (F : Fix n ro ne) (h : Inv n ro ne bo gt mp ar) (s : Int) {e : Int × Option Int} (he : e ∈ mp) :
  F2 mp ar s e () = some (if (∃ x, V4 ar e.1 = some x ∧ j3a x s) then .inr (.inr (e.1, mp)) else .inl ()) := by
 obtain ⟨h1, x, hx, kx⟩ := h.en e he
 unfold F2
 rw [h1, Ka, hx, Ka]
 rw [z4A (Q := fun i => ((x.Route.Steps[i]?).getD ⟨0, 0, 0⟩).Section = s ∧ x.gone[i]? = some false) (t := .inr (.inr (e.1, mp))) (fun i hi => by
  have hg : i < x.gone.length := by rw [kx.gone]; exact hi
  unfold q2r
  rw [Z3 hi, Ka, Kf hi, Kf hg]
  by_cases c : x.Route.Steps[i].Section = s
  ·rw [if_pos c, hx, Ka, Z3 hg, Ka, Ka]
   cases hb : x.gone[i] with
   | true =>
    rw [if_neg (by simp), if_neg (by simp)]
   | false =>
    rw [if_pos (by simp), Ka, kx.num, if_pos ⟨c, rfl⟩]
  ·rw [if_neg c, Ka, if_neg (by simp), if_neg (fun h => c h.1)])]
 rw [Ka]
 by_cases c : ∃ i, i < x.Route.Steps.length ∧ ((x.Route.Steps[i]?).getD ⟨0, 0, 0⟩).Section = s ∧ x.gone[i]? = some false
 ·rw [if_pos c, if_pos ⟨x, rfl, c⟩]
  rfl
 ·rw [if_neg c, if_neg (fun ⟨y, hy, ho⟩ => c (by rw [← Kd hy] at ho; exact ho))]
  rfl
theorem z3e (F : Fix n ro ne) (h : Inv n ro ne bo gt mp ar) (a1 : List ByteArray) (a2 : List z7) (a3 : List w5) (a4 : List j7) (a5 : List Q1) (a6 : List j1) (a7 : List (List q9)) (a8 : List q8) (a9 : List z6) (s : Int) :
  ∃ r, q1S s a1 a2 a3 a4 a5 a6 a7 a8 a9 mp ar = some (r, mp) ∧ ((r = -1 ∧ ∀ e ∈ mp, ∀ x, V4 ar e.1 = some x → ¬ j3a x s) ∨ ∃ x, (r, some r) ∈ mp ∧ V4 ar r = some x ∧ j3a x s) := by
 classical
 unfold q1S
 rcases z3g (body := F2 mp ar s) (P := fun e => ∃ x, V4 ar e.1 = some x ∧ j3a x s) (t := fun e => .inr (e.1, mp)) (l := mp) (fun e he => by
  rw [z7m F h s he]) (fun e he e' he' ⟨x, h1, h2⟩ ⟨y, h3, h4⟩ => by rw [z2q F h he he' h1 h3 h2 h4]) with ⟨h1, h2⟩ | ⟨e, he, ⟨x, hx, ho⟩, h1⟩
 ·refine ⟨-1, by rw [h1]; rfl, .inl ⟨rfl, fun e he x hx ho => h2 e he ⟨x, hx, ho⟩⟩⟩
 ·refine ⟨e.1, by rw [h1]; rfl, .inr ⟨x, ?_, hx, ho⟩⟩
  have := (h.en e he).1
  rw [← this]
  exact he
theorem z2J (F : Fix n ro ne) (h : Inv n ro ne bo gt mp ar) (a1 : List ByteArray) (a2 : List z7) (a3 : List w5) (a4 : List j7) (a6 : List j1) (a7 : List (List q9)) (a8 : List q8) :
  ∃ gt', q0C a1 a2 a3 a4 n.Gates a6 a7 a8 gt mp ar = some (gt', mp) ∧ gt'.length = gt.length ∧ ∀ g ∈ gt', g.left ≤ 9223372036854775807 := by
 unfold q0C
 obtain ⟨⟨g1, m1⟩, h1, h2, h3, h4⟩ := F9 (body := q1Q a1 a2 a3 a4 n.Gates a6 a7 a8 ar) (fun _ S => S.2 = mp ∧ S.1.length = gt.length ∧ ∀ g ∈ S.1, g.left ≤ 9223372036854775807) n.Gates.length 0 (gt, mp) ⟨rfl, rfl, h.gb⟩ (fun k S _ hk hS => by
  obtain ⟨g1, m1⟩ := S
  obtain ⟨h2, h3, h4⟩ := hS
  have h2 : m1 = mp := h2
  subst h2
  have h3 : g1.length = gt.length := h3
  have h4 : ∀ g ∈ g1, g.left ≤ 9223372036854775807 := h4
  have hk : k < n.Gates.length := by omega
  have hg : k < g1.length := by rw [h3, h.gl]; exact hk
  unfold q1Q
  show ∃ s', Option.bind _ _ = _ ∧ _
  obtain ⟨r, h5, _⟩ := z3e F h a1 a2 a3 a4 n.Gates a6 a7 a8 g1 n.Gates[k].Section
  have hset : ∀ y : z6, y.left ≤ 9223372036854775807 → ∀ g ∈ put g1 (k : Int) y, g.left ≤ 9223372036854775807 := fun y hy g hgm => by
   rw [q0E] at hgm
   rcases List.mem_or_eq_of_mem_set hgm with h | h
   ·exact h4 g h
   ·rw [h]; exact hy
  have hb := h4 _ (List.getElem_mem hg)
  have hc := F.close _ (List.getElem_mem hk)
  rw [Z3 hk, Ka, Z3 hg, Ka, h5, Ka]
  simp only [K5]
  by_cases c : 0 ≤ r
  ·rw [if_pos c]
   by_cases cw : g1[k].wanted = true
   ·rw [if_pos cw]
    exact ⟨_, rfl, rfl, by rw [v7]; exact h3, hset _ hb⟩
   ·rw [if_neg cw, Z3 (by rw [v7]; exact hg), Ka]
    refine ⟨_, rfl, rfl, by rw [v7, v7]; exact h3, fun g hgm => ?_⟩
    simp only [q0E, List.getElem_set_self, List.set_set] at hgm
    rcases List.mem_or_eq_of_mem_set hgm with h | h
    ·exact h4 g h
    ·rw [h]; exact hc
  ·rw [if_neg c]
   exact ⟨_, rfl, rfl, by rw [v7]; exact h3, hset _ hb⟩)
 rw [h1]
 have h2 : m1 = mp := h2
 subst h2
 exact ⟨g1, rfl, h3, h4⟩
theorem z3k (F : Fix n ro ne) (h : Inv n ro ne bo gt mp ar) (a1 : List ByteArray) (a2 : List z7) (a3 : List w5) (a4 : List j7) (a5 : List Q1) (a6 : List j1) (a7 : List (List q9)) (a8 : List q8) (a9 : List z6) (s : Int) :
  ∃ b, H7 s a1 a2 a3 a4 a5 a6 a7 a8 a9 mp ar = some (b, mp) := by
 classical
 unfold H7
 rcases z3g (body := Y9 mp ar s) (P := fun e => ∃ x, V4 ar e.1 = some x ∧ ∃ i, i < (J6 x).length ∧ ∃ y, (J6 x)[i]? = some y ∧ y.Place = s ∧ (y.Kind = 1 ∨ y.Kind = 2 ∨ y.Kind = 3)) (t := fun _ => .inr (true, mp)) (l := mp) (fun e he => by
  obtain ⟨h1, x, hx, kx⟩ := h.en e he
  unfold Y9
  rw [h1, q9j F kx hx, Ka]
  rw [z4A (Q := fun i => ∃ y, (J6 x)[i]? = some y ∧ y.Place = s ∧ (y.Kind = 1 ∨ y.Kind = 2 ∨ y.Kind = 3)) (t := .inr (.inr (true, mp))) (fun i hi => by
   unfold q0G
   rw [Z3 hi, Ka, Kf hi]
   have e2 : (∃ y, some (J6 x)[i] = some y ∧ y.Place = s ∧ (y.Kind = 1 ∨ y.Kind = 2 ∨ y.Kind = 3)) ↔ (J6 x)[i].Place = s ∧ ((J6 x)[i].Kind = 1 ∨ (J6 x)[i].Kind = 2 ∨ (J6 x)[i].Kind = 3) :=
    ⟨fun ⟨y, h1, h2⟩ => by rw [Kd h1]; exact h2, fun h => ⟨_, rfl, h⟩⟩
   by_cases c : (J6 x)[i].Place = s ∧ ((J6 x)[i].Kind = 1 ∨ (J6 x)[i].Kind = 2 ∨ (J6 x)[i].Kind = 3)
   ·rw [if_pos (e2.2 c), if_pos c.1]
    by_cases c1 : (J6 x)[i].Kind = 1
    ·rw [if_pos c1, Ka, if_pos rfl]
    ·by_cases c2 : (J6 x)[i].Kind = 2
     ·rw [if_neg c1, if_pos c2, Ka, if_pos rfl]
     ·have c3 : (J6 x)[i].Kind = 3 := (c.2.resolve_left c1).resolve_left c2
      rw [if_neg c1, if_neg c2, Ka, if_pos (decide_eq_true c3)]
   ·rw [if_neg (fun h => c (e2.1 h))]
    by_cases c0 : (J6 x)[i].Place = s
    ·rw [if_pos c0, if_neg (fun h => c ⟨c0, .inl h⟩), if_neg (fun h => c ⟨c0, .inr (.inl h)⟩), Ka, if_neg (fun h => c ⟨c0, .inr (.inr (of_decide_eq_true h))⟩)]
    ·rw [if_neg c0, Ka, if_neg Kh])]
  rw [Ka]
  by_cases c : ∃ i, i < (J6 x).length ∧ ∃ y, (J6 x)[i]? = some y ∧ y.Place = s ∧ (y.Kind = 1 ∨ y.Kind = 2 ∨ y.Kind = 3)
  ·rw [if_pos c, if_pos ⟨x, hx, c⟩]
   rfl
  ·rw [if_neg c, if_neg (fun ⟨y, hy, ho⟩ => c (by rw [hx] at hy; rw [← Kd hy] at ho; exact ho))]
   rfl) (fun _ _ _ _ _ _ => rfl) with ⟨h1, _⟩ | ⟨e, _, _, h1⟩
 ·exact ⟨false, by rw [h1]; rfl⟩
 ·exact ⟨true, by rw [h1]; rfl⟩
theorem z4G (y : q9) (l : List q9) [Decidable (∃ a ∈ l, z0p a y)] : P9 y.Kind y.Place y.Position y.At l = some (decide (∃ a ∈ l, z0p a y)) :=
 z5a (fun a => z0p a y) (fun k hk => by
  unfold q0Z q1T
  rw [Z3 hk, Ka]
  have : q4q l[k] ⟨y.Kind, y.Place, y.Position, y.At⟩ = some (decide (z0p l[k] y)) := j0T _ _
  rw [this, Ka, Ka]
  by_cases c : z0p l[k] y
  ·rw [decide_eq_true c, if_pos rfl, if_pos c]
  ·rw [decide_eq_false c, if_neg Kh, if_neg c])
theorem z7I (F : Fix n ro ne) (h : Inv n ro ne bo gt mp ar) (a1 : List ByteArray) (a2 : List z7) (a3 : List w5) (a4 : List j7) (a5 : List Q1) (a7 : List (List q9)) (a8 : List q8) (a9 : List z6) {k : Int} (hk : 0 ≤ k ∧ k < (ro.length : Int)) (needs : List q9) :
  ∃ b, q1z k a1 a2 a3 a4 a5 ro a7 needs a8 a9 mp ar = some (b, mp) ∧ (b = false → ∀ e ∈ mp, ∀ x, V4 ar e.1 = some x → ∀ y ∈ J6 x, ¬ (y.Kind = 2 ∧ x.Route.To = (roK ro k).From) → ∀ a ∈ needs, ¬ z0p a y) := by
 classical
 unfold q1z
 rcases z3g (body := q0i ro needs mp ar k) (P := fun e => ∃ x, V4 ar e.1 = some x ∧ ∃ i, i < (J6 x).length ∧ ∃ y, (J6 x)[i]? = some y ∧ ¬ (y.Kind = 2 ∧ x.Route.To = (roK ro k).From) ∧ ∃ a ∈ needs, z0p a y) (t := fun _ => .inr (true, mp)) (l := mp) (fun e he => by
  obtain ⟨h1, x, hx, kx⟩ := h.en e he
  unfold q0i
  rw [h1, q9j F kx hx, Ka]
  have key : (forM (W4 ro needs mp ar k (J6 x)) (J6 x).length 0 (some e.1) = some (.inl (some e.1)) ∧ ∀ i, i < (J6 x).length → ¬ ∃ y, (J6 x)[i]? = some y ∧ ¬ (y.Kind = 2 ∧ x.Route.To = (roK ro k).From) ∧ ∃ a ∈ needs, z0p a y) ∨
    (forM (W4 ro needs mp ar k (J6 x)) (J6 x).length 0 (some e.1) = some (.inr (.inr (.inr (true, mp)))) ∧ ∃ i, i < (J6 x).length ∧ ∃ y, (J6 x)[i]? = some y ∧ ¬ (y.Kind = 2 ∧ x.Route.To = (roK ro k).From) ∧ ∃ a ∈ needs, z0p a y) := by
   rcases q1n (body := W4 ro needs mp ar k (J6 x)) (fun j q => q = some e.1 ∧ ∀ i, i < j → ¬ ∃ y, (J6 x)[i]? = some y ∧ ¬ (y.Kind = 2 ∧ x.Route.To = (roK ro k).From) ∧ ∃ a ∈ needs, z0p a y)
    (fun v => v = .inr (.inr (true, mp)) ∧ ∃ i, i < (J6 x).length ∧ ∃ y, (J6 x)[i]? = some y ∧ ¬ (y.Kind = 2 ∧ x.Route.To = (roK ro k).From) ∧ ∃ a ∈ needs, z0p a y) (J6 x).length 0 (some e.1) ⟨rfl, fun i hi => by omega⟩ (fun j q _ hj hI => by
    obtain ⟨hq, hI⟩ := hI
    subst hq
    have hj : j < (J6 x).length := by omega
    have next : ¬ (∃ y, (J6 x)[j]? = some y ∧ ¬ (y.Kind = 2 ∧ x.Route.To = (roK ro k).From) ∧ ∃ a ∈ needs, z0p a y) → ∀ i, i < j + 1 → ¬ ∃ y, (J6 x)[i]? = some y ∧ ¬ (y.Kind = 2 ∧ x.Route.To = (roK ro k).From) ∧ ∃ a ∈ needs, z0p a y := fun c i hi => by
     by_cases e : i = j
     ·rw [e]; exact c
     ·exact hI i (by omega)
    unfold W4
    rw [Z3 hj, Ka, Ka, hx, Ka, F.idxR hk, Ka]
    have e1 : (if (J6 x)[j].Kind = 2 then some (some e.1, decide (x.Route.To = (roK ro k).From)) else some (some e.1, false)) = some (some e.1, decide ((J6 x)[j].Kind = 2 ∧ x.Route.To = (roK ro k).From)) := by
     by_cases c : (J6 x)[j].Kind = 2
     ·rw [if_pos c]
      congr 2
      exact decide_eq_decide.2 ⟨fun h => ⟨c, h⟩, fun h => h.2⟩
     ·rw [if_neg c, decide_eq_false (fun h => c h.1)]
    rw [e1, K3]
    by_cases c : (J6 x)[j].Kind = 2 ∧ x.Route.To = (roK ro k).From
    ·rw [decide_eq_true c, if_pos rfl]
     refine .inl ⟨_, rfl, rfl, next fun ⟨y, h1, h2, _⟩ => h2 ?_⟩
     rw [Kf hj] at h1
     rw [← Kd h1]
     exact c
    ·rw [decide_eq_false c, if_neg Kh, z4G, Ka]
     by_cases c2 : ∃ a ∈ needs, z0p a (J6 x)[j]
     ·rw [decide_eq_true c2, if_pos rfl]
      exact .inr ⟨_, rfl, rfl, j, hj, _, Kf hj, c, c2⟩
     ·rw [decide_eq_false c2, if_neg Kh]
      refine .inl ⟨_, rfl, rfl, next fun ⟨y, h1, _, h3⟩ => c2 ?_⟩
      rw [Kf hj] at h1
      rw [Kd h1]
      exact h3) with ⟨q, h1, h2, h3⟩ | ⟨v, h1, h2, h3⟩
   ·exact .inl ⟨by rw [h1, h2], fun i hi => h3 i (by omega)⟩
   ·exact .inr ⟨by rw [h1, h2], h3⟩
  rcases key with ⟨h2, h3⟩ | ⟨h2, h3⟩
  ·rw [h2, if_neg (fun ⟨y, hy, i, hi, h4⟩ => by rw [hx] at hy; rw [← Kd hy] at hi h4; exact h3 i hi h4)]
   rfl
  ·rw [h2, if_pos ⟨x, hx, h3⟩]
   rfl) (fun _ _ _ _ _ _ => rfl) with ⟨h1, h2⟩ | ⟨e, _, _, h1⟩
 ·refine ⟨false, by rw [h1]; rfl, fun _ e he x hx y hy hc a ha hm => h2 e he ?_⟩
  obtain ⟨i, hi, hg⟩ := List.getElem_of_mem hy
  exact ⟨x, hx, i, hi, y, by rw [Kf hi, hg], hc, a, ha, hm⟩
 ·exact ⟨true, by rw [h1]; rfl, fun h => by cases h⟩
end
def q9J (s : q8) : Prop := (0 ≤ s.axles ∧ s.axles ≤ 400) ∧ (0 ≤ s.moving ∧ s.moving ≤ 5) ∧ 1 ≤ s.position ∧ s.position ≤ 2
def z0a (m : Nat) (l : List q8) : Prop := l.length = m ∧ ∀ s ∈ l, q9J s
theorem z0a.get {m : Nat} {l : List q8} (h : z0a m l) {i : Int} (h0 : 0 ≤ i ∧ i < (m : Int)) : ∃ s, idx l i = some s ∧ q9J s := by
 obtain ⟨x, h1, h2⟩ := q2T h0.1 (by rw [h.1]; exact h0.2)
 exact ⟨x, h1, h.2 x (List.mem_of_getElem? h2)⟩
theorem z0a.put {m : Nat} {l : List q8} (h : z0a m l) (i : Int) {y : q8} (hy : q9J y) : z0a m (put l i y) :=
 ⟨by rw [v7]; exact h.1, fun s hs => by
  rcases List.mem_or_eq_of_mem_set hs with h1 | h1
  ·exact h.2 s h1
  ·rw [h1]; exact hy⟩
def z6W (m : Nat) (l : List z6) : Prop := l.length = m ∧ ∀ g ∈ l, g.left ≤ 9223372036854775807
theorem z6W.get {m : Nat} {l : List z6} (h : z6W m l) {i : Int} (h0 : 0 ≤ i ∧ i < (m : Int)) : ∃ s, idx l i = some s ∧ s.left ≤ 9223372036854775807 := by
 obtain ⟨x, h1, h2⟩ := q2T h0.1 (by rw [h.1]; exact h0.2)
 exact ⟨x, h1, h.2 x (List.mem_of_getElem? h2)⟩
theorem z6W.put {m : Nat} {l : List z6} (h : z6W m l) (i : Int) {y : z6} (hy : y.left ≤ 9223372036854775807) : z6W m (put l i y) :=
 ⟨by rw [v7]; exact h.1, fun s hs => by
  rcases List.mem_or_eq_of_mem_set hs with h1 | h1
  ·exact h.2 s h1
  ·rw [h1]; exact hy⟩
section
variable {n : v6} {ro : List j1} {ne : List (List q9)} {bo bo' : List q8} {gt gt' : List z6} {mp : List (Int × Option Int)} {ar : List (Int × j0)}
variable {a1 : List ByteArray} {a2 : List z7} {a3 : List w5} {a4 : List j7} {a5 : List Q1} {a6 : List j1} {a7 : List (List q9)} {a8 : List q8} {a9 : List z6} {b1 : List (Int × Option Int)} {b2 : List (Int × j0)}
theorem Inv.B (h : Inv n ro ne bo gt mp ar) : z0a n.Sections.length bo := ⟨h.bl, h.bb⟩
theorem Inv.G (h : Inv n ro ne bo gt mp ar) : z6W n.Gates.length gt := ⟨h.gl, h.gb⟩
theorem Inv.toB (h : Inv n ro ne bo gt mp ar) (hb : z0a n.Sections.length bo') : Inv n ro ne bo' gt mp ar := ⟨hb.1, hb.2, h.gl, h.gb, h.nd, h.en, h.ap⟩
theorem Inv.toG (h : Inv n ro ne bo gt mp ar) (hb : z6W n.Gates.length gt') : Inv n ro ne bo gt' mp ar := ⟨h.bl, h.bb, hb.1, hb.2, h.nd, h.en, h.ap⟩
theorem q2Y (a : Int) : X7 a a1 a2 a3 a4 a5 a6 a7 bo a9 b1 b2 = some (decide (0 ≤ a ∧ a < (bo.length : Int))) := by
 unfold X7
 by_cases c : 0 ≤ a
 ·rw [if_pos c, Ka]
  congr 1
  exact decide_eq_decide.2 ⟨fun h => ⟨c, h⟩, fun h => h.2⟩
 ·rw [if_neg c, Ka, decide_eq_false (fun h => c h.1)]
theorem q5T (a : Int) : K1 a a1 a2 a3 a4 a5 ro a7 a8 a9 b1 b2 = some (decide (0 ≤ a ∧ a < (ro.length : Int))) := by
 unfold K1
 by_cases c : 0 ≤ a
 ·rw [if_pos c, Ka]
  congr 1
  exact decide_eq_decide.2 ⟨fun h => ⟨c, h⟩, fun h => h.2⟩
 ·rw [if_neg c, Ka, decide_eq_false (fun h => c h.1)]
theorem q4V (s : q8) : J5 s = some (decide (0 < s.axles) || s.disturbed) := by
 unfold J5
 by_cases c : 0 < s.axles
 ·rw [if_pos c, decide_eq_true c]; rfl
 ·rw [if_neg c, decide_eq_false c]; rfl
theorem j4G (hb : z0a n.Sections.length bo) (d c : Int) : ∃ r bo', q4z d c a1 a2 a3 a4 a5 a6 a7 bo a9 b1 b2 = some (r, bo') ∧ z0a n.Sections.length bo' ∧ (r = 0 ∨ bo' = bo) := by
 unfold q4z
 rw [q2Y, Ka]
 by_cases h0 : 0 ≤ d ∧ d < (bo.length : Int)
 ·rw [decide_eq_true h0, if_pos rfl]
  have hd : 0 ≤ d ∧ d < (n.Sections.length : Int) := by rw [← hb.1]; exact h0
  obtain ⟨s, h1, h2⟩ := hb.get hd
  by_cases c0 : c < 0
  ·rw [if_pos c0, Ka, if_pos rfl]
   exact ⟨_, _, rfl, hb, by first | exact .inl rfl | simp⟩
  ·rw [if_neg c0, Ka]
   by_cases c1 : 400 < c
   ·rw [decide_eq_true c1, if_pos rfl]
    exact ⟨_, _, rfl, hb, by first | exact .inl rfl | simp⟩
   ·have h3 := h2.1
    rw [decide_eq_false c1, if_neg Kh, h1, Ka, P0 (by omega) (by omega), Ka]
    by_cases c2 : 400 < s.axles + c
    ·rw [if_pos c2]
     exact ⟨_, _, rfl, hb, by first | exact .inl rfl | simp⟩
    ·rw [if_neg c2, Ka, P0 (by omega) (by omega), Ka, Ka]
     exact ⟨_, _, rfl, hb.put _ ⟨⟨by simp only; omega, by simp only; omega⟩, h2.2⟩, by first | exact .inl rfl | simp⟩
 ·rw [decide_eq_false h0, if_neg Kh]
  exact ⟨_, _, rfl, hb, by first | exact .inl rfl | simp⟩
theorem z7G (hb : z0a n.Sections.length bo) (d : Int) : ∃ r bo', q1y d a1 a2 a3 a4 a5 a6 a7 bo a9 b1 b2 = some (r, bo') ∧ z0a n.Sections.length bo' ∧ (r = 0 ∨ bo' = bo) := by
 unfold q1y
 rw [q2Y, Ka]
 by_cases h0 : 0 ≤ d ∧ d < (bo.length : Int)
 ·obtain ⟨s, h1, h2⟩ := hb.get (i := d) (by rw [← hb.1]; exact h0)
  rw [decide_eq_true h0, if_pos rfl, h1, Ka]
  split
  ·exact ⟨_, _, rfl, hb, by first | exact .inl rfl | simp⟩
  ·rw [Ka]
   exact ⟨_, _, rfl, hb.put _ h2, by first | exact .inl rfl | simp⟩
 ·rw [decide_eq_false h0, if_neg Kh]
  exact ⟨_, _, rfl, hb, by first | exact .inl rfl | simp⟩
theorem j0J (hb : z0a n.Sections.length bo) (d : Int) : ∃ r bo', q2K d a1 n.Sections a3 a4 a5 a6 a7 bo a9 b1 b2 = some (r, bo') ∧ z0a n.Sections.length bo' ∧ (r = 0 ∨ bo' = bo) := by
 unfold q2K
 rw [q2Y, Ka]
 by_cases h0 : 0 ≤ d ∧ d < (bo.length : Int)
 ·have hd : 0 ≤ d ∧ d < (n.Sections.length : Int) := by rw [← hb.1]; exact h0
  obtain ⟨s, h1, h2⟩ := hb.get hd
  rw [decide_eq_true h0, if_pos rfl, h1, Ka]
  split
  ·rw [Ka, q3j hd, Ka]
   have hp := hb.put d (y := ⟨s.axles, false, s.position, s.moving, s.failed⟩) h2
   split
   ·obtain ⟨s', h3, h4⟩ := hp.get hd
    rw [h3, Ka, Ka]
    exact ⟨_, _, rfl, hp.put _ ⟨⟨by simp, by simp⟩, h4.2⟩, by first | exact .inl rfl | simp⟩
   ·rw [Ka]
    exact ⟨_, _, rfl, hp, by first | exact .inl rfl | simp⟩
  ·exact ⟨_, _, rfl, hb, by first | exact .inl rfl | simp⟩
 ·rw [decide_eq_false h0, if_neg Kh]
  exact ⟨_, _, rfl, hb, by first | exact .inl rfl | simp⟩
theorem q6t (hb : bo.length = n.Sections.length) (d : Int) : G2 d a1 n.Sections a3 a4 a5 a6 a7 bo a9 b1 b2 = some (decide ((0 ≤ d ∧ d < (n.Sections.length : Int)) ∧ (sec n d).Kind = 2)) := by
 unfold G2
 rw [q2Y, Ka, hb]
 by_cases h0 : 0 ≤ d ∧ d < (n.Sections.length : Int)
 ·rw [decide_eq_true h0, if_pos rfl, q3j h0, Ka, Ka]
  congr 1
  exact decide_eq_decide.2 ⟨fun h => ⟨h0, h⟩, fun h => h.2⟩
 ·rw [decide_eq_false h0, if_neg Kh, Ka, decide_eq_false (fun h => h0 h.1)]
theorem j3v (hb : z0a n.Sections.length bo) (d : Int) : ∃ r bo', q3H d a1 n.Sections a3 a4 a5 a6 a7 bo a9 b1 b2 = some (r, bo') ∧ z0a n.Sections.length bo' ∧ (r = 0 ∨ bo' = bo) := by
 unfold q3H
 rw [q6t hb.1, Ka]
 by_cases h0 : (0 ≤ d ∧ d < (n.Sections.length : Int)) ∧ (sec n d).Kind = 2
 ·obtain ⟨s, h1, h2⟩ := hb.get h0.1
  rw [decide_eq_true h0, if_pos rfl, h1, Ka]
  split
  ·exact ⟨_, _, rfl, hb, by first | exact .inl rfl | simp⟩
  ·rw [Ka]
   exact ⟨_, _, rfl, hb.put _ h2, by first | exact .inl rfl | simp⟩
 ·rw [decide_eq_false h0, if_neg Kh]
  exact ⟨_, _, rfl, hb, by first | exact .inl rfl | simp⟩
theorem j3k (hb : z0a n.Sections.length bo) (d : Int) : ∃ r bo', q3F d a1 n.Sections a3 a4 a5 a6 a7 bo a9 b1 b2 = some (r, bo') ∧ z0a n.Sections.length bo' ∧ (r = 0 ∨ bo' = bo) := by
 unfold q3F
 rw [q6t hb.1, Ka]
 by_cases h0 : (0 ≤ d ∧ d < (n.Sections.length : Int)) ∧ (sec n d).Kind = 2
 ·obtain ⟨s, h1, h2⟩ := hb.get h0.1
  rw [decide_eq_true h0, if_pos rfl, h1, Ka]
  split
  ·rw [Ka]
   exact ⟨_, _, rfl, hb.put _ h2, by first | exact .inl rfl | simp⟩
  ·exact ⟨_, _, rfl, hb, by first | exact .inl rfl | simp⟩
 ·rw [decide_eq_false h0, if_neg Kh]
  exact ⟨_, _, rfl, hb, by first | exact .inl rfl | simp⟩
theorem j2L (F : Fix n ro ne) (h : Inv n ro ne bo gt mp ar) (d f : Int) : ∃ r bo', q3D d f a1 n.Sections a3 a4 a5 a6 a7 bo a9 mp ar = some (r, bo', mp) ∧ z0a n.Sections.length bo' ∧ (r = 0 ∨ bo' = bo) := by
 have hb := h.B
 unfold q3D
 rw [q6t hb.1, Ka]
 by_cases h0 : (0 ≤ d ∧ d < (n.Sections.length : Int)) ∧ (sec n d).Kind = 2
 ·obtain ⟨s, h1, h2⟩ := hb.get h0.1
  rw [decide_eq_true h0, if_pos rfl, h1, Ka]
  have e1 : (if f ≠ 1 then some (decide (f ≠ 2)) else some false) = some (decide (f ≠ 1 ∧ f ≠ 2)) := by
   by_cases c : f ≠ 1
   ·rw [if_pos c]
    congr 1
    exact decide_eq_decide.2 ⟨fun h => ⟨c, h⟩, fun h => h.2⟩
   ·rw [if_neg c, decide_eq_false (fun h => c h.1)]
  rw [e1, Ka]
  split
  ·exact ⟨_, _, rfl, hb, by first | exact .inl rfl | simp⟩
  ·split
   ·exact ⟨_, _, rfl, hb, by first | exact .inl rfl | simp⟩
   ·split
    ·exact ⟨_, _, rfl, hb, by first | exact .inl rfl | simp⟩
    ·split
     ·exact ⟨_, _, rfl, hb, by first | exact .inl rfl | simp⟩
     ·rw [q4V, Ka]
      obtain ⟨b, h3⟩ := z3k F h a1 n.Sections a3 a4 a5 a6 a7 bo a9 d
      have e2 : ∃ q, (if (decide (0 < s.axles) || s.disturbed) = true then some (true, mp) else (H7 d a1 n.Sections a3 a4 a5 a6 a7 bo a9 mp ar).bind (K5 fun t u => some (t, u))) = some (q, mp) := by
       split
       ·exact ⟨_, rfl⟩
       ·rw [h3]
        exact ⟨b, rfl⟩
      obtain ⟨q, e2⟩ := e2
      rw [e2, K3]
      split
      ·exact ⟨_, _, rfl, hb, by first | exact .inl rfl | simp⟩
      ·exact ⟨_, _, rfl, hb.put _ ⟨h2.1, ⟨by simp, by simp⟩, h2.2.2⟩, by first | exact .inl rfl | simp⟩
 ·rw [decide_eq_false h0, if_neg Kh]
  exact ⟨_, _, rfl, hb, by first | exact .inl rfl | simp⟩
theorem z3l (m : Nat) (a : Int) : (if a < 0 then some true else some (decide ((m : Int) ≤ a))) = some (decide ¬ (0 ≤ a ∧ a < (m : Int))) := by
 by_cases c : a < 0
 ·rw [if_pos c, decide_eq_true (by omega)]
 ·rw [if_neg c]
  congr 1
  exact decide_eq_decide.2 (by omega)
theorem z5J (hg : z6W n.Gates.length gt) (d : Int) : ∃ r gt', q0Q d a1 a2 a3 a4 a5 a6 a7 a8 gt b1 b2 = some (r, gt') ∧ z6W n.Gates.length gt' ∧ (r = 0 ∨ gt' = gt) := by
 unfold q0Q
 rw [z3l, Ka, hg.1]
 by_cases h0 : 0 ≤ d ∧ d < (n.Gates.length : Int)
 ·obtain ⟨g, h1, h2⟩ := hg.get h0
  rw [decide_eq_false (fun h => h h0), if_neg Kh, h1, Ka]
  split
  ·exact ⟨_, _, rfl, hg, by first | exact .inl rfl | simp⟩
  ·rw [Ka]
   exact ⟨_, _, rfl, hg.put _ h2, by first | exact .inl rfl | simp⟩
 ·rw [decide_eq_true h0, if_pos rfl]
  exact ⟨_, _, rfl, hg, by first | exact .inl rfl | simp⟩
theorem z5u (F : Fix n ro ne) (hg : z6W n.Gates.length gt) (d : Int) : ∃ r gt', q0O d a1 a2 a3 a4 n.Gates a6 a7 a8 gt b1 b2 = some (r, gt') ∧ z6W n.Gates.length gt' ∧ (r = 0 ∨ gt' = gt) := by
 unfold q0O
 rw [z3l, Ka, hg.1]
 by_cases h0 : 0 ≤ d ∧ d < (n.Gates.length : Int)
 ·obtain ⟨g, h1, h2⟩ := hg.get h0
  rw [decide_eq_false (fun h => h h0), if_neg Kh, h1, Ka]
  split
  ·have hp := hg.put d (y := ⟨g.left, g.wanted, false⟩) h2
   obtain ⟨g', h3, h4⟩ := hp.get h0
   rw [Ka, h3, Ka]
   split
   ·obtain ⟨z, h5, h6⟩ := q2T h0.1 h0.2
    rw [h5, Ka, Ka]
    exact ⟨_, _, rfl, hp.put _ (F.close z (List.mem_of_getElem? h6)), by first | exact .inl rfl | simp⟩
   ·rw [Ka]
    exact ⟨_, _, rfl, hp, by first | exact .inl rfl | simp⟩
  ·exact ⟨_, _, rfl, hg, by first | exact .inl rfl | simp⟩
 ·rw [decide_eq_true h0, if_pos rfl]
  exact ⟨_, _, rfl, hg, by first | exact .inl rfl | simp⟩
theorem Inv.less {mp' : List (Int × Option Int)} {ar' : List (Int × j0)} (h : Inv n ro ne bo gt mp ar) (hs : ∀ p ∈ mp', p ∈ mp) (hn : (mp'.map (·.1)).Nodup)
  (hx : ∀ p ∈ mp', ∀ x, V4 ar p.1 = some x → LOk n ro ne p.1 x → ∃ x', V4 ar' p.1 = some x' ∧ LOk n ro ne p.1 x' ∧ ∀ a ∈ J6 x', a ∈ J6 x) : Inv n ro ne bo gt mp' ar' :=
 ⟨h.bl, h.bb, h.gl, h.gb, hn, fun p hp => by
  obtain ⟨h1, x, h2, h3⟩ := h.en p (hs p hp)
  obtain ⟨x', h4, h5, _⟩ := hx p hp x h2 h3
  exact ⟨h1, x', h4, h5⟩, fun p hp q hq hne x y h1 h2 a ha b hb => by
  obtain ⟨_, x0, h3, h4⟩ := h.en p (hs p hp)
  obtain ⟨_, y0, h5, h6⟩ := h.en q (hs q hq)
  obtain ⟨x', h7, _, h8⟩ := hx p hp x0 h3 h4
  obtain ⟨y', h9, _, h10⟩ := hx q hq y0 h5 h6
  rw [h1] at h7
  rw [h2] at h9
  rw [← Kd h7] at h8
  rw [← Kd h9] at h10
  exact h.ap p (hs p hp) q (hs q hq) hne x0 y0 h3 h5 a (h8 a ha) b (h10 b hb)⟩
theorem Inv.each (h : Inv n ro ne bo gt mp ar) (g : Int → j0 → j0) (hg : ∀ k x, LOk n ro ne k x → LOk n ro ne k (g k x) ∧ ∀ a ∈ J6 (g k x), a ∈ J6 x) : Inv n ro ne bo gt mp (cells g mp ar) :=
 h.less (fun p hp => hp) h.nd fun p hp x h1 h2 => by
  obtain ⟨h3, h4⟩ := hg p.1 x h2
  refine ⟨g p.1 x, ?_, h3, h4⟩
  rw [q8u g mp ar p.1 h.nd, h1]
  show some (if _ then _ else _) = _
  rw [if_pos (List.mem_map_of_mem hp)]
end
theorem z7z (l : w5) (c d : Int) : q0P l c d = some (decide (l.A = c ∧ l.B = d ∨ l.A = d ∧ l.B = c)) := by
 unfold q0P
 by_cases h1 : l.A = c
 ·rw [if_pos h1]
  by_cases h2 : l.B = d
  ·rw [if_pos h2, Ka, decide_eq_true (.inl ⟨h1, h2⟩)]
  ·rw [if_neg h2]
   by_cases h3 : l.A = d
   ·rw [if_pos h3, Ka]
    congr 1
    exact decide_eq_decide.2 ⟨fun h => .inr ⟨h3, h⟩, fun h => h.elim (fun h => absurd h.2 h2) (fun h => h.2)⟩
   ·rw [if_neg h3, Ka, decide_eq_false (fun h => h.elim (fun h => h2 h.2) (fun h => h3 h.1))]
 ·rw [if_neg h1]
  by_cases h3 : l.A = d
  ·rw [if_pos h3, Ka]
   congr 1
   exact decide_eq_decide.2 ⟨fun h => .inr ⟨h3, h⟩, fun h => h.elim (fun h => absurd h.1 h1) (fun h => h.2)⟩
  ·rw [if_neg h3, Ka, decide_eq_false (fun h => h.elim (fun h => h1 h.1) (fun h => h3 h.1))]
section
variable {n : v6} {ro : List j1} {ne : List (List q9)} {bo bo' : List q8} {gt gt' : List z6} {mp : List (Int × Option Int)} {ar : List (Int × j0)}
variable {a1 : List ByteArray} {a2 : List z7} {a3 : List w5} {a4 : List j7} {a5 : List Q1} {a6 : List j1} {a7 : List (List q9)} {a8 : List q8} {a9 : List z6} {b1 : List (Int × Option Int)} {b2 : List (Int × j0)}
theorem z8P (c d : Int) : ∃ b, q2f c d a1 a2 a3 a4 a5 a6 a7 a8 a9 b1 b2 = some b := by
 classical
 have h1 : q0a a3 c d = some (decide (∃ l ∈ a3, l.A = c ∧ l.B = d ∨ l.A = d ∧ l.B = c)) :=
  z5a (fun l : w5 => l.A = c ∧ l.B = d ∨ l.A = d ∧ l.B = c) (fun k hk => by
   unfold q1a
   rw [Z3 hk, Ka, z7z, Ka]
   split
   ·rename_i h
    rw [if_pos (of_decide_eq_true h)]
   ·rename_i h
    rw [if_neg (fun h2 => h (decide_eq_true h2))])
 unfold q2f
 rw [h1]
 exact ⟨_, rfl⟩
def z7j (s : Int) (x : j0) (i : Nat) (y : j0) : j0 :=
 if ((x.Route.Steps[i]?).getD ⟨0, 0, 0⟩).Section = s ∧ y.gone[i]? = some false then ⟨y.Route, y.needs, put y.seen (i : Int) true, y.gone, y.laps, y.sight, if (i : Int) = 0 then 0 else y.leave, y.clock, y.number⟩ else y
def q1o (s : Int) (x : j0) : Nat → j0
 | 0 => x
 | j + 1 => z7j s x j (q1o s x j)
theorem q8U (s : Int) (x : j0) : ∀ j, (q1o s x j).Route = x.Route ∧ (q1o s x j).needs = x.needs ∧ (q1o s x j).gone = x.gone ∧ (q1o s x j).laps = x.laps ∧ (q1o s x j).sight = x.sight ∧ (q1o s x j).clock = x.clock ∧ (q1o s x j).number = x.number ∧ (q1o s x j).seen.length = x.seen.length ∧ ((q1o s x j).leave = x.leave ∨ (q1o s x j).leave = 0) ∧ ∀ i : Nat, x.seen[i]? = some true → (q1o s x j).seen[i]? = some true
 | 0 => ⟨rfl, rfl, rfl, rfl, rfl, rfl, rfl, rfl, .inl rfl, fun _ h => h⟩
 | j + 1 => by
  obtain ⟨h1, h2, h3, h4, h5, h6, h7, h8, h9, h10⟩ := q8U s x j
  simp only [q1o, z7j]
  split
  ·refine ⟨h1, h2, h3, h4, h5, h6, h7, by rw [v7]; exact h8, ?_, fun i hi => ?_⟩
   ·split
    ·exact .inr rfl
    ·exact h9
   ·have h11 := h10 i hi
    simp only [q0E]
    rw [List.getElem?_set]
    split
    ·rename_i e
     subst e
     rw [if_pos (List.getElem?_eq_some_iff.1 h11).1]
    ·exact h11
  ·exact ⟨h1, h2, h3, h4, h5, h6, h7, h8, h9, h10⟩
theorem j0O (F : Fix n ro ne) {k : Int} {x : j0} (h : LOk n ro ne k x) (s : Int) (j : Nat) : LOk n ro ne k (q1o s x j) ∧ ∀ a ∈ J6 (q1o s x j), a ∈ J6 x := by
 obtain ⟨h1, h2, h3, h4, h5, h6, h7, h8, h9, h10⟩ := q8U s x j
 refine ⟨⟨h.kr, h1.trans h.route, h7.trans h.num, by rw [h8, h1]; exact h.seen, by rw [h3, h1]; exact h.gone, by rw [h2]; exact h.sub, by rw [h2]; exact h.trk, by rw [h2]; exact h.len, fun i hi => h10 0 (h.g0 i (by rw [← h3]; exact hi)), ?_, by rw [h6, h4]; exact h.clk⟩, fun a ha => ?_⟩
 ·have := h.leave
  rcases h9 with e | e <;> rw [e]
  ·exact this
  ·omega
 ·obtain ⟨ha, hb⟩ := q2k.1 ha
  rw [h2] at ha
  refine q2k.2 ⟨ha, ?_⟩
  unfold q5y at hb ⊢
  rw [h4, h3] at hb
  by_cases c2 : a.Kind = 2
  ·rw [if_pos c2] at hb ⊢
   exact hb
  ·rw [if_neg c2] at hb ⊢
   by_cases c5 : a.Kind = 5
   ·rw [if_pos c5] at hb ⊢
    obtain ⟨b, _, h12⟩ := h.seen0 F
    cases b with
    | true =>
     rw [h10 0 h12] at hb
     cases hb
    | false =>
     rw [h12]
     rfl
   ·rw [if_neg c5] at hb ⊢
    exact hb
theorem z8s (F : Fix n ro ne) (h : Inv n ro ne bo gt mp ar) (s : Int) {e : Int × Option Int} (he : e ∈ mp) (l' : List (Int × j0)) (x : j0) (hl : V4 l' e.1 = some x) (h0 : V4 ar e.1 = some x) :
  H6 s e l' = some (.inl (G1 l' e.1 (q1o s x x.Route.Steps.length))) := by
 obtain ⟨h1, x', hx', kx⟩ := h.en e he
 rw [h0] at hx'
 rw [← Kd hx'] at kx
 unfold H6
 rw [h1, Ka, hl, Ka]
 obtain ⟨t, h2, h3⟩ := F9 (body := q1h s e.1 x) (fun j t => t = G1 l' e.1 (q1o s x j)) x.Route.Steps.length 0 l' (z0M l' hl).symm (fun j t _ hj ht => by
  have hj : j < x.Route.Steps.length := by omega
  obtain ⟨p1, p2, p3, p4, p5, p6, p7, p8, p9, p10⟩ := q8U s x j
  have hg : j < (q1o s x j).gone.length := by rw [p3, kx.gone]; exact hj
  have hs : j < (q1o s x j).seen.length := by rw [p8, kx.seen]; exact hj
  subst ht
  refine ⟨_, ?_, rfl⟩
  unfold q1h
  rw [Z3 hj, Ka]
  have hst : (x.Route.Steps[j]?).getD ⟨0, 0, 0⟩ = x.Route.Steps[j] := by rw [Kf hj]; rfl
  by_cases c : x.Route.Steps[j].Section = s
  ·rw [if_pos c, W5, Ka, Z3 hg, Ka]
   cases hb : (q1o s x j).gone[j] with
   | true =>
    rw [if_pos rfl]
    simp only [q1o, z7j]
    rw [if_neg (fun h => by rw [Kf hg, hb] at h; cases h.2)]
   | false =>
    rw [if_neg Kh, Z3 hs, Ka]
    have hyes : z7j s x j (q1o s x j) = ⟨(q1o s x j).Route, (q1o s x j).needs, put (q1o s x j).seen (j : Int) true, (q1o s x j).gone, (q1o s x j).laps, (q1o s x j).sight, if (j : Int) = 0 then 0 else (q1o s x j).leave, (q1o s x j).clock, (q1o s x j).number⟩ :=
     if_pos ⟨by rw [hst]; exact c, by rw [Kf hg, hb]⟩
    show _ = some (G1 l' e.1 (z7j s x j (q1o s x j)))
    rw [hyes]
    by_cases c0 : (j : Int) = 0
    ·rw [if_pos c0, if_pos c0, q8Y]
    ·rw [if_neg c0, if_neg c0, q8Y]
  ·rw [if_neg c]
   simp only [q1o, z7j]
   rw [if_neg (fun h => c (by rw [hst] at h; exact h.1))])
 rw [h2, Ka, h3, Nat.zero_add]
theorem j2Z (F : Fix n ro ne) (h : Inv n ro ne bo gt mp ar) (e s f : Int) : ∃ r bo' ar', q3E e s f a1 n.Sections a3 a4 a5 a6 a7 bo a9 mp ar = some (r, bo', mp, ar') ∧ Inv n ro ne bo' gt mp ar' ∧ (r = 0 ∨ bo' = bo ∧ ar' = ar) := by
 have hb := h.B
 have hpass : z3U (fun p => q4k (H6 s) p ar) mp = some (.inl (cells (fun _ x => q1o s x x.Route.Steps.length) mp ar)) :=
  z2r (g := fun _ x => q1o s x x.Route.Steps.length) (fun e he l' x h1 h2 => z8s F h s he l' x h1 h2) h.some_ h.nd
 have hinv := h.each (fun _ x => q1o s x x.Route.Steps.length) (fun k x hx => j0O F hx s _)
 have hsame : q2N = H6 := rfl
 unfold q3E
 rw [hsame, q2Y, Ka]
 by_cases h0 : 0 ≤ e ∧ e < (bo.length : Int)
 ·have he : 0 ≤ e ∧ e < (n.Sections.length : Int) := by rw [← hb.1]; exact h0
  rw [decide_eq_true h0, if_pos rfl, q2Y, Ka]
  by_cases h1 : 0 ≤ s ∧ s < (bo.length : Int)
  ·have hs : 0 ≤ s ∧ s < (n.Sections.length : Int) := by rw [← hb.1]; exact h1
   rw [decide_eq_true h1, if_pos rfl]
   obtain ⟨b, h2⟩ := z8P (a1 := a1) (a2 := n.Sections) (a3 := a3) (a4 := a4) (a5 := a5) (a6 := a6) (a7 := a7) (a8 := bo) (a9 := a9) (b1 := mp) (b2 := ar) e s
   rw [h2, Ka]
   split
   ·split
    ·exact ⟨_, _, _, rfl, h, by first | exact .inl rfl | simp⟩
    ·split
     ·exact ⟨_, _, _, rfl, h, by first | exact .inl rfl | simp⟩
     ·rename_i f1 f2
      obtain ⟨x, x1, x2⟩ := hb.get he
      obtain ⟨y, y1, y2⟩ := hb.get hs
      have x3 := x2.1
      have y3 := y2.1
      rw [x1, Ka, y1, Ka, P0 (by omega) (by omega), Ka]
      split
      ·exact ⟨_, _, _, rfl, h, by first | exact .inl rfl | simp⟩
      ·rename_i f3
       have two : ∀ z : q8, q9J z → z.axles + f ≤ 400 → z.position = x.position → ∃ w, idx (put bo e z) s = some w ∧ q9J w ∧ w.axles + f ≤ 400 := fun z hz hzf _ => by
        by_cases c : e = s
        ·refine ⟨z, ?_, hz, hzf⟩
         rw [← c]
         have : e = ((e.toNat : Nat) : Int) := by omega
         rw [this, q0E, Z3 (by rw [List.length_set]; omega), List.getElem_set_self]
        ·refine ⟨y, ?_, y2, by omega⟩
         have e1 : e = ((e.toNat : Nat) : Int) := by omega
         have e2 : s = ((s.toNat : Nat) : Int) := by omega
         have hlt : s.toNat < bo.length := by omega
         rw [e1, q0E, e2, Z3 (by rw [List.length_set]; exact hlt), List.getElem_set_ne (by omega), ← Z3 hlt, ← e2]
         exact y1
       split
       ·rename_i f4
        rw [P0 (by omega) (by omega), Ka]
        have z2 : q9J ⟨x.axles - f, x.disturbed, x.position, x.moving, x.failed⟩ := ⟨⟨by simp only; omega, by simp only; omega⟩, x2.2⟩
        obtain ⟨w, w1, w2, w3⟩ := two _ z2 (by simp only; omega) rfl
        have w4 := w2.1
        rw [w1, Ka, P0 (by omega) (by omega), Ka, hpass]
        exact ⟨_, _, _, rfl, hinv.toB ((hb.put _ z2).put _ ⟨⟨by simp only; omega, by simp only; omega⟩, w2.2⟩), by first | exact .inl rfl | simp⟩
       ·rw [q3j he, Ka]
        split
        ·have z2 : q9J ⟨0, x.disturbed, x.position, x.moving, x.failed⟩ := ⟨⟨by simp, by simp⟩, x2.2⟩
         have hp := hb.put e z2
         have e1 : e = ((e.toNat : Nat) : Int) := by omega
         have hlt : e.toNat < bo.length := by omega
         have g1 : idx (put bo e ⟨0, x.disturbed, x.position, x.moving, x.failed⟩) e = some ⟨0, x.disturbed, x.position, x.moving, x.failed⟩ := by
          rw [e1, q0E, Z3 (by rw [List.length_set]; exact hlt), List.getElem_set_self]
         have z3 : q9J ⟨0, true, x.position, x.moving, x.failed⟩ := z2
         have g2 : put (put bo e ⟨0, x.disturbed, x.position, x.moving, x.failed⟩) e ⟨0, true, x.position, x.moving, x.failed⟩ = put bo e ⟨0, true, x.position, x.moving, x.failed⟩ := by
          rw [e1, q0E, q0E, q0E, List.set_set]
         obtain ⟨w, w1, w2, w3⟩ := two _ z3 (by simp only; omega) rfl
         have w4 := w2.1
         rw [g1, Ka]
         simp only
         rw [g2, w1, Ka, P0 (by omega) (by omega), Ka, hpass]
         exact ⟨_, _, _, rfl, hinv.toB ((hb.put _ z3).put _ ⟨⟨by simp only; omega, by simp only; omega⟩, w2.2⟩), by first | exact .inl rfl | simp⟩
        ·exact ⟨_, _, _, rfl, h, by first | exact .inl rfl | simp⟩
   ·exact ⟨_, _, _, rfl, h, by first | exact .inl rfl | simp⟩
  ·rw [decide_eq_false h1, if_neg Kh]
   exact ⟨_, _, _, rfl, h, by first | exact .inl rfl | simp⟩
 ·rw [decide_eq_false h0, if_neg Kh]
  exact ⟨_, _, _, rfl, h, by first | exact .inl rfl | simp⟩
end
theorem z7k {α β γ δ ε τ : Type} {A : α → β → γ → δ → ε → Option τ} {x : α} {y : β} {z : γ} {w : δ} {v : ε} : (some (x, y, z, w, v)).bind (j1H A) = A x y z w v := rfl
def q5S (y : q9) : Bool := decide (y.Kind ≠ 2)
theorem z6p (y : q9) : q2e y = some (decide (y.Kind = 2)) := rfl
theorem z5B (l : List q9) : (H5 l = some (-1) ∧ ∀ y ∈ l, q5S y = true) ∨ ∃ i : Nat, ∃ h : i < l.length, H5 l = some (i : Int) ∧ (∀ y ∈ l.take i, q5S y = true) ∧ q5S l[i] = false := by
 unfold H5
 rcases q1n (body := F5 l) (fun k _ => ∀ y ∈ l.take k, q5S y = true) (fun v => ∃ i : Nat, ∃ h : i < l.length, v = (i : Int) ∧ (∀ y ∈ l.take i, q5S y = true) ∧ q5S l[i] = false) l.length 0 () (by simp) (fun j s _ hj hI => by
  have hj : j < l.length := by omega
  unfold F5
  rw [Z3 hj, Ka, z6p, Ka]
  by_cases c : l[j].Kind = 2
  ·rw [if_pos (decide_eq_true c)]
   exact .inr ⟨_, rfl, j, hj, rfl, hI, by unfold q5S; rw [decide_eq_false (fun h => h c)]⟩
  ·rw [if_neg (fun h => c (of_decide_eq_true h))]
   refine .inl ⟨(), rfl, fun y hy => ?_⟩
   rw [List.take_succ_eq_append_getElem hj] at hy
   rcases List.mem_append.1 hy with hy | hy
   ·exact hI y hy
   ·rw [List.mem_singleton.1 hy]
    exact decide_eq_true c) with ⟨s, h1, h2⟩ | ⟨v, h1, i, hi, h2, h3⟩
 ·rw [h1]
  rw [Nat.zero_add, List.take_length] at h2
  exact .inl ⟨rfl, h2⟩
 ·rw [h1, h2]
  exact .inr ⟨i, hi, rfl, h3⟩
theorem z9l (l : List q9) (hl : l.length * 32 ≤ 140737488355328) : G6 l = some (l.filter q5S) := by
 unfold G6
 rcases z5B l with ⟨h1, h2⟩ | ⟨i, hi, h1, h2, h3⟩
 ·rw [h1, Ka, if_pos rfl, List.filter_eq_self.2 h2]
 ·rw [h1, Ka, if_neg (by omega), P0 (by omega) (by omega), Ka]
  obtain ⟨t, h4, h5⟩ := z4m (step := F7) (fun S => ∃ a d : Nat, S.1 = (a : Int) ∧ S.2.1 = (d : Int) ∧ a < d ∧ d ≤ l.length ∧ S.2.2.length = l.length ∧ S.2.2.take a = (l.take d).filter q5S ∧ S.2.2.drop d = l.drop d)
   (fun t => ∃ a : Nat, t.1 = (a : Int) ∧ a ≤ l.length ∧ t.2.length = l.length ∧ t.2.take a = l.filter q5S) (fun S => l.length - S.2.1.toNat) (fun S hS => by
    obtain ⟨x, y, c⟩ := S
    obtain ⟨a, d, e1, e2, had, hd, hlen, htake, hdrop⟩ := hS
    simp only at e1 e2 hlen htake hdrop
    subst e1 e2
    unfold F7
    simp only [q4L]
    by_cases hlt : (d : Int) < (c.length : Int)
    ·have hdl : d < c.length := by omega
     have hdl2 : d < l.length := by omega
     have hcd : c[d] = l[d] := by
      have h5 : (c.drop d)[0]? = (l.drop d)[0]? := by rw [hdrop]
      rw [List.getElem?_drop, List.getElem?_drop, Nat.add_zero, Kf hdl, Kf hdl2] at h5
      exact Kd h5
     have hnext : c.drop (d + 1) = l.drop (d + 1) := by
      rw [← List.drop_drop, ← List.drop_drop, hdrop]
     have htk : (l.take (d + 1)).filter q5S = (l.take d).filter q5S ++ [l[d]].filter q5S := by
      rw [List.take_succ_eq_append_getElem hdl2, List.filter_append]
     rw [if_pos hlt, Z3 hdl, Ka, z6p, Ka, hcd]
     by_cases ck : l[d].Kind = 2
     ·rw [if_pos (decide_eq_true ck), K3, P0 (by omega) (by omega), Ka]
      refine .inl ⟨_, rfl, ⟨a, d + 1, rfl, by simp, by omega, by omega, hlen, ?_, hnext⟩, by simp only; omega⟩
      rw [htk, htake]
      have : [l[d]].filter q5S = [] := by simp [q5S, ck]
      rw [this, List.append_nil]
     ·have hal : a < c.length := by omega
      rw [if_neg (fun h => ck (of_decide_eq_true h)), Z3 hal, Ka, P0 (by omega) (by omega), Ka, K3, P0 (by omega) (by omega), Ka]
      refine .inl ⟨_, rfl, ⟨a + 1, d + 1, by simp, by simp, by omega, by omega, by simp only [v7]; exact hlen, ?_, ?_⟩, by simp only; omega⟩
      ·simp only [q0E]
       rw [htk, List.take_succ_eq_append_getElem (by rw [List.length_set]; exact hal), List.getElem_set_self, List.take_set_of_le (Nat.le_refl _), htake]
       have : [l[d]].filter q5S = [l[d]] := by simp [q5S, ck]
       rw [this]
      ·simp only [q0E]
       rw [List.drop_set_of_lt (by omega)]
       exact hnext
    ·rw [if_neg hlt]
     have hdl : d = l.length := by omega
     refine .inr ⟨_, rfl, a, rfl, by omega, hlen, ?_⟩
     rw [htake, hdl, List.take_length]) ((i : Int), (i : Int) + 1, l) ⟨i, i + 1, rfl, by simp, by omega, by omega, rfl, by
    rw [List.take_succ_eq_append_getElem hi, List.filter_append, List.filter_eq_self.2 h2]
    have : [l[i]].filter q5S = [] := by simp [h3]
    rw [this, List.append_nil], rfl⟩
  obtain ⟨x, c⟩ := t
  obtain ⟨a, e1, ha, hlen, ht⟩ := h5
  simp only at e1 hlen ht
  subst e1
  rw [h4, K3, z3B (a := a) (b := c.length) (by omega) (Nat.le_refl _), Ka]
  have hcl := z0Y c (a : Int) (⟨0, 0, 0, 0⟩ : q9)
  have := z3B (l := j1r c (a : Int) (⟨0, 0, 0, 0⟩ : q9)) (a := 0) (b := a) (by omega) (by omega)
  rw [show ((0 : Nat) : Int) = 0 from rfl] at this
  rw [this, Ka, List.drop_zero]
  congr 1
  unfold j1r
  rw [show ((a : Int)).toNat = a by omega, List.take_append_of_le_length (by simp; omega), List.take_take, Nat.min_self]
  exact ht
section
variable {n : v6} {ro : List j1} {ne : List (List q9)} {bo bo' : List q8} {gt gt' : List z6} {mp : List (Int × Option Int)} {ar : List (Int × j0)}
variable {a1 : List ByteArray} {a2 : List z7} {a3 : List w5} {a4 : List j7} {a5 : List Q1} {a6 : List j1} {a7 : List (List q9)} {a8 : List q8} {a9 : List z6} {b1 : List (Int × Option Int)} {b2 : List (Int × j0)}
theorem z6n {ν : Type} {l : List (Int × ν)} {k : Int} (h : k ∉ l.map (·.1)) (v : ν) : G1 l k v = l ++ [(k, v)] := by
 induction l with
 | nil => rfl
 | cons p r ih =>
  obtain ⟨a, b⟩ := p
  simp only [List.map_cons, List.mem_cons, not_or] at h
  simp only [G1]
  rw [if_neg (fun e => h.1 e.symm), ih h.2]
  rfl
theorem z8F (h : Inv n ro ne bo gt mp ar) {k : Int} (hk : k ∉ mp.map (·.1)) : q9B mp k = some () := by
 unfold q9B
 rw [if_pos]
 rw [List.all_eq_true]
 intro p hp
 refine decide_eq_true fun e => hk ?_
 rw [(h.en p hp).1] at e
 rw [← Kd e]
 exact List.mem_map_of_mem hp
def z7C (f : Int) (x : j0) : j0 := if x.Route.To = f then ⟨x.Route, x.needs, x.seen, x.gone, false, x.sight, x.leave, x.clock, x.number⟩ else x
theorem q7C {k : Int} {x : j0} (h : LOk n ro ne k x) (f : Int) : LOk n ro ne k (z7C f x) ∧ (∀ a ∈ J6 (z7C f x), a ∈ J6 x) ∧ ∀ a ∈ J6 (z7C f x), ¬ (a.Kind = 2 ∧ x.Route.To = f) := by
 unfold z7C
 by_cases c : x.Route.To = f
 ·rw [if_pos c]
  refine ⟨⟨h.kr, h.route, h.num, h.seen, h.gone, h.sub, h.trk, h.len, h.g0, h.leave, h.clk.1, fun h => by cases h⟩, fun a ha => ?_, fun a ha hc => ?_⟩
  ·obtain ⟨ha, hb⟩ := q2k.1 ha
   refine q2k.2 ⟨ha, ?_⟩
   unfold q5y at hb ⊢
   by_cases c2 : a.Kind = 2
   ·rw [if_pos c2] at hb
    cases hb
   ·rw [if_neg c2] at hb ⊢
    exact hb
  ·obtain ⟨ha, hb⟩ := q2k.1 ha
   unfold q5y at hb
   rw [if_pos hc.1] at hb
   cases hb
 ·rw [if_neg c]
  exact ⟨h, fun a ha => ha, fun a ha hc => c hc.2⟩
theorem j3n (h : Inv n ro ne bo gt mp ar) (r : j1) : z3U (fun p => q4k (q1j r) p ar) mp = some (.inl (cells (fun _ => z7C r.From) mp ar)) :=
 z2r (g := fun _ => z7C r.From) (fun e he l' x h1 h2 => by
  unfold q1j
  rw [(h.en e he).1, Ka, h1, Ka]
  unfold z7C
  by_cases c : x.Route.To = r.From
  ·rw [if_pos c, if_pos c]
  ·rw [if_neg c, if_neg c, z0M l' h1]) h.some_ h.nd
theorem j3j {l : List q9} (hl : ∀ y ∈ l, y.Position ≠ 0 → 0 ≤ y.Place ∧ y.Place < (n.Sections.length : Int)) (hb : z0a n.Sections.length bo) : ∃ bo', q5z (q0e l) l.length 0 bo = some bo' ∧ z0a n.Sections.length bo' := by
 obtain ⟨s, h1, h2⟩ := F9 (body := q0e l) (fun _ b => z0a n.Sections.length b) l.length 0 bo hb (fun j b _ hj hb => by
  have hj : j < l.length := by omega
  unfold q0e
  rw [Z3 hj, Ka]
  by_cases c : l[j].Position = 0
  ·rw [if_pos c]
   exact ⟨_, rfl, hb⟩
  ·obtain ⟨s, h3, h4⟩ := hb.get (hl _ (List.getElem_mem hj) c)
   rw [if_neg c, h3, Ka]
   have e1 : ∃ q, (if s.position ≠ l[j].Position then some (decide (s.moving = 0)) else some false) = some q := by split <;> exact ⟨_, rfl⟩
   obtain ⟨q, e1⟩ := e1
   rw [e1, Ka]
   split
   ·exact ⟨_, rfl, hb.put _ ⟨h4.1, ⟨by simp, by simp⟩, h4.2.2⟩⟩
   ·exact ⟨_, rfl, hb⟩)
 exact ⟨s, h1, h2⟩
theorem z0S {τ : Type} {body : Nat → Unit → Option (Unit ⊕ τ)} {t : τ} {m : Nat} (hb : ∀ j, j < m → body j () = some (.inl ()) ∨ body j () = some (.inr t)) : forM body m 0 () = some (.inl ()) ∨ forM body m 0 () = some (.inr t) := by
 rcases q1n (body := body) (fun _ _ => True) (fun v => v = t) m 0 () trivial (fun j s _ hj _ => by
  rcases hb j (by omega) with h | h
  ·exact .inl ⟨(), h, trivial⟩
  ·exact .inr ⟨t, h, rfl⟩) with ⟨s, h1, _⟩ | ⟨v, h1, h2⟩
 ·exact .inl h1
 ·exact .inr (by rw [h1, h2])
theorem j0u {l : List q9} (hl : ∀ y ∈ l, (y.Kind = 1 ∨ y.Kind = 2 ∨ y.Position ≠ 0) → 0 ≤ y.Place ∧ y.Place < (n.Sections.length : Int)) (hb : z0a n.Sections.length bo) (d : List z6) (e : List (Int × j0)) (i : Bool) (g : List (Int × Option Int)) :
  (forM (q0h bo d e l g) l.length 0 () = some (.inl ()) ∨ forM (q0h bo d e l g) l.length 0 () = some (.inr (12, bo, d, g, e))) ∧
  (forM (q0g bo d e l g) l.length 0 () = some (.inl ()) ∨ forM (q0g bo d e l g) l.length 0 () = some (.inr (7, bo, d, g, e))) ∧
  (forM (q0f bo d e i l g) l.length 0 () = some (.inl ()) ∨ forM (q0f bo d e i l g) l.length 0 () = some (.inr (7, bo, d, g, e))) := by
 refine ⟨z0S fun j hj => ?_, z0S fun j hj => ?_, z0S fun j hj => ?_⟩
 ·unfold q0h
  rw [Z3 hj, Ka]
  by_cases c : 0 < l[j].Position
  ·obtain ⟨s, h3, _⟩ := hb.get (hl _ (List.getElem_mem hj) (.inr (.inr (by omega))))
   rw [if_pos c, h3, Ka, Ka]
   split
   ·exact .inr rfl
   ·exact .inl rfl
  ·rw [if_neg c, Ka, if_neg Kh]
   exact .inl rfl
 ·unfold q0g
  rw [Z3 hj, Ka]
  by_cases c : l[j].Position = 0
  ·rw [if_pos c]
   exact .inl rfl
  ·obtain ⟨s, h3, _⟩ := hb.get (hl _ (List.getElem_mem hj) (.inr (.inr c)))
   rw [if_neg c, h3, Ka, z7k]
   rw [q4V, Ka]
   have e1 : ∀ (o : Bool) (A B : Prop) [Decidable A] [Decidable B] (C : Bool), ∃ q, (if o = true then (if A then some true else if B then some true else if B then some C else some false) else if B then some C else some false) = some q := fun o A B _ _ C => by
    repeat (first | exact ⟨_, rfl⟩ | split)
   obtain ⟨q, e1⟩ := e1 (decide (0 < s.axles) || s.disturbed) (s.position ≠ l[j].Position) (0 < s.moving) (decide (s.position = l[j].Position))
   rw [e1, Ka]
   split
   ·exact .inr rfl
   ·exact .inl rfl
 ·unfold q0f
  rw [Z3 hj, Ka]
  have e1 : ∃ q, (if i = true then some false else if l[j].Kind = 1 then ((idx bo l[j].Place).bind fun j => (J5 j).bind fun k => some k) else if l[j].Kind = 2 then ((idx bo l[j].Place).bind fun l => (J5 l).bind fun m => some m) else some false) = some q := by
   split
   ·exact ⟨_, rfl⟩
   ·split
    ·rename_i c
     obtain ⟨s, h3, _⟩ := hb.get (hl _ (List.getElem_mem hj) (.inl c))
     rw [h3, Ka, q4V]
     exact ⟨_, rfl⟩
    ·split
     ·rename_i c
      obtain ⟨s, h3, _⟩ := hb.get (hl _ (List.getElem_mem hj) (.inr (.inl c)))
      rw [h3, Ka, q4V]
      exact ⟨_, rfl⟩
     ·exact ⟨_, rfl⟩
  obtain ⟨q, e1⟩ := e1
  rw [e1, Ka]
  split
  ·exact .inr rfl
  ·exact .inl rfl
end
section
variable {n : v6} {ro : List j1} {ne : List (List q9)} {bo bo' : List q8} {gt gt' : List z6} {mp : List (Int × Option Int)} {ar : List (Int × j0)}
variable {a1 : List ByteArray} {a2 : List z7} {a3 : List w5} {a4 : List j7} {a5 : List Q1} {a6 : List j1} {a7 : List (List q9)} {a8 : List q8} {a9 : List z6} {b1 : List (Int × Option Int)} {b2 : List (Int × j0)}
theorem z5r (F : Fix n ro ne) {k : Int} (hk : 0 ≤ k ∧ k < (ro.length : Int)) {l : List q9} (hl : ∀ y ∈ l, y ∈ neK ne k) : ∀ y ∈ l, (y.Kind = 1 ∨ y.Kind = 2 ∨ y.Position ≠ 0) → 0 ≤ y.Place ∧ y.Place < (n.Sections.length : Int) := fun y hy => ((F.nq hk).1 y (hl y hy)).place
def z7V (ro : List j1) (k : Int) (l : List q9) (i : Bool) : j0 := ⟨roK ro k, l, List.replicate (roK ro k).Steps.length false, List.replicate (roK ro k).Steps.length false, !i, i, 0, 0, k⟩
theorem j3h (F : Fix n ro ne) {k : Int} (hk : 0 ≤ k ∧ k < (ro.length : Int)) {l : List q9} (hl : ∀ y ∈ l, y ∈ neK ne k) (ht : ∀ y ∈ neK ne k, y.Kind ≠ 2 → y ∈ l) (hlen : l.length * 32 ≤ 140737488355328) (i : Bool) : LOk n ro ne k (z7V ro k l i) :=
 ⟨hk, rfl, rfl, by simp [z7V], by simp [z7V], hl, ht, hlen, fun j hj => (by
  have hj : (List.replicate (roK ro k).Steps.length false)[j]? = some true := hj
  rw [List.getElem?_replicate] at hj
  split at hj <;> cases hj), ⟨by simp [z7V], by simp [z7V]⟩, ⟨by simp [z7V], fun _ => by simp [z7V]⟩⟩
theorem Inv.add (F : Fix n ro ne) (h : Inv n ro ne bo gt mp ar) {k : Int} (hk : 0 ≤ k ∧ k < (ro.length : Int)) (hnew : k ∉ mp.map (·.1)) {l : List q9} (hl : ∀ y ∈ l, y ∈ neK ne k) (ht : ∀ y ∈ neK ne k, y.Kind ≠ 2 → y ∈ l) (hlen : l.length * 32 ≤ 140737488355328) (i : Bool)
  (hc : ∀ e ∈ mp, ∀ x, V4 ar e.1 = some x → ∀ y ∈ J6 x, ¬ (y.Kind = 2 ∧ x.Route.To = (roK ro k).From) → ∀ a ∈ l, ¬ z0p a y) :
  Inv n ro ne bo gt (G1 mp k (some k)) (G1 (cells (fun _ => z7C (roK ro k).From) mp ar) k (z7V ro k l i)) := by
 have hm := z6n hnew (some k)
 have hne : ∀ e ∈ mp, e.1 ≠ k := fun e he hh => hnew (hh ▸ List.mem_map_of_mem he)
 have hX := j3h F hk hl ht hlen i
 have hold : ∀ e ∈ mp, ∃ x, V4 ar e.1 = some x ∧ LOk n ro ne e.1 x ∧ V4 (G1 (cells (fun _ => z7C (roK ro k).From) mp ar) k (z7V ro k l i)) e.1 = some (z7C (roK ro k).From x) := fun e he => by
  obtain ⟨_, x, h1, h2⟩ := h.en e he
  refine ⟨x, h1, h2, ?_⟩
  rw [J7 _ _ (hne e he), q8u _ mp ar e.1 h.nd, h1]
  show some (if _ then _ else _) = _
  rw [if_pos (List.mem_map_of_mem he)]
 have hheld : ∀ a ∈ J6 (z7V ro k l i), a ∈ l := fun a ha => (q2k.1 ha).1
 refine ⟨h.bl, h.bb, h.gl, h.gb, ?_, fun p hp => ?_, fun p hp q hq hpq x y hx hy a ha b hb hmeet => ?_⟩
 ·rw [hm, List.map_append, List.nodup_append]
  refine ⟨h.nd, by simp, fun a ha b hb => ?_⟩
  have hb : b = k := by simpa using hb
  rw [hb]
  exact fun e => hnew (e ▸ ha)
 ·rw [hm] at hp
  rcases List.mem_append.1 hp with hp | hp
  ·obtain ⟨x, _, h2, h3⟩ := hold p hp
   exact ⟨(h.en p hp).1, _, h3, (q7C h2 _).1⟩
  ·rw [List.mem_singleton.1 hp]
   exact ⟨rfl, _, W5 _ _ _, hX⟩
 ·rw [hm] at hp hq
  rcases List.mem_append.1 hp with hp | hp
  ·obtain ⟨x0, p1, p2, p3⟩ := hold p hp
   rw [p3] at hx
   rw [← Kd hx] at ha
   rcases List.mem_append.1 hq with hq | hq
   ·obtain ⟨y0, q1, q2, q3⟩ := hold q hq
    rw [q3] at hy
    rw [← Kd hy] at hb
    exact h.ap p hp q hq hpq x0 y0 p1 q1 a ((q7C p2 _).2.1 a ha) b ((q7C q2 _).2.1 b hb) hmeet
   ·rw [List.mem_singleton.1 hq] at hy
    have hy : V4 (G1 (cells (fun _ => z7C (roK ro k).From) mp ar) k (z7V ro k l i)) k = some y := hy
    rw [W5] at hy
    rw [← Kd hy] at hb
    exact hc p hp x0 p1 a ((q7C p2 _).2.1 a ha) ((q7C p2 _).2.2 a ha) b (hheld b hb) (j0U hmeet)
  ·rw [List.mem_singleton.1 hp] at hx hpq
   have hx : V4 (G1 (cells (fun _ => z7C (roK ro k).From) mp ar) k (z7V ro k l i)) k = some x := hx
   rw [W5] at hx
   rw [← Kd hx] at ha
   rcases List.mem_append.1 hq with hq | hq
   ·obtain ⟨y0, q1, q2, q3⟩ := hold q hq
    rw [q3] at hy
    rw [← Kd hy] at hb
    exact hc q hq y0 q1 b ((q7C q2 _).2.1 b hb) ((q7C q2 _).2.2 b hb) a (hheld a ha) hmeet
   ·rw [List.mem_singleton.1 hq] at hpq
    exact absurd rfl hpq
theorem j3l (F : Fix n ro ne) (h : Inv n ro ne bo gt mp ar) (k : Int) (i : Bool) :
  ∃ r bo' gt' mp' ar', q3G k i a1 n.Sections a3 a4 n.Gates ro ne bo gt mp ar = some (r, bo', gt', mp', ar') ∧ Inv n ro ne bo' gt' mp' ar' ∧ (r = 0 ∨ bo' = bo ∧ gt' = gt ∧ mp' = mp ∧ ar' = ar) := by
 have hb := h.B
 unfold q3G
 rw [q5T, Ka]
 by_cases hk : 0 ≤ k ∧ k < (ro.length : Int)
 ·rw [decide_eq_true hk, if_pos rfl, Ka]
  rcases h.look k with ⟨h1, hnew⟩ | ⟨h1, _⟩
  ·have hlen := (F.nq hk).2.2
   rw [h1, if_pos (show (none : Option Int).isNone = true from rfl), F.idxN hk, Ka]
   unfold q3q
   rw [q0W (by omega) (by omega), Ka, Ka]
   have hd : ∃ l, (if i = true then (G6 (neK ne k)).bind fun c => some c else some (neK ne k)) = some l ∧ (∀ y ∈ l, y ∈ neK ne k) ∧ (∀ y ∈ neK ne k, y.Kind ≠ 2 → y ∈ l) ∧ l.length * 32 ≤ 140737488355328 := by
    split
    ·rw [z9l _ hlen]
     refine ⟨_, rfl, fun y hy => (List.mem_filter.1 hy).1, fun y hy hk => List.mem_filter.2 ⟨hy, decide_eq_true hk⟩, ?_⟩
     have := List.length_filter_le q5S (neK ne k)
     omega
    ·exact ⟨_, rfl, fun y hy => hy, fun y hy _ => hy, hlen⟩
   obtain ⟨l, hd, hl, ht, hll⟩ := hd
   rw [hd, Ka]
   obtain ⟨b, h2, h3⟩ := z7I F h a1 n.Sections a3 a4 n.Gates ne bo gt hk l
   rw [h2, K3]
   cases b with
   | true =>
    rw [if_pos rfl]
    exact ⟨_, _, _, _, _, rfl, h, by first | exact .inl rfl | simp⟩
   | false =>
    have hpl := z5r F hk hl
    obtain ⟨t1, t2, t3⟩ := j0u (n := n) hpl hb gt ar i mp
    rw [if_neg Kh]
    rcases t1 with t1 | t1
    ·rw [t1, Ka, Sum.elim_inl]
     rcases t2 with t2 | t2
     ·rw [t2, Ka, Sum.elim_inl]
      rcases t3 with t3 | t3
      ·have hsl := (F.rok hk).way.many
       rw [t3, Ka, Sum.elim_inl, F.idxR hk, Ka, j3n h (roK ro k), Ka, Sum.elim_inl, K3, q8e (by omega) (by omega), Ka, Ka, z8F h hnew, Ka, z1M]
       obtain ⟨bo', m1, m2⟩ := j3j (n := n) (fun y hy hp => hpl y hy (.inr (.inr hp))) hb
       have hI := (h.add F hk hnew hl ht hll i (h3 rfl)).toB m2
       obtain ⟨gt', w1, w2, w3⟩ := z2J F hI a1 n.Sections a3 a4 ro ne bo'
       rw [m1, Ka]
       have w1 : q0C a1 n.Sections a3 a4 n.Gates ro ne bo' gt (G1 mp k (some k)) (G1 (cells (fun _ => z7C (roK ro k).From) mp ar) k ⟨roK ro k, l, List.replicate (roK ro k).Steps.length false, List.replicate (roK ro k).Steps.length false, !i, i, 0, 0, k⟩) = some (gt', G1 mp k (some k)) := w1
       rw [w1, K3]
       exact ⟨_, _, _, _, _, rfl, hI.gates w2 w3, by first | exact .inl rfl | simp⟩
      ·rw [t3, Ka, Sum.elim_inr]
       exact ⟨_, _, _, _, _, rfl, h, by first | exact .inl rfl | simp⟩
     ·rw [t2, Ka, Sum.elim_inr]
      exact ⟨_, _, _, _, _, rfl, h, by first | exact .inl rfl | simp⟩
    ·rw [t1, Ka, Sum.elim_inr]
     exact ⟨_, _, _, _, _, rfl, h, by first | exact .inl rfl | simp⟩
  ·rw [h1, if_neg (by simp)]
   exact ⟨_, _, _, _, _, rfl, h, by first | exact .inl rfl | simp⟩
 ·rw [decide_eq_false hk, if_neg Kh]
  exact ⟨_, _, _, _, _, rfl, h, by first | exact .inl rfl | simp⟩
theorem z3i {ν : Type} : ∀ (l : List (Int × ν)) (k : Int), (z1N l k).Sublist l
 | [], _ => .slnil
 | (a, b) :: r, k => by
  simp only [z1N]
  split
  ·exact List.sublist_cons_self _ _
  ·exact List.Sublist.cons_cons _ (z3i r k)
theorem Inv.del (h : Inv n ro ne bo gt mp ar) (k : Int) : Inv n ro ne bo gt (z1N mp k) ar :=
 h.less (fun p hp => (z3i mp k).subset hp) ((z3i mp k).map _ |>.nodup h.nd) fun p _ x h1 h2 => ⟨x, h1, h2, fun a ha => ha⟩
theorem Inv.put (h : Inv n ro ne bo gt mp ar) {k : Int} {x x' : j0} (hx : V4 ar k = some x) (h1 : LOk n ro ne k x → LOk n ro ne k x') (h2 : ∀ a ∈ J6 x', a ∈ J6 x) : Inv n ro ne bo gt mp (G1 ar k x') :=
 h.less (fun p hp => hp) h.nd fun p hp y h3 h4 => by
  by_cases c : p.1 = k
  ·rw [c] at h3 h4 ⊢
   rw [hx] at h3
   rw [← Kd h3] at h4 ⊢
   exact ⟨x', W5 _ _ _, h1 h4, h2⟩
  ·exact ⟨y, by rw [J7 _ _ c]; exact h3, h4, fun a ha => ha⟩
theorem z9r (F : Fix n ro ne) (h : Inv n ro ne bo gt mp ar) (k : Int) :
  ∃ r gt' mp' ar', q2g k a1 n.Sections a3 n.Signals n.Gates ro ne bo gt mp ar = some (r, gt', mp', ar') ∧ Inv n ro ne bo gt' mp' ar' ∧ (r = 0 ∨ gt' = gt ∧ mp' = mp ∧ ar' = ar) := by
 have hb := h.B
 unfold q2g
 rw [q5T, Ka]
 by_cases hk : 0 ≤ k ∧ k < (ro.length : Int)
 ·rw [decide_eq_true hk, if_pos rfl, Ka]
  rcases h.look k with ⟨h1, hnew⟩ | ⟨h1, hmem, x, hx, kx⟩
  ·rw [h1, if_pos (show (none : Option Int).isNone = true from rfl), K3, if_pos rfl]
   exact ⟨_, _, _, _, rfl, h, by first | exact .inl rfl | simp⟩
  ·obtain ⟨b, hb1, hb2⟩ := kx.seen0 F
   rw [h1, if_neg (by simp), Ka, hx, Ka, hb1, Ka]
   have e1 : ∃ q, (if b = true then some (some k, true) else some (some k, decide (0 < x.leave))) = some (some k, q) := by split <;> exact ⟨_, rfl⟩
   obtain ⟨q, e1⟩ := e1
   rw [e1, K3]
   split
   ·exact ⟨_, _, _, _, rfl, h, by first | exact .inl rfl | simp⟩
   ·have hf := (F.rok hk).from_
    rw [← kx.route] at hf
    have hsig := j2W F.net hf
    obtain ⟨s, s1, s2⟩ := hb.get hsig.1
    rw [Ka, hx, Ka, z0Q hf, Ka, s1, Ka, q4V, Ka]
    split
    ·have hI := h.put (x' := ⟨x.Route, x.needs, x.seen, x.gone, x.laps, x.sight, 90, x.clock, x.number⟩) hx (fun kx => ⟨kx.kr, kx.route, kx.num, kx.seen, kx.gone, kx.sub, kx.trk, kx.len, kx.g0, ⟨by simp, by simp⟩, kx.clk⟩) (fun a ha => ha)
     obtain ⟨gt', w1, w2, w3⟩ := z2J F hI a1 n.Sections a3 n.Signals ro ne bo
     rw [K3, w1, K3]
     exact ⟨_, _, _, _, rfl, hI.gates w2 w3, by first | exact .inl rfl | simp⟩
    ·have hI := h.del k
     obtain ⟨gt', w1, w2, w3⟩ := z2J F hI a1 n.Sections a3 n.Signals ro ne bo
     rw [K3, w1, K3]
     exact ⟨_, _, _, _, rfl, hI.gates w2 w3, by first | exact .inl rfl | simp⟩
 ·rw [decide_eq_false hk, if_neg Kh]
  exact ⟨_, _, _, _, rfl, h, by first | exact .inl rfl | simp⟩
end
end Go.Proofs.YtdbehipjelcmbaaGreatDoor
