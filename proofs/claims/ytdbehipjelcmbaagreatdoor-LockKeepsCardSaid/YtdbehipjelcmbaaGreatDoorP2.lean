import Derived.Test.YtdbehipjelcmbaaGreatDoorP1
set_option linter.unusedVariables false
set_option linter.unusedSimpArgs false
set_option linter.unusedSectionVars false
namespace Go.Proofs.YtdbehipjelcmbaaGreatDoor
open Go.RowKit Go.Fp
structure z0v (n : ApiNet) (m : Nat) (x : ApiNeed) : Prop where
 kind : 1 ≤ x.Kind ∧ x.Kind ≤ 5
 at_ : x.Kind ≠ 2 → x.Kind ≠ 5 → 0 ≤ x.At ∧ x.At < (m : Int)
 place : x.Kind = 1 ∨ x.Kind = 2 ∨ x.Position ≠ 0 → 0 ≤ x.Place ∧ x.Place < (n.Sections.length : Int)
 pos : 0 ≤ x.Position
 pts : x.Position ≠ 0 → (sec n x.Place).Kind = 2
def KQ (n : ApiNet) (m : Nat) (l0 : List ApiNeed) (S : List ApiNeed × List (ApiNeed × Bool)) : Prop :=
 (∀ x ∈ S.1, z0v n m x) ∧ (∀ x, P8 S.2 x false = true → x ∈ S.1) ∧ (∀ x ∈ l0, x ∈ S.1) ∧ S.1.length * 32 ≤ 140737488355328
theorem j3e {n : ApiNet} {m : Nat} {l0 l : List ApiNeed} {S : List ApiNeed × List (ApiNeed × Bool)} (h : KQ n m l S) (h0 : ∀ x ∈ l0, x ∈ l) : KQ n m l0 S := ⟨h.1, h.2.1, fun x hx => h.2.2.1 x (h0 x hx), h.2.2.2⟩
section
variable {a : List ByteArray} {b : List ApiSection} {c : List ApiLink} {d : List ApiSignal} {e : List ApiGate} {f t : Int} {st lap : List ApiStep} {n : ApiNet} {m : Nat} {l0 : List ApiNeed}
theorem z5k {x : ApiNeed} {l : List ApiNeed} {mm : List (ApiNeed × Bool)} (h : KQ n m l0 (l, mm)) (hx : z0v n m x) : Ens (v9 x a b c d e f t st lap l mm) (KQ n m (x :: l0)) := by
 unfold v9
 rw [Option.bind_some]
 refine q5Q (fun hq => V7 ⟨h.1, h.2.1, fun y hy => ?_, h.2.2.2⟩) fun _ => K4 fun _ hroom => V7 ⟨fun y hy => ?_, fun y hy => ?_, fun y hy => ?_, ?_⟩
 ·rcases List.mem_cons.1 hy with rfl | hy
  ·exact h.2.1 _ hq
  ·exact h.2.2.1 y hy
 ·rcases List.mem_append.1 hy with hy | hy
  ·exact h.1 y hy
  ·rw [List.mem_singleton.1 hy]; exact hx
 ·by_cases c : y = x
  ·rw [c]; exact List.mem_append_right _ (List.mem_singleton.2 rfl)
  ·have hy : (Q7 (F2 mm x true) y).getD false = true := hy
   rw [Q0 _ _ c] at hy
   exact List.mem_append_left _ (h.2.1 y hy)
 ·rcases List.mem_cons.1 hy with rfl | hy
  ·exact List.mem_append_right _ (List.mem_singleton.2 rfl)
  ·exact List.mem_append_left _ (h.2.2.1 y hy)
 ·have := (Q9 hroom).1
  simpa using this
theorem z7v {x : ApiNeed} {l : List ApiNeed} {mm : List (ApiNeed × Bool)} (h : KQ n m l0 (l, mm)) (hx : z0v n m x) : Ens ((v9 x a b c d e f t st lap l mm).bind (K1 fun l' m' => some (l', m'))) (KQ n m l0) :=
 V1 _ (z5k h hx) fun _ ha => V7 (j3e ha fun y hy => List.mem_cons_of_mem _ hy)
end
theorem z6s {n : ApiNet} (hN : q4T n) {e g : LineEnd} (h : q1S n.Links e = some g) : Has n g := by
 obtain ⟨x, hx, h1 | h1⟩ := q7l h
 ·rw [← h1.2]; exact (hN.ends x hx).2
 ·rw [← h1.2]; exact (hN.ends x hx).1
theorem z7D {n : ApiNet} (hN : q4T n) {m : Nat} {l0 : List ApiNeed} {f t : Int} {st lap : List ApiStep} : ∀ (N : Nat) (g : LineEnd) (many i : Int) (l : List ApiNeed) (mm : List (ApiNeed × Bool)), 0 ≤ i ∧ i < (m : Int) → KQ n m l0 (l, mm) → Ens (v6 N g many i n.Stations n.Sections n.Links n.Signals n.Gates f t st lap l mm) (KQ n m l0)
 | 0, g, many, i, l, mm, hi, h => z9Y
 | N + 1, g, many, i, l, mm, hi, h => by
  have keep : Ens (some (l, mm)) (KQ n m l0) := V7 h
  unfold v6
  have hj : W0 (⟨n.Stations, n.Sections, n.Links, n.Signals, n.Gates⟩ : ApiNet) g = some (q7k (q1S n.Links g)) := q5K n g
  rw [hj]
  refine K4 fun ⟨q1, q2, q3⟩ hq => ?_
  have hz : q1 = true → Has n ⟨q2, q3⟩ := fun h1 => by
   cases hg : q1S n.Links g with
   | none =>
    rw [hg] at hq
    have hq : some (false, _, _) = some (q1, q2, q3) := hq
    injection hq with hq
    injection hq with hq _
    rw [h1] at hq
    cases hq
   | some z =>
    rw [hg] at hq
    have hq : some (true, z.section_, z.end_) = some (q1, q2, q3) := hq
    injection hq with hq
    injection hq with _ hq
    injection hq with e1 e2
    rw [← e1, ← e2]
    exact z6s hN hg
  show Ens (Option.bind _ _) _
  refine K4 fun q hq2 => q5Q (fun _ => keep) fun hqn => ?_
  have h1 : q1 = true := by
   cases q1 with
   | true => rfl
   | false =>
    have hq2 : (if false = true then _ else some true) = some q := hq2
    rw [if_neg Bool.false_ne_true] at hq2
    exact absurd (Option.some.inj hq2).symm hqn
  have hz := hz h1
  refine K4 fun s hs => V1 (fun o : Unit ⊕ _ => ∀ S, o = .inr S → KQ n m l0 S) ?_ ?_
  ·have hs : s = sec n q2 := by
    have := q2E (n := n) hz.1
    simp only at this
    rw [this] at hs
    exact (Option.some.inj hs).symm
   refine K4 fun q hq => q5Q (fun hq1 => ?_) fun _ => q5Q (fun _ => K4 fun v _ => q5Q (fun _ => ?_) fun _ => ?_) fun _ => ?_
   ·refine V1 (KQ n m l0) ?_ fun ⟨u, v⟩ hS => V7 fun S hs => by injection hs with hs; rw [← hs]; exact hS
    refine K4 fun q _ => q5Q (fun _ => keep) fun _ => K4 fun _ _ => z7v h ?_
    have hk : s.Kind = 2 ∧ 0 < q3 := by
     by_cases c : s.Kind = 2
     ·rw [if_pos c] at hq
      have := Option.some.inj hq
      rw [hq1] at this
      exact ⟨c, of_decide_eq_true this⟩
     ·rw [if_neg c] at hq
      have := Option.some.inj hq
      rw [hq1] at this
      cases this
    have h2 := hz.2
    simp only at h2
    rw [← hs, hk.1] at h2
    have h3 : q6N 2 = 3 := by decide
    rw [h3] at h2
    exact ⟨by simp, fun _ _ => hi, fun _ => hz.1, by simp only; omega, fun _ => by simp only; rw [← hs]; exact hk.1⟩
   ·refine V1 (KQ n m l0) ?_ fun ⟨u, v⟩ hS => V7 fun S hs => by injection hs with hs; rw [← hs]; exact hS
    exact q5Q (fun _ => z7v h ⟨by simp, fun _ _ => hi, fun h => by simp at h, by simp, fun h => absurd rfl h⟩) fun _ => keep
   ·exact V7 fun S hs => by cases hs
   ·exact V7 fun S hs => by cases hs
  ·rintro (u | S) hS
   ·rw [Sum.elim_inl]
    refine K4 fun o _ => V1 (KQ n m l0) ?_ fun ⟨u, v⟩ hS => V7 hS
    refine z2v (fun k ⟨l', m'⟩ hk => ?_) _ _ _ h
    unfold J0
    show Ens (Option.bind _ _) _
    exact K4 fun _ _ => K4 fun _ _ => V1 (KQ n m l0) (z7D hN N _ _ _ _ _ hi hk) fun ⟨u, v⟩ hS => V7 hS
   ·rw [Sum.elim_inr]
    exact V7 (hS S rfl)
theorem j3b {n : ApiNet} (hN : q4T n) {m : Nat} {l0 : List ApiNeed} {f t : Int} {st lap : List ApiStep} (i : Int) (l : List ApiNeed) (mm : List (ApiNeed × Bool)) (hi : 0 ≤ i ∧ i < (m : Int)) (h : KQ n m l0 (l, mm)) : Ens (H9 i n.Stations n.Sections n.Links n.Signals n.Gates f t st lap l mm) (KQ n m l0) := by
 unfold H9
 refine K4 fun ⟨x, y, z⟩ _ => ?_
 show Ens (Option.bind _ _) _
 refine K4 fun _ _ => K4 fun _ _ => K4 fun _ _ => V1 (KQ n m l0) ?_ fun ⟨u, v⟩ hS => V7 hS
 refine z2v (fun k ⟨l', m'⟩ hk => ?_) _ _ _ h
 unfold W9
 show Ens (Option.bind _ _) _
 exact K4 fun _ _ => q5Q (fun _ => V1 (KQ n m l0) (j1P fun N => z7D hN N _ _ _ _ _ hi hk) fun ⟨u, v⟩ hS => V7 hS) fun _ => V7 hk
theorem q7q {σ : Type} {body : Nat → σ → Option σ} {I : Nat → σ → Prop} : ∀ (m k : Nat) (s : σ), (∀ j s, k ≤ j → j < k + m → I j s → Ens (body j s) (I (j + 1))) → I k s → Ens (q4M body m k s) (I (k + m))
 | 0, k, s, h, hs => V7 hs
 | m + 1, k, s, h, hs => by
  show Ens ((body k s).bind _) _
  refine V1 (I (k + 1)) (h k s (by omega) (by omega) hs) fun a ha => ?_
  rw [show k + (m + 1) = (k + 1) + m by omega]
  exact q7q m (k + 1) a (fun j s h1 h2 => h j s (by omega) (by omega)) ha
theorem z1p {n : ApiNet} {s : ApiStep} (h : q4z n s) {p : Int} (hp : G6 n s = some p) : 0 ≤ p ∧ (p ≠ 0 → (sec n s.Section).Kind = 2) := by
 unfold G6 at hp
 have i1 := q2E (n := n) h.1.1
 simp only at i1
 rw [i1, Option.bind_some] at hp
 have h1 := h.1.2
 simp only at h1
 by_cases c : (sec n s.Section).Kind = 2
 ·rw [if_pos c] at hp
  have := Option.some.inj hp
  exact ⟨by omega, fun _ => c⟩
 ·rw [if_neg c] at hp
  have := Option.some.inj hp
  exact ⟨by omega, fun h => absurd this.symm h⟩
def z1h (r : ApiRoute) (i : Nat) (l : List ApiNeed) : Prop := ∃ x ∈ l, x.Kind = 1 ∧ x.Place = ((r.Steps[i]?).getD ⟨0, 0, 0⟩).Section ∧ x.At = (i : Int)
theorem z1g {r : ApiRoute} {i : Nat} {l l' : List ApiNeed} (h : z1h r i l) (hm : ∀ x ∈ l, x ∈ l') : z1h r i l' := let ⟨x, h1, h2⟩ := h; ⟨x, hm x h1, h2⟩
def TQ (n : ApiNet) (r : ApiRoute) (k : Nat) (S : List ApiNeed × List (ApiNeed × Bool)) : Prop := ∃ l0, KQ n r.Steps.length l0 S ∧ ∀ i, i < k → z1h r i l0
theorem j1C {n : ApiNet} (hN : q4T n) {r : ApiRoute} (hr : q4a n r) {l : List ApiNeed} (h : K6 n r = some l) : (∀ x ∈ l, z0v n r.Steps.length x) ∧ (∀ i, i < r.Steps.length → z1h r i l) ∧ l.length * 32 ≤ 140737488355328 := by
 obtain ⟨lap, ho, _, hl⟩ := q8u hN hr
 have hst := hr.way.path.step
 have f1 : Ens (q4M (H5 n r lap) r.Steps.length 0 ([], [])) (TQ n r (0 + r.Steps.length)) := q7q (I := TQ n r) _ _ _ (fun k ⟨l', m'⟩ _ hk ⟨l0, h1, h2⟩ => by
  have hk : k < r.Steps.length := by omega
  have hs := hst _ (List.getElem_mem hk)
  unfold H5
  show Ens (Option.bind _ _) _
  rw [j7 hk, Option.bind_some]
  refine K4 fun p hp => ?_
  have hq := z1p hs hp
  refine V1 _ (z5k h1 ⟨by simp, fun _ _ => by simp only; omega, fun _ => hs.1.1, hq.1, hq.2⟩) fun ⟨u, v⟩ hu => V7 ⟨_, hu, fun i hi => ?_⟩
  by_cases c : i = k
  ·subst c
   exact ⟨_, List.mem_cons_self, rfl, by rw [List.getElem?_eq_getElem hk]; rfl, rfl⟩
  ·exact z1g (h2 i (by omega)) fun x hx => List.mem_cons_of_mem _ hx) ⟨[], ⟨fun x hx => (List.not_mem_nil hx).elim, fun x hx => by simp [P8, Q7] at hx, fun x hx => (List.not_mem_nil hx).elim, by simp⟩, fun i hi => by omega⟩
 have f2 : ∀ S, TQ n r (0 + r.Steps.length) S → Ens (q4M (H4 n r lap) lap.length 0 S) (TQ n r (0 + r.Steps.length)) := fun S hS => q7q (I := fun _ => TQ n r (0 + r.Steps.length)) _ _ _ (fun k ⟨l', m'⟩ _ hk ⟨l0, h1, h2⟩ => by
  have hk : k < lap.length := by omega
  have hs := hl _ (List.getElem_mem hk)
  unfold H4
  show Ens (Option.bind _ _) _
  rw [j7 hk, Option.bind_some]
  refine K4 fun p hp => ?_
  have hq := z1p hs hp
  exact V1 _ (z5k h1 ⟨by simp, fun h => absurd rfl h, fun _ => hs.1.1, hq.1, hq.2⟩) fun ⟨u, v⟩ hu => V7 ⟨_, j3e hu fun x hx => List.mem_cons_of_mem _ hx, h2⟩) hS
 have f3 : ∀ S, TQ n r (0 + r.Steps.length) S → Ens (q4M (H3 n r lap) r.Steps.length 0 S) (TQ n r (0 + r.Steps.length)) := fun S hS => q7q (I := fun _ => TQ n r (0 + r.Steps.length)) _ _ _ (fun k ⟨l', m'⟩ _ hk ⟨l0, h1, h2⟩ => by
  unfold H3
  show Ens (Option.bind _ _) _
  exact V1 _ (j3b hN _ _ _ ⟨by omega, by omega⟩ h1) fun ⟨u, v⟩ hu => V7 ⟨_, hu, h2⟩) hS
 have h0 : Ens (K6 n r) (fun l => (∀ x ∈ l, z0v n r.Steps.length x) ∧ (∀ i, i < r.Steps.length → z1h r i l) ∧ l.length * 32 ≤ 140737488355328) := by
  unfold K6
  rw [ho, Option.bind_some, Option.bind_some]
  show Ens (Option.bind _ _) _
  refine V1 _ f1 fun S h1 => ?_
  obtain ⟨u, v⟩ := S
  show Ens (Option.bind _ _) _
  refine V1 _ (f2 (u, v) h1) fun S h2 => ?_
  obtain ⟨u, v⟩ := S
  show Ens (Option.bind _ _) _
  refine V1 _ (f3 (u, v) h2) fun S h3 => ?_
  obtain ⟨u, v⟩ := S
  obtain ⟨l0, h3, h4⟩ := h3
  show Ens (Option.bind _ _) _
  refine V1 _ (z5k h3 ⟨by simp, fun _ h => absurd rfl h, fun h => by simp at h, by simp, fun h => absurd rfl h⟩) fun S h5 => ?_
  obtain ⟨u, v⟩ := S
  exact V7 ⟨h5.1, fun i hi => z1g (h4 i (by omega)) fun x hx => h5.2.2.1 x (List.mem_cons_of_mem _ hx), h5.2.2.2⟩
 exact h0 l h
theorem z5s {α τ : Type} {body : α → Unit → Option (Unit ⊕ τ)} {P : α → Prop} [DecidablePred P] {t : α → τ} {p : List α} (hb : ∀ e ∈ p, body e () = some (if P e then .inr (t e) else .inl ())) :
  (q4f body p () = some (.inl ()) ∧ ∀ e ∈ p, ¬ P e) ∨ ∃ e ∈ p, P e ∧ q4f body p () = some (.inr (t e)) := by
 induction p with
 | nil => exact .inl ⟨rfl, fun e h => by cases h⟩
 | cons a p ih =>
  have h1 := hb a List.mem_cons_self
  by_cases c : P a
  ·rw [if_pos c] at h1
   exact .inr ⟨a, List.mem_cons_self, c, by simp only [q4f, h1]⟩
  ·rw [if_neg c] at h1
   have e1 : q4f body (a :: p) () = q4f body p () := by simp only [q4f, h1]
   rw [e1]
   rcases ih fun e he => hb e (List.mem_cons_of_mem _ he) with ⟨h2, h3⟩ | ⟨e, h2, h3⟩
   ·refine .inl ⟨h2, fun e he => ?_⟩
    rcases List.mem_cons.1 he with rfl | he
    ·exact c
    ·exact h3 e he
   ·exact .inr ⟨e, List.mem_cons_of_mem _ h2, h3⟩
theorem z2d {α τ : Type} {body : α → Unit → Option (Unit ⊕ τ)} {P : α → Prop} [DecidablePred P] {t : α → τ} {l : List α} (hb : ∀ e ∈ l, body e () = some (if P e then .inr (t e) else .inl ())) (hu : ∀ e ∈ l, ∀ e' ∈ l, P e → P e' → t e = t e') :
  (z3U (fun p => q4f body p ()) l = some (.inl ()) ∧ ∀ e ∈ l, ¬ P e) ∨ ∃ e ∈ l, P e ∧ z3U (fun p => q4f body p ()) l = some (.inr (t e)) := by
 by_cases c : ∃ e ∈ l, P e
 ·obtain ⟨e, he, hP⟩ := c
  refine .inr ⟨e, he, hP, z4h fun p hp => ?_⟩
  rcases z5s (p := p) (fun x hx => hb x (hp.subset hx)) with ⟨_, h⟩ | ⟨e', h1, h2, h3⟩
  ·exact absurd hP (h e (hp.symm.subset he))
  ·rw [h3, hu e he e' (hp.subset h1) hP h2]
 ·refine .inl ⟨z4h fun p hp => ?_, fun e he h => c ⟨e, he, h⟩⟩
  rcases z5s (p := p) (fun x hx => hb x (hp.subset hx)) with ⟨h, _⟩ | ⟨e', h1, h2, _⟩
  ·exact h
  ·exact absurd ⟨e', hp.subset h1, h2⟩ c
section
variable {ν : Type}
theorem q9H (l : List (Int × ν)) {k : Int} {x : ν} (h : Q7 l k = some x) : F2 l k x = l := by
 induction l with
 | nil => cases h
 | cons p r ih =>
  obtain ⟨a, b⟩ := p
  simp only [Q7] at h
  simp only [F2]
  by_cases c : a = k
  ·rw [if_pos c] at h ⊢
   rw [← Option.some.inj h, c]
  ·rw [if_neg c] at h ⊢
   rw [ih h]
theorem q7Y (l : List (Int × ν)) (k : Int) (x y : ν) : F2 (F2 l k x) k y = F2 l k y := by
 induction l with
 | nil => simp [F2]
 | cons p r ih =>
  obtain ⟨a, b⟩ := p
  simp only [F2]
  by_cases c : a = k
  ·rw [if_pos c, if_pos c]
   simp [F2]
  ·rw [if_neg c, if_neg c]
   simp only [F2, if_neg c]
   rw [ih]
theorem z7x (l : List (Int × ν)) {k k' : Int} (x y : ν) {u v : ν} (hk : k ≠ k') (h1 : Q7 l k = some u) (h2 : Q7 l k' = some v) : F2 (F2 l k x) k' y = F2 (F2 l k' y) k x := by
 induction l with
 | nil => cases h1
 | cons p r ih =>
  obtain ⟨a, b⟩ := p
  simp only [Q7] at h1 h2
  simp only [F2]
  by_cases c : a = k
  ·have c' : a ≠ k' := fun e => hk (c ▸ e)
   rw [if_pos c, if_neg c']
   simp only [F2]
   rw [if_neg (fun e => hk e), if_pos c]
  ·by_cases c' : a = k'
   ·rw [if_neg c, if_pos c']
    simp only [F2]
    rw [if_pos c', if_neg (fun e => hk e.symm)]
   ·rw [if_neg c] at h1
    rw [if_neg c'] at h2
    rw [if_neg c, if_neg c']
    simp only [F2]
    rw [if_neg c, if_neg c', ih h1 h2]
end
def cells {ν : Type} (g : Int → ν → ν) : List (Int × Option Int) → List (Int × ν) → List (Int × ν)
 | [], l => l
 | p :: r, l => match Q7 l p.1 with
  | some x => cells g r (F2 l p.1 (g p.1 x))
  | none => cells g r l
theorem q7u {ν : Type} (g : Int → ν → ν) : ∀ (p : List (Int × Option Int)) (l : List (Int × ν)) (k : Int), (p.map (·.1)).Nodup →
  Q7 (cells g p l) k = (Q7 l k).map fun x => if k ∈ p.map (·.1) then g k x else x
 | [], l, k, _ => by
  simp [cells]
 | q :: r, l, k, hn => by
  simp only [List.map_cons, List.nodup_cons] at hn
  simp only [cells]
  cases hq : Q7 l q.1 with
  | none =>
   simp only
   rw [q7u g r l k hn.2]
   by_cases c : k = q.1
   ·rw [c, hq]
    rfl
   ·cases Q7 l k with
    | none => rfl
    | some x =>
     simp only [Option.map_some, List.map_cons, List.mem_cons]
     congr 1
     by_cases d : k ∈ r.map (·.1)
     ·rw [if_pos d, if_pos (.inr d)]
     ·rw [if_neg d, if_neg (fun h => h.elim c d)]
  | some z =>
   simp only
   rw [q7u g r _ k hn.2]
   by_cases c : k = q.1
   ·rw [c, Z5, hq]
    simp only [Option.map_some, List.map_cons, List.mem_cons]
    rw [if_neg hn.1, if_pos (.inl trivial)]
   ·rw [Q0 _ _ c]
    cases Q7 l k with
    | none => rfl
    | some x =>
     simp only [Option.map_some, List.map_cons, List.mem_cons]
     congr 1
     by_cases d : k ∈ r.map (·.1)
     ·rw [if_pos d, if_pos (.inr d)]
     ·rw [if_neg d, if_neg (fun h => h.elim c d)]
theorem z6B {ν : Type} (g : Int → ν → ν) {p q : List (Int × Option Int)} (h : p.Perm q) : ∀ (l : List (Int × ν)), (p.map (·.1)).Nodup → cells g p l = cells g q l := by
 induction h with
 | nil => intro l _; rfl
 | cons x h ih =>
  intro l hn
  simp only [List.map_cons, List.nodup_cons] at hn
  simp only [cells]
  cases Q7 l x.1 with
  | none => exact ih l hn.2
  | some z => exact ih _ hn.2
 | swap x y r =>
  intro l hn
  simp only [List.map_cons, List.nodup_cons, List.mem_cons, not_or] at hn
  have hne : y.1 ≠ x.1 := hn.1.1
  simp only [cells]
  cases hx : Q7 l x.1 with
  | none =>
   cases hy : Q7 l y.1 with
   | none => simp only [hx]
   | some v =>
    simp only
    rw [Q0 _ _ (fun e => hne e.symm), hx]
  | some u =>
   cases hy : Q7 l y.1 with
   | none =>
    simp only
    rw [Q0 _ _ hne, hy]
   | some v =>
    simp only
    rw [Q0 _ _ (fun e => hne e.symm), hx, Q0 _ _ hne, hy]
    simp only
    rw [z7x _ _ _ hne hy hx]
 | trans h1 h2 ih1 ih2 =>
  intro l hn
  rw [ih1 l hn, ih2 l ((h1.map _).nodup_iff.1 hn)]
theorem z1u {ν τ : Type} {g : Int → ν → ν} {body : Int × Option Int → List (Int × ν) → Option (List (Int × ν) ⊕ τ)} : ∀ (p : List (Int × Option Int)) (l : List (Int × ν)),
  (∀ e ∈ p, ∀ l' x, Q7 l' e.1 = some x → Q7 l e.1 = some x → body e l' = some (.inl (F2 l' e.1 (g e.1 x)))) → (∀ e ∈ p, (Q7 l e.1).isSome = true) → (p.map (·.1)).Nodup → q4f body p l = some (.inl (cells g p l))
 | [], l, _, _, _ => rfl
 | q :: r, l, hb, hl, hn => by
  simp only [List.map_cons, List.nodup_cons] at hn
  obtain ⟨x, hx⟩ := Option.isSome_iff_exists.1 (hl q List.mem_cons_self)
  have h1 := hb q List.mem_cons_self l x hx hx
  simp only [q4f, h1, cells, hx]
  have hne : ∀ e ∈ r, e.1 ≠ q.1 := fun e he h => hn.1 (h ▸ List.mem_map_of_mem he)
  refine z1u r _ (fun e he l' y h2 h3 => ?_) (fun e he => ?_) hn.2
  ·rw [Q0 _ _ (hne e he)] at h3
   exact hb e (List.mem_cons_of_mem _ he) l' y h2 h3
  ·rw [Q0 _ _ (hne e he)]
   exact hl e (List.mem_cons_of_mem _ he)
theorem z1q {ν τ : Type} {g : Int → ν → ν} {body : Int × Option Int → List (Int × ν) → Option (List (Int × ν) ⊕ τ)} {mp : List (Int × Option Int)} {l : List (Int × ν)}
  (hb : ∀ e ∈ mp, ∀ l' x, Q7 l' e.1 = some x → Q7 l e.1 = some x → body e l' = some (.inl (F2 l' e.1 (g e.1 x)))) (hl : ∀ e ∈ mp, (Q7 l e.1).isSome = true) (hn : (mp.map (·.1)).Nodup) : z3U (fun p => q4f body p l) mp = some (.inl (cells g mp l)) :=
 z4h fun p hp => by
  rw [z1u p l (fun e he => hb e (hp.subset he)) (fun e he => hl e (hp.subset he)) ((hp.map _).nodup_iff.2 hn), z6B g hp l ((hp.map _).nodup_iff.2 hn)]
def roK (ro : List ApiRoute) (k : Int) : ApiRoute := (ro[k.toNat]?).getD ⟨0, 0, []⟩
def neK (ne : List (List ApiNeed)) (k : Int) : List ApiNeed := (ne[k.toNat]?).getD []
structure Fix (n : ApiNet) (ro : List ApiRoute) (ne : List (List ApiNeed)) : Prop where
 net : q4T n
 ok : ∀ r ∈ ro, q4a n r
 many : ro.length ≤ 81
 nel : ne.length = ro.length
 nds : ∀ k : Nat, k < ro.length → K6 n (roK ro k) = some (neK ne k)
 close : ∀ g ∈ n.Gates, g.Close ≤ 9223372036854775807
section
variable {n : ApiNet} {ro : List ApiRoute} {ne : List (List ApiNeed)}
theorem Fix.rok (F : Fix n ro ne) {k : Int} (h : 0 ≤ k ∧ k < (ro.length : Int)) : q4a n (roK ro k) := by
 have h1 : k.toNat < ro.length := by omega
 unfold roK
 rw [List.getElem?_eq_getElem h1]
 exact F.ok _ (List.getElem_mem h1)
theorem Fix.nq (F : Fix n ro ne) {k : Int} (h : 0 ≤ k ∧ k < (ro.length : Int)) : (∀ x ∈ neK ne k, z0v n (roK ro k).Steps.length x) ∧ (∀ i, i < (roK ro k).Steps.length → z1h (roK ro k) i (neK ne k)) ∧ (neK ne k).length * 32 ≤ 140737488355328 := by
 have h1 : k.toNat < ro.length := by omega
 have h2 := F.nds k.toNat h1
 rw [show ((k.toNat : Nat) : Int) = k by omega] at h2
 exact j1C F.net (F.rok h) h2
theorem Fix.idxR (F : Fix n ro ne) {k : Int} (h : 0 ≤ k ∧ k < (ro.length : Int)) : idx ro k = some (roK ro k) := by
 obtain ⟨x, h1, h2⟩ := q3j h.1 h.2
 rw [h1]
 unfold roK
 rw [h2]
 rfl
theorem Fix.idxN (F : Fix n ro ne) {k : Int} (h : 0 ≤ k ∧ k < (ro.length : Int)) : idx ne k = some (neK ne k) := by
 obtain ⟨x, h1, h2⟩ := q3j h.1 (by rw [F.nel]; exact h.2)
 rw [h1]
 unfold neK
 rw [h2]
 rfl
theorem z6V {r : ApiRoute} (h : q4a n r) : 0 < r.Steps.length := by
 obtain ⟨w, s, h1, _⟩ := h.last
 rw [h1]
 simp
end
structure LOk (n : ApiNet) (ro : List ApiRoute) (ne : List (List ApiNeed)) (k : Int) (x : LockLocked) : Prop where
 kr : 0 ≤ k ∧ k < (ro.length : Int)
 route : x.Route = roK ro k
 num : x.number = k
 seen : x.seen.length = x.Route.Steps.length
 gone : x.gone.length = x.Route.Steps.length
 sub : ∀ y ∈ x.needs, y ∈ neK ne k
 trk : ∀ y ∈ neK ne k, y.Kind ≠ 2 → y ∈ x.needs
 len : x.needs.length * 32 ≤ 140737488355328
 g0 : ∀ i : Nat, x.gone[i]? = some true → x.seen[0]? = some true
 leave : 0 ≤ x.leave ∧ x.leave ≤ 90
 clk : 0 ≤ x.clock ∧ (x.laps = true → x.clock < 60)
def q4q (x : LockLocked) (y : ApiNeed) : Bool := if y.Kind = 2 then x.laps else if y.Kind = 5 then !((x.seen[0]?).getD true) else !((x.gone[y.At.toNat]?).getD true)
def w8 (x : LockLocked) : List ApiNeed := x.needs.filter (q4q x)
section
variable {n : ApiNet} {ro : List ApiRoute} {ne : List (List ApiNeed)} {ar : List (Int × LockLocked)} {k : Int} {x : LockLocked}
theorem LOk.pos (F : Fix n ro ne) (h : LOk n ro ne k x) : 0 < x.Route.Steps.length := by
 rw [h.route]
 exact z6V (F.rok h.kr)
theorem LOk.seen0 (F : Fix n ro ne) (h : LOk n ro ne k x) : ∃ b, idx x.seen 0 = some b ∧ x.seen[0]? = some b := by
 have h1 : 0 < x.seen.length := by rw [h.seen]; exact h.pos F
 exact ⟨_, j7 (j := 0) h1, List.getElem?_eq_getElem h1⟩
theorem LOk.need (F : Fix n ro ne) (h : LOk n ro ne k x) {y : ApiNeed} (hy : y ∈ x.needs) : z0v n x.Route.Steps.length y := by
 rw [h.route]
 exact (F.nq h.kr).1 y (h.sub y hy)
theorem z9I (F : Fix n ro ne) (h : LOk n ro ne k x) {y : ApiNeed} (hy : y ∈ x.needs) (ha : Q7 ar k = some x) : q0o (some k) y ar = some (q4q x y) := by
 unfold q0o q4q
 by_cases c2 : y.Kind = 2
 ·rw [if_pos c2, if_pos c2, Option.bind_some, ha, Option.bind_some]
 ·rw [if_neg c2, if_neg c2]
  by_cases c5 : y.Kind = 5
  ·obtain ⟨b, h1, h2⟩ := h.seen0 F
   rw [if_pos c5, if_pos c5, Option.bind_some, ha, Option.bind_some, h1, Option.bind_some, h2]
   rfl
  ·have h1 := (h.need F hy).at_ c2 c5
   have h2 : y.At < (x.gone.length : Int) := by rw [h.gone]; exact h1.2
   obtain ⟨b, h3, h4⟩ := q3j h1.1 h2
   rw [if_neg c5, if_neg c5, Option.bind_some, ha, Option.bind_some, h3, Option.bind_some, h4]
   rfl
theorem z2h (F : Fix n ro ne) (h : LOk n ro ne k x) (ha : Q7 ar k = some x) : V0 (some k) ar = some (w8 x) := by
 unfold V0
 rw [Option.bind_some, ha, Option.bind_some]
 have hlen := h.len
 obtain ⟨s, h1, h2⟩ := Y0 (body := F4 ar k x) (fun j s => s = (x.needs.take j).filter (q4q x)) x.needs.length 0 [] (by simp) (fun j s _ hj hs => by
  have hj : j < x.needs.length := by omega
  subst hs
  unfold F4
  rw [j7 hj, Option.bind_some, z9I F h (List.getElem_mem hj) ha, Option.bind_some, List.take_succ_eq_append_getElem hj, List.filter_append]
  have hl : ((x.needs.take j).filter (q4q x)).length ≤ j := Nat.le_trans (List.length_filter_le _ _) (by simp; omega)
  cases hb : q4q x x.needs[j] with
  | true =>
   rw [if_pos rfl, q1u (by omega) (by omega), Option.bind_some]
   exact ⟨_, rfl, by simp [hb]⟩
  | false =>
   rw [if_neg Bool.false_ne_true]
   exact ⟨_, rfl, by simp [hb]⟩)
 rw [h1, Option.bind_some, h2, Nat.zero_add, List.take_length]
 rfl
theorem q0M {y : ApiNeed} : y ∈ w8 x ↔ y ∈ x.needs ∧ q4q x y = true := List.mem_filter
end
structure Inv (n : ApiNet) (ro : List ApiRoute) (ne : List (List ApiNeed)) (bo : List LockBody) (gt : List LockGate) (mp : List (Int × Option Int)) (ar : List (Int × LockLocked)) : Prop where
 bl : bo.length = n.Sections.length
 bb : ∀ s ∈ bo, (0 ≤ s.axles ∧ s.axles ≤ 400) ∧ (0 ≤ s.moving ∧ s.moving ≤ 5) ∧ 1 ≤ s.position ∧ s.position ≤ 2
 gl : gt.length = n.Gates.length
 gb : ∀ g ∈ gt, g.left ≤ 9223372036854775807
 nd : (mp.map (·.1)).Nodup
 en : ∀ p ∈ mp, p.2 = some p.1 ∧ ∃ x, Q7 ar p.1 = some x ∧ LOk n ro ne p.1 x
 ap : ∀ p ∈ mp, ∀ q ∈ mp, p.1 ≠ q.1 → ∀ x y, Q7 ar p.1 = some x → Q7 ar q.1 = some y → ∀ a ∈ w8 x, ∀ b ∈ w8 y, ¬ q9n a b
section
variable {n : ApiNet} {ro : List ApiRoute} {ne : List (List ApiNeed)} {bo bo' : List LockBody} {gt gt' : List LockGate} {mp : List (Int × Option Int)} {ar : List (Int × LockLocked)}
theorem Inv.bodies (h : Inv n ro ne bo gt mp ar) (hl : bo'.length = bo.length) (hb : ∀ s ∈ bo', (0 ≤ s.axles ∧ s.axles ≤ 400) ∧ (0 ≤ s.moving ∧ s.moving ≤ 5) ∧ 1 ≤ s.position ∧ s.position ≤ 2) : Inv n ro ne bo' gt mp ar := ⟨hl.trans h.bl, hb, h.gl, h.gb, h.nd, h.en, h.ap⟩
theorem Inv.gates (h : Inv n ro ne bo gt mp ar) (hl : gt'.length = gt.length) (hb : ∀ g ∈ gt', g.left ≤ 9223372036854775807) : Inv n ro ne bo gt' mp ar := ⟨h.bl, h.bb, hl.trans h.gl, hb, h.nd, h.en, h.ap⟩
theorem Inv.some_ (h : Inv n ro ne bo gt mp ar) : ∀ e ∈ mp, (Q7 ar e.1).isSome = true := fun e he => by
 obtain ⟨_, x, hx, _⟩ := h.en e he
 rw [hx]
 rfl
theorem z5m {κ ν : Type} [DecidableEq κ] {l : List (κ × ν)} {k : κ} {v : ν} (h : Q7 l k = some v) : (k, v) ∈ l := by
 induction l with
 | nil => cases h
 | cons p r ih =>
  obtain ⟨a, b⟩ := p
  simp only [Q7] at h
  by_cases c : a = k
  ·rw [if_pos c] at h
   rw [Option.some.inj h, c]
   exact List.mem_cons_self
  ·rw [if_neg c] at h
   exact List.mem_cons_of_mem _ (ih h)
theorem z4m {κ ν : Type} [DecidableEq κ] {l : List (κ × ν)} {k : κ} {v : ν} (hn : (l.map (·.1)).Nodup) (h : (k, v) ∈ l) : Q7 l k = some v := by
 induction l with
 | nil => cases h
 | cons p r ih =>
  obtain ⟨a, b⟩ := p
  simp only [List.map_cons, List.nodup_cons] at hn
  simp only [Q7]
  rcases List.mem_cons.1 h with h | h
  ·injection h with h1 h2
   rw [if_pos h1.symm, h2]
  ·rw [if_neg (fun e : a = k => hn.1 (by rw [e]; exact List.mem_map_of_mem (f := (·.1)) h))]
   exact ih hn.2 h
theorem z7y {κ ν : Type} [DecidableEq κ] {l : List (κ × ν)} {k : κ} (h : Q7 l k = none) : k ∉ l.map (·.1) := by
 induction l with
 | nil => simp
 | cons p r ih =>
  obtain ⟨a, b⟩ := p
  simp only [Q7] at h
  by_cases c : a = k
  ·rw [if_pos c] at h; cases h
  ·rw [if_neg c] at h
   simp only [List.map_cons, List.mem_cons, not_or]
   exact ⟨fun e => c e.symm, ih h⟩
theorem Inv.look (h : Inv n ro ne bo gt mp ar) (k : Int) : (P8 mp k none = none ∧ k ∉ mp.map (·.1)) ∨ (P8 mp k none = some k ∧ (k, some k) ∈ mp ∧ ∃ x, Q7 ar k = some x ∧ LOk n ro ne k x) := by
 cases hk : Q7 mp k with
 | none => exact .inl ⟨by simp [P8, hk], z7y hk⟩
 | some v =>
  have h1 := z5m hk
  obtain ⟨h2, h3⟩ := h.en _ h1
  have h2 : v = some k := h2
  subst h2
  exact .inr ⟨by simp [P8, hk], h1, h3⟩
end
theorem z9M {τ : Type} {body : Nat → Unit → Option (Unit ⊕ τ)} {Q : Nat → Prop} [DecidablePred Q] {t : τ} {m : Nat} (hb : ∀ j, j < m → body j () = some (if Q j then .inr t else .inl ())) :
  (forM body m 0 () = some (.inl ()) ∧ ∀ j, j < m → ¬ Q j) ∨ (forM body m 0 () = some (.inr t) ∧ ∃ j, j < m ∧ Q j) := by
 rcases F7 (body := body) (fun k _ => ∀ j, j < k → ¬ Q j) (fun v => v = t ∧ ∃ j, j < m ∧ Q j) m 0 () (fun j h => by omega) (fun j s _ hj hI => by
  have hj : j < m := by omega
  rw [show s = () from rfl, hb j hj]
  by_cases c : Q j
  ·rw [if_pos c]
   exact .inr ⟨t, rfl, rfl, j, hj, c⟩
  ·rw [if_neg c]
   refine .inl ⟨(), rfl, fun i hi => ?_⟩
   by_cases e : i = j
   ·rw [e]; exact c
   ·exact hI i (by omega)) with ⟨s, h1, h2⟩ | ⟨v, h1, h2, h3⟩
 ·exact .inl ⟨h1, fun j hj => h2 j (by omega)⟩
 ·exact .inr ⟨by rw [h1, h2], h3⟩
open Classical in
theorem q7m {τ : Type} {body : Nat → Unit → Option (Unit ⊕ τ)} {Q : Nat → Prop} {t : τ} {m : Nat} (hb : ∀ j, j < m → body j () = some (if Q j then .inr t else .inl ())) :
  forM body m 0 () = some (if ∃ j, j < m ∧ Q j then .inr t else .inl ()) := by
 rcases z9M hb with ⟨h1, h2⟩ | ⟨h1, h2⟩
 ·rw [h1, if_neg (fun ⟨j, h, hq⟩ => h2 j h hq)]
 ·rw [h1, if_pos h2]
def z9A (x : LockLocked) (s : Int) : Prop := ∃ i, i < x.Route.Steps.length ∧ ((x.Route.Steps[i]?).getD ⟨0, 0, 0⟩).Section = s ∧ x.gone[i]? = some false
section
variable {n : ApiNet} {ro : List ApiRoute} {ne : List (List ApiNeed)} {bo : List LockBody} {gt : List LockGate} {mp : List (Int × Option Int)} {ar : List (Int × LockLocked)}
theorem z2W (F : Fix n ro ne) {k : Int} {x : LockLocked} (h : LOk n ro ne k x) {s : Int} (ho : z9A x s) : ∃ a ∈ w8 x, a.Kind = 1 ∧ a.Place = s := by
 obtain ⟨i, h1, h2, h3⟩ := ho
 obtain ⟨a, ha, hk, hp, hat⟩ := (F.nq h.kr).2.1 i (by rw [← h.route]; exact h1)
 refine ⟨a, q0M.2 ⟨h.trk a ha (by omega), ?_⟩, hk, ?_⟩
 ·unfold q4q
  rw [if_neg (by omega), if_neg (by omega), hat, show ((i : Int)).toNat = i by omega, h3]
  rfl
 ·rw [hp, ← h2, h.route]
theorem q7U (F : Fix n ro ne) (h : Inv n ro ne bo gt mp ar) {p q : Int × Option Int} (hp : p ∈ mp) (hq : q ∈ mp) {x y : LockLocked} (hx : Q7 ar p.1 = some x) (hy : Q7 ar q.1 = some y) {s : Int} (h1 : z9A x s) (h2 : z9A y s) : p.1 = q.1 := by
 refine Classical.byContradiction fun c => ?_
 obtain ⟨_, x', hx', kx⟩ := h.en p hp
 obtain ⟨_, y', hy', ky⟩ := h.en q hq
 rw [hx] at hx'
 rw [hy] at hy'
 rw [← Option.some.inj hx'] at kx
 rw [← Option.some.inj hy'] at ky
 obtain ⟨a, ha, ka, pa⟩ := z2W F kx h1
 obtain ⟨b, hb, kb, pb⟩ := z2W F ky h2
 exact h.ap p hp q hq c x y hx hy a ha b hb ⟨by rw [pa, pb], .inl ⟨.inl ka, .inl kb⟩⟩
open Classical in
theorem z6d (F : Fix n ro ne) (h : Inv n ro ne bo gt mp ar) (s : Int) {e : Int × Option Int} (he : e ∈ mp) :
  H7 mp ar s e () = some (if (∃ x, Q7 ar e.1 = some x ∧ z9A x s) then .inr (.inr (e.1, mp)) else .inl ()) := by
 obtain ⟨h1, x, hx, kx⟩ := h.en e he
 unfold H7
 rw [h1, Option.bind_some, hx, Option.bind_some]
 rw [q7m (Q := fun i => ((x.Route.Steps[i]?).getD ⟨0, 0, 0⟩).Section = s ∧ x.gone[i]? = some false) (t := .inr (.inr (e.1, mp))) (fun i hi => by
  have hg : i < x.gone.length := by rw [kx.gone]; exact hi
  unfold q1Q
  rw [j7 hi, Option.bind_some, List.getElem?_eq_getElem hi, List.getElem?_eq_getElem hg]
  by_cases c : x.Route.Steps[i].Section = s
  ·rw [if_pos c, hx, Option.bind_some, j7 hg, Option.bind_some, Option.bind_some]
   cases hb : x.gone[i] with
   | true =>
    rw [if_neg (by simp), if_neg (by simp)]
   | false =>
    rw [if_pos (by simp), Option.bind_some, kx.num, if_pos ⟨c, rfl⟩]
  ·rw [if_neg c, Option.bind_some, if_neg (by simp), if_neg (fun h => c h.1)])]
 rw [Option.bind_some]
 by_cases c : ∃ i, i < x.Route.Steps.length ∧ ((x.Route.Steps[i]?).getD ⟨0, 0, 0⟩).Section = s ∧ x.gone[i]? = some false
 ·rw [if_pos c, if_pos ⟨x, rfl, c⟩]
  rfl
 ·rw [if_neg c, if_neg (fun ⟨y, hy, ho⟩ => c (by rw [← Option.some.inj hy] at ho; exact ho))]
  rfl
theorem z5h (F : Fix n ro ne) (h : Inv n ro ne bo gt mp ar) (a1 : List ByteArray) (a2 : List ApiSection) (a3 : List ApiLink) (a4 : List ApiSignal) (a5 : List ApiGate) (a6 : List ApiRoute) (a7 : List (List ApiNeed)) (a8 : List LockBody) (a9 : List LockGate) (s : Int) :
  ∃ r, q1o s a1 a2 a3 a4 a5 a6 a7 a8 a9 mp ar = some (r, mp) ∧ ((r = -1 ∧ ∀ e ∈ mp, ∀ x, Q7 ar e.1 = some x → ¬ z9A x s) ∨ ∃ x, (r, some r) ∈ mp ∧ Q7 ar r = some x ∧ z9A x s) := by
 classical
 unfold q1o
 rcases z2d (body := H7 mp ar s) (P := fun e => ∃ x, Q7 ar e.1 = some x ∧ z9A x s) (t := fun e => .inr (e.1, mp)) (l := mp) (fun e he => by
  rw [z6d F h s he]) (fun e he e' he' ⟨x, h1, h2⟩ ⟨y, h3, h4⟩ => by rw [q7U F h he he' h1 h3 h2 h4]) with ⟨h1, h2⟩ | ⟨e, he, ⟨x, hx, ho⟩, h1⟩
 ·refine ⟨-1, by rw [h1]; rfl, .inl ⟨rfl, fun e he x hx ho => h2 e he ⟨x, hx, ho⟩⟩⟩
 ·refine ⟨e.1, by rw [h1]; rfl, .inr ⟨x, ?_, hx, ho⟩⟩
  have := (h.en e he).1
  rw [← this]
  exact he
theorem z1K (F : Fix n ro ne) (h : Inv n ro ne bo gt mp ar) (a1 : List ByteArray) (a2 : List ApiSection) (a3 : List ApiLink) (a4 : List ApiSignal) (a6 : List ApiRoute) (a7 : List (List ApiNeed)) (a8 : List LockBody) :
  ∃ gt', P9 a1 a2 a3 a4 n.Gates a6 a7 a8 gt mp ar = some (gt', mp) ∧ gt'.length = gt.length ∧ ∀ g ∈ gt', g.left ≤ 9223372036854775807 := by
 unfold P9
 obtain ⟨⟨g1, m1⟩, h1, h2, h3, h4⟩ := Y0 (body := q1n a1 a2 a3 a4 n.Gates a6 a7 a8 ar) (fun _ S => S.2 = mp ∧ S.1.length = gt.length ∧ ∀ g ∈ S.1, g.left ≤ 9223372036854775807) n.Gates.length 0 (gt, mp) ⟨rfl, rfl, h.gb⟩ (fun k S _ hk hS => by
  obtain ⟨g1, m1⟩ := S
  obtain ⟨h2, h3, h4⟩ := hS
  have h2 : m1 = mp := h2
  subst h2
  have h3 : g1.length = gt.length := h3
  have h4 : ∀ g ∈ g1, g.left ≤ 9223372036854775807 := h4
  have hk : k < n.Gates.length := by omega
  have hg : k < g1.length := by rw [h3, h.gl]; exact hk
  unfold q1n
  show ∃ s', Option.bind _ _ = _ ∧ _
  obtain ⟨r, h5, _⟩ := z5h F h a1 a2 a3 a4 n.Gates a6 a7 a8 g1 n.Gates[k].Section
  have hset : ∀ y : LockGate, y.left ≤ 9223372036854775807 → ∀ g ∈ put g1 (k : Int) y, g.left ≤ 9223372036854775807 := fun y hy g hgm => by
   rw [F8] at hgm
   rcases List.mem_or_eq_of_mem_set hgm with h | h
   ·exact h4 g h
   ·rw [h]; exact hy
  have hb := h4 _ (List.getElem_mem hg)
  have hc := F.close _ (List.getElem_mem hk)
  rw [j7 hk, Option.bind_some, j7 hg, Option.bind_some, h5, Option.bind_some]
  simp only [K1]
  by_cases c : 0 ≤ r
  ·rw [if_pos c]
   by_cases cw : g1[k].wanted = true
   ·rw [if_pos cw]
    exact ⟨_, rfl, rfl, by rw [z6]; exact h3, hset _ hb⟩
   ·rw [if_neg cw, j7 (by rw [z6]; exact hg), Option.bind_some]
    refine ⟨_, rfl, rfl, by rw [z6, z6]; exact h3, fun g hgm => ?_⟩
    simp only [F8, List.getElem_set_self, List.set_set] at hgm
    rcases List.mem_or_eq_of_mem_set hgm with h | h
    ·exact h4 g h
    ·rw [h]; exact hc
  ·rw [if_neg c]
   exact ⟨_, rfl, rfl, by rw [z6]; exact h3, hset _ hb⟩)
 rw [h1]
 have h2 : m1 = mp := h2
 subst h2
 exact ⟨g1, rfl, h3, h4⟩
theorem z2i (F : Fix n ro ne) (h : Inv n ro ne bo gt mp ar) (a1 : List ByteArray) (a2 : List ApiSection) (a3 : List ApiLink) (a4 : List ApiSignal) (a5 : List ApiGate) (a6 : List ApiRoute) (a7 : List (List ApiNeed)) (a8 : List LockBody) (a9 : List LockGate) (s : Int) :
  ∃ b, V5 s a1 a2 a3 a4 a5 a6 a7 a8 a9 mp ar = some (b, mp) := by
 classical
 unfold V5
 rcases z2d (body := K2 mp ar s) (P := fun e => ∃ x, Q7 ar e.1 = some x ∧ ∃ i, i < (w8 x).length ∧ ∃ y, (w8 x)[i]? = some y ∧ y.Place = s ∧ (y.Kind = 1 ∨ y.Kind = 2 ∨ y.Kind = 3)) (t := fun _ => .inr (true, mp)) (l := mp) (fun e he => by
  obtain ⟨h1, x, hx, kx⟩ := h.en e he
  unfold K2
  rw [h1, z2h F kx hx, Option.bind_some]
  rw [q7m (Q := fun i => ∃ y, (w8 x)[i]? = some y ∧ y.Place = s ∧ (y.Kind = 1 ∨ y.Kind = 2 ∨ y.Kind = 3)) (t := .inr (.inr (true, mp))) (fun i hi => by
   unfold q0e
   rw [j7 hi, Option.bind_some, List.getElem?_eq_getElem hi]
   have e2 : (∃ y, some (w8 x)[i] = some y ∧ y.Place = s ∧ (y.Kind = 1 ∨ y.Kind = 2 ∨ y.Kind = 3)) ↔ (w8 x)[i].Place = s ∧ ((w8 x)[i].Kind = 1 ∨ (w8 x)[i].Kind = 2 ∨ (w8 x)[i].Kind = 3) :=
    ⟨fun ⟨y, h1, h2⟩ => by rw [Option.some.inj h1]; exact h2, fun h => ⟨_, rfl, h⟩⟩
   by_cases c : (w8 x)[i].Place = s ∧ ((w8 x)[i].Kind = 1 ∨ (w8 x)[i].Kind = 2 ∨ (w8 x)[i].Kind = 3)
   ·rw [if_pos (e2.2 c), if_pos c.1]
    by_cases c1 : (w8 x)[i].Kind = 1
    ·rw [if_pos c1, Option.bind_some, if_pos rfl]
    ·by_cases c2 : (w8 x)[i].Kind = 2
     ·rw [if_neg c1, if_pos c2, Option.bind_some, if_pos rfl]
     ·have c3 : (w8 x)[i].Kind = 3 := (c.2.resolve_left c1).resolve_left c2
      rw [if_neg c1, if_neg c2, Option.bind_some, if_pos (decide_eq_true c3)]
   ·rw [if_neg (fun h => c (e2.1 h))]
    by_cases c0 : (w8 x)[i].Place = s
    ·rw [if_pos c0, if_neg (fun h => c ⟨c0, .inl h⟩), if_neg (fun h => c ⟨c0, .inr (.inl h)⟩), Option.bind_some, if_neg (fun h => c ⟨c0, .inr (.inr (of_decide_eq_true h))⟩)]
    ·rw [if_neg c0, Option.bind_some, if_neg Bool.false_ne_true])]
  rw [Option.bind_some]
  by_cases c : ∃ i, i < (w8 x).length ∧ ∃ y, (w8 x)[i]? = some y ∧ y.Place = s ∧ (y.Kind = 1 ∨ y.Kind = 2 ∨ y.Kind = 3)
  ·rw [if_pos c, if_pos ⟨x, hx, c⟩]
   rfl
  ·rw [if_neg c, if_neg (fun ⟨y, hy, ho⟩ => c (by rw [hx] at hy; rw [← Option.some.inj hy] at ho; exact ho))]
   rfl) (fun _ _ _ _ _ _ => rfl) with ⟨h1, _⟩ | ⟨e, _, _, h1⟩
 ·exact ⟨false, by rw [h1]; rfl⟩
 ·exact ⟨true, by rw [h1]; rfl⟩
theorem z3r (y : ApiNeed) (l : List ApiNeed) [Decidable (∃ a ∈ l, q9n a y)] : Y6 y.Kind y.Place y.Position y.At l = some (decide (∃ a ∈ l, q9n a y)) :=
 z3O (fun a => q9n a y) (fun k hk => by
  unfold q0B q1p
  rw [j7 hk, Option.bind_some]
  have : q2D l[k] ⟨y.Kind, y.Place, y.Position, y.At⟩ = some (decide (q9n l[k] y)) := z5n _ _
  rw [this, Option.bind_some, Option.bind_some]
  by_cases c : q9n l[k] y
  ·rw [decide_eq_true c, if_pos rfl, if_pos c]
  ·rw [decide_eq_false c, if_neg Bool.false_ne_true, if_neg c])
theorem z6y (F : Fix n ro ne) (h : Inv n ro ne bo gt mp ar) (a1 : List ByteArray) (a2 : List ApiSection) (a3 : List ApiLink) (a4 : List ApiSignal) (a5 : List ApiGate) (a7 : List (List ApiNeed)) (a8 : List LockBody) (a9 : List LockGate) {k : Int} (hk : 0 ≤ k ∧ k < (ro.length : Int)) (needs : List ApiNeed) :
  ∃ b, q0X k a1 a2 a3 a4 a5 ro a7 needs a8 a9 mp ar = some (b, mp) ∧ (b = false → ∀ e ∈ mp, ∀ x, Q7 ar e.1 = some x → ∀ y ∈ w8 x, ¬ (y.Kind = 2 ∧ x.Route.To = (roK ro k).From) → ∀ a ∈ needs, ¬ q9n a y) := by
 classical
 unfold q0X
 rcases z2d (body := G5 ro needs mp ar k) (P := fun e => ∃ x, Q7 ar e.1 = some x ∧ ∃ i, i < (w8 x).length ∧ ∃ y, (w8 x)[i]? = some y ∧ ¬ (y.Kind = 2 ∧ x.Route.To = (roK ro k).From) ∧ ∃ a ∈ needs, q9n a y) (t := fun _ => .inr (true, mp)) (l := mp) (fun e he => by
  obtain ⟨h1, x, hx, kx⟩ := h.en e he
  unfold G5
  rw [h1, z2h F kx hx, Option.bind_some]
  have key : (forM (Z1 ro needs mp ar k (w8 x)) (w8 x).length 0 (some e.1) = some (.inl (some e.1)) ∧ ∀ i, i < (w8 x).length → ¬ ∃ y, (w8 x)[i]? = some y ∧ ¬ (y.Kind = 2 ∧ x.Route.To = (roK ro k).From) ∧ ∃ a ∈ needs, q9n a y) ∨
    (forM (Z1 ro needs mp ar k (w8 x)) (w8 x).length 0 (some e.1) = some (.inr (.inr (.inr (true, mp)))) ∧ ∃ i, i < (w8 x).length ∧ ∃ y, (w8 x)[i]? = some y ∧ ¬ (y.Kind = 2 ∧ x.Route.To = (roK ro k).From) ∧ ∃ a ∈ needs, q9n a y) := by
   rcases F7 (body := Z1 ro needs mp ar k (w8 x)) (fun j q => q = some e.1 ∧ ∀ i, i < j → ¬ ∃ y, (w8 x)[i]? = some y ∧ ¬ (y.Kind = 2 ∧ x.Route.To = (roK ro k).From) ∧ ∃ a ∈ needs, q9n a y)
    (fun v => v = .inr (.inr (true, mp)) ∧ ∃ i, i < (w8 x).length ∧ ∃ y, (w8 x)[i]? = some y ∧ ¬ (y.Kind = 2 ∧ x.Route.To = (roK ro k).From) ∧ ∃ a ∈ needs, q9n a y) (w8 x).length 0 (some e.1) ⟨rfl, fun i hi => by omega⟩ (fun j q _ hj hI => by
    obtain ⟨hq, hI⟩ := hI
    subst hq
    have hj : j < (w8 x).length := by omega
    have next : ¬ (∃ y, (w8 x)[j]? = some y ∧ ¬ (y.Kind = 2 ∧ x.Route.To = (roK ro k).From) ∧ ∃ a ∈ needs, q9n a y) → ∀ i, i < j + 1 → ¬ ∃ y, (w8 x)[i]? = some y ∧ ¬ (y.Kind = 2 ∧ x.Route.To = (roK ro k).From) ∧ ∃ a ∈ needs, q9n a y := fun c i hi => by
     by_cases e : i = j
     ·rw [e]; exact c
     ·exact hI i (by omega)
    unfold Z1
    rw [j7 hj, Option.bind_some, Option.bind_some, hx, Option.bind_some, F.idxR hk, Option.bind_some]
    have e1 : (if (w8 x)[j].Kind = 2 then some (some e.1, decide (x.Route.To = (roK ro k).From)) else some (some e.1, false)) = some (some e.1, decide ((w8 x)[j].Kind = 2 ∧ x.Route.To = (roK ro k).From)) := by
     by_cases c : (w8 x)[j].Kind = 2
     ·rw [if_pos c]
      congr 2
      exact decide_eq_decide.2 ⟨fun h => ⟨c, h⟩, fun h => h.2⟩
     ·rw [if_neg c, decide_eq_false (fun h => c h.1)]
    rw [e1, H0]
    by_cases c : (w8 x)[j].Kind = 2 ∧ x.Route.To = (roK ro k).From
    ·rw [decide_eq_true c, if_pos rfl]
     refine .inl ⟨_, rfl, rfl, next fun ⟨y, h1, h2, _⟩ => h2 ?_⟩
     rw [List.getElem?_eq_getElem hj] at h1
     rw [← Option.some.inj h1]
     exact c
    ·rw [decide_eq_false c, if_neg Bool.false_ne_true, z3r, Option.bind_some]
     by_cases c2 : ∃ a ∈ needs, q9n a (w8 x)[j]
     ·rw [decide_eq_true c2, if_pos rfl]
      exact .inr ⟨_, rfl, rfl, j, hj, _, List.getElem?_eq_getElem hj, c, c2⟩
     ·rw [decide_eq_false c2, if_neg Bool.false_ne_true]
      refine .inl ⟨_, rfl, rfl, next fun ⟨y, h1, _, h3⟩ => c2 ?_⟩
      rw [List.getElem?_eq_getElem hj] at h1
      rw [Option.some.inj h1]
      exact h3) with ⟨q, h1, h2, h3⟩ | ⟨v, h1, h2, h3⟩
   ·exact .inl ⟨by rw [h1, h2], fun i hi => h3 i (by omega)⟩
   ·exact .inr ⟨by rw [h1, h2], h3⟩
  rcases key with ⟨h2, h3⟩ | ⟨h2, h3⟩
  ·rw [h2, if_neg (fun ⟨y, hy, i, hi, h4⟩ => by rw [hx] at hy; rw [← Option.some.inj hy] at hi h4; exact h3 i hi h4)]
   rfl
  ·rw [h2, if_pos ⟨x, hx, h3⟩]
   rfl) (fun _ _ _ _ _ _ => rfl) with ⟨h1, h2⟩ | ⟨e, _, _, h1⟩
 ·refine ⟨false, by rw [h1]; rfl, fun _ e he x hx y hy hc a ha hm => h2 e he ?_⟩
  obtain ⟨i, hi, hg⟩ := List.getElem_of_mem hy
  exact ⟨x, hx, i, hi, y, by rw [List.getElem?_eq_getElem hi, hg], hc, a, ha, hm⟩
 ·exact ⟨true, by rw [h1]; rfl, fun h => by cases h⟩
end
def q8C (s : LockBody) : Prop := (0 ≤ s.axles ∧ s.axles ≤ 400) ∧ (0 ≤ s.moving ∧ s.moving ≤ 5) ∧ 1 ≤ s.position ∧ s.position ≤ 2
def AllB (m : Nat) (l : List LockBody) : Prop := l.length = m ∧ ∀ s ∈ l, q8C s
theorem AllB.get {m : Nat} {l : List LockBody} (h : AllB m l) {i : Int} (h0 : 0 ≤ i ∧ i < (m : Int)) : ∃ s, idx l i = some s ∧ q8C s := by
 obtain ⟨x, h1, h2⟩ := q3j h0.1 (by rw [h.1]; exact h0.2)
 exact ⟨x, h1, h.2 x (List.mem_of_getElem? h2)⟩
theorem AllB.put {m : Nat} {l : List LockBody} (h : AllB m l) (i : Int) {y : LockBody} (hy : q8C y) : AllB m (put l i y) :=
 ⟨by rw [z6]; exact h.1, fun s hs => by
  rcases List.mem_or_eq_of_mem_set hs with h1 | h1
  ·exact h.2 s h1
  ·rw [h1]; exact hy⟩
def AllG (m : Nat) (l : List LockGate) : Prop := l.length = m ∧ ∀ g ∈ l, g.left ≤ 9223372036854775807
theorem AllG.get {m : Nat} {l : List LockGate} (h : AllG m l) {i : Int} (h0 : 0 ≤ i ∧ i < (m : Int)) : ∃ s, idx l i = some s ∧ s.left ≤ 9223372036854775807 := by
 obtain ⟨x, h1, h2⟩ := q3j h0.1 (by rw [h.1]; exact h0.2)
 exact ⟨x, h1, h.2 x (List.mem_of_getElem? h2)⟩
theorem AllG.put {m : Nat} {l : List LockGate} (h : AllG m l) (i : Int) {y : LockGate} (hy : y.left ≤ 9223372036854775807) : AllG m (put l i y) :=
 ⟨by rw [z6]; exact h.1, fun s hs => by
  rcases List.mem_or_eq_of_mem_set hs with h1 | h1
  ·exact h.2 s h1
  ·rw [h1]; exact hy⟩
section
variable {n : ApiNet} {ro : List ApiRoute} {ne : List (List ApiNeed)} {bo bo' : List LockBody} {gt gt' : List LockGate} {mp : List (Int × Option Int)} {ar : List (Int × LockLocked)}
variable {a1 : List ByteArray} {a2 : List ApiSection} {a3 : List ApiLink} {a4 : List ApiSignal} {a5 : List ApiGate} {a6 : List ApiRoute} {a7 : List (List ApiNeed)} {a8 : List LockBody} {a9 : List LockGate} {b1 : List (Int × Option Int)} {b2 : List (Int × LockLocked)}
theorem Inv.B (h : Inv n ro ne bo gt mp ar) : AllB n.Sections.length bo := ⟨h.bl, h.bb⟩
theorem Inv.G (h : Inv n ro ne bo gt mp ar) : AllG n.Gates.length gt := ⟨h.gl, h.gb⟩
theorem Inv.toB (h : Inv n ro ne bo gt mp ar) (hb : AllB n.Sections.length bo') : Inv n ro ne bo' gt mp ar := ⟨hb.1, hb.2, h.gl, h.gb, h.nd, h.en, h.ap⟩
theorem Inv.toG (h : Inv n ro ne bo gt mp ar) (hb : AllG n.Gates.length gt') : Inv n ro ne bo gt' mp ar := ⟨h.bl, h.bb, hb.1, hb.2, h.nd, h.en, h.ap⟩
theorem q3e (a : Int) : V9 a a1 a2 a3 a4 a5 a6 a7 bo a9 b1 b2 = some (decide (0 ≤ a ∧ a < (bo.length : Int))) := by
 unfold V9
 by_cases c : 0 ≤ a
 ·rw [if_pos c, Option.bind_some]
  congr 1
  exact decide_eq_decide.2 ⟨fun h => ⟨c, h⟩, fun h => h.2⟩
 ·rw [if_neg c, Option.bind_some, decide_eq_false (fun h => c h.1)]
theorem q5d (a : Int) : J4 a a1 a2 a3 a4 a5 ro a7 a8 a9 b1 b2 = some (decide (0 ≤ a ∧ a < (ro.length : Int))) := by
 unfold J4
 by_cases c : 0 ≤ a
 ·rw [if_pos c, Option.bind_some]
  congr 1
  exact decide_eq_decide.2 ⟨fun h => ⟨c, h⟩, fun h => h.2⟩
 ·rw [if_neg c, Option.bind_some, decide_eq_false (fun h => c h.1)]
theorem q4l (s : LockBody) : k9 s = some (decide (0 < s.axles) || s.disturbed) := by
 unfold k9
 by_cases c : 0 < s.axles
 ·rw [if_pos c, decide_eq_true c]; rfl
 ·rw [if_neg c, decide_eq_false c]; rfl
theorem j2S (hb : AllB n.Sections.length bo) (d c : Int) : ∃ r bo', q3N d c a1 a2 a3 a4 a5 a6 a7 bo a9 b1 b2 = some (r, bo') ∧ AllB n.Sections.length bo' := by
 unfold q3N
 rw [q3e, Option.bind_some]
 by_cases h0 : 0 ≤ d ∧ d < (bo.length : Int)
 ·rw [decide_eq_true h0, if_pos rfl]
  have hd : 0 ≤ d ∧ d < (n.Sections.length : Int) := by rw [← hb.1]; exact h0
  obtain ⟨s, h1, h2⟩ := hb.get hd
  by_cases c0 : c < 0
  ·rw [if_pos c0, Option.bind_some, if_pos rfl]
   exact ⟨_, _, rfl, hb⟩
  ·rw [if_neg c0, Option.bind_some]
   by_cases c1 : 400 < c
   ·rw [decide_eq_true c1, if_pos rfl]
    exact ⟨_, _, rfl, hb⟩
   ·have h3 := h2.1
    rw [decide_eq_false c1, if_neg Bool.false_ne_true, h1, Option.bind_some, X0 (by omega) (by omega), Option.bind_some]
    by_cases c2 : 400 < s.axles + c
    ·rw [if_pos c2]
     exact ⟨_, _, rfl, hb⟩
    ·rw [if_neg c2, Option.bind_some, X0 (by omega) (by omega), Option.bind_some, Option.bind_some]
     exact ⟨_, _, rfl, hb.put _ ⟨⟨by simp only; omega, by simp only; omega⟩, h2.2⟩⟩
 ·rw [decide_eq_false h0, if_neg Bool.false_ne_true]
  exact ⟨_, _, rfl, hb⟩
theorem z6u (hb : AllB n.Sections.length bo) (d : Int) : ∃ r bo', q0W d a1 a2 a3 a4 a5 a6 a7 bo a9 b1 b2 = some (r, bo') ∧ AllB n.Sections.length bo' := by
 unfold q0W
 rw [q3e, Option.bind_some]
 by_cases h0 : 0 ≤ d ∧ d < (bo.length : Int)
 ·obtain ⟨s, h1, h2⟩ := hb.get (i := d) (by rw [← hb.1]; exact h0)
  rw [decide_eq_true h0, if_pos rfl, h1, Option.bind_some]
  split
  ·exact ⟨_, _, rfl, hb⟩
  ·rw [Option.bind_some]
   exact ⟨_, _, rfl, hb.put _ h2⟩
 ·rw [decide_eq_false h0, if_neg Bool.false_ne_true]
  exact ⟨_, _, rfl, hb⟩
theorem z9t (hb : AllB n.Sections.length bo) (d : Int) : ∃ r bo', q2h d a1 n.Sections a3 a4 a5 a6 a7 bo a9 b1 b2 = some (r, bo') ∧ AllB n.Sections.length bo' := by
 unfold q2h
 rw [q3e, Option.bind_some]
 by_cases h0 : 0 ≤ d ∧ d < (bo.length : Int)
 ·have hd : 0 ≤ d ∧ d < (n.Sections.length : Int) := by rw [← hb.1]; exact h0
  obtain ⟨s, h1, h2⟩ := hb.get hd
  rw [decide_eq_true h0, if_pos rfl, h1, Option.bind_some]
  split
  ·rw [Option.bind_some, q2E hd, Option.bind_some]
   have hp := hb.put d (y := ⟨s.axles, false, s.position, s.moving, s.failed⟩) h2
   split
   ·obtain ⟨s', h3, h4⟩ := hp.get hd
    rw [h3, Option.bind_some, Option.bind_some]
    exact ⟨_, _, rfl, hp.put _ ⟨⟨by simp, by simp⟩, h4.2⟩⟩
   ·rw [Option.bind_some]
    exact ⟨_, _, rfl, hp⟩
  ·exact ⟨_, _, rfl, hb⟩
 ·rw [decide_eq_false h0, if_neg Bool.false_ne_true]
  exact ⟨_, _, rfl, hb⟩
theorem q7b (hb : bo.length = n.Sections.length) (d : Int) : K5 d a1 n.Sections a3 a4 a5 a6 a7 bo a9 b1 b2 = some (decide ((0 ≤ d ∧ d < (n.Sections.length : Int)) ∧ (sec n d).Kind = 2)) := by
 unfold K5
 rw [q3e, Option.bind_some, hb]
 by_cases h0 : 0 ≤ d ∧ d < (n.Sections.length : Int)
 ·rw [decide_eq_true h0, if_pos rfl, q2E h0, Option.bind_some, Option.bind_some]
  congr 1
  exact decide_eq_decide.2 ⟨fun h => ⟨h0, h⟩, fun h => h.2⟩
 ·rw [decide_eq_false h0, if_neg Bool.false_ne_true, Option.bind_some, decide_eq_false (fun h => h0 h.1)]
theorem j1N (hb : AllB n.Sections.length bo) (d : Int) : ∃ r bo', q3b d a1 n.Sections a3 a4 a5 a6 a7 bo a9 b1 b2 = some (r, bo') ∧ AllB n.Sections.length bo' := by
 unfold q3b
 rw [q7b hb.1, Option.bind_some]
 by_cases h0 : (0 ≤ d ∧ d < (n.Sections.length : Int)) ∧ (sec n d).Kind = 2
 ·obtain ⟨s, h1, h2⟩ := hb.get h0.1
  rw [decide_eq_true h0, if_pos rfl, h1, Option.bind_some]
  split
  ·exact ⟨_, _, rfl, hb⟩
  ·rw [Option.bind_some]
   exact ⟨_, _, rfl, hb.put _ h2⟩
 ·rw [decide_eq_false h0, if_neg Bool.false_ne_true]
  exact ⟨_, _, rfl, hb⟩
theorem j1E (hb : AllB n.Sections.length bo) (d : Int) : ∃ r bo', q2Y d a1 n.Sections a3 a4 a5 a6 a7 bo a9 b1 b2 = some (r, bo') ∧ AllB n.Sections.length bo' := by
 unfold q2Y
 rw [q7b hb.1, Option.bind_some]
 by_cases h0 : (0 ≤ d ∧ d < (n.Sections.length : Int)) ∧ (sec n d).Kind = 2
 ·obtain ⟨s, h1, h2⟩ := hb.get h0.1
  rw [decide_eq_true h0, if_pos rfl, h1, Option.bind_some]
  split
  ·rw [Option.bind_some]
   exact ⟨_, _, rfl, hb.put _ h2⟩
  ·exact ⟨_, _, rfl, hb⟩
 ·rw [decide_eq_false h0, if_neg Bool.false_ne_true]
  exact ⟨_, _, rfl, hb⟩
theorem j1i (F : Fix n ro ne) (h : Inv n ro ne bo gt mp ar) (d f : Int) : ∃ r bo', q2W d f a1 n.Sections a3 a4 a5 a6 a7 bo a9 mp ar = some (r, bo', mp) ∧ AllB n.Sections.length bo' := by
 have hb := h.B
 unfold q2W
 rw [q7b hb.1, Option.bind_some]
 by_cases h0 : (0 ≤ d ∧ d < (n.Sections.length : Int)) ∧ (sec n d).Kind = 2
 ·obtain ⟨s, h1, h2⟩ := hb.get h0.1
  rw [decide_eq_true h0, if_pos rfl, h1, Option.bind_some]
  have e1 : (if f ≠ 1 then some (decide (f ≠ 2)) else some false) = some (decide (f ≠ 1 ∧ f ≠ 2)) := by
   by_cases c : f ≠ 1
   ·rw [if_pos c]
    congr 1
    exact decide_eq_decide.2 ⟨fun h => ⟨c, h⟩, fun h => h.2⟩
   ·rw [if_neg c, decide_eq_false (fun h => c h.1)]
  rw [e1, Option.bind_some]
  split
  ·exact ⟨_, _, rfl, hb⟩
  ·split
   ·exact ⟨_, _, rfl, hb⟩
   ·split
    ·exact ⟨_, _, rfl, hb⟩
    ·split
     ·exact ⟨_, _, rfl, hb⟩
     ·rw [q4l, Option.bind_some]
      obtain ⟨b, h3⟩ := z2i F h a1 n.Sections a3 a4 a5 a6 a7 bo a9 d
      have e2 : ∃ q, (if (decide (0 < s.axles) || s.disturbed) = true then some (true, mp) else (V5 d a1 n.Sections a3 a4 a5 a6 a7 bo a9 mp ar).bind (K1 fun t u => some (t, u))) = some (q, mp) := by
       split
       ·exact ⟨_, rfl⟩
       ·rw [h3]
        exact ⟨b, rfl⟩
      obtain ⟨q, e2⟩ := e2
      rw [e2, H0]
      split
      ·exact ⟨_, _, rfl, hb⟩
      ·exact ⟨_, _, rfl, hb.put _ ⟨h2.1, ⟨by simp, by simp⟩, h2.2.2⟩⟩
 ·rw [decide_eq_false h0, if_neg Bool.false_ne_true]
  exact ⟨_, _, rfl, hb⟩
theorem z2j (m : Nat) (a : Int) : (if a < 0 then some true else some (decide ((m : Int) ≤ a))) = some (decide ¬ (0 ≤ a ∧ a < (m : Int))) := by
 by_cases c : a < 0
 ·rw [if_pos c, decide_eq_true (by omega)]
 ·rw [if_neg c]
  congr 1
  exact decide_eq_decide.2 (by omega)
theorem z4E (hg : AllG n.Gates.length gt) (d : Int) : ∃ r gt', q0s d a1 a2 a3 a4 a5 a6 a7 a8 gt b1 b2 = some (r, gt') ∧ AllG n.Gates.length gt' := by
 unfold q0s
 rw [z2j, Option.bind_some, hg.1]
 by_cases h0 : 0 ≤ d ∧ d < (n.Gates.length : Int)
 ·obtain ⟨g, h1, h2⟩ := hg.get h0
  rw [decide_eq_false (fun h => h h0), if_neg Bool.false_ne_true, h1, Option.bind_some]
  split
  ·exact ⟨_, _, rfl, hg⟩
  ·rw [Option.bind_some]
   exact ⟨_, _, rfl, hg.put _ h2⟩
 ·rw [decide_eq_true h0, if_pos rfl]
  exact ⟨_, _, rfl, hg⟩
theorem z4n (F : Fix n ro ne) (hg : AllG n.Gates.length gt) (d : Int) : ∃ r gt', q0q d a1 a2 a3 a4 n.Gates a6 a7 a8 gt b1 b2 = some (r, gt') ∧ AllG n.Gates.length gt' := by
 unfold q0q
 rw [z2j, Option.bind_some, hg.1]
 by_cases h0 : 0 ≤ d ∧ d < (n.Gates.length : Int)
 ·obtain ⟨g, h1, h2⟩ := hg.get h0
  rw [decide_eq_false (fun h => h h0), if_neg Bool.false_ne_true, h1, Option.bind_some]
  split
  ·have hp := hg.put d (y := ⟨g.left, g.wanted, false⟩) h2
   obtain ⟨g', h3, h4⟩ := hp.get h0
   rw [Option.bind_some, h3, Option.bind_some]
   split
   ·obtain ⟨z, h5, h6⟩ := q3j h0.1 h0.2
    rw [h5, Option.bind_some, Option.bind_some]
    exact ⟨_, _, rfl, hp.put _ (F.close z (List.mem_of_getElem? h6))⟩
   ·rw [Option.bind_some]
    exact ⟨_, _, rfl, hp⟩
  ·exact ⟨_, _, rfl, hg⟩
 ·rw [decide_eq_true h0, if_pos rfl]
  exact ⟨_, _, rfl, hg⟩
theorem Inv.less {mp' : List (Int × Option Int)} {ar' : List (Int × LockLocked)} (h : Inv n ro ne bo gt mp ar) (hs : ∀ p ∈ mp', p ∈ mp) (hn : (mp'.map (·.1)).Nodup)
  (hx : ∀ p ∈ mp', ∀ x, Q7 ar p.1 = some x → LOk n ro ne p.1 x → ∃ x', Q7 ar' p.1 = some x' ∧ LOk n ro ne p.1 x' ∧ ∀ a ∈ w8 x', a ∈ w8 x) : Inv n ro ne bo gt mp' ar' :=
 ⟨h.bl, h.bb, h.gl, h.gb, hn, fun p hp => by
  obtain ⟨h1, x, h2, h3⟩ := h.en p (hs p hp)
  obtain ⟨x', h4, h5, _⟩ := hx p hp x h2 h3
  exact ⟨h1, x', h4, h5⟩, fun p hp q hq hne x y h1 h2 a ha b hb => by
  obtain ⟨_, x0, h3, h4⟩ := h.en p (hs p hp)
  obtain ⟨_, y0, h5, h6⟩ := h.en q (hs q hq)
  obtain ⟨x', h7, _, h8⟩ := hx p hp x0 h3 h4
  obtain ⟨y', h9, _, h10⟩ := hx q hq y0 h5 h6
  rw [h1] at h7
  rw [h2] at h9
  rw [← Option.some.inj h7] at h8
  rw [← Option.some.inj h9] at h10
  exact h.ap p (hs p hp) q (hs q hq) hne x0 y0 h3 h5 a (h8 a ha) b (h10 b hb)⟩
theorem Inv.each (h : Inv n ro ne bo gt mp ar) (g : Int → LockLocked → LockLocked) (hg : ∀ k x, LOk n ro ne k x → LOk n ro ne k (g k x) ∧ ∀ a ∈ w8 (g k x), a ∈ w8 x) : Inv n ro ne bo gt mp (cells g mp ar) :=
 h.less (fun p hp => hp) h.nd fun p hp x h1 h2 => by
  obtain ⟨h3, h4⟩ := hg p.1 x h2
  refine ⟨g p.1 x, ?_, h3, h4⟩
  rw [q7u g mp ar p.1 h.nd, h1]
  show some (if _ then _ else _) = _
  rw [if_pos (List.mem_map_of_mem hp)]
end
theorem z6n (l : ApiLink) (c d : Int) : q0r l c d = some (decide (l.A = c ∧ l.B = d ∨ l.A = d ∧ l.B = c)) := by
 unfold q0r
 by_cases h1 : l.A = c
 ·rw [if_pos h1]
  by_cases h2 : l.B = d
  ·rw [if_pos h2, Option.bind_some, decide_eq_true (.inl ⟨h1, h2⟩)]
  ·rw [if_neg h2]
   by_cases h3 : l.A = d
   ·rw [if_pos h3, Option.bind_some]
    congr 1
    exact decide_eq_decide.2 ⟨fun h => .inr ⟨h3, h⟩, fun h => h.elim (fun h => absurd h.2 h2) (fun h => h.2)⟩
   ·rw [if_neg h3, Option.bind_some, decide_eq_false (fun h => h.elim (fun h => h2 h.2) (fun h => h3 h.1))]
 ·rw [if_neg h1]
  by_cases h3 : l.A = d
  ·rw [if_pos h3, Option.bind_some]
   congr 1
   exact decide_eq_decide.2 ⟨fun h => .inr ⟨h3, h⟩, fun h => h.elim (fun h => absurd h.1 h1) (fun h => h.2)⟩
  ·rw [if_neg h3, Option.bind_some, decide_eq_false (fun h => h.elim (fun h => h1 h.1) (fun h => h3 h.1))]
section
variable {n : ApiNet} {ro : List ApiRoute} {ne : List (List ApiNeed)} {bo bo' : List LockBody} {gt gt' : List LockGate} {mp : List (Int × Option Int)} {ar : List (Int × LockLocked)}
variable {a1 : List ByteArray} {a2 : List ApiSection} {a3 : List ApiLink} {a4 : List ApiSignal} {a5 : List ApiGate} {a6 : List ApiRoute} {a7 : List (List ApiNeed)} {a8 : List LockBody} {a9 : List LockGate} {b1 : List (Int × Option Int)} {b2 : List (Int × LockLocked)}
theorem z7E (c d : Int) : ∃ b, q1C c d a1 a2 a3 a4 a5 a6 a7 a8 a9 b1 b2 = some b := by
 classical
 have h1 : Y7 a3 c d = some (decide (∃ l ∈ a3, l.A = c ∧ l.B = d ∨ l.A = d ∧ l.B = c)) :=
  z3O (fun l : ApiLink => l.A = c ∧ l.B = d ∨ l.A = d ∧ l.B = c) (fun k hk => by
   unfold q0C
   rw [j7 hk, Option.bind_some, z6n, Option.bind_some]
   split
   ·rename_i h
    rw [if_pos (of_decide_eq_true h)]
   ·rename_i h
    rw [if_neg (fun h2 => h (decide_eq_true h2))])
 unfold q1C
 rw [h1]
 exact ⟨_, rfl⟩
def z6b (s : Int) (x : LockLocked) (i : Nat) (y : LockLocked) : LockLocked :=
 if ((x.Route.Steps[i]?).getD ⟨0, 0, 0⟩).Section = s ∧ y.gone[i]? = some false then ⟨y.Route, y.needs, put y.seen (i : Int) true, y.gone, y.laps, y.sight, if (i : Int) = 0 then 0 else y.leave, y.clock, y.number⟩ else y
def q0N (s : Int) (x : LockLocked) : Nat → LockLocked
 | 0 => x
 | j + 1 => z6b s x j (q0N s x j)
theorem q7T (s : Int) (x : LockLocked) : ∀ j, (q0N s x j).Route = x.Route ∧ (q0N s x j).needs = x.needs ∧ (q0N s x j).gone = x.gone ∧ (q0N s x j).laps = x.laps ∧ (q0N s x j).sight = x.sight ∧ (q0N s x j).clock = x.clock ∧ (q0N s x j).number = x.number ∧ (q0N s x j).seen.length = x.seen.length ∧ ((q0N s x j).leave = x.leave ∨ (q0N s x j).leave = 0) ∧ ∀ i : Nat, x.seen[i]? = some true → (q0N s x j).seen[i]? = some true
 | 0 => ⟨rfl, rfl, rfl, rfl, rfl, rfl, rfl, rfl, .inl rfl, fun _ h => h⟩
 | j + 1 => by
  obtain ⟨h1, h2, h3, h4, h5, h6, h7, h8, h9, h10⟩ := q7T s x j
  simp only [q0N, z6b]
  split
  ·refine ⟨h1, h2, h3, h4, h5, h6, h7, by rw [z6]; exact h8, ?_, fun i hi => ?_⟩
   ·split
    ·exact .inr rfl
    ·exact h9
   ·have h11 := h10 i hi
    simp only [F8]
    rw [List.getElem?_set]
    split
    ·rename_i e
     subst e
     rw [if_pos (List.getElem?_eq_some_iff.1 h11).1]
    ·exact h11
  ·exact ⟨h1, h2, h3, h4, h5, h6, h7, h8, h9, h10⟩
theorem z9y (F : Fix n ro ne) {k : Int} {x : LockLocked} (h : LOk n ro ne k x) (s : Int) (j : Nat) : LOk n ro ne k (q0N s x j) ∧ ∀ a ∈ w8 (q0N s x j), a ∈ w8 x := by
 obtain ⟨h1, h2, h3, h4, h5, h6, h7, h8, h9, h10⟩ := q7T s x j
 refine ⟨⟨h.kr, h1.trans h.route, h7.trans h.num, by rw [h8, h1]; exact h.seen, by rw [h3, h1]; exact h.gone, by rw [h2]; exact h.sub, by rw [h2]; exact h.trk, by rw [h2]; exact h.len, fun i hi => h10 0 (h.g0 i (by rw [← h3]; exact hi)), ?_, by rw [h6, h4]; exact h.clk⟩, fun a ha => ?_⟩
 ·have := h.leave
  rcases h9 with e | e <;> rw [e]
  ·exact this
  ·omega
 ·obtain ⟨ha, hb⟩ := q0M.1 ha
  rw [h2] at ha
  refine q0M.2 ⟨ha, ?_⟩
  unfold q4q at hb ⊢
  rw [h4, h3] at hb
  by_cases c2 : a.Kind = 2
  ·rw [if_pos c2] at hb ⊢
   exact hb
  ·rw [if_neg c2] at hb ⊢
   by_cases c5 : a.Kind = 5
   ·rw [if_pos c5] at hb ⊢
    obtain ⟨b, _, h12⟩ := h.seen0 F
    cases b with
    | true =>
     rw [h10 0 h12] at hb
     cases hb
    | false =>
     rw [h12]
     rfl
   ·rw [if_neg c5] at hb ⊢
    exact hb
theorem z7g (F : Fix n ro ne) (h : Inv n ro ne bo gt mp ar) (s : Int) {e : Int × Option Int} (he : e ∈ mp) (l' : List (Int × LockLocked)) (x : LockLocked) (hl : Q7 l' e.1 = some x) (h0 : Q7 ar e.1 = some x) :
  V4 s e l' = some (.inl (F2 l' e.1 (q0N s x x.Route.Steps.length))) := by
 obtain ⟨h1, x', hx', kx⟩ := h.en e he
 rw [h0] at hx'
 rw [← Option.some.inj hx'] at kx
 unfold V4
 rw [h1, Option.bind_some, hl, Option.bind_some]
 obtain ⟨t, h2, h3⟩ := Y0 (body := q0G s e.1 x) (fun j t => t = F2 l' e.1 (q0N s x j)) x.Route.Steps.length 0 l' (q9H l' hl).symm (fun j t _ hj ht => by
  have hj : j < x.Route.Steps.length := by omega
  obtain ⟨p1, p2, p3, p4, p5, p6, p7, p8, p9, p10⟩ := q7T s x j
  have hg : j < (q0N s x j).gone.length := by rw [p3, kx.gone]; exact hj
  have hs : j < (q0N s x j).seen.length := by rw [p8, kx.seen]; exact hj
  subst ht
  refine ⟨_, ?_, rfl⟩
  unfold q0G
  rw [j7 hj, Option.bind_some]
  have hst : (x.Route.Steps[j]?).getD ⟨0, 0, 0⟩ = x.Route.Steps[j] := by rw [List.getElem?_eq_getElem hj]; rfl
  by_cases c : x.Route.Steps[j].Section = s
  ·rw [if_pos c, Z5, Option.bind_some, j7 hg, Option.bind_some]
   cases hb : (q0N s x j).gone[j] with
   | true =>
    rw [if_pos rfl]
    simp only [q0N, z6b]
    rw [if_neg (fun h => by rw [List.getElem?_eq_getElem hg, hb] at h; cases h.2)]
   | false =>
    rw [if_neg Bool.false_ne_true, j7 hs, Option.bind_some]
    have hyes : z6b s x j (q0N s x j) = ⟨(q0N s x j).Route, (q0N s x j).needs, put (q0N s x j).seen (j : Int) true, (q0N s x j).gone, (q0N s x j).laps, (q0N s x j).sight, if (j : Int) = 0 then 0 else (q0N s x j).leave, (q0N s x j).clock, (q0N s x j).number⟩ :=
     if_pos ⟨by rw [hst]; exact c, by rw [List.getElem?_eq_getElem hg, hb]⟩
    show _ = some (F2 l' e.1 (z6b s x j (q0N s x j)))
    rw [hyes]
    by_cases c0 : (j : Int) = 0
    ·rw [if_pos c0, if_pos c0, q7Y]
    ·rw [if_neg c0, if_neg c0, q7Y]
  ·rw [if_neg c]
   simp only [q0N, z6b]
   rw [if_neg (fun h => c (by rw [hst] at h; exact h.1))])
 rw [h2, Option.bind_some, h3, Nat.zero_add]
theorem j1w (F : Fix n ro ne) (h : Inv n ro ne bo gt mp ar) (e s f : Int) : ∃ r bo' ar', q2X e s f a1 n.Sections a3 a4 a5 a6 a7 bo a9 mp ar = some (r, bo', mp, ar') ∧ Inv n ro ne bo' gt mp ar' := by
 have hb := h.B
 have hpass : z3U (fun p => q4f (V4 s) p ar) mp = some (.inl (cells (fun _ x => q0N s x x.Route.Steps.length) mp ar)) :=
  z1q (g := fun _ x => q0N s x x.Route.Steps.length) (fun e he l' x h1 h2 => z7g F h s he l' x h1 h2) h.some_ h.nd
 have hinv := h.each (fun _ x => q0N s x x.Route.Steps.length) (fun k x hx => z9y F hx s _)
 have hsame : q2l = V4 := rfl
 unfold q2X
 rw [hsame, q3e, Option.bind_some]
 by_cases h0 : 0 ≤ e ∧ e < (bo.length : Int)
 ·have he : 0 ≤ e ∧ e < (n.Sections.length : Int) := by rw [← hb.1]; exact h0
  rw [decide_eq_true h0, if_pos rfl, q3e, Option.bind_some]
  by_cases h1 : 0 ≤ s ∧ s < (bo.length : Int)
  ·have hs : 0 ≤ s ∧ s < (n.Sections.length : Int) := by rw [← hb.1]; exact h1
   rw [decide_eq_true h1, if_pos rfl]
   obtain ⟨b, h2⟩ := z7E (a1 := a1) (a2 := n.Sections) (a3 := a3) (a4 := a4) (a5 := a5) (a6 := a6) (a7 := a7) (a8 := bo) (a9 := a9) (b1 := mp) (b2 := ar) e s
   rw [h2, Option.bind_some]
   split
   ·split
    ·exact ⟨_, _, _, rfl, h⟩
    ·split
     ·exact ⟨_, _, _, rfl, h⟩
     ·rename_i f1 f2
      obtain ⟨x, x1, x2⟩ := hb.get he
      obtain ⟨y, y1, y2⟩ := hb.get hs
      have x3 := x2.1
      have y3 := y2.1
      rw [x1, Option.bind_some, y1, Option.bind_some, X0 (by omega) (by omega), Option.bind_some]
      split
      ·exact ⟨_, _, _, rfl, h⟩
      ·rename_i f3
       have two : ∀ z : LockBody, q8C z → z.axles + f ≤ 400 → z.position = x.position → ∃ w, idx (put bo e z) s = some w ∧ q8C w ∧ w.axles + f ≤ 400 := fun z hz hzf _ => by
        by_cases c : e = s
        ·refine ⟨z, ?_, hz, hzf⟩
         rw [← c]
         have : e = ((e.toNat : Nat) : Int) := by omega
         rw [this, F8, j7 (by rw [List.length_set]; omega), List.getElem_set_self]
        ·refine ⟨y, ?_, y2, by omega⟩
         have e1 : e = ((e.toNat : Nat) : Int) := by omega
         have e2 : s = ((s.toNat : Nat) : Int) := by omega
         have hlt : s.toNat < bo.length := by omega
         rw [e1, F8, e2, j7 (by rw [List.length_set]; exact hlt), List.getElem_set_ne (by omega), ← j7 hlt, ← e2]
         exact y1
       split
       ·rename_i f4
        rw [X0 (by omega) (by omega), Option.bind_some]
        have z2 : q8C ⟨x.axles - f, x.disturbed, x.position, x.moving, x.failed⟩ := ⟨⟨by simp only; omega, by simp only; omega⟩, x2.2⟩
        obtain ⟨w, w1, w2, w3⟩ := two _ z2 (by simp only; omega) rfl
        have w4 := w2.1
        rw [w1, Option.bind_some, X0 (by omega) (by omega), Option.bind_some, hpass]
        exact ⟨_, _, _, rfl, hinv.toB ((hb.put _ z2).put _ ⟨⟨by simp only; omega, by simp only; omega⟩, w2.2⟩)⟩
       ·rw [q2E he, Option.bind_some]
        split
        ·have z2 : q8C ⟨0, x.disturbed, x.position, x.moving, x.failed⟩ := ⟨⟨by simp, by simp⟩, x2.2⟩
         have hp := hb.put e z2
         have e1 : e = ((e.toNat : Nat) : Int) := by omega
         have hlt : e.toNat < bo.length := by omega
         have g1 : idx (put bo e ⟨0, x.disturbed, x.position, x.moving, x.failed⟩) e = some ⟨0, x.disturbed, x.position, x.moving, x.failed⟩ := by
          rw [e1, F8, j7 (by rw [List.length_set]; exact hlt), List.getElem_set_self]
         have z3 : q8C ⟨0, true, x.position, x.moving, x.failed⟩ := z2
         have g2 : put (put bo e ⟨0, x.disturbed, x.position, x.moving, x.failed⟩) e ⟨0, true, x.position, x.moving, x.failed⟩ = put bo e ⟨0, true, x.position, x.moving, x.failed⟩ := by
          rw [e1, F8, F8, F8, List.set_set]
         obtain ⟨w, w1, w2, w3⟩ := two _ z3 (by simp only; omega) rfl
         have w4 := w2.1
         rw [g1, Option.bind_some]
         simp only
         rw [g2, w1, Option.bind_some, X0 (by omega) (by omega), Option.bind_some, hpass]
         exact ⟨_, _, _, rfl, hinv.toB ((hb.put _ z3).put _ ⟨⟨by simp only; omega, by simp only; omega⟩, w2.2⟩)⟩
        ·exact ⟨_, _, _, rfl, h⟩
   ·exact ⟨_, _, _, rfl, h⟩
  ·rw [decide_eq_false h1, if_neg Bool.false_ne_true]
   exact ⟨_, _, _, rfl, h⟩
 ·rw [decide_eq_false h0, if_neg Bool.false_ne_true]
  exact ⟨_, _, _, rfl, h⟩
end
theorem z9z {α β γ δ ε τ : Type} {A : α → β → γ → δ → ε → Option τ} {x : α} {y : β} {z : γ} {w : δ} {v : ε} : (some (x, y, z, w, v)).bind (j1d A) = A x y z w v := rfl
def q5b (y : ApiNeed) : Bool := decide (y.Kind ≠ 2)
theorem z5o (y : ApiNeed) : q1B y = some (decide (y.Kind = 2)) := rfl
theorem z4u (l : List ApiNeed) : (V3 l = some (-1) ∧ ∀ y ∈ l, q5b y = true) ∨ ∃ i : Nat, ∃ h : i < l.length, V3 l = some (i : Int) ∧ (∀ y ∈ l.take i, q5b y = true) ∧ q5b l[i] = false := by
 unfold V3
 rcases F7 (body := X1 l) (fun k _ => ∀ y ∈ l.take k, q5b y = true) (fun v => ∃ i : Nat, ∃ h : i < l.length, v = (i : Int) ∧ (∀ y ∈ l.take i, q5b y = true) ∧ q5b l[i] = false) l.length 0 () (by simp) (fun j s _ hj hI => by
  have hj : j < l.length := by omega
  unfold X1
  rw [j7 hj, Option.bind_some, z5o, Option.bind_some]
  by_cases c : l[j].Kind = 2
  ·rw [if_pos (decide_eq_true c)]
   exact .inr ⟨_, rfl, j, hj, rfl, hI, by unfold q5b; rw [decide_eq_false (fun h => h c)]⟩
  ·rw [if_neg (fun h => c (of_decide_eq_true h))]
   refine .inl ⟨(), rfl, fun y hy => ?_⟩
   rw [List.take_succ_eq_append_getElem hj] at hy
   rcases List.mem_append.1 hy with hy | hy
   ·exact hI y hy
   ·rw [List.mem_singleton.1 hy]
    exact decide_eq_true c) with ⟨s, h1, h2⟩ | ⟨v, h1, i, hi, h2, h3⟩
 ·rw [h1]
  rw [Nat.zero_add, List.take_length] at h2
  exact .inl ⟨rfl, h2⟩
 ·rw [h1, h2]
  exact .inr ⟨i, hi, rfl, h3⟩
theorem z8a (l : List ApiNeed) (hl : l.length * 32 ≤ 140737488355328) : H1 l = some (l.filter q5b) := by
 unfold H1
 rcases z4u l with ⟨h1, h2⟩ | ⟨i, hi, h1, h2, h3⟩
 ·rw [h1, Option.bind_some, if_pos rfl, List.filter_eq_self.2 h2]
 ·rw [h1, Option.bind_some, if_neg (by omega), X0 (by omega) (by omega), Option.bind_some]
  obtain ⟨t, h4, h5⟩ := z3b (step := X8) (fun S => ∃ a d : Nat, S.1 = (a : Int) ∧ S.2.1 = (d : Int) ∧ a < d ∧ d ≤ l.length ∧ S.2.2.length = l.length ∧ S.2.2.take a = (l.take d).filter q5b ∧ S.2.2.drop d = l.drop d)
   (fun t => ∃ a : Nat, t.1 = (a : Int) ∧ a ≤ l.length ∧ t.2.length = l.length ∧ t.2.take a = l.filter q5b) (fun S => l.length - S.2.1.toNat) (fun S hS => by
    obtain ⟨x, y, c⟩ := S
    obtain ⟨a, d, e1, e2, had, hd, hlen, htake, hdrop⟩ := hS
    simp only at e1 e2 hlen htake hdrop
    subst e1 e2
    unfold X8
    simp only [q4G]
    by_cases hlt : (d : Int) < (c.length : Int)
    ·have hdl : d < c.length := by omega
     have hdl2 : d < l.length := by omega
     have hcd : c[d] = l[d] := by
      have h5 : (c.drop d)[0]? = (l.drop d)[0]? := by rw [hdrop]
      rw [List.getElem?_drop, List.getElem?_drop, Nat.add_zero, List.getElem?_eq_getElem hdl, List.getElem?_eq_getElem hdl2] at h5
      exact Option.some.inj h5
     have hnext : c.drop (d + 1) = l.drop (d + 1) := by
      rw [← List.drop_drop, ← List.drop_drop, hdrop]
     have htk : (l.take (d + 1)).filter q5b = (l.take d).filter q5b ++ [l[d]].filter q5b := by
      rw [List.take_succ_eq_append_getElem hdl2, List.filter_append]
     rw [if_pos hlt, j7 hdl, Option.bind_some, z5o, Option.bind_some, hcd]
     by_cases ck : l[d].Kind = 2
     ·rw [if_pos (decide_eq_true ck), H0, X0 (by omega) (by omega), Option.bind_some]
      refine .inl ⟨_, rfl, ⟨a, d + 1, rfl, by simp, by omega, by omega, hlen, ?_, hnext⟩, by simp only; omega⟩
      rw [htk, htake]
      have : [l[d]].filter q5b = [] := by simp [q5b, ck]
      rw [this, List.append_nil]
     ·have hal : a < c.length := by omega
      rw [if_neg (fun h => ck (of_decide_eq_true h)), j7 hal, Option.bind_some, X0 (by omega) (by omega), Option.bind_some, H0, X0 (by omega) (by omega), Option.bind_some]
      refine .inl ⟨_, rfl, ⟨a + 1, d + 1, by simp, by simp, by omega, by omega, by simp only [z6]; exact hlen, ?_, ?_⟩, by simp only; omega⟩
      ·simp only [F8]
       rw [htk, List.take_succ_eq_append_getElem (by rw [List.length_set]; exact hal), List.getElem_set_self, List.take_set_of_le (Nat.le_refl _), htake]
       have : [l[d]].filter q5b = [l[d]] := by simp [q5b, ck]
       rw [this]
      ·simp only [F8]
       rw [List.drop_set_of_lt (by omega)]
       exact hnext
    ·rw [if_neg hlt]
     have hdl : d = l.length := by omega
     refine .inr ⟨_, rfl, a, rfl, by omega, hlen, ?_⟩
     rw [htake, hdl, List.take_length]) ((i : Int), (i : Int) + 1, l) ⟨i, i + 1, rfl, by simp, by omega, by omega, rfl, by
    rw [List.take_succ_eq_append_getElem hi, List.filter_append, List.filter_eq_self.2 h2]
    have : [l[i]].filter q5b = [] := by simp [h3]
    rw [this, List.append_nil], rfl⟩
  obtain ⟨x, c⟩ := t
  obtain ⟨a, e1, ha, hlen, ht⟩ := h5
  simp only at e1 hlen ht
  subst e1
  rw [h4, H0, q9U (a := a) (b := c.length) (by omega) (Nat.le_refl _), Option.bind_some]
  have hcl := q9X c (a : Int) (⟨0, 0, 0, 0⟩ : ApiNeed)
  have := q9U (l := j0d c (a : Int) (⟨0, 0, 0, 0⟩ : ApiNeed)) (a := 0) (b := a) (by omega) (by omega)
  rw [show ((0 : Nat) : Int) = 0 from rfl] at this
  rw [this, Option.bind_some, List.drop_zero]
  congr 1
  unfold j0d
  rw [show ((a : Int)).toNat = a by omega, List.take_append_of_le_length (by simp; omega), List.take_take, Nat.min_self]
  exact ht
section
variable {n : ApiNet} {ro : List ApiRoute} {ne : List (List ApiNeed)} {bo bo' : List LockBody} {gt gt' : List LockGate} {mp : List (Int × Option Int)} {ar : List (Int × LockLocked)}
variable {a1 : List ByteArray} {a2 : List ApiSection} {a3 : List ApiLink} {a4 : List ApiSignal} {a5 : List ApiGate} {a6 : List ApiRoute} {a7 : List (List ApiNeed)} {a8 : List LockBody} {a9 : List LockGate} {b1 : List (Int × Option Int)} {b2 : List (Int × LockLocked)}
theorem z9D {ν : Type} {l : List (Int × ν)} {k : Int} (h : k ∉ l.map (·.1)) (v : ν) : F2 l k v = l ++ [(k, v)] := by
 induction l with
 | nil => rfl
 | cons p r ih =>
  obtain ⟨a, b⟩ := p
  simp only [List.map_cons, List.mem_cons, not_or] at h
  simp only [F2]
  rw [if_neg (fun e => h.1 e.symm), ih h.2]
  rfl
theorem z7u (h : Inv n ro ne bo gt mp ar) {k : Int} (hk : k ∉ mp.map (·.1)) : z2Y mp k = some () := by
 unfold z2Y
 rw [if_pos]
 rw [List.all_eq_true]
 intro p hp
 refine decide_eq_true fun e => hk ?_
 rw [(h.en p hp).1] at e
 rw [← Option.some.inj e]
 exact List.mem_map_of_mem hp
def z6q (f : Int) (x : LockLocked) : LockLocked := if x.Route.To = f then ⟨x.Route, x.needs, x.seen, x.gone, false, x.sight, x.leave, x.clock, x.number⟩ else x
theorem q6K {k : Int} {x : LockLocked} (h : LOk n ro ne k x) (f : Int) : LOk n ro ne k (z6q f x) ∧ (∀ a ∈ w8 (z6q f x), a ∈ w8 x) ∧ ∀ a ∈ w8 (z6q f x), ¬ (a.Kind = 2 ∧ x.Route.To = f) := by
 unfold z6q
 by_cases c : x.Route.To = f
 ·rw [if_pos c]
  refine ⟨⟨h.kr, h.route, h.num, h.seen, h.gone, h.sub, h.trk, h.len, h.g0, h.leave, h.clk.1, fun h => by cases h⟩, fun a ha => ?_, fun a ha hc => ?_⟩
  ·obtain ⟨ha, hb⟩ := q0M.1 ha
   refine q0M.2 ⟨ha, ?_⟩
   unfold q4q at hb ⊢
   by_cases c2 : a.Kind = 2
   ·rw [if_pos c2] at hb
    cases hb
   ·rw [if_neg c2] at hb ⊢
    exact hb
  ·obtain ⟨ha, hb⟩ := q0M.1 ha
   unfold q4q at hb
   rw [if_pos hc.1] at hb
   cases hb
 ·rw [if_neg c]
  exact ⟨h, fun a ha => ha, fun a ha hc => c hc.2⟩
theorem j1H (h : Inv n ro ne bo gt mp ar) (r : ApiRoute) : z3U (fun p => q4f (q0I r) p ar) mp = some (.inl (cells (fun _ => z6q r.From) mp ar)) :=
 z1q (g := fun _ => z6q r.From) (fun e he l' x h1 h2 => by
  unfold q0I
  rw [(h.en e he).1, Option.bind_some, h1, Option.bind_some]
  unfold z6q
  by_cases c : x.Route.To = r.From
  ·rw [if_pos c, if_pos c]
  ·rw [if_neg c, if_neg c, q9H l' h1]) h.some_ h.nd
theorem j1D {l : List ApiNeed} (hl : ∀ y ∈ l, y.Position ≠ 0 → 0 ≤ y.Place ∧ y.Place < (n.Sections.length : Int)) (hb : AllB n.Sections.length bo) : ∃ bo', q4M (G1 l) l.length 0 bo = some bo' ∧ AllB n.Sections.length bo' := by
 obtain ⟨s, h1, h2⟩ := Y0 (body := G1 l) (fun _ b => AllB n.Sections.length b) l.length 0 bo hb (fun j b _ hj hb => by
  have hj : j < l.length := by omega
  unfold G1
  rw [j7 hj, Option.bind_some]
  by_cases c : l[j].Position = 0
  ·rw [if_pos c]
   exact ⟨_, rfl, hb⟩
  ·obtain ⟨s, h3, h4⟩ := hb.get (hl _ (List.getElem_mem hj) c)
   rw [if_neg c, h3, Option.bind_some]
   have e1 : ∃ q, (if s.position ≠ l[j].Position then some (decide (s.moving = 0)) else some false) = some q := by split <;> exact ⟨_, rfl⟩
   obtain ⟨q, e1⟩ := e1
   rw [e1, Option.bind_some]
   split
   ·exact ⟨_, rfl, hb.put _ ⟨h4.1, ⟨by simp, by simp⟩, h4.2.2⟩⟩
   ·exact ⟨_, rfl, hb⟩)
 exact ⟨s, h1, h2⟩
theorem q9P {τ : Type} {body : Nat → Unit → Option (Unit ⊕ τ)} {t : τ} {m : Nat} (hb : ∀ j, j < m → body j () = some (.inl ()) ∨ body j () = some (.inr t)) : forM body m 0 () = some (.inl ()) ∨ forM body m 0 () = some (.inr t) := by
 rcases F7 (body := body) (fun _ _ => True) (fun v => v = t) m 0 () trivial (fun j s _ hj _ => by
  rcases hb j (by omega) with h | h
  ·exact .inl ⟨(), h, trivial⟩
  ·exact .inr ⟨t, h, rfl⟩) with ⟨s, h1, _⟩ | ⟨v, h1, h2⟩
 ·exact .inl h1
 ·exact .inr (by rw [h1, h2])
theorem z9f {l : List ApiNeed} (hl : ∀ y ∈ l, (y.Kind = 1 ∨ y.Kind = 2 ∨ y.Position ≠ 0) → 0 ≤ y.Place ∧ y.Place < (n.Sections.length : Int)) (hb : AllB n.Sections.length bo) (d : List LockGate) (e : List (Int × LockLocked)) (i : Bool) (g : List (Int × Option Int)) :
  (forM (G4 bo d e l g) l.length 0 () = some (.inl ()) ∨ forM (G4 bo d e l g) l.length 0 () = some (.inr (12, bo, d, g, e))) ∧
  (forM (G3 bo d e l g) l.length 0 () = some (.inl ()) ∨ forM (G3 bo d e l g) l.length 0 () = some (.inr (7, bo, d, g, e))) ∧
  (forM (G2 bo d e i l g) l.length 0 () = some (.inl ()) ∨ forM (G2 bo d e i l g) l.length 0 () = some (.inr (7, bo, d, g, e))) := by
 refine ⟨q9P fun j hj => ?_, q9P fun j hj => ?_, q9P fun j hj => ?_⟩
 ·unfold G4
  rw [j7 hj, Option.bind_some]
  by_cases c : 0 < l[j].Position
  ·obtain ⟨s, h3, _⟩ := hb.get (hl _ (List.getElem_mem hj) (.inr (.inr (by omega))))
   rw [if_pos c, h3, Option.bind_some, Option.bind_some]
   split
   ·exact .inr rfl
   ·exact .inl rfl
  ·rw [if_neg c, Option.bind_some, if_neg Bool.false_ne_true]
   exact .inl rfl
 ·unfold G3
  rw [j7 hj, Option.bind_some]
  by_cases c : l[j].Position = 0
  ·rw [if_pos c]
   exact .inl rfl
  ·obtain ⟨s, h3, _⟩ := hb.get (hl _ (List.getElem_mem hj) (.inr (.inr c)))
   rw [if_neg c, h3, Option.bind_some, z9z]
   rw [q4l, Option.bind_some]
   have e1 : ∀ (o : Bool) (A B : Prop) [Decidable A] [Decidable B] (C : Bool), ∃ q, (if o = true then (if A then some true else if B then some true else if B then some C else some false) else if B then some C else some false) = some q := fun o A B _ _ C => by
    repeat (first | exact ⟨_, rfl⟩ | split)
   obtain ⟨q, e1⟩ := e1 (decide (0 < s.axles) || s.disturbed) (s.position ≠ l[j].Position) (0 < s.moving) (decide (s.position = l[j].Position))
   rw [e1, Option.bind_some]
   split
   ·exact .inr rfl
   ·exact .inl rfl
 ·unfold G2
  rw [j7 hj, Option.bind_some]
  have e1 : ∃ q, (if i = true then some false else if l[j].Kind = 1 then ((idx bo l[j].Place).bind fun j => (k9 j).bind fun k => some k) else if l[j].Kind = 2 then ((idx bo l[j].Place).bind fun l => (k9 l).bind fun m => some m) else some false) = some q := by
   split
   ·exact ⟨_, rfl⟩
   ·split
    ·rename_i c
     obtain ⟨s, h3, _⟩ := hb.get (hl _ (List.getElem_mem hj) (.inl c))
     rw [h3, Option.bind_some, q4l]
     exact ⟨_, rfl⟩
    ·split
     ·rename_i c
      obtain ⟨s, h3, _⟩ := hb.get (hl _ (List.getElem_mem hj) (.inr (.inl c)))
      rw [h3, Option.bind_some, q4l]
      exact ⟨_, rfl⟩
     ·exact ⟨_, rfl⟩
  obtain ⟨q, e1⟩ := e1
  rw [e1, Option.bind_some]
  split
  ·exact .inr rfl
  ·exact .inl rfl
end
section
variable {n : ApiNet} {ro : List ApiRoute} {ne : List (List ApiNeed)} {bo bo' : List LockBody} {gt gt' : List LockGate} {mp : List (Int × Option Int)} {ar : List (Int × LockLocked)}
variable {a1 : List ByteArray} {a2 : List ApiSection} {a3 : List ApiLink} {a4 : List ApiSignal} {a5 : List ApiGate} {a6 : List ApiRoute} {a7 : List (List ApiNeed)} {a8 : List LockBody} {a9 : List LockGate} {b1 : List (Int × Option Int)} {b2 : List (Int × LockLocked)}
theorem z4l (F : Fix n ro ne) {k : Int} (hk : 0 ≤ k ∧ k < (ro.length : Int)) {l : List ApiNeed} (hl : ∀ y ∈ l, y ∈ neK ne k) : ∀ y ∈ l, (y.Kind = 1 ∨ y.Kind = 2 ∨ y.Position ≠ 0) → 0 ≤ y.Place ∧ y.Place < (n.Sections.length : Int) := fun y hy => ((F.nq hk).1 y (hl y hy)).place
def z6H (ro : List ApiRoute) (k : Int) (l : List ApiNeed) (i : Bool) : LockLocked := ⟨roK ro k, l, List.replicate (roK ro k).Steps.length false, List.replicate (roK ro k).Steps.length false, !i, i, 0, 0, k⟩
theorem j1B (F : Fix n ro ne) {k : Int} (hk : 0 ≤ k ∧ k < (ro.length : Int)) {l : List ApiNeed} (hl : ∀ y ∈ l, y ∈ neK ne k) (ht : ∀ y ∈ neK ne k, y.Kind ≠ 2 → y ∈ l) (hlen : l.length * 32 ≤ 140737488355328) (i : Bool) : LOk n ro ne k (z6H ro k l i) :=
 ⟨hk, rfl, rfl, by simp [z6H], by simp [z6H], hl, ht, hlen, fun j hj => (by
  have hj : (List.replicate (roK ro k).Steps.length false)[j]? = some true := hj
  rw [List.getElem?_replicate] at hj
  split at hj <;> cases hj), ⟨by simp [z6H], by simp [z6H]⟩, ⟨by simp [z6H], fun _ => by simp [z6H]⟩⟩
theorem Inv.add (F : Fix n ro ne) (h : Inv n ro ne bo gt mp ar) {k : Int} (hk : 0 ≤ k ∧ k < (ro.length : Int)) (hnew : k ∉ mp.map (·.1)) {l : List ApiNeed} (hl : ∀ y ∈ l, y ∈ neK ne k) (ht : ∀ y ∈ neK ne k, y.Kind ≠ 2 → y ∈ l) (hlen : l.length * 32 ≤ 140737488355328) (i : Bool)
  (hc : ∀ e ∈ mp, ∀ x, Q7 ar e.1 = some x → ∀ y ∈ w8 x, ¬ (y.Kind = 2 ∧ x.Route.To = (roK ro k).From) → ∀ a ∈ l, ¬ q9n a y) :
  Inv n ro ne bo gt (F2 mp k (some k)) (F2 (cells (fun _ => z6q (roK ro k).From) mp ar) k (z6H ro k l i)) := by
 have hm := z9D hnew (some k)
 have hne : ∀ e ∈ mp, e.1 ≠ k := fun e he hh => hnew (hh ▸ List.mem_map_of_mem he)
 have hX := j1B F hk hl ht hlen i
 have hold : ∀ e ∈ mp, ∃ x, Q7 ar e.1 = some x ∧ LOk n ro ne e.1 x ∧ Q7 (F2 (cells (fun _ => z6q (roK ro k).From) mp ar) k (z6H ro k l i)) e.1 = some (z6q (roK ro k).From x) := fun e he => by
  obtain ⟨_, x, h1, h2⟩ := h.en e he
  refine ⟨x, h1, h2, ?_⟩
  rw [Q0 _ _ (hne e he), q7u _ mp ar e.1 h.nd, h1]
  show some (if _ then _ else _) = _
  rw [if_pos (List.mem_map_of_mem he)]
 have hheld : ∀ a ∈ w8 (z6H ro k l i), a ∈ l := fun a ha => (q0M.1 ha).1
 refine ⟨h.bl, h.bb, h.gl, h.gb, ?_, fun p hp => ?_, fun p hp q hq hpq x y hx hy a ha b hb hmeet => ?_⟩
 ·rw [hm, List.map_append, List.nodup_append]
  refine ⟨h.nd, by simp, fun a ha b hb => ?_⟩
  have hb : b = k := by simpa using hb
  rw [hb]
  exact fun e => hnew (e ▸ ha)
 ·rw [hm] at hp
  rcases List.mem_append.1 hp with hp | hp
  ·obtain ⟨x, _, h2, h3⟩ := hold p hp
   exact ⟨(h.en p hp).1, _, h3, (q6K h2 _).1⟩
  ·rw [List.mem_singleton.1 hp]
   exact ⟨rfl, _, Z5 _ _ _, hX⟩
 ·rw [hm] at hp hq
  rcases List.mem_append.1 hp with hp | hp
  ·obtain ⟨x0, p1, p2, p3⟩ := hold p hp
   rw [p3] at hx
   rw [← Option.some.inj hx] at ha
   rcases List.mem_append.1 hq with hq | hq
   ·obtain ⟨y0, q1, q2, q3⟩ := hold q hq
    rw [q3] at hy
    rw [← Option.some.inj hy] at hb
    exact h.ap p hp q hq hpq x0 y0 p1 q1 a ((q6K p2 _).2.1 a ha) b ((q6K q2 _).2.1 b hb) hmeet
   ·rw [List.mem_singleton.1 hq] at hy
    have hy : Q7 (F2 (cells (fun _ => z6q (roK ro k).From) mp ar) k (z6H ro k l i)) k = some y := hy
    rw [Z5] at hy
    rw [← Option.some.inj hy] at hb
    exact hc p hp x0 p1 a ((q6K p2 _).2.1 a ha) ((q6K p2 _).2.2 a ha) b (hheld b hb) (z9E hmeet)
  ·rw [List.mem_singleton.1 hp] at hx hpq
   have hx : Q7 (F2 (cells (fun _ => z6q (roK ro k).From) mp ar) k (z6H ro k l i)) k = some x := hx
   rw [Z5] at hx
   rw [← Option.some.inj hx] at ha
   rcases List.mem_append.1 hq with hq | hq
   ·obtain ⟨y0, q1, q2, q3⟩ := hold q hq
    rw [q3] at hy
    rw [← Option.some.inj hy] at hb
    exact hc q hq y0 q1 b ((q6K q2 _).2.1 b hb) ((q6K q2 _).2.2 b hb) a (hheld a ha) hmeet
   ·rw [List.mem_singleton.1 hq] at hpq
    exact absurd rfl hpq
theorem j1F (F : Fix n ro ne) (h : Inv n ro ne bo gt mp ar) (k : Int) (i : Bool) :
  ∃ r bo' gt' mp' ar', q2Z k i a1 n.Sections a3 a4 n.Gates ro ne bo gt mp ar = some (r, bo', gt', mp', ar') ∧ Inv n ro ne bo' gt' mp' ar' := by
 have hb := h.B
 unfold q2Z
 rw [q5d, Option.bind_some]
 by_cases hk : 0 ≤ k ∧ k < (ro.length : Int)
 ·rw [decide_eq_true hk, if_pos rfl, Option.bind_some]
  rcases h.look k with ⟨h1, hnew⟩ | ⟨h1, _⟩
  ·have hlen := (F.nq hk).2.2
   rw [h1, if_pos (show (none : Option Int).isNone = true from rfl), F.idxN hk, Option.bind_some]
   unfold q2M
   rw [q1u (by omega) (by omega), Option.bind_some, Option.bind_some]
   have hd : ∃ l, (if i = true then (H1 (neK ne k)).bind fun c => some c else some (neK ne k)) = some l ∧ (∀ y ∈ l, y ∈ neK ne k) ∧ (∀ y ∈ neK ne k, y.Kind ≠ 2 → y ∈ l) ∧ l.length * 32 ≤ 140737488355328 := by
    split
    ·rw [z8a _ hlen]
     refine ⟨_, rfl, fun y hy => (List.mem_filter.1 hy).1, fun y hy hk => List.mem_filter.2 ⟨hy, decide_eq_true hk⟩, ?_⟩
     have := List.length_filter_le q5b (neK ne k)
     omega
    ·exact ⟨_, rfl, fun y hy => hy, fun y hy _ => hy, hlen⟩
   obtain ⟨l, hd, hl, ht, hll⟩ := hd
   rw [hd, Option.bind_some]
   obtain ⟨b, h2, h3⟩ := z6y F h a1 n.Sections a3 a4 n.Gates ne bo gt hk l
   rw [h2, H0]
   cases b with
   | true =>
    rw [if_pos rfl]
    exact ⟨_, _, _, _, _, rfl, h⟩
   | false =>
    have hpl := z4l F hk hl
    obtain ⟨t1, t2, t3⟩ := z9f (n := n) hpl hb gt ar i mp
    rw [if_neg Bool.false_ne_true]
    rcases t1 with t1 | t1
    ·rw [t1, Option.bind_some, Sum.elim_inl]
     rcases t2 with t2 | t2
     ·rw [t2, Option.bind_some, Sum.elim_inl]
      rcases t3 with t3 | t3
      ·have hsl := (F.rok hk).way.many
       rw [t3, Option.bind_some, Sum.elim_inl, F.idxR hk, Option.bind_some, j1H h (roK ro k), Option.bind_some, Sum.elim_inl, H0, q9f (by omega) (by omega), Option.bind_some, Option.bind_some, z7u h hnew, Option.bind_some, z6c]
       obtain ⟨bo', m1, m2⟩ := j1D (n := n) (fun y hy hp => hpl y hy (.inr (.inr hp))) hb
       have hI := (h.add F hk hnew hl ht hll i (h3 rfl)).toB m2
       obtain ⟨gt', w1, w2, w3⟩ := z1K F hI a1 n.Sections a3 a4 ro ne bo'
       rw [m1, Option.bind_some]
       have w1 : P9 a1 n.Sections a3 a4 n.Gates ro ne bo' gt (F2 mp k (some k)) (F2 (cells (fun _ => z6q (roK ro k).From) mp ar) k ⟨roK ro k, l, List.replicate (roK ro k).Steps.length false, List.replicate (roK ro k).Steps.length false, !i, i, 0, 0, k⟩) = some (gt', F2 mp k (some k)) := w1
       rw [w1, H0]
       exact ⟨_, _, _, _, _, rfl, hI.gates w2 w3⟩
      ·rw [t3, Option.bind_some, Sum.elim_inr]
       exact ⟨_, _, _, _, _, rfl, h⟩
     ·rw [t2, Option.bind_some, Sum.elim_inr]
      exact ⟨_, _, _, _, _, rfl, h⟩
    ·rw [t1, Option.bind_some, Sum.elim_inr]
     exact ⟨_, _, _, _, _, rfl, h⟩
  ·rw [h1, if_neg (by simp)]
   exact ⟨_, _, _, _, _, rfl, h⟩
 ·rw [decide_eq_false hk, if_neg Bool.false_ne_true]
  exact ⟨_, _, _, _, _, rfl, h⟩
theorem z2f {ν : Type} : ∀ (l : List (Int × ν)) (k : Int), (z3V l k).Sublist l
 | [], _ => .slnil
 | (a, b) :: r, k => by
  simp only [z3V]
  split
  ·exact List.sublist_cons_self _ _
  ·exact List.Sublist.cons_cons _ (z2f r k)
theorem Inv.del (h : Inv n ro ne bo gt mp ar) (k : Int) : Inv n ro ne bo gt (z3V mp k) ar :=
 h.less (fun p hp => (z2f mp k).subset hp) ((z2f mp k).map _ |>.nodup h.nd) fun p _ x h1 h2 => ⟨x, h1, h2, fun a ha => ha⟩
theorem Inv.put (h : Inv n ro ne bo gt mp ar) {k : Int} {x x' : LockLocked} (hx : Q7 ar k = some x) (h1 : LOk n ro ne k x → LOk n ro ne k x') (h2 : ∀ a ∈ w8 x', a ∈ w8 x) : Inv n ro ne bo gt mp (F2 ar k x') :=
 h.less (fun p hp => hp) h.nd fun p hp y h3 h4 => by
  by_cases c : p.1 = k
  ·rw [c] at h3 h4 ⊢
   rw [hx] at h3
   rw [← Option.some.inj h3] at h4 ⊢
   exact ⟨x', Z5 _ _ _, h1 h4, h2⟩
  ·exact ⟨y, by rw [Q0 _ _ c]; exact h3, h4, fun a ha => ha⟩
theorem z8g (F : Fix n ro ne) (h : Inv n ro ne bo gt mp ar) (k : Int) :
  ∃ r gt' mp' ar', q1E k a1 n.Sections a3 n.Signals n.Gates ro ne bo gt mp ar = some (r, gt', mp', ar') ∧ Inv n ro ne bo gt' mp' ar' := by
 have hb := h.B
 unfold q1E
 rw [q5d, Option.bind_some]
 by_cases hk : 0 ≤ k ∧ k < (ro.length : Int)
 ·rw [decide_eq_true hk, if_pos rfl, Option.bind_some]
  rcases h.look k with ⟨h1, hnew⟩ | ⟨h1, hmem, x, hx, kx⟩
  ·rw [h1, if_pos (show (none : Option Int).isNone = true from rfl), H0, if_pos rfl]
   exact ⟨_, _, _, _, rfl, h⟩
  ·obtain ⟨b, hb1, hb2⟩ := kx.seen0 F
   rw [h1, if_neg (by simp), Option.bind_some, hx, Option.bind_some, hb1, Option.bind_some]
   have e1 : ∃ q, (if b = true then some (some k, true) else some (some k, decide (0 < x.leave))) = some (some k, q) := by split <;> exact ⟨_, rfl⟩
   obtain ⟨q, e1⟩ := e1
   rw [e1, H0]
   split
   ·exact ⟨_, _, _, _, rfl, h⟩
   ·have hf := (F.rok hk).from_
    rw [← kx.route] at hf
    have hsig := j1q F.net hf
    obtain ⟨s, s1, s2⟩ := hb.get hsig.1
    rw [Option.bind_some, hx, Option.bind_some, q9M hf, Option.bind_some, s1, Option.bind_some, q4l, Option.bind_some]
    split
    ·have hI := h.put (x' := ⟨x.Route, x.needs, x.seen, x.gone, x.laps, x.sight, 90, x.clock, x.number⟩) hx (fun kx => ⟨kx.kr, kx.route, kx.num, kx.seen, kx.gone, kx.sub, kx.trk, kx.len, kx.g0, ⟨by simp, by simp⟩, kx.clk⟩) (fun a ha => ha)
     obtain ⟨gt', w1, w2, w3⟩ := z1K F hI a1 n.Sections a3 n.Signals ro ne bo
     rw [H0, w1, H0]
     exact ⟨_, _, _, _, rfl, hI.gates w2 w3⟩
    ·have hI := h.del k
     obtain ⟨gt', w1, w2, w3⟩ := z1K F hI a1 n.Sections a3 n.Signals ro ne bo
     rw [H0, w1, H0]
     exact ⟨_, _, _, _, rfl, hI.gates w2 w3⟩
 ·rw [decide_eq_false hk, if_neg Bool.false_ne_true]
  exact ⟨_, _, _, _, rfl, h⟩
end
end Go.Proofs.YtdbehipjelcmbaaGreatDoor
