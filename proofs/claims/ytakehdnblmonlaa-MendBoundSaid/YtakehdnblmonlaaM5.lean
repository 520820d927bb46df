/- Plain facts on the queue: what stays true, that it ends, what it computes. -/
import Derived.Test.YtakehdnblmonlaaM4
namespace Go.Proofs.Ytakehdnblmonlaa
open Go.RowKit Go.Fp

/-- Outs with further arcs: each at its node. -/
def addOuts (outs : List (List Arc)) (l : List Arc) : List (List Arc) := l.foldl (fun o a => o.set a.fr.toNat (o.getD a.fr.toNat [] ++ [a])) outs
def tries (last : List Int) (l : List Arc) (q : Qs) : Qs := l.foldl (fun q a => tryQ last a q) q
def mostL (l : List Arc) : Int := l.foldl (fun m a => max m a.len) 0
def boundV (T : List Int) (outs : List (List Arc)) : Int := outs.foldl (fun n l => n + mostL l) (T.foldl max 0)
def BIG : Nat := 1572864
def sumN (l : List Int) : Nat := (l.map Int.toNat).sum
def mu (q : Qs) : Nat := if q.ok then 2 * (BIG - sumN q.R) + q.Q.length + 1 else 0
def stepQ (last : List Int) (outs : List (List Arc)) (q : Qs) : Qs := match q.Q with
  | [] => q
  | x :: r => tries last (outs.getD x.toNat []) { q with W := q.W.set x.toNat false, Q := r }
def loopQ (last : List Int) (outs : List (List Arc)) (bd : Int) : Nat → Qs → Option Qs
  | 0, q => some q
  | f + 1, q => match q.Q with
    | [] => some q
    | x :: _ => if q.ok = false then some q else if bd < q.T.getD x.toNat 0 then none else loopQ last outs bd f (stepQ last outs q)
def runQ (last : List Int) (outs : List (List Arc)) (bd : Int) (q : Qs) : Option Qs := loopQ last outs bd (mu q + 1) q
/-- The solver's own state: seconds and arcs. -/
structure Sv where
  T : List Int
  outs : List (List Arc)
def q0 (T : List Int) : Qs := { T := T, R := List.replicate T.length 0, W := List.replicate T.length false, ok := true, Q := [] }
def withF (last : List Int) (s : Sv) (l : List Arc) : Option Sv :=
  match runQ last (addOuts s.outs l) (boundV (tries last l (q0 s.T)).T (addOuts s.outs l)) (tries last l (q0 s.T)) with
  | none => none
  | some q => if q.ok then some { T := q.T, outs := addOuts s.outs l } else none

/- what stays true -/
structure QI (N c : Nat) (q : Qs) : Prop where
  nT : q.T.length = N
  nR : q.R.length = N
  nW : q.W.length = N
  T0 : ∀ x ∈ q.T, 0 ≤ x
  T1 : ∀ x ∈ q.T, x ≤ 1099511627776 + 28800 * (c : Int)
  R0 : ∀ x ∈ q.R, 0 ≤ x
  R1 : ∀ x ∈ q.R, x ≤ 65536 + (c : Int)
  nQ : q.Q.length ≤ sumN q.R
  Q0 : ∀ x ∈ q.Q, 0 ≤ x ∧ x < (N : Int)
  okT : q.ok = true → ∀ x ∈ q.T, x ≤ 1099511627776
  okR : q.ok = true → ∀ x ∈ q.R, x ≤ 65536

theorem mem_set_or {α : Type} {l : List α} {k : Nat} {x y : α} (h : y ∈ l.set k x) : y = x ∨ y ∈ l := by
  rcases List.mem_or_eq_of_mem_set h with h | h
  · exact .inr h
  · exact .inl h
theorem sumN_set {l : List Int} {k : Nat} {x : Int} (h : l[k]? = some x) (hx : 0 ≤ x) : sumN (l.set k (x + 1)) = sumN l + 1 := by
  induction l generalizing k with
  | nil => simp at h
  | cons y r ih =>
    cases k with
    | zero =>
      have : y = x := by simpa using h
      subst this
      simp [sumN]
      omega
    | succ k =>
      have := ih (k := k) (by simpa using h)
      simp only [sumN, List.set_cons_succ, List.map_cons, List.sum_cons] at this ⊢
      omega
theorem sumN_le {l : List Int} {B : Nat} (h : ∀ x ∈ l, x ≤ (B : Int)) : sumN l ≤ l.length * B := by
  induction l with
  | nil => simp [sumN]
  | cons y r ih =>
    have h1 := ih (fun x hx => h x (by simp [hx]))
    have h2 := h y (by simp)
    simp only [sumN, List.map_cons, List.sum_cons, List.length_cons, Nat.add_mul] at h1 ⊢
    omega
theorem QI.more {N c : Nat} {q : Qs} (h : QI N c q) : QI N (c + 1) q :=
  ⟨h.nT, h.nR, h.nW, h.T0, fun x hx => by have := h.T1 x hx; omega, h.R0, fun x hx => by have := h.R1 x hx; omega, h.nQ, h.Q0, h.okT, h.okR⟩
theorem QI.get {N c : Nat} {q : Qs} (h : QI N c q) {j : Nat} (hj : j < N) : ∃ (t r : Int) (b : Bool), q.T[j]? = some t ∧ q.R[j]? = some r ∧ q.W[j]? = some b := by
  obtain ⟨t, ht⟩ := ex_get (l := q.T) (k := j) (by rw [h.nT]; exact hj)
  obtain ⟨r, hr⟩ := ex_get (l := q.R) (k := j) (by rw [h.nR]; exact hj)
  obtain ⟨b, hb⟩ := ex_get (l := q.W) (k := j) (by rw [h.nW]; exact hj)
  exact ⟨t, r, b, ht, hr, hb⟩
theorem nat_of {x : Int} (h : 0 ≤ x) : ∃ j : Nat, x = (j : Int) := Int.eq_ofNat_of_zero_le h
theorem tryQ_inv {N c : Nat} {last : List Int} {a : Arc} {q : Qs} (h : QI N c q) (ha : ArcV N a) (hl : last.length = N) : QI N (c + 1) (tryQ last a q) := by
  obtain ⟨f, hf⟩ := nat_of ha.fr0
  obtain ⟨t, ht⟩ := nat_of ha.to0
  have hfN : f < N := by have := ha.fr1; omega
  have htN : t < N := by have := ha.to1; omega
  obtain ⟨tf, _, _, h1, _, _⟩ := h.get hfN
  obtain ⟨tt, rt, wt, h2, h3, h4⟩ := h.get htN
  obtain ⟨la, h5⟩ := ex_get (l := last) (k := t) (by omega)
  by_cases hlow : tf + a.len ≤ tt
  · rw [tryQ_low hf ht h1 h2 hlow]; exact h.more
  · rw [tryQ_up hf ht h1 h2 h3 h4 h5 hlow]
    have hlo := ha.lo
    have hhi := ha.hi
    have tf1 := h.T1 tf (mem_of_get h1)
    have tt0 := h.T0 tt (mem_of_get h2)
    have rt0 := h.R0 rt (mem_of_get h3)
    have rt1 := h.R1 rt (mem_of_get h3)
    have hs := sumN_set h3 rt0
    refine ⟨by simp [h.nT], by simp [h.nR], by simp only; split <;> simp [h.nW], fun x hx => ?_, fun x hx => ?_, fun x hx => ?_, fun x hx => ?_, ?_, fun x hx => ?_, fun hok x hx => ?_, fun hok x hx => ?_⟩
    · rcases mem_set_or hx with rfl | hx
      · omega
      · exact h.T0 x hx
    · rcases mem_set_or hx with rfl | hx
      · omega
      · have := h.T1 x hx; omega
    · rcases mem_set_or hx with rfl | hx
      · omega
      · exact h.R0 x hx
    · rcases mem_set_or hx with rfl | hx
      · omega
      · have := h.R1 x hx; omega
    · have := h.nQ
      simp only
      rw [hs]
      split
      · omega
      · rw [List.length_append]; simp; omega
    · simp only at hx
      split at hx
      · exact h.Q0 x hx
      · rcases List.mem_append.1 hx with hx | hx
        · exact h.Q0 x hx
        · simp at hx; subst hx; exact ⟨ha.to0, ha.to1⟩
    · simp only [Bool.and_eq_true, decide_eq_true_eq] at hok
      rcases mem_set_or hx with rfl | hx
      · omega
      · exact h.okT hok.1.1.1 x hx
    · simp only [Bool.and_eq_true, decide_eq_true_eq] at hok
      rcases mem_set_or hx with rfl | hx
      · omega
      · exact h.okR hok.1.1.1 x hx
theorem QI.zero {N c : Nat} {q : Qs} (h : QI N c q) (hok : q.ok = true) : QI N 0 q :=
  ⟨h.nT, h.nR, h.nW, h.T0, fun x hx => by have := h.okT hok x hx; omega, h.R0, fun x hx => by have := h.okR hok x hx; omega, h.nQ, h.Q0, h.okT, h.okR⟩
theorem tryQ_ok {last : List Int} {a : Arc} {q : Qs} (h : (tryQ last a q).ok = true) : q.ok = true := by
  unfold tryQ at h
  split at h
  · exact h
  · simp only [Bool.and_eq_true] at h; exact h.1.1.1
theorem tries_ok {last : List Int} {l : List Arc} {q : Qs} (h : (tries last l q).ok = true) : q.ok = true := by
  induction l generalizing q with
  | nil => exact h
  | cons a r ih => exact tryQ_ok (ih h)
theorem tries_inv {N c : Nat} {last : List Int} {l : List Arc} {q : Qs} (h : QI N c q) (ha : ∀ a ∈ l, ArcV N a) (hl : last.length = N) : QI N (c + l.length) (tries last l q) := by
  induction l generalizing q c with
  | nil => exact h
  | cons a r ih =>
    have h1 := ih (tryQ_inv h (ha a (by simp)) hl) (fun x hx => ha x (by simp [hx]))
    have : c + (a :: r).length = c + 1 + r.length := by simp; omega
    rw [this]
    exact h1
theorem tries_snoc {last : List Int} {l : List Arc} {q : Qs} {k : Nat} {a : Arc} (h : l[k]? = some a) : tries last (l.take (k + 1)) q = tryQ last a (tries last (l.take k) q) := by
  unfold tries
  rw [take_snoc h, List.foldl_append]; rfl
/-- While all stays well, each try lowers 'twice what is left, and the queue' or leaves it. -/
theorem tryQ_mu {N c : Nat} {last : List Int} {a : Arc} {q : Qs} (h : QI N c q) (ha : ArcV N a) (hl : last.length = N) (hN : N ≤ 24) (hok : (tryQ last a q).ok = true) : mu (tryQ last a q) ≤ mu q := by
  obtain ⟨f, hf⟩ := nat_of ha.fr0
  obtain ⟨t, ht⟩ := nat_of ha.to0
  have hfN : f < N := by have := ha.fr1; omega
  have htN : t < N := by have := ha.to1; omega
  obtain ⟨tf, _, _, h1, _, _⟩ := h.get hfN
  obtain ⟨tt, rt, wt, h2, h3, h4⟩ := h.get htN
  obtain ⟨la, h5⟩ := ex_get (l := last) (k := t) (by omega)
  by_cases hlow : tf + a.len ≤ tt
  · rw [tryQ_low hf ht h1 h2 hlow]; exact Nat.le_refl _
  · have hok0 := tryQ_ok hok
    have hi' := tryQ_inv h ha hl
    have hR1 := hi'.okR hok
    have hsum : sumN (tryQ last a q).R ≤ BIG := by
      have h6 := sumN_le (l := (tryQ last a q).R) (B := 65536) (fun x hx => by have := hR1 x hx; omega)
      rw [hi'.nR] at h6
      unfold BIG
      omega
    have rt0 := h.R0 rt (mem_of_get h3)
    have hs := sumN_set h3 rt0
    unfold mu
    rw [if_pos hok, if_pos hok0]
    rw [tryQ_up hf ht h1 h2 h3 h4 h5 hlow] at hsum ⊢
    simp only at hsum ⊢
    rw [hs] at hsum ⊢
    split
    · omega
    · rw [List.length_append]; simp; omega
theorem tries_mu {N c : Nat} {last : List Int} {l : List Arc} {q : Qs} (h : QI N c q) (ha : ∀ a ∈ l, ArcV N a) (hl : last.length = N) (hN : N ≤ 24) (hok : (tries last l q).ok = true) : mu (tries last l q) ≤ mu q := by
  induction l generalizing q c with
  | nil => exact Nat.le_refl _
  | cons a r ih =>
    have hok1 : (tryQ last a q).ok = true := tries_ok (l := r) hok
    have h1 := ih (tryQ_inv h (ha a (by simp)) hl) (fun x hx => ha x (by simp [hx])) hok
    exact Nat.le_trans h1 (tryQ_mu h (ha a (by simp)) hl hN hok1)
def OutsV (N : Nat) (outs : List (List Arc)) : Prop := outs.length = N ∧ ∀ l ∈ outs, ∀ a ∈ l, ArcV N a
theorem pop_inv {N c : Nat} {q : Qs} {x : Int} {r : List Int} {j : Nat} (h : QI N c q) (hQ : q.Q = x :: r) : QI N c { q with W := q.W.set j false, Q := r } :=
  ⟨h.nT, h.nR, by simp [h.nW], h.T0, h.T1, h.R0, h.R1, by have := h.nQ; rw [hQ] at this; simp at this ⊢; omega, fun y hy => h.Q0 y (by rw [hQ]; simp [hy]), h.okT, h.okR⟩
theorem outs_get {N : Nat} {outs : List (List Arc)} (ho : OutsV N outs) (k : Nat) : ∀ a ∈ outs.getD k [], ArcV N a := by
  intro a ha
  rw [List.getD_eq_getElem?_getD] at ha
  cases hk : outs[k]? with
  | none => rw [hk] at ha; simp at ha
  | some l => rw [hk] at ha; exact ho.2 l (mem_of_get hk) a ha
theorem step_inv {N c : Nat} {last : List Int} {outs : List (List Arc)} {q : Qs} (h : QI N c q) (ho : OutsV N outs) (hl : last.length = N) : ∃ c', QI N c' (stepQ last outs q) := by
  unfold stepQ
  split
  · exact ⟨c, h⟩
  · rename_i x r hQ
    exact ⟨_, tries_inv (pop_inv h hQ) (outs_get ho _) hl⟩
theorem step_mu {N c : Nat} {last : List Int} {outs : List (List Arc)} {q : Qs} {x : Int} {r : List Int} (h : QI N c q) (ho : OutsV N outs) (hl : last.length = N) (hN : N ≤ 24) (hQ : q.Q = x :: r) (hok : q.ok = true) : mu (stepQ last outs q) < mu q := by
  have hst : stepQ last outs q = tries last (outs.getD x.toNat []) { q with W := q.W.set x.toNat false, Q := r } := by unfold stepQ; rw [hQ]
  have hpop := pop_inv (j := x.toNat) h hQ
  have hmu : mu { q with W := q.W.set x.toNat false, Q := r } < mu q := by
    unfold mu
    simp only [hok, if_true]
    rw [hQ]
    simp
  rw [hst]
  by_cases hok1 : (tries last (outs.getD x.toNat []) { q with W := q.W.set x.toNat false, Q := r }).ok = true
  · exact Nat.lt_of_le_of_lt (tries_mu hpop (outs_get ho _) hl hN hok1) hmu
  · have h0 : mu (tries last (outs.getD x.toNat []) { q with W := q.W.set x.toNat false, Q := r }) = 0 := by unfold mu; rw [if_neg hok1]
    rw [h0]
    omega
theorem loopQ_fuel {N : Nat} {last : List Int} {outs : List (List Arc)} {bd : Int} (ho : OutsV N outs) (hl : last.length = N) (hN : N ≤ 24) : ∀ (f g c : Nat) (q : Qs), QI N c q → mu q < f → mu q < g → loopQ last outs bd f q = loopQ last outs bd g q := by
  intro f
  induction f with
  | zero => intro g c q _ h; omega
  | succ f ih =>
    intro g c q hq hf hg
    cases g with
    | zero => omega
    | succ g =>
      simp only [loopQ]
      cases hQ : q.Q with
      | nil => rfl
      | cons x r =>
        simp only
        by_cases hok : q.ok = false
        · simp [hok]
        · rw [if_neg hok, if_neg hok]
          have hok' : q.ok = true := by simpa using hok
          have hmu := step_mu hq ho hl hN hQ hok'
          obtain ⟨c', hc'⟩ := step_inv hq ho hl
          split
          · rfl
          · exact ih g c' _ hc' (by omega) (by omega)
theorem runQ_step {N c : Nat} {last : List Int} {outs : List (List Arc)} {bd : Int} {q : Qs} {x : Int} {r : List Int} (h : QI N c q) (ho : OutsV N outs) (hl : last.length = N) (hN : N ≤ 24) (hQ : q.Q = x :: r) (hok : q.ok = true) (hb : ¬ bd < q.T.getD x.toNat 0) :
    runQ last outs bd q = runQ last outs bd (stepQ last outs q) := by
  have hmu := step_mu h ho hl hN hQ hok
  obtain ⟨c', hc'⟩ := step_inv h ho hl
  unfold runQ
  rw [loopQ]
  simp only [hQ]
  rw [if_neg (by simp [hok]), if_neg hb]
  exact loopQ_fuel ho hl hN _ _ c' _ hc' hmu (by omega)
theorem runQ_high {last : List Int} {outs : List (List Arc)} {bd : Int} {q : Qs} {x : Int} {r : List Int} (hQ : q.Q = x :: r) (hok : q.ok = true) (hb : bd < q.T.getD x.toNat 0) : runQ last outs bd q = none := by
  unfold runQ
  rw [loopQ]
  simp only [hQ]
  rw [if_neg (by simp [hok]), if_pos hb]
theorem runQ_end {last : List Int} {outs : List (List Arc)} {bd : Int} {q : Qs} (h : q.Q = [] ∨ q.ok = false) : runQ last outs bd q = some q := by
  unfold runQ
  rw [loopQ]
  cases hQ : q.Q with
  | nil => rfl
  | cons x r =>
    rcases h with h | h
    · rw [hQ] at h; cases h
    · simp [h]
theorem addOuts_snoc {outs : List (List Arc)} {l : List Arc} {k : Nat} {a : Arc} (h : l[k]? = some a) : addOuts outs (l.take (k + 1)) = (addOuts outs (l.take k)).set a.fr.toNat ((addOuts outs (l.take k)).getD a.fr.toNat [] ++ [a]) := by
  unfold addOuts
  rw [take_snoc h, List.foldl_append]; rfl
theorem addOuts_length {outs : List (List Arc)} {l : List Arc} : (addOuts outs l).length = outs.length := by
  unfold addOuts
  induction l generalizing outs with
  | nil => rfl
  | cons a r ih => rw [List.foldl_cons, ih]; simp
theorem addOuts_v {N : Nat} {outs : List (List Arc)} {l : List Arc} (h : OutsV N outs) (ha : ∀ a ∈ l, ArcV N a) : OutsV N (addOuts outs l) := by
  unfold addOuts
  induction l generalizing outs with
  | nil => exact h
  | cons a r ih =>
    rw [List.foldl_cons]
    refine ih ⟨by simp [h.1], fun l' hl' a' ha' => ?_⟩ (fun x hx => ha x (by simp [hx]))
    rcases mem_set_or hl' with rfl | hl'
    · rcases List.mem_append.1 ha' with ha' | ha'
      · exact outs_get h _ a' ha'
      · simp at ha'; subst ha'; exact ha _ (by simp)
    · exact h.2 l' hl' a' ha'
theorem q0_inv {N : Nat} {T : List Int} (hT : T.length = N) (h0 : ∀ x ∈ T, 0 ≤ x ∧ x ≤ 1099511627776) : QI N 0 (q0 T) := by
  refine ⟨hT, by simp [q0, hT], by simp [q0, hT], fun x hx => (h0 x hx).1, fun x hx => by have := (h0 x hx).2; omega, fun x hx => ?_, fun x hx => ?_, by simp [q0], fun x hx => by simp [q0] at hx, fun _ x hx => (h0 x hx).2, fun _ x hx => ?_⟩
  all_goals
    have hx' : x = 0 := by
      have := List.eq_of_mem_replicate hx
      exact this
    omega


end Go.Proofs.Ytakehdnblmonlaa
