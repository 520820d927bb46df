/- Plain: sums over the tasks, place by place; what stays true while turns are made. -/
import Derived.Test.YtajmocgpjkhjlaaNL1
set_option linter.unusedVariables false
set_option linter.unusedSimpArgs false
namespace Go.Proofs.Ytajmocgpjkhjlaa
open Go.RowKit Go.Fp

def ls (f : Int → Int) (E : List Int) : Int := (E.map f).sum
theorem ls_cons (f : Int → Int) (y : Int) (E : List Int) : ls f (y :: E) = f y + ls f E := by
  unfold ls
  rw [List.map_cons, List.sum_cons]
theorem ls_nil (f : Int → Int) : ls f [] = 0 := rfl
theorem ls_app (f : Int → Int) (E G : List Int) : ls f (E ++ G) = ls f E + ls f G := by
  unfold ls
  rw [List.map_append, List.sum_append]
theorem ls_one (f : Int → Int) (y : Int) : ls f [y] = f y := by rw [ls_cons, ls_nil, Int.add_zero]
theorem ls_perm {f : Int → Int} {E G : List Int} (h : E.Perm G) : ls f E = ls f G := by
  induction h with
  | nil => rfl
  | cons y _ ih => rw [ls_cons, ls_cons, ih]
  | swap y z E => rw [ls_cons, ls_cons, ls_cons, ls_cons]; omega
  | trans _ _ h1 h2 => rw [h1, h2]
theorem ls_le {f g : Int → Int} : ∀ {E : List Int}, (∀ y ∈ E, f y ≤ g y) → ls f E ≤ ls g E
  | [], _ => Int.le_refl _
  | y :: E, h => by
    have h1 := h y List.mem_cons_self
    have h2 := ls_le (E := E) (fun z hz => h z (List.mem_cons_of_mem _ hz))
    rw [ls_cons, ls_cons]
    omega
theorem ls_eq {f g : Int → Int} {E : List Int} (h : ∀ y ∈ E, f y = g y) : ls f E = ls g E :=
  Int.le_antisymm (ls_le (fun y hy => by rw [h y hy]; exact Int.le_refl _)) (ls_le (fun y hy => by rw [h y hy]; exact Int.le_refl _))
theorem ls_zero {E : List Int} : ls (fun _ => 0) E = 0 := by
  induction E with
  | nil => rfl
  | cons y E ih => rw [ls_cons, ih]; rfl
theorem ls_set {f : Int → Int} {k : Int} : ∀ {E : List Int} {j : Nat} {a : Int}, E[j]? = some a → ls f (E.set j k) = ls f E - f a + f k
  | [], j, a, h => by simp at h
  | y :: E, 0, a, h => by
    simp at h
    subst h
    rw [List.set_cons_zero, ls_cons, ls_cons]
    omega
  | y :: E, j + 1, a, h => by
    have ih := ls_set (f := f) (k := k) (E := E) (j := j) (a := a) (by simpa using h)
    rw [List.set_cons_succ, ls_cons, ls_cons, ih]
    omega
def sumN : Nat → (Nat → Int) → Int
  | 0, _ => 0
  | n + 1, f => sumN n f + f n
theorem sumN_succ (n : Nat) (f : Nat → Int) : sumN (n + 1) f = sumN n f + f n := rfl
theorem sumN_upd {f : Nat → Int} {q : Nat} : ∀ n, sumN n (fun p => if p = q then f p + 1 else f p) = sumN n f + (if q < n then 1 else 0)
  | 0 => by rw [if_neg (by omega)]; rfl
  | n + 1 => by
    rw [sumN_succ, sumN_succ, sumN_upd n]
    by_cases e : n = q
    · subst e
      rw [if_neg (by omega), if_pos rfl, if_pos (by omega)]
      omega
    · rw [if_neg e]
      by_cases h : q < n
      · rw [if_pos h, if_pos (by omega)]; omega
      · rw [if_neg h, if_neg (by omega)]; omega
theorem sumN_zero : ∀ n, sumN n (fun _ => 0) = 0
  | 0 => rfl
  | n + 1 => by rw [sumN_succ, sumN_zero n]; rfl
theorem sumN_add {f g : Nat → Int} : ∀ n, sumN n (fun p => f p + g p) = sumN n f + sumN n g
  | 0 => rfl
  | n + 1 => by rw [sumN_succ, sumN_succ, sumN_succ, sumN_add n]; omega
theorem sumN_congr {f g : Nat → Int} : ∀ {n : Nat}, (∀ i, i < n → f i = g i) → sumN n f = sumN n g
  | 0, _ => rfl
  | n + 1, h => by rw [sumN_succ, sumN_succ, sumN_congr (fun i hi => h i (by omega)), h n (by omega)]
section
variable (l : List FleetTask) (x : Int)
/-- Departs from the place. -/
def dF (p : Nat) (y : Int) : Int := if (tk l y).From = (p : Int) then 1 else 0
def dT (p : Nat) (t : Int) (y : Int) : Int := if (tk l y).From = (p : Int) ∧ (tk l y).Dep ≤ t then 1 else 0
/-- Is ready at the place. -/
def aT (p : Nat) (t : Int) (y : Int) : Int := if (tk l y).To = (p : Int) ∧ (tk l y).Arr + x ≤ t then 1 else 0
def sh (F : List Int) (p : Nat) (t : Int) : Int := ls (dT l p t) F - ls (aT l x p t) F
end
theorem aT_nn (l : List FleetTask) (x : Int) (p : Nat) (t y : Int) : 0 ≤ aT l x p t y := by
  unfold aT
  split <;> omega
theorem dT_nn (l : List FleetTask) (p : Nat) (t y : Int) : 0 ≤ dT l p t y := by
  unfold dT
  split <;> omega
theorem dT_le (l : List FleetTask) (p : Nat) (t y : Int) : dT l p t y ≤ dF l p y := by
  unfold dT dF
  by_cases h : (tk l y).From = (p : Int)
  · rw [if_pos h]
    split <;> omega
  · rw [if_neg h, if_neg (fun h' => h h'.1)]
    exact Int.le_refl _
theorem dT_eq {l : List FleetTask} {p : Nat} {t y : Int} (h : (tk l y).Dep ≤ t) : dT l p t y = dF l p y := by
  unfold dT dF
  by_cases h1 : (tk l y).From = (p : Int)
  · rw [if_pos h1, if_pos ⟨h1, h⟩]
  · rw [if_neg h1, if_neg (fun h' => h1 h'.1)]
def total (T : List (List Int)) (k : Int) : Nat := (T.map (fun t => t.count k)).sum
theorem total_append (A B : List (List Int)) (k : Int) : total (A ++ B) k = total A k + total B k := by
  unfold total
  rw [List.map_append, List.sum_append]
theorem total_one (t : List Int) (k : Int) : total [t] k = t.count k := by
  unfold total
  simp
theorem total_set : ∀ {T : List (List Int)} {j : Nat} {t : List Int} (k k' : Int), T[j]? = some t → total (T.set j (t ++ [k])) k' = total T k' + [k].count k'
  | [], j, t, k, k', h => by simp at h
  | r :: T, 0, t, k, k', h => by
    simp at h
    subst h
    unfold total
    simp only [List.set_cons_zero, List.map_cons, List.sum_cons, List.count_append]
    omega
  | r :: T, j + 1, t, k, k', h => by
    have ih := total_set (T := T) (j := j) (t := t) k k' (by simpa using h)
    unfold total at ih ⊢
    simp only [List.set_cons_succ, List.map_cons, List.sum_cons]
    omega
structure ChainR (l : List FleetTask) (x : Int) (r : List Int) : Prop where
  foll : ∀ q a b, r[q]? = some a → r[q + 1]? = some b → Foll l x a b
  inc : r.Pairwise (fun a b => (tk l a).Dep < (tk l b).Dep)
section
variable {l : List FleetTask} {x : Int}
theorem chain_add (hT : TurnOk l x) {r : List Int} (h : ChainR l x r) (hr : r ≠ []) (hv : ∀ y ∈ r, Val l y) {k : Int} (hk : Foll l x (lastI r) k) : ChainR l x (r ++ [k]) := by
  have hp := List.length_pos_iff.2 hr
  have el : lastI r = r[r.length - 1] := by
    unfold lastI
    rw [List.getLast?_eq_getElem?, List.getElem?_eq_getElem (by omega)]
    rfl
  refine ⟨fun q a b ha hb => ?_, ?_⟩
  · by_cases hq : q + 1 < r.length
    · rw [List.getElem?_append_left (by omega)] at ha hb
      exact h.foll q a b ha hb
    · by_cases hq2 : q + 1 = r.length
      · rw [List.getElem?_append_left (by omega), List.getElem?_eq_getElem (by omega)] at ha
        rw [List.getElem?_append_right (by omega), show q + 1 - r.length = 0 by omega] at hb
        injection ha with ha
        injection hb with hb
        subst hb
        rw [el] at hk
        have e : r[r.length - 1] = r[q] := by congr 1; omega
        rw [e, ha] at hk
        exact hk
      · rw [List.getElem?_eq_none (by simp; omega)] at hb
        cases hb
  · rw [List.pairwise_append]
    refine ⟨h.inc, List.pairwise_singleton _ _, fun y hy z hz => ?_⟩
    have ez : z = k := by simpa using hz
    subst ez
    have okl := ok_tk hT (hv _ (last_mem hr))
    unfold OkTask at okl
    unfold Foll at hk
    have hx := hT.turn
    obtain ⟨i, hi, rfl⟩ := List.getElem_of_mem hy
    by_cases e : i = r.length - 1
    · subst e
      rw [← el]
      omega
    · have := List.pairwise_iff_getElem.1 h.inc i (r.length - 1) hi (by omega) (by omega)
      rw [← el] at this
      omega
/-- What is true when the tasks of 'E' have been given out, of all the tasks 'F'. -/
structure Inv (l : List FleetTask) (x : Int) (F E : List Int) (rows : List (List Int)) (S : Nat → Int) : Prop where
  wf : Wf l E.length rows
  bal : ∀ p t, (∀ y ∈ E, (tk l y).Dep ≤ t) → ls (aT l x p t) (rows.map lastI) = S p + ls (aT l x p t) E - ls (dF l p) E
  sum : sumN 12 S = (rows.length : Int)
  nn : ∀ p, 0 ≤ S p
  low : ∀ p t, sh l x E p t ≤ S p
  up : ∀ p, S p = 0 ∨ ∃ y ∈ E, S p ≤ sh l x F p (tk l y).Dep
  tot : ∀ k, total rows k = E.count k
  chain : ∀ r ∈ rows, ChainR l x r
theorem inv_start (F : List Int) : Inv l x F [] [] (fun _ => 0) := by
  refine ⟨⟨Nat.le_refl _, fun r hr => by cases hr⟩, fun p t _ => rfl, sumN_zero 12, fun p => Int.le_refl _, fun p t => Int.le_refl _, fun p => .inl rfl, fun k => rfl, fun r hr => by cases hr⟩
/-- The part that both ways have in common. -/
theorem low_next {E : List Int} {k : Int} {L : List Int} {S S' : Nat → Int} (hE : ∀ y ∈ E, (tk l y).Dep ≤ (tk l k).Dep) (hlow : ∀ p t, sh l x E p t ≤ S p) (hS : ∀ p, S p ≤ S' p)
    (hbal : ∀ p t, (∀ y ∈ E ++ [k], (tk l y).Dep ≤ t) → ls (aT l x p t) L = S' p + ls (aT l x p t) (E ++ [k]) - ls (dF l p) (E ++ [k])) : ∀ p t, sh l x (E ++ [k]) p t ≤ S' p := fun p t => by
  by_cases h : (tk l k).Dep ≤ t
  · have hall : ∀ y ∈ E ++ [k], (tk l y).Dep ≤ t := fun y hy => by
      rcases List.mem_append.1 hy with hy | hy
      · have := hE y hy
        omega
      · have : y = k := by simpa using hy
        subst this
        exact h
    have h1 := hbal p t hall
    have h2 : (0 : Int) ≤ ls (aT l x p t) L := by
      have := ls_le (f := fun _ => 0) (g := aT l x p t) (E := L) (fun y _ => aT_nn l x p t y)
      rw [ls_zero] at this
      exact this
    have h3 := ls_le (f := dT l p t) (g := dF l p) (E := E ++ [k]) (fun y _ => dT_le l p t y)
    unfold sh
    omega
  · have h1 := hlow p t
    have h2 := hS p
    have h3 := aT_nn l x p t k
    have h4 : dT l p t k = 0 := by
      unfold dT
      rw [if_neg (fun h' => h h'.2)]
    unfold sh at h1 ⊢
    rw [ls_app, ls_app, ls_one, ls_one, h4]
    omega
theorem inv_next (hT : TurnOk l x) {E G : List Int} {k : Int} {rows : List (List Int)} {S : Nat → Int} (h : Inv l x (E ++ k :: G) E rows S) (hE : E.length ≤ 900) (hk : Val l k) (hd : ∀ y ∈ E, (tk l y).Dep ≤ (tk l k).Dep)
    (hg : ∀ y ∈ G, Val l y ∧ (tk l k).Dep ≤ (tk l y).Dep) (q : Nat) : ∃ rows' S', mFleetTurns_L21113 l x k q rows = some rows' ∧ Inv l x (E ++ k :: G) (E ++ [k]) rows' S' := by
  have okk := ok_tk hT hk
  have hx := hT.turn
  unfold OkTask at okk
  obtain ⟨rows', g1, g2⟩ := give_one hT hE h.wf hk q
  have el : (E ++ [k]).length = E.length + 1 := by simp
  rcases g2 with ⟨rfl, g3⟩ | ⟨j, hj, rfl, g3⟩
  · obtain ⟨f, hf⟩ : ∃ f : Nat, (tk l k).From = (f : Int) := ⟨(tk l k).From.toNat, by omega⟩
    have hbal : ∀ p t, (∀ y ∈ E ++ [k], (tk l y).Dep ≤ t) → ls (aT l x p t) ((rows ++ [[k]]).map lastI) = (if p = f then S p + 1 else S p) + ls (aT l x p t) (E ++ [k]) - ls (dF l p) (E ++ [k]) := fun p t ht => by
      have := h.bal p t (fun y hy => ht y (by simp [hy]))
      rw [List.map_append, ls_app, ls_app, ls_app, ls_one, this, show [[k]].map lastI = [k] from rfl, ls_one, ls_one]
      unfold dF
      by_cases e : p = f
      · subst e
        rw [if_pos rfl, if_pos hf]
        omega
      · rw [if_neg e, if_neg (by omega)]
        omega
    have hS : ∀ p, S p ≤ (if p = f then S p + 1 else S p) := fun p => by split <;> omega
    refine ⟨_, fun p => if p = f then S p + 1 else S p, g1, ⟨?_, fun r hr => ?_⟩, hbal, ?_, fun p => ?_, low_next hd h.low hS hbal, fun p => ?_, fun k' => ?_, fun r hr => ?_⟩
    · have := h.wf.1
      rw [List.length_append, List.length_singleton]
      omega
    · rcases List.mem_append.1 hr with hr | hr
      · obtain ⟨a1, a2, a3⟩ := h.wf.2 r hr
        exact ⟨a1, by omega, a3⟩
      · have : r = [k] := by simpa using hr
        subst this
        exact ⟨by simp, by simp, fun y hy => by
          have : y = k := by simpa using hy
          subst this
          exact hk⟩
    · rw [sumN_upd, if_pos (by omega), h.sum, List.length_append, List.length_singleton]
      omega
    · have := h.nn p
      have := hS p
      omega
    · by_cases e : p = f
      · subst e
        refine .inr ⟨k, by simp, ?_⟩
        have hb := h.bal p (tk l k).Dep hd
        have hz : ls (aT l x p (tk l k).Dep) (rows.map lastI) = 0 := by
          rw [ls_eq (g := fun _ => 0) (fun y hy => ?_), ls_zero]
          obtain ⟨r, hr, rfl⟩ := List.mem_map.1 hy
          unfold aT
          rw [if_neg (fun h' => g3 r hr ⟨by rw [hf, h'.1], h'.2⟩)]
        have e1 : ls (dT l p (tk l k).Dep) E = ls (dF l p) E := ls_eq (fun y hy => dT_eq (hd y hy))
        have e2 : dT l p (tk l k).Dep k = 1 := by
          unfold dT
          rw [if_pos ⟨hf, Int.le_refl _⟩]
        have e3 : aT l x p (tk l k).Dep k = 0 := by
          unfold aT
          rw [if_neg (fun h' => by omega)]
        have e4 : (0 : Int) ≤ ls (dT l p (tk l k).Dep) G := by
          have := ls_le (f := fun _ => 0) (g := dT l p (tk l k).Dep) (E := G) (fun y _ => dT_nn l p _ y)
          rw [ls_zero] at this
          exact this
        have e5 : ls (aT l x p (tk l k).Dep) G = 0 := by
          rw [ls_eq (g := fun _ => 0) (fun y hy => ?_), ls_zero]
          obtain ⟨v1, v2⟩ := hg y hy
          have oky := ok_tk hT v1
          unfold OkTask at oky
          unfold aT
          rw [if_neg (fun h' => by omega)]
        rw [if_pos rfl]
        unfold sh
        rw [ls_app, ls_app, ls_cons, ls_cons]
        omega
      · rw [if_neg e]
        rcases h.up p with h0 | ⟨y, hy, h1⟩
        · exact .inl h0
        · exact .inr ⟨y, by simp [hy], h1⟩
    · rw [total_append, total_one, h.tot, List.count_append]
    · rcases List.mem_append.1 hr with hr | hr
      · exact h.chain r hr
      · have : r = [k] := by simpa using hr
        subst this
        exact ⟨fun q a b _ hb => by simp at hb, List.pairwise_singleton _ _⟩
  · obtain ⟨a1, a2, a3⟩ := h.wf.2 _ (List.getElem_mem hj)
    have hmap : (rows.set j (rows[j] ++ [k])).map lastI = (rows.map lastI).set j k := by
      rw [List.map_set, last_app]
    have hbal : ∀ p t, (∀ y ∈ E ++ [k], (tk l y).Dep ≤ t) → ls (aT l x p t) ((rows.set j (rows[j] ++ [k])).map lastI) = S p + ls (aT l x p t) (E ++ [k]) - ls (dF l p) (E ++ [k]) := fun p t ht => by
      have hb := h.bal p t (fun y hy => ht y (by simp [hy]))
      have htk := ht k (by simp)
      unfold Foll at g3
      have ea : aT l x p t (lastI rows[j]) = dF l p k := by
        unfold aT dF
        by_cases e : (tk l k).From = (p : Int)
        · rw [if_pos e, if_pos ⟨by omega, by omega⟩]
        · rw [if_neg e, if_neg (fun h' => e (by omega))]
      rw [hmap, ls_set (a := lastI rows[j]) (by rw [List.getElem?_map, List.getElem?_eq_getElem hj]; rfl), ls_app, ls_app, ls_one, ls_one, hb, ea]
      omega
    refine ⟨_, S, g1, ⟨?_, fun r hr => ?_⟩, hbal, by rw [List.length_set]; exact h.sum, h.nn, low_next hd h.low (fun p => Int.le_refl _) hbal, fun p => ?_, fun k' => ?_, fun r hr => ?_⟩
    · have := h.wf.1
      rw [List.length_set]
      omega
    · rcases List.mem_or_eq_of_mem_set hr with hr | rfl
      · obtain ⟨b1, b2, b3⟩ := h.wf.2 r hr
        exact ⟨b1, by omega, b3⟩
      · refine ⟨by simp, by rw [List.length_append, List.length_singleton]; omega, fun y hy => ?_⟩
        rcases List.mem_append.1 hy with hy | hy
        · exact a3 y hy
        · have : y = k := by simpa using hy
          subst this
          exact hk
    · rcases h.up p with h0 | ⟨y, hy, h1⟩
      · exact .inl h0
      · exact .inr ⟨y, by simp [hy], h1⟩
    · rw [total_set k k' (List.getElem?_eq_getElem hj), h.tot, List.count_append]
    · rcases List.mem_or_eq_of_mem_set hr with hr | rfl
      · exact h.chain r hr
      · exact chain_add hT (h.chain _ (List.getElem_mem hj)) a1 a3 g3
end
end Go.Proofs.Ytajmocgpjkhjlaa
