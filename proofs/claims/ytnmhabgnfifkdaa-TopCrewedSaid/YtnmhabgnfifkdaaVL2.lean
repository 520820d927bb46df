/- Plain: the search for duties. -/
import Derived.Test.YtnmhabgnfifkdaaVL1
set_option linter.unusedVariables false
set_option linter.unusedSimpArgs false
namespace Go.Proofs.Ytnmhabgnfifkdaa.Kept
open Go.RowKit Go.Fp

def Free (u : List Bool) (i : Int) : Prop := 0 ≤ i ∧ u[i.toNat]? = some false
def Fit : List Bool → List Int → Prop
  | _, [] => True
  | u, x :: xs => Free u x ∧ Fit (put u x true) xs
def marks : List Bool → List Int → List Bool
  | u, [] => u
  | u, x :: xs => marks (put u x true) xs
def Comp (l : List FleetTask) (s : FleetLimits) : List (List Int) → List Bool → Int → Prop
  | [], u, _ => ∀ b ∈ u, b = true
  | d :: D, u, a => ∃ k x, d = k :: x ∧ a < k ∧ Fit u d ∧ mFleetJudge l d s = some 0 ∧ Comp l s D (marks u d) k
/-- What is still to be added. -/
def Sol (l : List FleetTask) (s : FleetLimits) (u : List Bool) (m a : Int) (d : List Int) (R : List (List Int)) : Prop :=
  match d with
  | [] => Comp l s R u a ∧ (R.length : Int) = m
  | k :: y => ∃ x D, R = ((k :: y) ++ x) :: D ∧ Fit u x ∧ mFleetJudge l ((k :: y) ++ x) s = some 0 ∧ Comp l s D (marks u x) k ∧ (D.length : Int) + 1 = m
def free (u : List Bool) : Nat := u.count false
theorem Free.lt {u : List Bool} {i : Int} (h : Free u i) : i < (u.length : Int) := by
  have := (List.getElem?_eq_some_iff.1 h.2).1
  have := h.1
  omega
theorem Free.idx {u : List Bool} {i : Int} (h : Free u i) : idx u i = some false := by
  unfold Go.Fp.idx
  rw [if_pos h.1]
  exact h.2
theorem Free.count {u : List Bool} {i : Int} (h : Free u i) : free (put u i true) + 1 = free u := by
  obtain ⟨h0, h1⟩ := h
  unfold free put
  generalize i.toNat = j at h1
  induction u generalizing j with
  | nil => simp at h1
  | cons b t ih =>
    cases j with
    | zero =>
      simp at h1
      subst h1
      simp
    | succ j =>
      have := ih j (by simpa using h1)
      simp only [List.set_cons_succ, List.count_cons]
      omega
theorem Free.back {u : List Bool} {i : Int} (h : Free u i) : put (put u i true) i false = u := by
  obtain ⟨h0, h1⟩ := h
  unfold put
  rw [List.set_set]
  apply List.ext_getElem?
  intro j
  by_cases hj : i.toNat = j
  · subst hj
    rw [List.getElem?_set_self (List.getElem?_eq_some_iff.1 h1).1, h1]
  · rw [List.getElem?_set_ne hj]
theorem Free.of_put {u : List Bool} {i j : Int} (h : Free (put u i true) j) : Free u j ∧ (0 ≤ i → i ≠ j) := by
  obtain ⟨h0, h1⟩ := h
  unfold put at h1
  by_cases hj : i.toNat = j.toNat
  · have hlt : j.toNat < u.length := by
      have := (List.getElem?_eq_some_iff.1 h1).1
      rwa [List.length_set] at this
    rw [hj, List.getElem?_set_self hlt] at h1
    cases h1
  · rw [List.getElem?_set_ne hj] at h1
    exact ⟨⟨h0, h1⟩, fun _ e => hj (by rw [e])⟩
theorem Fit.val {u : List Bool} {x : List Int} (h : Fit u x) : ∀ i ∈ x, Free u i := by
  induction x generalizing u with
  | nil => intro i hi; cases hi
  | cons k x ih =>
    intro i hi
    rcases List.mem_cons.1 hi with rfl | hi
    · exact h.1
    · exact (ih h.2 i hi).of_put.1
theorem Fit.len {u : List Bool} {x : List Int} (h : Fit u x) : x.length ≤ free u := by
  induction x generalizing u with
  | nil => exact Nat.zero_le _
  | cons k x ih =>
    have := ih h.2
    have := h.1.count
    simp only [List.length_cons]
    omega
theorem free_pos {u : List Bool} : (0 < free u ↔ false ∈ u) := List.count_pos_iff
theorem used_or {u : List Bool} {n : Nat} (hu : u.length = n) {k : Nat} (hk : k < n) : (Free u (k : Int)) ∨ (idx u (k : Int) = some true ∧ ¬ Free u (k : Int)) := by
  have e : u[k]? = some u[k] := List.getElem?_eq_getElem (by omega)
  cases hb : u[k] with
  | false => exact .inl ⟨by omega, by rw [Int.toNat_natCast, e, hb]⟩
  | true =>
    refine .inr ⟨by rw [idx_nat e, hb], fun h => ?_⟩
    have := h.2
    rw [Int.toNat_natCast, e, hb] at this
    cases this
section
variable {l : List FleetTask} {s : FleetLimits}
instance (a b : Int) : Decidable (Fol l s a b) := inferInstanceAs (Decidable (_ ∧ _))
/-- What a call of the search says. -/
def Says (l : List FleetTask) (s : FleetLimits) (X : Prop) (r : Option (Bool × List Bool × List (List Int))) (u : List Bool) (D : List (List Int)) (S : List (List Int) → Prop) : Prop :=
  (r = none ∧ X) ∨ (∃ u' R, r = some (true, u', D ++ R) ∧ S R) ∨ (r = some (false, u, D) ∧ ∀ R, ¬ S R)
structure In (l : List FleetTask) (u : List Bool) (m a : Int) (d : List Int) (D : List (List Int)) : Prop where
  len : u.length = l.length
  m0 : 0 ≤ m ∧ m ≤ 8
  m1 : d ≠ [] → 1 ≤ m
  a0 : -1 ≤ a ∧ a ≤ 8
  dv : ∀ i ∈ d, Val l i
  df : d.length + free u ≤ 8
  Dl : D.length + 2 * free u + (if d = [] then 0 else 1) ≤ 100
def cost (u : List Bool) (d : List Int) : Nat := 2 * free u + (if d = [] then 0 else 1)
noncomputable abbrev div (l : List FleetTask) (s : FleetLimits) (N : Nat) (m a : Int) (d : List Int) (u : List Bool) (D : List (List Int)) : Option (Bool × List Bool × List (List Int)) := mFleetDividerDivide N m a d l s.Change s.Long s.Work s.After s.Break s.Rest s.Row u D
noncomputable abbrev tak (l : List FleetTask) (s : FleetLimits) (N : Nat) (m a : Int) (d : List Int) (k : Int) (u : List Bool) (D : List (List Int)) : Option (Bool × List Bool × List (List Int)) := mFleetDividerTake (mFleetDividerDivide N) m a d k l s.Change s.Long s.Work s.After s.Break s.Rest s.Row u D
theorem clone_eq {x : List Int} (h : x.length ≤ 1000) : mSlicesClone x = some x := by
  unfold mSlicesClone
  rw [room_ok (by omega) (by omega)]
  rfl
theorem take_says (C : Ctx l s) {N : Nat} (ih : ∀ u m a d D, In l u m a d D → Says l s (N < cost u d + 1) (div l s N m a d u D) u D (Sol l s u m a d))
    {u : List Bool} {m a : Int} {d : List Int} {D : List (List Int)} (I : In l u m a d D) (hm : 1 ≤ m) {k : Nat} (hk : k < l.length) :
    Says l s (N + 1 < cost u d + 1) (tak l s N m a d (k : Int) u D) u D (fun R => Free u (k : Int) ∧ (∀ h : d ≠ [], Fol l s (d.getLast h) (k : Int)) ∧ Sol l s (put u (k : Int) true) m a (d ++ [(k : Int)]) R) := by
  have hkv : Val l (k : Int) := ⟨by omega, by omega⟩
  have n8 := C.n8
  unfold tak mFleetDividerTake
  rcases used_or I.len hk with hf | ⟨hi, hnf⟩
  · rw [hf.idx, Option.bind_some, if_neg (by decide)]
    have hcount := hf.count
    have main : Says l s (N + 1 < cost u d + 1) ((some false).bind fun _ =>
        (mSlicesClone d).bind fun l947 => (room 8 (l947.length + 1)).bind fun _ =>
        (div l s N m a (l947 ++ [(k : Int)]) (put u (k : Int) true) D).bind (unc3 fun x966 l967 l968 =>
        if x966 = true then (some (true, l967, l968)) else ((idx l967 (k : Int)).bind fun _ => some (false, put l967 (k : Int) false, l968)))) u D (fun R => Sol l s (put u (k : Int) true) m a (d ++ [(k : Int)]) R) := by
      have hd8 := I.df
      rw [Option.bind_some, clone_eq (by omega), Option.bind_some, room_ok (by omega) (by omega), Option.bind_some]
      have hne : d ++ [(k : Int)] ≠ [] := by simp
      have I' : In l (put u (k : Int) true) m a (d ++ [(k : Int)]) D := by
        refine ⟨by rw [put_length]; exact I.len, I.m0, fun _ => hm, I.a0, ?_, ?_, ?_⟩
        · intro i hi
          rcases List.mem_append.1 hi with hi | hi
          · exact I.dv i hi
          · rw [List.mem_singleton.1 hi]; exact hkv
        · rw [List.length_append]; simp; omega
        · rw [if_neg hne]
          have := I.Dl
          omega
      rcases ih _ m a _ D I' with ⟨h1, h2⟩ | ⟨u', R, h1, h2⟩ | ⟨h1, h2⟩
      · refine .inl ⟨by rw [h1]; rfl, ?_⟩
        unfold cost at h2 ⊢
        rw [if_neg hne] at h2
        omega
      · refine .inr (.inl ⟨u', R, ?_, h2⟩)
        rw [h1, Option.bind_some]
        rfl
      · refine .inr (.inr ⟨?_, h2⟩)
        rw [h1, Option.bind_some]
        simp only [unc3]
        rw [if_neg (by decide)]
        obtain ⟨z, hz, _⟩ := idx_get (l := put u (k : Int) true) (i := (k : Int)) (by omega) (by rw [put_length, I.len]; omega)
        rw [hz, Option.bind_some, hf.back]
    by_cases hd : d = []
    · subst hd
      rw [if_neg (by simp), Option.bind_some]
      simp only [Sum.elim_inl]
      rcases main with h | ⟨u', R, h1, h2⟩ | ⟨h1, h2⟩
      · exact .inl h
      · exact .inr (.inl ⟨u', R, h1, hf, fun h => absurd rfl h, h2⟩)
      · exact .inr (.inr ⟨h1, fun R hR => h2 R hR.2.2⟩)
    · have hlen : 0 < d.length := by
        rcases d with _ | ⟨_, _⟩
        · exact absurd rfl hd
        · simp
      rw [if_pos (by omega)]
      have hlast : d.getLast hd = d[d.length - 1] := List.getLast_eq_getElem hd
      have hlv : Val l (d.getLast hd) := I.dv _ (List.getLast_mem hd)
      have hd8 := I.df
      rw [chk_ok (by omega) (by omega), Option.bind_some, show (d.length : Int) - 1 = ((d.length - 1 : Nat) : Int) by omega, idx_lt (by omega), Option.bind_some, ← hlast, idx_tk hlv, Option.bind_some, Option.bind_some]
      simp only [unc6]
      rw [idx_tk hkv, Option.bind_some, Option.bind_some]
      have o1 := C.tasks _ (tk_mem hlv)
      have o2 := C.tasks _ (tk_mem hkv)
      have hc : 0 ≤ s.Change ∧ s.Change ≤ 86400 := C.lim.1 _ (by simp [lims])
      unfold OkTask at o1 o2
      have hcond : (if (tk l (k : Int)).From ≠ (tk l (d.getLast hd)).To then some true else (chk ((tk l (d.getLast hd)).Arr + s.Change)).bind fun _ => some (decide ((tk l (k : Int)).Dep < (tk l (d.getLast hd)).Arr + s.Change))) = some (!decide (Fol l s (d.getLast hd) (k : Int))) := by
        by_cases f1 : (tk l (k : Int)).From = (tk l (d.getLast hd)).To
        · rw [if_neg (by simp [f1]), chk_ok (by omega) (by omega), Option.bind_some]
          congr 1
          by_cases f2 : (tk l (k : Int)).Dep < (tk l (d.getLast hd)).Arr + s.Change
          · rw [decide_eq_true f2, decide_eq_false (fun h : Fol l s _ _ => absurd h.2 (by omega))]; rfl
          · rw [decide_eq_false f2, decide_eq_true (show Fol l s _ _ from ⟨f1, by omega⟩)]; rfl
        · rw [if_pos f1, decide_eq_false (fun h : Fol l s _ _ => f1 h.1)]; rfl
      rw [hcond, Option.bind_some]
      by_cases hF : Fol l s (d.getLast hd) (k : Int)
      · rw [decide_eq_true hF, if_neg (by decide), Option.bind_some]
        simp only [Sum.elim_inl]
        rcases main with h | ⟨u', R, h1, h2⟩ | ⟨h1, h2⟩
        · exact .inl h
        · exact .inr (.inl ⟨u', R, h1, hf, fun _ => hF, h2⟩)
        · exact .inr (.inr ⟨h1, fun R hR => h2 R hR.2.2⟩)
      · rw [decide_eq_false hF, if_pos (by rfl), Option.bind_some]
        exact .inr (.inr ⟨rfl, fun R hR => hF (hR.2.1 hd)⟩)
  · rw [hi, Option.bind_some, if_pos rfl]
    exact .inr (.inr ⟨rfl, fun R hR => hnf hR.1⟩)
end
end Go.Proofs.Ytnmhabgnfifkdaa.Kept
