/- Plain: Roster's search: the first of the best of all that it comes to. -/
import Derived.Test.YtnmhabgnfifkdaaFA1
set_option linter.unusedVariables false
set_option linter.unusedSimpArgs false
namespace Go.Proofs.Ytnmhabgnfifkdaa
open Go.RowKit Go.Fp

theorem forS_invX {σ : Type} {body : Nat → σ → Option σ} (X : Prop) (I : Nat → σ → Prop) : ∀ (m k : Nat) (s : σ), I k s → (∀ j s, k ≤ j → j < k + m → I j s → (body j s = none ∧ X) ∨ ∃ s', body j s = some s' ∧ I (j + 1) s') → (forS body m k s = none ∧ X) ∨ ∃ s', forS body m k s = some s' ∧ I (k + m) s'
  | 0, k, s, h0, _ => .inr ⟨s, rfl, h0⟩
  | m + 1, k, s, h0, h => by
    have e : forS body (m + 1) k s = (body k s).bind (forS body m (k + 1)) := rfl
    rcases h k s (Nat.le_refl _) (by omega) h0 with ⟨h1, hX⟩ | ⟨s', h1, h2⟩
    · exact .inl ⟨by rw [e, h1]; rfl, hX⟩
    · rw [e, h1, Option.bind_some, show k + (m + 1) = k + 1 + m by omega]
      exact forS_invX X I m (k + 1) s' h2 (fun j t hj hj' hi => h j t (by omega) (by omega) hi)
/-- What a search with fuel gives, if it gives the same whenever it gives something. -/
theorem lim_X {τ : Type} {f : Nat → Option τ} {P : τ → Prop} {Y : Prop} (m : Nat) (h : ∀ N, (f N = none ∧ (N ≤ m ∨ Y)) ∨ ∃ r, f N = some r ∧ P r) : (lim f = none ∧ Y) ∨ ∃ r, lim f = some r ∧ P r := by
  by_cases hs : ∃ n r, f n = some r
  · obtain ⟨n, r, hr⟩ := hs
    obtain ⟨a, ha, hp⟩ := lim_ok (P := P) (f := f) ⟨n, r, hr⟩ (fun k x hx => by
      rcases h k with ⟨h1, _⟩ | ⟨r', h1, h2⟩
      · rw [h1] at hx; cases hx
      · rw [h1] at hx; injection hx with hx; exact hx ▸ h2)
    exact .inr ⟨a, ha, hp⟩
  · have hn : ∀ n, f n = none := fun n => by
      cases hf : f n with
      | none => rfl
      | some r => exact absurd ⟨n, r, hf⟩ hs
    refine .inl ⟨?_, ?_⟩
    · unfold lim
      rw [dif_neg]
      rintro ⟨r, n, hr⟩
      exact hs ⟨n, r, hr⟩
    · rcases h (m + 1) with ⟨_, h1 | h1⟩ | ⟨r, h1, _⟩
      · omega
      · exact h1
      · exact absurd ⟨m + 1, r, h1⟩ hs
abbrev Ro := List (List Int)
abbrev RC := Int → Int → Ro → Ro → Option (Int × Ro × Ro)
noncomputable def rLoop (l : List FleetShift) (x : FleetLimits) (s : Int) (rc : RC) (k : Nat) : (Int × Ro × Ro) → Option (Int × Ro × Ro) := unc3 fun a ro b =>
  (idx ro (k : Int)).bind fun r =>
  ((mSlicesClone r).bind fun c =>
  (room 8 (c.length + 1)).bind fun _ =>
  (idx ro (k : Int)).bind fun _ =>
  some (put ro (k : Int) (c ++ [s]))).bind (fun ro2 =>
  ((idx ro2 (k : Int)).bind fun r2 =>
  (mFleetFits l r2 x).bind fun f =>
  if f = true then (
  (chk (s + 1)).bind fun _ =>
  (rc (s + 1) a ro2 b).bind (unc3 fun a b c => some (a, b, c)))
  else (
  some (a, ro2, b))).bind (unc3 fun a b c =>
  (idx b (k : Int)).bind fun _ =>
  some (a, put b (k : Int) r, c)))
noncomputable def rStep (l : List FleetShift) (x : FleetLimits) (rc : RC) : RC := fun s a ro b =>
  if s = (l.length : Int) then (
  (forS (mFleetRoster_1_2_L2317 l ro) ro.length 0 0).bind (fun m =>
  ((if a < 0 then (
  some true)
  else (
  some (decide (m < a)))).bind (fun c =>
  if c = true then (
  (room 24 ro.length).bind fun _ =>
  some (m, ro))
  else (
  some (a, b)))).bind (unc2 fun p q =>
  some (p, ro, q))))
  else (
  (forS (rLoop l x s rc) ro.length 0 (a, ro, b)).bind (unc3 fun a b c =>
  some (a, b, c)))
noncomputable def R2 (l : List FleetShift) (x : FleetLimits) (N : Nat) : RC := fun s a ro b => mFleetRoster_1_2 N s l a x.Change x.Long x.Work x.After x.Break x.Rest x.Row ro b
noncomputable def R1 (l : List FleetShift) (x : FleetLimits) (N : Nat) : RC := fun s a ro b => mFleetRoster_1 N s l a x.Change x.Long x.Work x.After x.Break x.Rest x.Row ro b
theorem R2_step (l : List FleetShift) (x : FleetLimits) (N : Nat) (s a : Int) (ro b : Ro) : R2 l x (N + 1) s a ro b = rStep l x (R2 l x N) s a ro b := rfl
theorem R1_step (l : List FleetShift) (x : FleetLimits) (N : Nat) (s a : Int) (ro b : Ro) : R1 l x (N + 1) s a ro b = rStep l x (fun s a ro b => lim (fun N => R2 l x N s a ro b)) s a ro b := rfl
/-- All rosters that the search comes to. -/
def leaves (fit : List Int → Bool) : Nat → Int → Ro → List Ro
  | 0, _, ro => [ro]
  | m + 1, s, ro => (List.range ro.length).flatMap fun d => if fit (ro.getD d [] ++ [s]) = true then leaves fit m (s + 1) (ro.set d (ro.getD d [] ++ [s])) else []
def mostOf (l : List FleetShift) (q : Ro) : Int := q.foldl (fun a r => max a (ld l r)) 0
def better (l : List FleetShift) (a : Int × Ro) (q : Ro) : Int × Ro := if a.1 < 0 ∨ mostOf l q < a.1 then (mostOf l q, q) else a
noncomputable def found (l : List FleetShift) (x : FleetLimits) (m : Nat) (s : Int) (a : Int) (ro b : Ro) : Int × Ro × Ro :=
  (((leaves (fitB l x) m s ro).foldl (better l) (a, b)).1, ro, ((leaves (fitB l x) m s ro).foldl (better l) (a, b)).2)
def RInv (l : List FleetShift) (s : Nat) (ro : Ro) : Prop := ro.length ≤ 5 ∧ ∀ r ∈ ro, Nums l r ∧ r.length ≤ s
section
variable {l : List FleetShift} (hl : ∀ s ∈ l, OkS s) (hn : l.length ≤ 8)
include hl in
theorem most_eq {ro : Ro} {s : Nat} (hs : s ≤ 8) (h : RInv l s ro) : forS (mFleetRoster_1_2_L2317 l ro) ro.length 0 0 = some (mostOf l ro) := by
  obtain ⟨a, e, hI⟩ := forS_inv (body := mFleetRoster_1_2_L2317 l ro) (fun k a => a = mostOf l (ro.take k)) ro.length 0 0 rfl (fun k a _ hk hI => by
    have hk' : k < ro.length := by omega
    obtain ⟨h1, h2⟩ := h.2 _ (List.getElem_mem hk')
    unfold mFleetRoster_1_2_L2317
    rw [idx_lt hk', Option.bind_some, load_eq hl h1 (by omega), Option.bind_some]
    refine ⟨_, rfl, ?_⟩
    rw [take_succ_get hk', hI]
    unfold mostOf
    rw [List.foldl_append]
    rfl)
  rw [e, hI, Nat.zero_add, List.take_length]
theorem clone_eq {r : List Int} (h : r.length ≤ 1000) : mSlicesClone r = some r := by
  unfold mSlicesClone
  rw [room_ok (by omega) (by omega), Option.bind_some]
theorem put_self {α : Type} {l : List α} {k : Nat} (hk : k < l.length) (y : α) : put (l.set k y) (k : Int) l[k] = l := by
  rw [put_nat, List.set_set, List.set_getElem_self]
theorem set_idx {α : Type} {l : List α} {k : Nat} (hk : k < l.length) (y : α) : idx (l.set k y) (k : Int) = some y := by
  rw [idx_lt (by rw [List.length_set]; exact hk)]
  simp
theorem nums_snoc {r : List Int} (h : Nums l r) {s : Int} (hs : 0 ≤ s ∧ s < (l.length : Int)) : Nums l (r ++ [s]) := fun y hy => by
  rcases List.mem_append.1 hy with h' | h'
  · exact h y h'
  · simp only [List.mem_cons, List.not_mem_nil, or_false] at h'
    exact h' ▸ hs
theorem getD_get {α : Type} {l : List α} {k : Nat} (hk : k < l.length) (z : α) : l.getD k z = l[k] := by
  rw [List.getD_eq_getElem?_getD, List.getElem?_eq_getElem hk]
  rfl
include hl hn in
theorem rStep_says {x : FleetLimits} {rc : RC} {X : Prop} {m s : Nat} (hm : s + m = l.length) (a : Int) (ro b : Ro) (hI : RInv l s ro)
    (hrc : ∀ m', m = m' + 1 → ∀ a ro b, RInv l (s + 1) ro → (rc ((s : Int) + 1) a ro b = none ∧ X) ∨ ∃ r, rc ((s : Int) + 1) a ro b = some r ∧ r = found l x m' ((s : Int) + 1) a ro b) :
    (rStep l x rc (s : Int) a ro b = none ∧ 1 ≤ m ∧ X) ∨ ∃ r, rStep l x rc (s : Int) a ro b = some r ∧ r = found l x m (s : Int) a ro b := by
  unfold rStep
  cases m with
  | zero =>
    rw [if_pos (by omega), most_eq hl (s := s) (by omega) hI, Option.bind_some]
    refine .inr ?_
    have hr : room 24 ro.length = some () := room_ok (by have := hI.1; omega) (by have := hI.1; omega)
    unfold found leaves
    simp only [List.foldl_cons, List.foldl_nil]
    unfold better
    by_cases h1 : a < 0
    · rw [if_pos h1, Option.bind_some, if_pos rfl, hr, Option.bind_some, pass2, if_pos (.inl h1)]
      exact ⟨_, rfl, rfl⟩
    · rw [if_neg h1, Option.bind_some]
      by_cases h2 : mostOf l ro < a
      · rw [decide_eq_true h2, if_pos rfl, hr, Option.bind_some, pass2, if_pos (.inr h2)]
        exact ⟨_, rfl, rfl⟩
      · rw [decide_eq_false h2, if_neg (by decide), pass2, if_neg (by omega)]
        exact ⟨_, rfl, rfl⟩
  | succ m =>
    rw [if_neg (by omega)]
    have hsl : 0 ≤ (s : Int) ∧ (s : Int) < (l.length : Int) := by omega
    rcases forS_invX (body := rLoop l x (s : Int) rc) X (fun k q => q = (((((List.range k).flatMap fun d => if fitB l x (ro.getD d [] ++ [(s : Int)]) = true then leaves (fitB l x) m ((s : Int) + 1) (ro.set d (ro.getD d [] ++ [(s : Int)])) else []).foldl (better l) (a, b)).1), ro, ((((List.range k).flatMap fun d => if fitB l x (ro.getD d [] ++ [(s : Int)]) = true then leaves (fitB l x) m ((s : Int) + 1) (ro.set d (ro.getD d [] ++ [(s : Int)])) else []).foldl (better l) (a, b)).2))) ro.length 0 (a, ro, b) rfl (fun k q _ hk hq => by
        have hk' : k < ro.length := by omega
        subst hq
        rw [List.range_succ, List.flatMap_append, List.foldl_append]
        generalize ((List.range k).flatMap fun d => if fitB l x (ro.getD d [] ++ [(s : Int)]) = true then leaves (fitB l x) m ((s : Int) + 1) (ro.set d (ro.getD d [] ++ [(s : Int)])) else []).foldl (better l) (a, b) = p
        obtain ⟨p1, p2⟩ := p
        obtain ⟨h1, h2⟩ := hI.2 _ (List.getElem_mem hk')
        have hf := fits_eq hl (x := x) (nums_snoc h1 hsl) (by rw [List.length_append, List.length_singleton]; omega)
        have e1 : (List.flatMap (fun d => if fitB l x (ro.getD d [] ++ [(s : Int)]) = true then leaves (fitB l x) m ((s : Int) + 1) (ro.set d (ro.getD d [] ++ [(s : Int)])) else []) [k]) = if fitB l x (ro[k] ++ [(s : Int)]) = true then leaves (fitB l x) m ((s : Int) + 1) (ro.set k (ro[k] ++ [(s : Int)])) else [] := by
          simp only [List.flatMap_cons, List.flatMap_nil, List.append_nil, getD_get hk']
        rw [e1]
        unfold rLoop
        simp only [unc3]
        rw [idx_lt hk', Option.bind_some, clone_eq (by omega), Option.bind_some, room_ok (by omega) (by omega), Option.bind_some, Option.bind_some, Option.bind_some, put_nat, set_idx hk', Option.bind_some, hf, Option.bind_some]
        by_cases hfit : fitB l x (ro[k] ++ [(s : Int)]) = true
        · rw [if_pos hfit, if_pos hfit, chk_ok (by omega) (by omega), Option.bind_some]
          have hI2 : RInv l (s + 1) (ro.set k (ro[k] ++ [(s : Int)])) := by
            refine ⟨by rw [List.length_set]; exact hI.1, fun r hr => ?_⟩
            rcases List.mem_or_eq_of_mem_set hr with h | h
            · exact ⟨(hI.2 r h).1, by have := (hI.2 r h).2; omega⟩
            · rw [h]
              exact ⟨nums_snoc h1 hsl, by rw [List.length_append, List.length_singleton]; omega⟩
          rcases hrc m rfl p1 (ro.set k (ro[k] ++ [(s : Int)])) p2 hI2 with ⟨g1, g2⟩ | ⟨r, g1, g2⟩
          · exact .inl ⟨by rw [g1]; rfl, g2⟩
          · refine .inr ?_
            rw [g1, g2]
            unfold found
            rw [pass3, pass3, set_idx hk', Option.bind_some, put_self hk']
            exact ⟨_, rfl, rfl⟩
        · rw [if_neg hfit, if_neg hfit, pass3, set_idx hk', Option.bind_some, put_self hk']
          exact .inr ⟨_, rfl, rfl⟩) with ⟨g1, g2⟩ | ⟨q, g1, g2⟩
    · exact .inl ⟨by rw [g1]; rfl, by omega, g2⟩
    · rw [g1, g2, pass3, Nat.zero_add]
      exact .inr ⟨_, rfl, rfl⟩
include hl hn in
theorem R2_says {x : FleetLimits} : ∀ (N m s : Nat), s + m = l.length → ∀ (a : Int) (ro b : Ro), RInv l s ro → (R2 l x N (s : Int) a ro b = none ∧ N ≤ m) ∨ ∃ r, R2 l x N (s : Int) a ro b = some r ∧ r = found l x m (s : Int) a ro b
  | 0, m, s, _, a, ro, b, _ => .inl ⟨rfl, Nat.zero_le _⟩
  | N + 1, m, s, hm, a, ro, b, hI => by
    rw [R2_step]
    rcases rStep_says hl hn (x := x) (rc := R2 l x N) (X := N ≤ m - 1) hm a ro b hI (fun m' e a ro b h => by
      subst e
      have := R2_says (x := x) N m' (s + 1) (by omega) a ro b h
      rw [show ((s + 1 : Nat) : Int) = (s : Int) + 1 by omega] at this
      rcases this with ⟨g1, g2⟩ | g
      · exact .inl ⟨g1, by omega⟩
      · exact .inr g) with ⟨g1, g2, g3⟩ | g
    · exact .inl ⟨g1, by omega⟩
    · exact .inr g
include hl hn in
theorem R2_lim {x : FleetLimits} (m s : Nat) (hm : s + m = l.length) (a : Int) (ro b : Ro) (hI : RInv l s ro) : lim (fun N => R2 l x N (s : Int) a ro b) = some (found l x m (s : Int) a ro b) := by
  rcases lim_X (f := fun N => R2 l x N (s : Int) a ro b) (P := fun r => r = found l x m (s : Int) a ro b) (Y := False) m (fun N => by
    rcases R2_says hl hn (x := x) N m s hm a ro b hI with ⟨g1, g2⟩ | g
    · exact .inl ⟨g1, .inl g2⟩
    · exact .inr g) with ⟨_, h⟩ | ⟨r, h1, h2⟩
  · exact h.elim
  · rw [h1, h2]
include hl hn in
theorem R1_lim {x : FleetLimits} (a : Int) (ro b : Ro) (hI : RInv l 0 ro) : lim (fun N => R1 l x N 0 a ro b) = some (found l x l.length 0 a ro b) := by
  rcases lim_X (f := fun N => R1 l x N 0 a ro b) (P := fun r => r = found l x l.length 0 a ro b) (Y := False) 0 (fun N => by
    cases N with
    | zero => exact .inl ⟨rfl, .inl (Nat.le_refl _)⟩
    | succ N =>
      rw [R1_step]
      rcases rStep_says hl hn (x := x) (rc := fun s a ro b => lim (fun N => R2 l x N s a ro b)) (X := False) (m := l.length) (s := 0) (by omega) a ro b hI (fun m' e a ro b h => by
        have := R2_lim hl hn (x := x) m' 1 (by omega) a ro b h
        exact .inr ⟨_, this, rfl⟩) with ⟨_, _, g⟩ | g
      · exact g.elim
      · exact .inr g) with ⟨_, h⟩ | ⟨r, h1, h2⟩
  · exact h.elim
  · rw [h1, h2]
include hl hn in
theorem roster_eq {x : FleetLimits} (hs : mFleetCheckShifts l = some 0) (hx : mFleetCheckLimits x = some 0) {k : Nat} (h1 : 1 ≤ k) (h4 : k ≤ 4) :
    ∃ a : Int × Ro, a = (leaves (fitB l x) l.length 0 (List.replicate k [])).foldl (better l) (-1, []) ∧ mFleetRoster l (k : Int) x = if a.1 < 0 then some (9, []) else some (0, a.2) := by
  refine ⟨_, rfl, ?_⟩
  unfold mFleetRoster
  rw [hs, Option.bind_some, if_neg (by decide), hx, Option.bind_some, if_neg (by decide), within_eq, Option.bind_some, decide_eq_true (by omega), if_pos rfl, mkLen_ok (by omega) (by omega), Option.bind_some]
  have := R1_lim hl hn (x := x) (-1) (List.replicate k []) [] ⟨by rw [List.length_replicate]; omega, fun r hr => by rw [List.eq_of_mem_replicate hr]; exact ⟨fun s hs => by simp at hs, by simp⟩⟩
  unfold R1 at this
  rw [this]
  unfold found
  rw [pass3]
end
end Go.Proofs.Ytnmhabgnfifkdaa
