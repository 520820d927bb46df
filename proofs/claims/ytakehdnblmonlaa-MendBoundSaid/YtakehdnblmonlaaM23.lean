/- Plain facts that the walks of Bound and Quick ask for. -/
import Derived.Test.YtakehdnblmonlaaM22
namespace Go.Proofs.Ytakehdnblmonlaa
open Go.RowKit Go.Fp

/-- What Bound answers. -/
def BoR (g : Gr) (p : List Int) (v : Value) (_ : Base) : Prop :=
  (v = .tuple #[.int .i64 0, .int .i64 5] ∧ NoFull g p) ∨
  ∃ d : Int, v = .tuple #[.int .i64 d, .int .i64 0] ∧ ∀ (F : List Int) (sF : Sv), PickV g F → FullP F → PS g F sF → Agree p F → d ≤ dl g.due.l sF.T
/-- What Quick answers. -/
def QuR (g : Gr) (v : Value) (b' : Base) : Prop :=
  v = .tuple #[.slice none 0 0, .slice none 0 0, .int .i64 5] ∨
  ∃ (x : Value) (t : Sl Int) (F : List Int) (s : Sv), v = .tuple #[x, t.val, .int .i64 0] ∧ Rd b'.w t.A (rows encI t.l) ∧ PickV g F ∧ FullP F ∧ PS g F s ∧ s.T = t.l
/-- What the loop over the ways of a choice has found, in Quick. -/
def QN (b : Base) (g : Gr) (s : Sv) (c : Sl (Sl Arc)) (j : Nat) (best : Int) (nx : Option Addr) : Prop :=
  best = 0 ∨ ∃ (k : Nat) (y : Sl Arc) (gs : Nat) (s' : So), k < j ∧ c.l[k]? = some y ∧ best = (k : Int) + 1 ∧ nx = some ⟨gs, 0, none⟩ ∧ SoOk b.w gs s' ∧ s'.last = g.last ∧ withF g.last.l s y.l = some s'.sv
theorem QN.le {b b' : Base} {g : Gr} {s : Sv} {c : Sl (Sl Arc)} {j : Nat} {best : Int} {nx : Option Addr} (h : QN b g s c j best nx) (hle : b.Le b') : QN b' g s c (j + 1) best nx := by
  rcases h with h | ⟨k, y, gs, s', q1, q2, q3, q4, q5, q6⟩
  · exact .inl h
  · exact .inr ⟨k, y, gs, s', by omega, q2, q3, q4, q5.le hle, q6⟩
structure QI2 (b : Base) (g : Gr) (k : Nat) (pk : List Int) (gs : Nat) (s : So) : Prop where
  pv : PickV g pk
  so : SoOk b.w gs s
  la : s.last = g.last
  ps : PS g pk s.sv
  lo : ∀ (i : Nat) (x : Int), i < k → pk[i]? = some x → x ≠ 0
  hi : ∀ (i : Nat) (x : Int), k ≤ i → pk[i]? = some x → x = 0
theorem QI2.le {b b' : Base} {g : Gr} {k : Nat} {pk : List Int} {gs : Nat} {s : So} (h : QI2 b g k pk gs s) (hle : b.Le b') : QI2 b' g k pk gs s := ⟨h.pv, h.so.le hle, h.la, h.ps, h.lo, h.hi⟩
theorem fold_zero (last : List Int) : ∀ (n : Nat) (cs : List (List (List Arc))) (s : Sv), ((List.replicate n (0 : Int)).zip cs).foldl (pstep last) (some s) = some s
  | 0, _, _ => by simp
  | _ + 1, [], _ => by simp
  | n + 1, c :: cs, s => by
    rw [List.replicate_succ, List.zip_cons_cons, List.foldl_cons]
    have : pstep last (some s) (0, c) = some s := by simp [pstep]
    rw [this]
    exact fold_zero last n cs s
theorem pickF_zero {g : Gr} {s : Sv} (h : startF g.ready.l g.last.l g.arcs.l = some s) (n : Nat) : pickF g (List.replicate n 0) = some s := by
  unfold pickF
  rw [h]
  exact fold_zero _ _ _ _
theorem pickV_zero (g : Gr) : PickV g (List.replicate g.choices.l.length 0) := by
  refine ⟨by simp, fun k x c hx _ => ?_⟩
  have := List.eq_of_mem_replicate (List.mem_of_getElem? hx)
  omega
theorem QI2.zero {b : Base} {g : Gr} {gs : Nat} {s : So} (hV : GraphV g) (hS : SoOk b.w gs s) (hl : s.last = g.last) (h : startF g.ready.l g.last.l g.arcs.l = some s.sv) : QI2 b g 0 (List.replicate g.choices.l.length 0) gs s :=
  ⟨pickV_zero g, hS, hl, pickF_ps hV (pickF_zero h _), fun i x hi => absurd hi (by omega), fun i x _ hx => List.eq_of_mem_replicate (List.mem_of_getElem? hx)⟩
theorem QI2.put {b : Base} {g : Gr} {k : Nat} {pk : List Int} {gs gs' : Nat} {s s' : So} {c : Sl (Sl Arc)} {k5 : Nat} {y : Sl Arc} (hV : GraphV g) (h : QI2 b g k pk gs s) (hc : g.choices.l[k]? = some c) (hk : c.l[k5]? = some y) (hw : withF g.last.l s.sv y.l = some s'.sv) (hS : SoOk b.w gs' s') (hl : s'.last = g.last) : QI2 b g (k + 1) (pk.set k ((k5 : Int) + 1)) gs' s' := by
  obtain ⟨x, hx⟩ := ex_get (l := pk) (k := k) (by rw [h.pv.1]; exact lt_of_get hc)
  have hx0 := h.hi k x (Nat.le_refl _) hx
  subst hx0
  refine ⟨pickV_set h.pv hc hk, hS, hl, h.ps.step hV h.pv.1 hx hc hk hw, fun i z hi hz => ?_, fun i z hi hz => ?_⟩
  · by_cases hik : i = k
    · subst hik
      rw [List.getElem?_set_self (lt_of_get hx)] at hz
      injection hz with hz
      omega
    · rw [List.getElem?_set_ne (by omega)] at hz
      exact h.lo i z (by omega) hz
  · rw [List.getElem?_set_ne (by omega)] at hz
    exact h.hi i z (by omega) hz
theorem QI2.full {b : Base} {g : Gr} {k : Nat} {pk : List Int} {gs : Nat} {s : So} (h : QI2 b g k pk gs s) (hk : g.choices.l.length ≤ k) : FullP pk := fun x hx => by
  obtain ⟨i, hi⟩ := List.mem_iff_getElem?.1 hx
  have := lt_of_get hi
  rw [h.pv.1] at this
  exact h.lo i x (by omega) hi


end Go.Proofs.Ytakehdnblmonlaa
