/- Plain: the search that gives tasks to sets. -/
import Derived.Test.YtajmocgpjkhjlaaAL1
set_option linter.unusedVariables false
set_option linter.unusedSimpArgs false
namespace Go.Proofs.Ytajmocgpjkhjlaa
open Go.RowKit Go.Fp

theorem loopM_none {σ τ : Type} {step : σ → Option (σ ⊕ τ)} {s : σ} (h : step s = none) : loopM step s = none := by
  unfold loopM lim
  rw [dif_neg]
  rintro ⟨t, n, hn⟩
  cases n with
  | zero => cases hn
  | succ n =>
    have h' : (match step s with | none => none | some (.inl s') => Go.Fp.runN step n s' | some (.inr t) => some t) = some t := hn
    rw [h] at h'
    cases h'
theorem loopM_invX {σ τ : Type} {step : σ → Option (σ ⊕ τ)} (X : Prop) (I : σ → Prop) (Q : τ → Prop) (μ : σ → Nat) (h : ∀ s, I s → (step s = none ∧ X) ∨ (∃ s', step s = some (.inl s') ∧ I s' ∧ μ s' < μ s) ∨ ∃ t, step s = some (.inr t) ∧ Q t) (s : σ) (h0 : I s) : (loopM step s = none ∧ X) ∨ ∃ t, loopM step s = some t ∧ Q t := by
  generalize hn : μ s = n
  induction n using Nat.strongRecOn generalizing s with
  | _ n ih =>
    rcases h s h0 with ⟨h1, h2⟩ | ⟨s', h1, h2, h3⟩ | ⟨t, h1, h2⟩
    · exact .inl ⟨loopM_none h1, h2⟩
    · rw [loopM_next h1]
      exact ih (μ s') (by omega) s' h2 rfl
    · exact .inr ⟨t, loopM_last h1, h2⟩
def tk (l : List FleetTask) (i : Int) : FleetTask := (l[i.toNat]?).getD ⟨0, 0, 0, 0, 0, 0⟩
def Val (l : List FleetTask) (i : Int) : Prop := 0 ≤ i ∧ i < (l.length : Int)
theorem idx_tk {l : List FleetTask} {i : Int} (h : Val l i) : idx l i = some (tk l i) := by
  obtain ⟨x, h1, h2⟩ := idx_get h.1 h.2
  rw [h1]
  unfold tk
  rw [h2]
  rfl
theorem tk_mem {l : List FleetTask} {i : Int} (h : Val l i) : tk l i ∈ l := by
  obtain ⟨x, h1, h2⟩ := idx_get h.1 h.2
  unfold tk
  rw [h2]
  exact List.mem_of_getElem? h2
def Foll (l : List FleetTask) (x : Int) (a b : Int) : Prop := (tk l b).From = (tk l a).To ∧ (tk l a).Arr + x ≤ (tk l b).Dep
/-- May a set that has run 't' run task 'k' next? -/
def Take (l : List FleetTask) (x : Int) (s : FleetSet) (t : List Int) (k : Int) : Prop := match t.getLast? with
  | none => (tk l k).From = s.Home
  | some a => Foll l x a k
/-- What can be reached from a state of the search. -/
inductive Reach (l : List FleetTask) (x : Int) (S : List FleetSet) (o : List Int) : Nat → Int → Nat → List (List Int) → List (List Int) → Prop
  | fin {m : Int} {f : Nat} {T : List (List Int)} : Reach l x S o o.length m f T T
  | next {i : Nat} {m : Int} {f : Nat} {T U : List (List Int)} (hi : i < o.length) (hm : m = (tk l o[i]).Units) : Reach l x S o (i + 1) 0 0 T U → Reach l x S o i m f T U
  | take {i : Nat} {m : Int} {f j : Nat} {T U : List (List Int)} {s : FleetSet} {t : List Int} (hi : i < o.length) (hm : m ≠ (tk l o[i]).Units) (hf : f ≤ j) (hs : S[j]? = some s) (ht : T[j]? = some t) (hk : Take l x s t o[i]) :
      Reach l x S o i (m + 1) (j + 1) (T.set j (t ++ [o[i]])) U → Reach l x S o i m f T U
structure Sit (l : List FleetTask) (x : Int) (S : List FleetSet) (p : FleetShop) (o : List Int) : Prop where
  turn : TurnOk l x
  n8 : l.length ≤ 8
  s7 : S.length ≤ 7
  sets : ∀ s ∈ S, OkSet p.Limit s
  shop : OkShop p
  ov : ∀ y ∈ o, Val l y
  ol : o.length = l.length
/-- The rows that stand: as many as sets, short, of tasks that there are. -/
structure Rows (l : List FleetTask) (S : List FleetSet) (q : Nat) (T : List (List Int)) : Prop where
  len : T.length = S.length
  val : ∀ t ∈ T, ∀ y ∈ t, Val l y
  short : ∀ t ∈ T, t.length ≤ q
section
variable {l : List FleetTask} {x : Int} {S : List FleetSet} {p : FleetShop} {o : List Int}
theorem row_ok (h : Sit l x S p o) {t : List Int} (hv : ∀ y ∈ t, Val l y) (hl : t.length ≤ 1000) : RowOk l t :=
  ⟨by omega, fun j v hj => ⟨tk l v, idx_tk (hv v (List.mem_of_getElem? hj)), h.turn.tasks _ (tk_mem (hv v (List.mem_of_getElem? hj)))⟩⟩
/-- The inspections that rows ask for: none, if a set cannot be inspected in time. -/
def pick (v : Int) : Option (Bool × List Int) → Option Int
  | some (true, r) => some (v + (r.length : Int))
  | _ => none
noncomputable def add1 (l : List FleetTask) (p : FleetShop) (c : Option Int) (y : FleetSet × List Int) : Option Int := c.bind fun v => pick v (mFleetPositions l y.2 y.1 p)
theorem add1_some (l : List FleetTask) (p : FleetShop) (c : Int) (s : FleetSet) (t : List Int) : add1 l p (some c) (s, t) = pick c (mFleetPositions l t s p) := by
  unfold add1
  rw [Option.bind_some]
noncomputable def costs (l : List FleetTask) (p : FleetShop) (S : List FleetSet) (T : List (List Int)) : Option Int := (S.zip T).foldl (add1 l p) (some 0)
theorem add1_true {l : List FleetTask} {p : FleetShop} {s : FleetSet} {t r : List Int} {c : Int} (h : mFleetPositions l t s p = some (true, r)) : add1 l p (some c) (s, t) = some (c + (r.length : Int)) := by
  rw [add1_some, h]
  rfl
theorem add1_false {l : List FleetTask} {p : FleetShop} {s : FleetSet} {t r : List Int} {c : Int} (h : mFleetPositions l t s p = some (false, r)) : add1 l p (some c) (s, t) = none := by
  rw [add1_some, h]
  rfl
theorem fold_none (l : List FleetTask) (p : FleetShop) : ∀ L : List (FleetSet × List Int), L.foldl (add1 l p) none = none
  | [] => rfl
  | _ :: L => fold_none l p L
theorem note_spec (h : Sit l x S p o) {q : Nat} (hq : q ≤ 1000) {T B : List (List Int)} (hT : Rows l S q T) {z : Bool} {least : Int} {zt : Bool} {a : Int} :
    (∃ c, costs l p S T = some c ∧ 0 ≤ c ∧ c ≤ 7000 ∧ mFleetGiverNote l a S p.Place p.Long p.Limit B z least o T zt = if z = true ∨ c < least then some (T, zt, c) else some (B, z, least)) ∨
    (costs l p S T = none ∧ mFleetGiverNote l a S p.Place p.Long p.Limit B z least o T zt = some (B, z, least)) := by
  unfold mFleetGiverNote
  have hl := hT.len
  have s7 := h.s7
  have hzl : (S.zip T).length = T.length := by rw [List.length_zip]; omega
  rcases forM_inv (body := mFleetGiverNote_L248 l S B T p.Place p.Long p.Limit least z) (fun k c => ((S.zip T).take k).foldl (add1 l p) (some 0) = some c ∧ 0 ≤ c ∧ c ≤ 1000 * (k : Int)) (fun t => t = (B, z, least) ∧ costs l p S T = none) T.length 0 0 ⟨rfl, by omega, by omega⟩ (fun k c _ hk hi => by
    have hk' : k < T.length := by omega
    have hks : k < S.length := by omega
    have hrow := row_ok h (hT.val _ (List.getElem_mem hk')) (by have := hT.short _ (List.getElem_mem hk'); omega)
    obtain ⟨b, r, r1, r2, _⟩ := pos_total hrow h.shop (h.sets _ (List.getElem_mem hks))
    have hsh := hT.short _ (List.getElem_mem hk')
    have etk : (S.zip T).take (k + 1) = (S.zip T).take k ++ [(S[k], T[k])] := by
      rw [List.take_succ_eq_append_getElem (by omega), List.getElem_zip]
    unfold mFleetGiverNote_L248
    rw [idx_lt hk', Option.bind_some, idx_lt hks, Option.bind_some, show (⟨p.Place, p.Long, p.Limit⟩ : FleetShop) = p from rfl, r1, pass2]
    cases b with
    | true =>
      rw [if_pos rfl, chk_ok (by omega) (by omega), Option.bind_some]
      refine .inl ⟨_, rfl, ?_, by omega, by omega⟩
      rw [etk, List.foldl_append, hi.1, List.foldl_cons, List.foldl_nil]
      exact add1_true r1
    | false =>
      rw [if_neg (by decide)]
      refine .inr ⟨_, rfl, rfl, ?_⟩
      unfold costs
      rw [← List.take_append_drop (k + 1) (S.zip T), etk, List.foldl_append, List.foldl_append, hi.1, List.foldl_cons, List.foldl_nil, add1_false r1]
      exact fold_none l p _) with ⟨c, h1, h2, h3, h4⟩ | ⟨t, h1, rfl, h3⟩
  · rw [h1, Option.bind_some]
    simp only [Sum.elim_inl]
    rw [Nat.zero_add, ← hzl, List.take_length] at h2
    refine .inl ⟨c, h2, h3, by omega, ?_⟩
    by_cases hz : z = true
    · rw [if_pos hz, Option.bind_some, if_pos rfl, room_ok (by omega) (by omega), Option.bind_some, if_pos (.inl hz)]
    · rw [if_neg hz, Option.bind_some]
      by_cases hc : c < least
      · rw [decide_eq_true hc, if_pos rfl, room_ok (by omega) (by omega), Option.bind_some, if_pos (.inr hc)]
      · rw [decide_eq_false hc, if_neg (by decide), if_neg (fun q => q.elim hz hc)]
  · rw [h1]
    exact .inr ⟨h3, rfl⟩
/-- What a search among 'R' makes of the best so far. -/
structure Said (cost : List (List Int) → Option Int) (R : List (List Int) → Prop) (B : List (List Int)) (z : Bool) (least : Int) (B' : List (List Int)) (z' : Bool) (least' : Int) : Prop where
  src : (B' = B ∧ z' = z ∧ least' = least) ∨ ∃ U, R U ∧ cost U = some least' ∧ B' = U ∧ z' = false
  low : ∀ U c, R U → cost U = some c → z' = false ∧ least' ≤ c
  mono : z = false → z' = false ∧ least' ≤ least
theorem Said.refl {cost : List (List Int) → Option Int} {R : List (List Int) → Prop} {B : List (List Int)} {z : Bool} {least : Int} (hR : ∀ U, ¬ R U) : Said cost R B z least B z least :=
  ⟨.inl ⟨rfl, rfl, rfl⟩, fun U c h => absurd h (hR U), fun h => ⟨h, Int.le_refl _⟩⟩
theorem Said.trans {cost : List (List Int) → Option Int} {R1 R2 R : List (List Int) → Prop} {B B1 B2 : List (List Int)} {z z1 z2 : Bool} {l0 l1 l2 : Int} (h1 : Said cost R1 B z l0 B1 z1 l1) (h2 : Said cost R2 B1 z1 l1 B2 z2 l2) (hR : ∀ U, R U ↔ R1 U ∨ R2 U) : Said cost R B z l0 B2 z2 l2 := by
  refine ⟨?_, fun U c hU hc => ?_, fun hz => ?_⟩
  · rcases h2.src with ⟨e1, e2, e3⟩ | ⟨U, u1, u2⟩
    · subst e1 e2 e3
      rcases h1.src with q | ⟨U, u1, u2⟩
      · exact .inl q
      · exact .inr ⟨U, (hR U).2 (.inl u1), u2⟩
    · exact .inr ⟨U, (hR U).2 (.inr u1), u2⟩
  · rcases (hR U).1 hU with q | q
    · have a := h1.low U c q hc
      have b := h2.mono a.1
      exact ⟨b.1, by omega⟩
    · exact h2.low U c q hc
  · have a := h1.mono hz
    have b := h2.mono a.1
    exact ⟨b.1, by omega⟩
theorem Said.iff {cost : List (List Int) → Option Int} {R R' : List (List Int) → Prop} {B B' : List (List Int)} {z z' : Bool} {l0 l1 : Int} (h : Said cost R B z l0 B' z' l1) (hR : ∀ U, R' U ↔ R U) : Said cost R' B z l0 B' z' l1 :=
  ⟨h.src.imp id (fun ⟨U, u1, u2⟩ => ⟨U, (hR U).2 u1, u2⟩), fun U c hU => h.low U c ((hR U).1 hU), h.mono⟩
def mu (o : List Int) (i : Nat) (m : Int) : Nat := 5 * (o.length - i) - m.toNat
structure At (l : List FleetTask) (S : List FleetSet) (o : List Int) (i : Nat) (m : Int) (f q : Nat) (T : List (List Int)) : Prop where
  rows : Rows l S q T
  il : i ≤ o.length
  m0 : 0 ≤ m
  mu : ∀ hi : i < o.length, m ≤ (tk l o[i]).Units
  f : f ≤ 7
  q : q + Go.Proofs.Ytajmocgpjkhjlaa.mu o i m ≤ 100
noncomputable abbrev give (l : List FleetTask) (x : Int) (S : List FleetSet) (p : FleetShop) (o : List Int) (N : Nat) (i : Nat) (m : Int) (f : Nat) (B : List (List Int)) (z : Bool) (least : Int) (T : List (List Int)) : Option (List (List Int) × Bool × Int × List (List Int)) := mFleetGiverGive N (i : Int) m (f : Int) l x S p.Place p.Long p.Limit B z least o T false
def GSays (l : List FleetTask) (x : Int) (S : List FleetSet) (p : FleetShop) (o : List Int) (X : Prop) (r : Option (List (List Int) × Bool × Int × List (List Int))) (i : Nat) (m : Int) (f : Nat) (B : List (List Int)) (z : Bool) (least : Int) (T : List (List Int)) : Prop :=
  (r = none ∧ X) ∨ ∃ B' z' least', r = some (B', z', least', T) ∧ Said (costs l p S) (Reach l x S o i m f T) B z least B' z' least'
theorem rows_put {q : Nat} {T : List (List Int)} (hT : Rows l S q T) {j : Nat} {t : List Int} (ht : T[j]? = some t) {k : Int} (hk : Val l k) : Rows l S (q + 1) (T.set j (t ++ [k])) := by
  have htm := List.mem_of_getElem? ht
  refine ⟨by rw [List.length_set]; exact hT.len, fun r hr y hy => ?_, fun r hr => ?_⟩
  · rcases List.mem_or_eq_of_mem_set hr with hr | rfl
    · exact hT.val r hr y hy
    · rcases List.mem_append.1 hy with hy | hy
      · exact hT.val t htm y hy
      · rw [List.mem_singleton.1 hy]; exact hk
  · rcases List.mem_or_eq_of_mem_set hr with hr | rfl
    · have := hT.short r hr; omega
    · have := hT.short t htm
      rw [List.length_append]
      simp
      omega
theorem take_cond (h : Sit l x S p o) {t : List Int} (hv : ∀ y ∈ t, Val l y) (hl : t.length ≤ 1000) {s : FleetSet} {k j : Int} (hk : Val l k) (hs : idx S j = some s) :
    ∃ b, (if (t.length : Int) = 0 then (idx l k).bind fun x14456 => (idx S j).bind fun x14466 => if x14456.From ≠ x14466.Home then some true else if 0 < (t.length : Int) then (chk ((t.length : Int) - 1)).bind fun _ => (idx t ((t.length : Int) - 1)).bind fun x14479 => (idx l x14479).bind fun x14489 => (idx l k).bind fun x14499 => (mFleetFollows x14489 x14499 x).bind fun x14509 => some (!x14509) else some false
      else if 0 < (t.length : Int) then (chk ((t.length : Int) - 1)).bind fun _ => (idx t ((t.length : Int) - 1)).bind fun x14513 => (idx l x14513).bind fun x14523 => (idx l k).bind fun x14533 => (mFleetFollows x14523 x14533 x).bind fun x14543 => some (!x14543) else some false) = some b ∧ (b = true ↔ ¬ Take l x s t k) := by
  by_cases h0 : t = []
  · subst h0
    rw [if_pos (show (([] : List Int).length : Int) = 0 from rfl), idx_tk hk, Option.bind_some, hs, Option.bind_some]
    unfold Take
    by_cases hf : (tk l k).From ≠ s.Home
    · rw [if_pos hf]
      exact ⟨true, rfl, ⟨fun _ => hf, fun _ => rfl⟩⟩
    · rw [if_neg hf, if_neg (by simp)]
      exact ⟨false, rfl, ⟨fun h => absurd h (by decide), fun h => absurd (Classical.not_not.1 hf) h⟩⟩
  · have hlen : 0 < t.length := List.length_pos_iff.2 h0
    have hlast : t.getLast? = some (t.getLast h0) := List.getLast?_eq_some_getLast h0
    have hm : t.getLast h0 ∈ t := List.getLast_mem h0
    have he : idx t ((t.length : Int) - 1) = some (t.getLast h0) := by
      rw [show (t.length : Int) - 1 = ((t.length - 1 : Nat) : Int) by omega, idx_lt (by omega), List.getLast_eq_getElem]
    obtain ⟨b, b1, b2⟩ := follows_eq (s := tk l (t.getLast h0)) (t := tk l k) (h.turn.tasks _ (tk_mem (hv _ hm))) h.turn.turn
    rw [if_neg (by omega), if_pos (by omega), chk_ok (by omega) (by omega), Option.bind_some, he, Option.bind_some, idx_tk (hv _ hm), Option.bind_some, idx_tk hk, Option.bind_some, b1, Option.bind_some]
    unfold Take
    rw [hlast]
    refine ⟨!b, rfl, ?_⟩
    show (!b) = true ↔ ¬ Foll l x (t.getLast h0) k
    unfold Foll
    rw [← b2]
    cases b <;> simp
theorem clone_eq {t : List Int} (h : t.length ≤ 1000) : mSlicesClone_2 t = some t := by
  unfold mSlicesClone_2
  rw [room_ok (by omega) (by omega)]
  rfl
end
end Go.Proofs.Ytajmocgpjkhjlaa
