import Derived.WalkKit
import Derived.OrdersHeld
import Derived.Deep.RegionHeld3
import Derived.RangeFuncRecord
import Derived.ControlIn
import Derived.TacticsIn
import Derived.OrdersIn
import Derived.RangeFuncLeaves
import Derived.WalkSpells
set_option linter.unusedVariables false
set_option linter.unusedSimpArgs false
set_option linter.unusedSectionVars false
namespace Go.Fp
theorem Ka : ∀ {α β : Type} (a : α) (f : α → Option β), (some a).bind f = f a := fun _ _ => rfl
theorem Kb : ∀ {α : Type} (l r : List α), l.Sublist (l ++ r) := List.sublist_append_left
theorem Kc : ∀ {α : Type} (l r : List α), r.Sublist (l ++ r) := List.sublist_append_right
theorem Kd : ∀ {α : Type} {a b : α}, some a = some b → a = b := Option.some.inj
theorem Ke : ∀ {α : Type} {l r : List α} (t : List α), l.Perm r → (t ++ l).Perm (t ++ r) := List.Perm.append_left
theorem Kf : ∀ {α : Type} {l : List α} {i : Nat} (h : i < l.length), l[i]? = some l[i] := List.getElem?_eq_getElem
theorem Kg : ∀ b : Bool, b = true ∨ b = false := Bool.eq_false_or_eq_true
theorem Kh : ¬ false = true := Bool.false_ne_true
end Go.Fp
namespace Go.Fp
open Go.RowKit
abbrev Env := List (Nat × Value)
abbrev Hp := List (Nat × Obj)
def look : Env → Nat → Option Value
 | [], _ => none
 | (i, v) :: t, k => match Nat.beq i k with
  | true => some v
  | false => look t k
def val (e : Env) : Operand → Option Value
 | .tmp t => look e t
 | .const v => some v
 | .global g => some (.pointer (some ⟨g, 0, none⟩))
 | .func f => some (.func (.func f) #[] #[])
def z5a (e : Env) : List Operand → Option (List Value)
 | [] => some []
 | x :: r => match val e x, z5a e r with
  | some v, some vs => some (v :: vs)
  | _, _ => none
structure q1b (w w' : World) : Prop where
 cell : ∀ (p : Addr) (v : Value), w.cell? p = some v → w'.cell? p = some v
 obj : ∀ (g : Nat) (a : Array Value) (t : TypeId) (fr : Nat × Nat), 0 < a.size → w.heap[g]? = some (.cells a t fr) → w'.heap[g]? = some (.cells a t fr)
instance {w w' : World} : CoeFun (q1b w w') (fun _ => ∀ (p : Addr) (v : Value), w.cell? p = some v → w'.cell? p = some v) := ⟨q1b.cell⟩
theorem q1b.refl (w : World) : q1b w w := ⟨fun _ _ h => h, fun _ _ _ _ _ h => h⟩
theorem q1b.trans {a b c : World} (h : q1b a b) (k : q1b b c) : q1b a c := ⟨fun p v hv => k.cell p v (h.cell p v hv), fun g x t fr hx hg => k.obj g x t fr hx (h.obj g x t fr hx hg)⟩
theorem q1b.of_obj {w w' : World} (h : ∀ (g : Nat) (a : Array Value) (t : TypeId) (fr : Nat × Nat), 0 < a.size → w.heap[g]? = some (.cells a t fr) → w'.heap[g]? = some (.cells a t fr)) : q1b w w' := by
 refine ⟨fun p v hv => ?_, h⟩
 unfold World.cell? at hv ⊢
 cases hg : w.heap[p.block]? with
 | none => rw [hg] at hv; cases hv
 | some o =>
  rw [hg] at hv
  cases o with
  | cells a t fr =>
   have h0 : 0 < a.size := by
    simp only at hv
    split at hv
    ·cases hv
    ·have := (Array.getElem?_eq_some_iff.1 hv).1; omega
   rw [h p.block a t fr h0 hg]
   exact hv
  | _ => cases hv
theorem q7B {w : World} {g : Nat} {a : Array Value} {t : TypeId} {fr : Nat × Nat} (h0 : 0 < a.size) (hg : w.heap[g]? = some (.cells a t fr)) : w.cell? ⟨g, 0, none⟩ = some a[0] := by
 simp [World.cell?, hg, h0]
structure k9 where
 w : World
 B : Nat
 dk : Hp := []
instance : Coe World k9 := ⟨fun w => ⟨w, w.heap.size, []⟩⟩
structure Own (b : k9) (hp : Hp) (w : World) : Prop where
 lo : b.B ≤ b.w.heap.size
 below : Below b.B b.w w
 keeps : q1b b.w w
 nd : (hp.map (·.1)).Nodup
 blk : ∀ g o, (g, o) ∈ hp → b.B ≤ g ∧ w.heap[g]? = some o
 hole : ∀ g o, (g, o) ∈ hp → ∀ p : Addr, p.block = g → b.w.cell? p = none
 dks : ∀ g o, (g, o) ∈ b.dk → b.B ≤ g ∧ w.heap[g]? = some o ∧ (∀ cs t fr, o ≠ .cells cs t fr) ∧ ∀ o', (g, o') ∉ hp
abbrev k9.bare (b : k9) : k9 := ⟨b.w, b.B, []⟩
abbrev k9.over (b b0 : k9) : k9 := ⟨b.w, b.B, b0.dk⟩
theorem Own.dress {b : k9} {dk : Hp} {hp : Hp} {w : World} (h : Own ⟨b.w, b.B, dk⟩ hp w) (hd : ∀ g o, (g, o) ∈ b.dk → b.B ≤ g ∧ w.heap[g]? = some o ∧ (∀ cs t fr, o ≠ .cells cs t fr) ∧ ∀ o', (g, o') ∉ hp) : Own b hp w :=
 ⟨h.lo, h.below, h.keeps, h.nd, h.blk, h.hole, hd⟩
theorem Own.bare {b : k9} {hp : Hp} {w : World} (h : Own b hp w) : Own b.bare hp w := ⟨h.lo, h.below, h.keeps, h.nd, h.blk, h.hole, fun _ _ hm => absurd hm (by simp)⟩
structure k9.Le (b b' : k9) : Prop where
 B : b'.B = b.B
 cells : q1b b.w b'.w
 dk : ∀ x ∈ b.dk, x ∈ b'.dk
 bk : ∀ hp w, Own b'.bare hp w → Own b.bare hp w
theorem k9.Le.back {b b' : k9} (h : b.Le b') (hp : Hp) (w : World) (ho : Own b' hp w) : Own b hp w :=
 (h.bk hp w ho.bare).dress fun g o hm => by rw [← h.B]; exact ho.dks g o (h.dk _ hm)
theorem k9.Le.refl (b : k9) : b.Le b := ⟨rfl, q1b.refl _, fun _ h => h, fun _ _ h => h⟩
theorem k9.Le.trans {a b c : k9} (h : a.Le b) (k : b.Le c) : a.Le c := ⟨k.B.trans h.B, h.cells.trans k.cells, fun x hx => k.dk x (h.dk x hx), fun hp w ho => h.bk hp w (k.bk hp w ho)⟩
theorem k9.Le.over {a b : k9} (h : a.Le b) : a.Le (b.over a) := ⟨h.B, h.cells, fun _ hx => hx, h.bk⟩
abbrev z4x : Obj := .deferred (some [])
def j7O (D : Nat) : Deferred := { target := .collected D, args := #[] }
structure NT where
 n : Nat
 dk : Nat × Obj → Prop
 rd : Option Nat
instance : Coe NT Nat := ⟨NT.n⟩
structure FitV (n : NT) (e : Env) (a : Act) : Prop where
 size : a.tmps.size = n.n
 get : ∀ k v, look e k = some v → a.tmps.getD k undef = v
structure Fit (n : NT) (b : k9) (e : Env) (a : Act) : Prop extends FitV n e a where
 defers : ∃ ds : List Nat, a.defers = ds.map j7O ∧ ds.Nodup ∧ ∀ D ∈ ds, (D, z4x) ∈ b.dk ∧ ∀ o, ¬ n.dk (D, o)
def q6A : Option Nat → Fence
 | none => Fence.wide
 | some l => Fence.wide.inRound l
theorem z4v (r : Option Nat) (f : FuncId) : (q6A r).fn f := by cases r <;> trivial
abbrev wpR (c : Code) (r : Option Nat) (P : Program) (Q : Exit → Act → World → Prop) (a : Act) (w : World) : Prop := c.wpIn (q6A r) 0 P Q a w
abbrev Cl (t : TypeId) (cs : List Value) : Obj := .cells cs.toArray t (0, 0)
theorem q1L (i : Nat) (v : Value) (e : Env) : look ((i, v) :: e) i = some v := by simp [look]
theorem q1K {i k : Nat} (h : i ≠ k) (v : Value) (e : Env) : look ((i, v) :: e) k = look e k := by
 have : Nat.beq i k = false := by
  cases hb : Nat.beq i k with
  | false => rfl
  | true => exact absurd (Nat.eq_of_beq_eq_true hb) h
 simp [look, this]
theorem FitV.put {m : Nat} {dk0 : Nat × Obj → Prop} {rq : Option Nat} {e : Env} {a : Act} (h : FitV (NT.mk m dk0 rq) e a) {d : Nat} (hd : Nat.blt d m = true) (v : Value) : FitV (NT.mk m dk0 rq) ((d, v) :: e) (a.put (some d) v) := by
 have hlt : d < m := by simp [Nat.blt] at hd; omega
 refine ⟨by simp [Act.put, h.size], fun k u hk => ?_⟩
 by_cases hdk : d = k
 ·subst hdk
  rw [q1L] at hk
  injection hk with hk
  subst hk
  have : d < a.tmps.size := by rw [h.size]; exact hlt
  simp [Act.put, this]
 ·rw [q1K hdk] at hk
  have := h.get k u hk
  simp [Act.put, Array.getElem?_setIfInBounds_ne hdk] at this ⊢
  exact this
theorem Fit.put {m : Nat} {dk0 : Nat × Obj → Prop} {rq : Option Nat} {b : k9} {e : Env} {a : Act} (h : Fit (NT.mk m dk0 rq) b e a) {d : Nat} (hd : Nat.blt d m = true) (v : Value) : Fit (NT.mk m dk0 rq) b ((d, v) :: e) (a.put (some d) v) := ⟨h.toFitV.put hd v, h.defers⟩
theorem FitV.eval {n : NT} {e : Env} {a : Act} (h : FitV n e a) {x : Operand} {v : Value} (hx : val e x = some v) : a.eval x = v := by
 cases x with
 | tmp t => exact h.get t v hx
 | const u => simp only [val, Option.some.injEq] at hx; exact hx
 | global g => simp only [val, Option.some.injEq] at hx; exact hx
 | func f => simp only [val, Option.some.injEq] at hx; exact hx
theorem FitV.evals {n : NT} {e : Env} {a : Act} (h : FitV n e a) : ∀ {xs : List Operand} {vs : List Value}, z5a e xs = some vs → xs.map a.eval = vs
 | [], vs, hx => by simp [z5a] at hx; simp [hx]
 | x :: r, vs, hx => by
  simp only [z5a] at hx
  split at hx
  ·rename_i v us hv hus
   injection hx with hx
   subst hx
   simp [h.eval hv, h.evals hus]
  ·cases hx
theorem Fit.eval {n : NT} {b : k9} {e : Env} {a : Act} (h : Fit n b e a) {x : Operand} {v : Value} (hx : val e x = some v) : a.eval x = v := h.toFitV.eval hx
theorem Fit.evals {n : NT} {b : k9} {e : Env} {a : Act} (h : Fit n b e a) {xs : List Operand} {vs : List Value} (hx : z5a e xs = some vs) : xs.map a.eval = vs := h.toFitV.evals hx
def Sub : Env → Env → Prop
 | [], _ => True
 | (k, v) :: t, e => look e k = some v ∧ Sub t e
theorem Sub.spec : ∀ {e' e : Env}, Sub e' e → ∀ k v, look e' k = some v → look e k = some v
 | [], _, _, k, v, hk => by simp [look] at hk
 | (i, u) :: t, e, h, k, v, hk => by
  by_cases hik : i = k
  ·subst hik
   rw [q1L] at hk
   injection hk with hk
   subst hk
   exact h.1
  ·rw [q1K hik] at hk
   exact Sub.spec h.2 k v hk
theorem Fit.le {n : NT} {b b' : k9} {e : Env} {a : Act} (h : Fit n b e a) (hle : b.Le b') : Fit n b' e a :=
 ⟨h.toFitV, h.defers.imp fun _ hd => ⟨hd.1, hd.2.1, fun D hD => ⟨hle.dk _ (hd.2.2 D hD).1, (hd.2.2 D hD).2⟩⟩⟩
theorem Fit.sub {n : NT} {b : k9} {e e' : Env} {a : Act} (h : Fit n b e a) (hs : Sub e' e) : Fit n b e' a :=
 ⟨⟨h.size, fun k v hk => h.get k v (hs.spec k v hk)⟩, h.defers⟩
theorem q4x (w : World) (p : Addr) (h : w.heap.size ≤ p.block) : w.cell? p = none := by
 simp [World.cell?, Array.getElem?_eq_none h]
section
variable {w0 : k9} {w : World} {hp : Hp}
theorem Own.start (w : World) : Own w [] w := ⟨Nat.le_refl _, Below.refl _ _, q1b.refl _, by simp, fun g o h => absurd h (by simp), fun g o h => absurd h (by simp), fun g o h => absurd h (by simp)⟩
theorem Own.lt (h : Own w0 hp w) {g : Nat} {o : Obj} (hm : (g, o) ∈ hp) : g < w.heap.size := by
 have := (h.blk g o hm).2
 rcases Nat.lt_or_ge g w.heap.size with hlt | hge
 ·exact hlt
 ·rw [Array.getElem?_eq_none hge] at this; cases this
theorem Own.sub {hp' : Hp} (h : Own w0 hp w) (hs : hp'.Sublist hp) : Own w0 hp' w :=
 ⟨h.lo, h.below, h.keeps, (hs.map _).nodup h.nd, fun g o hm => h.blk g o (hs.subset hm), fun g o hm => h.hole g o (hs.subset hm), fun g o hm => let ⟨a, b, c, d⟩ := h.dks g o hm; ⟨a, b, c, fun o' ho' => d o' (hs.subset ho')⟩⟩
theorem Own.perm {hp' : Hp} (h : Own w0 hp w) (hs : hp'.Perm hp) : Own w0 hp' w :=
 ⟨h.lo, h.below, h.keeps, (hs.map _).nodup_iff.2 h.nd, fun g o hm => h.blk g o (hs.subset hm), fun g o hm => h.hole g o (hs.subset hm), fun g o hm => let ⟨a, b, c, d⟩ := h.dks g o hm; ⟨a, b, c, fun o' ho' => d o' (hs.subset ho')⟩⟩
theorem Own.drawn (h : Own w0 hp w) (n : Nat) : Own w0 hp { w with drawn := n } := ⟨h.lo, ⟨h.below.os, h.below.tape, h.below.output, h.below.size, h.below.block⟩, ⟨h.keeps.cell, h.keeps.obj⟩, h.nd, h.blk, h.hole, h.dks⟩
theorem Own.drew (h : Own w0 hp w) : Own w0 hp w.drew := h.drawn _
theorem Own.alloc (h : Own w0 hp w) (o : Obj) : Own w0 ((w.heap.size, o) :: hp) (w.alloc o) := by
 have hsz := h.below.size
 have hlo := h.lo
 refine ⟨hlo, h.below.alloc (by omega) o, q1b.of_obj fun g a t fr h0 hg => ?_, ?_, fun g o' hm => ?_, fun g o' hm p hp' => ?_, fun g o' hm => ?_⟩
 ·have h1 := h.keeps.obj g a t fr h0 hg
  exact (Below.heap_alloc w o g (Array.getElem?_eq_some_iff.1 h1).1).trans h1
 ·simp only [List.map_cons, List.nodup_cons]
  refine ⟨fun hm => ?_, h.nd⟩
  obtain ⟨⟨g, o'⟩, hm', he⟩ := List.mem_map.1 hm
  have := h.lt hm'
  simp at he
  omega
 ·rcases List.mem_cons.1 hm with he | hm
  ·injection he with h1 h2
   subst h1; subst h2
   exact ⟨by omega, heap_alloc_new w _⟩
  ·refine ⟨(h.blk g o' hm).1, ?_⟩
   rw [Below.heap_alloc w o g (h.lt hm)]
   exact (h.blk g o' hm).2
 ·rcases List.mem_cons.1 hm with he | hm
  ·injection he with h1 h2
   exact q4x _ _ (by omega)
  ·exact h.hole g o' hm p hp'
 ·obtain ⟨d1, d2, d3, d4⟩ := h.dks g o' hm
  have hlt : g < w.heap.size := (Array.getElem?_eq_some_iff.1 d2).1
  refine ⟨d1, (Below.heap_alloc w o g hlt).trans d2, d3, fun o'' hm' => ?_⟩
  rcases List.mem_cons.1 hm' with he | hm'
  ·injection he with h1 h2
   omega
  ·exact d4 o'' hm'
theorem Own.grow {hp' : Hp} {w' : World} (h : Own w0 hp w) (h' : Own w hp' w') : Own w0 (hp' ++ hp) w' := by
 have hsz := h.below.size
 have hlo := h.lo
 refine ⟨hlo, h.below.trans (h'.below.mono (show w0.B ≤ w.heap.size by omega)), h.keeps.trans h'.keeps, ?_, fun g o hm => ?_, fun g o hm p hp => ?_, fun g o hm => ?_⟩
 ·rw [List.map_append, List.nodup_append]
  refine ⟨h'.nd, h.nd, fun a ha b hb hab => ?_⟩
  obtain ⟨⟨g, o⟩, hm, he⟩ := List.mem_map.1 ha
  obtain ⟨⟨g2, o2⟩, hm2, he2⟩ := List.mem_map.1 hb
  have h1 : w.heap.size ≤ g := (h'.blk g o hm).1
  have h2 := h.lt hm2
  simp at he he2
  omega
 ·rcases List.mem_append.1 hm with hm | hm
  ·have h1 : w.heap.size ≤ g := (h'.blk g o hm).1
   exact ⟨by omega, (h'.blk g o hm).2⟩
  ·refine ⟨(h.blk g o hm).1, ?_⟩
   rw [h'.below.block g (h.lt hm)]
   exact (h.blk g o hm).2
 ·rcases List.mem_append.1 hm with hm | hm
  ·have h1 : w.heap.size ≤ g := (h'.blk g o hm).1
   exact q4x _ _ (by omega)
  ·exact h.hole g o hm p hp
 ·obtain ⟨d1, d2, d3, d4⟩ := h.dks g o hm
  have hlt : g < w.heap.size := (Array.getElem?_eq_some_iff.1 d2).1
  refine ⟨d1, (h'.below.block g hlt).trans d2, d3, fun o' hm' => ?_⟩
  rcases List.mem_append.1 hm' with hm' | hm'
  ·have h1 : w.heap.size ≤ g := (h'.blk g o' hm').1
   omega
  ·exact d4 o' hm'
theorem Own.turn {w' : World} {i g : Nat} {o o' : Obj} (h : Own w0 hp w) (hi : hp[i]? = some (g, o))
  (hos : w'.os = w.os) (htape : w'.tape = w.tape) (hout : w'.output = w.output) (hsz : w'.heap.size = w.heap.size) (hg : w'.heap[g]? = some o')
  (hoth : ∀ k, k ≠ g → w'.heap[k]? = w.heap[k]?) : Own w0 (hp.set i (g, o')) w' := by
 have hmem : (g, o) ∈ hp := List.mem_of_getElem? hi
 have hbase := (h.blk g o hmem).1
 have hil : i < hp.length := (List.getElem?_eq_some_iff.1 hi).1
 have hig : hp[i] = (g, o) := (List.getElem?_eq_some_iff.1 hi).2
 have hmap : (hp.set i (g, o')).map (·.1) = hp.map (·.1) := by
  apply List.ext_getElem?
  intro k
  by_cases hk : i = k
  ·subst hk; simp [hil, hig]
  ·simp [List.getElem?_set_ne hk]
 have part : ∀ k x, (k, x) ∈ hp.set i (g, o') → (k = g ∧ x = o') ∨ ((k, x) ∈ hp ∧ k ≠ g) := by
  intro k x hm
  obtain ⟨j, hj⟩ := List.mem_iff_getElem?.1 hm
  by_cases hij : i = j
  ·subst hij
   simp [hil] at hj
   exact .inl ⟨hj.1.symm, hj.2.symm⟩
  ·rw [List.getElem?_set_ne hij] at hj
   have hm' := List.mem_of_getElem? hj
   refine .inr ⟨hm', ?_⟩
   rintro rfl
   have hnd := h.nd
   have e1 : (hp.map (·.1))[i]? = some k := by simp [hi]
   have e2 : (hp.map (·.1))[j]? = some k := by simp [hj]
   exact hij ((List.getElem?_inj (by simpa using hil) hnd).1 (e1.trans e2.symm))
 refine ⟨h.lo, h.below.trans ⟨hos, htape, hout, by omega, fun k hk => hoth k (by omega)⟩, q1b.of_obj fun k a t fr h0 hk => ?_, by rw [hmap]; exact h.nd, fun k x hm => ?_, fun k x hm p hp => ?_, fun k x hm => ?_⟩
 ·have hne : k ≠ g := fun he => by
   have := h.hole g o hmem ⟨k, 0, none⟩ he
   rw [q7B h0 hk] at this
   cases this
  exact (hoth k hne).trans (h.keeps.obj k a t fr h0 hk)
 ·rcases part k x hm with ⟨rfl, rfl⟩ | ⟨hm', hne⟩
  ·exact ⟨hbase, hg⟩
  ·exact ⟨(h.blk k x hm').1, (hoth k hne).trans (h.blk k x hm').2⟩
 ·rcases part k x hm with ⟨rfl, rfl⟩ | ⟨hm', hne⟩
  ·exact h.hole k o hmem p hp
  ·exact h.hole k x hm' p hp
 ·obtain ⟨d1, d2, d3, d4⟩ := h.dks k x hm
  have hne : k ≠ g := fun he => d4 o (he ▸ hmem)
  refine ⟨d1, (hoth k hne).trans d2, d3, fun o'' hm' => ?_⟩
  rcases part k o'' hm' with ⟨he, _⟩ | ⟨hm'', _⟩
  ·exact hne he
  ·exact d4 o'' hm''
theorem Own.cell {i g : Nat} {t : TypeId} {cs : List Value} (h : Own w0 hp w) (hi : hp[i]? = some (g, Cl t cs)) (k : Nat) : w.cell? ⟨g, k, none⟩ = cs[k]? := by
 have := (h.blk g _ (List.mem_of_getElem? hi)).2
 simp [World.cell?, this]
theorem Own.frozen {i g : Nat} {t : TypeId} {cs : List Value} (h : Own w0 hp w) (hi : hp[i]? = some (g, Cl t cs)) (k : Nat) : w.frozen? ⟨g, k, none⟩ = false := by
 have := (h.blk g _ (List.mem_of_getElem? hi)).2
 simp [World.frozen?, this]
theorem Own.set {i g : Nat} {t : TypeId} {cs : List Value} (h : Own w0 hp w) (hi : hp[i]? = some (g, Cl t cs)) (k : Nat) (v : Value) :
  Own w0 (hp.set i (g, Cl t (cs.set k v))) (w.setCell ⟨g, k, none⟩ v) := by
 have hb := (h.blk g _ (List.mem_of_getElem? hi)).2
 refine h.turn hi rfl rfl rfl (by simp) ?_ (fun j hj => Below.heap_setCell w ⟨g, k, none⟩ v j hj)
 simp [World.setCell, Array.getElem?_modify, hb]
theorem Own.old (h : Own w0 hp w) {p : Addr} {v : Value} (hc : w0.w.cell? p = some v) : w.cell? p = some v := h.keeps p v hc
end
def q4P (w : World) (ks : List Nat) : World := { w with heap := ks.foldl (fun h k => h.setIfInBounds k (.map #[] 0)) w.heap }
theorem z2z (ks : List Nat) : ∀ h : Array Obj, (ks.foldl (fun h k => h.setIfInBounds k (.map #[] 0)) h).size = h.size := by
 induction ks with
 | nil => intro h; rfl
 | cons k r ih => intro h; simp [ih]
theorem q3h (ks : List Nat) (j : Nat) (hj : j ∉ ks) : ∀ h : Array Obj, (ks.foldl (fun h k => h.setIfInBounds k (.map #[] 0)) h)[j]? = h[j]? := by
 induction ks with
 | nil => intro h; rfl
 | cons k r ih =>
  intro h
  simp only [List.mem_cons, not_or] at hj
  rw [List.foldl_cons, ih hj.2, Array.getElem?_setIfInBounds_ne (Ne.symm hj.1)]
theorem j1H (ks : List Nat) (j : Nat) : ∀ h : Array Obj, (j ∈ ks ∨ h[j]? = some (.map #[] 0) ∨ h[j]? = none) → (ks.foldl (fun h k => h.setIfInBounds k (.map #[] 0)) h)[j]? = some (.map #[] 0) ∨ (ks.foldl (fun h k => h.setIfInBounds k (.map #[] 0)) h)[j]? = none := by
 induction ks with
 | nil => intro h hj; rcases hj with hj | hj; cases hj; exact hj
 | cons k r ih =>
  intro h hj
  rw [List.foldl_cons]
  apply ih
  by_cases hk : k = j
  ·subst hk
   rcases Nat.lt_or_ge k h.size with hlt | hge
   ·exact .inr (.inl (by simp [hlt]))
   ·exact .inr (.inr (by simp [hge]))
  ·rcases hj with hj | hj
   ·rcases List.mem_cons.1 hj with hj | hj
    ·exact absurd hj.symm hk
    ·exact .inl hj
   ·rw [Array.getElem?_setIfInBounds_ne hk]; exact .inr hj
theorem z2A {w : World} {ks : List Nat} {p : Addr} {v : Value} : (q4P w ks).cell? p = some v ↔ (w.cell? p = some v ∧ p.block ∉ ks) := by
 by_cases hk : p.block ∈ ks
 ·have := j1H ks p.block w.heap (.inl hk)
  constructor
  ·intro h
   simp only [q4P, World.cell?] at h
   rcases this with e | e <;> rw [e] at h <;> cases h
  ·intro h; exact absurd hk h.2
 ·have := q3h ks p.block hk w.heap
  simp [q4P, World.cell?, this, hk]
theorem Own.freeze {w0 : k9} {w : World} {fz hm : Hp} (h : Own w0 (fz ++ hm) w) :
  Own ⟨q4P w (hm.map (·.1)), w0.B, w0.dk⟩ hm w ∧ w0.Le ⟨q4P w (hm.map (·.1)), w0.B, w0.dk⟩ ∧ ∀ x ∈ fz, (q4P w (hm.map (·.1))).heap[x.1]? = some x.2 := by
 have hsub : hm.Sublist (fz ++ hm) := Kc fz hm
 have hlow : ∀ k, k < w0.B → k ∉ hm.map (·.1) := fun k hk hm' => by
  obtain ⟨⟨g, o⟩, hx, he⟩ := List.mem_map.1 hm'
  have := (h.blk g o (hsub.subset hx)).1
  simp at he
  omega
 have hbel : Below w0.B w0.w (q4P w (hm.map (·.1))) := ⟨h.below.os, h.below.tape, h.below.output, by simpa [q4P, z2z] using h.below.size, fun k hk => (q3h _ k (hlow k hk) w.heap).trans (h.below.block k hk)⟩
 have hsz : (q4P w (hm.map (·.1))).heap.size = w.heap.size := by simp [q4P, z2z]
 have hcells : q1b w0.w (q4P w (hm.map (·.1))) := q1b.of_obj fun k a t fr h0 hk => by
  have hne : k ∉ hm.map (·.1) := fun hp => by
   obtain ⟨⟨g, o⟩, hx, he⟩ := List.mem_map.1 hp
   have := h.hole g o (hsub.subset hx) ⟨k, 0, none⟩ he.symm
   rw [q7B h0 hk] at this
   cases this
  exact (q3h _ k hne w.heap).trans (h.keeps.obj k a t fr h0 hk)
 refine ⟨⟨?_, ⟨rfl, rfl, rfl, by rw [hsz]; exact Nat.le_refl _, fun k hk => (q3h _ k (hlow k hk) w.heap).symm⟩, q1b.of_obj (fun k a t fr h0 hk => ?_), (hsub.map _).nodup h.nd, fun g o hx => h.blk g o (hsub.subset hx), fun g o hx p hp => ?_, (h.sub hsub).dks⟩, ⟨rfl, hcells, fun _ hx => hx, fun hp2 w2 ho => ?_⟩, fun x hx => ?_⟩
 ·have h1 := h.lo
  have h2 := h.below.size
  show w0.B ≤ (q4P w (hm.map (·.1))).heap.size
  omega
 ·have h1 := (z2A.1 (q7B h0 hk)).2
  exact (q3h _ k h1 w.heap).symm.trans hk
 ·cases hc : (q4P w (hm.map (·.1))).cell? p with
  | none => rfl
  | some v => exact absurd (List.mem_map.2 ⟨(g, o), hx, hp.symm⟩) (z2A.1 hc).2
 ·refine ⟨h.lo, hbel.trans ho.below, hcells.trans ho.keeps, ho.nd, ho.blk, fun g o hx p hp => ?_, fun _ _ hm => absurd hm (by simp)⟩
  cases hc : w0.w.cell? p with
  | none => rfl
  | some v =>
   have := ho.hole g o hx p hp
   rw [hcells.cell p v hc] at this
   cases this
 ·have hnd := h.nd
  rw [List.map_append, List.nodup_append] at hnd
  have hne : x.1 ∉ hm.map (·.1) := fun hm' => hnd.2.2 x.1 (List.mem_map.2 ⟨x, hx, rfl⟩) x.1 hm' rfl
  have := q3h (hm.map (·.1)) x.1 hne w.heap
  simp only [q4P]
  rw [this]
  exact (h.blk x.1 x.2 (List.mem_append_left _ hx)).2
def z5z (l : List Oper) : Bool := l.all fun o => match o.op with
 | .defer _ => false
 | _ => true
def okR (r : Option Nat) (l : List Oper) : Bool := match r with
 | none => true
 | some _ => z5z l
theorem z5y {l : List Oper} (h : z5z l = true) {o : Oper} (ho : o ∈ l) : ∀ c, o.op ≠ .defer c := fun c he => by
 have := List.all_eq_true.1 h o ho
 rw [he] at this
 cases this
theorem j0W {r : Option Nat} {m : Nat} {P : Program} {row : String} {args : Array Value} {w : World} {R : Value → World → Prop} (h : Rows P row args w R) : RowsIn (q6A r) m P row args w R := fun c cs _ =>
 let ⟨v, w', hr, hs⟩ := h c cs
 ⟨v, w', hr, (StepsIn.of_steps hs).mono fun m _ => by cases r with
  | none => exact fenced_wide P m
  | some l => exact fenced_wide P m⟩
theorem z8T {P : Program} {o : Oper} {a : Act} {w : World} {K : Act → World → Prop} {Q : Exit → Act → World → Prop} (h : o.wp P a w K Q) : o.wpIn Fence.wide 0 P a w K Q := by
 refine ⟨fun f _ => trivial, ?_⟩
 show o.uponIn Fence.wide 0 P a K Q ((o.semAt none a.eval).run P w)
 rw [Oper.semAt_none]
 unfold Oper.wp at h
 generalize (execOp a.eval o).run P w = x at h
 have hz : Fence.wide.depth.isSome = true → 1 ≤ 0 := fun hd => by cases hd
 cases x with
 | ok y w' =>
  cases y with
  | value v => exact h
  | skip => exact h
  | defer d => exact h
  | enter f args => exact ⟨hz, callsIn_wide.2 (Calls.mono h (fun e w'' he => by cases e <;> exact he))⟩
  | row f args => exact ⟨hz, j0W (r := none) (Rows.mono h (fun _ _ he => he))⟩
  | _ => exact (show False from h).elim
 | halt y w' => cases y <;> first | exact h | exact (show False from h).elim
theorem j2k {P : Program} {r : Option Nat} {l : List Oper} (hl : okR r l = true) {o : Oper} (ho : o ∈ l) {a : Act} {w : World} {K K' : Act → World → Prop} {Q : Exit → Act → World → Prop} (hK : ∀ a w, K a w → K' a w) (h : o.wpIn Fence.wide 0 P a w K Q) : o.wpIn (q6A r) 0 P a w K' Q := by
 have h := Oper.wpIn_mono hK h
 cases r with
 | none => exact h
 | some q =>
  obtain ⟨h1, h2⟩ := h
  refine ⟨h1, ?_⟩
  have e1 : o.semAt (q6A (some q)).round a.eval = execOp a.eval o := Oper.semAt_some q a.eval o (z5y hl ho)
  have e2 : o.semAt Fence.wide.round a.eval = execOp a.eval o := Oper.semAt_none a.eval o
  rw [e1]
  rw [e2] at h2
  generalize (execOp a.eval o).run P w = x at h2
  cases x with
  | ok y w' => cases y <;> exact h2
  | halt y w' => cases y <;> exact h2
def q3J (P : Program) (ops : Array Oper) (Q : Exit → Act → World → Prop) : List Oper → Act → World → Prop
 | [], a, w => Q .normal a w
 | o :: rest, a, w => if Region.wanted o (yielded ops a.tmps) then o.wpIn Fence.wide 0 P a w (q3J P ops Q rest) Q ∧ True else q3J P ops Q rest (a.put o.dst undef) w
theorem q6h {P : Program} {ops : Array Oper} {Q : Exit → Act → World → Prop} {a : Act} {w : World} {rest : List Oper} {o : Oper} (hg : o.guard = none)
  (h : ∀ K : Act → World → Prop, (∀ a w, q3J P ops Q rest a w → K a w) → o.wpIn Fence.wide 0 P a w K Q) : q3J P ops Q (o :: rest) a w := by
 unfold q3J
 rw [if_pos (by simp [Region.wanted, hg])]
 exact ⟨h _ fun _ _ h => h, trivial⟩
theorem q3T {P : Program} {ops : Array Oper} {Q : Exit → Act → World → Prop} {a : Act} {w : World} {rest : List Oper} {o : Oper} (hg : o.guard = none)
  (h : ∀ K : Act → World → Prop, (∀ a w, q3J P ops Q rest a w → K a w) → o.wp P a w K Q) : q3J P ops Q (o :: rest) a w := q6h hg fun K hK => z8T (h K hK)
theorem z5D {P : Program} {r : Option Nat} {ops : Array Oper} {Q : Exit → Act → World → Prop} : ∀ (l : List Oper), okR r l = true → ∀ (a : Act) (w : World), q3J P ops Q l a w → wpListIn (q6A r) 0 P ops Q l a w
 | [], _, _, _, h => h
 | o :: rest, hl, a, w, h => by
  have hr : okR r rest = true := by
   cases r with
   | none => rfl
   | some k => simp only [okR, z5z, List.all_cons, Bool.and_eq_true] at hl ⊢; exact hl.2
  unfold q3J at h
  unfold wpListIn
  split at h
  ·rename_i hw
   rw [if_pos hw]
   exact j2k hl (List.mem_cons_self ..) (fun a w h => z5D rest hr a w h) h.1
  ·rename_i hw
   rw [if_neg hw]
   exact ⟨fun f _ => z4v r f, z5D rest hr _ _ h⟩
def SLc (P : Program) (n : NT) (w0 : k9) (Q : Exit → Act → World → Prop) (c : Code) (e : Env) (hp : Hp) : Prop :=
 ∀ a w, Fit n w0 e a → Own w0 hp w → wpR c n.rd P Q a w
def SLx (n : NT) (w0 : k9) (Q : Exit → Act → World → Prop) (x : Exit) (e : Env) (hp : Hp) : Prop :=
 ∀ a w, Fit n w0 e a → Own w0 hp w → Q x a w
def SLo (P : Program) (n : NT) (w0 : k9) (ops : Array Oper) (Q : Exit → Act → World → Prop) (l : List Oper) (e : Env) (hp : Hp) : Prop :=
 ∀ a w, Fit n w0 e a → Own w0 hp w → q3J P ops Q l a w
section
variable {P : Program} {n : NT} {m : Nat} {dk0 : Nat × Obj → Prop} {rq : Option Nat} {w0 : k9} {Q : Exit → Act → World → Prop} {e : Env} {hp : Hp}
theorem q3F {x y : Code} (h : SLc P n w0 (Exit.then (wpR y n.rd P Q) Q) x e hp) : SLc P n w0 Q (.seq x y) e hp := fun a w hf ho => wpIn_seq (h a w hf ho)
theorem q4z (h : SLx n w0 Q .normal e hp) : SLc P n w0 Q .skip e hp := fun a w hf ho => wpIn_skip (h a w hf ho)
theorem q4B (h : SLx n w0 Q .ret e hp) : SLc P n w0 Q .ret e hp := fun a w hf ho => wpIn_ret (h a w hf ho)
theorem z2C {id : Nat} (h : SLx n w0 Q (.exit id) e hp) : SLc P n w0 Q (.exit id) e hp := fun a w hf ho => wpIn_exit (h a w hf ho)
theorem q7C {id : Nat} {c : Code} (h : SLc P n w0 (Exit.inBlock id Q) c e hp) : SLc P n w0 Q (.block id c) e hp := fun a w hf ho => wpIn_block (h a w hf ho)
theorem z7j {c : Operand} {x y : Code} (b : Bool) (hc : val e c = some (.bool b)) (ht : b = true → SLc P n w0 Q x e hp) (hf : b = false → SLc P n w0 Q y e hp) : SLc P n w0 Q (.cond c x y) e hp :=
 fun a w hfit ho => wpIn_cond_split (hfit.eval hc) (fun h => ht h a w hfit ho) (fun h => hf h a w hfit ho)
theorem k7 {c : Operand} {x y : Code} (hc : val e c = some (.bool true)) (h : SLc P n w0 Q x e hp) : SLc P n w0 Q (.cond c x y) e hp :=
 fun a w hf ho => wpIn_cond_true (hf.eval hc) (h a w hf ho)
theorem w9 {c : Operand} {x y : Code} (hc : val e c = some (.bool false)) (h : SLc P n w0 Q y e hp) : SLc P n w0 Q (.cond c x y) e hp :=
 fun a w hf ho => wpIn_cond_false (hf.eval hc) (h a w hf ho)
theorem q0I {id : Nat} {l : List Oper} (h : SLo P n w0 l.toArray Q l e hp) (hl : okR n.rd l = true := by rfl) : SLc P n w0 Q (.region id l.toArray false) e hp :=
 fun a w hf ho => wpIn_region_lit (z5D l hl a w (h a w hf ho))
theorem Q9 {y : Code} (h : SLc P n w0 Q y e hp) : SLx n w0 (Exit.then (wpR y n.rd P Q) Q) .normal e hp := h
theorem q2i {K : Act → World → Prop} {id : Nat} (h : SLx n w0 Q (.exit id) e hp) : SLx n w0 (Exit.then K Q) (.exit id) e hp := h
theorem X9 {K : Act → World → Prop} (h : SLx n w0 Q .ret e hp) : SLx n w0 (Exit.then K Q) .ret e hp := h
theorem q0R {id : Nat} (h : SLx n w0 Q .normal e hp) : SLx n w0 (Exit.inBlock id Q) .normal e hp := h
theorem q2j {id : Nat} (h : SLx n w0 Q .ret e hp) : SLx n w0 (Exit.inBlock id Q) .ret e hp := h
theorem q2X {id : Nat} (h : SLx n w0 Q .normal e hp) : SLx n w0 (Exit.inBlock id Q) (.exit id) e hp :=
 fun a w hf ho => by simpa [Exit.inBlock] using h a w hf ho
theorem q8P {id id' : Nat} (hne : Nat.beq id' id = false) (h : SLx n w0 Q (.exit id') e hp) : SLx n w0 (Exit.inBlock id Q) (.exit id') e hp :=
 fun a w hf ho => by
  have : id' ≠ id := Nat.ne_of_beq_eq_false hne
  simpa [Exit.inBlock, this] using h a w hf ho
end
end Go.Fp
namespace Go.Fp
open Go.RowKit
def Z0 (P : Program) (n : NT) (w0 : k9) (op : Op) (ty : TypeId) (e : Env) (hp : Hp) (v : Value) : Prop :=
 ∀ a w, FitV n e a → Own w0 hp w → ∀ d pos af g, (execOp a.eval ⟨d, op, ty, pos, af, g⟩).run P w = .ok (.value v) w
def putE (d : Option Tmp) (v : Value) (e : Env) : Env := match d with
 | some k => (k, v) :: e
 | none => e
def okD (d : Option Tmp) (n : Nat) : Bool := match d with
 | some k => Nat.blt k n
 | none => true
structure q5c (P : Program) (n : NT) (w0 : k9) (op : Op) (ty : TypeId) (e : Env) (hp : Hp) (Ψ : Value → Hp → Prop) : Prop where
 out : ∀ a w, Fit n w0 e a → Own w0 hp w → ∀ d pos af g (K : Act → World → Prop) (Q : Exit → Act → World → Prop),
  (∀ v hp' w', Ψ v hp' → Own w0 hp' w' → K (a.put d v) w') → Oper.wp P ⟨d, op, ty, pos, af, g⟩ a w K Q
section
variable {P : Program} {n : NT} {m : Nat} {dk0 : Nat × Obj → Prop} {rq : Option Nat} {w0 : k9} {ops : Array Oper} {Q : Exit → Act → World → Prop} {e : Env} {hp : Hp} {op : Op} {ty : TypeId} {d : Option Tmp} {pos : String} {af : Array Edge} {rest : List Oper}
theorem Fit.putE {a : Act} (h : Fit (NT.mk m dk0 rq) w0 e a) (hd : okD d m = true) (v : Value) : Fit (NT.mk m dk0 rq) w0 (putE d v e) (a.put d v) := by
 cases d with
 | none => exact h
 | some k => exact h.put hd v
theorem Z0.does {v : Value} (h : Z0 P n w0 op ty e hp v) : q5c P n w0 op ty e hp (fun v' hp' => v' = v ∧ hp' = hp) := by
 refine ⟨fun a w hf ho d pos af g K Q hK => ?_⟩
 simp only [Oper.wp, h a w hf.toFitV ho, Oper.upon]
 exact hK v hp w ⟨rfl, rfl⟩ ho
theorem q7d (h : SLx n w0 Q .normal e hp) : SLo P n w0 ops Q [] e hp := fun a w hf ho => h a w hf ho
theorem z2i {Ψ : Value → Hp → Prop} (hd : okD d m = true) (hdo : q5c P (NT.mk m dk0 rq) w0 op ty e hp Ψ) (h : ∀ v hp', Ψ v hp' → SLo P (NT.mk m dk0 rq) w0 ops Q rest (putE d v e) hp') :
  SLo P (NT.mk m dk0 rq) w0 ops Q (⟨d, op, ty, pos, af, none⟩ :: rest) e hp := fun a w hf ho =>
 q3T rfl fun K hK => hdo.out a w hf ho d pos af none K Q fun v hp' _ hΨ ho' => hK _ _ (h v hp' hΨ _ _ (hf.putE hd v) ho')
theorem q7s {v : Value} {k : Nat} (hd : Nat.blt k m = true) (hst : Z0 P (NT.mk m dk0 rq) w0 op ty e hp v) (h : SLo P (NT.mk m dk0 rq) w0 ops Q rest ((k, v) :: e) hp) :
  SLo P (NT.mk m dk0 rq) w0 ops Q (⟨some k, op, ty, pos, af, none⟩ :: rest) e hp :=
 z2i (d := some k) hd hst.does (fun v' hp' ⟨h1, h2⟩ => by subst h1; subst h2; exact h)
theorem q6i {a : Act} {j dj : Nat} {b b' : Bool} (hf : Fit (NT.mk m dk0 rq) w0 e a) (hj : (ops[j]?).bind (·.dst) = some dj) (hl : look e dj = some (.bool b')) (o : Oper) (ho : o.guard = some (j, b)) (hdj : Nat.blt dj m = true) :
  Region.wanted o (yielded ops a.tmps) = (b' == b) := by
 have hg := hf.get dj _ hl
 have hlt : dj < a.tmps.size := by rw [show a.tmps.size = m from hf.size]; simp [Nat.blt] at hdj; omega
 have hg' : a.tmps[dj]? = some (.bool b') := by
  rw [Array.getElem?_eq_getElem hlt]
  simp [hlt] at hg
  rw [hg]
 have hy : yielded ops a.tmps j = some b' := by simp [yielded, hj, hg']
 simp [Region.wanted, ho, hy]
def isB (v : Value) (b : Bool) : Bool := match v with
 | .bool b' => b' == b
 | _ => false
theorem z2e {a : Act} {j dj : Nat} {b : Bool} {v : Value} (hf : Fit (NT.mk m dk0 rq) w0 e a) (hj : (ops[j]?).bind (·.dst) = some dj) (hl : look e dj = some v) (o : Oper) (ho : o.guard = some (j, b)) (hdj : Nat.blt dj m = true) :
  Region.wanted o (yielded ops a.tmps) = isB v b := by
 have hg := hf.get dj _ hl
 have hlt : dj < a.tmps.size := by rw [show a.tmps.size = m from hf.size]; simp [Nat.blt] at hdj; omega
 have hg' : a.tmps[dj]? = some v := by
  rw [Array.getElem?_eq_getElem hlt]
  simp [hlt] at hg
  rw [hg]
 clear hg hl
 simp only [Region.wanted, ho, yielded, hj, Ka, hg']
 cases v <;> simp [isB]
theorem j6G {j : Nat} (dj : Nat) {b : Bool} (hj : (ops[j]?).bind (·.dst) = some dj) (hl : look e dj = some (.bool b)) (hdj : Nat.blt dj m = true)
  (h : SLo P (NT.mk m dk0 rq) w0 ops Q (⟨d, op, ty, pos, af, none⟩ :: rest) e hp) : SLo P (NT.mk m dk0 rq) w0 ops Q (⟨d, op, ty, pos, af, some (j, b)⟩ :: rest) e hp := fun a w hf ho => by
 have hw := q6i (ops := ops) hf hj hl ⟨d, op, ty, pos, af, some (j, b)⟩ rfl hdj
 have hh := h a w hf ho
 unfold q3J at hh ⊢
 rw [if_pos (by simpa using hw)]
 rw [if_pos (by simp [Region.wanted])] at hh
 exact hh
theorem j7B {j : Nat} (dj : Nat) {b : Bool} {v : Value} (hj : (ops[j]?).bind (·.dst) = some dj) (hl : look e dj = some v) (hdj : Nat.blt dj m = true) (hb : isB v b = false) (hd : okD d m = true)
  (h : SLo P (NT.mk m dk0 rq) w0 ops Q rest (putE d undef e) hp) : SLo P (NT.mk m dk0 rq) w0 ops Q (⟨d, op, ty, pos, af, some (j, b)⟩ :: rest) e hp := fun a w hf ho => by
 have hw := z2e (ops := ops) hf hj hl ⟨d, op, ty, pos, af, some (j, b)⟩ rfl hdj
 unfold q3J
 rw [if_neg (by rw [hw, hb]; simp)]
 exact h _ _ (hf.putE hd undef) ho
def j0B (Q : Exit → Act → World → Prop) : Exit → Act → World → Prop
 | .panic _, _, _ => False
 | .outgrown, _, _ => False
 | e, a, w => Q e a w
theorem j0B.imp {Q : Exit → Act → World → Prop} : ∀ (e : Exit) (a : Act) (w : World), j0B Q e a w → Q e a w := fun e a w h => by
 cases e <;> first | exact h | exact (h : False).elim
theorem j4t {r : Option Nat} {l : List Oper} (hl : okR r l = true) {i : Nat} {K K' : Act → World → Prop} {a : Act} {w : World} (hK : ∀ a w, K a w → K' a w) (h : wpOp P l.toArray (j0B Q) i K a w) : wpOpIn (q6A r) 0 P l.toArray (j0B Q) i K' a w := by
 unfold wpOp at h
 unfold wpOpIn
 split at h
 ·rename_i ho
  simp only [ho]
  exact hK _ _ h
 ·rename_i o ho
  simp only [ho]
  split at h
  ·rename_i hw
   rw [if_pos hw]
   rcases h with h | ⟨_, _, _, h⟩
   ·exact j2k hl (List.mem_of_getElem? (by simpa using ho)) hK (z8T h)
   ·exact h.elim
  ·rename_i hw
   rw [if_neg hw]
   exact ⟨fun f _ => z4v r f, hK _ _ h⟩
theorem z8n {r : Option Nat} {l : List Oper} (hl : okR r l = true) {md : Region.Mode} : ∀ (fuel : Nat) (listed : Array Bool) (a : Act) (w : World), wpAny P md l.toArray (j0B Q) fuel listed a w → wpAnyIn (q6A r) 0 P md l.toArray (j0B Q) fuel listed a w
 | 0, _, _, _, h => h
 | fuel + 1, _, _, _, h => ⟨h.1, fun i hi => j4t hl (fun a w h => z8n hl fuel _ a w h) (h.2 i hi)⟩
def opK : Op → Nat
 | .move _ => 0
 | .assign _ => 0
 | .pick _ _ _ => 0
 | .alloc _ => 0
 | .box _ _ => 0
 | .build _ _ => 0
 | .buildSlice _ _ _ => 0
 | .nilCheck _ => 0
 | .binOp _ _ _ _ _ => 0
 | .unOp _ _ _ => 0
 | .convert _ _ _ => 0
 | .makeInterface _ _ => 0
 | .makeFunc _ _ _ => 0
 | .makeMap _ _ => 0
 | .makeSlice _ _ _ => 0
 | .slice _ _ _ _ _ => 0
 | .fieldAddr _ _ _ => 0
 | .field _ _ _ => 0
 | .indexAddr _ _ _ => 0
 | .index _ _ _ => 0
 | .extract _ _ => 0
 | .load _ _ => 1
 | .lookup _ _ _ _ => 1
 | .call c => match c.callee with
  | .builtin .len => 0
  | .builtin .cap => 0
  | .builtin .min => 0
  | .builtin .max => 0
  | _ => 2
 | _ => 2
def q9g (md : Region.Mode) (ops : Array Oper) (i : Nat) : Bool :=
 ((ops[i]?).map fun o => Nat.beq (opK o.op) 2 && o.guard.isNone && (List.range ops.size).all fun k => Nat.beq k i || !((ops[k]?).map fun o => Nat.beq (opK o.op) 1).getD false || o.after.any fun e => Region.binds md e && Nat.beq e.on k).getD false
def q4m (md : Region.Mode) (ops : Array Oper) (listed : Array Bool) : Bool :=
 (List.range ops.size).all fun i => !(listed.getD i false) || !(q9g md ops i)
def q6C (md : Region.Mode) (ops : Array Oper) (listed : Array Bool) : Bool :=
 (List.range ops.size).all fun i => !(listed.getD i false) || ((ops[i]?).map fun o => o.after.all fun e => !(Region.binds md e) || listed.getD e.on false).getD true
theorem z7P {md : Region.Mode} {i k : Nat} {oi ok : Oper} (hi : ops[i]? = some oi) (h : q9g md ops i = true) (hk : ops[k]? = some ok) (hm : opK ok.op = 1) (hki : k ≠ i) : ∃ e ∈ oi.after, Region.binds md e = true ∧ e.on = k := by
 unfold q9g at h
 rw [hi] at h
 simp only [Option.map_some, Option.getD_some, Bool.and_eq_true] at h
 have h1 := List.all_eq_true.1 h.2 k (List.mem_range.2 (Array.getElem?_eq_some_iff.1 hk).1)
 have hb : Nat.beq k i = false := by
  cases hb : Nat.beq k i with
  | false => rfl
  | true => exact absurd (Nat.eq_of_beq_eq_true hb) hki
 have hb1 : Nat.beq (opK ok.op) 1 = true := by rw [hm]; rfl
 simp only [hb, Bool.false_or, hk, hb1, Option.map_some, Option.getD_some, Bool.not_true] at h1
 obtain ⟨e, he, hb⟩ := Array.any_eq_true'.1 h1
 simp only [Bool.and_eq_true] at hb
 exact ⟨e, he, hb.1, Nat.eq_of_beq_eq_true hb.2⟩
theorem z4k {md : Region.Mode} {i : Nat} {oi : Oper} (hi : ops[i]? = some oi) (h : q9g md ops i = true) : opK oi.op = 2 := by
 unfold q9g at h
 rw [hi] at h
 simp only [Option.map_some, Option.getD_some, Bool.and_eq_true] at h
 exact Nat.eq_of_beq_eq_true h.1.1
theorem z0c {md : Region.Mode} {i : Nat} {oi : Oper} (hi : ops[i]? = some oi) (h : opK oi.op ≠ 2) : q9g md ops i = false := by
 cases hl : q9g md ops i with
 | false => rfl
 | true => exact absurd (z4k hi hl) h
theorem z5G {md : Region.Mode} {i : Nat} {oi : Oper} {g : Nat × Bool} (hi : ops[i]? = some oi) (h : oi.guard = some g) : q9g md ops i = false := by
 unfold q9g
 rw [hi]
 simp [h]
theorem z9w {listed : Array Bool} {i : Nat} (h : listed.getD i true = false) : listed.getD i false = false := by
 rcases Nat.lt_or_ge i listed.size with h' | h'
 ·simpa [h'] using h
 ·simp [h'] at h
theorem q2o {md : Region.Mode} {i : Nat} {listed : Array Bool} (h : q4m md ops (listed.setIfInBounds i true) = true) : q4m md ops listed = true := by
 refine List.all_eq_true.2 fun k hk => ?_
 have h1 := List.all_eq_true.1 h k hk
 simp only [Bool.or_eq_true, Bool.not_eq_true'] at h1 ⊢
 rcases h1 with h1 | h1
 ·left
  cases h2 : listed.getD k false with
  | false => rfl
  | true => rw [getD_set_true h2] at h1; cases h1
 ·exact .inr h1
theorem z7I {md : Region.Mode} {i : Nat} {listed : Array Bool} (hl : q9g md ops i = false) (h : q4m md ops listed = true) : q4m md ops (listed.setIfInBounds i true) = true := by
 refine List.all_eq_true.2 fun k hk' => ?_
 have h1 := List.all_eq_true.1 h k hk'
 simp only [Bool.or_eq_true, Bool.not_eq_true'] at h1 ⊢
 by_cases hik : i = k
 ·subst hik
  exact .inr hl
 ·rw [getD_set_ne false hik]
  exact h1
theorem z5T {md : Region.Mode} {j : Nat} {listed : Array Bool} (h : q6C md ops listed = true) (hj : j ∈ Region.ready md ops listed) : q6C md ops (listed.setIfInBounds j true) = true := by
 refine List.all_eq_true.2 fun k hk => ?_
 have h1 := List.all_eq_true.1 h k hk
 obtain ⟨_, oj, hoj, hall⟩ := mem_ready.1 hj
 simp only [Bool.or_eq_true, Bool.not_eq_true'] at h1 ⊢
 have up : ∀ (o : Oper), (∀ e ∈ o.after, Region.binds md e = true → listed.getD e.on false = true) → (o.after.all fun e => !(Region.binds md e) || (listed.setIfInBounds j true).getD e.on false) = true := fun o ho => by
  rw [Array.all_eq_true_iff_forall_mem]
  intro e he
  cases hb : Region.binds md e with
  | false => rfl
  | true => simp only [Bool.not_true, Bool.false_or]; exact getD_set_true (ho e he hb)
 by_cases hjk : j = k
 ·subst hjk
  right
  rw [hoj]
  exact up oj hall
 ·rw [getD_set_ne false hjk]
  rcases h1 with h1 | h1
  ·exact .inl h1
  ·right
   cases ho : ops[k]? with
   | none => rfl
   | some o =>
    rw [ho] at h1
    simp only [Option.map_some, Option.getD_some] at h1 ⊢
    refine up o fun e he hb => ?_
    have := Array.all_eq_true_iff_forall_mem.1 h1 e he
    rw [hb] at this
    simpa using this
theorem z4g {md : Region.Mode} {i : Nat} {oi : Oper} {listed : Array Bool} (hi : ops[i]? = some oi) (hm : opK oi.op = 1) (hl : listed.getD i true = false) (h : q6C md ops listed = true) : q4m md ops listed = true := by
 refine List.all_eq_true.2 fun k hk => ?_
 have h1 := List.all_eq_true.1 h k hk
 simp only [Bool.or_eq_true, Bool.not_eq_true'] at h1 ⊢
 rcases h1 with h1 | h1
 ·exact .inl h1
 ·right
  cases hlk : q9g md ops k with
  | false => rfl
  | true =>
   cases ho : ops[k]? with
   | none => unfold q9g at hlk; rw [ho] at hlk; cases hlk
   | some o =>
    have hik : i ≠ k := by
     rintro rfl
     have h2 := z4k ho hlk
     rw [hi] at ho
     cases ho
     rw [hm] at h2
     cases h2
    obtain ⟨e, he, hb, hon⟩ := z7P ho hlk hi hm hik
    rw [ho] at h1
    simp only [Option.map_some, Option.getD_some] at h1
    have h3 := Array.all_eq_true_iff_forall_mem.1 h1 e he
    rw [hb, hon, z9w hl] at h3
    cases h3
def j4o (P : Program) (md : Region.Mode) (ops : Array Oper) (Q : Exit → Act → World → Prop) (S S0 : World → Prop) : Nat → Array Bool → Act → World → Prop
 | 0, listed, a, w => Region.ready md ops listed = [] ∧ Q .normal a w
 | fuel + 1, listed, a, w =>
  (Region.ready md ops listed = [] → Q .normal a w) ∧
  ∀ i ∈ Region.ready md ops listed, wpOp P ops Q i (fun a' w' => ((q4m md ops (listed.setIfInBounds i true) = true → S w') ∧ S0 w') ∧ j4o P md ops Q S S0 fuel (listed.setIfInBounds i true) a' w') a w
variable {md : Region.Mode} {S S0 : World → Prop}
theorem q7L : ∀ (fuel : Nat) (listed : Array Bool) (a : Act) (w : World), j4o P md ops Q S S0 fuel listed a w → wpAny P md ops Q fuel listed a w
 | 0, _, _, _, h => h
 | fuel + 1, _, _, _, h => ⟨h.1, fun i hi => wpOp_mono (fun a' w' h' => q7L fuel _ a' w' h'.2) (h.2 i hi)⟩
theorem q5q {T : World → Prop} {i : Nat} {oi : Oper} {v : Value} (hi : ops[i]? = some oi) (hsel : ∀ (j : Nat) (o : Oper) cs b, ops[j]? = some o → o.op ≠ .select cs b)
  (hQ : ∀ c a w, Q (.panic c) (a.put oi.dst v) w → Q (.panic c) a w) (hk : q9g md ops i = false)
  (hT : ∀ w, ((opK oi.op = 1 → S w) ∧ S0 w) → T w) :
  ∀ (fuel : Nat) (listed : Array Bool) (a : Act) (w : World),
   (∀ j oj, ops[j]? = some oj → j ≠ i → listed.getD j true = false → (∀ e ∈ oj.after, Region.binds md e = true → e.on ≠ i) → oi.apart ops oj = true) →
   i ∈ Region.ready md ops listed → YieldsIf P ops T oi v a → (opK oi.op = 1 → q6C md ops listed = true) → (q4m md ops listed = true → S w) → S0 w →
   j4o P md ops Q S S0 fuel (listed.setIfInBounds i true) (a.put oi.dst v) w → j4o P md ops Q S S0 (fuel + 1) listed a w := by
 intro fuel
 induction fuel with
 | zero =>
  intro listed a w _ hr hy hcl hl hS H
  refine ⟨fun h => (by rw [h] at hr; cases hr), fun j hj => ?_⟩
  by_cases hji : j = i
  ·subst hji
   exact hy.wpOp hi (hT _ ⟨fun hm => hl (z4g hi hm (mem_ready.1 hr).1 (hcl hm)), hS⟩) ⟨⟨fun h => hl (q2o h), hS⟩, H⟩
  ·have := ready_mono hj hji
   rw [H.1] at this
   cases this
 | succ fuel ih =>
  intro listed a w hfree hr hy hcl hl hS H
  refine ⟨fun h => (by rw [h] at hr; cases hr), fun j hj => ?_⟩
  by_cases hji : j = i
  ·subst hji
   exact hy.wpOp hi (hT _ ⟨fun hm => hl (z4g hi hm (mem_ready.1 hr).1 (hcl hm)), hS⟩) ⟨⟨fun h => hl (q2o h), hS⟩, H⟩
  ·have h1 := H.2 j (ready_mono hj hji)
   obtain ⟨hjun, oj, hoj, hall⟩ := mem_ready.1 hj
   have hnot : ∀ e ∈ oj.after, Region.binds md e = true → e.on ≠ i := fun e he hb heq => by
    have h1 := hall e he hb
    have h0 := (mem_ready.1 hr).1
    rw [heq, z9w h0] at h1
    cases h1
   have h2 := wpOp_putIf hoj (hfree j oj hoj hji hjun hnot) (fun cs b => hsel i oi cs b hi) (fun cs b => hsel j oj cs b hoj) hQ hy h1
   have hfree' : ∀ k ok, ops[k]? = some ok → k ≠ i → (listed.setIfInBounds j true).getD k true = false →
     (∀ e ∈ ok.after, Region.binds md e = true → e.on ≠ i) → oi.apart ops ok = true := fun k ok hk hki hun hno => by
    refine hfree k ok hk hki ?_ hno
    by_cases hjk : j = k
    ·subst hjk; exact hjun
    ·rw [getD_set_ne true hjk] at hun; exact hun
   have hri : i ∈ Region.ready md ops (listed.setIfInBounds j true) := ready_mono hr (Ne.symm hji)
   refine wpOp_mono (fun a' w' h3 => ?_) h2
   have hc : (listed.setIfInBounds i true).setIfInBounds j true = (listed.setIfInBounds j true).setIfInBounds i true := Array.setIfInBounds_comm _ _ (Ne.symm hji)
   have h4 : q4m md ops (listed.setIfInBounds j true) = true → S w' := fun h5 => h3.2.1.1 (by rw [hc]; exact z7I hk h5)
   exact ⟨⟨h4, h3.2.1.2⟩, ih (listed.setIfInBounds j true) a' w' hfree' hri h3.1 (fun hm => z5T (hcl hm) hj) h4 h3.2.1.2 (by rw [← hc]; exact h3.2.2)⟩
variable {fuel : Nat} {listed : Array Bool} {S : Hp}
end
def j7l (w0 : k9) (Φ : Value → Hp → Prop) : Ending → World → Prop := fun e w' => ∃ v hp', e = .returned v ∧ Own w0 hp' w' ∧ Φ v hp'
def q5s (P : Program) (f : FuncId) (args : List Value) (w0 : k9) (hp : Hp) (Φ : Value → Hp → Prop) : Prop :=
 ∀ w, Own w0 hp w → Calls P f args.toArray w (j7l w0 Φ)
def z3u : Nat → List Value → Env
 | _, [] => []
 | k, v :: r => (k, v) :: z3u (k + 1) r
theorem q9c : ∀ (l : List Value) (k j : Nat) (v : Value), look (z3u k l) j = some v → k ≤ j ∧ l[j - k]? = some v
 | [], k, j, v, h => by simp [z3u, look] at h
 | u :: r, k, j, v, h => by
  by_cases hkj : k = j
  ·subst hkj
   rw [z3u, q1L] at h
   simpa using h
  ·rw [z3u, q1K hkj] at h
   obtain ⟨h1, h2⟩ := q9c r (k + 1) j v h
   refine ⟨by omega, ?_⟩
   rw [show j - k = (j - (k + 1)) + 1 by omega]
   simpa using h2
section
variable {P : Program} {w0 : k9} {hp : Hp} {f : FuncId} {fn : Func} {c : Code} {args : List Value} {Φ : Value → Hp → Prop}
abbrev q9I (P : Program) (fn : Func) (R : Ending → World → Prop) : Exit → Act → World → Prop := bodyPostM Fence.wide 0 P fn R
theorem z9F {R : Ending → World → Prop} (n : Nat) (hf : P.funcs[f]? = some fn) (hb : fn.body = some c) (hn : fn.ntmps = n) (hle : Nat.ble args.length n = true)
  (h : SLc P ⟨n, fun x => x ∈ w0.dk, none⟩ w0 (q9I P fn R) c (z3u 0 args) hp) (w : World) (ho : Own w0 hp w) : Calls P f args.toArray w R := by
 have hle' : args.length ≤ n := Nat.le_of_ble_eq_true hle
 refine callsIn_wide.1 (callsIn_of_wp_marks (F := Fence.wide) (n := 0) hf hb trivial (h _ w ⟨⟨?_, fun k v hk => ?_⟩, ⟨[], rfl, List.nodup_nil, fun D hD => absurd hD (by simp)⟩⟩ ho))
 ·simp [hn]; omega
 ·obtain ⟨_, h2⟩ := q9c args 0 k v hk
  simp only [Nat.sub_zero] at h2
  have hlt : k < args.length := (List.getElem?_eq_some_iff.1 h2).1
  have hv : args[k] = v := (List.getElem?_eq_some_iff.1 h2).2
  simp [Array.getElem?_append, hlt, hv]
theorem j3K {R : Ending → World → Prop} (n : Nat) (hf : P.funcs[f]? = some fn) (hb : fn.body = some c) (hn : fn.ntmps = n) (hle : Nat.ble args.length n = true)
  (h : SLc P ⟨n, fun _ => True, none⟩ w0 (q9I P fn R) c (z3u 0 args) hp) (w : World) (ho : Own w0 hp w) : Calls P f args.toArray w R := by
 have hle' : args.length ≤ n := Nat.le_of_ble_eq_true hle
 refine callsIn_wide.1 (callsIn_of_wp_marks (F := Fence.wide) (n := 0) hf hb trivial (h _ w ⟨⟨?_, fun k v hk => ?_⟩, ⟨[], rfl, List.nodup_nil, fun D hD => absurd hD (by simp)⟩⟩ ho))
 ·simp [hn]; omega
 ·obtain ⟨_, h2⟩ := q9c args 0 k v hk
  simp only [Nat.sub_zero] at h2
  have hlt : k < args.length := (List.getElem?_eq_some_iff.1 h2).1
  have hv : args[k] = v := (List.getElem?_eq_some_iff.1 h2).2
  simp [Array.getElem?_append, hlt, hv]
theorem z5F {R : Ending → World → Prop} {m : Nat} {r : Option Nat} {b1 : k9} {e : Env} {a : Act} {w : World} (hf : Fit ⟨m, fun _ => True, r⟩ b1 e a) (hfin : ∃ v, (results fn a.tmps).run P w = .ok v w ∧ R (.returned v) w) :
  LeavesInM Fence.wide 0 P fn a.tmps R a.defers .returning w := by
 obtain ⟨ds, hd, _, hk⟩ := hf.defers
 have : ds = [] := by
  cases ds with
  | nil => rfl
  | cons D r => exact absurd trivial ((hk D (List.mem_cons_self ..)).2 z4x)
 subst this
 rw [hd]
 exact hfin
theorem Own.take {b : k9} {w : World} {D : Nat} (h : Own b hp w) (hB : b.B ≤ D) (hD : w.heap[D]? = some z4x) (hn : ∀ o, (D, o) ∉ hp) (hk : ∀ o, (D, o) ∉ b.dk) : Own b hp (w.putObj D (.deferred none)) := by
 have hne : ∀ g o, (g, o) ∈ hp → g ≠ D := fun g o hm he => hn o (he ▸ hm)
 refine ⟨h.lo, h.below.trans ⟨rfl, rfl, rfl, by simp, fun k hk => World.putObj_heap_other (by omega)⟩, q1b.of_obj fun k a t fr h0 hk' => ?_, h.nd, fun g o hm => ⟨(h.blk g o hm).1, (World.putObj_heap_other (hne g o hm)).trans (h.blk g o hm).2⟩, h.hole, fun g o hm => ?_⟩
 ·have h1 := h.keeps.obj k a t fr h0 hk'
  have h2 : k ≠ D := fun he => by
   rw [he, hD] at h1
   cases h1
  exact (World.putObj_heap_other h2).trans h1
 ·obtain ⟨d1, d2, d3, d4⟩ := h.dks g o hm
  exact ⟨d1, (World.putObj_heap_other (fun (he : g = D) => hk o (he ▸ hm))).trans d2, d3, d4⟩
theorem z5E {R : Ending → World → Prop} {n : NT} {b1 : k9} {e : Env} {a : Act} {w : World} (hf : Fit n b1 e a) (hn : n.dk = fun x => x ∈ w0.dk) (ho : Own b1 hp w) (hfin : ∀ w', Own (b1.over w0) hp w' → ∃ v, (results fn a.tmps).run P w' = .ok v w' ∧ R (.returned v) w') (h0 : ∀ x ∈ w0.dk, x ∈ b1.dk) :
  LeavesInM Fence.wide 0 P fn a.tmps R a.defers .returning w := by
 obtain ⟨ds, hd, hnd, hk⟩ := hf.defers
 rw [hd]
 have hst : ∀ D ∈ ds, b1.B ≤ D ∧ w.heap[D]? = some z4x ∧ ∀ o, (D, o) ∉ hp := fun D hD => let ⟨d1, d2, _, d4⟩ := ho.dks D z4x (hk D hD).1; ⟨d1, d2, d4⟩
 have hkk : ∀ D ∈ ds, ∀ o, (D, o) ∉ (b1.over w0).dk := fun D hD o hm => (hk D hD).2 o (by rw [hn]; exact hm)
 have hov : Own (b1.over w0) hp w := ⟨ho.lo, ho.below, ho.keeps, ho.nd, ho.blk, ho.hole, fun g o hm => ho.dks g o (h0 _ hm)⟩
 clear hk hd ho
 induction ds generalizing w with
 | nil => exact hfin w hov
 | cons D r ih =>
  obtain ⟨h1, h2, h3⟩ := hst D (List.mem_cons_self ..)
  rw [List.nodup_cons] at hnd
  refine ⟨by simp, .inl ⟨D, _, rfl, run_takeDeferred h2, ih hnd.2 (fun D' hD' => ?_) (fun D' hD' => hkk D' (List.mem_cons_of_mem _ hD')) (hov.take h1 h2 h3 (hkk D (List.mem_cons_self ..)))⟩⟩
  obtain ⟨k1, k2, k3⟩ := hst D' (List.mem_cons_of_mem _ hD')
  exact ⟨k1, (World.putObj_heap_other (fun (he : D' = D) => hnd.1 (he ▸ hD'))).trans k2, k3⟩
theorem q5I (n : Nat) (hf : P.funcs[f]? = some fn) (hb : fn.body = some c) (hn : fn.ntmps = n) (hle : Nat.ble args.length n = true)
  (h : SLc P ⟨n, fun x => x ∈ w0.dk, none⟩ w0 (q9I P fn (j7l w0 Φ)) c (z3u 0 args) hp) : q5s P f args w0 hp Φ := fun w ho => z9F n hf hb hn hle h w ho
theorem q5s.frame (h : ∀ w, Own w0 hp w → q5s P f args w [] Φ) : q5s P f args w0 hp (fun v hp' => ∃ hp1, hp' = hp1 ++ hp ∧ Φ v hp1) := fun w ho =>
 (h w ho w (Own.start w)).mono fun _ _ ⟨v, hp', he, ho', hΦ⟩ => ⟨v, hp' ++ hp, he, ho.grow ho', hp', rfl, hΦ⟩
variable {n : NT} {m : Nat} {dk0 : Nat × Obj → Prop} {rq : Option Nat} {e : Env} {b1 : k9}
theorem z6p (hle : w0.Le b1) {t : Nat} {v : Value} (hr : fn.results = #[.tmp t]) (hl : look e t = some v) (hΦ : Φ v hp) : SLx ⟨m, fun x => x ∈ w0.dk, none⟩ b1 (q9I P fn (j7l w0 Φ)) .ret e hp := fun a w hf ho =>
 z5E hf rfl ho (fun w' ho' => ⟨v, by rw [results_tmp hr a.tmps P w', hf.get t v hl], v, hp, rfl, hle.over.back _ _ ho', hΦ⟩) hle.dk
end
section
variable {P : Program} {w0 : k9} {hp : Hp} {f : FuncId} {fn : Func} {c : Code} {args : List Value} {Φ : Value → Hp → Prop} {Ψ : Value → k9 → Prop} {n : NT} {m : Nat} {dk0 : Nat × Obj → Prop} {rq : Option Nat} {e : Env} {b1 : k9}
def j1 (P : Program) (f : FuncId) : Bool := match P.funcs[f]? with
 | some fn => fn.name != "runtime.NumGoroutine" && fn.body.isSome
 | none => false
theorem q1t (hc : j1 P f = true) (vs : Array Value) (w : World) : (callFunc f vs).run P w = .ok (.enter f vs) w := by
 unfold j1 at hc
 split at hc
 ·rename_i fn hf
  simp only [Bool.and_eq_true, bne_iff_ne, ne_eq] at hc
  obtain ⟨h1, h2⟩ := hc
  have h3 : fn.body.isNone = false := by cases hb : fn.body <;> simp_all
  have h4 : fn.body ≠ none := fun hb => by rw [hb] at h2; cases h2
  have h5 : (fn.name == "runtime.NumGoroutine") = false := by simpa using h1
  simp only [callFunc, program, Sem.run, hf, h5, h3, bind, Sem.bind, Bool.false_eq_true, if_false]
  rfl
 ·cases hc
end
end Go.Fp
namespace Go.Fp
open Go.RowKit
def q5B (P : Program) (t : TypeId) : Bool := match P.underlying t with
 | some (.struct _) => false
 | some (.array _ _) => false
 | none => false
 | some _ => true
def q6d (P : Program) (t k : Nat) : Bool := match P.info? t with
 | some i => Nat.beq i.size k
 | none => false
def q9Q (P : Program) (t k : Nat) : Bool := (match P.underlying t with
 | some (.struct _) => true
 | some (.array _ _) => true
 | _ => false) && q6d P t k
def slT (P : Program) (t el sz : Nat) : Bool := (match P.underlying t with
 | some (.slice x) => Nat.beq x el
 | _ => false) && q6d P el sz
def q0Q (P : Program) (t f off : Nat) : Bool := match P.underlying t with
 | some (.struct fs) => (match fs[f]? with
  | some fd => Nat.beq fd.offset off && (match P.info? fd.type with | some i => !Nat.beq i.size 0 | none => false)
  | none => false)
 | _ => false
theorem z3X {P : Program} {t k : Nat} (h : q6d P t k = true) : ∃ i, P.info? t = some i ∧ i.size = k := by
 unfold q6d at h
 split at h
 ·rename_i i hi; exact ⟨i, hi, Nat.eq_of_beq_eq_true h⟩
 ·cases h
theorem q3U {P : Program} {t el sz : Nat} (h : slT P t el sz = true) : P.underlying t = some (.slice el) ∧ ∃ i, P.info? el = some i ∧ i.size = sz := by
 unfold slT at h
 simp only [Bool.and_eq_true] at h
 obtain ⟨h1, h2⟩ := h
 split at h1
 ·rename_i x hx
  have : x = el := Nat.eq_of_beq_eq_true h1
  subst this
  exact ⟨hx, z3X h2⟩
 ·cases h1
theorem q1Q {P : Program} {t : TypeId} (h : q5B P t = true) (w : World) : (isAgg t).run P w = .ok false w := by
 unfold q5B at h
 split at h
 ·cases h
 ·cases h
 ·cases h
 ·rename_i d h1 h2 hd
  simp only [isAgg, Sem.run_bind, run_underlying hd, Result.andThen_ok]
  cases d <;> first | rfl | exact absurd rfl (h1 _) | exact absurd rfl (h2 _ _)
theorem q1R {P : Program} {t k : Nat} (h : q9Q P t k = true) (w : World) : (isAgg t).run P w = .ok true w := by
 unfold q9Q at h
 simp only [Bool.and_eq_true] at h
 have h1 := h.1
 split at h1
 ·rename_i d hd; simp only [isAgg, Sem.run_bind, run_underlying hd, Result.andThen_ok]; rfl
 ·rename_i d hd; simp only [isAgg, Sem.run_bind, run_underlying hd, Result.andThen_ok]; rfl
 ·cases h1
theorem run_sizeOf {P : Program} {t k : Nat} (h : q6d P t k = true) (w : World) : (sizeOf t).run P w = .ok k w := by
 obtain ⟨i, hi, hk⟩ := z3X h
 simp [sizeOf, typeInfo, hi, hk]
theorem q8N {P : Program} {t k : Nat} (h : q9Q P t k = true) : q6d P t k = true := by
 unfold q9Q at h
 simp only [Bool.and_eq_true] at h
 exact h.2
def q4y (w : World) (A : Option Addr) (k : Nat) : Option Value := A.bind fun a => w.cell? (a.add k)
theorem z7X {w : World} {A : Option Addr} {k : Nat} {v : Value} (h : q4y w A k = some v) : A.isSome = true := by cases A <;> simp_all [q4y]
def Rd (w : World) (A : Option Addr) (xs : List Value) : Prop := ∀ j u, xs[j]? = some u → q4y w A j = some u
theorem q1O (a : Addr) (i j : Nat) : (a.add i).add j = a.add (i + j) := by
 unfold Addr.add
 by_cases hi : i = 0 <;> by_cases hj : j = 0 <;> simp [hi, hj, Nat.add_assoc]
section
variable {P : Program} {n : NT} {m : Nat} {dk0 : Hp} {rq : Option Nat} {w0 : k9} {e : Env} {hp : Hp} {ty : TypeId}
theorem q3L {x : Operand} {v : Value} (hx : val e x = some v) : Z0 P n w0 (.move x) ty e hp v := fun a w hf _ _ _ _ _ => by
 simp [execOp, hf.eval hx]
theorem q2d {x : Operand} {v : Value} (hx : val e x = some v) : Z0 P n w0 (.assign x) ty e hp v := fun a w hf _ _ _ _ _ => by
 simp [execOp, hf.eval hx]
theorem q6m {c x y : Operand} {v : Value} (hc : val e c = some (.bool true)) (hx : val e x = some v) : Z0 P n w0 (.pick c x y) ty e hp v := fun a w hf _ _ _ _ _ => by
 simp [execOp, hf.eval hc, hf.eval hx, asBool]
theorem q6n {c x y : Operand} {v : Value} (hc : val e c = some (.bool false)) (hy : val e y = some v) : Z0 P n w0 (.pick c x y) ty e hp v := fun a w hf _ _ _ _ _ => by
 simp [execOp, hf.eval hc, hf.eval hy, asBool]
theorem q7k {x : Operand} {b : Bool} {t : TypeId} (hx : val e x = some (.bool b)) : Z0 P n w0 (.unOp .not t x) ty e hp (.bool (!b)) := fun a w hf _ _ _ _ _ => by
 simp [execOp, hf.eval hx, Op.unary]
theorem Y7 {x : Operand} {t : TypeId} (hx : val e x = some (.bool true)) : Z0 P n w0 (.unOp .not t x) ty e hp (.bool false) := q7k hx
theorem q0r {x : Operand} {t : TypeId} (hx : val e x = some (.bool false)) : Z0 P n w0 (.unOp .not t x) ty e hp (.bool true) := q7k hx
theorem z2j {x : Operand} {A : Addr} (hx : val e x = some (.pointer (some A))) : Z0 P n w0 (.nilCheck x) ty e hp (.pointer (some A)) := fun a w hf _ _ _ _ _ => by
 simp [execOp, hf.eval hx]
theorem w7 {x : Operand} {k : Nat} {vs : Array Value} {v : Value} (hx : val e x = some (.tuple vs)) (hv : vs[k]? = some v) : Z0 P n w0 (.extract x k) ty e hp v := fun a w hf _ _ _ _ _ => by
 simp [execOp, hf.eval hx, Instr.extract, hv]
theorem q2m {fn : Fn} {xs ys : Array Operand} (us vs : List Value) (hx : z5a e xs.toList = some us) (hy : z5a e ys.toList = some vs) : Z0 P n w0 (.makeFunc fn xs ys) ty e hp (.func fn us.toArray vs.toArray) := fun a w hf _ _ _ _ _ => by
 have h1 : xs.map a.eval = us.toArray := Array.ext' (by rw [Array.toList_map]; exact hf.evals hx)
 have h2 : ys.map a.eval = vs.toArray := Array.ext' (by rw [Array.toList_map]; exact hf.evals hy)
 simp [execOp, h1, h2, Instr.makeFunc]
theorem z0y (i : Nat) {x : Operand} {g o t t' : Nat} {cs : List Value} {v : Value} (hx : val e x = some (.pointer (some ⟨g, o, none⟩))) (ht : q5B P t = true) (hi : hp[i]? = some (g, Cl t' cs)) (hv : cs[o]? = some v) :
  Z0 P n w0 (.load t x) ty e hp v := fun a w hf ho _ _ _ _ => by
 have hc := ho.cell hi o
 rw [hv] at hc
 simp [execOp, hf.eval hx, Instr.loadAt, Instr.sureAddr, loadVar, q1Q ht, hc]
theorem q2l {x : Operand} {t : TypeId} {A : Option Addr} {k : Nat} {v : Value} (hx : val e x = some (.pointer (A.map (·.add k)))) (ht : q5B P t = true) (hv : q4y w0.w A k = some v) :
  Z0 P n w0 (.load t x) ty e hp v := fun a w hf ho _ _ _ _ => by
 cases A with
 | none => simp [q4y] at hv
 | some p =>
  have hc := ho.old (p := p.add k) hv
  simp only [Option.map_some] at hx
  simp [execOp, hf.eval hx, Instr.loadAt, Instr.sureAddr, loadVar, q1Q ht, hc]
theorem q5d {x : Operand} {t : TypeId} {p : Addr} {v : Value} (hx : val e x = some (.pointer (some p))) (ht : q5B P t = true) (hv : w0.w.cell? p = some v) :
  Z0 P n w0 (.load t x) ty e hp v := fun a w hf ho _ _ _ _ => by
 simp [execOp, hf.eval hx, Instr.loadAt, Instr.sureAddr, loadVar, q1Q ht, ho.old hv]
theorem j0N (i k : Nat) {x : Operand} {g o t t' : Nat} {cs vs : List Value} (hx : val e x = some (.pointer (some ⟨g, o, none⟩))) (ht : q9Q P t k = true) (hi : hp[i]? = some (g, Cl t' cs)) (hl : vs.length = k) (hv : ∀ j u, vs[j]? = some u → cs[o + j]? = some u) :
  Z0 P n w0 (.load t x) ty e hp (.agg vs.toArray) := fun a w hf ho _ _ _ _ => by
 have hc := run_loadCells_list (P := P) w ⟨g, o, none⟩ vs (fun j u hu => by rw [Addr.add_lit, ho.cell hi]; exact hv j u hu)
 rw [hl] at hc
 simp [execOp, hf.eval hx, Instr.loadAt, Instr.sureAddr, loadVar, q1R ht, run_sizeOf (q8N ht), hc]
theorem q7R (i k : Nat) {x : Operand} {g o t t' : Nat} {cs vs r : List Value} (hx : val e x = some (.pointer (some ⟨g, o, none⟩))) (ht : q9Q P t k = true) (hi : hp[i]? = some (g, Cl t' cs)) (hl : vs.length = k) (hd : cs.drop o = vs ++ r) :
  Z0 P n w0 (.load t x) ty e hp (.agg vs.toArray) := j0N i k hx ht hi hl (fun j u hu => by
 have hj : j < vs.length := (List.getElem?_eq_some_iff.1 hu).1
 rw [← List.getElem?_drop, hd, List.getElem?_append_left hj]
 exact hu)
theorem q3y (k : Nat) {x : Operand} {t : TypeId} {A : Option Addr} {o : Nat} {vs : List Value} (hx : val e x = some (.pointer (A.map (·.add o)))) (ht : q9Q P t k = true) (hA : A.isSome = true) (hl : vs.length = k) (hv : ∀ j u, vs[j]? = some u → q4y w0.w A (o + j) = some u) :
  Z0 P n w0 (.load t x) ty e hp (.agg vs.toArray) := fun a w hf ho _ _ _ _ => by
 cases A with
 | none => cases hA
 | some p =>
  have hc := run_loadCells_list (P := P) w (p.add o) vs (fun j u hu => by rw [q1O]; exact ho.old (hv j u hu))
  rw [hl] at hc
  simp only [Option.map_some] at hx
  simp [execOp, hf.eval hx, Instr.loadAt, Instr.sureAddr, loadVar, q1R ht, run_sizeOf (q8N ht), hc]
theorem q4U {t f off : Nat} (h : q0Q P t f off = true) (p : Addr) (w : World) : ∃ fs fd, P.underlying t = some (.struct fs) ∧ fs[f]? = some fd ∧ (fieldPlace p fd).run P w = .ok (p.add off) w := by
 unfold q0Q at h
 split at h
 ·rename_i fs hfs
  split at h
  ·rename_i fd hfd
   simp only [Bool.and_eq_true] at h
   obtain ⟨h1, h2⟩ := h
   have ho : fd.offset = off := Nat.eq_of_beq_eq_true h1
   split at h2
   ·rename_i i hi
    have hne : i.size ≠ 0 := by
     intro h0
     rw [h0] at h2
     cases h2
    exact ⟨fs, fd, hfs, hfd, by simp [fieldPlace, sizeOf, typeInfo, hi, hne, ho]⟩
   ·cases h2
  ·cases h
 ·cases h
theorem q7T {x : Operand} {t f off g o : Nat} (hx : val e x = some (.pointer (some ⟨g, o, none⟩))) (h : q0Q P t f off = true) : Z0 P n w0 (.fieldAddr t x f) ty e hp (.pointer (some ⟨g, o + off, none⟩)) := fun a w hf _ _ _ _ _ => by
 obtain ⟨fs, fd, h1, h2, h3⟩ := q4U h ⟨g, o, none⟩ w
 simp [execOp, hf.eval hx, Instr.fieldAt, run_underlying h1, h2, Instr.sureAddr, h3, Addr.add_lit]
theorem q2t {x : Operand} {t f off k : Nat} {A : Option Addr} (hx : val e x = some (.pointer (A.map (·.add k)))) (hA : A.isSome = true) (h : q0Q P t f off = true) : Z0 P n w0 (.fieldAddr t x f) ty e hp (.pointer (A.map (·.add (k + off)))) := fun a w hf _ _ _ _ _ => by
 cases A with
 | none => cases hA
 | some p =>
  simp only [Option.map_some] at hx ⊢
  obtain ⟨fs, fd, h1, h2, h3⟩ := q4U h (p.add k) w
  simp [execOp, hf.eval hx, Instr.fieldAt, run_underlying h1, h2, Instr.sureAddr, h3, q1O]
theorem q1s (j : Nat) {x ix : Operand} {t el sz len cap : Nat} {A : Option Addr} {kd : IntKind} {i : Int} (hx : val e x = some (.slice A len cap)) (hix : val e ix = some (.int kd i)) (hj : i = (j : Int)) (hlt : j < len) (hA : A.isSome = true) (h : slT P t el sz = true) :
  Z0 P n w0 (.indexAddr t x ix) ty e hp (.pointer (A.map (·.add (j * sz)))) := fun a w hf _ _ _ _ _ => by
 obtain ⟨h1, inf, h2, h3⟩ := q3U h
 subst hj
 cases A with
 | none => cases hA
 | some p =>
  simp [execOp, hf.eval hx, hf.eval hix, Instr.indexAt, asIntOf, run_underlying h1, hlt, sizeOf, typeInfo, h2, h3]
theorem z2l {x : Operand} {t el sz len cap : Nat} {A : Option Addr} (hx : val e x = some (.slice A len cap)) (h : slT P t el sz = true) :
  Z0 P n w0 (.call { callee := .builtin .len, args := #[x], argTypes := #[t] }) ty e hp (.int .i64 (len : Int)) := fun a w hf _ _ _ _ _ => by
 obtain ⟨h1, _⟩ := q3U h
 simp [execOp, resolve, invoke, builtin, hf.eval hx, Builtin.len_, run_underlying h1, goInt]
theorem j4C {x y : Operand} {ts : Array TypeId} {k : IntKind} {i j : Int} (hx : val e x = some (.int k i)) (hy : val e y = some (.int k j)) :
  Z0 P n w0 (.call { callee := .builtin .max, args := #[x, y], argTypes := ts }) ty e hp (.int k (max i j)) := fun a w hf _ _ _ _ _ => by
 have hm : (if j > i then j else i) = max i j := by split <;> omega
 simp [execOp, resolve, invoke, builtin, hf.eval hx, hf.eval hy, Builtin.max_, Builtin.max2]
 exact hm
theorem j4B {x y : Operand} {ts : Array TypeId} {k : IntKind} {i j : Int} (hx : val e x = some (.int k i)) (hy : val e y = some (.int k j)) :
  Z0 P n w0 (.call { callee := .builtin .min, args := #[x, y], argTypes := ts }) ty e hp (.int k (min i j)) := fun a w hf _ _ _ _ _ => by
 have hm : (if j < i then j else i) = min i j := by split <;> omega
 simp [execOp, resolve, invoke, builtin, hf.eval hx, hf.eval hy, Builtin.min_, Builtin.min2]
 exact hm
theorem z2m {x y : Operand} {t u : TypeId} {i j : Int} (hx : val e x = some (.int .i64 i)) (hy : val e y = some (.int .i64 j)) (hb : -9223372036854775808 ≤ i + j ∧ i + j ≤ 9223372036854775807) :
  Z0 P n w0 (.binOp .add t x y u) ty e hp (.int .i64 (i + j)) := fun a w hf _ _ _ _ _ => by
 have hw := IntWalk.i64_in _ hb
 simp [execOp, hf.eval hx, hf.eval hy, eqGuard, binOp, Op.intArith] at *
 exact hw
theorem z3U {x y : Operand} {t u : TypeId} {i j : Int} (hx : val e x = some (.int .i64 i)) (hy : val e y = some (.int .i64 j)) (hb : -9223372036854775808 ≤ i - j ∧ i - j ≤ 9223372036854775807) :
  Z0 P n w0 (.binOp .sub t x y u) ty e hp (.int .i64 (i - j)) := fun a w hf _ _ _ _ _ => by
 have hw := IntWalk.i64_in _ hb
 simp [execOp, hf.eval hx, hf.eval hy, eqGuard, binOp, Op.intArith] at *
 exact hw
theorem z0B {x y : Operand} {t u : TypeId} {k : IntKind} {i j : Int} (hx : val e x = some (.int k i)) (hy : val e y = some (.int k j)) :
  Z0 P n w0 (.binOp .eql t x y u) ty e hp (.bool (decide (i = j))) := fun a w hf _ _ _ _ _ => by
 have hb : (i == j) = decide (i = j) := by
  rw [Bool.eq_iff_iff]
  simp
 simp only [execOp, hf.eval hx, hf.eval hy]
 simp [eqGuard, binOp, Op.intCmp] at *
 exact hb
theorem z2T {x y : Operand} {t u : TypeId} {k : IntKind} {i j : Int} (hx : val e x = some (.int k i)) (hy : val e y = some (.int k j)) (h : i = j) :
  Z0 P n w0 (.binOp .eql t x y u) ty e hp (.bool true) := by
 have := z0B (P := P) (n := n) (w0 := w0) (hp := hp) (ty := ty) (t := t) (u := u) hx hy
 rwa [decide_eq_true h] at this
theorem z2U {x y : Operand} {t u : TypeId} {k : IntKind} {i j : Int} (hx : val e x = some (.int k i)) (hy : val e y = some (.int k j)) (h : ¬ (i = j)) :
  Z0 P n w0 (.binOp .eql t x y u) ty e hp (.bool false) := by
 have := z0B (P := P) (n := n) (w0 := w0) (hp := hp) (ty := ty) (t := t) (u := u) hx hy
 rwa [decide_eq_false h] at this
theorem z0w {x y : Operand} {t u : TypeId} {k : IntKind} {i j : Int} (hx : val e x = some (.int k i)) (hy : val e y = some (.int k j)) :
  Z0 P n w0 (.binOp .neq t x y u) ty e hp (.bool (decide (i ≠ j))) := fun a w hf _ _ _ _ _ => by
 have hb : (i != j) = decide (i ≠ j) := by
  rw [Bool.eq_iff_iff]
  simp
 simp only [execOp, hf.eval hx, hf.eval hy]
 simp [eqGuard, binOp, Op.intCmp] at *
 exact hb
theorem z6m {x y : Operand} {t u : TypeId} {k : IntKind} {i j : Int} (hx : val e x = some (.int k i)) (hy : val e y = some (.int k j)) (h : i ≠ j) :
  Z0 P n w0 (.binOp .neq t x y u) ty e hp (.bool true) := by
 have := z0w (P := P) (n := n) (w0 := w0) (hp := hp) (ty := ty) (t := t) (u := u) hx hy
 rwa [decide_eq_true h] at this
theorem z6n {x y : Operand} {t u : TypeId} {k : IntKind} {i j : Int} (hx : val e x = some (.int k i)) (hy : val e y = some (.int k j)) (h : ¬ (i ≠ j)) :
  Z0 P n w0 (.binOp .neq t x y u) ty e hp (.bool false) := by
 have := z0w (P := P) (n := n) (w0 := w0) (hp := hp) (ty := ty) (t := t) (u := u) hx hy
 rwa [decide_eq_false h] at this
theorem z2k {x y : Operand} {t u : TypeId} {k : IntKind} {i j : Int} (hx : val e x = some (.int k i)) (hy : val e y = some (.int k j)) :
  Z0 P n w0 (.binOp .lss t x y u) ty e hp (.bool (decide (i < j))) := fun a w hf _ _ _ _ _ => by
 simp only [execOp, hf.eval hx, hf.eval hy]
 simp [eqGuard, binOp, Op.intCmp]
theorem q6W {x y : Operand} {t u : TypeId} {k : IntKind} {i j : Int} (hx : val e x = some (.int k i)) (hy : val e y = some (.int k j)) (h : i < j) :
  Z0 P n w0 (.binOp .lss t x y u) ty e hp (.bool true) := by
 have := z2k (P := P) (n := n) (w0 := w0) (hp := hp) (ty := ty) (t := t) (u := u) hx hy
 rwa [decide_eq_true h] at this
theorem q6X {x y : Operand} {t u : TypeId} {k : IntKind} {i j : Int} (hx : val e x = some (.int k i)) (hy : val e y = some (.int k j)) (h : ¬ (i < j)) :
  Z0 P n w0 (.binOp .lss t x y u) ty e hp (.bool false) := by
 have := z2k (P := P) (n := n) (w0 := w0) (hp := hp) (ty := ty) (t := t) (u := u) hx hy
 rwa [decide_eq_false h] at this
theorem j2g {x y : Operand} {t u : TypeId} {k : IntKind} {i j : Int} (hx : val e x = some (.int k i)) (hy : val e y = some (.int k j)) :
  Z0 P n w0 (.binOp .leq t x y u) ty e hp (.bool (decide (i ≤ j))) := fun a w hf _ _ _ _ _ => by
 simp only [execOp, hf.eval hx, hf.eval hy]
 simp [eqGuard, binOp, Op.intCmp]
theorem z0z {x y : Operand} {t u : TypeId} {k : IntKind} {i j : Int} (hx : val e x = some (.int k i)) (hy : val e y = some (.int k j)) :
  Z0 P n w0 (.binOp .gtr t x y u) ty e hp (.bool (decide (j < i))) := fun a w hf _ _ _ _ _ => by
 simp only [execOp, hf.eval hx, hf.eval hy]
 simp [eqGuard, binOp, Op.intCmp]
theorem q7S {x y : Operand} {t u : TypeId} {k : IntKind} {i j : Int} (hx : val e x = some (.int k i)) (hy : val e y = some (.int k j)) (h : j < i) :
  Z0 P n w0 (.binOp .gtr t x y u) ty e hp (.bool true) := by
 have := z0z (P := P) (n := n) (w0 := w0) (hp := hp) (ty := ty) (t := t) (u := u) hx hy
 rwa [decide_eq_true h] at this
theorem q9X {x y : Operand} {t u : TypeId} {k : IntKind} {i j : Int} (hx : val e x = some (.int k i)) (hy : val e y = some (.int k j)) (h : ¬ (j < i)) :
  Z0 P n w0 (.binOp .gtr t x y u) ty e hp (.bool false) := by
 have := z0z (P := P) (n := n) (w0 := w0) (hp := hp) (ty := ty) (t := t) (u := u) hx hy
 rwa [decide_eq_false h] at this
theorem z0A {x y : Operand} {t u : TypeId} {k : IntKind} {i j : Int} (hx : val e x = some (.int k i)) (hy : val e y = some (.int k j)) :
  Z0 P n w0 (.binOp .geq t x y u) ty e hp (.bool (decide (j ≤ i))) := fun a w hf _ _ _ _ _ => by
 simp only [execOp, hf.eval hx, hf.eval hy]
 simp [eqGuard, binOp, Op.intCmp]
theorem j0O {x y : Operand} {t u : TypeId} {k : IntKind} {i j : Int} (hx : val e x = some (.int k i)) (hy : val e y = some (.int k j)) (h : j ≤ i) :
  Z0 P n w0 (.binOp .geq t x y u) ty e hp (.bool true) := by
 have := z0A (P := P) (n := n) (w0 := w0) (hp := hp) (ty := ty) (t := t) (u := u) hx hy
 rwa [decide_eq_true h] at this
theorem j0P {x y : Operand} {t u : TypeId} {k : IntKind} {i j : Int} (hx : val e x = some (.int k i)) (hy : val e y = some (.int k j)) (h : ¬ (j ≤ i)) :
  Z0 P n w0 (.binOp .geq t x y u) ty e hp (.bool false) := by
 have := z0A (P := P) (n := n) (w0 := w0) (hp := hp) (ty := ty) (t := t) (u := u) hx hy
 rwa [decide_eq_false h] at this
end
end Go.Fp
namespace Go.Fp
open Go.RowKit
section
variable {P : Program} {n : NT} {m : Nat} {dk0 : Hp} {rq : Option Nat} {w0 : k9} {e : Env} {hp : Hp} {ty : TypeId}
theorem q4u {op : Op} {Ψ : Value → Hp → Prop} (h : ∀ a w, Fit n w0 e a → Own w0 hp w → ∃ v w' hp', (∀ d pos af g, (execOp a.eval ⟨d, op, ty, pos, af, g⟩).run P w = .ok (.value v) w') ∧ Own w0 hp' w' ∧ Ψ v hp') :
    q5c P n w0 op ty e hp Ψ := ⟨fun a w hf ho d pos af g K Q hK => by
  obtain ⟨v, w', hp', hr, ho', hΨ⟩ := h a w hf ho
  simp only [Oper.wp, hr, Oper.upon]
  exact hK v hp' w' hΨ ho'⟩
theorem z0T {op : Op} {Ψ : Value → Hp → Prop} (h : ∀ a w, Fit n w0 e a → Own w0 hp w → ∃ w' hp', (∀ d pos af g, (execOp a.eval ⟨d, op, ty, pos, af, g⟩).run P w = .ok .skip w') ∧ Own w0 hp' w' ∧ Ψ undef hp') :
    q5c P n w0 op ty e hp Ψ := ⟨fun a w hf ho d pos af g K Q hK => by
  obtain ⟨w', hp', hr, ho', hΨ⟩ := h a w hf ho
  simp only [Oper.wp, hr, Oper.upon]
  exact hK undef hp' w' hΨ ho'⟩
theorem q8Q {t : TypeId} {z : Value} (zs : List Value) (hz : (P.info? t).bind (·.zero) = some z) (hc : z.cells = zs.toArray) :
    q5c P n w0 (.alloc t) ty e hp (fun v hp' => ∃ g, v = .pointer (some ⟨g, 0, none⟩) ∧ hp' = (g, Cl t zs) :: hp) := q4u fun a w _ ho => by
  refine ⟨_, w.alloc (Cl t zs), _, fun d pos af g => ?_, ho.alloc _, w.heap.size, rfl, rfl⟩
  cases hi : P.info? t with
  | none => simp [hi] at hz
  | some i =>
    have hz' : i.zero = some z := by simpa [hi] using hz
    simp [execOp, Instr.alloc, zeroValue, typeInfo, hi, hz', newVar, newRow, hc]
theorem z5k {t : TypeId} {x : Operand} {v : Value} (cs : List Value) (hx : val e x = some v) (hc : v.cells = cs.toArray) :
    q5c P n w0 (.box t x) ty e hp (fun v hp' => ∃ g, v = .pointer (some ⟨g, 0, none⟩) ∧ hp' = (g, Cl t cs) :: hp) := q4u fun a w hf ho => by
  refine ⟨_, w.alloc (Cl t cs), _, fun d pos af g => ?_, ho.alloc _, w.heap.size, rfl, rfl⟩
  simp [execOp, Instr.box, hf.eval hx, newVar, newRow, hc]
theorem Own.row {w : World} {i g : Nat} {t : TypeId} {cs : List Value} (h : Own w0 hp w) (hi : hp[i]? = some (g, Cl t cs)) (cs' : List Value) : Own w0 (hp.set i (g, Cl t cs')) (w.setRow g cs'.toArray) := by
  have hb := (h.blk g _ (List.mem_of_getElem? hi)).2
  exact h.turn hi rfl rfl rfl (by simp [World.setRow]) (setRow_heap w g _ _ t _ hb) (fun k hk => setRow_other w g k _ hk)
theorem z0l (i : Nat) {t t' : TypeId} {x y : Operand} {g o : Nat} {cs : List Value} {v : Value} (hx : val e x = some (.pointer (some ⟨g, o, none⟩))) (hy : val e y = some v) (ht : q6d P t 1 = true) (h1 : v.oneCell' = true)
    (hi : hp[i]? = some (g, Cl t' cs)) (hlt : o < cs.length) :
    q5c P n w0 (.store t x y) ty e hp (fun _ hp' => hp' = hp.set i (g, Cl t' (cs.set o v))) := z0T fun a w hf ho => by
  refine ⟨w.setCell ⟨g, o, none⟩ v, _, fun d pos af gd => ?_, ho.set hi o v, rfl⟩
  have hcell : w.cell? ⟨g, o, none⟩ = some cs[o] := by rw [ho.cell hi, Kf hlt]
  have hfro := ho.frozen hi o
  have hcells : v.cells = #[v] := by cases v <;> first | rfl | cases h1
  have hst : (store ((⟨g, o, none⟩ : Addr).add 0) v).run P w = .ok () (w.setCell ⟨g, o, none⟩ v) := by
    rw [Addr.add_lit, Nat.add_zero, run_store P w _ v _ h1, hcell]
    simp [hfro]
  simp only [execOp, hf.eval hx, hf.eval hy, Instr.storeAt, Instr.sureAddr, storeVar, Sem.run_bind, Sem.run_pure, Result.andThen_ok, run_sizeOf ht, hcells]
  simp [storeCells, hst]
theorem q5u (i k : Nat) {t t' : TypeId} {x y : Operand} {g o : Nat} {cs vs : List Value} {v : Value} (hx : val e x = some (.pointer (some ⟨g, o, none⟩))) (hy : val e y = some v) (hc : v.cells = vs.toArray) (ht : q6d P t k = true) (hk : vs.length = k) (h1 : ∀ u ∈ vs, u.oneCell' = true)
    (hi : hp[i]? = some (g, Cl t' cs)) (hle : o + k ≤ cs.length) :
    q5c P n w0 (.store t x y) ty e hp (fun _ hp' => hp' = hp.set i (g, Cl t' (cs.take o ++ vs ++ cs.drop (o + k)))) := z0T fun a w hf ho => by
  have hb := (ho.blk g _ (List.mem_of_getElem? hi)).2
  have hst := run_storeCells_at P g o t' vs 0 cs.toArray w hb (by simpa [hk] using hle) h1
  refine ⟨_, _, fun d pos af gd => ?_, ho.row hi (cs.take o ++ vs ++ cs.drop (o + k)), rfl⟩
  simp only [Nat.add_zero, hk] at hst
  simp [execOp, hf.eval hx, hf.eval hy, Instr.storeAt, Instr.sureAddr, storeVar, run_sizeOf ht, hc, hk, hst]
theorem j4v {t el : TypeId} {x y : Operand} {inf : TypeInfo} {z : Value} (m : Nat) (hx : val e x = some (.int .i64 (m : Int))) (hy : val e y = some (.int .i64 (m : Int)))
    (ht : P.underlying t = some (.slice el)) (hi : P.info? el = some inf) (hz : inf.zero = some z) (hb : inf.bytes * m ≤ 281474976710656) (hm : m ≤ 9223372036854775807) :
    q5c P n w0 (.makeSlice t x y) ty e hp (fun v hp' => ∃ g, v = .slice (some ⟨g, 0, none⟩) m m ∧ hp' = (g, Cl el (madeCells z.cells (m * inf.size)).toList) :: hp) := q4u fun a w hf ho => by
  have hb' : (inf.bytes : Int) * (m : Int) ≤ 281474976710656 := by
    have h : ((inf.bytes * m : Nat) : Int) ≤ 281474976710656 := by omega
    rwa [Int.natCast_mul] at h
  have hr := run_make (P := P) w t el inf z ht hi hz .i64 .i64 m m (by omega) (by omega) hb' (by omega)
  refine ⟨_, _, _, fun d pos af g => ?_, ho.alloc (Cl el (madeCells z.cells (m * inf.size)).toList), w.heap.size, rfl, rfl⟩
  simp only [execOp, hf.eval hx, hf.eval hy, Sem.run_bind, hr, Result.andThen_ok, Int.toNat_natCast]
  simp
def q9S (pr : List Value) : Prop := True
theorem q9S.nil : q9S [] := by first | exact True.intro | exact (rfl : ([] : List Value) = [])
def j2N (j : Nat) : Prop := True
theorem q9S.sub {pr xs : List Value} {j : Nat} (h : q9S pr) (hj : j2N j) (hx : j = 0 → xs = []) : q9S (pr ++ xs) := by
  first
  | exact True.intro
  | (have h1 : j = 0 := hj
     have h2 : pr = [] := h
     show pr ++ xs = []
     rw [h2, hx h1]
     rfl)
def Seg (el sz : Nat) (v : Value) (m : Nat) (xs : List Value) (hs : Hp) : Prop :=
  (∃ A, v = .slice A 0 0 ∧ m = 0 ∧ xs = [] ∧ hs = []) ∨
  (∃ g cap pr tl, v = .slice (some ⟨g, List.length pr, none⟩) m cap ∧ hs = [(g, Cl el (pr ++ xs ++ tl))] ∧ xs.length = m * sz ∧ cap * sz ≤ (xs ++ tl).length ∧ m ≤ cap ∧ cap ≤ maxLen ∧ q9S pr)
theorem Seg.form {el sz m : Nat} {v : Value} {xs : List Value} {hs : Hp} (h : Seg el sz v m xs hs) : ∃ A c, v = .slice A m c ∧ c ≤ maxLen := by
  rcases h with ⟨A, rfl, rfl, rfl, rfl⟩ | ⟨g, cap, pr, tl, rfl, rfl, hl, _, _, hc⟩
  · exact ⟨A, 0, rfl, Nat.zero_le _⟩
  · exact ⟨_, _, rfl, hc.1⟩
theorem Seg.nil {el sz : Nat} {A : Option Addr} : Seg el sz (.slice A 0 0) 0 [] [] := .inl ⟨A, rfl, rfl, rfl, rfl⟩
theorem Seg.pos {el sz m : Nat} {v : Value} {xs : List Value} {hs : Hp} (h : Seg el sz v m xs hs) (hm : 0 < m) :
    ∃ g cap pr tl, v = .slice (some ⟨g, List.length pr, none⟩) m cap ∧ hs = [(g, Cl el (pr ++ xs ++ tl))] ∧ xs.length = m * sz ∧ cap * sz ≤ (xs ++ tl).length ∧ m ≤ cap ∧ cap ≤ maxLen ∧ q9S pr := by
  rcases h with ⟨A, rfl, rfl, rfl, rfl⟩ | h
  · omega
  · exact h
theorem Seg.rd {el sz m : Nat} {A : Option Addr} {c : Nat} {xs : List Value} {hs : Hp} {w : World} (h : Seg el sz (.slice A m c) m xs hs) (hb : ∀ x ∈ hs, w.heap[x.1]? = some x.2) : Rd w A xs := by
  rcases h with ⟨A', _, rfl, rfl, rfl⟩ | ⟨g, cap, pr, tl, hv, rfl, hl, _⟩
  · intro j u hu; simp at hu
  · injection hv with h1 h2 h3
    subst h1
    intro j u hu
    have hb := hb (g, Cl el (pr ++ xs ++ tl)) (by simp)
    simp only at hb
    have hj : j < xs.length := (List.getElem?_eq_some_iff.1 hu).1
    simp only [q4y, Ka, Addr.add_lit, World.cell?, hb]
    simp only [Option.isSome_none, Bool.false_eq_true, if_false, List.getElem?_toArray]
    rw [List.append_assoc, List.getElem?_append_right (by omega), Nat.add_sub_cancel_left, List.getElem?_append_left hj]
    exact hu
theorem q9G (w : World) (t ty e : TypeId) (i : TypeInfo) (ht : P.underlying t = some (.slice e)) (hi : P.info? e = some i)
    (g o sLen sCap : Nat) (cur : Array Value) (hg : w.heap[g]? = some (.cells cur e (0, 0)))
    (a : Addr) (m c : Nat) (news : List Value) (hl : news.length = m * i.size) (hnews : ∀ j u, news[j]? = some u → w.cell? (a.add j) = some u) (h1 : ∀ u ∈ news, u.oneCell' = true)
    (hroom : sLen + m ≤ sCap) (hfit : o + sLen * i.size + news.length ≤ cur.size) :
    (Builtin.append_ #[t, t] ty #[.slice (some ⟨g, o, none⟩) sLen sCap, .slice (some a) m c]).run P w =
      .ok (.slice (some ⟨g, o, none⟩) (sLen + m) sCap) (w.setRow g (cur.toList.take (o + sLen * i.size) ++ news ++ cur.toList.drop (o + sLen * i.size + news.length)).toArray) := by
  have hf := run_firstCells_some (P := P) w i.size m a m c news hl hnews
  have hst := run_storeCells_at P g (o + sLen * i.size) e news 0 cur w hg (by simpa using hfit) h1
  simp only [Nat.add_zero] at hst
  simp [Builtin.append_, run_underlying ht, sizeOf, typeInfo, hi, Builtin.lenOf, hroom, hf, Addr.add_lit, hst]
theorem q5S (z : Array Value) (k : Nat) : (Builtin.zeroCells z k).toList.length = k * z.size := by simp [Builtin.zeroCells]
theorem z1H {t el sz by_ : Nat} {inf : TypeInfo} {z : Value} (ht : P.underlying t = some (.slice el)) (hi : P.info? el = some inf) (hz : inf.zero = some z) (hsz : inf.size = sz) (hby : inf.bytes = by_) (hzs : z.cells.size = sz) (hpos : 0 < sz)
    {v : Value} {m : Nat} {xs : List Value} {hs R : Hp} (hseg : Seg el sz v m xs hs) {w : World} (ho : Own w0 (hs ++ R) w) {A : Option Addr} {k c : Nat} {news : List Value} (hl : news.length = k * sz) (hrd : Rd w A news) (h1 : ∀ u ∈ news, u.oneCell' = true)
    (hmax : m + k ≤ 9223372036854775807) (hbytes : (m + k) * by_ ≤ 140737488355328) :
    ∃ v' w' hs', (Builtin.append_ #[t, t] ty #[v, .slice A k c]).run P w = .ok v' w' ∧ Own w0 (hs' ++ R) w' ∧ Seg el sz v' (m + k) (xs ++ news) hs' := by
  subst hsz
  subst hby
  rcases Nat.eq_zero_or_pos k with hk | hk
  ·
    subst hk
    have hn : news = [] := List.eq_nil_of_length_eq_zero (by simpa using hl)
    subst hn
    have hrun : (Builtin.append_ #[t, t] ty #[v, .slice A 0 c]).run P w = .ok v w := by
      have hfc : ∀ w : World, (Builtin.firstCells inf.size 0 (.slice A 0 c)).run P w = .ok #[] w := by
        intro w
        cases A <;> simp [Builtin.firstCells, loadCells, loadCellsFrom]
      rcases hseg with ⟨A', rfl, rfl, rfl, rfl⟩ | ⟨g, cap, pr, tl, rfl, rfl, _, _, hmc, _⟩
      · cases A' <;> simp [Builtin.append_, run_underlying ht, sizeOf, typeInfo, hi, Builtin.lenOf, hfc, storeCells]
      · simp [Builtin.append_, run_underlying ht, sizeOf, typeInfo, hi, Builtin.lenOf, hfc, storeCells, hmc]
    exact ⟨v, w, hs, hrun, ho, by simpa using hseg⟩
  ·
    have hA : ∃ p, A = some p := by
      cases hA : A with
      | some p => exact ⟨p, rfl⟩
      | none =>
        have hlt : 0 < news.length := by rw [hl]; exact Nat.mul_pos hk hpos
        have := hrd 0 news[0] (Kf hlt)
        rw [hA] at this
        simp [q4y] at this
    obtain ⟨p, rfl⟩ := hA
    have hnews : ∀ j u, news[j]? = some u → w.cell? (p.add j) = some u := hrd
    have hcap : ∀ need old, need ≤ 9223372036854775807 → grownCap w need old el ≤ maxLen := fun need old h => grownCap_le_maxLen w need old el (by simpa [maxLen] using h)
    have fin : ∀ (need old : Nat) (zs : List Value), need = m + k → (xs ++ news).length = need * inf.size →
        ∃ hs', Own w0 (hs' ++ R) (w.drew.alloc (.cells ((xs ++ news).toArray ++ Builtin.zeroCells z.cells (grownCap w need old el - need)) el)) ∧
          Seg el inf.size (.slice (some ⟨w.heap.size, 0, none⟩) need (grownCap w need old el)) (m + k) (xs ++ news) hs' := by
      intro need old zs hneed hlen
      subst hneed
      have hge := grownCap_ge w (m + k) old el
      have ho1 := (ho.sub (Kc hs R)).drew.alloc (Cl el ((xs ++ news) ++ (Builtin.zeroCells z.cells (grownCap w (m + k) old el - (m + k))).toList))
      refine ⟨[(w.heap.size, Cl el ((xs ++ news) ++ (Builtin.zeroCells z.cells (grownCap w (m + k) old el - (m + k))).toList))], ?_, .inr ⟨w.heap.size, _, [], (Builtin.zeroCells z.cells (grownCap w (m + k) old el - (m + k))).toList, rfl, rfl, hlen, ?_, hge, hcap _ _ hmax, q9S.nil⟩⟩
      · have harr : ((xs ++ news) ++ (Builtin.zeroCells z.cells (grownCap w (m + k) old el - (m + k))).toList).toArray = (xs ++ news).toArray ++ Builtin.zeroCells z.cells (grownCap w (m + k) old el - (m + k)) := by simp
        simp only [Cl, harr] at ho1 ⊢
        exact ho1
      · refine Nat.le_of_eq (Eq.symm ?_)
        rw [List.length_append, hlen, q5S, hzs, ← Nat.add_mul]
        congr 1
        omega
    rcases hseg with ⟨A', rfl, rfl, rfl, rfl⟩ | ⟨g, cap, pr, tl, rfl, rfl, hxl, hcl, hmc, hcm⟩
    · cases A' with
      | none =>
        have hr := run_append_nil (P := P) w t ty el inf z ht hi hz p k c news hl hnews hk (by omega) (by simp only [Nat.zero_add] at hbytes; omega)
        obtain ⟨hs', h2, h3⟩ := fin k 0 [] (by omega) (by simpa using hl)
        exact ⟨_, _, hs', hr, by simpa using h2, by simpa using h3⟩
      | some b =>
        have hr := run_append_grow (P := P) w t ty el inf z ht hi hz b 0 0 [] (by simp) (fun j u hu => by simp at hu) p k c news hl hnews (by omega) (by omega) (growslice_fits (by omega) (by simpa using hbytes))
        obtain ⟨hs', h2, h3⟩ := fin (0 + k) 0 [] rfl (by simpa using hl)
        exact ⟨_, _, hs', hr, by simpa using h2, by simpa using h3⟩
    · have hgm : ((g, Cl el (pr ++ xs ++ tl)) : Nat × Obj) ∈ [(g, Cl el (pr ++ xs ++ tl))] ++ R := by simp
      have hb := (ho.blk g _ hgm).2
      have hlen : (xs ++ news).length = (m + k) * inf.size := by rw [List.length_append, hxl, hl, Nat.add_mul]
      by_cases hroom : m + k ≤ cap
      · have hmul := Nat.mul_le_mul_right inf.size hroom
        have hfit : pr.length + m * inf.size + news.length ≤ (pr ++ xs ++ tl).toArray.size := by
          rw [List.size_toArray, List.append_assoc, List.length_append, hl, Nat.add_assoc, ← Nat.add_mul]
          exact Nat.add_le_add_left (Nat.le_trans hmul hcl) _
        have hr := q9G (P := P) w t ty el inf ht hi g pr.length m cap (pr ++ xs ++ tl).toArray hb p k c news hl hnews h1 hroom hfit
        have e1 : (pr ++ xs ++ tl).take (pr.length + m * inf.size) = pr ++ xs := by rw [← hxl, ← List.length_append]; exact List.take_left
        have e2 : (pr ++ xs ++ tl).drop (pr.length + m * inf.size + news.length) = tl.drop news.length := by
          rw [← hxl, ← List.length_append, ← List.drop_drop, List.drop_left]
        simp only [e1, e2] at hr
        have ho2 := ho.row (i := 0) (g := g) (t := el) (cs := pr ++ xs ++ tl) rfl (pr ++ xs ++ news ++ tl.drop news.length)
        refine ⟨_, _, [(g, Cl el (pr ++ (xs ++ news) ++ tl.drop news.length))], hr, by simpa using ho2, .inr ⟨g, cap, pr, tl.drop news.length, rfl, rfl, hlen, ?_, hroom, hcm⟩⟩
        simp only [List.length_append] at hcl hlen ⊢
        rw [List.length_drop]
        rw [Nat.add_mul] at hmul
        omega
      · have holds : ∀ j u, xs[j]? = some u → w.cell? ((⟨g, pr.length, none⟩ : Addr).add j) = some u := by
          intro j u hu
          have hj : j < xs.length := (List.getElem?_eq_some_iff.1 hu).1
          simp only [Addr.add_lit, World.cell?, hb]
          simp only [Option.isSome_none, Bool.false_eq_true, if_false, List.getElem?_toArray]
          rw [List.append_assoc, List.getElem?_append_right (by omega), Nat.add_sub_cancel_left, List.getElem?_append_left hj]
          exact hu
        have hr := run_append_grow (P := P) w t ty el inf z ht hi hz ⟨g, pr.length, none⟩ m cap xs hxl holds p k c news hl hnews (by omega) (by omega) (growslice_fits (by omega) hbytes)
        obtain ⟨hs', h2, h3⟩ := fin (m + k) cap [] rfl hlen
        refine ⟨_, _, hs', hr, ?_, h3⟩
        simpa using h2
def q9R (el sz : Nat) (v : Value) (m : Nat) (xs : List Value) (hs : Hp) : Prop :=
  (∃ A, v = .slice A 0 0 ∧ m = 0 ∧ xs = [] ∧ hs = []) ∨
  (∃ g cap tl, v = .slice (some ⟨g, 0, none⟩) m cap ∧ hs = [(g, Cl el (xs ++ tl))] ∧ xs.length = m * sz ∧ (xs ++ tl).length = cap * sz ∧ m ≤ cap ∧ cap ≤ maxLen)
theorem q9R.seg {el sz m : Nat} {v : Value} {xs : List Value} {hs : Hp} (h : q9R el sz v m xs hs) : Seg el sz v m xs hs := by
  rcases h with h | ⟨g, cap, tl, h1, h2, h3, h4, h5, h6⟩
  · exact .inl h
  · exact .inr ⟨g, cap, [], tl, h1, by simpa using h2, h3, Nat.le_of_eq h4.symm, h5, h6, q9S.nil⟩
theorem q9R.nil {el sz : Nat} {A : Option Addr} : q9R el sz (.slice A 0 0) 0 [] [] := .inl ⟨A, rfl, rfl, rfl, rfl⟩
theorem q9R.form {el sz m : Nat} {v : Value} {xs : List Value} {hs : Hp} (h : q9R el sz v m xs hs) : ∃ A c, v = .slice A m c ∧ c ≤ maxLen := h.seg.form
theorem z1I {t el sz by_ : Nat} {inf : TypeInfo} {z : Value} (ht : P.underlying t = some (.slice el)) (hi : P.info? el = some inf) (hz : inf.zero = some z) (hsz : inf.size = sz) (hby : inf.bytes = by_) (hzs : z.cells.size = sz) (hpos : 0 < sz)
    {A' : Option Addr} {R : Hp} {w : World} (ho : Own w0 R w) {A : Option Addr} {k c : Nat} {news : List Value} (hl : news.length = k * sz) (hrd : Rd w A news)
    (hmax : k ≤ 9223372036854775807) (hbytes : k * by_ ≤ 140737488355328) :
    ∃ v' w' hs', (Builtin.append_ #[t, t] ty #[.slice A' 0 0, .slice A k c]).run P w = .ok v' w' ∧ Own w0 (hs' ++ R) w' ∧ q9R el sz v' k news hs' := by
  subst hsz
  subst hby
  rcases Nat.eq_zero_or_pos k with hk | hk
  · subst hk
    have hn : news = [] := List.eq_nil_of_length_eq_zero (by simpa using hl)
    subst hn
    have hfc : ∀ w : World, (Builtin.firstCells inf.size 0 (.slice A 0 c)).run P w = .ok #[] w := by
      intro w
      cases A <;> simp [Builtin.firstCells, loadCells, loadCellsFrom]
    refine ⟨.slice A' 0 0, w, [], ?_, ho, q9R.nil⟩
    cases A' <;> simp [Builtin.append_, run_underlying ht, sizeOf, typeInfo, hi, Builtin.lenOf, hfc, storeCells]
  · have hA : ∃ p, A = some p := by
      cases hA : A with
      | some p => exact ⟨p, rfl⟩
      | none =>
        have hlt : 0 < news.length := by rw [hl]; exact Nat.mul_pos hk hpos
        have := hrd 0 news[0] (Kf hlt)
        rw [hA] at this
        simp [q4y] at this
    obtain ⟨p, rfl⟩ := hA
    have hnews : ∀ j u, news[j]? = some u → w.cell? (p.add j) = some u := hrd
    have hge := grownCap_ge w k 0 el
    have hcm : grownCap w k 0 el ≤ maxLen := grownCap_le_maxLen w k 0 el (by simpa [maxLen] using hmax)
    have ho1 := ho.drew.alloc (Cl el (news ++ (Builtin.zeroCells z.cells (grownCap w k 0 el - k)).toList))
    have harr : (news ++ (Builtin.zeroCells z.cells (grownCap w k 0 el - k)).toList).toArray = news.toArray ++ Builtin.zeroCells z.cells (grownCap w k 0 el - k) := by simp
    have hseg : q9R el inf.size (.slice (some ⟨w.heap.size, 0, none⟩) k (grownCap w k 0 el)) k news [(w.heap.size, Cl el (news ++ (Builtin.zeroCells z.cells (grownCap w k 0 el - k)).toList))] := by
      refine .inr ⟨w.heap.size, _, _, rfl, rfl, hl, ?_, hge, hcm⟩
      rw [List.length_append, hl, q5S, hzs, ← Nat.add_mul]
      congr 1
      omega
    cases A' with
    | none =>
      have hr := run_append_nil (P := P) w t ty el inf z ht hi hz p k c news hl hnews hk (by omega) (by omega)
      refine ⟨_, _, _, hr, ?_, hseg⟩
      simp only [Cl, harr] at ho1 ⊢
      exact ho1
    | some b =>
      have hr := run_append_grow (P := P) w t ty el inf z ht hi hz b 0 0 [] (by simp) (fun j u hu => by simp at hu) p k c news hl hnews (by omega) (by omega) (growslice_fits (by omega) (by simpa using hbytes))
      simp only [Nat.zero_add, Array.empty_append] at hr
      refine ⟨_, _, _, hr, ?_, hseg⟩
      simp only [Cl, harr] at ho1 ⊢
      simpa using ho1
end
end Go.Fp
namespace Go.Fp
open Go.RowKit
theorem z0F {α : Type} : ∀ (l : List α) (i : Nat) (x : α), l[i]? = some x → (x :: l.eraseIdx i).Perm l
 | [], i, x, h => by simp at h
 | y :: r, 0, x, h => by
  have : y = x := by simpa using h
  subst this
  exact List.Perm.refl _
 | y :: r, i + 1, x, h => by
  have hr : r[i]? = some x := by simpa using h
  exact (List.Perm.swap y x _).trans ((z0F r i x hr).cons y)
section
variable {P : Program} {n : NT} {m : Nat} {dk0 : Nat × Obj → Prop} {rq : Option Nat} {w0 : k9} {ops : Array Oper} {Q : Exit → Act → World → Prop} {e : Env} {hp : Hp} {op : Op} {ty : TypeId} {k : Nat} {pos : String} {af : Array Edge} {rest : List Oper}
variable {fuel : Nat} {listed : Array Bool} {S : Hp}
theorem q5W {p : Prop} [Decidable p] (hd : Nat.blt k m = true) (hst : Z0 P (NT.mk m dk0 rq) w0 op ty e hp (.bool (decide p))) (ht : p → SLo P (NT.mk m dk0 rq) w0 ops Q rest ((k, .bool true) :: e) hp) (hf : ¬ p → SLo P (NT.mk m dk0 rq) w0 ops Q rest ((k, .bool false) :: e) hp) :
  SLo P (NT.mk m dk0 rq) w0 ops Q (⟨some k, op, ty, pos, af, none⟩ :: rest) e hp := by
 refine q7s hd hst ?_
 by_cases h : p
 ·rw [decide_eq_true h]; exact ht h
 ·rw [decide_eq_false h]; exact hf h
variable {fn : Func} {Φ : Value → Hp → Prop}
theorem q4D {x : Exit} {hp' : Hp} (hh : hp'.Sublist hp) (h : SLx n w0 Q x e hp') : SLx n w0 Q x e hp := fun a w hf ho => h a w hf (ho.sub hh)
theorem j0Y {i : Nat} {x : Nat × Obj} (h : hp[i]? = some x) : (x :: hp.eraseIdx i).Perm hp := by
 exact z0F hp i x h
variable {b1 : k9}
end
theorem Rd.old {w0 : k9} {w : World} {hp : Hp} {A : Option Addr} {xs : List Value} (h : Rd w0.w A xs) (ho : Own w0 hp w) : Rd w A xs := fun j u hu => by
 have := h j u hu
 cases A with
 | none => simp [q4y] at this
 | some p => exact ho.old (p := p.add j) this
theorem Rd.own {w0 : k9} {w : World} {hp : Hp} {i g : Nat} {t : TypeId} {cs : List Value} (ho : Own w0 hp w) (hi : hp[i]? = some (g, Cl t cs)) : Rd w (some ⟨g, 0, none⟩) cs := fun j u hu => by
 simp only [q4y, Ka, Addr.add_lit, Nat.zero_add]
 rw [ho.cell hi]
 exact hu
def rows {α : Type} (enc : α → List Value) (l : List α) : List Value := l.flatMap enc
section
variable {P : Program} {n : NT} {m : Nat} {dk0 : Nat × Obj → Prop} {rq : Option Nat} {w0 : k9} {e : Env} {hp : Hp} {ty : TypeId}
end
end Go.Fp
namespace Go.Fp
open Go.RowKit
structure Sl (α : Type) where
 A : Option Addr
 c : Nat
 l : List α
def All {α : Type} (p : α → Prop) (l : List α) (k : Nat) : Prop := ∀ x ∈ l.take k, p x
end Go.Fp
namespace Go.Fp
open Go.RowKit
def pvals (e : Env) : List (Nat × Operand) → Option (List (Nat × Value))
 | [] => some []
 | (i, x) :: r => match val e x, pvals e r with
  | some v, some vs => some ((i, v) :: vs)
  | _, _ => none
theorem FitV.pvals {n : NT} {e : Env} {a : Act} (h : FitV n e a) : ∀ {xs : List (Nat × Operand)} {vs : List (Nat × Value)}, pvals e xs = some vs → xs.map (fun (i, x) => (i, a.eval x)) = vs
 | [], vs, hx => by simp [Go.Fp.pvals] at hx; simp [hx]
 | (i, x) :: r, vs, hx => by
  simp only [Go.Fp.pvals] at hx
  split at hx
  ·rename_i v us hv hus
   injection hx with hx
   subst hx
   simp [h.eval hv, h.pvals hus]
  ·cases hx
section
variable {P : Program} {n : NT} {m : Nat} {dk0 : Hp} {rq : Option Nat} {w0 : k9} {e : Env} {hp : Hp} {ty : TypeId}
theorem q5w {x y : Operand} {t u el sz m c m' c' : Nat} {A : Option Addr} (hx : val e x = some (.slice A m c)) (hy : val e y = some (.slice none m' c')) (h : slT P t el sz = true) :
  Z0 P n w0 (.binOp .eql t x y u) ty e hp (.bool (decide (A = none))) := fun a w hf _ _ _ _ _ => by
 obtain ⟨h1, _⟩ := q3U h
 have hr := Lib.run_eql_slice_nil (P := P) w t el A m c m' c' h1
 have hb : A.isNone = decide (A = none) := by cases A <;> rfl
 simp only [execOp, hf.eval hx, hf.eval hy, eqGuard, Sem.run_bind]
 simp [hr, hb]
theorem q7U {t : TypeId} {parts : Array (Nat × Operand)} {v : Value} (ps : List (Nat × Value)) (hv : pvals e parts.toList = some ps) (hrun : ∀ w, (Instr.build t ps.toArray).run P w = .ok v w) :
  Z0 P n w0 (.build t parts) ty e hp v := fun a w hf _ _ _ _ _ => by
 have h1 : (parts.map fun (i, x) => (i, a.eval x)) = ps.toArray := Array.ext' (by rw [Array.toList_map]; exact hf.pvals hv)
 simp only [execOp, h1, Sem.run_bind, hrun, Result.andThen_ok]
 rfl
theorem V3 {t el len : TypeId} {parts : Array (Nat × Operand)} (ps : List (Nat × Value)) (cs : List Value) (hv : pvals e parts.toList = some ps)
  (hrun : ∀ w : World, (Instr.buildSlice t len ps.toArray).run P w = .ok (.slice (some ⟨w.heap.size, 0, none⟩) len len) (w.alloc (Cl el cs))) :
  q5c P n w0 (.buildSlice t len parts) ty e hp (fun v hp' => ∃ g, v = .slice (some ⟨g, 0, none⟩) len len ∧ hp' = (g, Cl el cs) :: hp) := q4u fun a w hf ho => by
 have h1 : (parts.map fun (i, x) => (i, a.eval x)) = ps.toArray := Array.ext' (by rw [Array.toList_map]; exact hf.pvals hv)
 refine ⟨_, w.alloc (Cl el cs), _, fun d pos af g => ?_, ho.alloc _, w.heap.size, rfl, rfl⟩
 simp only [execOp, h1, Sem.run_bind, hrun, Result.andThen_ok]
 rfl
theorem j0K {s x : Operand} {t el sz by_ : Nat} {inf : TypeInfo} {z v : Value} {m : Nat} {xs : List Value} (hs R : Hp) {A : Option Addr} {k c : Nat} (news : List Value)
  (ht : P.underlying t = some (.slice el)) (hi : P.info? el = some inf) (hz : inf.zero = some z) (hsz : inf.size = sz) (hby : inf.bytes = by_) (hzs : z.cells.size = sz) (hpos : 0 < sz)
  (hx : val e s = some v) (hy : val e x = some (.slice A k c)) (hseg : Seg el sz v m xs hs) (hhp : hp = hs ++ R) (hl : news.length = k * sz) (hrd : ∀ w, Own w0 hp w → Rd w A news) (h1 : ∀ u ∈ news, u.oneCell' = true)
  (hmax : m + k ≤ 9223372036854775807) (hbytes : (m + k) * by_ ≤ 140737488355328) :
  q5c P n w0 (.call { callee := .builtin .append, args := #[s, x], argTypes := #[t, t] }) ty e hp (fun v' hp' => ∃ hs', hp' = hs' ++ R ∧ Seg el sz v' (m + k) (xs ++ news) hs') := q4u fun a w hf ho => by
 subst hhp
 obtain ⟨v', w', hs', hrun, ho', hseg'⟩ := z1H (P := P) (ty := ty) ht hi hz hsz hby hzs hpos hseg ho (A := A) (c := c) hl (hrd w ho) h1 hmax hbytes
 refine ⟨v', w', hs' ++ R, fun d pos af g => ?_, ho', hs', rfl, hseg'⟩
 simp [execOp, resolve, invoke, builtin, hf.eval hx, hf.eval hy, hrun]
theorem j6E {s x : Operand} {t el sz by_ : Nat} {z v : Value} {m : Nat} {xs : List Value} (hs R : Hp) {A : Option Addr} {k c : Nat} (news : List Value)
  (hsl : slT P t el sz = true) (hinf : (P.info? el).map (fun i => (i.zero, i.size, i.bytes)) = some (some z, sz, by_)) (hzs : z.cells.size = sz) (hpos : 0 < sz)
  (hx : val e s = some v) (hy : val e x = some (.slice A k c)) (hseg : Seg el sz v m xs hs) (hhp : hp = hs ++ R) (hl : news.length = k * sz) (hrd : ∀ w, Own w0 hp w → Rd w A news) (h1 : ∀ u ∈ news, u.oneCell' = true)
  (hmax : m + k ≤ 9223372036854775807) (hbytes : (m + k) * by_ ≤ 140737488355328) :
  q5c P n w0 (.call { callee := .builtin .append, args := #[s, x], argTypes := #[t, t] }) ty e hp (fun v' hp' => ∃ hs', hp' = hs' ++ R ∧ Seg el sz v' (m + k) (xs ++ news) hs') := by
 obtain ⟨h2, _⟩ := q3U hsl
 cases hi : P.info? el with
 | none => simp [hi] at hinf
 | some inf =>
  simp only [hi, Option.map_some, Option.some.injEq, Prod.mk.injEq] at hinf
  exact j0K hs R news h2 hi hinf.1 hinf.2.1 hinf.2.2 hzs hpos hx hy hseg hhp hl hrd h1 hmax hbytes
theorem j4w {s x : Operand} {t el sz by_ : Nat} {z v : Value} {m : Nat} {xs : List Value} (F hs R : Hp) {A : Option Addr} {k c : Nat} (news : List Value)
  (hsl : slT P t el sz = true) (hinf : (P.info? el).map (fun i => (i.zero, i.size, i.bytes)) = some (some z, sz, by_)) (hzs : z.cells.size = sz) (hpos : 0 < sz)
  (hx : val e s = some v) (hy : val e x = some (.slice A k c)) (hseg : Seg el sz v m xs hs) (hhp : hp = F ++ (hs ++ R)) (hl : news.length = k * sz) (hrd : ∀ w, Own w0 hp w → Rd w A news) (h1 : ∀ u ∈ news, u.oneCell' = true)
  (hmax : m + k ≤ 9223372036854775807) (hbytes : (m + k) * by_ ≤ 140737488355328) :
  q5c P n w0 (.call { callee := .builtin .append, args := #[s, x], argTypes := #[t, t] }) ty e hp (fun v' hp' => ∃ hs', hp' = F ++ (hs' ++ R) ∧ Seg el sz v' (m + k) (xs ++ news) hs') := by
 have hperm : ∀ q : Hp, (q ++ (F ++ R)).Perm (F ++ (q ++ R)) := fun q => by
  rw [← List.append_assoc, ← List.append_assoc]
  exact List.Perm.append_right R List.perm_append_comm
 have h := j6E (P := P) (n := n) (w0 := w0) (e := e) (ty := ty) (hp := hs ++ (F ++ R)) hs (F ++ R) (A := A) (c := c) news hsl hinf hzs hpos hx hy hseg rfl hl (fun w ho => hrd w (by rw [hhp]; exact ho.perm (hperm hs).symm)) h1 hmax hbytes
 refine ⟨fun a w hf ho d pos af g K Q hK => h.out a w hf ?_ d pos af g K Q (fun v' hp' w' hΨ ho' => ?_)⟩
 ·rw [hhp] at ho
  exact ho.perm (hperm hs)
 ·obtain ⟨hs', rfl, hseg'⟩ := hΨ
  exact hK v' (F ++ (hs' ++ R)) w' ⟨hs', rfl, hseg'⟩ (ho'.perm (hperm hs').symm)
theorem z0p {s x : Operand} {t el sz by_ : Nat} {z : Value} {A' : Option Addr} {A : Option Addr} {k c : Nat} (news : List Value)
  (hsl : slT P t el sz = true) (hinf : (P.info? el).map (fun i => (i.zero, i.size, i.bytes)) = some (some z, sz, by_)) (hzs : z.cells.size = sz) (hpos : 0 < sz)
  (hx : val e s = some (.slice A' 0 0)) (hy : val e x = some (.slice A k c)) (hl : news.length = k * sz) (hrd : ∀ w, Own w0 hp w → Rd w A news)
  (hmax : k ≤ 9223372036854775807) (hbytes : k * by_ ≤ 140737488355328) :
  q5c P n w0 (.call { callee := .builtin .append, args := #[s, x], argTypes := #[t, t] }) ty e hp (fun v' hp' => ∃ hs', hp' = hs' ++ hp ∧ q9R el sz v' k news hs') := q4u fun a w hf ho => by
 obtain ⟨h2, _⟩ := q3U hsl
 cases hi : P.info? el with
 | none => simp [hi] at hinf
 | some inf =>
  simp only [hi, Option.map_some, Option.some.injEq, Prod.mk.injEq] at hinf
  obtain ⟨v', w', hs', hrun, ho', hseg'⟩ := z1I (P := P) (ty := ty) h2 hi hinf.1 hinf.2.1 hinf.2.2 hzs hpos ho (A' := A') (A := A) (c := c) hl (hrd w ho) hmax hbytes
  refine ⟨v', w', hs' ++ hp, fun d pos af g => ?_, ho', hs', rfl, hseg'⟩
  simp [execOp, resolve, invoke, builtin, hf.eval hx, hf.eval hy, hrun]
end
theorem Rd.none_nil {w : World} {xs : List Value} (h : Rd w none xs) : xs = [] := by
 cases xs with
 | nil => rfl
 | cons x r => have := h 0 x rfl; simp [q4y] at this
end Go.Fp
namespace Go.Fp
open Go.RowKit
section
variable {P : Program} {n : NT} {m : Nat} {dk0 : Hp} {rq : Option Nat} {w0 : k9} {ops : Array Oper} {Q : Exit → Act → World → Prop} {e : Env} {hp : Hp} {ty : TypeId} {f : FuncId} {args : List Value} {Φ : Value → Hp → Prop}
theorem H2 (F q R : Hp) : (q ++ (F ++ R)).Perm (F ++ (q ++ R)) := by
 rw [← List.append_assoc, ← List.append_assoc]
 exact List.Perm.append_right R List.perm_append_comm
theorem Q3 {x : Operand} {t : TypeId} {A : Option Addr} {k : Nat} {v : Value} (hx : val e x = some (.pointer (A.map (·.add k)))) (ht : q5B P t = true) (hrd : ∀ w, Own w0 hp w → q4y w A k = some v) :
  Z0 P n w0 (.load t x) ty e hp v := fun a w hf ho _ _ _ _ => by
 have hv := hrd w ho
 cases A with
 | none => simp [q4y] at hv
 | some p =>
  simp only [Option.map_some] at hx
  have hc : w.cell? (p.add k) = some v := hv
  simp [execOp, hf.eval hx, Instr.loadAt, Instr.sureAddr, loadVar, q1Q ht, hc]
theorem Seg.isSome {el sz m : Nat} {A : Option Addr} {c : Nat} {xs : List Value} {hs : Hp} (h : Seg el sz (.slice A m c) m xs hs) (hm : 0 < m) : A.isSome = true := by
 obtain ⟨g, cap, pr, tl, hv, _⟩ := h.pos hm
 injection hv with h1
 rw [h1]; rfl
end
section
variable {P : Program} {n : NT} {m : Nat} {dk0 : Hp} {rq : Option Nat} {w0 : k9} {e : Env} {hp : Hp} {ty : TypeId}
end
end Go.Fp
namespace Go.Fp
open Go.RowKit
def z3N (w0 : k9) (Φ : Value → k9 → Hp → Prop) : Ending → World → Prop := fun e w' => ∃ v b' hp', e = .returned v ∧ w0.Le b' ∧ Own b' hp' w' ∧ Φ v b' hp'
def v8 (P : Program) (f : FuncId) (args : List Value) (w0 : k9) (hp : Hp) (Φ : Value → k9 → Hp → Prop) : Prop :=
 ∀ w, Own w0 hp w → Calls P f args.toArray w (z3N w0 Φ)
section
variable {P : Program} {w0 : k9} {hp : Hp} {f : FuncId} {fn : Func} {c : Code} {args : List Value} {Φ : Value → k9 → Hp → Prop} {Ψ : Value → k9 → Prop} {n : NT} {m : Nat} {dk0 : Nat × Obj → Prop} {rq : Option Nat} {e : Env} {b1 : k9}
theorem q5m (n : Nat) (hf : P.funcs[f]? = some fn) (hb : fn.body = some c) (hn : fn.ntmps = n) (hle : Nat.ble args.length n = true)
  (h : SLc P ⟨n, fun x => x ∈ w0.dk, none⟩ w0 (q9I P fn (z3N w0 Φ)) c (z3u 0 args) hp) : v8 P f args w0 hp Φ := fun w ho => z9F n hf hb hn hle h w ho
variable {ops : Array Oper} {Q : Exit → Act → World → Prop} {rest : List Oper} {d : Option Tmp} {pos : String} {af : Array Edge} {xs : Array Operand} {ts : Array TypeId} {ty : TypeId}
theorem q8S (vs : List Value) (hd : okD d m = true) (hc : j1 P f = true) (hv : z5a e xs.toList = some vs) (h : v8 P f vs w0 hp Φ)
  (k : ∀ v b' hp', w0.Le b' → Φ v b' hp' → SLo P (NT.mk m dk0 rq) b' ops Q rest (putE d v e) hp') :
  SLo P (NT.mk m dk0 rq) w0 ops Q (⟨d, .call { callee := .value (.func f), args := xs, argTypes := ts }, ty, pos, af, none⟩ :: rest) e hp := fun a w hf ho =>
 q3T rfl fun K hK => by
  have hargs : xs.map a.eval = vs.toArray := Array.ext' (by rw [Array.toList_map]; exact hf.evals hv)
  have hrun : (execOp a.eval ⟨d, .call { callee := .value (.func f), args := xs, argTypes := ts }, ty, pos, af, none⟩).run P w = .ok (.enter f vs.toArray) w := by
   simp only [execOp, resolve, Act.eval, Deferred.ofValue, hargs, Sem.run_bind, Sem.run_pure, Result.andThen_ok, invoke]
   simpa using q1t (P := P) hc vs.toArray w
  simp only [Oper.wp, hrun, Oper.upon]
  exact (h w ho).mono fun en w' ⟨v, b', hp', he, hle, ho', hΦ⟩ => by
   subst he
   exact hK _ _ (k v b' hp' hle hΦ _ _ ((hf.putE hd v).le hle) ho')
theorem q7Q {x : Operand} (first captured : Array Value) (vs : List Value) (hd : okD d m = true) (hx : val e x = some (.func (.func f) first captured)) (hc : j1 P f = true) (hv : z5a e xs.toList = some vs) (h : v8 P f (first.toList ++ vs ++ captured.toList) w0 hp Φ)
  (k : ∀ v b' hp', w0.Le b' → Φ v b' hp' → SLo P (NT.mk m dk0 rq) b' ops Q rest (putE d v e) hp') :
  SLo P (NT.mk m dk0 rq) w0 ops Q (⟨d, .call { callee := .value x, args := xs, argTypes := ts }, ty, pos, af, none⟩ :: rest) e hp := fun a w hf ho =>
 q3T rfl fun K hK => by
  have hargs : xs.map a.eval = vs.toArray := Array.ext' (by rw [Array.toList_map]; exact hf.evals hv)
  have hrun : (execOp a.eval ⟨d, .call { callee := .value x, args := xs, argTypes := ts }, ty, pos, af, none⟩).run P w = .ok (.enter f (first ++ vs.toArray ++ captured)) w := by
   simp only [execOp, resolve, hf.eval hx, Deferred.ofValue, hargs, Sem.run_bind, Sem.run_pure, Result.andThen_ok, invoke]
   exact q1t (P := P) hc _ w
  simp only [Oper.wp, hrun, Oper.upon]
  have h' := h w ho
  have harr : (first.toList ++ vs ++ captured.toList).toArray = first ++ vs.toArray ++ captured := by simp
  rw [harr] at h'
  exact h'.mono fun en w' ⟨v, b', hp', he, hle, ho', hΦ⟩ => by
   subst he
   exact hK _ _ (k v b' hp' hle hΦ _ _ ((hf.putE hd v).le hle) ho')
end
def SLA (P : Program) (n : NT) (w0 b : k9) (ops : Array Oper) (S : Hp) (Q : Exit → Act → World → Prop) (fuel : Nat) (listed : Array Bool) (e : Env) (hp : Hp) : Prop :=
 ∀ a w, Fit n b e a → Own b hp w → j4o P .any ops (j0B Q) (Own w0 S) (Own w0 []) fuel listed a w
def SLR (P : Program) (n : NT) (w0 b : k9) (ops : Array Oper) (S : Hp) (Q : Exit → Act → World → Prop) (fuel : Nat) (listed : Array Bool) (e : Env) (hp : Hp) (rs : List Nat) : Prop :=
 ∀ i ∈ rs, ∀ a w, Fit n b e a → Own b hp w → wpOp P ops (j0B Q) i (fun a' w' => ((q4m .any ops (listed.setIfInBounds i true) = true → Own w0 S w') ∧ Own w0 [] w') ∧ j4o P .any ops (j0B Q) (Own w0 S) (Own w0 []) fuel (listed.setIfInBounds i true) a' w') a w
section
variable {P : Program} {n : NT} {m : Nat} {dk0 : Nat × Obj → Prop} {rq : Option Nat} {w0 b : k9} {ops : Array Oper} {Q : Exit → Act → World → Prop} {e : Env} {hp S : Hp} {op : Op} {ty : TypeId} {d : Option Tmp} {pos : String} {af : Array Edge} {fuel : Nat} {listed : Array Bool}
theorem z2J (hr : (Region.ready .any ops listed).isEmpty = true) (h : SLx n b Q .normal e hp) : SLA P n w0 b ops S Q fuel listed e hp := fun a w hf ho => by
 have hr' : Region.ready .any ops listed = [] := by simpa using hr
 cases fuel with
 | zero => exact ⟨hr', h a w hf ho⟩
 | succ m => exact ⟨fun _ => h a w hf ho, fun i hi => by rw [hr'] at hi; cases hi⟩
theorem z8c (rs : List Nat) (hr : Region.ready .any ops listed = rs) (hne : rs.isEmpty = false) (h : SLR P n w0 b ops S Q fuel listed e hp rs) : SLA P n w0 b ops S Q (fuel + 1) listed e hp := fun a w hf ho =>
 ⟨fun h0 => by rw [hr] at h0; subst h0; simp at hne, fun i hi => h i (hr ▸ hi) a w hf ho⟩
theorem z8b : SLR P n w0 b ops S Q fuel listed e hp [] := fun _ hi => by cases hi
theorem j6f {Ψ : Value → Hp → Prop} (hle : w0.Le b) {i : Nat} {rs : List Nat} (hi : ops[i]? = some ⟨d, op, ty, pos, af, none⟩) (hd : okD d m = true) (hdo : q5c P (NT.mk m dk0 rq) b op ty e hp Ψ)
  (h : ∀ v hp', Ψ v hp' → (q4m .any ops (listed.setIfInBounds i true) = false ∨ S.Sublist hp') ∧ SLA P (NT.mk m dk0 rq) w0 b ops S Q fuel (listed.setIfInBounds i true) (putE d v e) hp')
  (hs : SLR P (NT.mk m dk0 rq) w0 b ops S Q fuel listed e hp rs) : SLR P (NT.mk m dk0 rq) w0 b ops S Q fuel listed e hp (i :: rs) := fun j hj a w hf ho => by
 rcases List.mem_cons.1 hj with rfl | hj
 ·unfold wpOp
  simp only [hi]
  rw [if_pos (by simp [Region.wanted])]
  refine .inl (hdo.out a w hf ho d pos af none _ _ fun v hp' w' hΨ ho' => ?_)
  obtain ⟨h1, h2⟩ := h v hp' hΨ
  refine ⟨⟨fun hl => ?_, (hle.back _ _ ho').sub (List.nil_sublist _)⟩, h2 _ _ (hf.putE hd v) ho'⟩
  rcases h1 with h1 | h1
  ·rw [h1] at hl; cases hl
  ·exact (hle.back _ _ ho').sub h1
 ·exact hs j hj a w hf ho
end
end Go.Fp
