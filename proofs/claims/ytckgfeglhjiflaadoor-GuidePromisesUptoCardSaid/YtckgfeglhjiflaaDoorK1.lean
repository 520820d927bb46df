/- The framework, part 1: environments (slots by number), symbolic heaps of own blocks, judgements on code, and the rules of control. Plain theorems over any program; nothing of a given program stands here. -/
import Derived.WalkKit
import Derived.OrdersHeld
import Derived.Deep.RegionHeld3
import Derived.RangeFuncRecord
import Derived.ControlIn
import Derived.TacticsIn
import Derived.OrdersIn
namespace Go.Fp
open Go.RowKit

abbrev Env := List (Nat × Value)
abbrev Hp := List (Nat × Obj)

def look : Env → Nat → Option Value
  | [], _ => none
  | (i, v) :: t, k => match Nat.beq i k with
    | true => some v
    | false => look t k

def val (e : Env) : Operand → Option Value
  | .tmp t => look e t
  | .const v => some v
  | .global g => some (.pointer (some ⟨g, 0, none⟩))
  | .func f => some (.func (.func f) #[] #[])

def vals (e : Env) : List Operand → Option (List Value)
  | [] => some []
  | x :: r => match val e x, vals e r with
    | some v, some vs => some (v :: vs)
    | _, _ => none

/-- Cells that stand in 'w' stand in 'w''; blocks of cells (not empty ones) are the same in both. -/
structure Keeps (w w' : World) : Prop where
  cell : ∀ (p : Addr) (v : Value), w.cell? p = some v → w'.cell? p = some v
  obj : ∀ (g : Nat) (a : Array Value) (t : TypeId) (fr : Nat × Nat), 0 < a.size → w.heap[g]? = some (.cells a t fr) → w'.heap[g]? = some (.cells a t fr)
instance {w w' : World} : CoeFun (Keeps w w') (fun _ => ∀ (p : Addr) (v : Value), w.cell? p = some v → w'.cell? p = some v) := ⟨Keeps.cell⟩
theorem Keeps.refl (w : World) : Keeps w w := ⟨fun _ _ h => h, fun _ _ _ _ _ h => h⟩
theorem Keeps.trans {a b c : World} (h : Keeps a b) (k : Keeps b c) : Keeps a c := ⟨fun p v hv => k.cell p v (h.cell p v hv), fun g x t fr hx hg => k.obj g x t fr hx (h.obj g x t fr hx hg)⟩
/-- It is enough that the blocks stand. -/
theorem Keeps.of_obj {w w' : World} (h : ∀ (g : Nat) (a : Array Value) (t : TypeId) (fr : Nat × Nat), 0 < a.size → w.heap[g]? = some (.cells a t fr) → w'.heap[g]? = some (.cells a t fr)) : Keeps w w' := by
  refine ⟨fun p v hv => ?_, h⟩
  unfold World.cell? at hv ⊢
  cases hg : w.heap[p.block]? with
  | none => rw [hg] at hv; cases hv
  | some o =>
    rw [hg] at hv
    cases o with
    | cells a t fr =>
      have h0 : 0 < a.size := by
        simp only at hv
        split at hv
        · cases hv
        · have := (Array.getElem?_eq_some_iff.1 hv).1; omega
      rw [h p.block a t fr h0 hg]
      exact hv
    | _ => cases hv
/-- A block of cells that is not empty has a cell. -/
theorem cell_of_obj {w : World} {g : Nat} {a : Array Value} {t : TypeId} {fr : Nat × Nat} (h0 : 0 < a.size) (hg : w.heap[g]? = some (.cells a t fr)) : w.cell? ⟨g, 0, none⟩ = some a[0] := by
  simp [World.cell?, hg, h0]

/-- What is known of memory: a world 'w' whose cells stay as they are, a number 'B' below which nothing is written, and blocks that are no cells (records of loops over functions) that stand as they are. -/
structure Base where
  w : World
  B : Nat
  dk : Hp := []
instance : Coe World Base := ⟨fun w => ⟨w, w.heap.size, []⟩⟩

structure Own (b : Base) (hp : Hp) (w : World) : Prop where
  lo : b.B ≤ b.w.heap.size
  below : Below b.B b.w w
  keeps : Keeps b.w w
  nd : (hp.map (·.1)).Nodup
  blk : ∀ g o, (g, o) ∈ hp → b.B ≤ g ∧ w.heap[g]? = some o
  hole : ∀ g o, (g, o) ∈ hp → ∀ p : Addr, p.block = g → b.w.cell? p = none
  dks : ∀ g o, (g, o) ∈ b.dk → b.B ≤ g ∧ w.heap[g]? = some o ∧ (∀ cs t fr, o ≠ .cells cs t fr) ∧ ∀ o', (g, o') ∉ hp

abbrev Base.bare (b : Base) : Base := ⟨b.w, b.B, []⟩
/-- What 'b' knows of memory, with the records that 'b0' knows. -/
abbrev Base.over (b b0 : Base) : Base := ⟨b.w, b.B, b0.dk⟩
theorem Own.dress {b : Base} {dk : Hp} {hp : Hp} {w : World} (h : Own ⟨b.w, b.B, dk⟩ hp w) (hd : ∀ g o, (g, o) ∈ b.dk → b.B ≤ g ∧ w.heap[g]? = some o ∧ (∀ cs t fr, o ≠ .cells cs t fr) ∧ ∀ o', (g, o') ∉ hp) : Own b hp w :=
  ⟨h.lo, h.below, h.keeps, h.nd, h.blk, h.hole, hd⟩
theorem Own.bare {b : Base} {hp : Hp} {w : World} (h : Own b hp w) : Own b.bare hp w := ⟨h.lo, h.below, h.keeps, h.nd, h.blk, h.hole, fun _ _ hm => absurd hm (by simp)⟩
/-- 'b'' knows all that 'b' knows. -/
structure Base.Le (b b' : Base) : Prop where
  B : b'.B = b.B
  cells : Keeps b.w b'.w
  dk : ∀ x ∈ b.dk, x ∈ b'.dk
  bk : ∀ hp w, Own b'.bare hp w → Own b.bare hp w
theorem Base.Le.back {b b' : Base} (h : b.Le b') (hp : Hp) (w : World) (ho : Own b' hp w) : Own b hp w :=
  (h.bk hp w ho.bare).dress fun g o hm => by rw [← h.B]; exact ho.dks g o (h.dk _ hm)
theorem Base.Le.refl (b : Base) : b.Le b := ⟨rfl, Keeps.refl _, fun _ h => h, fun _ _ h => h⟩
theorem Base.Le.trans {a b c : Base} (h : a.Le b) (k : b.Le c) : a.Le c := ⟨k.B.trans h.B, h.cells.trans k.cells, fun x hx => k.dk x (h.dk x hx), fun hp w ho => h.bk hp w (k.bk hp w ho)⟩
theorem Base.Le.over {a b : Base} (h : a.Le b) : a.Le (b.over a) := ⟨h.B, h.cells, fun _ hx => hx, h.bk⟩

/-- The blocks for the rounds' deferred calls. -/
abbrev defO : Obj := .deferred (some [])
def mark (D : Nat) : Deferred := { target := .collected D, args := #[] }
/-- A frame: how many temporaries; which records stood when its function was entered; the loop of whose round it is. -/
structure NT where
  n : Nat
  dk : Nat × Obj → Prop
  rd : Option Nat
instance : Coe NT Nat := ⟨NT.n⟩
structure FitV (n : NT) (e : Env) (a : Act) : Prop where
  size : a.tmps.size = n.n
  get : ∀ k v, look e k = some v → a.tmps.getD k undef = v
structure Fit (n : NT) (b : Base) (e : Env) (a : Act) : Prop extends FitV n e a where
  defers : ∃ ds : List Nat, a.defers = ds.map mark ∧ ds.Nodup ∧ ∀ D ∈ ds, (D, defO) ∈ b.dk ∧ ∀ o, ¬ n.dk (D, o)
def fenceR : Option Nat → Fence
  | none => Fence.wide
  | some l => Fence.wide.inRound l
theorem fenceR_fn (r : Option Nat) (f : FuncId) : (fenceR r).fn f := by cases r <;> trivial
abbrev wpR (c : Code) (r : Option Nat) (P : Program) (Q : Exit → Act → World → Prop) (a : Act) (w : World) : Prop := c.wpIn (fenceR r) 0 P Q a w

abbrev Cl (t : TypeId) (cs : List Value) : Obj := .cells cs.toArray t (0, 0)

theorem look_cons_eq (i : Nat) (v : Value) (e : Env) : look ((i, v) :: e) i = some v := by simp [look]
theorem look_cons_ne {i k : Nat} (h : i ≠ k) (v : Value) (e : Env) : look ((i, v) :: e) k = look e k := by
  have : Nat.beq i k = false := by
    cases hb : Nat.beq i k with
    | false => rfl
    | true => exact absurd (Nat.eq_of_beq_eq_true hb) h
  simp [look, this]

theorem FitV.put {m : Nat} {dk0 : Nat × Obj → Prop} {rq : Option Nat} {e : Env} {a : Act} (h : FitV (NT.mk m dk0 rq) e a) {d : Nat} (hd : Nat.blt d m = true) (v : Value) : FitV (NT.mk m dk0 rq) ((d, v) :: e) (a.put (some d) v) := by
  have hlt : d < m := by simp [Nat.blt] at hd; omega
  refine ⟨by simp [Act.put, h.size], fun k u hk => ?_⟩
  by_cases hdk : d = k
  · subst hdk
    rw [look_cons_eq] at hk
    injection hk with hk
    subst hk
    have : d < a.tmps.size := by rw [h.size]; exact hlt
    simp [Act.put, this]
  · rw [look_cons_ne hdk] at hk
    have := h.get k u hk
    simp [Act.put, Array.getElem?_setIfInBounds_ne hdk] at this ⊢
    exact this

theorem Fit.put {m : Nat} {dk0 : Nat × Obj → Prop} {rq : Option Nat} {b : Base} {e : Env} {a : Act} (h : Fit (NT.mk m dk0 rq) b e a) {d : Nat} (hd : Nat.blt d m = true) (v : Value) : Fit (NT.mk m dk0 rq) b ((d, v) :: e) (a.put (some d) v) := ⟨h.toFitV.put hd v, h.defers⟩
theorem FitV.eval {n : NT} {e : Env} {a : Act} (h : FitV n e a) {x : Operand} {v : Value} (hx : val e x = some v) : a.eval x = v := by
  cases x with
  | tmp t => exact h.get t v hx
  | const u => simp only [val, Option.some.injEq] at hx; exact hx
  | global g => simp only [val, Option.some.injEq] at hx; exact hx
  | func f => simp only [val, Option.some.injEq] at hx; exact hx

theorem FitV.evals {n : NT} {e : Env} {a : Act} (h : FitV n e a) : ∀ {xs : List Operand} {vs : List Value}, vals e xs = some vs → xs.map a.eval = vs
  | [], vs, hx => by simp [vals] at hx; simp [hx]
  | x :: r, vs, hx => by
    simp only [vals] at hx
    split at hx
    · rename_i v us hv hus
      injection hx with hx
      subst hx
      simp [h.eval hv, h.evals hus]
    · cases hx
theorem Fit.eval {n : NT} {b : Base} {e : Env} {a : Act} (h : Fit n b e a) {x : Operand} {v : Value} (hx : val e x = some v) : a.eval x = v := h.toFitV.eval hx
theorem Fit.evals {n : NT} {b : Base} {e : Env} {a : Act} (h : Fit n b e a) {xs : List Operand} {vs : List Value} (hx : vals e xs = some vs) : xs.map a.eval = vs := h.toFitV.evals hx

/-- Every slot that 'e'' names holds in 'e' what it says. -/
def Sub : Env → Env → Prop
  | [], _ => True
  | (k, v) :: t, e => look e k = some v ∧ Sub t e

theorem Sub.spec : ∀ {e' e : Env}, Sub e' e → ∀ k v, look e' k = some v → look e k = some v
  | [], _, _, k, v, hk => by simp [look] at hk
  | (i, u) :: t, e, h, k, v, hk => by
    by_cases hik : i = k
    · subst hik
      rw [look_cons_eq] at hk
      injection hk with hk
      subst hk
      exact h.1
    · rw [look_cons_ne hik] at hk
      exact Sub.spec h.2 k v hk

theorem Fit.le {n : NT} {b b' : Base} {e : Env} {a : Act} (h : Fit n b e a) (hle : b.Le b') : Fit n b' e a :=
  ⟨h.toFitV, h.defers.imp fun _ hd => ⟨hd.1, hd.2.1, fun D hD => ⟨hle.dk _ (hd.2.2 D hD).1, (hd.2.2 D hD).2⟩⟩⟩
theorem Fit.sub {n : NT} {b : Base} {e e' : Env} {a : Act} (h : Fit n b e a) (hs : Sub e' e) : Fit n b e' a :=
  ⟨⟨h.size, fun k v hk => h.get k v (hs.spec k v hk)⟩, h.defers⟩

/- ---- worlds ---- -/
theorem cell_none_of_ge (w : World) (p : Addr) (h : w.heap.size ≤ p.block) : w.cell? p = none := by
  simp [World.cell?, Array.getElem?_eq_none h]

section
variable {w0 : Base} {w : World} {hp : Hp}

theorem Own.start (w : World) : Own w [] w := ⟨Nat.le_refl _, Below.refl _ _, Keeps.refl _, by simp, fun g o h => absurd h (by simp), fun g o h => absurd h (by simp), fun g o h => absurd h (by simp)⟩

theorem Own.lt (h : Own w0 hp w) {g : Nat} {o : Obj} (hm : (g, o) ∈ hp) : g < w.heap.size := by
  have := (h.blk g o hm).2
  rcases Nat.lt_or_ge g w.heap.size with hlt | hge
  · exact hlt
  · rw [Array.getElem?_eq_none hge] at this; cases this

theorem Own.sub {hp' : Hp} (h : Own w0 hp w) (hs : hp'.Sublist hp) : Own w0 hp' w :=
  ⟨h.lo, h.below, h.keeps, (hs.map _).nodup h.nd, fun g o hm => h.blk g o (hs.subset hm), fun g o hm => h.hole g o (hs.subset hm), fun g o hm => let ⟨a, b, c, d⟩ := h.dks g o hm; ⟨a, b, c, fun o' ho' => d o' (hs.subset ho')⟩⟩

theorem Own.perm {hp' : Hp} (h : Own w0 hp w) (hs : hp'.Perm hp) : Own w0 hp' w :=
  ⟨h.lo, h.below, h.keeps, (hs.map _).nodup_iff.2 h.nd, fun g o hm => h.blk g o (hs.subset hm), fun g o hm => h.hole g o (hs.subset hm), fun g o hm => let ⟨a, b, c, d⟩ := h.dks g o hm; ⟨a, b, c, fun o' ho' => d o' (hs.subset ho')⟩⟩

theorem Own.drawn (h : Own w0 hp w) (n : Nat) : Own w0 hp { w with drawn := n } := ⟨h.lo, ⟨h.below.os, h.below.tape, h.below.output, h.below.size, h.below.block⟩, ⟨h.keeps.cell, h.keeps.obj⟩, h.nd, h.blk, h.hole, h.dks⟩
theorem Own.drew (h : Own w0 hp w) : Own w0 hp w.drew := h.drawn _

theorem Own.alloc (h : Own w0 hp w) (o : Obj) : Own w0 ((w.heap.size, o) :: hp) (w.alloc o) := by
  have hsz := h.below.size
  have hlo := h.lo
  refine ⟨hlo, h.below.alloc (by omega) o, Keeps.of_obj fun g a t fr h0 hg => ?_, ?_, fun g o' hm => ?_, fun g o' hm p hp' => ?_, fun g o' hm => ?_⟩
  · have h1 := h.keeps.obj g a t fr h0 hg
    exact (Below.heap_alloc w o g (Array.getElem?_eq_some_iff.1 h1).1).trans h1
  · simp only [List.map_cons, List.nodup_cons]
    refine ⟨fun hm => ?_, h.nd⟩
    obtain ⟨⟨g, o'⟩, hm', he⟩ := List.mem_map.1 hm
    have := h.lt hm'
    simp at he
    omega
  · rcases List.mem_cons.1 hm with he | hm
    · injection he with h1 h2
      subst h1; subst h2
      exact ⟨by omega, heap_alloc_new w _⟩
    · refine ⟨(h.blk g o' hm).1, ?_⟩
      rw [Below.heap_alloc w o g (h.lt hm)]
      exact (h.blk g o' hm).2
  · rcases List.mem_cons.1 hm with he | hm
    · injection he with h1 h2
      exact cell_none_of_ge _ _ (by omega)
    · exact h.hole g o' hm p hp'
  · obtain ⟨d1, d2, d3, d4⟩ := h.dks g o' hm
    have hlt : g < w.heap.size := (Array.getElem?_eq_some_iff.1 d2).1
    refine ⟨d1, (Below.heap_alloc w o g hlt).trans d2, d3, fun o'' hm' => ?_⟩
    rcases List.mem_cons.1 hm' with he | hm'
    · injection he with h1 h2
      omega
    · exact d4 o'' hm'

theorem Own.grow {hp' : Hp} {w' : World} (h : Own w0 hp w) (h' : Own w hp' w') : Own w0 (hp' ++ hp) w' := by
  have hsz := h.below.size
  have hlo := h.lo
  refine ⟨hlo, h.below.trans (h'.below.mono (show w0.B ≤ w.heap.size by omega)), h.keeps.trans h'.keeps, ?_, fun g o hm => ?_, fun g o hm p hp => ?_, fun g o hm => ?_⟩
  · rw [List.map_append, List.nodup_append]
    refine ⟨h'.nd, h.nd, fun a ha b hb hab => ?_⟩
    obtain ⟨⟨g, o⟩, hm, he⟩ := List.mem_map.1 ha
    obtain ⟨⟨g2, o2⟩, hm2, he2⟩ := List.mem_map.1 hb
    have h1 : w.heap.size ≤ g := (h'.blk g o hm).1
    have h2 := h.lt hm2
    simp at he he2
    omega
  · rcases List.mem_append.1 hm with hm | hm
    · have h1 : w.heap.size ≤ g := (h'.blk g o hm).1
      exact ⟨by omega, (h'.blk g o hm).2⟩
    · refine ⟨(h.blk g o hm).1, ?_⟩
      rw [h'.below.block g (h.lt hm)]
      exact (h.blk g o hm).2
  · rcases List.mem_append.1 hm with hm | hm
    · have h1 : w.heap.size ≤ g := (h'.blk g o hm).1
      exact cell_none_of_ge _ _ (by omega)
    · exact h.hole g o hm p hp
  · obtain ⟨d1, d2, d3, d4⟩ := h.dks g o hm
    have hlt : g < w.heap.size := (Array.getElem?_eq_some_iff.1 d2).1
    refine ⟨d1, (h'.below.block g hlt).trans d2, d3, fun o' hm' => ?_⟩
    rcases List.mem_append.1 hm' with hm' | hm'
    · have h1 : w.heap.size ≤ g := (h'.blk g o' hm').1
      omega
    · exact d4 o' hm'

/-- Block number 'g' of the own ones has another content. -/
theorem Own.turn {w' : World} {i g : Nat} {o o' : Obj} (h : Own w0 hp w) (hi : hp[i]? = some (g, o))
    (hos : w'.os = w.os) (htape : w'.tape = w.tape) (hout : w'.output = w.output) (hsz : w'.heap.size = w.heap.size) (hg : w'.heap[g]? = some o')
    (hoth : ∀ k, k ≠ g → w'.heap[k]? = w.heap[k]?) : Own w0 (hp.set i (g, o')) w' := by
  have hmem : (g, o) ∈ hp := List.mem_of_getElem? hi
  have hbase := (h.blk g o hmem).1
  have hil : i < hp.length := (List.getElem?_eq_some_iff.1 hi).1
  have hig : hp[i] = (g, o) := (List.getElem?_eq_some_iff.1 hi).2
  have hmap : (hp.set i (g, o')).map (·.1) = hp.map (·.1) := by
    apply List.ext_getElem?
    intro k
    by_cases hk : i = k
    · subst hk; simp [hil, hig]
    · simp [List.getElem?_set_ne hk]
  have part : ∀ k x, (k, x) ∈ hp.set i (g, o') → (k = g ∧ x = o') ∨ ((k, x) ∈ hp ∧ k ≠ g) := by
    intro k x hm
    obtain ⟨j, hj⟩ := List.mem_iff_getElem?.1 hm
    by_cases hij : i = j
    · subst hij
      simp [hil] at hj
      exact .inl ⟨hj.1.symm, hj.2.symm⟩
    · rw [List.getElem?_set_ne hij] at hj
      have hm' := List.mem_of_getElem? hj
      refine .inr ⟨hm', ?_⟩
      rintro rfl
      have hnd := h.nd
      have e1 : (hp.map (·.1))[i]? = some k := by simp [hi]
      have e2 : (hp.map (·.1))[j]? = some k := by simp [hj]
      exact hij ((List.getElem?_inj (by simpa using hil) hnd).1 (e1.trans e2.symm))
  refine ⟨h.lo, h.below.trans ⟨hos, htape, hout, by omega, fun k hk => hoth k (by omega)⟩, Keeps.of_obj fun k a t fr h0 hk => ?_, by rw [hmap]; exact h.nd, fun k x hm => ?_, fun k x hm p hp => ?_, fun k x hm => ?_⟩
  · have hne : k ≠ g := fun he => by
      have := h.hole g o hmem ⟨k, 0, none⟩ he
      rw [cell_of_obj h0 hk] at this
      cases this
    exact (hoth k hne).trans (h.keeps.obj k a t fr h0 hk)
  · rcases part k x hm with ⟨rfl, rfl⟩ | ⟨hm', hne⟩
    · exact ⟨hbase, hg⟩
    · exact ⟨(h.blk k x hm').1, (hoth k hne).trans (h.blk k x hm').2⟩
  · rcases part k x hm with ⟨rfl, rfl⟩ | ⟨hm', hne⟩
    · exact h.hole k o hmem p hp
    · exact h.hole k x hm' p hp
  · obtain ⟨d1, d2, d3, d4⟩ := h.dks k x hm
    have hne : k ≠ g := fun he => d4 o (he ▸ hmem)
    refine ⟨d1, (hoth k hne).trans d2, d3, fun o'' hm' => ?_⟩
    rcases part k o'' hm' with ⟨he, _⟩ | ⟨hm'', _⟩
    · exact hne he
    · exact d4 o'' hm''

theorem Own.cell {i g : Nat} {t : TypeId} {cs : List Value} (h : Own w0 hp w) (hi : hp[i]? = some (g, Cl t cs)) (k : Nat) : w.cell? ⟨g, k, none⟩ = cs[k]? := by
  have := (h.blk g _ (List.mem_of_getElem? hi)).2
  simp [World.cell?, this]

theorem Own.frozen {i g : Nat} {t : TypeId} {cs : List Value} (h : Own w0 hp w) (hi : hp[i]? = some (g, Cl t cs)) (k : Nat) : w.frozen? ⟨g, k, none⟩ = false := by
  have := (h.blk g _ (List.mem_of_getElem? hi)).2
  simp [World.frozen?, this]

theorem Own.set {i g : Nat} {t : TypeId} {cs : List Value} (h : Own w0 hp w) (hi : hp[i]? = some (g, Cl t cs)) (k : Nat) (v : Value) :
    Own w0 (hp.set i (g, Cl t (cs.set k v))) (w.setCell ⟨g, k, none⟩ v) := by
  have hb := (h.blk g _ (List.mem_of_getElem? hi)).2
  refine h.turn hi rfl rfl rfl (by simp) ?_ (fun j hj => Below.heap_setCell w ⟨g, k, none⟩ v j hj)
  simp [World.setCell, Array.getElem?_modify, hb]

theorem Own.old (h : Own w0 hp w) {p : Addr} {v : Value} (hc : w0.w.cell? p = some v) : w.cell? p = some v := h.keeps p v hc
end

/- ---- what is no longer written is frozen: it is known from then on ---- -/
def eraseW (w : World) (ks : List Nat) : World := { w with heap := ks.foldl (fun h k => h.setIfInBounds k (.map #[] 0)) w.heap }
theorem erase_size (ks : List Nat) : ∀ h : Array Obj, (ks.foldl (fun h k => h.setIfInBounds k (.map #[] 0)) h).size = h.size := by
  induction ks with
  | nil => intro h; rfl
  | cons k r ih => intro h; simp [ih]
theorem erase_other (ks : List Nat) (j : Nat) (hj : j ∉ ks) : ∀ h : Array Obj, (ks.foldl (fun h k => h.setIfInBounds k (.map #[] 0)) h)[j]? = h[j]? := by
  induction ks with
  | nil => intro h; rfl
  | cons k r ih =>
    intro h
    simp only [List.mem_cons, not_or] at hj
    rw [List.foldl_cons, ih hj.2, Array.getElem?_setIfInBounds_ne (Ne.symm hj.1)]
theorem erase_in (ks : List Nat) (j : Nat) : ∀ h : Array Obj, (j ∈ ks ∨ h[j]? = some (.map #[] 0) ∨ h[j]? = none) → (ks.foldl (fun h k => h.setIfInBounds k (.map #[] 0)) h)[j]? = some (.map #[] 0) ∨ (ks.foldl (fun h k => h.setIfInBounds k (.map #[] 0)) h)[j]? = none := by
  induction ks with
  | nil => intro h hj; rcases hj with hj | hj; cases hj; exact hj
  | cons k r ih =>
    intro h hj
    rw [List.foldl_cons]
    apply ih
    by_cases hk : k = j
    · subst hk
      rcases Nat.lt_or_ge k h.size with hlt | hge
      · exact .inr (.inl (by simp [hlt]))
      · exact .inr (.inr (by simp [hge]))
    · rcases hj with hj | hj
      · rcases List.mem_cons.1 hj with hj | hj
        · exact absurd hj.symm hk
        · exact .inl hj
      · rw [Array.getElem?_setIfInBounds_ne hk]; exact .inr hj
theorem erase_cell {w : World} {ks : List Nat} {p : Addr} {v : Value} : (eraseW w ks).cell? p = some v ↔ (w.cell? p = some v ∧ p.block ∉ ks) := by
  by_cases hk : p.block ∈ ks
  · have := erase_in ks p.block w.heap (.inl hk)
    constructor
    · intro h
      simp only [eraseW, World.cell?] at h
      rcases this with e | e <;> rw [e] at h <;> cases h
    · intro h; exact absurd hk h.2
  · have := erase_other ks p.block hk w.heap
    simp [eraseW, World.cell?, this, hk]

theorem Own.freeze {w0 : Base} {w : World} {fz hm : Hp} (h : Own w0 (fz ++ hm) w) :
    Own ⟨eraseW w (hm.map (·.1)), w0.B, w0.dk⟩ hm w ∧ w0.Le ⟨eraseW w (hm.map (·.1)), w0.B, w0.dk⟩ ∧ ∀ x ∈ fz, (eraseW w (hm.map (·.1))).heap[x.1]? = some x.2 := by
  have hsub : hm.Sublist (fz ++ hm) := List.sublist_append_right fz hm
  have hlow : ∀ k, k < w0.B → k ∉ hm.map (·.1) := fun k hk hm' => by
    obtain ⟨⟨g, o⟩, hx, he⟩ := List.mem_map.1 hm'
    have := (h.blk g o (hsub.subset hx)).1
    simp at he
    omega
  have hbel : Below w0.B w0.w (eraseW w (hm.map (·.1))) := ⟨h.below.os, h.below.tape, h.below.output, by simpa [eraseW, erase_size] using h.below.size, fun k hk => (erase_other _ k (hlow k hk) w.heap).trans (h.below.block k hk)⟩
  have hsz : (eraseW w (hm.map (·.1))).heap.size = w.heap.size := by simp [eraseW, erase_size]
  have hcells : Keeps w0.w (eraseW w (hm.map (·.1))) := Keeps.of_obj fun k a t fr h0 hk => by
    have hne : k ∉ hm.map (·.1) := fun hp => by
      obtain ⟨⟨g, o⟩, hx, he⟩ := List.mem_map.1 hp
      have := h.hole g o (hsub.subset hx) ⟨k, 0, none⟩ he.symm
      rw [cell_of_obj h0 hk] at this
      cases this
    exact (erase_other _ k hne w.heap).trans (h.keeps.obj k a t fr h0 hk)
  refine ⟨⟨?_, ⟨rfl, rfl, rfl, by rw [hsz]; exact Nat.le_refl _, fun k hk => (erase_other _ k (hlow k hk) w.heap).symm⟩, Keeps.of_obj (fun k a t fr h0 hk => ?_), (hsub.map _).nodup h.nd, fun g o hx => h.blk g o (hsub.subset hx), fun g o hx p hp => ?_, (h.sub hsub).dks⟩, ⟨rfl, hcells, fun _ hx => hx, fun hp2 w2 ho => ?_⟩, fun x hx => ?_⟩
  · have h1 := h.lo
    have h2 := h.below.size
    show w0.B ≤ (eraseW w (hm.map (·.1))).heap.size
    omega
  · have h1 := (erase_cell.1 (cell_of_obj h0 hk)).2
    exact (erase_other _ k h1 w.heap).symm.trans hk
  · cases hc : (eraseW w (hm.map (·.1))).cell? p with
    | none => rfl
    | some v => exact absurd (List.mem_map.2 ⟨(g, o), hx, hp.symm⟩) (erase_cell.1 hc).2
  · refine ⟨h.lo, hbel.trans ho.below, hcells.trans ho.keeps, ho.nd, ho.blk, fun g o hx p hp => ?_, fun _ _ hm => absurd hm (by simp)⟩
    cases hc : w0.w.cell? p with
    | none => rfl
    | some v =>
      have := ho.hole g o hx p hp
      rw [hcells.cell p v hc] at this
      cases this
  · have hnd := h.nd
    rw [List.map_append, List.nodup_append] at hnd
    have hne : x.1 ∉ hm.map (·.1) := fun hm' => hnd.2.2 x.1 (List.mem_map.2 ⟨x, hx, rfl⟩) x.1 hm' rfl
    have := erase_other (hm.map (·.1)) x.1 hne w.heap
    simp only [eraseW]
    rw [this]
    exact (h.blk x.1 x.2 (List.mem_append_left _ hx)).2

/- ---- judgements ---- -/
/-- No operation is a defer statement. -/
def noDefer (l : List Oper) : Bool := l.all fun o => match o.op with
  | .defer _ => false
  | _ => true
/-- What stands for a region in a frame: in a round no defer statement. -/
def okR (r : Option Nat) (l : List Oper) : Bool := match r with
  | none => true
  | some _ => noDefer l
theorem noDefer_mem {l : List Oper} (h : noDefer l = true) {o : Oper} (ho : o ∈ l) : ∀ c, o.op ≠ .defer c := fun c he => by
  have := List.all_eq_true.1 h o ho
  rw [he] at this
  cases this
theorem rowsIn_R {r : Option Nat} {m : Nat} {P : Program} {row : String} {args : Array Value} {w : World} {R : Value → World → Prop} (h : Rows P row args w R) : RowsIn (fenceR r) m P row args w R := fun c cs _ =>
  let ⟨v, w', hr, hs⟩ := h c cs
  ⟨v, w', hr, (StepsIn.of_steps hs).mono fun m _ => by cases r with
    | none => exact fenced_wide P m
    | some l => exact fenced_wide P m⟩
/-- An operation, carried out inside the widest fence. -/
theorem oper_in {P : Program} {o : Oper} {a : Act} {w : World} {K : Act → World → Prop} {Q : Exit → Act → World → Prop} (h : o.wp P a w K Q) : o.wpIn Fence.wide 0 P a w K Q := by
  refine ⟨fun f _ => trivial, ?_⟩
  show o.uponIn Fence.wide 0 P a K Q ((o.semAt none a.eval).run P w)
  rw [Oper.semAt_none]
  unfold Oper.wp at h
  generalize (execOp a.eval o).run P w = x at h
  have hz : Fence.wide.depth.isSome = true → 1 ≤ 0 := fun hd => by cases hd
  cases x with
  | ok y w' =>
    cases y with
    | value v => exact h
    | skip => exact h
    | defer d => exact h
    | enter f args => exact ⟨hz, callsIn_wide.2 (Calls.mono h (fun e w'' he => by cases e <;> exact he))⟩
    | row f args => exact ⟨hz, rowsIn_R (r := none) (Rows.mono h (fun _ _ he => he))⟩
    | _ => exact (show False from h).elim
  | halt y w' => cases y <;> first | exact h | exact (show False from h).elim
theorem oper_R {P : Program} {r : Option Nat} {l : List Oper} (hl : okR r l = true) {o : Oper} (ho : o ∈ l) {a : Act} {w : World} {K K' : Act → World → Prop} {Q : Exit → Act → World → Prop} (hK : ∀ a w, K a w → K' a w) (h : o.wpIn Fence.wide 0 P a w K Q) : o.wpIn (fenceR r) 0 P a w K' Q := by
  have h := Oper.wpIn_mono hK h
  cases r with
  | none => exact h
  | some q =>
    obtain ⟨h1, h2⟩ := h
    refine ⟨h1, ?_⟩
    have e1 : o.semAt (fenceR (some q)).round a.eval = execOp a.eval o := Oper.semAt_some q a.eval o (noDefer_mem hl ho)
    have e2 : o.semAt Fence.wide.round a.eval = execOp a.eval o := Oper.semAt_none a.eval o
    rw [e1]
    rw [e2] at h2
    generalize (execOp a.eval o).run P w = x at h2
    cases x with
    | ok y w' => cases y <;> exact h2
    | halt y w' => cases y <;> exact h2
/-- Operations in the order of the text. -/
def wpListC (P : Program) (ops : Array Oper) (Q : Exit → Act → World → Prop) : List Oper → Act → World → Prop
  | [], a, w => Q .normal a w
  | o :: rest, a, w => if Region.wanted o (yielded ops a.tmps) then o.wpIn Fence.wide 0 P a w (wpListC P ops Q rest) Q ∧ True else wpListC P ops Q rest (a.put o.dst undef) w
theorem wpListC_plainIn {P : Program} {ops : Array Oper} {Q : Exit → Act → World → Prop} {a : Act} {w : World} {rest : List Oper} {o : Oper} (hg : o.guard = none)
    (h : ∀ K : Act → World → Prop, (∀ a w, wpListC P ops Q rest a w → K a w) → o.wpIn Fence.wide 0 P a w K Q) : wpListC P ops Q (o :: rest) a w := by
  unfold wpListC
  rw [if_pos (by simp [Region.wanted, hg])]
  exact ⟨h _ fun _ _ h => h, trivial⟩
theorem wpListC_plain {P : Program} {ops : Array Oper} {Q : Exit → Act → World → Prop} {a : Act} {w : World} {rest : List Oper} {o : Oper} (hg : o.guard = none)
    (h : ∀ K : Act → World → Prop, (∀ a w, wpListC P ops Q rest a w → K a w) → o.wp P a w K Q) : wpListC P ops Q (o :: rest) a w := wpListC_plainIn hg fun K hK => oper_in (h K hK)
theorem listC_R {P : Program} {r : Option Nat} {ops : Array Oper} {Q : Exit → Act → World → Prop} : ∀ (l : List Oper), okR r l = true → ∀ (a : Act) (w : World), wpListC P ops Q l a w → wpListIn (fenceR r) 0 P ops Q l a w
  | [], _, _, _, h => h
  | o :: rest, hl, a, w, h => by
    have hr : okR r rest = true := by
      cases r with
      | none => rfl
      | some k => simp only [okR, noDefer, List.all_cons, Bool.and_eq_true] at hl ⊢; exact hl.2
    unfold wpListC at h
    unfold wpListIn
    split at h
    · rename_i hw
      rw [if_pos hw]
      exact oper_R hl (List.mem_cons_self ..) (fun a w h => listC_R rest hr a w h) h.1
    · rename_i hw
      rw [if_neg hw]
      exact ⟨fun f _ => fenceR_fn r f, listC_R rest hr _ _ h⟩
def SLc (P : Program) (n : NT) (w0 : Base) (Q : Exit → Act → World → Prop) (c : Code) (e : Env) (hp : Hp) : Prop :=
  ∀ a w, Fit n w0 e a → Own w0 hp w → wpR c n.rd P Q a w
def SLx (n : NT) (w0 : Base) (Q : Exit → Act → World → Prop) (x : Exit) (e : Env) (hp : Hp) : Prop :=
  ∀ a w, Fit n w0 e a → Own w0 hp w → Q x a w
def SLo (P : Program) (n : NT) (w0 : Base) (ops : Array Oper) (Q : Exit → Act → World → Prop) (l : List Oper) (e : Env) (hp : Hp) : Prop :=
  ∀ a w, Fit n w0 e a → Own w0 hp w → wpListC P ops Q l a w

section
variable {P : Program} {n : NT} {m : Nat} {dk0 : Nat × Obj → Prop} {rq : Option Nat} {w0 : Base} {Q : Exit → Act → World → Prop} {e : Env} {hp : Hp}

theorem c_seq {x y : Code} (h : SLc P n w0 (Exit.then (wpR y n.rd P Q) Q) x e hp) : SLc P n w0 Q (.seq x y) e hp := fun a w hf ho => wpIn_seq (h a w hf ho)
theorem c_skip (h : SLx n w0 Q .normal e hp) : SLc P n w0 Q .skip e hp := fun a w hf ho => wpIn_skip (h a w hf ho)
theorem c_ret (h : SLx n w0 Q .ret e hp) : SLc P n w0 Q .ret e hp := fun a w hf ho => wpIn_ret (h a w hf ho)
theorem c_exit {id : Nat} (h : SLx n w0 Q (.exit id) e hp) : SLc P n w0 Q (.exit id) e hp := fun a w hf ho => wpIn_exit (h a w hf ho)
theorem c_block {id : Nat} {c : Code} (h : SLc P n w0 (Exit.inBlock id Q) c e hp) : SLc P n w0 Q (.block id c) e hp := fun a w hf ho => wpIn_block (h a w hf ho)
theorem c_cond {c : Operand} {x y : Code} (b : Bool) (hc : val e c = some (.bool b)) (ht : b = true → SLc P n w0 Q x e hp) (hf : b = false → SLc P n w0 Q y e hp) : SLc P n w0 Q (.cond c x y) e hp :=
  fun a w hfit ho => wpIn_cond_split (hfit.eval hc) (fun h => ht h a w hfit ho) (fun h => hf h a w hfit ho)
theorem c_cond_t {c : Operand} {x y : Code} (hc : val e c = some (.bool true)) (h : SLc P n w0 Q x e hp) : SLc P n w0 Q (.cond c x y) e hp :=
  fun a w hf ho => wpIn_cond_true (hf.eval hc) (h a w hf ho)
theorem c_cond_f {c : Operand} {x y : Code} (hc : val e c = some (.bool false)) (h : SLc P n w0 Q y e hp) : SLc P n w0 Q (.cond c x y) e hp :=
  fun a w hf ho => wpIn_cond_false (hf.eval hc) (h a w hf ho)
theorem c_region {id : Nat} {l : List Oper} (h : SLo P n w0 l.toArray Q l e hp) (hl : okR n.rd l = true := by rfl) : SLc P n w0 Q (.region id l.toArray false) e hp :=
  fun a w hf ho => wpIn_region_lit (listC_R l hl a w (h a w hf ho))
/- where an exit arrives -/
theorem x_then_normal {y : Code} (h : SLc P n w0 Q y e hp) : SLx n w0 (Exit.then (wpR y n.rd P Q) Q) .normal e hp := h
theorem x_then_exit {K : Act → World → Prop} {id : Nat} (h : SLx n w0 Q (.exit id) e hp) : SLx n w0 (Exit.then K Q) (.exit id) e hp := h
theorem x_then_ret {K : Act → World → Prop} (h : SLx n w0 Q .ret e hp) : SLx n w0 (Exit.then K Q) .ret e hp := h
theorem x_block_normal {id : Nat} (h : SLx n w0 Q .normal e hp) : SLx n w0 (Exit.inBlock id Q) .normal e hp := h
theorem x_block_ret {id : Nat} (h : SLx n w0 Q .ret e hp) : SLx n w0 (Exit.inBlock id Q) .ret e hp := h
theorem x_block_out {id : Nat} (h : SLx n w0 Q .normal e hp) : SLx n w0 (Exit.inBlock id Q) (.exit id) e hp :=
  fun a w hf ho => by simpa [Exit.inBlock] using h a w hf ho
/- a loop: 'x' is the ghost state -/
def Again {X : Type} (n : NT) (bs : X → Base) (env : X → Env) (heap : X → Hp) (inv : X → Prop) (μ : X → Nat) (m : Nat) : Act → World → Prop :=
  fun a w => ∃ x, Fit n (bs x) (env x) a ∧ Own (bs x) (heap x) w ∧ inv x ∧ μ x < m

end
end Go.Fp
