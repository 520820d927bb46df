/- Extraction, part 17: loops over functions ('for x := range f'). -/
import Derived.Test.YtnmhabgnfifkdaaXF
import Derived.RangeFuncIn
import Derived.RangeFuncSeq
set_option linter.unusedVariables false
set_option linter.unusedSimpArgs false
namespace Go.Fp
open Go.RowKit

/-- As forM, over the elements of a list. -/
def forL {α σ τ : Type} (body : α → σ → Option (σ ⊕ τ)) : List α → σ → Option (σ ⊕ τ)
  | [], s => some (.inl s)
  | x :: r, s => match body x s with
    | none => none
    | some (.inl s') => forL body r s'
    | some (.inr t) => some (.inr t)

abbrev Lr (r : Loop) : Obj := .loop { r with state := .ready, pending := none }
abbrev Lb (r : Loop) : Obj := .loop { r with state := .busy, pending := none }
abbrev Ld (r : Loop) (c : Code) : Obj := .loop { r with state := .done, pending := some c }

/-- A function that hands 'xs' to yield, one by one, until yield says no: called where 'b' is known. -/
def IterG (P : Program) (gf : FuncId) (lb : Array Value) (b : Base) (xs : List Value) : Prop :=
  ∀ (b0 : Base) (hp0 : Hp) (w : World), b.Le b0 → Own b0 hp0 w → ∀ (l : Nat) (Rd : Nat → Base → Hp → Prop) (Rx : Base → Hp → Prop),
    (∀ k x b1 hp1, xs[k]? = some x → b0.Le b1 → Rd k b1 hp1 → ∀ b2, b1.Le b2 → ∀ W, Own b2 hp1 W → YieldAt Fence.wide 0 P l #[x] W fun e W' =>
      ∃ b3 hp3, b2.Le b3 ∧ Own b3 hp3 W' ∧ ((e = .returned (.bool true) ∧ Rd (k + 1) b3 hp3) ∨ (e = .returned (.bool false) ∧ Rx b3 hp3))) →
    Rd 0 b0 hp0 →
    Calls P gf (#[.func (.yield l) #[] #[]] ++ lb) w fun e W' => (∃ v, e = .returned v) ∧ ∃ b3 hp3, b0.Le b3 ∧ Own b3 hp3 W' ∧ (Rd xs.length b3 hp3 ∨ Rx b3 hp3)
def IterV (P : Program) (b : Base) (v : Value) (xs : List Value) : Prop := ∃ gf lb, v = .func (.func gf) #[] lb ∧ callable P gf = true ∧ IterG P gf lb b xs
theorem IterV.le {P : Program} {b b' : Base} {v : Value} {xs : List Value} (h : IterV P b v xs) (hle : b.Le b') : IterV P b' v xs := by
  obtain ⟨gf, lb, h1, h2, h3⟩ := h
  exact ⟨gf, lb, h1, h2, fun b0 hp0 w hl => h3 b0 hp0 w (hle.trans hl)⟩

theorem Base.Le.dks {b : Base} {dk : Hp} (h : ∀ x ∈ b.dk, x ∈ dk) : b.Le ⟨b.w, b.B, dk⟩ := ⟨rfl, Keeps.refl _, h, fun _ _ h => h⟩

/-- What is asked at the end of a round: it goes on, or the loop is left by a jump. -/
def RoundR (l : Nat) (r : Loop) (b2 : Base) (Nx : Base → Hp → Prop) (Rx : Code → Base → Hp → Prop) : Ending → World → Prop := fun e W' =>
  ∃ b3 hp3, b2.Le b3 ∧ ((e = .returned (.bool true) ∧ Own b3 ((l, Lr r) :: hp3) W' ∧ Nx b3 hp3) ∨ (e = .returned (.bool false) ∧ ∃ c, Own b3 ((l, Ld r c) :: hp3) W' ∧ Rx c b3 hp3))
def RoundQ (P : Program) (l : Nat) (r : Loop) (b2 : Base) (Nx : Base → Hp → Prop) (Rx : Code → Base → Hp → Prop) : Exit → Act → World → Prop := roundPost P l (RoundR l r b2 Nx Rx)
def AssignQ (P : Program) (l : Nat) (r : Loop) (b2 : Base) (Nx : Base → Hp → Prop) (Rx : Code → Base → Hp → Prop) (body : Code) : Exit → Act → World → Prop :=
  Exit.then (fun a₁ w₁ => ∃ w₂, (Instr.beginRound l).run P w₁ = .ok () w₂ ∧ body.wpIn (Fence.wide.inRound l) 0 P (RoundQ P l r b2 Nx Rx) a₁ w₂) (fun _ _ _ => False)
/-- What the loop's frame does behind a jump. -/
def ContQ (P : Program) (n : NT) (Q : Exit → Act → World → Prop) (e : Env) : Code → Base → Hp → Prop := fun c b hp => SLc P n b Q c e hp

section
variable {P : Program} {n : NT} {m : Nat} {dk0 : Nat × Obj → Prop} {b b2 w0 : Base} {Q : Exit → Act → World → Prop} {e e' : Env} {hp : Hp} {l : Nat} {r : Loop} {Nx : Base → Hp → Prop} {Rx : Code → Base → Hp → Prop}
end

/- ---- shorter words for what comes often ---- -/
section
variable {P : Program} {n : NT} {m : Nat} {dk0 : Nat × Obj → Prop} {rq : Option Nat} {w0 b : Base} {ops : Array Oper} {Q : Exit → Act → World → Prop} {e : Env} {hp : Hp} {ty : TypeId} {pos : String} {af : Array Edge} {rest : List Oper}
theorem c_sr {id : Nat} {l : List Oper} {y : Code} (h : SLo P n w0 l.toArray (Exit.then (wpR y n.rd P Q) Q) l e hp) (hl : okR n.rd l = true := by rfl) : SLc P n w0 Q (.seq (.region id l.toArray false) y) e hp := c_seq (c_region h hl)
theorem t_ne {y : Code} (h : SLc P n w0 Q y e hp) : SLo P n w0 ops (Exit.then (wpR y n.rd P Q) Q) [] e hp := t_nil (x_then_normal h)
theorem t_mv {v : Value} {k : Nat} {x : Operand} (hd : Nat.blt k m = true) (hx : val e x = some v) (h : SLo P (NT.mk m dk0 rq) w0 ops Q rest ((k, v) :: e) hp) : SLo P (NT.mk m dk0 rq) w0 ops Q (⟨some k, .move x, ty, pos, af, none⟩ :: rest) e hp := t_st hd (st_move hx) h
theorem t_as {v : Value} {k : Nat} {x : Operand} (hd : Nat.blt k m = true) (hx : val e x = some v) (h : SLo P (NT.mk m dk0 rq) w0 ops Q rest ((k, v) :: e) hp) : SLo P (NT.mk m dk0 rq) w0 ops Q (⟨some k, .assign x, ty, pos, af, none⟩ :: rest) e hp := t_st hd (st_assign hx) h
theorem mem_n {α : Type} {p : α → Prop} : ∀ u ∈ ([] : List α), p u := fun _ h => (List.not_mem_nil h).elim
theorem mem_c {α : Type} {p : α → Prop} {a : α} {l : List α} (h : p a) (hl : ∀ u ∈ l, p u) : ∀ u ∈ a :: l, p u := fun u hu => by
  rcases List.mem_cons.1 hu with rfl | hu
  · exact h
  · exact hl u hu
theorem D_drawI {S : Hp} {id : Nat} {l : List Oper} (hm : P.follows .mixedOrders = true) (hsub : S.Sublist hp) (h : SLB P n b b l.toArray S Q l.length (Array.replicate l.length false) e hp) (hl : okR n.rd l = true := by rfl) : SLc P n b Q (.region id l.toArray true) e hp :=
  D_drawS S hm (E_in (Base.Le.refl _) hsub h) hl
end
end Go.Fp
