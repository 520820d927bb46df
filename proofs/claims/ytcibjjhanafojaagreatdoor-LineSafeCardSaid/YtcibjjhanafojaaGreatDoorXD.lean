/- Extraction, part D: the builtin copy onto slices of the call's own (elements of one cell). -/
import Derived.Test.YtcibjjhanafojaaGreatDoorX9
import Derived.Laws.IdiomCopy
import Derived.Laws.CopyRow
import Derived.KernelRfl
set_option linter.unusedVariables false
set_option linter.unusedSimpArgs false
namespace Go.Fp
open Go.RowKit
section
variable {α : Type} {P : Program} {n : NT} {m : Nat} {dk0 : Nat × Obj → Prop} {rq : Option Nat} {b : Base} {e : Env} {hp : Hp} {ty : TypeId} {l : List α} {A : Option Addr} {c : Nat} {hs : Hp}
/-- 'm' copied onto the places from 'j' to 'k' (not included) of 'l'. -/
def cpy {α : Type} (l : List α) (j k : Nat) (m : List α) : List α := l.take j ++ m.take (k - j) ++ l.drop (j + min m.length (k - j))
def cpyI {α : Type} (l : List α) (i1 i2 : Int) (m : List α) : List α := cpy l i1.toNat i2.toNat m
def cpyN {α : Type} (i1 i2 : Int) (m : List α) : Int := ((min m.length (i2.toNat - i1.toNat) : Nat) : Int)
end
/- Regions that draw: the part that stays is carried along. -/
section
variable {P : Program} {n : NT} {m : Nat} {dk0 : Nat × Obj → Prop} {rq : Option Nat} {w0 b : Base} {ops : Array Oper} {Q : Exit → Act → World → Prop} {e : Env} {hp S : Hp} {op : Op} {ty : TypeId} {pos : String} {af : Array Edge} {fuel : Nat} {listed : Array Bool}
def SLB (P : Program) (n : NT) (w0 b : Base) (ops : Array Oper) (S : Hp) (Q : Exit → Act → World → Prop) (fuel : Nat) (listed : Array Bool) (e : Env) (hp : Hp) : Prop := S.Sublist hp → SLA P n w0 b ops S Q fuel listed e hp
theorem E_in (hsub : S.Sublist hp) (h : SLB P n w0 b ops S Q fuel listed e hp) : SLA P n w0 b ops S Q fuel listed e hp := h hsub
theorem E_out (h : SLA P n w0 b ops S Q fuel listed e hp) : SLB P n w0 b ops S Q fuel listed e hp := fun _ => h
theorem E_st (i : Nat) {v : Value} {k : Nat} (hi : ops[i]? = some ⟨some k, op, ty, pos, af, none⟩) (hst : Stable P (NT.mk m dk0 rq) b op ty e S v) (h : SLB P (NT.mk m dk0 rq) b b ops S Q fuel (listed.setIfInBounds i true) ((k, v) :: e) hp)
    (hs : Region.noSelect ops = true := by kernel_rfl) (hfr : Region.free .any ops listed i = true := by kernel_rfl) (hr : (Region.ready .any ops listed).contains i = true := by kernel_rfl) (hd : Nat.blt k m = true := by rfl) : SLB P (NT.mk m dk0 rq) b b ops S Q (fuel + 1) listed e hp :=
  fun hsub => D_st (Base.Le.refl _) i hi hs hfr hr hd hst hsub (h hsub)
theorem E_yes (i : Nat) {v : Value} {k j : Nat} (dj : Nat) {t : Bool} (hi : ops[i]? = some ⟨some k, op, ty, pos, af, some (j, t)⟩) (hst : Stable P (NT.mk m dk0 rq) b op ty e S v) (h : SLB P (NT.mk m dk0 rq) b b ops S Q fuel (listed.setIfInBounds i true) ((k, v) :: e) hp)
    (hs : Region.noSelect ops = true := by kernel_rfl) (hfr : Region.free .any ops listed i = true := by kernel_rfl) (hr : (Region.ready .any ops listed).contains i = true := by kernel_rfl) (hd : Nat.blt k m = true := by rfl)
    (hj : (ops[j]?).bind (·.dst) = some dj := by rfl) (hl : look e dj = some (.bool t) := by rfl) (hdj : Nat.blt dj m = true := by rfl) : SLB P (NT.mk m dk0 rq) b b ops S Q (fuel + 1) listed e hp :=
  fun hsub => D_yes (Base.Le.refl _) i dj hi hs hfr hr hd hj hl hdj hst hsub (h hsub)
theorem E_no (i : Nat) {k j : Nat} (dj : Nat) {t : Bool} {v : Value} (hi : ops[i]? = some ⟨some k, op, ty, pos, af, some (j, t)⟩) (hl : look e dj = some v) (hb : isB v t = false) (h : SLB P (NT.mk m dk0 rq) b b ops S Q fuel (listed.setIfInBounds i true) ((k, undef) :: e) hp)
    (hs : Region.noSelect ops = true := by kernel_rfl) (hfr : Region.free .any ops listed i = true := by kernel_rfl) (hr : (Region.ready .any ops listed).contains i = true := by kernel_rfl) (hd : Nat.blt k m = true := by rfl)
    (hj : (ops[j]?).bind (·.dst) = some dj := by rfl) (hdj : Nat.blt dj m = true := by rfl) : SLB P (NT.mk m dk0 rq) b b ops S Q (fuel + 1) listed e hp :=
  fun hsub => D_no (Base.Le.refl _) i dj hi hs hfr hr hd hj hl hdj hb hsub (h hsub)
end
end Go.Fp
