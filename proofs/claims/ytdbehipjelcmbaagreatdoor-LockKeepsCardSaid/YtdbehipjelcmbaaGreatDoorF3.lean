import Derived.Test.YtdbehipjelcmbaaGreatDoorF2
import Derived.Laws.IdiomCopy
import Derived.Laws.CopyRow
import Derived.KernelRfl
import Derived.Lib.AppendZerosOnto
import Derived.Lib.AtoiAll
import Derived.Lib.AtoiErrMem
import Derived.WideLaws
import Derived.Lib.LaidTab
import Derived.Lib.ItoaNum
import Derived.Lib.Join
import Derived.Sort.Grow
import Derived.Deep.Draws
import Derived.RangeFuncIn
import Derived.RangeFuncSeq
import Derived.Maps.RangeRun
import Derived.Laws.Pointers
set_option linter.unusedVariables false
set_option linter.unusedSimpArgs false
set_option linter.unusedSectionVars false
namespace Go.Fp
open Go.RowKit
section
variable {α : Type} {P : Program} {n : NT} {m : Nat} {dk0 : Nat × Obj → Prop} {rq : Option Nat} {b : Base} {e : Env} {hp : Hp} {ty : TypeId} {l : List α} {A : Option Addr} {c : Nat} {hs : Hp}
def cpy {α : Type} (l : List α) (j k : Nat) (m : List α) : List α := l.take j ++ m.take (k - j) ++ l.drop (j + min m.length (k - j))
def j6D {α : Type} (l : List α) (i1 i2 : Int) (m : List α) : List α := cpy l i1.toNat i2.toNat m
def j6C {α : Type} (i1 i2 : Int) (m : List α) : Int := ((min m.length (i2.toNat - i1.toNat) : Nat) : Int)
end
section
variable {P : Program} {n : NT} {m : Nat} {dk0 : Nat × Obj → Prop} {rq : Option Nat} {w0 b : Base} {ops : Array Oper} {Q : Exit → Act → World → Prop} {e : Env} {hp S : Hp} {op : Op} {ty : TypeId} {pos : String} {af : Array Edge} {fuel : Nat} {listed : Array Bool}
def SLB (P : Program) (n : NT) (w0 b : Base) (ops : Array Oper) (S : Hp) (Q : Exit → Act → World → Prop) (fuel : Nat) (listed : Array Bool) (e : Env) (hp : Hp) : Prop := w0.Le b → (q3K .any ops listed = true → S.Sublist hp) → SLA P n w0 b ops S Q fuel listed e hp
theorem j2t (hle : w0.Le b) (hsub : S.Sublist hp) (h : SLB P n w0 b ops S Q fuel listed e hp) : SLA P n w0 b ops S Q fuel listed e hp := h hle (fun _ => hsub)
theorem j5z (hle : w0.Le b) (h : SLB P n w0 b ops S Q fuel listed e hp) (hn : q3K .any ops listed = false := by kernel_rfl) : SLA P n w0 b ops S Q fuel listed e hp := h hle (fun h1 => by rw [hn] at h1; cases h1)
theorem z4S (h : SLA P n w0 b ops S Q fuel listed e hp) : SLB P n w0 b ops S Q fuel listed e hp := fun _ _ => h
theorem z1D {x y : Nat} (h : Nat.beq x y = false) : x ≠ y := fun e => by rw [e, Nat.beq_refl] at h; cases h
theorem j0n (i : Nat) {v : Value} {k : Nat} (hi : ops[i]? = some ⟨some k, op, ty, pos, af, none⟩) (hst : Stable P (NT.mk m dk0 rq) w0 op ty e S v) (h : SLB P (NT.mk m dk0 rq) w0 b ops S Q fuel (listed.setIfInBounds i true) ((k, v) :: e) hp)
  (hs : Region.noSelect ops = true := by kernel_rfl) (hfr : Region.free .any ops listed i = true := by kernel_rfl) (hr : (Region.ready .any ops listed).contains i = true := by kernel_rfl) (hd : Nat.blt k m = true := by rfl) (hk : Nat.beq (opK op) 2 = false := by rfl) (hk1 : Nat.beq (opK op) 1 = true := by rfl) (hcl : q5S .any ops listed = true := by kernel_rfl) : SLB P (NT.mk m dk0 rq) w0 b ops S Q (fuel + 1) listed e hp :=
 fun hle hsub a w hf ho => q4S (T := Own w0 S) hi (Region.noSelect_spec hs) (fun _ _ _ h => h) (q9g hi (z1D hk)) (fun w hw => hw.1 (Nat.eq_of_beq_eq_true hk1)) fuel listed a w (Region.free_spec hi hfr) (by simpa using hr)
  (.inl ⟨by simp [Region.wanted], fun w' hw' => hst a w' hf.toFitV hw' _ _ _ _⟩) (fun _ => hcl) (fun hn => (hle.back _ _ ho).sub (hsub hn)) ((hle.back _ _ ho).sub (List.nil_sublist _)) (h hle (fun hn => hsub (q1P hn)) _ _ (hf.put hd v) ho)
theorem z6J (i : Nat) {v : Value} {k : Nat} (hi : ops[i]? = some ⟨some k, op, ty, pos, af, none⟩) (hst : Stable P (NT.mk m dk0 rq) w0 op ty e [] v) (h : SLB P (NT.mk m dk0 rq) w0 b ops S Q fuel (listed.setIfInBounds i true) ((k, v) :: e) hp)
  (hs : Region.noSelect ops = true := by kernel_rfl) (hfr : Region.free .any ops listed i = true := by kernel_rfl) (hr : (Region.ready .any ops listed).contains i = true := by kernel_rfl) (hd : Nat.blt k m = true := by rfl) (hk : Nat.beq (opK op) 2 = false := by rfl) (hk0 : Nat.beq (opK op) 1 = false := by rfl) : SLB P (NT.mk m dk0 rq) w0 b ops S Q (fuel + 1) listed e hp :=
 fun hle hsub a w hf ho => q4S (T := Own w0 []) hi (Region.noSelect_spec hs) (fun _ _ _ h => h) (q9g hi (z1D hk)) (fun w hw => hw.2) fuel listed a w (Region.free_spec hi hfr) (by simpa using hr)
  (.inl ⟨by simp [Region.wanted], fun w' hw' => hst a w' hf.toFitV hw' _ _ _ _⟩) (fun hm => absurd hm (z1D hk0)) (fun hn => (hle.back _ _ ho).sub (hsub hn)) ((hle.back _ _ ho).sub (List.nil_sublist _)) (h hle (fun hn => hsub (q1P hn)) _ _ (hf.put hd v) ho)
theorem z8N (i : Nat) {v : Value} {k j : Nat} (dj : Nat) {t : Bool} (hi : ops[i]? = some ⟨some k, op, ty, pos, af, some (j, t)⟩) (hst : Stable P (NT.mk m dk0 rq) w0 op ty e S v) (h : SLB P (NT.mk m dk0 rq) w0 b ops S Q fuel (listed.setIfInBounds i true) ((k, v) :: e) hp)
  (hs : Region.noSelect ops = true := by kernel_rfl) (hfr : Region.free .any ops listed i = true := by kernel_rfl) (hr : (Region.ready .any ops listed).contains i = true := by kernel_rfl) (hd : Nat.blt k m = true := by rfl) (hk : Nat.beq (opK op) 2 = false := by rfl) (hk1 : Nat.beq (opK op) 1 = true := by rfl) (hcl : q5S .any ops listed = true := by kernel_rfl) (hj : (ops[j]?).bind (·.dst) = some dj := by rfl) (hl : look e dj = some (.bool t) := by rfl) (hdj : Nat.blt dj m = true := by rfl) : SLB P (NT.mk m dk0 rq) w0 b ops S Q (fuel + 1) listed e hp :=
 fun hle hsub a w hf ho => q4S (T := Own w0 S) hi (Region.noSelect_spec hs) (fun _ _ _ h => h) (q9g hi (z1D hk)) (fun w hw => hw.1 (Nat.eq_of_beq_eq_true hk1)) fuel listed a w (Region.free_spec hi hfr) (by simpa using hr)
  (.inl ⟨by rw [q5A hf hj hl _ rfl hdj]; simp, fun w' hw' => hst a w' hf.toFitV hw' _ _ _ _⟩) (fun _ => hcl) (fun hn => (hle.back _ _ ho).sub (hsub hn)) ((hle.back _ _ ho).sub (List.nil_sublist _)) (h hle (fun hn => hsub (q1P hn)) _ _ (hf.put hd v) ho)
theorem j4C (i : Nat) {v : Value} {k j : Nat} (dj : Nat) {t : Bool} (hi : ops[i]? = some ⟨some k, op, ty, pos, af, some (j, t)⟩) (hst : Stable P (NT.mk m dk0 rq) w0 op ty e [] v) (h : SLB P (NT.mk m dk0 rq) w0 b ops S Q fuel (listed.setIfInBounds i true) ((k, v) :: e) hp)
  (hs : Region.noSelect ops = true := by kernel_rfl) (hfr : Region.free .any ops listed i = true := by kernel_rfl) (hr : (Region.ready .any ops listed).contains i = true := by kernel_rfl) (hd : Nat.blt k m = true := by rfl) (hk : Nat.beq (opK op) 2 = false := by rfl) (hk0 : Nat.beq (opK op) 1 = false := by rfl) (hj : (ops[j]?).bind (·.dst) = some dj := by rfl) (hl : look e dj = some (.bool t) := by rfl) (hdj : Nat.blt dj m = true := by rfl) : SLB P (NT.mk m dk0 rq) w0 b ops S Q (fuel + 1) listed e hp :=
 fun hle hsub a w hf ho => q4S (T := Own w0 []) hi (Region.noSelect_spec hs) (fun _ _ _ h => h) (q9g hi (z1D hk)) (fun w hw => hw.2) fuel listed a w (Region.free_spec hi hfr) (by simpa using hr)
  (.inl ⟨by rw [q5A hf hj hl _ rfl hdj]; simp, fun w' hw' => hst a w' hf.toFitV hw' _ _ _ _⟩) (fun hm => absurd hm (z1D hk0)) (fun hn => (hle.back _ _ ho).sub (hsub hn)) ((hle.back _ _ ho).sub (List.nil_sublist _)) (h hle (fun hn => hsub (q1P hn)) _ _ (hf.put hd v) ho)
theorem j6q (i : Nat) {k j : Nat} (dj : Nat) {t : Bool} {v : Value} (hi : ops[i]? = some ⟨some k, op, ty, pos, af, some (j, t)⟩) (hl : look e dj = some v) (hb : isB v t = false) (h : SLB P (NT.mk m dk0 rq) w0 b ops S Q fuel (listed.setIfInBounds i true) ((k, undef) :: e) hp)
  (hs : Region.noSelect ops = true := by kernel_rfl) (hfr : Region.free .any ops listed i = true := by kernel_rfl) (hr : (Region.ready .any ops listed).contains i = true := by kernel_rfl) (hd : Nat.blt k m = true := by rfl)
  (hj : (ops[j]?).bind (·.dst) = some dj := by rfl) (hdj : Nat.blt dj m = true := by rfl) (hcl : q5S .any ops listed = true := by kernel_rfl) : SLB P (NT.mk m dk0 rq) w0 b ops S Q (fuel + 1) listed e hp :=
 fun hle hsub a w hf ho => q4S (T := Own w0 []) hi (Region.noSelect_spec hs) (fun _ _ _ h => h) (z4r hi rfl) (fun w hw => hw.2) fuel listed a w (Region.free_spec hi hfr) (by simpa using hr)
  (.inr ⟨by rw [z1e hf hj hl _ rfl hdj]; exact hb, rfl⟩) (fun _ => hcl) (fun hn => (hle.back _ _ ho).sub (hsub hn)) ((hle.back _ _ ho).sub (List.nil_sublist _)) (h hle (fun hn => hsub (q1P hn)) _ _ (hf.put hd undef) ho)
end
end Go.Fp
namespace Go.Fp
open Go.RowKit
section
variable {P : Program} {n : NT} {m : Nat} {dk0 : Hp} {rq : Option Nat} {b : Base} {e : Env} {hp : Hp} {ty : TypeId}
def j6x (i : Int) : Option Nat := if 0 < i then some i.toNat else none
end
end Go.Fp
namespace Go.Fp
open Go.RowKit
def ErrV (v : Value) (q : Bool) : Prop := match q with
 | true => v = .nilIface
 | false => ∃ t u, v = .iface t u
theorem ErrV.nil : ErrV .nilIface true := rfl
section
variable {P : Program} {n : NT} {m : Nat} {dk0 : Hp} {rq : Option Nat} {b : Base} {e : Env} {hp : Hp} {ty : TypeId}
def ifT (P : Program) (t : TypeId) : Prop := P.underlying t = some (.interface (P.methodsAt t))
end
theorem z0t {w w' : World} (h : Below w.heap.size w w') : Keeps w w' := Keeps.of_obj fun g _ _ _ _ hg => (h.block g (Array.getElem?_eq_some_iff.1 hg).1).trans hg
theorem Own.below_ {b : Base} {hp : Hp} {w w' : World} (ho : Own b hp w) (h : Below w.heap.size w w') : Own b hp w' := by
 have h1 : Own (w : Base) [] w' := ⟨Nat.le_refl _, h, z0t h, List.nodup_nil, fun g o hm => by simp at hm, fun g o hm => by simp at hm, fun g o hm => absurd hm (by simp)⟩
 simpa using ho.grow h1
def j6p (s : ByteArray) : Option (Int × Bool) := if s.size ≤ 281474976710656 then (match Lib.atoiAll s.data.toList with
 | .ok v => some (v, true)
 | Lib.NumEnd.syntax => some (0, false)
 | .range => some (Lib.atoiSat s.data.toList, false)) else none
def GLo (gs gr : Nat) (w : World) : Prop := (∃ t u, w.cell? ⟨gs, 0, none⟩ = some (.iface t u)) ∧ ∃ t u, w.cell? ⟨gr, 0, none⟩ = some (.iface t u)
theorem GLo.mono {gs gr : Nat} {w w' : World} (hk : Keeps w w') (h : GLo gs gr w) : GLo gs gr w' := by
 obtain ⟨⟨t, u, h1⟩, t', u', h2⟩ := h
 exact ⟨⟨t, u, hk _ _ h1⟩, t', u', hk _ _ h2⟩
theorem GLo.le {gs gr : Nat} {b b' : Base} (h : GLo gs gr b.w) (hle : b.Le b') : GLo gs gr b'.w := h.mono hle.cells
theorem GLo.old {gs gr : Nat} {b : Base} {hp : Hp} {w : World} (h : GLo gs gr b.w) (ho : Own b hp w) : GLo gs gr w := h.mono ho.keeps
end Go.Fp
namespace Go.Fp
open Go.RowKit Go.Sort
def GOn (G : World → Prop) (b : Base) : Prop := ∀ hp w, Own b hp w → G w
theorem GOn.le {G : World → Prop} {b b' : Base} (h : GOn G b) (hle : b.Le b') : GOn G b' := fun hp w ho => h hp w (hle.back _ _ ho)
theorem GOn.old {G : World → Prop} {b : Base} {hp : Hp} {w : World} (h : GOn G b) (ho : Own b hp w) : GOn G (w : Base) := fun hp' w' ho' => h _ _ (ho.grow ho')
theorem GOn.mono {G G' : World → Prop} {b : Base} (h : GOn G b) (hg : ∀ w, G w → G' w) : GOn G' b := fun hp w ho => hg w (h hp w ho)
def j6m (n : Int) : Option ByteArray := (chk n).bind fun _ => some ⟨(Lib.itoa n).toArray⟩
def j6l (l : List ByteArray) (sep : ByteArray) : Option ByteArray :=
 if l.length ≤ 140737488355328 ∧ (Lib.join (l.map (·.data.toList)) sep.data.toList).length ≤ 140737488355328 then some ⟨(Lib.join (l.map (·.data.toList)) sep.data.toList).toArray⟩ else none
end Go.Fp
namespace Go.Fp
open Go.RowKit
def q4f {α σ τ : Type} (body : α → σ → Option (σ ⊕ τ)) : List α → σ → Option (σ ⊕ τ)
 | [], s => some (.inl s)
 | x :: r, s => match body x s with
  | none => none
  | some (.inl s') => q4f body r s'
  | some (.inr t) => some (.inr t)
abbrev Lr (r : Loop) : Obj := .loop { r with state := .ready, pending := none }
abbrev Lb (r : Loop) : Obj := .loop { r with state := .busy, pending := none }
abbrev Ld (r : Loop) (c : Code) : Obj := .loop { r with state := .done, pending := some c }
def j4B (P : Program) (gf : FuncId) (lb : Array Value) (b : Base) (xs : List Value) : Prop :=
 ∀ (b0 : Base) (hp0 : Hp) (w : World), b.Le b0 → Own b0 hp0 w → ∀ (l : Nat) (Rd : Nat → Base → Hp → Prop) (Rx : Base → Hp → Prop),
  (∀ k x b1 hp1, xs[k]? = some x → b0.Le b1 → Rd k b1 hp1 → ∀ b2, b1.Le b2 → ∀ W, Own b2 hp1 W → YieldAt Fence.wide 0 P l #[x] W fun e W' =>
   ∃ b3 hp3, b2.Le b3 ∧ Own b3 hp3 W' ∧ ((e = .returned (.bool true) ∧ Rd (k + 1) b3 hp3) ∨ (e = .returned (.bool false) ∧ Rx b3 hp3))) →
  Rd 0 b0 hp0 →
  Calls P gf (#[.func (.yield l) #[] #[]] ++ lb) w fun e W' => (∃ v, e = .returned v) ∧ ∃ b3 hp3, b0.Le b3 ∧ Own b3 hp3 W' ∧ (Rd xs.length b3 hp3 ∨ Rx b3 hp3)
def IterV (P : Program) (b : Base) (v : Value) (xs : List Value) : Prop := ∃ gf lb, v = .func (.func gf) #[] lb ∧ q8 P gf = true ∧ j4B P gf lb b xs
theorem IterV.le {P : Program} {b b' : Base} {v : Value} {xs : List Value} (h : IterV P b v xs) (hle : b.Le b') : IterV P b' v xs := by
 obtain ⟨gf, lb, h1, h2, h3⟩ := h
 exact ⟨gf, lb, h1, h2, fun b0 hp0 w hl => h3 b0 hp0 w (hle.trans hl)⟩
theorem Base.Le.dks {b : Base} {dk : Hp} (h : ∀ x ∈ b.dk, x ∈ dk) : b.Le ⟨b.w, b.B, dk⟩ := ⟨rfl, Keeps.refl _, h, fun _ _ h => h⟩
def j0U (l : Nat) (r : Loop) (b2 : Base) (Nx : Base → Hp → Prop) (Rx : Code → Base → Hp → Prop) : Ending → World → Prop := fun e W' =>
 ∃ b3 hp3, b2.Le b3 ∧ ((e = .returned (.bool true) ∧ Own b3 ((l, Lr r) :: hp3) W' ∧ Nx b3 hp3) ∨ (e = .returned (.bool false) ∧ ∃ c, Own b3 ((l, Ld r c) :: hp3) W' ∧ Rx c b3 hp3))
def z3Q (P : Program) (l : Nat) (r : Loop) (b2 : Base) (Nx : Base → Hp → Prop) (Rx : Code → Base → Hp → Prop) : Exit → Act → World → Prop := roundPost P l (j0U l r b2 Nx Rx)
def z8P (P : Program) (l : Nat) (r : Loop) (b2 : Base) (Nx : Base → Hp → Prop) (Rx : Code → Base → Hp → Prop) (body : Code) : Exit → Act → World → Prop :=
 Exit.then (fun a₁ w₁ => ∃ w₂, (Instr.beginRound l).run P w₁ = .ok () w₂ ∧ body.wpIn (Fence.wide.inRound l) 0 P (z3Q P l r b2 Nx Rx) a₁ w₂) (fun _ _ _ => False)
def j0o (P : Program) (n : NT) (Q : Exit → Act → World → Prop) (e : Env) : Code → Base → Hp → Prop := fun c b hp => SLc P n b Q c e hp
section
variable {P : Program} {n : NT} {m : Nat} {dk0 : Nat × Obj → Prop} {b b2 w0 : Base} {Q : Exit → Act → World → Prop} {e e' : Env} {hp : Hp} {l : Nat} {r : Loop} {Nx : Base → Hp → Prop} {Rx : Code → Base → Hp → Prop}
theorem Own.swapObj {w : World} {i : Nat} {o o' : Obj} (h : Own b hp w) (hi : hp[i]? = some (l, o)) : Own b ((l, o') :: hp.eraseIdx i) (w.putObj l o') := by
 have hlt : l < w.heap.size := h.lt (List.mem_of_getElem? hi)
 have h1 := h.turn (o' := o') (w' := w.putObj l o') hi rfl rfl rfl (by simp) (World.putObj_heap_same hlt) (fun k hk => World.putObj_heap_other hk)
 refine h1.perm ?_
 have hil : i < hp.length := (List.getElem?_eq_some_iff.1 hi).1
 have h2 := q9F (hp.set i (l, o')) i (l, o') (by simp [hil])
 rwa [List.eraseIdx_set_eq] at h2
theorem z6N {body : Code} (i : Nat) (hi : hp[i]? = some (l, Lr r)) (h : SLc P (NT.mk m dk0 (some l)) b (z3Q P l r b2 Nx Rx) body e ((l, Lb r) :: hp.eraseIdx i)) : SLx (NT.mk m dk0 (some l)) b (z8P P l r b2 Nx Rx body) .normal e hp := fun a w hf ho => by
 have hw := (ho.blk l _ (List.mem_of_getElem? hi)).2
 exact ⟨_, run_beginRound hw rfl, h a _ hf (ho.swapObj hi)⟩
theorem j5p {w : World} (jump : Option Code) {i : Nat} (ho : Own b hp w) (hi : hp[i]? = some (l, Lb r)) : (Instr.endRound l jump).run P w = .ok (.bool jump.isNone) (w.putObj l (.loop { r with state := if jump.isNone then .ready else .done, pending := jump })) :=
 run_endRound (r := { r with state := .busy, pending := none }) jump (ho.blk l _ (List.mem_of_getElem? hi)).2
theorem z6L (i : Nat) (hi : hp[i]? = some (l, Lb r)) (hle : b2.Le b) {hp' : Hp} (hh : hp'.Sublist (hp.eraseIdx i)) (hn : Nx b hp') : SLx n b (z3Q P l r b2 Nx Rx) .normal e hp := fun a w hf ho =>
 ⟨_, _, j5p none ho hi, b, hp', hle, .inl ⟨rfl, (ho.swapObj hi).sub (hh.cons_cons _), hn⟩⟩
theorem j1a {id : Nat} (i : Nat) (hi : hp[i]? = some (l, Lb r)) (hle : b2.Le b) (h : SLc P (NT.mk m dk0 none) b Q (.exit id) e' (hp.eraseIdx i)) : SLx n b (z3Q P l r b2 Nx (j0o P (NT.mk m dk0 none) Q e')) (.exit id) e hp := fun a w hf ho =>
 ⟨_, _, j5p (some (.exit id)) ho hi, b, _, hle, .inr ⟨rfl, _, ho.swapObj hi, h⟩⟩
theorem z1J (i : Nat) (hi : hp[i]? = some (l, Lb r)) (hle : b2.Le b) (h : SLc P (NT.mk m dk0 none) b Q .ret e' (hp.eraseIdx i)) : SLx n b (z3Q P l r b2 Nx (j0o P (NT.mk m dk0 none) Q e')) .ret e hp := fun a w hf ho =>
 ⟨_, _, j5p (some .ret) ho hi, b, _, hle, .inr ⟨rfl, _, ho.swapObj hi, h⟩⟩
theorem z7Q {α σ τ : Type} {body : α → σ → Option (σ ⊕ τ)} : ∀ {xs : List α} {s : σ} {t : σ ⊕ τ} {x : α} {r : List α}, xs = x :: r → q4f body xs s = some t → ∃ o, body x s = some o ∧ (∀ t', o = .inr t' → t = .inr t') ∧ ∀ s', o = .inl s' → q4f body r s' = some t
 | _, s, t, x, r, rfl, h => by
  unfold q4f at h
  cases hb : body x s with
  | none => rw [hb] at h; cases h
  | some o =>
   rw [hb] at h
   cases o with
   | inl s' => exact ⟨_, rfl, (fun t' ht => absurd ht (by simp)), (fun s'' hs => by injection hs with hs; subst hs; exact h)⟩
   | inr t' => exact ⟨_, rfl, (fun t'' ht => by injection ht with ht; subst ht; injection h with h; exact h.symm), (fun s'' hs => absurd hs (by simp))⟩
theorem j1l {ops : Array Oper} {rest : List Oper} {d : Nat} {pos : String} {af : Array Edge} {f x : Operand} {ts : Array TypeId} {ty : TypeId} {v : Value} {K : Bool → Base → Hp → Prop} (hd : Nat.blt d m = true) (hf : val e f = some (.func (.yield l) #[] #[])) (hx : val e x = some v)
  (hY : ∀ W, Own b hp W → YieldAt Fence.wide 0 P l #[v] W fun en W' => ∃ q b3 hp3, en = .returned (.bool q) ∧ b.Le b3 ∧ Own b3 hp3 W' ∧ K q b3 hp3)
  (k : ∀ q b3 hp3, b.Le b3 → K q b3 hp3 → SLo P (NT.mk m dk0 none) b3 ops Q rest ((d, .bool q) :: e) hp3) :
  SLo P (NT.mk m dk0 none) b ops Q (⟨some d, .call { callee := .value f, args := #[x], argTypes := ts }, ty, pos, af, none⟩ :: rest) e hp := fun a w hft ho =>
 q5z rfl fun K' hK => by
  obtain ⟨fn, tmps, assign, body, hy, hR⟩ := hY w ho
  refine ⟨fun _ _ => trivial, ?_⟩
  show Oper.uponIn Fence.wide 0 P _ a K' Q ((Oper.semAt none a.eval _).run P w)
  rw [Oper.semAt_none]
  have hrun : (execOp a.eval ⟨some d, .call { callee := .value f, args := #[x], argTypes := ts }, ty, pos, af, none⟩).run P w = .ok (.round l fn tmps assign body) w := by
   simp only [execOp, resolve, hft.eval hf, Deferred.ofValue, Sem.run_bind, Sem.run_pure, Result.andThen_ok, invoke]
   simpa [hft.eval hx] using hy
  rw [hrun]
  refine ⟨(fun hd => absurd hd (by simp [Fence.wide])), hR.mono ?_⟩
  rintro en w' ⟨q, b3, hp3, rfl, hle, ho', hk⟩
  exact hK _ _ (k q b3 hp3 hle hk _ _ ((hft.put hd (.bool q)).le hle) ho')
theorem z5J {α σ τ : Type} {step : α → σ → Option (σ ⊕ τ)} (enc : α → Value) (Inv : σ → Base → Hp → Prop) {g : Operand} {p : Nat} {assign body : Code} {xs : List α} {s0 : σ} {t : σ ⊕ τ} {v : Value}
  (hg : val e g = some v) (hit : IterV P w0 v (xs.map enc)) (hl : q4f step xs s0 = some t) {hp' : Hp} (he : Sub e' e) (hh : hp'.Sublist hp) (hp0 : Nat.blt p m = true)
  (h0 : ∀ dk, (∀ x ∈ w0.dk, x ∈ dk) → Inv s0 ⟨w0.w, w0.B, dk⟩ hp')
  (round : ∀ (r : Loop) (l : Nat) x s b1 b2 hp1 o, Inv s b1 hp1 → b1.Le b2 → step x s = some o → (∀ t', o = .inr t' → t = .inr t') →
   SLc P (NT.mk m dk0 (some l)) b2 (z8P P l r b2 (fun b hp => ∃ s', o = .inl s' ∧ Inv s' b hp) (j0o P (NT.mk m dk0 none) Q e') body) assign ((p, enc x) :: e') ((l, Lr r) :: hp1))
  (done : ∀ s b1 hp1, Inv s b1 hp1 → t = .inl s → SLx (NT.mk m dk0 none) b1 Q .normal e' hp1)
  (hdk : ∀ x, dk0 x → x ∈ w0.dk) :
  SLc P (NT.mk m dk0 none) w0 Q (.rangeFunc g #[p] assign body) e hp := fun a w hf ho => by
 obtain ⟨gf, lb, rfl, hc, hit⟩ := hit
 have hgv := hf.eval hg
 refine wpIn_rangeFunc (F := Fence.wide) ?_
 intro fn hfn
 obtain ⟨r, hr⟩ : ∃ r : Loop, r = { state := .ready, pending := none, fn, tmps := a.tmps, params := #[p], assign, body, defers := w.heap.size } := ⟨_, rfl⟩
 obtain ⟨W1, hW1⟩ : ∃ W1, (w.alloc z3o).alloc (Lr r) = W1 := ⟨_, rfl⟩
 have hs1 : (w.alloc z3o).heap.size = w.heap.size + 1 := by simp
 have o1 : Own w0 ((w.heap.size + 1, Lr r) :: (w.heap.size, z3o) :: hp') W1 := by
  have := ((ho.sub hh).alloc z3o).alloc (Lr r)
  rw [hs1] at this
  rw [← hW1]
  exact this
 have hB : w0.B ≤ w.heap.size := by have := ho.below.size; have := ho.lo; omega
 have o2 : Own ⟨w0.w, w0.B, (w.heap.size, z3o) :: w0.dk⟩ ((w.heap.size + 1, Lr r) :: hp') W1 := by
  have hsub : ((w.heap.size + 1, Lr r) :: hp').Sublist ((w.heap.size + 1, Lr r) :: (w.heap.size, z3o) :: hp') := (List.sublist_cons_self _ _).cons_cons _
  have h1 := o1.sub hsub
  refine ⟨h1.lo, h1.below, h1.keeps, h1.nd, h1.blk, h1.hole, fun g o hm => ?_⟩
  rcases List.mem_cons.1 hm with he | hm
  ·injection he with e1 e2
   subst e1; subst e2
   refine ⟨hB, (o1.blk _ _ (List.mem_cons_of_mem _ (List.mem_cons_self ..))).2, (fun cs t fr h => absurd h (by simp)), fun o' hm' => ?_⟩
   have hnd := o1.nd
   simp only [List.map_cons, List.nodup_cons] at hnd
   rcases List.mem_cons.1 hm' with he | hm'
   ·injection he with e1 _
    omega
   ·exact hnd.2.1 (List.mem_map.2 ⟨_, hm', rfl⟩)
  ·exact h1.dks g o hm
 have hle2 : w0.Le ⟨w0.w, w0.B, (w.heap.size, z3o) :: w0.dk⟩ := Base.Le.dks fun x hx => List.mem_cons_of_mem _ hx
 have fit : ∀ b3 : Base, Base.Le ⟨w0.w, w0.B, (w.heap.size, z3o) :: w0.dk⟩ b3 → Fit (NT.mk m dk0 none) b3 e' { a with defers := [{ target := .collected w.heap.size, args := #[] }] ++ a.defers } := fun b3 h3 => by
  obtain ⟨ds, hd, hnd, hk⟩ := hf.defers
  refine ⟨⟨hf.size, fun k v hk => hf.get k v (he.spec k v hk)⟩, w.heap.size :: ds, by rw [hd]; rfl, List.nodup_cons.2 ⟨fun hm => ?_, hnd⟩, fun D hD => ?_⟩
  ·have := (ho.dks _ _ (hk _ hm).1).2.1
   have := (Array.getElem?_eq_some_iff.1 this).1
   omega
  ·rcases List.mem_cons.1 hD with rfl | hD
   ·refine ⟨h3.dk _ (List.mem_cons_self ..), fun o hm => ?_⟩
    have := (ho.dks _ _ (hdk _ hm)).2.1
    have := (Array.getElem?_eq_some_iff.1 this).1
    omega
   ·exact ⟨h3.dk _ (List.mem_cons_of_mem _ (hk D hD).1), (hk D hD).2⟩
 refine ⟨w.heap.size + 1, [{ target := .collected w.heap.size, args := #[] }], W1, { target := .fn (.func gf) lb, args := #[.func (.yield (w.heap.size + 1)) #[] #[]] }, W1, gf,
  #[.func (.yield (w.heap.size + 1)) #[] #[]] ++ lb, W1, ?_, ?_, ?_, ?_, (fun hd => absurd hd (by simp [Fence.wide])), ?_⟩
 ·rw [← hW1, hr]
  exact run_enterLoop_outer _ _ _ _ _
 ·simp only [resolve, hgv]
  simp [go_sem]
 ·intro f' _
  trivial
 ·simp only [invoke]
  simpa using q0P (P := P) hc _ W1
 ·refine callsIn_wide.2 ?_
  refine (hit _ _ W1 hle2 o2 (w.heap.size + 1)
   (fun k b3 hp3 => ∃ s hp1, hp3 = (w.heap.size + 1, Lr r) :: hp1 ∧ Inv s b3 hp1 ∧ Base.Le ⟨w0.w, w0.B, (w.heap.size, z3o) :: w0.dk⟩ b3 ∧ q4f step (xs.drop k) s = some t)
   (fun b3 hp3 => ∃ c hp1, hp3 = (w.heap.size + 1, Ld r c) :: hp1 ∧ SLc P (NT.mk m dk0 none) b3 Q c e' hp1 ∧ Base.Le ⟨w0.w, w0.B, (w.heap.size, z3o) :: w0.dk⟩ b3)
   ?_ ⟨s0, hp', rfl, h0 _ (fun x hx => List.mem_cons_of_mem _ hx), Base.Le.refl _, by rw [List.drop_zero]; exact hl⟩).mono ?_
  ·
   rintro k x b1 hp1 hx hb1 ⟨s, hq, rfl, hi, hbl, hfl⟩ b2 hb2 W hW
   rw [List.getElem?_map] at hx
   cases hxk : xs[k]? with
   | none => rw [hxk] at hx; cases hx
   | some y =>
    rw [hxk] at hx
    injection hx with hx
    subst hx
    have hdrop : xs.drop k = y :: xs.drop (k + 1) := by
     obtain ⟨hlt, hy⟩ := List.getElem?_eq_some_iff.1 hxk
     rw [List.drop_eq_getElem_cons hlt, hy]
    obtain ⟨o, h1, h2, h3⟩ := z7Q hdrop hfl
    have hL := (hW.blk _ _ (List.mem_cons_self ..)).2
    have hy := run_yield (P := P) (args := #[enc y]) hL (by rw [hr]; rfl)
    refine ⟨_, _, _, _, hy, roundIn_of_wpIn (F := Fence.wide) trivial ?_⟩
    have hrd := round r (w.heap.size + 1) y s b1 b2 hq o hi hb2 h1 h2
    have hst := hrd { tmps := (#[p].zip #[enc y]).foldl (fun t (p, v) => t.setIfInBounds p v) a.tmps, defers := [] } W ?_ hW
    ·subst hr
     refine wpIn_mono hst fun ex a' w' hq' => ?_
     cases ex with
     | normal =>
      obtain ⟨w2, g1, g2⟩ := hq'
      refine ⟨w2, g1, wpIn_mono g2 fun ex a'' w'' hq'' => ?_⟩
      have key : ∀ ee ww, j0U (w.heap.size + 1) { state := .ready, pending := none, fn, tmps := a.tmps, params := #[p], assign, body, defers := w.heap.size } b2 (fun b hp => ∃ s', o = .inl s' ∧ Inv s' b hp) (j0o P (NT.mk m dk0 none) Q e') ee ww →
        ∃ b3 hp3, b2.Le b3 ∧ Own b3 hp3 ww ∧ ((ee = .returned (.bool true) ∧ ∃ s hp1, hp3 = (w.heap.size + 1, Lr { state := .ready, pending := none, fn, tmps := a.tmps, params := #[p], assign, body, defers := w.heap.size }) :: hp1 ∧ Inv s b3 hp1 ∧ Base.Le ⟨w0.w, w0.B, (w.heap.size, z3o) :: w0.dk⟩ b3 ∧ q4f step (xs.drop (k + 1)) s = some t) ∨ (ee = .returned (.bool false) ∧ ∃ c hp1, hp3 = (w.heap.size + 1, Ld { state := .ready, pending := none, fn, tmps := a.tmps, params := #[p], assign, body, defers := w.heap.size } c) :: hp1 ∧ SLc P (NT.mk m dk0 none) b3 Q c e' hp1 ∧ Base.Le ⟨w0.w, w0.B, (w.heap.size, z3o) :: w0.dk⟩ b3)) := by
       rintro ee ww ⟨b3, hp3, q1, ⟨q2, q3, s', q4, q5⟩ | ⟨q2, c, q3, q4⟩⟩
       ·exact ⟨b3, _, q1, q3, .inl ⟨q2, s', hp3, rfl, q5, (hbl.trans hb2).trans q1, h3 s' q4⟩⟩
       ·exact ⟨b3, _, q1, q3, .inr ⟨q2, c, hp3, rfl, q4, (hbl.trans hb2).trans q1⟩⟩
      cases ex with
      | normal => obtain ⟨v, w3, k1, k2⟩ := hq''; exact ⟨v, w3, k1, key _ _ k2⟩
      | ret => obtain ⟨v, w3, k1, k2⟩ := hq''; exact ⟨v, w3, k1, key _ _ k2⟩
      | exit id => obtain ⟨v, w3, k1, k2⟩ := hq''; exact ⟨v, w3, k1, key _ _ k2⟩
      | goto q => obtain ⟨v, w3, k1, k2⟩ := hq''; exact ⟨v, w3, k1, key _ _ k2⟩
      | panic c => exact hq''
      | outgrown => exact hq''
     | _ => exact hq'
    ·refine ⟨⟨by simpa using hf.size, fun k v hk => ?_⟩, [], rfl, List.nodup_nil, fun D hD => absurd hD (by simp)⟩
     have hsz : a.tmps.size = m := hf.size
     have hpm : p < m := by simp [Nat.blt] at hp0; omega
     by_cases hpk : p = k
     ·subst hpk
      rw [q1g] at hk
      injection hk with hk
      subst hk
      simp [hsz, hpm]
     ·rw [q1f hpk] at hk
      have := hf.get k v (he.spec k v hk)
      simpa [Array.getElem?_setIfInBounds_ne hpk] using this
  ·
   rintro ee W2 ⟨⟨v, rfl⟩, b3, hp3, hb3, hW, hend⟩
   rcases hend with ⟨s, hq, rfl, hi, hbl, hfl⟩ | ⟨c, hq, rfl, hi, hbl⟩
   ·have hL := (hW.blk _ _ (List.mem_cons_self ..)).2
    refine ⟨_, _, run_endLoop hL (by simp), ?_⟩
    have ht : t = .inl s := by
     rw [List.length_map, List.drop_length] at hfl
     simpa [q4f] using hfl.symm
    exact done s b3 hq hi ht _ _ (fit b3 hbl) ((hW.swapObj (i := 0) rfl).sub (List.sublist_cons_self _ _))
   ·have hL := (hW.blk _ _ (List.mem_cons_self ..)).2
    refine ⟨_, _, run_endLoop hL (by simp), ?_⟩
    exact hi _ _ (fit b3 hbl) ((hW.swapObj (i := 0) rfl).sub (List.sublist_cons_self _ _))
end
section
variable {P : Program} {n : NT} {m : Nat} {dk0 : Nat × Obj → Prop} {rq : Option Nat} {w0 b : Base} {ops : Array Oper} {Q : Exit → Act → World → Prop} {e : Env} {hp : Hp} {ty : TypeId} {pos : String} {af : Array Edge} {rest : List Oper}
theorem q6s {id : Nat} {l : List Oper} {y : Code} (h : SLo P n w0 l.toArray (Exit.then (wpR y n.rd P Q) Q) l e hp) (hl : okR n.rd l = true := by rfl) : SLc P n w0 Q (.seq (.region id l.toArray false) y) e hp := q2J (q0k h hl)
theorem q4H {y : Code} (h : SLc P n w0 Q y e hp) : SLo P n w0 ops (Exit.then (wpR y n.rd P Q) Q) [] e hp := q6u (j5 h)
theorem z3Z {v : Value} {k : Nat} {x : Operand} (hd : Nat.blt k m = true) (hx : val e x = some v) (h : SLo P (NT.mk m dk0 rq) w0 ops Q rest ((k, v) :: e) hp) : SLo P (NT.mk m dk0 rq) w0 ops Q (⟨some k, .move x, ty, pos, af, none⟩ :: rest) e hp := q6E hd (q3h hx) h
theorem z0x {v : Value} {k : Nat} {x : Operand} (hd : Nat.blt k m = true) (hx : val e x = some v) (h : SLo P (NT.mk m dk0 rq) w0 ops Q rest ((k, v) :: e) hp) : SLo P (NT.mk m dk0 rq) w0 ops Q (⟨some k, .assign x, ty, pos, af, none⟩ :: rest) e hp := q6E hd (q1z hx) h
theorem z7z {α : Type} {p : α → Prop} : ∀ u ∈ ([] : List α), p u := fun _ h => (List.not_mem_nil h).elim
theorem z7A {α : Type} {p : α → Prop} {a : α} {l : List α} (h : p a) (hl : ∀ u ∈ l, p u) : ∀ u ∈ a :: l, p u := fun u hu => by
 rcases List.mem_cons.1 hu with rfl | hu
 ·exact h
 ·exact hl u hu
theorem z0w {S : Hp} {id : Nat} {l : List Oper} (hm : P.follows .mixedOrders = true) (hsub : S.Sublist hp) (h : SLB P n b b l.toArray S Q l.length (Array.replicate l.length false) e hp) (hl : okR n.rd l = true := by rfl) : SLc P n b Q (.region id l.toArray true) e hp :=
 z4T S hm (j2t (Base.Le.refl _) hsub h) hl
end
end Go.Fp
namespace Go.Fp
open Go.RowKit
noncomputable def z3U {α τ : Type} (f : List α → Option τ) (l : List α) : Option τ := open Classical in if h : ∃ t, ∀ p : List α, p.Perm l → f p = some t then some h.choose else none
theorem z7o {α τ : Type} {f : List α → Option τ} {l : List α} {t : τ} (h : z3U f l = some t) (p : List α) (hp : p.Perm l) : f p = some t := by
 unfold z3U at h
 split at h
 ·rename_i hh
  rw [← Option.some.inj h]
  exact hh.choose_spec p hp
 ·cases h
theorem z4h {α τ : Type} {f : List α → Option τ} {l : List α} {t : τ} (h : ∀ p : List α, p.Perm l → f p = some t) : z3U f l = some t := by
 have hh : ∃ t, ∀ p : List α, p.Perm l → f p = some t := ⟨t, h⟩
 unfold z3U
 rw [dif_pos hh]
 exact (hh.choose_spec l (.refl _)).symm.trans (h l (.refl _))
theorem q6L {α σ τ : Type} {body : α → σ → Option (σ ⊕ τ)} : ∀ (d r : List α) {s s' : σ}, q4f body d s = some (.inl s') → q4f body (d ++ r) s = q4f body r s'
 | [], r, s, s', h => by injection h with h; injection h with h; subst h; rfl
 | x :: d, r, s, s', h => by
  unfold q4f at h
  show q4f body (x :: (d ++ r)) s = _
  rw [q4f]
  cases hb : body x s with
  | none => rw [hb] at h; cases h
  | some o =>
   rw [hb] at h
   cases o with
   | inl s2 => exact q6L d r h
   | inr t => cases h
def lft {α : Type} (es : List MapEntry) (l : List α) (seen : Array Nat) : List α := ((es.zip l).filter fun p => !seen.contains p.1.born).map (·.2)
section
variable {κ ν : Type} {P : Program} {kr : RT κ} {vo : OT ν} {ka va : Bool} {w : World} {g gi : Nat} {l left : List (κ × ν)} {hs : Hp}
def MIt (kr : RT κ) (vo : OT ν) (ka va : Bool) (w : World) (g gi : Nat) (l left : List (κ × ν)) (hs : Hp) : Prop :=
 ∃ (es : List MapEntry) (clock : Nat) (hss : List Hp) (seen : Array Nat) (c0 : Nat), hs = (gi, .mapIter (some g) clock seen c0) :: (g, .map es.toArray clock) :: hss.flatten ∧ clock ≤ c0 ∧
  All3 (fun (e : MapEntry) (p : κ × ν) (q : Hp) => VR kr ka w e.key p.1 ∧ VO vo va w e.val p.2 q) es l hss ∧ (l.map (·.1)).Nodup ∧ j0p es clock ∧ left.Perm (lft es l seen)
def MIx (kr : RT κ) (vo : OT ν) (ka va : Bool) (w : World) (g gi : Nat) (l : List (κ × ν)) (x : κ × ν) (hs : Hp) : Prop :=
 ∃ (es : List MapEntry) (clock : Nat) (hss : List Hp) (seen : Array Nat) (e : MapEntry) (j : Nat), hs = (gi, .mapIter (some g) clock (seen.push e.born) clock) :: (g, .map es.toArray clock) :: hss.flatten ∧
  All3 (fun (e : MapEntry) (p : κ × ν) (q : Hp) => VR kr ka w e.key p.1 ∧ VO vo va w e.val p.2 q) es l hss ∧ j0p es clock ∧ es[j]? = some e ∧ l[j]? = some x
theorem MIt.mono {w' : World} (hk : Keeps w w') (h : MIt kr vo ka va w g gi l left hs) : MIt kr vo ka va w' g gi l left hs := by
 obtain ⟨es, cl, hss, seen, c0, h1, h2, h3, h4⟩ := h
 exact ⟨es, cl, hss, seen, c0, h1, h2, h3.imp (fun _ _ _ h => ⟨h.1.mono hk, h.2.mono hk⟩), h4⟩
theorem MIx.mono {w' : World} {x : κ × ν} (hk : Keeps w w') (h : MIx kr vo ka va w g gi l x hs) : MIx kr vo ka va w' g gi l x hs := by
 obtain ⟨es, cl, hss, seen, e, j, h1, h3, h4⟩ := h
 exact ⟨es, cl, hss, seen, e, j, h1, h3.imp (fun _ _ _ h => ⟨h.1.mono hk, h.2.mono hk⟩), h4⟩
theorem MIt.le {b b' : Base} (h : MIt kr vo ka va b.w g gi l left hs) (hle : b.Le b') : MIt kr vo ka va b'.w g gi l left hs := h.mono hle.cells
theorem MIx.le {b b' : Base} {x : κ × ν} (h : MIx kr vo ka va b.w g gi l x hs) (hle : b.Le b') : MIx kr vo ka va b'.w g gi l x hs := h.mono hle.cells
theorem z8d {seen : Array Nat} {x y : Nat} (h : ¬ x = y) : (seen.push x).contains y = seen.contains y := by
 rw [Bool.eq_iff_iff]
 simp
 exact fun e => absurd e.symm h
theorem z8c {seen : Array Nat} {x : Nat} : (seen.push x).contains x = true := by simp
theorem z1v {α : Type} {seen : Array Nat} : ∀ (es : List MapEntry) (l : List α) (j : Nat) (e : MapEntry) (x : α), (es.map (·.born)).Nodup → es[j]? = some e → l[j]? = some x → seen.contains e.born = false →
  (lft es l seen).Perm (x :: lft es l (seen.push e.born))
 | [], _, j, _, _, _, he, _, _ => by simp at he
 | e0 :: es, [], j, _, _, _, _, hx, _ => by simp at hx
 | e0 :: es, x0 :: l, 0, e, x, hn, he, hx, hs => by
  have he : e0 = e := by simpa using he
  have hx : x0 = x := by simpa using hx
  subst he; subst hx
  have hn' := List.nodup_cons.1 hn
  have rest : ∀ (es : List MapEntry) (l : List α), e0.born ∉ es.map (·.born) → lft es l (seen.push e0.born) = lft es l seen := by
   intro es
   induction es with
   | nil => intro l _; rfl
   | cons a es ih =>
    intro l hna
    cases l with
    | nil => rfl
    | cons y l =>
     have h1 : ¬ e0.born = a.born := fun h => hna (by rw [List.map_cons, h]; exact List.mem_cons_self ..)
     have h2 := ih l (fun h => hna (by rw [List.map_cons]; exact List.mem_cons_of_mem _ h))
     unfold lft at h2 ⊢
     have h3 : (seen.push e0.born).contains a.born = seen.contains a.born := z8d h1
     rw [List.zip_cons_cons, List.filter_cons, List.filter_cons]
     simp only [h3]
     cases seen.contains a.born with
     | true => exact h2
     | false => exact congrArg (List.cons y) h2
  have h3 : (seen.push e0.born).contains e0.born = true := z8c
  unfold lft
  rw [List.zip_cons_cons, List.filter_cons, List.filter_cons]
  simp only [hs, h3]
  have := rest es l hn'.1
  unfold lft at this
  show ((((e0, x0) :: ((es.zip l).filter fun p => !seen.contains p.1.born)).map (·.2))).Perm (x0 :: (((es.zip l).filter fun p => !(seen.push e0.born).contains p.1.born).map (·.2)))
  rw [this]
  exact .refl _
 | e0 :: es, x0 :: l, j + 1, e, x, hn, he, hx, hs => by
  have hn' := List.nodup_cons.1 hn
  have he : es[j]? = some e := by simpa using he
  have ih := z1v es l j e x hn'.2 he (by simpa using hx) hs
  have hne : ¬ e.born = e0.born := fun h => hn'.1 (List.mem_map.2 ⟨e, List.mem_of_getElem? he, h⟩)
  have h3 : (seen.push e.born).contains e0.born = seen.contains e0.born := z8d hne
  unfold lft at ih ⊢
  rw [List.zip_cons_cons, List.filter_cons, List.filter_cons]
  simp only [h3]
  cases seen.contains e0.born with
  | true => simpa using ih
  | false => simpa using (ih.cons x0).trans (.swap _ _ _)
theorem z7F {α : Type} : ∀ (es : List MapEntry) (l : List α), es.length = l.length → lft es l #[] = l
 | [], [], _ => rfl
 | e :: es, x :: l, h => by
  have ih := z7F es l (by simpa using h)
  unfold lft at ih ⊢
  rw [List.zip_cons_cons, List.filter_cons]
  simp
  simpa using ih
section
variable {n : NT} {m : Nat} {dk0 : Nat × Obj → Prop} {rq : Option Nat} {b w0 : Base} {e e' : Env} {hp : Hp} {ty : TypeId} {ops : Array Oper} {rest : List Oper} {Q : Exit → Act → World → Prop} {pos : String} {af : Array Edge}
theorem q7P (F R : Hp) {mt kt et : TypeId} {x : Operand} (hhp : hp = F ++ (hs ++ R)) (h : OM kr vo ka va b.w g l hs) (hm : P.underlying mt = some (.map kt et)) (hx : val e x = some (.map (some g))) :
  Does P n b (.range mt x) ty e hp (fun v hp' => ∃ gi hs', v = .pointer (some ⟨gi, 0, none⟩) ∧ hp' = F ++ (hs' ++ R) ∧ MIt kr vo ka va b.w g gi l l hs') := q3V fun a w hf ho => by
 obtain ⟨es, cl, hss, h1, h2, h3, h4⟩ := h
 have hblk := q7V ho (g := g) (o := .map es.toArray cl) (by rw [hhp, h1]; simp)
 have hlen := h2.len.1
 refine ⟨.pointer (some ⟨w.heap.size, 0, none⟩), w.alloc (.mapIter (some g) cl #[] cl), F ++ (((w.heap.size, .mapIter (some g) cl #[] cl) :: hs) ++ R), fun d pos af gd => ?_, ?_, w.heap.size, _, rfl, rfl, es, cl, hss, #[], cl, by rw [h1], Nat.le_refl _, h2, h3, h4, by rw [z7F es l hlen]⟩
 ·simp [execOp, hf.eval hx, run_range_map w mt kt et g es.toArray cl hm hblk]
 ·have := ho.alloc (.mapIter (some g) cl #[] cl)
  rw [hhp] at this
  refine this.perm ?_
  rw [List.cons_append]
  exact List.perm_middle
theorem z1i {k : Nat} {it : Operand} (F R : Hp) (hd : Nat.blt k m = true) (hit : val e it = some (.pointer (some ⟨gi, 0, none⟩))) (hhp : hp = F ++ (hs ++ R)) (h : MIt kr vo ka va b.w g gi l left hs)
  (hdone : left = [] → SLo P (NT.mk m dk0 rq) b ops Q rest ((k, .tuple #[.bool false]) :: e) hp)
  (hmore : ∀ x left' key vv hs', left.Perm (x :: left') → MIx kr vo ka va b.w g gi l x hs' → MIt kr vo ka va b.w g gi l left' hs' → SLo P (NT.mk m dk0 rq) b ops Q rest ((k, .tuple #[.bool true, key, vv]) :: e) (F ++ (hs' ++ R))) :
  SLo P (NT.mk m dk0 rq) b ops Q (⟨some k, .next it false, ty, pos, af, none⟩ :: rest) e hp := fun a w hf ho =>
 q3s rfl fun K hK => by
  obtain ⟨es, cl, hss, seen, c0, h1, h2, h3, h4, h5, h6⟩ := h
  have hr := (ho.blk gi (.mapIter (some g) cl seen c0) (by rw [hhp, h1]; simp)).2
  have hb := q7V ho (g := g) (o := .map es.toArray cl) (by rw [hhp, h1]; simp)
  have hlen := h3.len.1
  have hleft : (leftOf es.toArray seen).toList = es.filter fun x => !seen.contains x.born := by simp [leftOf]
  have hwp : ∀ v w', (Instr.next (.pointer (some ⟨gi, 0, none⟩)) false ty).run P w = .ok v w' → K (a.put (some k) v) w' → Oper.wp P ⟨some k, .next it false, ty, pos, af, none⟩ a w K Q := fun v w' hrun hk => by
   have : (execOp a.eval ⟨some k, .next it false, ty, pos, af, none⟩).run P w = .ok (.value v) w' := by simp [execOp, hf.eval hit, hrun]
   simp only [Oper.wp, this, Oper.upon]
   exact hk
  rcases run_next_at (P := P) w ty gi g cl c0 seen es.toArray cl hr hb (by simpa using h5.1) h2 with ⟨g1, g2⟩ | ⟨en, g1, w1, g2, g3⟩
  ·have hnil : left = [] := by
    have e1 : es.filter (fun x => !seen.contains x.born) = [] := by
     rw [← hleft]
     exact List.eq_nil_of_length_eq_zero (by simpa using g1)
    have e2 : lft es l seen = [] := by
     unfold lft
     rw [List.map_eq_nil_iff, List.filter_eq_nil_iff]
     rintro ⟨en, y⟩ hm
     have := List.filter_eq_nil_iff.1 e1 en (List.of_mem_zip hm).1
     simpa using this
    rw [e2] at h6
    exact h6.eq_nil
   exact hwp _ _ g2 (hK _ _ (hdone hnil _ _ (hf.put hd _) ho))
  ·rw [hleft] at g1
   obtain ⟨hmem, hns⟩ := List.mem_filter.1 g1
   obtain ⟨j, hj⟩ := List.mem_iff_getElem?.1 hmem
   have hjl : j < es.length := (List.getElem?_eq_some_iff.1 hj).1
   have hx : l[j]? = some (l[j]'(by omega)) := List.getElem?_eq_getElem (by omega)
   have hns' : seen.contains en.born = false := by simpa using hns
   have hp2 := z1v es l j en _ h5.2 hj hx hns'
   have how1 : Own b hp w1 := by rcases g2 with rfl | rfl; exact ho; exact ho.drew
   have hi : hp[F.length]? = some (gi, .mapIter (some g) cl seen c0) := by rw [hhp, h1]; simp
   have ho2 := how1.turnMap (o' := .mapIter (some g) cl (seen.push en.born) cl) hi
   rw [hhp, h1] at ho2
   simp only [List.cons_append] at ho2
   rw [q7S] at ho2
   refine hwp _ _ g3 (hK _ _ (hmore _ (lft es l (seen.push en.born)) en.key en.val ((gi, .mapIter (some g) cl (seen.push en.born) cl) :: (g, .map es.toArray cl) :: hss.flatten) (h6.trans hp2) ⟨es, cl, hss, seen, en, j, rfl, h3, h5, hj, hx⟩ ⟨es, cl, hss, _, cl, rfl, Nat.le_refl _, h3, h4, h5, .refl _⟩ _ _ (hf.put hd _) ?_))
   exact ho2
theorem MIx.entry {vr : RT ν} {x : κ × ν} (P : Program) (h : MIx kr (OT.fr vr) ka va b.w g gi l x hs) : ∃ key vv, VR kr ka b.w key x.1 ∧ VR vr va b.w vv x.2 ∧
  ∀ {n : NT} {e : Env} {hp : Hp} {ty : TypeId} {it : Operand}, hs.Sublist hp → val e it = some (.pointer (some ⟨gi, 0, none⟩)) → Stable P n b (.entry it) ty e hp (.tuple #[key, vv]) := by
 obtain ⟨es, cl, hss, seen, en, j, h1, h3, h5, hj, hx⟩ := h
 obtain ⟨e1, q, e2, e3, e4⟩ := h3.get hx
 rw [hj] at e2
 obtain rfl := Option.some.inj e2
 refine ⟨en.key, en.val, e4.1, ?_, fun {n e hp ty it} hsub hit a w hf ho _ _ _ _ => ?_⟩
 ·cases va with
  | true => obtain ⟨cs, q1, q2⟩ := e4.2; exact ⟨cs, q1, q2.1⟩
  | false => exact e4.2.1
 ·have hr := (ho.blk gi (.mapIter (some g) cl (seen.push en.born) cl) (hsub.subset (by rw [h1]; simp))).2
  have hb := q7V ho (g := g) (o := .map es.toArray cl) (hsub.subset (by rw [h1]; simp))
  have := run_entry_at (P := P) w gi g cl seen es.toArray cl en hr hb (by simpa using List.mem_of_getElem? hj) (by simpa using h5.2)
  simp [execOp, hf.eval hit, this]
theorem z1z {σ τ : Type} {step : κ × ν → σ → Option (σ ⊕ τ)} (Inv : σ → Base → Env → Hp → Prop) {c : Code} {s0 : σ} {t : σ ⊕ τ} (hl : z3U (fun p => q4f step p s0) l = some t) {hs0 : Hp} (hM : MIt kr vo ka va w0.w g gi l l hs0) {hp' : Hp} (he : Sub e' e) (F R : Hp) (hhp : hp = F ++ (hs0 ++ R)) (hh : hp'.Sublist (F ++ R)) (h0 : Inv s0 w0 e' hp')
  (round : ∀ s left b e hp hsM, Inv s b e hp → w0.Le b → MIt kr vo ka va b.w g gi l left hsM → (left = [] → t = .inl s) → (∀ x left', left.Perm (x :: left') → ∃ o, step x s = some o ∧ ∀ t', o = .inr t' → t = .inr t') →
   SLc P n b (Exit.then (fun a w => ∃ x left' s' b' e' hp' hsM', left.Perm (x :: left') ∧ step x s = some (.inl s') ∧ Inv s' b' e' hp' ∧ w0.Le b' ∧ MIt kr vo ka va b'.w g gi l left' hsM' ∧ Fit n b' e' a ∧ Own b' (hsM' ++ hp') w) Q) c e (hsM ++ hp)) : SLc P n w0 Q (.loop c) e hp := by
 intro a w hf ho fr k cs hro hb hroom
 have hl' := z7o hl
 have key : ∀ (N : Nat) (s : σ) (left d : List (κ × ν)) (b : Base) (e : Env) (hp hsM : Hp) a w, left.length = N → (d ++ left).Perm l → q4f step d s0 = some (.inl s) → Inv s b e hp → w0.Le b → MIt kr vo ka va b.w g gi l left hsM → Fit n b e a → Own b (hsM ++ hp) w →
   ∃ ex a' w', Q ex a' w' ∧ ArrivesIn (Machine.fenced P (q5P n.rd)) P (lone (fr.atR a (.code c :: .inLoop c :: k)) cs w) fr k cs ex a' w' := by
  intro N
  induction N using Nat.strongRecOn with
  | _ N ih =>
   intro s left d b e hp hsM a w hN hperm hd hi hle hM hfx hox
   have hround := round s left b e hp hsM hi hle hM (fun hnil => by
    subst hnil
    have h1 := hl' d (by simpa using hperm)
    rw [hd] at h1
    exact (Option.some.inj h1).symm) (fun x left' hx => by
    have h1 := hl' (d ++ x :: left') ((hx.symm.append_left d).trans hperm)
    rw [q6L d _ hd] at h1
    obtain ⟨o, ho1, ho2, _⟩ := z7Q rfl h1
    exact ⟨o, ho1, ho2⟩) a w hfx hox
   obtain ⟨ex, a1, w1, hq, harr⟩ := hround fr (.inLoop c :: k) cs hro hb hroom
   cases ex with
   | normal =>
    obtain ⟨x, left', s', b', e', hp', hsM', q1, q2, q3, q4, q5, q6, q7⟩ := hq
    have hlen := q1.length_eq
    obtain ⟨ex2, a2, w2, hq2, harr2⟩ := ih left'.length (by rw [← hN, hlen]; simp) s' left' (d ++ [x]) b' e' hp' hsM' a1 w1 rfl (by
     rw [List.append_assoc]
     exact (q1.symm.append_left d).trans hperm) (by
     rw [q6L d _ hd]
     unfold q4f
     rw [q2]
     rfl) q3 q4 q5 q6 q7
    exact ⟨ex2, a2, w2, hq2, .of_steps (StepsIn.trans harr (.one (fenced_calm hb hroom rfl) stepR_inLoop)) harr2⟩
   | exit id => exact ⟨_, a1, w1, hq, .pass (x := .inLoop c) rfl (fun _ _ => .inl (by simp)) harr⟩
   | goto l => exact ⟨_, a1, w1, hq, .pass (x := .inLoop c) rfl (fun _ _ => .inl (by simp)) harr⟩
   | ret => exact ⟨_, a1, w1, hq, .pass (x := .inLoop c) rfl (fun _ _ => .inl (by simp)) harr⟩
   | panic ch => exact ⟨_, a1, w1, hq, .pass (x := .inLoop c) rfl (fun _ _ => .inl (by simp)) harr⟩
   | outgrown => exact ⟨_, a1, w1, hq, .pass (x := .inLoop c) rfl (fun _ _ => .inl (by simp)) harr⟩
 have ho2 : Own w0 (hs0 ++ hp') w := by
  rw [hhp] at ho
  refine (ho.perm (Z8 F hs0 R)).sub ((List.Sublist.refl _).append hh)
 obtain ⟨ex, a', w', h1, h2⟩ := key _ s0 l [] w0 e' hp' hs0 a w rfl (by simp) rfl h0 (Base.Le.refl _) hM (hf.sub he) ho2
 exact ⟨ex, a', w', h1, .of_steps (.one (fenced_calm hb hroom rfl) stepR_loop) h2⟩
theorem q9o {σ τ : Type} {step : κ × ν → σ → Option (σ ⊕ τ)} {Inv : σ → Base → Env → Hp → Prop} {s s' : σ} {x : κ × ν} {left' : List (κ × ν)} {hsM : Hp} (F R : Hp) (hhp : hp = F ++ (hsM ++ R)) (hx : left.Perm (x :: left')) (hst : step x s = some (.inl s')) (hle : w0.Le b) (hM : MIt kr vo ka va b.w g gi l left' hsM)
  (he : Sub e' e) {hp' : Hp} (hh : hp'.Sublist (F ++ R)) (hi : Inv s' b e' hp') :
  SLx n b (Exit.then (fun a w => ∃ x left' s' b' e' hp' hsM', left.Perm (x :: left') ∧ step x s = some (.inl s') ∧ Inv s' b' e' hp' ∧ w0.Le b' ∧ MIt kr vo ka va b'.w g gi l left' hsM' ∧ Fit n b' e' a ∧ Own b' (hsM' ++ hp') w) Q) .normal e hp := fun a w hf ho => by
 subst hhp
 exact ⟨x, left', s', b, e', hp', hsM, hx, hst, hi, hle, hM, hf.sub he, (ho.perm (Z8 F hsM R)).sub ((List.Sublist.refl _).append hh)⟩
theorem z6C (F q R : Hp) {c : Code} (h : SLc P n b Q c e (F ++ (q ++ R))) (hhp : hp = q ++ (F ++ R)) : SLc P n b Q c e hp := fun a w hf ho => h a w hf (by
 rw [hhp] at ho
 exact ho.perm (Z8 F q R).symm)
end
end
end Go.Fp
namespace Go.Fp
open Go.RowKit
section
variable {P : Program} {n : NT} {b : Base} {e : Env} {hp : Hp} {ty : TypeId}
def j4F (P : Program) (t : TypeId) : Bool := match P.underlying t with
 | some (.pointer _) => true
 | _ => false
theorem z7e {t : TypeId} (h : j4F P t = true) : P.underlying t = some (.pointer (P.pointee t)) := by
 unfold j4F at h
 unfold Program.pointee
 split at h
 ·rename_i h1
  rw [h1]
 ·cases h
theorem z6X {x y : Operand} {t u : TypeId} {p : Option Addr} {r : Bool} (hx : val e x = some (.pointer p)) (hy : val e y = some (.pointer none)) (hr : p.isNone = r) (h : j4F P t = true) : Stable P n b (.binOp .eql t x y u) ty e hp (.bool r) := fun a w hf _ _ _ _ _ => by
 have h1 := run_eql_pointer_nil (P := P) w t p (z7e h)
 subst hr
 simp only [execOp, hf.eval hx, hf.eval hy, eqGuard, Sem.run_bind]
 simp [h1]
end
end Go.Fp
