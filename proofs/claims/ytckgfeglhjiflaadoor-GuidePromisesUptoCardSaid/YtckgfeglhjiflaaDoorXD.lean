/- Extraction, part D: the builtin copy onto slices of the call's own (elements of one cell). -/
import Derived.Test.YtckgfeglhjiflaaDoorX9
import Derived.Laws.IdiomCopy
import Derived.Laws.CopyRow
import Derived.KernelRfl
set_option linter.unusedVariables false
set_option linter.unusedSimpArgs false
namespace Go.Fp
open Go.RowKit
section
variable {α : Type} {P : Program} {n : NT} {m : Nat} {dk0 : Nat × Obj → Prop} {rq : Option Nat} {b : Base} {e : Env} {hp : Hp} {ty : TypeId} {l : List α} {A : Option Addr} {c : Nat} {hs : Hp}
/-- 'm' copied onto the places from 'j' to 'k' (not included) of 'l'. -/
def cpy {α : Type} (l : List α) (j k : Nat) (m : List α) : List α := l.take j ++ m.take (k - j) ++ l.drop (j + min m.length (k - j))
def cpyI {α : Type} (l : List α) (i1 i2 : Int) (m : List α) : List α := cpy l i1.toNat i2.toNat m
def cpyN {α : Type} (i1 i2 : Int) (m : List α) : Int := ((min m.length (i2.toNat - i1.toNat) : Nat) : Int)
end
/- Regions that draw: the part that stays is carried along. -/
section
variable {P : Program} {n : NT} {m : Nat} {dk0 : Nat × Obj → Prop} {rq : Option Nat} {w0 b : Base} {ops : Array Oper} {Q : Exit → Act → World → Prop} {e : Env} {hp S : Hp} {op : Op} {ty : TypeId} {pos : String} {af : Array Edge} {fuel : Nat} {listed : Array Bool}
def SLB (P : Program) (n : NT) (w0 b : Base) (ops : Array Oper) (S : Hp) (Q : Exit → Act → World → Prop) (fuel : Nat) (listed : Array Bool) (e : Env) (hp : Hp) : Prop := w0.Le b → (noLate .any ops listed = true → S.Sublist hp) → SLA P n w0 b ops S Q fuel listed e hp
theorem E_in (hle : w0.Le b) (hsub : S.Sublist hp) (h : SLB P n w0 b ops S Q fuel listed e hp) : SLA P n w0 b ops S Q fuel listed e hp := h hle (fun _ => hsub)
theorem E_il (hle : w0.Le b) (h : SLB P n w0 b ops S Q fuel listed e hp) (hn : noLate .any ops listed = false := by kernel_rfl) : SLA P n w0 b ops S Q fuel listed e hp := h hle (fun h1 => by rw [hn] at h1; cases h1)
theorem E_out (h : SLA P n w0 b ops S Q fuel listed e hp) : SLB P n w0 b ops S Q fuel listed e hp := fun _ _ => h
theorem beq_ne {x y : Nat} (h : Nat.beq x y = false) : x ≠ y := fun e => by rw [e, Nat.beq_refl] at h; cases h
theorem E_st (i : Nat) {v : Value} {k : Nat} (hi : ops[i]? = some ⟨some k, op, ty, pos, af, none⟩) (hst : Stable P (NT.mk m dk0 rq) w0 op ty e S v) (h : SLB P (NT.mk m dk0 rq) w0 b ops S Q fuel (listed.setIfInBounds i true) ((k, v) :: e) hp)
    (hs : Region.noSelect ops = true := by kernel_rfl) (hfr : Region.free .any ops listed i = true := by kernel_rfl) (hr : (Region.ready .any ops listed).contains i = true := by kernel_rfl) (hd : Nat.blt k m = true := by rfl) (hk : Nat.beq (opK op) 2 = false := by rfl) (hk1 : Nat.beq (opK op) 1 = true := by rfl) (hcl : closedB .any ops listed = true := by kernel_rfl) : SLB P (NT.mk m dk0 rq) w0 b ops S Q (fuel + 1) listed e hp :=
  fun hle hsub a w hf ho => anyS_first (T := Own w0 S) hi (Region.noSelect_spec hs) (fun _ _ _ h => h) (lateB_ne hi (beq_ne hk)) (fun w hw => hw.1 (Nat.eq_of_beq_eq_true hk1)) fuel listed a w (Region.free_spec hi hfr) (by simpa using hr)
    (.inl ⟨by simp [Region.wanted], fun w' hw' => hst a w' hf.toFitV hw' _ _ _ _⟩) (fun _ => hcl) (fun hn => (hle.back _ _ ho).sub (hsub hn)) ((hle.back _ _ ho).sub (List.nil_sublist _)) (h hle (fun hn => hsub (noLate_mono hn)) _ _ (hf.put hd v) ho)
theorem E_s0 (i : Nat) {v : Value} {k : Nat} (hi : ops[i]? = some ⟨some k, op, ty, pos, af, none⟩) (hst : Stable P (NT.mk m dk0 rq) w0 op ty e [] v) (h : SLB P (NT.mk m dk0 rq) w0 b ops S Q fuel (listed.setIfInBounds i true) ((k, v) :: e) hp)
    (hs : Region.noSelect ops = true := by kernel_rfl) (hfr : Region.free .any ops listed i = true := by kernel_rfl) (hr : (Region.ready .any ops listed).contains i = true := by kernel_rfl) (hd : Nat.blt k m = true := by rfl) (hk : Nat.beq (opK op) 2 = false := by rfl) (hk0 : Nat.beq (opK op) 1 = false := by rfl) : SLB P (NT.mk m dk0 rq) w0 b ops S Q (fuel + 1) listed e hp :=
  fun hle hsub a w hf ho => anyS_first (T := Own w0 []) hi (Region.noSelect_spec hs) (fun _ _ _ h => h) (lateB_ne hi (beq_ne hk)) (fun w hw => hw.2) fuel listed a w (Region.free_spec hi hfr) (by simpa using hr)
    (.inl ⟨by simp [Region.wanted], fun w' hw' => hst a w' hf.toFitV hw' _ _ _ _⟩) (fun hm => absurd hm (beq_ne hk0)) (fun hn => (hle.back _ _ ho).sub (hsub hn)) ((hle.back _ _ ho).sub (List.nil_sublist _)) (h hle (fun hn => hsub (noLate_mono hn)) _ _ (hf.put hd v) ho)
theorem E_yes (i : Nat) {v : Value} {k j : Nat} (dj : Nat) {t : Bool} (hi : ops[i]? = some ⟨some k, op, ty, pos, af, some (j, t)⟩) (hst : Stable P (NT.mk m dk0 rq) w0 op ty e S v) (h : SLB P (NT.mk m dk0 rq) w0 b ops S Q fuel (listed.setIfInBounds i true) ((k, v) :: e) hp)
    (hs : Region.noSelect ops = true := by kernel_rfl) (hfr : Region.free .any ops listed i = true := by kernel_rfl) (hr : (Region.ready .any ops listed).contains i = true := by kernel_rfl) (hd : Nat.blt k m = true := by rfl) (hk : Nat.beq (opK op) 2 = false := by rfl) (hk1 : Nat.beq (opK op) 1 = true := by rfl) (hcl : closedB .any ops listed = true := by kernel_rfl) (hj : (ops[j]?).bind (·.dst) = some dj := by rfl) (hl : look e dj = some (.bool t) := by rfl) (hdj : Nat.blt dj m = true := by rfl) : SLB P (NT.mk m dk0 rq) w0 b ops S Q (fuel + 1) listed e hp :=
  fun hle hsub a w hf ho => anyS_first (T := Own w0 S) hi (Region.noSelect_spec hs) (fun _ _ _ h => h) (lateB_ne hi (beq_ne hk)) (fun w hw => hw.1 (Nat.eq_of_beq_eq_true hk1)) fuel listed a w (Region.free_spec hi hfr) (by simpa using hr)
    (.inl ⟨by rw [wanted_of hf hj hl _ rfl hdj]; simp, fun w' hw' => hst a w' hf.toFitV hw' _ _ _ _⟩) (fun _ => hcl) (fun hn => (hle.back _ _ ho).sub (hsub hn)) ((hle.back _ _ ho).sub (List.nil_sublist _)) (h hle (fun hn => hsub (noLate_mono hn)) _ _ (hf.put hd v) ho)
theorem E_y0 (i : Nat) {v : Value} {k j : Nat} (dj : Nat) {t : Bool} (hi : ops[i]? = some ⟨some k, op, ty, pos, af, some (j, t)⟩) (hst : Stable P (NT.mk m dk0 rq) w0 op ty e [] v) (h : SLB P (NT.mk m dk0 rq) w0 b ops S Q fuel (listed.setIfInBounds i true) ((k, v) :: e) hp)
    (hs : Region.noSelect ops = true := by kernel_rfl) (hfr : Region.free .any ops listed i = true := by kernel_rfl) (hr : (Region.ready .any ops listed).contains i = true := by kernel_rfl) (hd : Nat.blt k m = true := by rfl) (hk : Nat.beq (opK op) 2 = false := by rfl) (hk0 : Nat.beq (opK op) 1 = false := by rfl) (hj : (ops[j]?).bind (·.dst) = some dj := by rfl) (hl : look e dj = some (.bool t) := by rfl) (hdj : Nat.blt dj m = true := by rfl) : SLB P (NT.mk m dk0 rq) w0 b ops S Q (fuel + 1) listed e hp :=
  fun hle hsub a w hf ho => anyS_first (T := Own w0 []) hi (Region.noSelect_spec hs) (fun _ _ _ h => h) (lateB_ne hi (beq_ne hk)) (fun w hw => hw.2) fuel listed a w (Region.free_spec hi hfr) (by simpa using hr)
    (.inl ⟨by rw [wanted_of hf hj hl _ rfl hdj]; simp, fun w' hw' => hst a w' hf.toFitV hw' _ _ _ _⟩) (fun hm => absurd hm (beq_ne hk0)) (fun hn => (hle.back _ _ ho).sub (hsub hn)) ((hle.back _ _ ho).sub (List.nil_sublist _)) (h hle (fun hn => hsub (noLate_mono hn)) _ _ (hf.put hd v) ho)
theorem E_no (i : Nat) {k j : Nat} (dj : Nat) {t : Bool} {v : Value} (hi : ops[i]? = some ⟨some k, op, ty, pos, af, some (j, t)⟩) (hl : look e dj = some v) (hb : isB v t = false) (h : SLB P (NT.mk m dk0 rq) w0 b ops S Q fuel (listed.setIfInBounds i true) ((k, undef) :: e) hp)
    (hs : Region.noSelect ops = true := by kernel_rfl) (hfr : Region.free .any ops listed i = true := by kernel_rfl) (hr : (Region.ready .any ops listed).contains i = true := by kernel_rfl) (hd : Nat.blt k m = true := by rfl)
    (hj : (ops[j]?).bind (·.dst) = some dj := by rfl) (hdj : Nat.blt dj m = true := by rfl) (hcl : closedB .any ops listed = true := by kernel_rfl) : SLB P (NT.mk m dk0 rq) w0 b ops S Q (fuel + 1) listed e hp :=
  fun hle hsub a w hf ho => anyS_first (T := Own w0 []) hi (Region.noSelect_spec hs) (fun _ _ _ h => h) (lateB_guard hi rfl) (fun w hw => hw.2) fuel listed a w (Region.free_spec hi hfr) (by simpa using hr)
    (.inr ⟨by rw [wanted_gen hf hj hl _ rfl hdj]; exact hb, rfl⟩) (fun _ => hcl) (fun hn => (hle.back _ _ ho).sub (hsub hn)) ((hle.back _ _ ho).sub (List.nil_sublist _)) (h hle (fun hn => hsub (noLate_mono hn)) _ _ (hf.put hd undef) ho)
end
end Go.Fp
