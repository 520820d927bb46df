/- The framework, part 2: what one operation does. 'Stable': it yields a value and leaves the world as it is, wherever the own blocks are as said. 'Does': it may make or write own blocks. Then the rules for lists of operations in the order of the text, for regions that draw their order, for calls and returns. -/
import Derived.Test.YtckgfeglhjiflaaDoorK1
import Derived.RangeFuncLeaves
namespace Go.Fp
open Go.RowKit

def Stable (P : Program) (n : NT) (w0 : Base) (op : Op) (ty : TypeId) (e : Env) (hp : Hp) (v : Value) : Prop :=
  ∀ a w, FitV n e a → Own w0 hp w → ∀ d pos af g, (execOp a.eval ⟨d, op, ty, pos, af, g⟩).run P w = .ok (.value v) w

/-- 'd' is the slot that is written; 'none' where the operation has no result. -/
def putE (d : Option Tmp) (v : Value) (e : Env) : Env := match d with
  | some k => (k, v) :: e
  | none => e
def okD (d : Option Tmp) (n : Nat) : Bool := match d with
  | some k => Nat.blt k n
  | none => true

structure Does (P : Program) (n : NT) (w0 : Base) (op : Op) (ty : TypeId) (e : Env) (hp : Hp) (Ψ : Value → Hp → Prop) : Prop where
  out : ∀ a w, Fit n w0 e a → Own w0 hp w → ∀ d pos af g (K : Act → World → Prop) (Q : Exit → Act → World → Prop),
    (∀ v hp' w', Ψ v hp' → Own w0 hp' w' → K (a.put d v) w') → Oper.wp P ⟨d, op, ty, pos, af, g⟩ a w K Q

section
variable {P : Program} {n : NT} {m : Nat} {dk0 : Nat × Obj → Prop} {rq : Option Nat} {w0 : Base} {ops : Array Oper} {Q : Exit → Act → World → Prop} {e : Env} {hp : Hp} {op : Op} {ty : TypeId} {d : Option Tmp} {pos : String} {af : Array Edge} {rest : List Oper}

theorem Fit.putE {a : Act} (h : Fit (NT.mk m dk0 rq) w0 e a) (hd : okD d m = true) (v : Value) : Fit (NT.mk m dk0 rq) w0 (putE d v e) (a.put d v) := by
  cases d with
  | none => exact h
  | some k => exact h.put hd v

theorem Stable.does {v : Value} (h : Stable P n w0 op ty e hp v) : Does P n w0 op ty e hp (fun v' hp' => v' = v ∧ hp' = hp) := by
  refine ⟨fun a w hf ho d pos af g K Q hK => ?_⟩
  simp only [Oper.wp, h a w hf.toFitV ho, Oper.upon]
  exact hK v hp w ⟨rfl, rfl⟩ ho

/- in the order of the text -/
theorem t_nil (h : SLx n w0 Q .normal e hp) : SLo P n w0 ops Q [] e hp := fun a w hf ho => h a w hf ho

theorem t_do {Ψ : Value → Hp → Prop} (hd : okD d m = true) (hdo : Does P (NT.mk m dk0 rq) w0 op ty e hp Ψ) (h : ∀ v hp', Ψ v hp' → SLo P (NT.mk m dk0 rq) w0 ops Q rest (putE d v e) hp') :
    SLo P (NT.mk m dk0 rq) w0 ops Q (⟨d, op, ty, pos, af, none⟩ :: rest) e hp := fun a w hf ho =>
  wpListC_plain rfl fun K hK => hdo.out a w hf ho d pos af none K Q fun v hp' _ hΨ ho' => hK _ _ (h v hp' hΨ _ _ (hf.putE hd v) ho')

theorem t_st {v : Value} {k : Nat} (hd : Nat.blt k m = true) (hst : Stable P (NT.mk m dk0 rq) w0 op ty e hp v) (h : SLo P (NT.mk m dk0 rq) w0 ops Q rest ((k, v) :: e) hp) :
    SLo P (NT.mk m dk0 rq) w0 ops Q (⟨some k, op, ty, pos, af, none⟩ :: rest) e hp :=
  t_do (d := some k) hd hst.does (fun v' hp' ⟨h1, h2⟩ => by subst h1; subst h2; exact h)

theorem wanted_of {a : Act} {j dj : Nat} {b b' : Bool} (hf : Fit (NT.mk m dk0 rq) w0 e a) (hj : (ops[j]?).bind (·.dst) = some dj) (hl : look e dj = some (.bool b')) (o : Oper) (ho : o.guard = some (j, b)) (hdj : Nat.blt dj m = true) :
    Region.wanted o (yielded ops a.tmps) = (b' == b) := by
  have hg := hf.get dj _ hl
  have hlt : dj < a.tmps.size := by rw [show a.tmps.size = m from hf.size]; simp [Nat.blt] at hdj; omega
  have hg' : a.tmps[dj]? = some (.bool b') := by
    rw [Array.getElem?_eq_getElem hlt]
    simp [hlt] at hg
    rw [hg]
  have hy : yielded ops a.tmps j = some b' := by simp [yielded, hj, hg']
  simp [Region.wanted, ho, hy]

def isB (v : Value) (b : Bool) : Bool := match v with
  | .bool b' => b' == b
  | _ => false
theorem wanted_gen {a : Act} {j dj : Nat} {b : Bool} {v : Value} (hf : Fit (NT.mk m dk0 rq) w0 e a) (hj : (ops[j]?).bind (·.dst) = some dj) (hl : look e dj = some v) (o : Oper) (ho : o.guard = some (j, b)) (hdj : Nat.blt dj m = true) :
    Region.wanted o (yielded ops a.tmps) = isB v b := by
  have hg := hf.get dj _ hl
  have hlt : dj < a.tmps.size := by rw [show a.tmps.size = m from hf.size]; simp [Nat.blt] at hdj; omega
  have hg' : a.tmps[dj]? = some v := by
    rw [Array.getElem?_eq_getElem hlt]
    simp [hlt] at hg
    rw [hg]
  clear hg hl
  simp only [Region.wanted, ho, yielded, hj, Option.bind_some, hg']
  cases v <;> simp [isB]

/-- The guard says yes: as if there were none. -/
theorem t_yes {j : Nat} (dj : Nat) {b : Bool} (hj : (ops[j]?).bind (·.dst) = some dj) (hl : look e dj = some (.bool b)) (hdj : Nat.blt dj m = true)
    (h : SLo P (NT.mk m dk0 rq) w0 ops Q (⟨d, op, ty, pos, af, none⟩ :: rest) e hp) : SLo P (NT.mk m dk0 rq) w0 ops Q (⟨d, op, ty, pos, af, some (j, b)⟩ :: rest) e hp := fun a w hf ho => by
  have hw := wanted_of (ops := ops) hf hj hl ⟨d, op, ty, pos, af, some (j, b)⟩ rfl hdj
  have hh := h a w hf ho
  unfold wpListC at hh ⊢
  rw [if_pos (by simpa using hw)]
  rw [if_pos (by simp [Region.wanted])] at hh
  exact hh

/-- The guard says no: the operation is passed over. -/
theorem t_no {j : Nat} (dj : Nat) {b : Bool} {v : Value} (hj : (ops[j]?).bind (·.dst) = some dj) (hl : look e dj = some v) (hdj : Nat.blt dj m = true) (hb : isB v b = false) (hd : okD d m = true)
    (h : SLo P (NT.mk m dk0 rq) w0 ops Q rest (putE d undef e) hp) : SLo P (NT.mk m dk0 rq) w0 ops Q (⟨d, op, ty, pos, af, some (j, b)⟩ :: rest) e hp := fun a w hf ho => by
  have hw := wanted_gen (ops := ops) hf hj hl ⟨d, op, ty, pos, af, some (j, b)⟩ rfl hdj
  unfold wpListC
  rw [if_neg (by rw [hw, hb]; simp)]
  exact h _ _ (hf.putE hd undef) ho

/-- Q, but 'False' at a panic and where memory runs out. -/
def Calm (Q : Exit → Act → World → Prop) : Exit → Act → World → Prop
  | .panic _, _, _ => False
  | .outgrown, _, _ => False
  | e, a, w => Q e a w
theorem Calm.imp {Q : Exit → Act → World → Prop} : ∀ (e : Exit) (a : Act) (w : World), Calm Q e a w → Q e a w := fun e a w h => by
  cases e <;> first | exact h | exact (h : False).elim
theorem wpOp_R {r : Option Nat} {l : List Oper} (hl : okR r l = true) {i : Nat} {K K' : Act → World → Prop} {a : Act} {w : World} (hK : ∀ a w, K a w → K' a w) (h : wpOp P l.toArray (Calm Q) i K a w) : wpOpIn (fenceR r) 0 P l.toArray (Calm Q) i K' a w := by
  unfold wpOp at h
  unfold wpOpIn
  split at h
  · rename_i ho
    simp only [ho]
    exact hK _ _ h
  · rename_i o ho
    simp only [ho]
    split at h
    · rename_i hw
      rw [if_pos hw]
      rcases h with h | ⟨_, _, _, h⟩
      · exact oper_R hl (List.mem_of_getElem? (by simpa using ho)) hK (oper_in h)
      · exact h.elim
    · rename_i hw
      rw [if_neg hw]
      exact ⟨fun f _ => fenceR_fn r f, hK _ _ h⟩
theorem wpAny_R {r : Option Nat} {l : List Oper} (hl : okR r l = true) {md : Region.Mode} : ∀ (fuel : Nat) (listed : Array Bool) (a : Act) (w : World), wpAny P md l.toArray (Calm Q) fuel listed a w → wpAnyIn (fenceR r) 0 P md l.toArray (Calm Q) fuel listed a w
  | 0, _, _, _, h => h
  | fuel + 1, _, _, _, h => ⟨h.1, fun i hi => wpOp_R hl (fun a w h => wpAny_R hl fuel _ a w h) (h.2 i hi)⟩

/- a region that draws its order -/
/-- 0: looks at no memory and writes none that stands; 1: looks at memory, writes none; 2: the others. -/
def opK : Op → Nat
  | .move _ => 0
  | .assign _ => 0
  | .pick _ _ _ => 0
  | .alloc _ => 0
  | .box _ _ => 0
  | .build _ _ => 0
  | .buildSlice _ _ _ => 0
  | .nilCheck _ => 0
  | .binOp _ _ _ _ _ => 0
  | .unOp _ _ _ => 0
  | .convert _ _ _ => 0
  | .makeInterface _ _ => 0
  | .makeFunc _ _ _ => 0
  | .makeMap _ _ => 0
  | .makeSlice _ _ _ => 0
  | .slice _ _ _ _ _ => 0
  | .fieldAddr _ _ _ => 0
  | .field _ _ _ => 0
  | .indexAddr _ _ _ => 0
  | .index _ _ _ => 0
  | .extract _ _ => 0
  | .load _ _ => 1
  | .lookup _ _ _ _ => 1
  | .call c => match c.callee with
    | .builtin .len => 0
    | .builtin .cap => 0
    | .builtin .min => 0
    | .builtin .max => 0
    | _ => 2
  | _ => 2
/-- Operation 'i' may write memory, and waits for every other one that looks at it. -/
def lateB (md : Region.Mode) (ops : Array Oper) (i : Nat) : Bool :=
  ((ops[i]?).map fun o => Nat.beq (opK o.op) 2 && o.guard.isNone && (List.range ops.size).all fun k => Nat.beq k i || !((ops[k]?).map fun o => Nat.beq (opK o.op) 1).getD false || o.after.any fun e => Region.binds md e && Nat.beq e.on k).getD false
/-- No such operation has been carried out. -/
def noLate (md : Region.Mode) (ops : Array Oper) (listed : Array Bool) : Bool :=
  (List.range ops.size).all fun i => !(listed.getD i false) || !(lateB md ops i)
def closedB (md : Region.Mode) (ops : Array Oper) (listed : Array Bool) : Bool :=
  (List.range ops.size).all fun i => !(listed.getD i false) || ((ops[i]?).map fun o => o.after.all fun e => !(Region.binds md e) || listed.getD e.on false).getD true

theorem lateB_spec {md : Region.Mode} {i k : Nat} {oi ok : Oper} (hi : ops[i]? = some oi) (h : lateB md ops i = true) (hk : ops[k]? = some ok) (hm : opK ok.op = 1) (hki : k ≠ i) : ∃ e ∈ oi.after, Region.binds md e = true ∧ e.on = k := by
  unfold lateB at h
  rw [hi] at h
  simp only [Option.map_some, Option.getD_some, Bool.and_eq_true] at h
  have h1 := List.all_eq_true.1 h.2 k (List.mem_range.2 (Array.getElem?_eq_some_iff.1 hk).1)
  have hb : Nat.beq k i = false := by
    cases hb : Nat.beq k i with
    | false => rfl
    | true => exact absurd (Nat.eq_of_beq_eq_true hb) hki
  have hb1 : Nat.beq (opK ok.op) 1 = true := by rw [hm]; rfl
  simp only [hb, Bool.false_or, hk, hb1, Option.map_some, Option.getD_some, Bool.not_true] at h1
  obtain ⟨e, he, hb⟩ := Array.any_eq_true'.1 h1
  simp only [Bool.and_eq_true] at hb
  exact ⟨e, he, hb.1, Nat.eq_of_beq_eq_true hb.2⟩
theorem lateB_eff {md : Region.Mode} {i : Nat} {oi : Oper} (hi : ops[i]? = some oi) (h : lateB md ops i = true) : opK oi.op = 2 := by
  unfold lateB at h
  rw [hi] at h
  simp only [Option.map_some, Option.getD_some, Bool.and_eq_true] at h
  exact Nat.eq_of_beq_eq_true h.1.1
theorem lateB_ne {md : Region.Mode} {i : Nat} {oi : Oper} (hi : ops[i]? = some oi) (h : opK oi.op ≠ 2) : lateB md ops i = false := by
  cases hl : lateB md ops i with
  | false => rfl
  | true => exact absurd (lateB_eff hi hl) h
theorem lateB_guard {md : Region.Mode} {i : Nat} {oi : Oper} {g : Nat × Bool} (hi : ops[i]? = some oi) (h : oi.guard = some g) : lateB md ops i = false := by
  unfold lateB
  rw [hi]
  simp [h]
theorem getD_tf {listed : Array Bool} {i : Nat} (h : listed.getD i true = false) : listed.getD i false = false := by
  rcases Nat.lt_or_ge i listed.size with h' | h'
  · simpa [h'] using h
  · simp [h'] at h
theorem noLate_mono {md : Region.Mode} {i : Nat} {listed : Array Bool} (h : noLate md ops (listed.setIfInBounds i true) = true) : noLate md ops listed = true := by
  refine List.all_eq_true.2 fun k hk => ?_
  have h1 := List.all_eq_true.1 h k hk
  simp only [Bool.or_eq_true, Bool.not_eq_true'] at h1 ⊢
  rcases h1 with h1 | h1
  · left
    cases h2 : listed.getD k false with
    | false => rfl
    | true => rw [getD_set_true h2] at h1; cases h1
  · exact .inr h1
theorem noLate_set {md : Region.Mode} {i : Nat} {listed : Array Bool} (hl : lateB md ops i = false) (h : noLate md ops listed = true) : noLate md ops (listed.setIfInBounds i true) = true := by
  refine List.all_eq_true.2 fun k hk' => ?_
  have h1 := List.all_eq_true.1 h k hk'
  simp only [Bool.or_eq_true, Bool.not_eq_true'] at h1 ⊢
  by_cases hik : i = k
  · subst hik
    exact .inr hl
  · rw [getD_set_ne false hik]
    exact h1
theorem closedB_set {md : Region.Mode} {j : Nat} {listed : Array Bool} (h : closedB md ops listed = true) (hj : j ∈ Region.ready md ops listed) : closedB md ops (listed.setIfInBounds j true) = true := by
  refine List.all_eq_true.2 fun k hk => ?_
  have h1 := List.all_eq_true.1 h k hk
  obtain ⟨_, oj, hoj, hall⟩ := mem_ready.1 hj
  simp only [Bool.or_eq_true, Bool.not_eq_true'] at h1 ⊢
  have up : ∀ (o : Oper), (∀ e ∈ o.after, Region.binds md e = true → listed.getD e.on false = true) → (o.after.all fun e => !(Region.binds md e) || (listed.setIfInBounds j true).getD e.on false) = true := fun o ho => by
    rw [Array.all_eq_true_iff_forall_mem]
    intro e he
    cases hb : Region.binds md e with
    | false => rfl
    | true => simp only [Bool.not_true, Bool.false_or]; exact getD_set_true (ho e he hb)
  by_cases hjk : j = k
  · subst hjk
    right
    rw [hoj]
    exact up oj hall
  · rw [getD_set_ne false hjk]
    rcases h1 with h1 | h1
    · exact .inl h1
    · right
      cases ho : ops[k]? with
      | none => rfl
      | some o =>
        rw [ho] at h1
        simp only [Option.map_some, Option.getD_some] at h1 ⊢
        refine up o fun e he hb => ?_
        have := Array.all_eq_true_iff_forall_mem.1 h1 e he
        rw [hb] at this
        simpa using this
theorem noLate_of {md : Region.Mode} {i : Nat} {oi : Oper} {listed : Array Bool} (hi : ops[i]? = some oi) (hm : opK oi.op = 1) (hl : listed.getD i true = false) (h : closedB md ops listed = true) : noLate md ops listed = true := by
  refine List.all_eq_true.2 fun k hk => ?_
  have h1 := List.all_eq_true.1 h k hk
  simp only [Bool.or_eq_true, Bool.not_eq_true'] at h1 ⊢
  rcases h1 with h1 | h1
  · exact .inl h1
  · right
    cases hlk : lateB md ops k with
    | false => rfl
    | true =>
      cases ho : ops[k]? with
      | none => unfold lateB at hlk; rw [ho] at hlk; cases hlk
      | some o =>
        have hik : i ≠ k := by
          rintro rfl
          have h2 := lateB_eff ho hlk
          rw [hi] at ho
          cases ho
          rw [hm] at h2
          cases h2
        obtain ⟨e, he, hb, hon⟩ := lateB_spec ho hlk hi hm hik
        rw [ho] at h1
        simp only [Option.map_some, Option.getD_some] at h1
        have h3 := Array.all_eq_true_iff_forall_mem.1 h1 e he
        rw [hb, hon, getD_tf hl] at h3
        cases h3

def anyS (P : Program) (md : Region.Mode) (ops : Array Oper) (Q : Exit → Act → World → Prop) (S S0 : World → Prop) : Nat → Array Bool → Act → World → Prop
  | 0, listed, a, w => Region.ready md ops listed = [] ∧ Q .normal a w
  | fuel + 1, listed, a, w =>
    (Region.ready md ops listed = [] → Q .normal a w) ∧
    ∀ i ∈ Region.ready md ops listed, wpOp P ops Q i (fun a' w' => ((noLate md ops (listed.setIfInBounds i true) = true → S w') ∧ S0 w') ∧ anyS P md ops Q S S0 fuel (listed.setIfInBounds i true) a' w') a w

variable {md : Region.Mode} {S S0 : World → Prop}

theorem wpAny_of_anyS : ∀ (fuel : Nat) (listed : Array Bool) (a : Act) (w : World), anyS P md ops Q S S0 fuel listed a w → wpAny P md ops Q fuel listed a w
  | 0, _, _, _, h => h
  | fuel + 1, _, _, _, h => ⟨h.1, fun i hi => wpOp_mono (fun a' w' h' => wpAny_of_anyS fuel _ a' w' h'.2) (h.2 i hi)⟩

theorem anyS_first {T : World → Prop} {i : Nat} {oi : Oper} {v : Value} (hi : ops[i]? = some oi) (hsel : ∀ (j : Nat) (o : Oper) cs b, ops[j]? = some o → o.op ≠ .select cs b)
    (hQ : ∀ c a w, Q (.panic c) (a.put oi.dst v) w → Q (.panic c) a w) (hk : lateB md ops i = false)
    (hT : ∀ w, ((opK oi.op = 1 → S w) ∧ S0 w) → T w) :
    ∀ (fuel : Nat) (listed : Array Bool) (a : Act) (w : World),
      (∀ j oj, ops[j]? = some oj → j ≠ i → listed.getD j true = false → (∀ e ∈ oj.after, Region.binds md e = true → e.on ≠ i) → oi.apart ops oj = true) →
      i ∈ Region.ready md ops listed → YieldsIf P ops T oi v a → (opK oi.op = 1 → closedB md ops listed = true) → (noLate md ops listed = true → S w) → S0 w →
      anyS P md ops Q S S0 fuel (listed.setIfInBounds i true) (a.put oi.dst v) w → anyS P md ops Q S S0 (fuel + 1) listed a w := by
  intro fuel
  induction fuel with
  | zero =>
    intro listed a w _ hr hy hcl hl hS H
    refine ⟨fun h => (by rw [h] at hr; cases hr), fun j hj => ?_⟩
    by_cases hji : j = i
    · subst hji
      exact hy.wpOp hi (hT _ ⟨fun hm => hl (noLate_of hi hm (mem_ready.1 hr).1 (hcl hm)), hS⟩) ⟨⟨fun h => hl (noLate_mono h), hS⟩, H⟩
    · have := ready_mono hj hji
      rw [H.1] at this
      cases this
  | succ fuel ih =>
    intro listed a w hfree hr hy hcl hl hS H
    refine ⟨fun h => (by rw [h] at hr; cases hr), fun j hj => ?_⟩
    by_cases hji : j = i
    · subst hji
      exact hy.wpOp hi (hT _ ⟨fun hm => hl (noLate_of hi hm (mem_ready.1 hr).1 (hcl hm)), hS⟩) ⟨⟨fun h => hl (noLate_mono h), hS⟩, H⟩
    · have h1 := H.2 j (ready_mono hj hji)
      obtain ⟨hjun, oj, hoj, hall⟩ := mem_ready.1 hj
      have hnot : ∀ e ∈ oj.after, Region.binds md e = true → e.on ≠ i := fun e he hb heq => by
        have h1 := hall e he hb
        have h0 := (mem_ready.1 hr).1
        rw [heq, getD_tf h0] at h1
        cases h1
      have h2 := wpOp_putIf hoj (hfree j oj hoj hji hjun hnot) (fun cs b => hsel i oi cs b hi) (fun cs b => hsel j oj cs b hoj) hQ hy h1
      have hfree' : ∀ k ok, ops[k]? = some ok → k ≠ i → (listed.setIfInBounds j true).getD k true = false →
          (∀ e ∈ ok.after, Region.binds md e = true → e.on ≠ i) → oi.apart ops ok = true := fun k ok hk hki hun hno => by
        refine hfree k ok hk hki ?_ hno
        by_cases hjk : j = k
        · subst hjk; exact hjun
        · rw [getD_set_ne true hjk] at hun; exact hun
      have hri : i ∈ Region.ready md ops (listed.setIfInBounds j true) := ready_mono hr (Ne.symm hji)
      refine wpOp_mono (fun a' w' h3 => ?_) h2
      have hc : (listed.setIfInBounds i true).setIfInBounds j true = (listed.setIfInBounds j true).setIfInBounds i true := Array.setIfInBounds_comm _ _ (Ne.symm hji)
      have h4 : noLate md ops (listed.setIfInBounds j true) = true → S w' := fun h5 => h3.2.1.1 (by rw [hc]; exact noLate_set hk h5)
      exact ⟨⟨h4, h3.2.1.2⟩, ih (listed.setIfInBounds j true) a' w' hfree' hri h3.1 (fun hm => closedB_set (hcl hm) hj) h4 h3.2.1.2 (by rw [← hc]; exact h3.2.2)⟩

def SLa (P : Program) (n : NT) (w0 : Base) (ops : Array Oper) (S : Hp) (Q : Exit → Act → World → Prop) (fuel : Nat) (listed : Array Bool) (e : Env) (hp : Hp) : Prop :=
  ∀ a w, Fit n w0 e a → Own w0 hp w → anyS P .any ops (Calm Q) (Own w0 S) (Own w0 []) fuel listed a w

variable {fuel : Nat} {listed : Array Bool} {S : Hp}

/- calls and returns -/
end

def Post (w0 : Base) (Φ : Value → Hp → Prop) : Ending → World → Prop := fun e w' => ∃ v hp', e = .returned v ∧ Own w0 hp' w' ∧ Φ v hp'
def CallsH (P : Program) (f : FuncId) (args : List Value) (w0 : Base) (hp : Hp) (Φ : Value → Hp → Prop) : Prop :=
  ∀ w, Own w0 hp w → Calls P f args.toArray w (Post w0 Φ)

def envOf : Nat → List Value → Env
  | _, [] => []
  | k, v :: r => (k, v) :: envOf (k + 1) r

theorem look_envOf : ∀ (l : List Value) (k j : Nat) (v : Value), look (envOf k l) j = some v → k ≤ j ∧ l[j - k]? = some v
  | [], k, j, v, h => by simp [envOf, look] at h
  | u :: r, k, j, v, h => by
    by_cases hkj : k = j
    · subst hkj
      rw [envOf, look_cons_eq] at h
      simpa using h
    · rw [envOf, look_cons_ne hkj] at h
      obtain ⟨h1, h2⟩ := look_envOf r (k + 1) j v h
      refine ⟨by omega, ?_⟩
      rw [show j - k = (j - (k + 1)) + 1 by omega]
      simpa using h2

section
variable {P : Program} {w0 : Base} {hp : Hp} {f : FuncId} {fn : Func} {c : Code} {args : List Value} {Φ : Value → Hp → Prop}

abbrev postM (P : Program) (fn : Func) (R : Ending → World → Prop) : Exit → Act → World → Prop := bodyPostM Fence.wide 0 P fn R
theorem enter_R {R : Ending → World → Prop} (n : Nat) (hf : P.funcs[f]? = some fn) (hb : fn.body = some c) (hn : fn.ntmps = n) (hle : Nat.ble args.length n = true)
    (h : SLc P ⟨n, fun x => x ∈ w0.dk, none⟩ w0 (postM P fn R) c (envOf 0 args) hp) (w : World) (ho : Own w0 hp w) : Calls P f args.toArray w R := by
  have hle' : args.length ≤ n := Nat.le_of_ble_eq_true hle
  refine callsIn_wide.1 (callsIn_of_wp_marks (F := Fence.wide) (n := 0) hf hb trivial (h _ w ⟨⟨?_, fun k v hk => ?_⟩, ⟨[], rfl, List.nodup_nil, fun D hD => absurd hD (by simp)⟩⟩ ho))
  · simp [hn]; omega
  · obtain ⟨_, h2⟩ := look_envOf args 0 k v hk
    simp only [Nat.sub_zero] at h2
    have hlt : k < args.length := (List.getElem?_eq_some_iff.1 h2).1
    have hv : args[k] = v := (List.getElem?_eq_some_iff.1 h2).2
    simp [Array.getElem?_append, hlt, hv]
/-- As 'enter_R', for a function without loops over functions. -/
theorem enter_N {R : Ending → World → Prop} (n : Nat) (hf : P.funcs[f]? = some fn) (hb : fn.body = some c) (hn : fn.ntmps = n) (hle : Nat.ble args.length n = true)
    (h : SLc P ⟨n, fun _ => True, none⟩ w0 (postM P fn R) c (envOf 0 args) hp) (w : World) (ho : Own w0 hp w) : Calls P f args.toArray w R := by
  have hle' : args.length ≤ n := Nat.le_of_ble_eq_true hle
  refine callsIn_wide.1 (callsIn_of_wp_marks (F := Fence.wide) (n := 0) hf hb trivial (h _ w ⟨⟨?_, fun k v hk => ?_⟩, ⟨[], rfl, List.nodup_nil, fun D hD => absurd hD (by simp)⟩⟩ ho))
  · simp [hn]; omega
  · obtain ⟨_, h2⟩ := look_envOf args 0 k v hk
    simp only [Nat.sub_zero] at h2
    have hlt : k < args.length := (List.getElem?_eq_some_iff.1 h2).1
    have hv : args[k] = v := (List.getElem?_eq_some_iff.1 h2).2
    simp [Array.getElem?_append, hlt, hv]
theorem leave_N {R : Ending → World → Prop} {m : Nat} {r : Option Nat} {b1 : Base} {e : Env} {a : Act} {w : World} (hf : Fit ⟨m, fun _ => True, r⟩ b1 e a) (hfin : ∃ v, (results fn a.tmps).run P w = .ok v w ∧ R (.returned v) w) :
    LeavesInM Fence.wide 0 P fn a.tmps R a.defers .returning w := by
  obtain ⟨ds, hd, _, hk⟩ := hf.defers
  have : ds = [] := by
    cases ds with
    | nil => rfl
    | cons D r => exact absurd trivial ((hk D (List.mem_cons_self ..)).2 defO)
  subst this
  rw [hd]
  exact hfin
theorem Own.take {b : Base} {w : World} {D : Nat} (h : Own b hp w) (hB : b.B ≤ D) (hD : w.heap[D]? = some defO) (hn : ∀ o, (D, o) ∉ hp) (hk : ∀ o, (D, o) ∉ b.dk) : Own b hp (w.putObj D (.deferred none)) := by
  have hne : ∀ g o, (g, o) ∈ hp → g ≠ D := fun g o hm he => hn o (he ▸ hm)
  refine ⟨h.lo, h.below.trans ⟨rfl, rfl, rfl, by simp, fun k hk => World.putObj_heap_other (by omega)⟩, Keeps.of_obj fun k a t fr h0 hk' => ?_, h.nd, fun g o hm => ⟨(h.blk g o hm).1, (World.putObj_heap_other (hne g o hm)).trans (h.blk g o hm).2⟩, h.hole, fun g o hm => ?_⟩
  · have h1 := h.keeps.obj k a t fr h0 hk'
    have h2 : k ≠ D := fun he => by
      rw [he, hD] at h1
      cases h1
    exact (World.putObj_heap_other h2).trans h1
  · obtain ⟨d1, d2, d3, d4⟩ := h.dks g o hm
    exact ⟨d1, (World.putObj_heap_other (fun (he : g = D) => hk o (he ▸ hm))).trans d2, d3, d4⟩
/-- A frame leaves: the marks of its loops over functions are taken. -/
theorem leave_R {R : Ending → World → Prop} {n : NT} {b1 : Base} {e : Env} {a : Act} {w : World} (hf : Fit n b1 e a) (hn : n.dk = fun x => x ∈ w0.dk) (ho : Own b1 hp w) (hfin : ∀ w', Own (b1.over w0) hp w' → ∃ v, (results fn a.tmps).run P w' = .ok v w' ∧ R (.returned v) w') (h0 : ∀ x ∈ w0.dk, x ∈ b1.dk) :
    LeavesInM Fence.wide 0 P fn a.tmps R a.defers .returning w := by
  obtain ⟨ds, hd, hnd, hk⟩ := hf.defers
  rw [hd]
  have hst : ∀ D ∈ ds, b1.B ≤ D ∧ w.heap[D]? = some defO ∧ ∀ o, (D, o) ∉ hp := fun D hD => let ⟨d1, d2, _, d4⟩ := ho.dks D defO (hk D hD).1; ⟨d1, d2, d4⟩
  have hkk : ∀ D ∈ ds, ∀ o, (D, o) ∉ (b1.over w0).dk := fun D hD o hm => (hk D hD).2 o (by rw [hn]; exact hm)
  have hov : Own (b1.over w0) hp w := ⟨ho.lo, ho.below, ho.keeps, ho.nd, ho.blk, ho.hole, fun g o hm => ho.dks g o (h0 _ hm)⟩
  clear hk hd ho
  induction ds generalizing w with
  | nil => exact hfin w hov
  | cons D r ih =>
    obtain ⟨h1, h2, h3⟩ := hst D (List.mem_cons_self ..)
    rw [List.nodup_cons] at hnd
    refine ⟨by simp, .inl ⟨D, _, rfl, run_takeDeferred h2, ih hnd.2 (fun D' hD' => ?_) (fun D' hD' => hkk D' (List.mem_cons_of_mem _ hD')) (hov.take h1 h2 h3 (hkk D (List.mem_cons_self ..)))⟩⟩
    obtain ⟨k1, k2, k3⟩ := hst D' (List.mem_cons_of_mem _ hD')
    exact ⟨k1, (World.putObj_heap_other (fun (he : D' = D) => hnd.1 (he ▸ hD'))).trans k2, k3⟩
theorem fn_enter (n : Nat) (hf : P.funcs[f]? = some fn) (hb : fn.body = some c) (hn : fn.ntmps = n) (hle : Nat.ble args.length n = true)
    (h : SLc P ⟨n, fun x => x ∈ w0.dk, none⟩ w0 (postM P fn (Post w0 Φ)) c (envOf 0 args) hp) : CallsH P f args w0 hp Φ := fun w ho => enter_R n hf hb hn hle h w ho

theorem CallsH.mono {Φ' : Value → Hp → Prop} (h : CallsH P f args w0 hp Φ) (hi : ∀ v hp', Φ v hp' → Φ' v hp') : CallsH P f args w0 hp Φ' := fun w ho =>
  (h w ho).mono fun _ _ ⟨v, hp', he, ho', hΦ⟩ => ⟨v, hp', he, ho', hi v hp' hΦ⟩

/-- A contract of a function that only reads and makes memory, taken up where some blocks are owned. -/
theorem CallsH.frame (h : ∀ w, Own w0 hp w → CallsH P f args w [] Φ) : CallsH P f args w0 hp (fun v hp' => ∃ hp1, hp' = hp1 ++ hp ∧ Φ v hp1) := fun w ho =>
  (h w ho w (Own.start w)).mono fun _ _ ⟨v, hp', he, ho', hΦ⟩ => ⟨v, hp' ++ hp, he, ho.grow ho', hp', rfl, hΦ⟩

variable {n : NT} {m : Nat} {dk0 : Nat × Obj → Prop} {rq : Option Nat} {e : Env} {b1 : Base}
theorem ret1 (hle : w0.Le b1) {t : Nat} {v : Value} (hr : fn.results = #[.tmp t]) (hl : look e t = some v) (hΦ : Φ v hp) : SLx ⟨m, fun x => x ∈ w0.dk, none⟩ b1 (postM P fn (Post w0 Φ)) .ret e hp := fun a w hf ho =>
  leave_R hf rfl ho (fun w' ho' => ⟨v, by rw [results_tmp hr a.tmps P w', hf.get t v hl], v, hp, rfl, hle.over.back _ _ ho', hΦ⟩) hle.dk
/- contracts that hand back memory that nobody writes any more: it is known from then on -/
end
def PostB (w0 : Base) (hp : Hp) (Φ : Value → Base → Prop) : Ending → World → Prop := fun e w' => ∃ v b', e = .returned v ∧ w0.Le b' ∧ Own b' hp w' ∧ Φ v b'
def CallsB (P : Program) (f : FuncId) (args : List Value) (w0 : Base) (hp : Hp) (Φ : Value → Base → Prop) : Prop :=
  ∀ w, Own w0 hp w → Calls P f args.toArray w (PostB w0 hp Φ)
section
variable {P : Program} {w0 : Base} {hp : Hp} {f : FuncId} {fn : Func} {c : Code} {args : List Value} {Φ : Value → Hp → Prop} {Ψ : Value → Base → Prop} {n : NT} {m : Nat} {dk0 : Nat × Obj → Prop} {rq : Option Nat} {e : Env} {b1 : Base}
def callable (P : Program) (f : FuncId) : Bool := match P.funcs[f]? with
  | some fn => fn.name != "runtime.NumGoroutine" && fn.body.isSome
  | none => false

theorem run_callFunc (hc : callable P f = true) (vs : Array Value) (w : World) : (callFunc f vs).run P w = .ok (.enter f vs) w := by
  unfold callable at hc
  split at hc
  · rename_i fn hf
    simp only [Bool.and_eq_true, bne_iff_ne, ne_eq] at hc
    obtain ⟨h1, h2⟩ := hc
    have h3 : fn.body.isNone = false := by cases hb : fn.body <;> simp_all
    have h4 : fn.body ≠ none := fun hb => by rw [hb] at h2; cases h2
    have h5 : (fn.name == "runtime.NumGoroutine") = false := by simpa using h1
    simp only [callFunc, program, Sem.run, hf, h5, h3, bind, Sem.bind, Bool.false_eq_true, if_false]
    rfl
  · cases hc

end
end Go.Fp
