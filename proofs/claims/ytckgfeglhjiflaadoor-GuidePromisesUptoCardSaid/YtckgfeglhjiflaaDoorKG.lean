/- The framework, part G: calls that both freeze memory and write their caller's own blocks; such calls in regions that draw. -/
import Derived.Test.YtckgfeglhjiflaaDoorK8
namespace Go.Fp
open Go.RowKit

def PostG (w0 : Base) (Φ : Value → Base → Hp → Prop) : Ending → World → Prop := fun e w' => ∃ v b' hp', e = .returned v ∧ w0.Le b' ∧ Own b' hp' w' ∧ Φ v b' hp'
def CallsG (P : Program) (f : FuncId) (args : List Value) (w0 : Base) (hp : Hp) (Φ : Value → Base → Hp → Prop) : Prop :=
  ∀ w, Own w0 hp w → Calls P f args.toArray w (PostG w0 Φ)
section
variable {P : Program} {w0 : Base} {hp : Hp} {f : FuncId} {fn : Func} {c : Code} {args : List Value} {Φ : Value → Base → Hp → Prop} {Ψ : Value → Base → Prop} {n : NT} {m : Nat} {dk0 : Nat × Obj → Prop} {rq : Option Nat} {e : Env} {b1 : Base}
theorem CallsG.mono {Φ' : Value → Base → Hp → Prop} (h : CallsG P f args w0 hp Φ) (k : ∀ v b' hp', Φ v b' hp' → Φ' v b' hp') : CallsG P f args w0 hp Φ' := fun w ho =>
  (h w ho).mono fun _ _ ⟨v, b', hp', he, hle, ho', hΦ⟩ => ⟨v, b', hp', he, hle, ho', k v b' hp' hΦ⟩
theorem CallsG.perm {Φ' : Value → Base → Hp → Prop} (h : CallsG P f args w0 hp Φ) (k : ∀ v b' hp', Φ v b' hp' → ∃ hp'', hp'.Perm hp'' ∧ Φ' v b' hp'') : CallsG P f args w0 hp Φ' := fun w ho =>
  (h w ho).mono fun _ _ ⟨v, b', hp', he, hle, ho', hΦ⟩ => by
    obtain ⟨hp'', hpm, hΦ'⟩ := k v b' hp' hΦ
    exact ⟨v, b', hp'', he, hle, ho'.perm hpm.symm, hΦ'⟩
theorem fn_enterG (n : Nat) (hf : P.funcs[f]? = some fn) (hb : fn.body = some c) (hn : fn.ntmps = n) (hle : Nat.ble args.length n = true)
    (h : SLc P ⟨n, fun x => x ∈ w0.dk, none⟩ w0 (postM P fn (PostG w0 Φ)) c (envOf 0 args) hp) : CallsG P f args w0 hp Φ := fun w ho => enter_R n hf hb hn hle h w ho
variable {ops : Array Oper} {Q : Exit → Act → World → Prop} {rest : List Oper} {d : Option Tmp} {pos : String} {af : Array Edge} {xs : Array Operand} {ts : Array TypeId} {ty : TypeId}
theorem t_callG (vs : List Value) (hd : okD d m = true) (hc : callable P f = true) (hv : vals e xs.toList = some vs) (h : CallsG P f vs w0 hp Φ)
    (k : ∀ v b' hp', w0.Le b' → Φ v b' hp' → SLo P (NT.mk m dk0 rq) b' ops Q rest (putE d v e) hp') :
    SLo P (NT.mk m dk0 rq) w0 ops Q (⟨d, .call { callee := .value (.func f), args := xs, argTypes := ts }, ty, pos, af, none⟩ :: rest) e hp := fun a w hf ho =>
  wpListC_plain rfl fun K hK => by
    have hargs : xs.map a.eval = vs.toArray := Array.ext' (by rw [Array.toList_map]; exact hf.evals hv)
    have hrun : (execOp a.eval ⟨d, .call { callee := .value (.func f), args := xs, argTypes := ts }, ty, pos, af, none⟩).run P w = .ok (.enter f vs.toArray) w := by
      simp only [execOp, resolve, Act.eval, Deferred.ofValue, hargs, Sem.run_bind, Sem.run_pure, Result.andThen_ok, invoke]
      simpa using run_callFunc (P := P) hc vs.toArray w
    simp only [Oper.wp, hrun, Oper.upon]
    exact (h w ho).mono fun en w' ⟨v, b', hp', he, hle, ho', hΦ⟩ => by
      subst he
      exact hK _ _ (k v b' hp' hle hΦ _ _ ((hf.putE hd v).le hle) ho')
/-- A call of a function value. -/
theorem t_callvG {x : Operand} (first captured : Array Value) (vs : List Value) (hd : okD d m = true) (hx : val e x = some (.func (.func f) first captured)) (hc : callable P f = true) (hv : vals e xs.toList = some vs) (h : CallsG P f (first.toList ++ vs ++ captured.toList) w0 hp Φ)
    (k : ∀ v b' hp', w0.Le b' → Φ v b' hp' → SLo P (NT.mk m dk0 rq) b' ops Q rest (putE d v e) hp') :
    SLo P (NT.mk m dk0 rq) w0 ops Q (⟨d, .call { callee := .value x, args := xs, argTypes := ts }, ty, pos, af, none⟩ :: rest) e hp := fun a w hf ho =>
  wpListC_plain rfl fun K hK => by
    have hargs : xs.map a.eval = vs.toArray := Array.ext' (by rw [Array.toList_map]; exact hf.evals hv)
    have hrun : (execOp a.eval ⟨d, .call { callee := .value x, args := xs, argTypes := ts }, ty, pos, af, none⟩).run P w = .ok (.enter f (first ++ vs.toArray ++ captured)) w := by
      simp only [execOp, resolve, hf.eval hx, Deferred.ofValue, hargs, Sem.run_bind, Sem.run_pure, Result.andThen_ok, invoke]
      exact run_callFunc (P := P) hc _ w
    simp only [Oper.wp, hrun, Oper.upon]
    have h' := h w ho
    have harr : (first.toList ++ vs ++ captured.toList).toArray = first ++ vs.toArray ++ captured := by simp
    rw [harr] at h'
    exact h'.mono fun en w' ⟨v, b', hp', he, hle, ho', hΦ⟩ => by
      subst he
      exact hK _ _ (k v b' hp' hle hΦ _ _ ((hf.putE hd v).le hle) ho')
end

/- Regions that draw, with calls that freeze memory: 'w0' is the base when the region begins, 'b' the one at hand. -/
def SLA (P : Program) (n : NT) (w0 b : Base) (ops : Array Oper) (S : Hp) (Q : Exit → Act → World → Prop) (fuel : Nat) (listed : Array Bool) (e : Env) (hp : Hp) : Prop :=
  ∀ a w, Fit n b e a → Own b hp w → anyS P .any ops (Calm Q) (Own w0 S) (Own w0 []) fuel listed a w
def SLR (P : Program) (n : NT) (w0 b : Base) (ops : Array Oper) (S : Hp) (Q : Exit → Act → World → Prop) (fuel : Nat) (listed : Array Bool) (e : Env) (hp : Hp) (rs : List Nat) : Prop :=
  ∀ i ∈ rs, ∀ a w, Fit n b e a → Own b hp w → wpOp P ops (Calm Q) i (fun a' w' => ((noLate .any ops (listed.setIfInBounds i true) = true → Own w0 S w') ∧ Own w0 [] w') ∧ anyS P .any ops (Calm Q) (Own w0 S) (Own w0 []) fuel (listed.setIfInBounds i true) a' w') a w
section
variable {P : Program} {n : NT} {m : Nat} {dk0 : Nat × Obj → Prop} {rq : Option Nat} {w0 b : Base} {ops : Array Oper} {Q : Exit → Act → World → Prop} {e : Env} {hp S : Hp} {op : Op} {ty : TypeId} {d : Option Tmp} {pos : String} {af : Array Edge} {fuel : Nat} {listed : Array Bool}
theorem D_done (hr : (Region.ready .any ops listed).isEmpty = true) (h : SLx n b Q .normal e hp) : SLA P n w0 b ops S Q fuel listed e hp := fun a w hf ho => by
  have hr' : Region.ready .any ops listed = [] := by simpa using hr
  cases fuel with
  | zero => exact ⟨hr', h a w hf ho⟩
  | succ m => exact ⟨fun _ => h a w hf ho, fun i hi => by rw [hr'] at hi; cases hi⟩
theorem D_all (rs : List Nat) (hr : Region.ready .any ops listed = rs) (hne : rs.isEmpty = false) (h : SLR P n w0 b ops S Q fuel listed e hp rs) : SLA P n w0 b ops S Q (fuel + 1) listed e hp := fun a w hf ho =>
  ⟨fun h0 => by rw [hr] at h0; subst h0; simp at hne, fun i hi => h i (hr ▸ hi) a w hf ho⟩
theorem R_nil : SLR P n w0 b ops S Q fuel listed e hp [] := fun _ hi => by cases hi
theorem R_do {Ψ : Value → Hp → Prop} (hle : w0.Le b) {i : Nat} {rs : List Nat} (hi : ops[i]? = some ⟨d, op, ty, pos, af, none⟩) (hd : okD d m = true) (hdo : Does P (NT.mk m dk0 rq) b op ty e hp Ψ)
    (h : ∀ v hp', Ψ v hp' → (noLate .any ops (listed.setIfInBounds i true) = false ∨ S.Sublist hp') ∧ SLA P (NT.mk m dk0 rq) w0 b ops S Q fuel (listed.setIfInBounds i true) (putE d v e) hp')
    (hs : SLR P (NT.mk m dk0 rq) w0 b ops S Q fuel listed e hp rs) : SLR P (NT.mk m dk0 rq) w0 b ops S Q fuel listed e hp (i :: rs) := fun j hj a w hf ho => by
  rcases List.mem_cons.1 hj with rfl | hj
  · unfold wpOp
    simp only [hi]
    rw [if_pos (by simp [Region.wanted])]
    refine .inl (hdo.out a w hf ho d pos af none _ _ fun v hp' w' hΨ ho' => ?_)
    obtain ⟨h1, h2⟩ := h v hp' hΨ
    refine ⟨⟨fun hl => ?_, (hle.back _ _ ho').sub (List.nil_sublist _)⟩, h2 _ _ (hf.putE hd v) ho'⟩
    rcases h1 with h1 | h1
    · rw [h1] at hl; cases hl
    · exact (hle.back _ _ ho').sub h1
  · exact hs j hj a w hf ho
end
end Go.Fp
