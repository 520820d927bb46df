/- Extraction, part Y: functions that may panic, functions with one deferred closure that recovers, and literals of bytes that become strings. For the framework with tails (fxseat.TAILED). -/
import Derived.Test.YtglmhaihgpnogaaGreatDoorXG
import Derived.Laws.BytesArg
import Derived.RecoverIn
import Derived.KernelRfl
set_option linter.unusedVariables false
set_option linter.unusedSimpArgs false
namespace Go.Fp
open Go.RowKit

/-- A call that returns, or panics. -/
def PostP (w0 : Base) (Φ : Value → Base → Hp → Prop) (Ψ : List PanicEntry → Base → Hp → Prop) : Ending → World → Prop
  | .returned v, w' => ∃ b' hp', w0.Le b' ∧ Own b' hp' w' ∧ Φ v b' hp'
  | .panicked ch, w' => ∃ b' hp', w0.Le b' ∧ Own b' hp' w' ∧ Ψ ch b' hp'
  | .outgrown, _ => False
def CallsP (P : Program) (f : FuncId) (args : List Value) (w0 : Base) (hp : Hp) (Φ : Value → Base → Hp → Prop) (Ψ : List PanicEntry → Base → Hp → Prop) : Prop :=
  ∀ w, Own w0 hp w → Calls P f args.toArray w (PostP w0 Φ Ψ)
/-- The panic of one value that nobody has taken. -/
abbrev thrown (v : Value) : List PanicEntry := [{ v, recovered := false }]
section
variable {P : Program} {w0 : Base} {hp : Hp} {f : FuncId} {fn : Func} {c : Code} {args : List Value} {Φ : Value → Base → Hp → Prop} {Ψ : List PanicEntry → Base → Hp → Prop} {n : NT} {m : Nat} {dk0 : Nat × Obj → Prop} {rq : Option Nat} {tl : List Deferred} {e : Env} {b1 : Base}
variable {ops : Array Oper} {Q : Exit → Act → World → Prop} {rest : List Oper} {d : Option Tmp} {pos : String} {af : Array Edge} {xs : Array Operand} {ts : Array TypeId} {ty : TypeId}
theorem fn_enterP (n : Nat) (hf : P.funcs[f]? = some fn) (hb : fn.body = some c) (hn : fn.ntmps = n) (hle : Nat.ble args.length n = true)
    (h : SLc P ⟨n, fun _ => True, none, []⟩ w0 (postM P fn (PostP w0 Φ Ψ)) c (envOf 0 args) hp) : CallsP P f args w0 hp Φ Ψ := fun w ho => enter_N n hf hb hn hle h w ho
/-- A function with a deferred closure of its own. -/
theorem fn_enterC (n : Nat) (hf : P.funcs[f]? = some fn) (hb : fn.body = some c) (hn : fn.ntmps = n) (hle : Nat.ble args.length n = true)
    (h : SLc P ⟨n, fun _ => True, none, []⟩ w0 (postM P fn (PostG w0 Φ)) c (envOf 0 args) hp) : CallsG P f args w0 hp Φ := fun w ho => enter_N n hf hb hn hle h w ho
theorem over_own (hle : w0.Le b1) {w : World} (ho : Own b1 hp w) : Own (b1.over w0) hp w := ⟨ho.lo, ho.below, ho.keeps, ho.nd, ho.blk, ho.hole, fun g o hm => ho.dks g o (hle.dk _ hm)⟩
theorem retN {rs : List ResultVar} (vs : List Value) (hle : w0.Le b1) (hn : rs.length ≤ 5) (hr : fn.results = rs.toArray) (hv : All2 (RVal P (b1.over w0) e hp) rs vs) {v : Value} (hpk : packV vs = v) {hp' : Hp} (hh : hp'.Sublist hp) (hΦ : Φ v (b1.over w0) hp') :
    SLx ⟨m, fun _ => True, none, []⟩ b1 (postM P fn (PostG w0 Φ)) .ret e hp := fun a w hf ho =>
  leave_N hf ⟨v, by rw [← hpk]; exact run_results hf (over_own hle ho) hn hr hv, v, _, hp', rfl, hle.over, (over_own hle ho).sub hh, hΦ⟩
theorem retP {rs : List ResultVar} (vs : List Value) (hle : w0.Le b1) (hn : rs.length ≤ 5) (hr : fn.results = rs.toArray) (hv : All2 (RVal P (b1.over w0) e hp) rs vs) {v : Value} (hpk : packV vs = v) {hp' : Hp} (hh : hp'.Sublist hp) (hΦ : Φ v (b1.over w0) hp') :
    SLx ⟨m, fun _ => True, none, []⟩ b1 (postM P fn (PostP w0 Φ Ψ)) .ret e hp := fun a w hf ho =>
  leave_N hf ⟨v, by rw [← hpk]; exact run_results hf (over_own hle ho) hn hr hv, _, hp', hle.over, (over_own hle ho).sub hh, hΦ⟩
theorem panicP (hle : w0.Le b1) {ch : List PanicEntry} {hp' : Hp} (hh : hp'.Sublist hp) (hΨ : Ψ ch b1 hp') :
    SLx ⟨m, fun _ => True, none, []⟩ b1 (postM P fn (PostP w0 Φ Ψ)) (.panic ch) e hp := fun a w hf ho => by
  obtain ⟨ds, hd, _, hk⟩ := hf.defers
  have : ds = [] := by
    cases ds with
    | nil => rfl
    | cons D r => exact absurd trivial ((hk D (List.mem_cons_self ..)).2 defO)
  subst this
  show LeavesInM Fence.wide 0 P fn a.tmps _ a.defers (.panicking ch) w
  rw [hd]
  exact ⟨b1, hp', hle, ho.sub hh, hΨ⟩
/-- A call of a named function that may panic. -/
theorem t_callP (vs : List Value) (hd : okD d m = true) (hc : callable P f = true) (hv : vals e xs.toList = some vs) (h : CallsP P f vs w0 hp Φ Ψ)
    (k : ∀ v b' hp', w0.Le b' → Φ v b' hp' → SLo P (NT.mk m dk0 rq tl) b' ops Q rest (putE d v e) hp')
    (kp : ∀ ch b' hp', w0.Le b' → Ψ ch b' hp' → SLx (NT.mk m dk0 rq tl) b' Q (.panic ch) e hp') :
    SLo P (NT.mk m dk0 rq tl) w0 ops Q (⟨d, .call { callee := .value (.func f), args := xs, argTypes := ts }, ty, pos, af, none⟩ :: rest) e hp := fun a w hf ho =>
  wpListC_plain rfl fun K hK => by
    have hargs : xs.map a.eval = vs.toArray := Array.ext' (by rw [Array.toList_map]; exact hf.evals hv)
    have hrun : (execOp a.eval ⟨d, .call { callee := .value (.func f), args := xs, argTypes := ts }, ty, pos, af, none⟩).run P w = .ok (.enter f vs.toArray) w := by
      simp only [execOp, resolve, Act.eval, Deferred.ofValue, hargs, Sem.run_bind, Sem.run_pure, Result.andThen_ok, invoke]
      simpa using run_callFunc (P := P) hc vs.toArray w
    simp only [Oper.wp, hrun, Oper.upon]
    refine (h w ho).mono fun en w' hp => ?_
    cases en with
    | returned v =>
      obtain ⟨b', hp', hle, ho', hΦ⟩ := hp
      exact hK _ _ (k v b' hp' hle hΦ _ _ ((hf.putE hd v).le hle) ho')
    | panicked ch =>
      obtain ⟨b', hp', hle, ho', hΨ⟩ := hp
      exact kp ch b' hp' hle hΨ a w' (hf.le hle) ho'
    | outgrown => exact hp.elim
/-- A call of a named function that panics here. -/
theorem t_callF {ch : List PanicEntry} (vs : List Value) (hd : okD d m = true) (hc : callable P f = true) (hv : vals e xs.toList = some vs) (h : ∀ w, Own w0 hp w → Calls P f vs.toArray w fun en w' => en = .panicked ch ∧ Own w0 hp w')
    (kp : SLx (NT.mk m dk0 rq tl) w0 Q (.panic ch) e hp) :
    SLo P (NT.mk m dk0 rq tl) w0 ops Q (⟨d, .call { callee := .value (.func f), args := xs, argTypes := ts }, ty, pos, af, none⟩ :: rest) e hp :=
  t_callP (Φ := fun _ _ _ => False) (Ψ := fun c b' hp' => c = ch ∧ w0 = b' ∧ hp = hp') vs hd hc hv (fun w ho => (h w ho).mono fun en w' ⟨h1, h2⟩ => by subst h1; exact ⟨w0, hp, Base.Le.refl _, h2, rfl, rfl, rfl⟩)
    (fun _ _ _ _ hf => hf.elim) (fun c b' hp' _ ⟨h1, h2, h3⟩ => by subst h1; subst h2; subst h3; exact kp)
theorem t_panic {x : Operand} {t : TypeId} {v : Value} (hx : val e x = some (.iface t v)) (h : SLx n w0 Q (.panic (thrown (.iface t v))) e hp) :
    SLo P n w0 ops Q (⟨d, .panic x, ty, pos, af, none⟩ :: rest) e hp := fun a w hf ho =>
  wpListC_plain rfl fun K hK => by
    have hrun : (execOp a.eval ⟨d, .panic x, ty, pos, af, none⟩).run P w = .halt (.panic (.iface t v)) w := by
      simp only [execOp, hf.eval hx]
      rfl
    simp only [Oper.wp, hrun, Oper.upon]
    exact h a w hf ho
theorem x_then_panic {K : Act → World → Prop} {ch : List PanicEntry} (h : SLx n w0 Q (.panic ch) e hp) : SLx n w0 (Exit.then K Q) (.panic ch) e hp := h
theorem x_block_panic {id : Nat} {ch : List PanicEntry} (h : SLx n w0 Q (.panic ch) e hp) : SLx n w0 (Exit.inBlock id Q) (.panic ch) e hp := h
/-- The deferred call of closure 'fc', which holds the place of one variable. -/
abbrev dfr (fc g : Nat) : Deferred := { target := .fn (.func fc) #[.pointer (some ⟨g, 0, none⟩)], args := #[] }
theorem t_defer {x : Operand} {fc g : Nat} (hx : val e x = some (.func (.func fc) #[] #[.pointer (some ⟨g, 0, none⟩)])) {tl : List Deferred}
    (h : SLo P (NT.mk m (fun _ => True) none (dfr fc g :: tl)) w0 ops Q rest e hp) :
    SLo P (NT.mk m (fun _ => True) none tl) w0 ops Q (⟨none, .defer { callee := .value x, args := #[], argTypes := #[] }, ty, pos, af, none⟩ :: rest) e hp := fun a w hf ho =>
  wpListC_plain rfl fun K hK => by
    have hrun : (execOp a.eval ⟨none, .defer { callee := .value x, args := #[], argTypes := #[] }, ty, pos, af, none⟩).run P w = .ok (.defer (dfr fc g)) w := by
      simp [execOp, resolve, hf.eval hx, Deferred.ofValue, Sem.run_bind, Sem.run_pure, Result.andThen_ok]
    simp only [Oper.wp, hrun, Oper.upon]
    obtain ⟨ds, hd, _, hk⟩ := hf.defers
    have : ds = [] := by
      cases ds with
      | nil => rfl
      | cons D r => exact absurd trivial ((hk D (List.mem_cons_self ..)).2 defO)
    subst this
    refine hK _ _ (h _ _ ⟨⟨hf.size, hf.get⟩, ⟨[], ?_, List.nodup_nil, fun D hD => absurd hD (by simp)⟩⟩ ho)
    show dfr fc g :: a.defers = _
    rw [hd]
    rfl
/-- What the closure does: nothing where its function returns; where it panics with 'v', the variable becomes false, and the function returns. -/
structure Catch (P : Program) (fc tb : Nat) (v : Value) : Prop where
  calm : ∀ (g : Nat) (w : World), CallsDIn Fence.wide 0 P fc #[.pointer (some ⟨g, 0, none⟩)] .returning w fun e u' w' => e = .returned (.tuple #[]) ∧ u' = .returning ∧ w' = w
  take : ∀ (g : Nat) (q : Value) (w : World), w.heap[g]? = some (.cells #[q] tb) → CallsDIn Fence.wide 0 P fc #[.pointer (some ⟨g, 0, none⟩)] (.panicking (thrown v)) w fun e u' w' => e = .returned (.tuple #[]) ∧ u' = .panicking [{ v, recovered := true }] ∧ ∃ o, w' = (w.alloc o).setCell ⟨g, 0, none⟩ (.bool false)
  plain : callable P fc = true
theorem leads_dfr (P : Program) (w : World) (fc g f : Nat) (h : (dfr fc g).target.leads P w (dfr fc g).args = some f) : Fence.wide.fn f := trivial
theorem x_calm {R : Ending → World → Prop} {fc tb g : Nat} {v : Value} (hC : Catch P fc tb v) (h : SLx (NT.mk m (fun _ => True) none []) b1 (postM P fn R) .ret e hp) :
    SLx (NT.mk m (fun _ => True) none [dfr fc g]) b1 (postM P fn R) .ret e hp := fun a w hf ho => by
  obtain ⟨ds, hd, _, hk⟩ := hf.defers
  have : ds = [] := by
    cases ds with
    | nil => rfl
    | cons D r => exact absurd trivial ((hk D (List.mem_cons_self ..)).2 defO)
  subst this
  have hd : a.defers = [dfr fc g] := hd
  show LeavesInM Fence.wide 0 P fn a.tmps R a.defers .returning w
  rw [hd]
  refine ⟨by simp, .inr ⟨(fun h => by cases h), .func fc, _, fc, _, rfl, run_callFunc (P := P) hC.plain _ w, fun f hf => trivial, ?_⟩⟩
  refine (hC.calm g w).mono fun en u' w' ⟨h1, h2, h3⟩ => ?_
  subst h1; subst h2; subst h3
  exact h { a with defers := [] } w' ⟨⟨hf.size, hf.get⟩, ⟨[], rfl, List.nodup_nil, fun D hD => absurd hD (by simp)⟩⟩ ho
theorem x_take {R : Ending → World → Prop} {fc tb g : Nat} {v q : Value} (hC : Catch P fc tb v) (i : Nat) (hi : hp[i]? = some (g, Cl tb [q])) (h : SLx (NT.mk m (fun _ => True) none []) b1 (postM P fn R) .ret e (hp.set i (g, Cl tb [.bool false]))) :
    SLx (NT.mk m (fun _ => True) none [dfr fc g]) b1 (postM P fn R) (.panic (thrown v)) e hp := fun a w hf ho => by
  obtain ⟨ds, hd, _, hk⟩ := hf.defers
  have : ds = [] := by
    cases ds with
    | nil => rfl
    | cons D r => exact absurd trivial ((hk D (List.mem_cons_self ..)).2 defO)
  subst this
  have hd : a.defers = [dfr fc g] := hd
  show LeavesInM Fence.wide 0 P fn a.tmps R a.defers (.panicking (thrown v)) w
  rw [hd]
  refine ⟨by simp, .inr ⟨(fun h => by cases h), .func fc, _, fc, _, rfl, run_callFunc (P := P) hC.plain _ w, fun f hf => trivial, ?_⟩⟩
  have hblk := (ho.blk g _ (List.mem_of_getElem? hi)).2
  refine (hC.take g q w hblk).mono fun en u' w' ⟨h1, h2, o, h3⟩ => ?_
  subst h1; subst h2; subst h3
  refine h { a with defers := [] } _ ⟨⟨hf.size, hf.get⟩, ⟨[], rfl, List.nodup_nil, fun D hD => absurd hD (by simp)⟩⟩ ?_
  have h4 := (ho.alloc o).sub (List.sublist_cons_self _ _)
  exact h4.set hi 0 (.bool false)
end
section
variable {P : Program} {n : NT} {m : Nat} {b : Base} {e : Env} {hp : Hp} {ty : TypeId}
/-- A literal of bytes, turned into a string. -/
theorem st_strlit {x : Operand} {t u el g k c : Nat} (i : Nat) (cs : List Int) (hx : val e x = some (.slice (some ⟨g, 0, none⟩) k c)) (hb : hp[i]? = some (g, Cl el (cs.map (Value.int .u8)))) (hk : cs.length = k) (ht : slT P t el 1 = true) (hu : strT P u = true) (he : intT P el .u8 = true) :
    Stable P n b (.convert t u x) ty e hp (.string (strOfNums cs)) := fun a w hf ho d pos af g' => by
  obtain ⟨h1, _⟩ := slT_spec ht
  have hr := run_convert_bytes_arg (P := P) w t el h1 (intT_spec he) g 0 k c cs hk (fun j hj => by
    rw [Nat.zero_add, ho.cell hb j]
    have hj' : j < cs.length := by omega
    simp [hj']) u (strT_spec hu)
  simp only [execOp, hf.eval hx, Sem.run_bind, hr, Result.andThen_ok, Sem.run_pure]
end
/-- What fare.number yields, and whether it returns at all. -/
def numberM (s : ByteArray) : Option (Bool × Int) := (atoiM s).bind fun p => if p.2 = true ∧ 0 ≤ p.1 then (itoaM p.1).bind fun t => some (sEq t s, p.1) else some (false, p.1)
end Go.Fp
