/- Short rules for printed proofs: what is plain is found by the rule itself. -/
import Derived.Test.YtckgfeglhjiflaaDoorXQ
import Derived.Test.YtckgfeglhjiflaaDoorXZ
set_option linter.unusedVariables false
set_option linter.unusedSimpArgs false
set_option linter.unusedSectionVars false
namespace Go.Fp
open Go.RowKit
section
variable {P : Program} {n : NT} {m : Nat} {dk0 : Hp} {rq : Option Nat} {b w0 : Base} {ops : Array Oper} {Q : Exit → Act → World → Prop} {e : Env} {hp : Hp} {op : Op} {ty : TypeId} {d : Option Tmp} {pos : String} {af : Array Edge} {rest : List Oper} {dk1 : Nat × Obj → Prop}
/-- Is the operation left out by its guard? -/
def noB (ops : Array Oper) (e : Env) (j : Nat) (t : Bool) (m : Nat) (d : Option Tmp) : Bool := match (ops[j]?).bind (·.dst) with
  | none => false
  | some dj => match look e dj with
    | none => false
    | some v => Nat.blt dj m && !isB v t && okD d m
theorem noB_spec {j : Nat} {t : Bool} (h : noB ops e j t m d = true) : ∃ dj v, (ops[j]?).bind (·.dst) = some dj ∧ look e dj = some v ∧ Nat.blt dj m = true ∧ isB v t = false ∧ okD d m = true := by
  unfold noB at h
  split at h
  · cases h
  · rename_i dj h1
    split at h
    · cases h
    · rename_i v h2
      simp only [Bool.and_eq_true, Bool.not_eq_true'] at h
      exact ⟨dj, v, h1, h2, h.1.1, h.1.2, h.2⟩
theorem nO {j : Nat} {t : Bool} (h : SLo P (NT.mk m dk1 rq) w0 ops Q rest (putE d undef e) hp) (hc : noB ops e j t m d = true := by kernel_rfl) : SLo P (NT.mk m dk1 rq) w0 ops Q (⟨d, op, ty, pos, af, some (j, t)⟩ :: rest) e hp :=
  let ⟨dj, _, h1, h2, h3, h4, h5⟩ := noB_spec hc
  t_no dj h1 h2 h3 h4 h5 h
/-- Is it carried out? -/
def ysB (ops : Array Oper) (e : Env) (j : Nat) (t : Bool) (m : Nat) : Bool := match (ops[j]?).bind (·.dst) with
  | none => false
  | some dj => match look e dj with
    | some (.bool v) => Nat.blt dj m && (v == t)
    | _ => false
theorem ysB_spec {j : Nat} {t : Bool} (h : ysB ops e j t m = true) : ∃ dj, (ops[j]?).bind (·.dst) = some dj ∧ look e dj = some (.bool t) ∧ Nat.blt dj m = true := by
  unfold ysB at h
  split at h
  · cases h
  · rename_i dj h1
    split at h
    · rename_i v h2
      simp only [Bool.and_eq_true, beq_iff_eq] at h
      exact ⟨dj, h1, h.2 ▸ h2, h.1⟩
    · cases h
theorem yS {j : Nat} {t : Bool} (h : SLo P (NT.mk m dk1 rq) w0 ops Q (⟨d, op, ty, pos, af, none⟩ :: rest) e hp) (hc : ysB ops e j t m = true := by kernel_rfl) : SLo P (NT.mk m dk1 rq) w0 ops Q (⟨d, op, ty, pos, af, some (j, t)⟩ :: rest) e hp :=
  let ⟨dj, h1, h2, h3⟩ := ysB_spec hc
  t_yes dj h1 h2 h3 h
theorem mV {v : Value} {k : Nat} {x : Operand} (hx : val e x = some v) (h : SLo P (NT.mk m dk1 rq) w0 ops Q rest ((k, v) :: e) hp) (hd : Nat.blt k m = true := by kernel_rfl) : SLo P (NT.mk m dk1 rq) w0 ops Q (⟨some k, .move x, ty, pos, af, none⟩ :: rest) e hp := t_mv hd hx h
theorem aS {v : Value} {k : Nat} {x : Operand} (hx : val e x = some v) (h : SLo P (NT.mk m dk1 rq) w0 ops Q rest ((k, v) :: e) hp) (hd : Nat.blt k m = true := by kernel_rfl) : SLo P (NT.mk m dk1 rq) w0 ops Q (⟨some k, .assign x, ty, pos, af, none⟩ :: rest) e hp := t_as hd hx h
theorem tS {v : Value} {k : Nat} (hst : Stable P (NT.mk m dk1 rq) w0 op ty e hp v) (h : SLo P (NT.mk m dk1 rq) w0 ops Q rest ((k, v) :: e) hp) (hd : Nat.blt k m = true := by kernel_rfl) : SLo P (NT.mk m dk1 rq) w0 ops Q (⟨some k, op, ty, pos, af, none⟩ :: rest) e hp := t_st hd hst h
theorem tD {Ψ : Value → Hp → Prop} (hdo : Does P (NT.mk m dk1 rq) w0 op ty e hp Ψ) (h : ∀ v hp', Ψ v hp' → SLo P (NT.mk m dk1 rq) w0 ops Q rest (putE d v e) hp') (hd : okD d m = true := by kernel_rfl) :
    SLo P (NT.mk m dk1 rq) w0 ops Q (⟨d, op, ty, pos, af, none⟩ :: rest) e hp := t_do hd hdo h
/-- A test that the model makes too. -/
theorem cI {τ : Type} {p : Prop} {i1 i2 : Decidable p} {A B t : Option τ} {c : Operand} {x y : Code} (hm : (@ite _ p i1 A B) = t) (hc : val e c = some (.bool (@decide p i2))) (ht : A = t → SLc P n w0 Q x e hp) (hf : B = t → SLc P n w0 Q y e hp) : SLc P n w0 Q (.cond c x y) e hp :=
  c_cond _ hc (fun h => ht (by rw [if_pos (of_decide_eq_true h)] at hm; exact hm)) (fun h => hf (by rw [if_neg (of_decide_eq_false h)] at hm; exact hm))
theorem cB {τ : Type} {q : Bool} {i1 : Decidable (q = true)} {A B t : Option τ} {c : Operand} {x y : Code} (hm : (@ite _ (q = true) i1 A B) = t) (hc : val e c = some (.bool q)) (ht : A = t → SLc P n w0 Q x e hp) (hf : B = t → SLc P n w0 Q y e hp) : SLc P n w0 Q (.cond c x y) e hp :=
  c_cond _ hc (fun h => ht (by rw [if_pos h] at hm; exact hm)) (fun h => hf (by rw [if_neg (by rw [h]; exact Bool.false_ne_true)] at hm; exact hm))
theorem cN {τ : Type} {p : Prop} {i1 i2 : Decidable p} {A B t : Option τ} {c : Operand} {x y : Code} (hm : (@ite _ p i1 A B) = t) (hc : val e c = some (.bool (!@decide p i2))) (ht : B = t → SLc P n w0 Q x e hp) (hf : A = t → SLc P n w0 Q y e hp) : SLc P n w0 Q (.cond c x y) e hp :=
  c_cond _ hc (fun h => ht (by rw [if_neg (of_decide_eq_false (notT h))] at hm; exact hm)) (fun h => hf (by rw [if_pos (of_decide_eq_true (notF h))] at hm; exact hm))
theorem cM {τ : Type} {q : Bool} {i1 : Decidable (q = true)} {A B t : Option τ} {c : Operand} {x y : Code} (hm : (@ite _ (q = true) i1 A B) = t) (hc : val e c = some (.bool (!q))) (ht : B = t → SLc P n w0 Q x e hp) (hf : A = t → SLc P n w0 Q y e hp) : SLc P n w0 Q (.cond c x y) e hp :=
  c_cond _ hc (fun h => ht (by rw [if_neg (by rw [notT h]; exact Bool.false_ne_true)] at hm; exact hm)) (fun h => hf (by rw [if_pos (notF h)] at hm; exact hm))
/-- A part of the heap: found by going along it. -/
theorem iR {A B : Prop} {S hp' : Hp} (h : B) (hs : S.Sublist hp' := by repeat (first | exact List.Sublist.refl _ | exact List.nil_sublist _ | apply List.Sublist.cons_cons | apply sub_app | apply List.Sublist.cons | apply sub_skip)) : (A ∨ S.Sublist hp') ∧ B := ⟨.inr hs, h⟩
/-- A part of the heap in whatever order. -/
def Lk (l m : Hp) : Prop := ∃ k, m.Perm k ∧ l.Sublist k
def Ex (q m r : Hp) : Prop := m.Perm (q ++ r)
def EC (x : Nat × Obj) (m r : Hp) : Prop := m.Perm (x :: r)
theorem Ex.here (q r : Hp) : Ex q (q ++ r) r := .refl _
theorem Ex.skip {q m r : Hp} (a : Hp) (h : Ex q m r) : Ex q (a ++ m) (a ++ r) := (List.Perm.append_left a h).trans (by
  rw [← List.append_assoc, ← List.append_assoc]
  exact List.Perm.append_right r List.perm_append_comm)
theorem Ex.skipC {q m r : Hp} (x : Nat × Obj) (h : Ex q m r) : Ex q (x :: m) (x :: r) := (List.Perm.cons x h).trans (List.perm_middle (l₁ := q)).symm
theorem EC.here (x : Nat × Obj) (r : Hp) : EC x (x :: r) r := .refl _
theorem EC.skip {x : Nat × Obj} {m r : Hp} (a : Hp) (h : EC x m r) : EC x (a ++ m) (a ++ r) := (List.Perm.append_left a h).trans (List.perm_middle (l₁ := a))
theorem EC.skipC {x : Nat × Obj} {m r : Hp} (y : Nat × Obj) (h : EC x m r) : EC x (y :: m) (y :: r) := (List.Perm.cons y h).trans (List.Perm.swap x y r)
theorem Lk.refl (l : Hp) : Lk l l := ⟨l, .refl _, .refl _⟩
theorem Lk.nil (l : Hp) : Lk [] l := ⟨l, .refl _, List.nil_sublist _⟩
theorem Lk.app {q l m r : Hp} (he : Ex q m r) (h : Lk l r) : Lk (q ++ l) m := let ⟨k, h1, h2⟩ := h; ⟨q ++ k, List.Perm.trans he (List.Perm.append_left q h1), List.Sublist.append_left h2 q⟩
theorem Lk.cons {x : Nat × Obj} {l m r : Hp} (he : EC x m r) (h : Lk l r) : Lk (x :: l) m := let ⟨k, h1, h2⟩ := h; ⟨x :: k, List.Perm.trans he (List.Perm.cons x h1), List.Sublist.cons_cons x h2⟩
theorem Lk.dropC {l m : Hp} (x : Nat × Obj) (h : Lk l m) : Lk l (x :: m) := let ⟨k, h1, h2⟩ := h; ⟨x :: k, List.Perm.cons x h1, List.Sublist.cons x h2⟩
theorem Lk.drop {l m : Hp} (a : Hp) (h : Lk l m) : Lk l (a ++ m) := let ⟨k, h1, h2⟩ := h; ⟨a ++ k, List.Perm.append_left a h1, h2.trans (List.sublist_append_right a k)⟩
theorem Own.lk {w : World} {l m : Hp} (h : Own b m w) (hl : Lk l m) : Own b l w := let ⟨_, h1, h2⟩ := hl; (h.perm h1.symm).sub h2
theorem rO {b1 : Base} {fn : Func} {Φ : Value → Base → Hp → Prop} {k : Nat} {v : Value} {hp' : Hp} (hΦ : Φ v (b1.over w0) hp') (hle : w0.Le b1)
    (hr : fn.results = #[.tmp k] := by rfl) (hv : look e k = some v := by rfl) (hh : Lk hp' hp := by repeat (first | exact Lk.refl _ | exact Lk.nil _ | (apply Lk.app; · repeat (first | exact Ex.here _ _ | apply Ex.skip | apply Ex.skipC)) | (apply Lk.cons; · repeat (first | exact EC.here _ _ | apply EC.skipC | apply EC.skip)) | apply Lk.dropC | apply Lk.drop)) :
    SLx ⟨m, fun x => x ∈ w0.dk, none⟩ b1 (postM P fn (PostG w0 Φ)) .ret e hp := fun a w hf ho => rM (rs := [.tmp k]) (vs := [v]) ⟨hv, trivial⟩ hΦ (.refl _) hle (by simp) hr a w hf (ho.lk hh)
theorem rZ {b1 : Base} {fn : Func} {Φ : Value → Base → Hp → Prop} {hp' : Hp} (hΦ : Φ (.tuple #[]) (b1.over w0) hp') (hle : w0.Le b1)
    (hr : fn.results = #[] := by rfl) (hh : Lk hp' hp := by repeat (first | exact Lk.refl _ | exact Lk.nil _ | (apply Lk.app; · repeat (first | exact Ex.here _ _ | apply Ex.skip | apply Ex.skipC)) | (apply Lk.cons; · repeat (first | exact EC.here _ _ | apply EC.skipC | apply EC.skip)) | apply Lk.dropC | apply Lk.drop)) :
    SLx ⟨m, fun x => x ∈ w0.dk, none⟩ b1 (postM P fn (PostG w0 Φ)) .ret e hp := fun a w hf ho => rM (rs := []) (vs := []) trivial hΦ (.refl _) hle (by simp) hr a w hf (ho.lk hh)
theorem eZ {b1 : Base} {fn : Func} {Φ : Value → Base → Hp → Prop} {hp' : Hp} (hΦ : Φ (.tuple #[]) (b1.over w0) hp') (hle : w0.Le b1)
    (hr : fn.results = #[] := by rfl) (hh : Lk hp' hp := by repeat (first | exact Lk.refl _ | exact Lk.nil _ | (apply Lk.app; · repeat (first | exact Ex.here _ _ | apply Ex.skip | apply Ex.skipC)) | (apply Lk.cons; · repeat (first | exact EC.here _ _ | apply EC.skipC | apply EC.skip)) | apply Lk.dropC | apply Lk.drop)) :
    SLx ⟨m, fun x => x ∈ w0.dk, none⟩ b1 (postM P fn (PostG w0 Φ)) .normal e hp := fun a w hf ho => endM hle hr (.refl _) hΦ a w hf (ho.lk hh)
theorem rT {b1 : Base} {fn : Func} {Φ : Value → Base → Hp → Prop} {k l : Nat} {v u : Value} {hp' : Hp} (hΦ : Φ (.tuple #[v, u]) (b1.over w0) hp') (hle : w0.Le b1)
    (hr : fn.results = #[.tmp k, .tmp l] := by rfl) (hv : look e k = some v := by rfl) (hu : look e l = some u := by rfl) (hh : Lk hp' hp := by repeat (first | exact Lk.refl _ | exact Lk.nil _ | (apply Lk.app; · repeat (first | exact Ex.here _ _ | apply Ex.skip | apply Ex.skipC)) | (apply Lk.cons; · repeat (first | exact EC.here _ _ | apply EC.skipC | apply EC.skip)) | apply Lk.dropC | apply Lk.drop)) :
    SLx ⟨m, fun x => x ∈ w0.dk, none⟩ b1 (postM P fn (PostG w0 Φ)) .ret e hp := fun a w hf ho => rM (rs := [.tmp k, .tmp l]) (vs := [v, u]) ⟨hv, hu, trivial⟩ hΦ (.refl _) hle (by simp) hr a w hf (ho.lk hh)
theorem jJ {Inv : Base → Env → Hp → Prop} {e' : Env} {hp' : Hp} (hi : Inv b e' hp') (hh : Lk hp' hp := by repeat (first | exact Lk.refl _ | exact Lk.nil _ | (apply Lk.app; · repeat (first | exact Ex.here _ _ | apply Ex.skip | apply Ex.skipC)) | (apply Lk.cons; · repeat (first | exact EC.here _ _ | apply EC.skipC | apply EC.skip)) | apply Lk.dropC | apply Lk.drop)) (he : Sub e' e := by repeat (first | exact trivial | refine ⟨rfl, ?_⟩)) : SLx n b (Exit.then (MeetI n Inv) Q) .normal e hp := fun a w hf ho => x_join he (.refl _) hi a w hf (ho.lk hh)
theorem jS {Inv : Base → Env → Hp → Prop} {e' : Env} {hp' : Hp} (hi : Inv b e' hp') (hh : Lk hp' hp := by repeat (first | exact Lk.refl _ | exact Lk.nil _ | (apply Lk.app; · repeat (first | exact Ex.here _ _ | apply Ex.skip | apply Ex.skipC)) | (apply Lk.cons; · repeat (first | exact EC.here _ _ | apply EC.skipC | apply EC.skip)) | apply Lk.dropC | apply Lk.drop)) (he : Sub e' e := by repeat (first | exact trivial | refine ⟨rfl, ?_⟩)) : SLx n b (Exit.then (fun a w => MeetI n Inv a w) Q) .normal e hp := fun a w hf ho => x_againS he (.refl _) hi a w hf (ho.lk hh)
theorem jM {σ τ : Type} {o : σ ⊕ τ} {Inv : σ → Base → Env → Hp → Prop} {s' : σ} (hm : some (.inl s') = some o) {e' : Env} {hp' : Hp} (hi : Inv s' b e' hp') (hh : Lk hp' hp := by repeat (first | exact Lk.refl _ | exact Lk.nil _ | (apply Lk.app; · repeat (first | exact Ex.here _ _ | apply Ex.skip | apply Ex.skipC)) | (apply Lk.cons; · repeat (first | exact EC.here _ _ | apply EC.skipC | apply EC.skip)) | apply Lk.dropC | apply Lk.drop)) (he : Sub e' e := by repeat (first | exact trivial | refine ⟨rfl, ?_⟩)) : SLx n b (Exit.then (fun a w => ∃ s', o = .inl s' ∧ MeetI n (Inv s') a w) Q) .normal e hp := fun a w hf ho => x_againM s' (Option.some.inj hm).symm he (.refl _) hi a w hf (ho.lk hh)
theorem lL {σ τ : Type} {step : σ → Option (σ ⊕ τ)} (Inv : σ → Base → Env → Hp → Prop) {c : Code} {s0 : σ} {t : τ} (hl : loopM step s0 = some t) {e' : Env} {hp' : Hp} (h0 : Inv s0 w0 e' hp')
    (round : ∀ s b e hp o, Inv s b e hp → step s = some o → (∀ t', o = .inr t' → t' = t) → SLc P n b (Exit.then (fun a w => ∃ s', o = .inl s' ∧ MeetI n (Inv s') a w) Q) c e hp) (hh : Lk hp' hp := by repeat (first | exact Lk.refl _ | exact Lk.nil _ | (apply Lk.app; · repeat (first | exact Ex.here _ _ | apply Ex.skip | apply Ex.skipC)) | (apply Lk.cons; · repeat (first | exact EC.here _ _ | apply EC.skipC | apply EC.skip)) | apply Lk.dropC | apply Lk.drop)) (he : Sub e' e := by repeat (first | exact trivial | refine ⟨rfl, ?_⟩)) : SLc P n w0 Q (.loop c) e hp := fun a w hf ho => c_loopM Inv hl he (.refl _) h0 round a w hf (ho.lk hh)
theorem lF {σ τ : Type} {body : Nat → σ → Option (σ ⊕ τ)} (Inv : Nat → σ → Base → Env → Hp → Prop) {c : Code} {s0 : σ} {N : Nat} {t : σ ⊕ τ} (hl : forM body N 0 s0 = some t) {e' : Env} {hp' : Hp} (h0 : Inv 0 s0 w0 e' hp')
    (round : ∀ k s b e hp o, k < N → Inv k s b e hp → body k s = some o → (∀ t', o = .inr t' → t = .inr t') → SLc P n b (Exit.then (fun a w => ∃ s', o = .inl s' ∧ MeetI n (Inv (k + 1) s') a w) Q) c e hp)
    (done : ∀ s b e hp, Inv N s b e hp → t = .inl s → SLc P n b (Exit.then (fun _ _ => False) Q) c e hp) (hh : Lk hp' hp := by repeat (first | exact Lk.refl _ | exact Lk.nil _ | (apply Lk.app; · repeat (first | exact Ex.here _ _ | apply Ex.skip | apply Ex.skipC)) | (apply Lk.cons; · repeat (first | exact EC.here _ _ | apply EC.skipC | apply EC.skip)) | apply Lk.dropC | apply Lk.drop)) (he : Sub e' e := by repeat (first | exact trivial | refine ⟨rfl, ?_⟩)) : SLc P n w0 Q (.loop c) e hp := fun a w hf ho => c_forM Inv hl he (.refl _) h0 round done a w hf (ho.lk hh)
theorem lS {σ : Type} {body : Nat → σ → Option σ} (Inv : Nat → σ → Base → Env → Hp → Prop) {c : Code} {s0 : σ} {N : Nat} {t : σ} (hl : forS body N 0 s0 = some t) {e' : Env} {hp' : Hp} (h0 : Inv 0 s0 w0 e' hp')
    (round : ∀ k s b e hp o, k < N → Inv k s b e hp → body k s = some o → SLc P n b (Exit.then (fun a w => MeetI n (Inv (k + 1) o) a w) Q) c e hp)
    (done : ∀ b e hp, Inv N t b e hp → SLc P n b (Exit.then (fun _ _ => False) Q) c e hp) (hh : Lk hp' hp := by repeat (first | exact Lk.refl _ | exact Lk.nil _ | (apply Lk.app; · repeat (first | exact Ex.here _ _ | apply Ex.skip | apply Ex.skipC)) | (apply Lk.cons; · repeat (first | exact EC.here _ _ | apply EC.skipC | apply EC.skip)) | apply Lk.dropC | apply Lk.drop)) (he : Sub e' e := by repeat (first | exact trivial | refine ⟨rfl, ?_⟩)) : SLc P n w0 Q (.loop c) e hp := fun a w hf ho => c_forS Inv hl he (.refl _) h0 round done a w hf (ho.lk hh)
theorem eN (i : Nat) {fuel : Nat} {listed : Array Bool} {S : Hp} {k j : Nat} {t : Bool} (hi : ops[i]? = some ⟨some k, op, ty, pos, af, some (j, t)⟩) (h : SLB P (NT.mk m dk1 rq) w0 b ops S Q fuel (listed.setIfInBounds i true) ((k, undef) :: e) hp)
    (hc : noB ops e j t m (some k) = true := by kernel_rfl)
    (hs : Region.noSelect ops = true := by kernel_rfl) (hfr : Region.free .any ops listed i = true := by kernel_rfl) (hr : (Region.ready .any ops listed).contains i = true := by kernel_rfl)
    (hcl : closedB .any ops listed = true := by kernel_rfl) : SLB P (NT.mk m dk1 rq) w0 b ops S Q (fuel + 1) listed e hp :=
  let ⟨dj, _, h1, h2, h3, h4, h5⟩ := noB_spec hc
  E_no i dj hi h2 h4 h hs hfr hr h5 h1 h3 hcl
/-- On to what is proved once. -/
theorem dG {I : Base → Env → Hp → Prop} {S : Hp} {fuel fuel' : Nat} {listed listed' : Array Bool} (ht : ∀ b' e' hp', w0.Le b' → I b' e' hp' → SLA P n w0 b' ops S Q fuel' listed' e' hp') {e' : Env} {hp' : Hp} (hi : I b e' hp') (hle : w0.Le b)
    (hf : fuel = fuel' := by kernel_rfl) (hl : listed = listed' := by kernel_rfl) (he : Sub e' e := by repeat (first | exact trivial | refine ⟨rfl, ?_⟩)) (hh : Lk hp' hp := by repeat (first | exact Lk.refl _ | exact Lk.nil _ | (apply Lk.app; · repeat (first | exact Ex.here _ _ | apply Ex.skip | apply Ex.skipC)) | (apply Lk.cons; · repeat (first | exact EC.here _ _ | apply EC.skipC | apply EC.skip)) | apply Lk.dropC | apply Lk.drop)) : SLA P n w0 b ops S Q fuel listed e hp := fun a w hfit ho => by
  subst hf hl
  exact ht b e' hp' hle hi a w (hfit.sub he) (ho.lk hh)
/-- An element of a slice that stands. -/
theorem bF {α β : Type} {r : RT α} {w : World} {A : Option Addr} {c sz : Nat} {l : List α} {i : Int} {f : α → Option β} {t : β} (hm : (idx l i).bind f = some t) (h : FZ r w A c l) (hs : r.sz = sz := by rfl) (h0 : 0 < sz := by decide) :
    ∃ (x : α) (j : Nat) (cs : List Value), i = (j : Int) ∧ l[j]? = some x ∧ r.rep w cs x ∧ (∀ (i : Nat) (u : Value), cs[i]? = some u → cellO w A (j * sz + i) = some u) ∧ A.isSome = true ∧ j < l.length ∧ f x = some t := by
  obtain ⟨x, hx, h1⟩ := bindS hm
  obtain ⟨j, hj, hx⟩ := idx_some hx
  obtain ⟨cs, h2, h3, h4, h5⟩ := FZ.get hs h0 h hx
  exact ⟨x, j, cs, hj, hx, h2, h3, h4, h5, h1⟩
end
end Go.Fp
