/- Extraction, part 2: loops and joins by models; structural rules of the heap; returns; calls. -/
import Derived.Test.YtckgfeglhjiflaaDoorX1
namespace Go.Fp
open Go.RowKit

section
variable {P : Program} {n : NT} {m : Nat} {dk0 : Nat × Obj → Prop} {rq : Option Nat} {w0 b : Base} {Q : Exit → Act → World → Prop} {e : Env} {hp : Hp}

/- ---- joins ---- -/
def MeetI (n : NT) (Inv : Base → Env → Hp → Prop) : Act → World → Prop := fun a w => ∃ b e hp, Inv b e hp ∧ Fit n b e a ∧ Own b hp w
theorem c_join (Inv : Base → Env → Hp → Prop) {x y : Code} (h1 : SLc P n w0 (Exit.then (MeetI n Inv) Q) x e hp) (h2 : ∀ b e hp, Inv b e hp → SLc P n b Q y e hp) : SLc P n w0 Q (.seq x y) e hp := fun a w hf ho =>
  wpIn_seq (wpIn_mono (h1 a w hf ho) fun ex a' w' h => by
    cases ex with
    | normal => obtain ⟨b, e', hp', hi, hf', ho'⟩ := h; exact h2 b e' hp' hi a' w' hf' ho'
    | _ => exact h)
theorem x_join {Inv : Base → Env → Hp → Prop} {e' : Env} {hp' : Hp} (he : Sub e' e) (hh : hp'.Sublist hp) (hi : Inv b e' hp') : SLx n b (Exit.then (MeetI n Inv) Q) .normal e hp := fun _ _ hf ho => ⟨b, e', hp', hi, hf.sub he, ho.sub hh⟩

/- ---- loops ---- -/
theorem c_loopM {σ τ : Type} {step : σ → Option (σ ⊕ τ)} (Inv : σ → Base → Env → Hp → Prop) {c : Code} {s0 : σ} {t : τ} (hl : loopM step s0 = some t) {e' : Env} {hp' : Hp} (he : Sub e' e) (hh : hp'.Sublist hp) (h0 : Inv s0 w0 e' hp')
    (round : ∀ s b e hp o, Inv s b e hp → step s = some o → (∀ t', o = .inr t' → t' = t) → SLc P n b (Exit.then (fun a w => ∃ s', o = .inl s' ∧ MeetI n (Inv s') a w) Q) c e hp) : SLc P n w0 Q (.loop c) e hp := by
  intro a w hf ho fr k cs hro hb hroom
  obtain ⟨N, hN⟩ := lim_some hl
  have key : ∀ N s a w, runN step N s = some t → MeetI n (Inv s) a w → ∃ ex a' w', Q ex a' w' ∧ ArrivesIn (Machine.fenced P (fenceR n.rd)) P (lone (fr.atR a (.code c :: .inLoop c :: k)) cs w) fr k cs ex a' w' := by
    intro N
    induction N with
    | zero => intro s a w h; cases h
    | succ N ih =>
      intro s a w hr ⟨b, e, hp, hi, hfx, hox⟩
      unfold runN at hr
      cases hs : step s with
      | none => rw [hs] at hr; cases hr
      | some o =>
        rw [hs] at hr
        have hround := round s b e hp o hi hs (fun t' ht' => by subst ht'; simp only [Option.some.injEq] at hr; exact hr) a w hfx hox
        obtain ⟨ex, a1, w1, hq, harr⟩ := hround fr (.inLoop c :: k) cs hro hb hroom
        cases ex with
        | normal =>
          obtain ⟨s', ho', hm⟩ := hq
          subst ho'
          obtain ⟨ex2, a2, w2, hq2, harr2⟩ := ih s' a1 w1 hr hm
          exact ⟨ex2, a2, w2, hq2, .of_steps (StepsIn.trans harr (.one (fenced_calm hb hroom rfl) stepR_inLoop)) harr2⟩
        | exit id => exact ⟨_, a1, w1, hq, .pass (x := .inLoop c) rfl (fun _ _ => .inl (by simp)) harr⟩
        | goto l => exact ⟨_, a1, w1, hq, .pass (x := .inLoop c) rfl (fun _ _ => .inl (by simp)) harr⟩
        | ret => exact ⟨_, a1, w1, hq, .pass (x := .inLoop c) rfl (fun _ _ => .inl (by simp)) harr⟩
        | panic ch => exact ⟨_, a1, w1, hq, .pass (x := .inLoop c) rfl (fun _ _ => .inl (by simp)) harr⟩
        | outgrown => exact ⟨_, a1, w1, hq, .pass (x := .inLoop c) rfl (fun _ _ => .inl (by simp)) harr⟩
  obtain ⟨ex, a', w', hq, harr⟩ := key N s0 a w hN ⟨w0, e', hp', h0, hf.sub he, ho.sub hh⟩
  exact ⟨ex, a', w', hq, .of_steps (.one (fenced_calm hb hroom rfl) stepR_loop) harr⟩
/-- A loop that counts: 'N' rounds, then the way out. -/
theorem c_forM {σ τ : Type} {body : Nat → σ → Option (σ ⊕ τ)} (Inv : Nat → σ → Base → Env → Hp → Prop) {c : Code} {s0 : σ} {N : Nat} {t : σ ⊕ τ} (hl : forM body N 0 s0 = some t) {e' : Env} {hp' : Hp} (he : Sub e' e) (hh : hp'.Sublist hp) (h0 : Inv 0 s0 w0 e' hp')
    (round : ∀ k s b e hp o, k < N → Inv k s b e hp → body k s = some o → (∀ t', o = .inr t' → t = .inr t') → SLc P n b (Exit.then (fun a w => ∃ s', o = .inl s' ∧ MeetI n (Inv (k + 1) s') a w) Q) c e hp)
    (done : ∀ s b e hp, Inv N s b e hp → t = .inl s → SLc P n b (Exit.then (fun _ _ => False) Q) c e hp) : SLc P n w0 Q (.loop c) e hp := by
  intro a w hf ho fr k cs hro hb hroom
  have key : ∀ m j s a w, forM body m j s = some t → j + m = N → MeetI n (Inv j s) a w → ∃ ex a' w', Q ex a' w' ∧ ArrivesIn (Machine.fenced P (fenceR n.rd)) P (lone (fr.atR a (.code c :: .inLoop c :: k)) cs w) fr k cs ex a' w' := by
    intro m
    induction m with
    | zero =>
      intro j s a w hr hj ⟨b, e, hp, hi, hfx, hox⟩
      simp only [forM, Option.some.injEq] at hr
      have hjN : j = N := by omega
      subst hjN
      obtain ⟨ex, a1, w1, hq, harr⟩ := done s b e hp hi hr.symm a w hfx hox fr (.inLoop c :: k) cs hro hb hroom
      cases ex with
      | normal => exact hq.elim
      | exit id => exact ⟨_, a1, w1, hq, .pass (x := .inLoop c) rfl (fun _ _ => .inl (by simp)) harr⟩
      | goto l => exact ⟨_, a1, w1, hq, .pass (x := .inLoop c) rfl (fun _ _ => .inl (by simp)) harr⟩
      | ret => exact ⟨_, a1, w1, hq, .pass (x := .inLoop c) rfl (fun _ _ => .inl (by simp)) harr⟩
      | panic ch => exact ⟨_, a1, w1, hq, .pass (x := .inLoop c) rfl (fun _ _ => .inl (by simp)) harr⟩
      | outgrown => exact ⟨_, a1, w1, hq, .pass (x := .inLoop c) rfl (fun _ _ => .inl (by simp)) harr⟩
    | succ m ih =>
      intro j s a w hr hj ⟨b, e, hp, hi, hfx, hox⟩
      unfold forM at hr
      cases hs : body j s with
      | none => rw [hs] at hr; cases hr
      | some o =>
        rw [hs] at hr
        have hround := round j s b e hp o (by omega) hi hs (fun t' ht' => by subst ht'; simp only [Option.some.injEq] at hr; exact hr.symm) a w hfx hox
        obtain ⟨ex, a1, w1, hq, harr⟩ := hround fr (.inLoop c :: k) cs hro hb hroom
        cases ex with
        | normal =>
          obtain ⟨s', ho', hm⟩ := hq
          subst ho'
          obtain ⟨ex2, a2, w2, hq2, harr2⟩ := ih (j + 1) s' a1 w1 hr (by omega) hm
          exact ⟨ex2, a2, w2, hq2, .of_steps (StepsIn.trans harr (.one (fenced_calm hb hroom rfl) stepR_inLoop)) harr2⟩
        | exit id => exact ⟨_, a1, w1, hq, .pass (x := .inLoop c) rfl (fun _ _ => .inl (by simp)) harr⟩
        | goto l => exact ⟨_, a1, w1, hq, .pass (x := .inLoop c) rfl (fun _ _ => .inl (by simp)) harr⟩
        | ret => exact ⟨_, a1, w1, hq, .pass (x := .inLoop c) rfl (fun _ _ => .inl (by simp)) harr⟩
        | panic ch => exact ⟨_, a1, w1, hq, .pass (x := .inLoop c) rfl (fun _ _ => .inl (by simp)) harr⟩
        | outgrown => exact ⟨_, a1, w1, hq, .pass (x := .inLoop c) rfl (fun _ _ => .inl (by simp)) harr⟩
  obtain ⟨ex, a', w', hq, harr⟩ := key N 0 s0 a w hl (by omega) ⟨w0, e', hp', h0, hf.sub he, ho.sub hh⟩
  exact ⟨ex, a', w', hq, .of_steps (.one (fenced_calm hb hroom rfl) stepR_loop) harr⟩
theorem forS_forM {σ : Type} {body : Nat → σ → Option σ} : ∀ (m k : Nat) (s : σ), forM (τ := Empty) (fun k s => (body k s).map .inl) m k s = (forS body m k s).map .inl
  | 0, _, _ => rfl
  | m + 1, k, s => by
    unfold forM forS
    cases h : body k s with
    | none => rfl
    | some s' => simp [forS_forM m (k + 1) s']
theorem c_forS {σ : Type} {body : Nat → σ → Option σ} (Inv : Nat → σ → Base → Env → Hp → Prop) {c : Code} {s0 : σ} {N : Nat} {t : σ} (hl : forS body N 0 s0 = some t) {e' : Env} {hp' : Hp} (he : Sub e' e) (hh : hp'.Sublist hp) (h0 : Inv 0 s0 w0 e' hp')
    (round : ∀ k s b e hp o, k < N → Inv k s b e hp → body k s = some o → SLc P n b (Exit.then (fun a w => MeetI n (Inv (k + 1) o) a w) Q) c e hp)
    (done : ∀ b e hp, Inv N t b e hp → SLc P n b (Exit.then (fun _ _ => False) Q) c e hp) : SLc P n w0 Q (.loop c) e hp := by
  refine c_forM (τ := Empty) (body := fun k s => (body k s).map .inl) (t := .inl t) Inv (by rw [forS_forM, hl]; rfl) he hh h0 (fun k s b e hp o hk hi hb _ => ?_) (fun s b e hp hi hs => ?_)
  · cases hq : body k s with
    | none => rw [hq] at hb; cases hb
    | some s' =>
      rw [hq] at hb
      simp only [Option.map_some, Option.some.injEq] at hb
      subst hb
      have := round k s b e hp s' hk hi hq
      intro a w hf ho
      refine wpIn_mono (this a w hf ho) fun ex a' w' h => ?_
      cases ex with
      | normal => exact ⟨s', rfl, h⟩
      | _ => exact h
  · injection hs with hs
    subst hs
    exact done b e hp hi
theorem x_againS {Inv : Base → Env → Hp → Prop} {e' : Env} {hp' : Hp} (he : Sub e' e) (hh : hp'.Sublist hp) (hi : Inv b e' hp') : SLx n b (Exit.then (fun a w => MeetI n Inv a w) Q) .normal e hp := fun _ _ hf ho => ⟨b, e', hp', hi, hf.sub he, ho.sub hh⟩
theorem x_againM {σ τ : Type} {o : σ ⊕ τ} {Inv : σ → Base → Env → Hp → Prop} (s' : σ) {e' : Env} {hp' : Hp} (hs : o = .inl s') (he : Sub e' e) (hh : hp'.Sublist hp) (hi : Inv s' b e' hp') : SLx n b (Exit.then (fun a w => ∃ s', o = .inl s' ∧ MeetI n (Inv s') a w) Q) .normal e hp := fun _ _ hf ho => ⟨s', hs, b, e', hp', hi, hf.sub he, ho.sub hh⟩
end

/- ---- structural rules, for code (c), lists of operations (t), exits (x) ---- -/
section
variable {P : Program} {n : NT} {m : Nat} {dk0 : Nat × Obj → Prop} {rq : Option Nat} {b : Base} {Q : Exit → Act → World → Prop} {e : Env} {hp : Hp} {ops : Array Oper}

theorem c_pullb (i : Nat) {x : Nat × Obj} {c : Code} (hi : hp[i]? = some x) (h : SLc P n b Q c e (x :: hp.eraseIdx i)) : SLc P n b Q c e hp := fun a w hf ho => h a w hf (ho.perm (pull hi))
/-- A block is frozen. -/
theorem c_frzb (i : Nat) {x : Nat × Obj} {c : Code} (hi : hp[i]? = some x) (h : ∀ b', b.Le b' → b'.w.heap[x.1]? = some x.2 → SLc P n b' Q c e (hp.eraseIdx i)) : SLc P n b Q c e hp := fun a w hf ho => by
  obtain ⟨h1, h2, h3⟩ := (show Own b ([x] ++ hp.eraseIdx i) w from ho.perm (pull hi)).freeze
  exact h _ h2 (h3 x (by simp)) a w (hf.le h2) h1
/-- A seg is frozen. -/
theorem c_frz (F hs R : Hp) {c : Code} (hh : hp = F ++ (hs ++ R)) (h : ∀ b', b.Le b' → (∀ x ∈ hs, b'.w.heap[x.1]? = some x.2) → SLc P n b' Q c e (F ++ R)) : SLc P n b Q c e hp := fun a w hf ho => by
  rw [hh] at ho
  obtain ⟨h1, h2, h3⟩ := (ho.perm (perm_mid F hs R)).freeze
  exact h _ h2 h3 a w (hf.le h2) h1

theorem t_less (F q q' R : Hp) {l : List Oper} (hh : hp = F ++ (q ++ R)) (hs : q'.Sublist q) (h : SLo P n b ops Q l e (F ++ (q' ++ R))) : SLo P n b ops Q l e hp := fun a w hf ho => h a w hf (by
  rw [hh] at ho
  exact ho.sub (List.Sublist.append_left (List.Sublist.append_right hs R) F))
/-- A block becomes a seg. -/
theorem t_seg (i : Nat) {x : Nat × Obj} (F R : Hp) {l : List Oper} (hi : hp[i]? = some x) (hh : hp.eraseIdx i = F ++ R) (h : SLo P n b ops Q l e (F ++ ([x] ++ R))) : SLo P n b ops Q l e hp := fun a w hf ho => h a w hf (by
  have h1 := ho.perm (pull hi)
  rw [hh] at h1
  exact h1.perm (perm_mid F [x] R).symm)
theorem t_pullb (i : Nat) {x : Nat × Obj} {l : List Oper} (hi : hp[i]? = some x) (h : SLo P n b ops Q l e (x :: hp.eraseIdx i)) : SLo P n b ops Q l e hp := fun a w hf ho => h a w hf (ho.perm (pull hi))
/-- A slot, or a block, is spelled anew. -/
theorem t_resp (s : Nat) {v v' : Value} {l : List Oper} (hl : look e s = some v) (hv : v = v') (h : SLo P n b ops Q l ((s, v') :: e) hp) : SLo P n b ops Q l e hp := fun a w hf ho => h a w ⟨⟨hf.size, fun k u hk => by
  by_cases hsk : s = k
  · subst hsk
    rw [look_cons_eq] at hk
    injection hk with hk
    rw [← hk, ← hv]
    exact hf.get s v hl
  · rw [look_cons_ne hsk] at hk
    exact hf.get k u hk⟩, hf.defers⟩ ho
theorem t_hresp (i : Nat) {g : Nat} {o o' : Obj} {l : List Oper} (hi : hp[i]? = some (g, o)) (hv : o = o') (h : SLo P n b ops Q l e (hp.set i (g, o'))) : SLo P n b ops Q l e hp := by
  subst hv
  have : hp.set i (g, o) = hp := by
    apply List.ext_getElem?
    intro j
    by_cases hij : i = j
    · subst hij
      rw [List.getElem?_set_self (List.getElem?_eq_some_iff.1 hi).1, hi]
    · rw [List.getElem?_set_ne hij]
  rw [this] at h
  exact h
/-- A seg is frozen. -/
theorem t_frz (F hs R : Hp) {l : List Oper} (hh : hp = F ++ (hs ++ R)) (h : ∀ b', b.Le b' → (∀ x ∈ hs, b'.w.heap[x.1]? = some x.2) → SLo P n b' ops Q l e (F ++ R)) : SLo P n b ops Q l e hp := fun a w hf ho => by
  rw [hh] at ho
  obtain ⟨h1, h2, h3⟩ := (ho.perm (perm_mid F hs R)).freeze
  exact h _ h2 h3 a w (hf.le h2) h1

/-- A block becomes a seg. -/
theorem x_seg (i : Nat) {x : Nat × Obj} (F R : Hp) {ex : Exit} (hi : hp[i]? = some x) (hh : hp.eraseIdx i = F ++ R) (h : SLx n b Q ex e (F ++ ([x] ++ R))) : SLx n b Q ex e hp := fun a w hf ho => h a w hf (by
  have h1 := ho.perm (pull hi)
  rw [hh] at h1
  exact h1.perm (perm_mid F [x] R).symm)
theorem x_pullb (i : Nat) {x : Nat × Obj} {ex : Exit} (hi : hp[i]? = some x) (h : SLx n b Q ex e (x :: hp.eraseIdx i)) : SLx n b Q ex e hp := fun a w hf ho => h a w hf (ho.perm (pull hi))
theorem x_hresp (i : Nat) {g : Nat} {o o' : Obj} {ex : Exit} (hi : hp[i]? = some (g, o)) (hv : o = o') (h : SLx n b Q ex e (hp.set i (g, o'))) : SLx n b Q ex e hp := by
  subst hv
  have : hp.set i (g, o) = hp := by
    apply List.ext_getElem?
    intro j
    by_cases hij : i = j
    · subst hij
      rw [List.getElem?_set_self (List.getElem?_eq_some_iff.1 hi).1, hi]
    · rw [List.getElem?_set_ne hij]
  rw [this] at h
  exact h
/-- A seg is frozen. -/
theorem x_frz (F hs R : Hp) {ex : Exit} (hh : hp = F ++ (hs ++ R)) (h : ∀ b', b.Le b' → (∀ x ∈ hs, b'.w.heap[x.1]? = some x.2) → SLx n b' Q ex e (F ++ R)) : SLx n b Q ex e hp := fun a w hf ho => by
  rw [hh] at ho
  obtain ⟨h1, h2, h3⟩ := (ho.perm (perm_mid F hs R)).freeze
  exact h _ h2 h3 a w (hf.le h2) h1

/-- A block becomes a seg. -/
theorem d_seg (i : Nat) {x : Nat × Obj} (F R : Hp) {w0 : Base} {S : Hp} {fuel : Nat} {listed : Array Bool} (hi : hp[i]? = some x) (hh : hp.eraseIdx i = F ++ R) (h : SLA P n w0 b ops S Q fuel listed e (F ++ ([x] ++ R))) : SLA P n w0 b ops S Q fuel listed e hp := fun a w hf ho => h a w hf (by
  have h1 := ho.perm (pull hi)
  rw [hh] at h1
  exact h1.perm (perm_mid F [x] R).symm)
theorem d_pullb (i : Nat) {x : Nat × Obj} {w0 : Base} {S : Hp} {fuel : Nat} {listed : Array Bool} (hi : hp[i]? = some x) (h : SLA P n w0 b ops S Q fuel listed e (x :: hp.eraseIdx i)) : SLA P n w0 b ops S Q fuel listed e hp := fun a w hf ho => h a w hf (ho.perm (pull hi))
/-- A slot, or a block, is spelled anew. -/
theorem d_resp (s : Nat) {v v' : Value} {w0 : Base} {S : Hp} {fuel : Nat} {listed : Array Bool} (hl : look e s = some v) (hv : v = v') (h : SLA P n w0 b ops S Q fuel listed ((s, v') :: e) hp) : SLA P n w0 b ops S Q fuel listed e hp := fun a w hf ho => h a w ⟨⟨hf.size, fun k u hk => by
  by_cases hsk : s = k
  · subst hsk
    rw [look_cons_eq] at hk
    injection hk with hk
    rw [← hk, ← hv]
    exact hf.get s v hl
  · rw [look_cons_ne hsk] at hk
    exact hf.get k u hk⟩, hf.defers⟩ ho
theorem d_hresp (i : Nat) {g : Nat} {o o' : Obj} {w0 : Base} {S : Hp} {fuel : Nat} {listed : Array Bool} (hi : hp[i]? = some (g, o)) (hv : o = o') (h : SLA P n w0 b ops S Q fuel listed e (hp.set i (g, o'))) : SLA P n w0 b ops S Q fuel listed e hp := by
  subst hv
  have : hp.set i (g, o) = hp := by
    apply List.ext_getElem?
    intro j
    by_cases hij : i = j
    · subst hij
      rw [List.getElem?_set_self (List.getElem?_eq_some_iff.1 hi).1, hi]
    · rw [List.getElem?_set_ne hij]
  rw [this] at h
  exact h
/-- A seg is frozen. -/
theorem d_frz (F hs R : Hp) {w0 : Base} {S : Hp} {fuel : Nat} {listed : Array Bool} (hh : hp = F ++ (hs ++ R)) (h : ∀ b', b.Le b' → (∀ x ∈ hs, b'.w.heap[x.1]? = some x.2) → SLA P n w0 b' ops S Q fuel listed e (F ++ R)) : SLA P n w0 b ops S Q fuel listed e hp := fun a w hf ho => by
  rw [hh] at ho
  obtain ⟨h1, h2, h3⟩ := (ho.perm (perm_mid F hs R)).freeze
  exact h _ h2 h3 a w (hf.le h2) h1

end

/- ---- returns ---- -/
def RVal (P : Program) (b : Base) (e : Env) (hp : Hp) : ResultVar → Value → Prop
  | .tmp t, v => look e t = some v
  | .cell a t, v => ∃ A, look e a = some (.pointer (some A)) ∧ ∀ w, Own b hp w → (loadVar t A).run P w = .ok v w
def packV : List Value → Value
  | [v] => v
  | vs => .tuple vs.toArray
def getR (r : ResultVar) (tmps : Array Value) : Sem Value := match r with
  | .tmp t => pure (tmps.getD t undef)
  | .cell a t => do loadVar t (← asAddr (tmps.getD a undef))
theorem run_getR {P : Program} {n : NT} {b b0 : Base} {e : Env} {hp : Hp} {a : Act} {w : World} (hf : Fit n b0 e a) (ho : Own b hp w) {r : ResultVar} {v : Value} (h : RVal P b e hp r v) : (getR r a.tmps).run P w = .ok v w := by
  cases r with
  | tmp t =>
    have hg := hf.get t v h
    simp only [getR, hg]
    rfl
  | cell q t =>
    obtain ⟨A, h2, h3⟩ := h
    have hg := hf.get q _ h2
    simp only [getR, hg, asAddr, Sem.run_bind, Sem.run_pure, Result.andThen_ok, h3 w ho]
theorem results_eq (fn : Func) (tmps : Array Value) : results fn tmps = (do
    let vs ← fn.results.mapM (fun r => getR r tmps)
    pure (if h : vs.size = 1 then vs[0] else .tuple vs)) := rfl
theorem run_results {P : Program} {n : NT} {b b0 : Base} {e : Env} {hp : Hp} {a : Act} {w : World} {fn : Func} (hf : Fit n b0 e a) (ho : Own b hp w) : ∀ {rs : List ResultVar} {vs : List Value}, rs.length ≤ 5 → fn.results = rs.toArray → All2 (RVal P b e hp) rs vs → (results fn a.tmps).run P w = .ok (packV vs) w
  | [], [], _, hr, _ => by simp [results_eq, hr, packV]
  | [_], [_], _, hr, h => by simp [results_eq, hr, packV, run_getR hf ho h.1]
  | [_, _], [_, _], _, hr, h => by simp [results_eq, hr, packV, run_getR hf ho h.1, run_getR hf ho h.2.1]
  | [_, _, _], [_, _, _], _, hr, h => by simp [results_eq, hr, packV, run_getR hf ho h.1, run_getR hf ho h.2.1, run_getR hf ho h.2.2.1]
  | [_, _, _, _], [_, _, _, _], _, hr, h => by simp [results_eq, hr, packV, run_getR hf ho h.1, run_getR hf ho h.2.1, run_getR hf ho h.2.2.1, run_getR hf ho h.2.2.2.1]
  | [_, _, _, _, _], [_, _, _, _, _], _, hr, h => by simp [results_eq, hr, packV, run_getR hf ho h.1, run_getR hf ho h.2.1, run_getR hf ho h.2.2.1, run_getR hf ho h.2.2.2.1, run_getR hf ho h.2.2.2.2.1]
theorem cell_agg {P : Program} {b : Base} {hp : Hp} (i k : Nat) {g o t t' : Nat} {cs vs r : List Value} (ht : aggT P t k = true) (hi : hp[i]? = some (g, Cl t' cs)) (hl : vs.length = k) (hd : cs.drop o = vs ++ r) (w : World) (ho : Own b hp w) : (loadVar t ⟨g, o, none⟩).run P w = .ok (.agg vs.toArray) w := by
  have hc := run_loadCells_list (P := P) w ⟨g, o, none⟩ vs (fun j u hu => by
    rw [Addr.add_lit, ho.cell hi]
    have hj : j < vs.length := (List.getElem?_eq_some_iff.1 hu).1
    show cs[o + j]? = some u
    rw [← List.getElem?_drop, hd, List.getElem?_append_left hj]
    exact hu)
  rw [hl] at hc
  simp [loadVar, run_isAgg_agg ht, run_sizeOf (aggT_siz ht), hc]
theorem cell_one {P : Program} {b : Base} {hp : Hp} (i : Nat) {g o t t' : Nat} {cs : List Value} {v : Value} (ht : oneT P t = true) (hi : hp[i]? = some (g, Cl t' cs)) (hv : cs[o]? = some v) (w : World) (ho : Own b hp w) : (loadVar t ⟨g, o, none⟩).run P w = .ok v w := by
  have hc := ho.cell hi o
  rw [hv] at hc
  simp [loadVar, run_isAgg_one ht, hc]
theorem retM {P : Program} {m : Nat} {w0 b1 : Base} {e : Env} {hp : Hp} {fn : Func} {Φ : Value → Base → Hp → Prop} {rs : List ResultVar} (vs : List Value) (hle : w0.Le b1) (hn : rs.length ≤ 5) (hr : fn.results = rs.toArray) (hv : All2 (RVal P (b1.over w0) e hp) rs vs) {v : Value} (hpk : packV vs = v) {hp' : Hp} (hh : hp'.Sublist hp) (hΦ : Φ v (b1.over w0) hp') :
    SLx ⟨m, fun x => x ∈ w0.dk, none⟩ b1 (postM P fn (PostG w0 Φ)) .ret e hp := fun a w hf ho =>
  leave_R hf rfl ho (fun w' ho' => ⟨v, by rw [← hpk]; exact run_results hf ho' hn hr hv, v, _, hp', rfl, hle.over, ho'.sub hh, hΦ⟩) hle.dk
theorem endM {P : Program} {m : Nat} {w0 b1 : Base} {e : Env} {hp : Hp} {fn : Func} {Φ : Value → Base → Hp → Prop} (hle : w0.Le b1) (hr : fn.results = #[]) {hp' : Hp} (hh : hp'.Sublist hp) (hΦ : Φ (.tuple #[]) (b1.over w0) hp') : SLx ⟨m, fun x => x ∈ w0.dk, none⟩ b1 (postM P fn (PostG w0 Φ)) .normal e hp := fun a w hf ho =>
  leave_R hf rfl ho (fun w' ho' => ⟨.tuple #[], by simp [results, hr], .tuple #[], _, hp', rfl, hle.over, ho'.sub hh, hΦ⟩) hle.dk

section
variable {P : Program} {n : NT} {m : Nat} {dk0 : Nat × Obj → Prop} {rq : Option Nat} {b : Base} {Q : Exit → Act → World → Prop} {e : Env} {hp : Hp} {ops : Array Oper}
theorem outp1 (h1 F R : Hp) : ((h1 ++ (F ++ R))).Perm (F ++ (h1 ++ R)) := perm_mid F h1 R
theorem outp2 (h1 h2 F R : Hp) : ((h1 ++ (h2 ++ (F ++ R)))).Perm (F ++ (h1 ++ (h2 ++ R))) := (List.Perm.append_left h1 (outp1 h2 F R)).trans (perm_mid F h1 (h2 ++ R))
theorem outp3 (h1 h2 h3 F R : Hp) : ((h1 ++ (h2 ++ (h3 ++ (F ++ R))))).Perm (F ++ (h1 ++ (h2 ++ (h3 ++ R)))) := (List.Perm.append_left h1 (outp2 h2 h3 F R)).trans (perm_mid F h1 (h2 ++ (h3 ++ R)))
theorem outp4 (h1 h2 h3 h4 F R : Hp) : ((h1 ++ (h2 ++ (h3 ++ (h4 ++ (F ++ R)))))).Perm (F ++ (h1 ++ (h2 ++ (h3 ++ (h4 ++ R))))) := (List.Perm.append_left h1 (outp3 h2 h3 h4 F R)).trans (perm_mid F h1 (h2 ++ (h3 ++ (h4 ++ R))))
theorem outp5 (h1 h2 h3 h4 h5 F R : Hp) : ((h1 ++ (h2 ++ (h3 ++ (h4 ++ (h5 ++ (F ++ R))))))).Perm (F ++ (h1 ++ (h2 ++ (h3 ++ (h4 ++ (h5 ++ R)))))) := (List.Perm.append_left h1 (outp4 h2 h3 h4 h5 F R)).trans (perm_mid F h1 (h2 ++ (h3 ++ (h4 ++ (h5 ++ R)))))
theorem outp6 (h1 h2 h3 h4 h5 h6 F R : Hp) : ((h1 ++ (h2 ++ (h3 ++ (h4 ++ (h5 ++ (h6 ++ (F ++ R)))))))).Perm (F ++ (h1 ++ (h2 ++ (h3 ++ (h4 ++ (h5 ++ (h6 ++ R))))))) := (List.Perm.append_left h1 (outp5 h2 h3 h4 h5 h6 F R)).trans (perm_mid F h1 (h2 ++ (h3 ++ (h4 ++ (h5 ++ (h6 ++ R))))))
theorem front2 (h1 h2 R : Hp) : ((h2 ++ (h1 ++ R))).Perm ((h1 ++ (h2 ++ R))) := perm_mid h1 h2 R
theorem c_front2 (F h1 h2 R : Hp) {c : Code} (hh : hp = F ++ (h1 ++ (h2 ++ R))) (h : SLc P n b Q c e (F ++ (h2 ++ (h1 ++ R)))) : SLc P n b Q c e hp := fun a w hf ho => h a w hf (by rw [hh] at ho; exact ho.perm (List.Perm.append_left F (front2 h1 h2 R)))
theorem front3 (h1 h2 h3 R : Hp) : ((h3 ++ (h1 ++ (h2 ++ R)))).Perm ((h1 ++ (h2 ++ (h3 ++ R)))) := (perm_mid h1 h3 (h2 ++ R)).trans (List.Perm.append_left h1 (front2 h2 h3 R))
theorem c_front3 (F h1 h2 h3 R : Hp) {c : Code} (hh : hp = F ++ (h1 ++ (h2 ++ (h3 ++ R)))) (h : SLc P n b Q c e (F ++ (h3 ++ (h1 ++ (h2 ++ R))))) : SLc P n b Q c e hp := fun a w hf ho => h a w hf (by rw [hh] at ho; exact ho.perm (List.Perm.append_left F (front3 h1 h2 h3 R)))
theorem front4 (h1 h2 h3 h4 R : Hp) : ((h4 ++ (h1 ++ (h2 ++ (h3 ++ R))))).Perm ((h1 ++ (h2 ++ (h3 ++ (h4 ++ R))))) := (perm_mid h1 h4 (h2 ++ (h3 ++ R))).trans (List.Perm.append_left h1 (front3 h2 h3 h4 R))
theorem c_front4 (F h1 h2 h3 h4 R : Hp) {c : Code} (hh : hp = F ++ (h1 ++ (h2 ++ (h3 ++ (h4 ++ R))))) (h : SLc P n b Q c e (F ++ (h4 ++ (h1 ++ (h2 ++ (h3 ++ R)))))) : SLc P n b Q c e hp := fun a w hf ho => h a w hf (by rw [hh] at ho; exact ho.perm (List.Perm.append_left F (front4 h1 h2 h3 h4 R)))
theorem front5 (h1 h2 h3 h4 h5 R : Hp) : ((h5 ++ (h1 ++ (h2 ++ (h3 ++ (h4 ++ R)))))).Perm ((h1 ++ (h2 ++ (h3 ++ (h4 ++ (h5 ++ R)))))) := (perm_mid h1 h5 (h2 ++ (h3 ++ (h4 ++ R)))).trans (List.Perm.append_left h1 (front4 h2 h3 h4 h5 R))
theorem c_front5 (F h1 h2 h3 h4 h5 R : Hp) {c : Code} (hh : hp = F ++ (h1 ++ (h2 ++ (h3 ++ (h4 ++ (h5 ++ R)))))) (h : SLc P n b Q c e (F ++ (h5 ++ (h1 ++ (h2 ++ (h3 ++ (h4 ++ R))))))) : SLc P n b Q c e hp := fun a w hf ho => h a w hf (by rw [hh] at ho; exact ho.perm (List.Perm.append_left F (front5 h1 h2 h3 h4 h5 R)))
theorem front6 (h1 h2 h3 h4 h5 h6 R : Hp) : ((h6 ++ (h1 ++ (h2 ++ (h3 ++ (h4 ++ (h5 ++ R))))))).Perm ((h1 ++ (h2 ++ (h3 ++ (h4 ++ (h5 ++ (h6 ++ R))))))) := (perm_mid h1 h6 (h2 ++ (h3 ++ (h4 ++ (h5 ++ R))))).trans (List.Perm.append_left h1 (front5 h2 h3 h4 h5 h6 R))
theorem c_front6 (F h1 h2 h3 h4 h5 h6 R : Hp) {c : Code} (hh : hp = F ++ (h1 ++ (h2 ++ (h3 ++ (h4 ++ (h5 ++ (h6 ++ R))))))) (h : SLc P n b Q c e (F ++ (h6 ++ (h1 ++ (h2 ++ (h3 ++ (h4 ++ (h5 ++ R)))))))) : SLc P n b Q c e hp := fun a w hf ho => h a w hf (by rw [hh] at ho; exact ho.perm (List.Perm.append_left F (front6 h1 h2 h3 h4 h5 h6 R)))
theorem front7 (h1 h2 h3 h4 h5 h6 h7 R : Hp) : ((h7 ++ (h1 ++ (h2 ++ (h3 ++ (h4 ++ (h5 ++ (h6 ++ R)))))))).Perm ((h1 ++ (h2 ++ (h3 ++ (h4 ++ (h5 ++ (h6 ++ (h7 ++ R)))))))) := (perm_mid h1 h7 (h2 ++ (h3 ++ (h4 ++ (h5 ++ (h6 ++ R)))))).trans (List.Perm.append_left h1 (front6 h2 h3 h4 h5 h6 h7 R))
theorem c_front7 (F h1 h2 h3 h4 h5 h6 h7 R : Hp) {c : Code} (hh : hp = F ++ (h1 ++ (h2 ++ (h3 ++ (h4 ++ (h5 ++ (h6 ++ (h7 ++ R)))))))) (h : SLc P n b Q c e (F ++ (h7 ++ (h1 ++ (h2 ++ (h3 ++ (h4 ++ (h5 ++ (h6 ++ R))))))))) : SLc P n b Q c e hp := fun a w hf ho => h a w hf (by rw [hh] at ho; exact ho.perm (List.Perm.append_left F (front7 h1 h2 h3 h4 h5 h6 h7 R)))
theorem front8 (h1 h2 h3 h4 h5 h6 h7 h8 R : Hp) : ((h8 ++ (h1 ++ (h2 ++ (h3 ++ (h4 ++ (h5 ++ (h6 ++ (h7 ++ R))))))))).Perm ((h1 ++ (h2 ++ (h3 ++ (h4 ++ (h5 ++ (h6 ++ (h7 ++ (h8 ++ R))))))))) := (perm_mid h1 h8 (h2 ++ (h3 ++ (h4 ++ (h5 ++ (h6 ++ (h7 ++ R))))))).trans (List.Perm.append_left h1 (front7 h2 h3 h4 h5 h6 h7 h8 R))
theorem c_front8 (F h1 h2 h3 h4 h5 h6 h7 h8 R : Hp) {c : Code} (hh : hp = F ++ (h1 ++ (h2 ++ (h3 ++ (h4 ++ (h5 ++ (h6 ++ (h7 ++ (h8 ++ R))))))))) (h : SLc P n b Q c e (F ++ (h8 ++ (h1 ++ (h2 ++ (h3 ++ (h4 ++ (h5 ++ (h6 ++ (h7 ++ R)))))))))) : SLc P n b Q c e hp := fun a w hf ho => h a w hf (by rw [hh] at ho; exact ho.perm (List.Perm.append_left F (front8 h1 h2 h3 h4 h5 h6 h7 h8 R)))
theorem t_out1 (B F h1 R : Hp) {l : List Oper} (hh : hp = B ++ (F ++ (h1 ++ R))) (h : SLo P n b ops Q l e (B ++ (h1 ++ (F ++ R)))) : SLo P n b ops Q l e hp := fun a w hf ho => h a w hf (by rw [hh] at ho; exact ho.perm (List.Perm.append_left B (outp1 h1 F R)))
theorem t_in1 (B F h1 R : Hp) {l : List Oper} (hh : hp = B ++ (h1 ++ (F ++ R))) (h : SLo P n b ops Q l e (B ++ (F ++ (h1 ++ R)))) : SLo P n b ops Q l e hp := fun a w hf ho => h a w hf (by rw [hh] at ho; exact ho.perm (List.Perm.append_left B (outp1 h1 F R).symm))
theorem t_out2 (B F h1 h2 R : Hp) {l : List Oper} (hh : hp = B ++ (F ++ (h1 ++ (h2 ++ R)))) (h : SLo P n b ops Q l e (B ++ (h1 ++ (h2 ++ (F ++ R))))) : SLo P n b ops Q l e hp := fun a w hf ho => h a w hf (by rw [hh] at ho; exact ho.perm (List.Perm.append_left B (outp2 h1 h2 F R)))
theorem t_in2 (B F h1 h2 R : Hp) {l : List Oper} (hh : hp = B ++ (h1 ++ (h2 ++ (F ++ R)))) (h : SLo P n b ops Q l e (B ++ (F ++ (h1 ++ (h2 ++ R))))) : SLo P n b ops Q l e hp := fun a w hf ho => h a w hf (by rw [hh] at ho; exact ho.perm (List.Perm.append_left B (outp2 h1 h2 F R).symm))
theorem t_out3 (B F h1 h2 h3 R : Hp) {l : List Oper} (hh : hp = B ++ (F ++ (h1 ++ (h2 ++ (h3 ++ R))))) (h : SLo P n b ops Q l e (B ++ (h1 ++ (h2 ++ (h3 ++ (F ++ R)))))) : SLo P n b ops Q l e hp := fun a w hf ho => h a w hf (by rw [hh] at ho; exact ho.perm (List.Perm.append_left B (outp3 h1 h2 h3 F R)))
theorem t_in3 (B F h1 h2 h3 R : Hp) {l : List Oper} (hh : hp = B ++ (h1 ++ (h2 ++ (h3 ++ (F ++ R))))) (h : SLo P n b ops Q l e (B ++ (F ++ (h1 ++ (h2 ++ (h3 ++ R)))))) : SLo P n b ops Q l e hp := fun a w hf ho => h a w hf (by rw [hh] at ho; exact ho.perm (List.Perm.append_left B (outp3 h1 h2 h3 F R).symm))
theorem t_in4 (B F h1 h2 h3 h4 R : Hp) {l : List Oper} (hh : hp = B ++ (h1 ++ (h2 ++ (h3 ++ (h4 ++ (F ++ R)))))) (h : SLo P n b ops Q l e (B ++ (F ++ (h1 ++ (h2 ++ (h3 ++ (h4 ++ R))))))) : SLo P n b ops Q l e hp := fun a w hf ho => h a w hf (by rw [hh] at ho; exact ho.perm (List.Perm.append_left B (outp4 h1 h2 h3 h4 F R).symm))
theorem t_out6 (B F h1 h2 h3 h4 h5 h6 R : Hp) {l : List Oper} (hh : hp = B ++ (F ++ (h1 ++ (h2 ++ (h3 ++ (h4 ++ (h5 ++ (h6 ++ R)))))))) (h : SLo P n b ops Q l e (B ++ (h1 ++ (h2 ++ (h3 ++ (h4 ++ (h5 ++ (h6 ++ (F ++ R))))))))) : SLo P n b ops Q l e hp := fun a w hf ho => h a w hf (by rw [hh] at ho; exact ho.perm (List.Perm.append_left B (outp6 h1 h2 h3 h4 h5 h6 F R)))
theorem t_in6 (B F h1 h2 h3 h4 h5 h6 R : Hp) {l : List Oper} (hh : hp = B ++ (h1 ++ (h2 ++ (h3 ++ (h4 ++ (h5 ++ (h6 ++ (F ++ R)))))))) (h : SLo P n b ops Q l e (B ++ (F ++ (h1 ++ (h2 ++ (h3 ++ (h4 ++ (h5 ++ (h6 ++ R))))))))) : SLo P n b ops Q l e hp := fun a w hf ho => h a w hf (by rw [hh] at ho; exact ho.perm (List.Perm.append_left B (outp6 h1 h2 h3 h4 h5 h6 F R).symm))
theorem t_front2 (F h1 h2 R : Hp) {l : List Oper} (hh : hp = F ++ (h1 ++ (h2 ++ R))) (h : SLo P n b ops Q l e (F ++ (h2 ++ (h1 ++ R)))) : SLo P n b ops Q l e hp := fun a w hf ho => h a w hf (by rw [hh] at ho; exact ho.perm (List.Perm.append_left F (front2 h1 h2 R)))
theorem t_front3 (F h1 h2 h3 R : Hp) {l : List Oper} (hh : hp = F ++ (h1 ++ (h2 ++ (h3 ++ R)))) (h : SLo P n b ops Q l e (F ++ (h3 ++ (h1 ++ (h2 ++ R))))) : SLo P n b ops Q l e hp := fun a w hf ho => h a w hf (by rw [hh] at ho; exact ho.perm (List.Perm.append_left F (front3 h1 h2 h3 R)))
theorem t_front4 (F h1 h2 h3 h4 R : Hp) {l : List Oper} (hh : hp = F ++ (h1 ++ (h2 ++ (h3 ++ (h4 ++ R))))) (h : SLo P n b ops Q l e (F ++ (h4 ++ (h1 ++ (h2 ++ (h3 ++ R)))))) : SLo P n b ops Q l e hp := fun a w hf ho => h a w hf (by rw [hh] at ho; exact ho.perm (List.Perm.append_left F (front4 h1 h2 h3 h4 R)))
theorem t_front6 (F h1 h2 h3 h4 h5 h6 R : Hp) {l : List Oper} (hh : hp = F ++ (h1 ++ (h2 ++ (h3 ++ (h4 ++ (h5 ++ (h6 ++ R))))))) (h : SLo P n b ops Q l e (F ++ (h6 ++ (h1 ++ (h2 ++ (h3 ++ (h4 ++ (h5 ++ R)))))))) : SLo P n b ops Q l e hp := fun a w hf ho => h a w hf (by rw [hh] at ho; exact ho.perm (List.Perm.append_left F (front6 h1 h2 h3 h4 h5 h6 R)))
theorem t_front7 (F h1 h2 h3 h4 h5 h6 h7 R : Hp) {l : List Oper} (hh : hp = F ++ (h1 ++ (h2 ++ (h3 ++ (h4 ++ (h5 ++ (h6 ++ (h7 ++ R)))))))) (h : SLo P n b ops Q l e (F ++ (h7 ++ (h1 ++ (h2 ++ (h3 ++ (h4 ++ (h5 ++ (h6 ++ R))))))))) : SLo P n b ops Q l e hp := fun a w hf ho => h a w hf (by rw [hh] at ho; exact ho.perm (List.Perm.append_left F (front7 h1 h2 h3 h4 h5 h6 h7 R)))
theorem x_front2 (F h1 h2 R : Hp) {ex : Exit} (hh : hp = F ++ (h1 ++ (h2 ++ R))) (h : SLx n b Q ex e (F ++ (h2 ++ (h1 ++ R)))) : SLx n b Q ex e hp := fun a w hf ho => h a w hf (by rw [hh] at ho; exact ho.perm (List.Perm.append_left F (front2 h1 h2 R)))
theorem x_front3 (F h1 h2 h3 R : Hp) {ex : Exit} (hh : hp = F ++ (h1 ++ (h2 ++ (h3 ++ R)))) (h : SLx n b Q ex e (F ++ (h3 ++ (h1 ++ (h2 ++ R))))) : SLx n b Q ex e hp := fun a w hf ho => h a w hf (by rw [hh] at ho; exact ho.perm (List.Perm.append_left F (front3 h1 h2 h3 R)))
theorem x_front4 (F h1 h2 h3 h4 R : Hp) {ex : Exit} (hh : hp = F ++ (h1 ++ (h2 ++ (h3 ++ (h4 ++ R))))) (h : SLx n b Q ex e (F ++ (h4 ++ (h1 ++ (h2 ++ (h3 ++ R)))))) : SLx n b Q ex e hp := fun a w hf ho => h a w hf (by rw [hh] at ho; exact ho.perm (List.Perm.append_left F (front4 h1 h2 h3 h4 R)))
theorem x_front5 (F h1 h2 h3 h4 h5 R : Hp) {ex : Exit} (hh : hp = F ++ (h1 ++ (h2 ++ (h3 ++ (h4 ++ (h5 ++ R)))))) (h : SLx n b Q ex e (F ++ (h5 ++ (h1 ++ (h2 ++ (h3 ++ (h4 ++ R))))))) : SLx n b Q ex e hp := fun a w hf ho => h a w hf (by rw [hh] at ho; exact ho.perm (List.Perm.append_left F (front5 h1 h2 h3 h4 h5 R)))
theorem x_front6 (F h1 h2 h3 h4 h5 h6 R : Hp) {ex : Exit} (hh : hp = F ++ (h1 ++ (h2 ++ (h3 ++ (h4 ++ (h5 ++ (h6 ++ R))))))) (h : SLx n b Q ex e (F ++ (h6 ++ (h1 ++ (h2 ++ (h3 ++ (h4 ++ (h5 ++ R)))))))) : SLx n b Q ex e hp := fun a w hf ho => h a w hf (by rw [hh] at ho; exact ho.perm (List.Perm.append_left F (front6 h1 h2 h3 h4 h5 h6 R)))
theorem x_front7 (F h1 h2 h3 h4 h5 h6 h7 R : Hp) {ex : Exit} (hh : hp = F ++ (h1 ++ (h2 ++ (h3 ++ (h4 ++ (h5 ++ (h6 ++ (h7 ++ R)))))))) (h : SLx n b Q ex e (F ++ (h7 ++ (h1 ++ (h2 ++ (h3 ++ (h4 ++ (h5 ++ (h6 ++ R))))))))) : SLx n b Q ex e hp := fun a w hf ho => h a w hf (by rw [hh] at ho; exact ho.perm (List.Perm.append_left F (front7 h1 h2 h3 h4 h5 h6 h7 R)))
theorem x_front8 (F h1 h2 h3 h4 h5 h6 h7 h8 R : Hp) {ex : Exit} (hh : hp = F ++ (h1 ++ (h2 ++ (h3 ++ (h4 ++ (h5 ++ (h6 ++ (h7 ++ (h8 ++ R))))))))) (h : SLx n b Q ex e (F ++ (h8 ++ (h1 ++ (h2 ++ (h3 ++ (h4 ++ (h5 ++ (h6 ++ (h7 ++ R)))))))))) : SLx n b Q ex e hp := fun a w hf ho => h a w hf (by rw [hh] at ho; exact ho.perm (List.Perm.append_left F (front8 h1 h2 h3 h4 h5 h6 h7 h8 R)))
theorem d_in1 (B F h1 R : Hp) {w0 : Base} {S : Hp} {fuel : Nat} {listed : Array Bool} (hh : hp = B ++ (h1 ++ (F ++ R))) (h : SLA P n w0 b ops S Q fuel listed e (B ++ (F ++ (h1 ++ R)))) : SLA P n w0 b ops S Q fuel listed e hp := fun a w hf ho => h a w hf (by rw [hh] at ho; exact ho.perm (List.Perm.append_left B (outp1 h1 F R).symm))
theorem d_out2 (B F h1 h2 R : Hp) {w0 : Base} {S : Hp} {fuel : Nat} {listed : Array Bool} (hh : hp = B ++ (F ++ (h1 ++ (h2 ++ R)))) (h : SLA P n w0 b ops S Q fuel listed e (B ++ (h1 ++ (h2 ++ (F ++ R))))) : SLA P n w0 b ops S Q fuel listed e hp := fun a w hf ho => h a w hf (by rw [hh] at ho; exact ho.perm (List.Perm.append_left B (outp2 h1 h2 F R)))
theorem d_in2 (B F h1 h2 R : Hp) {w0 : Base} {S : Hp} {fuel : Nat} {listed : Array Bool} (hh : hp = B ++ (h1 ++ (h2 ++ (F ++ R)))) (h : SLA P n w0 b ops S Q fuel listed e (B ++ (F ++ (h1 ++ (h2 ++ R))))) : SLA P n w0 b ops S Q fuel listed e hp := fun a w hf ho => h a w hf (by rw [hh] at ho; exact ho.perm (List.Perm.append_left B (outp2 h1 h2 F R).symm))
theorem d_front2 (F h1 h2 R : Hp) {w0 : Base} {S : Hp} {fuel : Nat} {listed : Array Bool} (hh : hp = F ++ (h1 ++ (h2 ++ R))) (h : SLA P n w0 b ops S Q fuel listed e (F ++ (h2 ++ (h1 ++ R)))) : SLA P n w0 b ops S Q fuel listed e hp := fun a w hf ho => h a w hf (by rw [hh] at ho; exact ho.perm (List.Perm.append_left F (front2 h1 h2 R)))
theorem d_front3 (F h1 h2 h3 R : Hp) {w0 : Base} {S : Hp} {fuel : Nat} {listed : Array Bool} (hh : hp = F ++ (h1 ++ (h2 ++ (h3 ++ R)))) (h : SLA P n w0 b ops S Q fuel listed e (F ++ (h3 ++ (h1 ++ (h2 ++ R))))) : SLA P n w0 b ops S Q fuel listed e hp := fun a w hf ho => h a w hf (by rw [hh] at ho; exact ho.perm (List.Perm.append_left F (front3 h1 h2 h3 R)))
theorem d_front4 (F h1 h2 h3 h4 R : Hp) {w0 : Base} {S : Hp} {fuel : Nat} {listed : Array Bool} (hh : hp = F ++ (h1 ++ (h2 ++ (h3 ++ (h4 ++ R))))) (h : SLA P n w0 b ops S Q fuel listed e (F ++ (h4 ++ (h1 ++ (h2 ++ (h3 ++ R)))))) : SLA P n w0 b ops S Q fuel listed e hp := fun a w hf ho => h a w hf (by rw [hh] at ho; exact ho.perm (List.Perm.append_left F (front4 h1 h2 h3 h4 R)))
theorem d_front5 (F h1 h2 h3 h4 h5 R : Hp) {w0 : Base} {S : Hp} {fuel : Nat} {listed : Array Bool} (hh : hp = F ++ (h1 ++ (h2 ++ (h3 ++ (h4 ++ (h5 ++ R)))))) (h : SLA P n w0 b ops S Q fuel listed e (F ++ (h5 ++ (h1 ++ (h2 ++ (h3 ++ (h4 ++ R))))))) : SLA P n w0 b ops S Q fuel listed e hp := fun a w hf ho => h a w hf (by rw [hh] at ho; exact ho.perm (List.Perm.append_left F (front5 h1 h2 h3 h4 h5 R)))
theorem d_front6 (F h1 h2 h3 h4 h5 h6 R : Hp) {w0 : Base} {S : Hp} {fuel : Nat} {listed : Array Bool} (hh : hp = F ++ (h1 ++ (h2 ++ (h3 ++ (h4 ++ (h5 ++ (h6 ++ R))))))) (h : SLA P n w0 b ops S Q fuel listed e (F ++ (h6 ++ (h1 ++ (h2 ++ (h3 ++ (h4 ++ (h5 ++ R)))))))) : SLA P n w0 b ops S Q fuel listed e hp := fun a w hf ho => h a w hf (by rw [hh] at ho; exact ho.perm (List.Perm.append_left F (front6 h1 h2 h3 h4 h5 h6 R)))
end
theorem sub_app {l m : Hp} (q : Hp) (h : l.Sublist m) : (q ++ l).Sublist (q ++ m) := List.Sublist.append_left h q
theorem sub_skip {l m : Hp} (q : Hp) (h : l.Sublist m) : l.Sublist (q ++ m) := h.trans (List.sublist_append_right q m)
theorem bindS {α β : Type} {o : Option α} {f : α → Option β} {r : β} (h : o.bind f = some r) : ∃ x, o = some x ∧ f x = some r := Option.bind_eq_some_iff.1 h
theorem elimL {α β γ : Type} {f : α → Option γ} {g : β → Option γ} {x : α} {r : γ} (h : Sum.elim f g (.inl x) = some r) : f x = some r := h
theorem elimR {α β γ : Type} {f : α → Option γ} {g : β → Option γ} {x : β} {r : γ} (h : Sum.elim f g (.inr x) = some r) : g x = some r := h

theorem some1 {α : Type} {a b : α} (h : some a = some b) : a = b := Option.some.inj h
def unc2 {A1 A2 B : Type} (f : A1 → A2 → B) (p : A1 × A2) : B := f p.1 p.2
theorem some2 {A1 A2 : Type} {x1 y1 : A1} {x2 y2 : A2} (h : some (x1, x2) = some (y1, y2)) : x1 = y1 ∧ x2 = y2 := by
  have h := Option.some.inj h
  simp only [Prod.mk.injEq] at h
  exact h
theorem unc2E {A1 A2 B : Type} {f : A1 → A2 → Option B} {x1 : A1} {x2 : A2} {r : B} (h : unc2 f (x1, x2) = some r) : f x1 x2 = some r := h
def unc3 {A1 A2 A3 B : Type} (f : A1 → A2 → A3 → B) (p : A1 × A2 × A3) : B := f p.1 p.2.1 p.2.2
theorem some3 {A1 A2 A3 : Type} {x1 y1 : A1} {x2 y2 : A2} {x3 y3 : A3} (h : some (x1, x2, x3) = some (y1, y2, y3)) : x1 = y1 ∧ x2 = y2 ∧ x3 = y3 := by
  have h := Option.some.inj h
  simp only [Prod.mk.injEq] at h
  exact h
theorem unc3E {A1 A2 A3 B : Type} {f : A1 → A2 → A3 → Option B} {x1 : A1} {x2 : A2} {x3 : A3} {r : B} (h : unc3 f (x1, x2, x3) = some r) : f x1 x2 x3 = some r := h
def unc4 {A1 A2 A3 A4 B : Type} (f : A1 → A2 → A3 → A4 → B) (p : A1 × A2 × A3 × A4) : B := f p.1 p.2.1 p.2.2.1 p.2.2.2
theorem some4 {A1 A2 A3 A4 : Type} {x1 y1 : A1} {x2 y2 : A2} {x3 y3 : A3} {x4 y4 : A4} (h : some (x1, x2, x3, x4) = some (y1, y2, y3, y4)) : x1 = y1 ∧ x2 = y2 ∧ x3 = y3 ∧ x4 = y4 := by
  have h := Option.some.inj h
  simp only [Prod.mk.injEq] at h
  exact h
theorem unc4E {A1 A2 A3 A4 B : Type} {f : A1 → A2 → A3 → A4 → Option B} {x1 : A1} {x2 : A2} {x3 : A3} {x4 : A4} {r : B} (h : unc4 f (x1, x2, x3, x4) = some r) : f x1 x2 x3 x4 = some r := h
def unc5 {A1 A2 A3 A4 A5 B : Type} (f : A1 → A2 → A3 → A4 → A5 → B) (p : A1 × A2 × A3 × A4 × A5) : B := f p.1 p.2.1 p.2.2.1 p.2.2.2.1 p.2.2.2.2
def unc6 {A1 A2 A3 A4 A5 A6 B : Type} (f : A1 → A2 → A3 → A4 → A5 → A6 → B) (p : A1 × A2 × A3 × A4 × A5 × A6) : B := f p.1 p.2.1 p.2.2.1 p.2.2.2.1 p.2.2.2.2.1 p.2.2.2.2.2
theorem some6 {A1 A2 A3 A4 A5 A6 : Type} {x1 y1 : A1} {x2 y2 : A2} {x3 y3 : A3} {x4 y4 : A4} {x5 y5 : A5} {x6 y6 : A6} (h : some (x1, x2, x3, x4, x5, x6) = some (y1, y2, y3, y4, y5, y6)) : x1 = y1 ∧ x2 = y2 ∧ x3 = y3 ∧ x4 = y4 ∧ x5 = y5 ∧ x6 = y6 := by
  have h := Option.some.inj h
  simp only [Prod.mk.injEq] at h
  exact h
theorem unc6E {A1 A2 A3 A4 A5 A6 B : Type} {f : A1 → A2 → A3 → A4 → A5 → A6 → Option B} {x1 : A1} {x2 : A2} {x3 : A3} {x4 : A4} {x5 : A5} {x6 : A6} {r : B} (h : unc6 f (x1, x2, x3, x4, x5, x6) = some r) : f x1 x2 x3 x4 x5 x6 = some r := h
def unc7 {A1 A2 A3 A4 A5 A6 A7 B : Type} (f : A1 → A2 → A3 → A4 → A5 → A6 → A7 → B) (p : A1 × A2 × A3 × A4 × A5 × A6 × A7) : B := f p.1 p.2.1 p.2.2.1 p.2.2.2.1 p.2.2.2.2.1 p.2.2.2.2.2.1 p.2.2.2.2.2.2
theorem some7 {A1 A2 A3 A4 A5 A6 A7 : Type} {x1 y1 : A1} {x2 y2 : A2} {x3 y3 : A3} {x4 y4 : A4} {x5 y5 : A5} {x6 y6 : A6} {x7 y7 : A7} (h : some (x1, x2, x3, x4, x5, x6, x7) = some (y1, y2, y3, y4, y5, y6, y7)) : x1 = y1 ∧ x2 = y2 ∧ x3 = y3 ∧ x4 = y4 ∧ x5 = y5 ∧ x6 = y6 ∧ x7 = y7 := by
  have h := Option.some.inj h
  simp only [Prod.mk.injEq] at h
  exact h
theorem unc7E {A1 A2 A3 A4 A5 A6 A7 B : Type} {f : A1 → A2 → A3 → A4 → A5 → A6 → A7 → Option B} {x1 : A1} {x2 : A2} {x3 : A3} {x4 : A4} {x5 : A5} {x6 : A6} {x7 : A7} {r : B} (h : unc7 f (x1, x2, x3, x4, x5, x6, x7) = some r) : f x1 x2 x3 x4 x5 x6 x7 = some r := h
def unc8 {A1 A2 A3 A4 A5 A6 A7 A8 B : Type} (f : A1 → A2 → A3 → A4 → A5 → A6 → A7 → A8 → B) (p : A1 × A2 × A3 × A4 × A5 × A6 × A7 × A8) : B := f p.1 p.2.1 p.2.2.1 p.2.2.2.1 p.2.2.2.2.1 p.2.2.2.2.2.1 p.2.2.2.2.2.2.1 p.2.2.2.2.2.2.2
def unc9 {A1 A2 A3 A4 A5 A6 A7 A8 A9 B : Type} (f : A1 → A2 → A3 → A4 → A5 → A6 → A7 → A8 → A9 → B) (p : A1 × A2 × A3 × A4 × A5 × A6 × A7 × A8 × A9) : B := f p.1 p.2.1 p.2.2.1 p.2.2.2.1 p.2.2.2.2.1 p.2.2.2.2.2.1 p.2.2.2.2.2.2.1 p.2.2.2.2.2.2.2.1 p.2.2.2.2.2.2.2.2
theorem unc9E {A1 A2 A3 A4 A5 A6 A7 A8 A9 B : Type} {f : A1 → A2 → A3 → A4 → A5 → A6 → A7 → A8 → A9 → Option B} {x1 : A1} {x2 : A2} {x3 : A3} {x4 : A4} {x5 : A5} {x6 : A6} {x7 : A7} {x8 : A8} {x9 : A9} {r : B} (h : unc9 f (x1, x2, x3, x4, x5, x6, x7, x8, x9) = some r) : f x1 x2 x3 x4 x5 x6 x7 x8 x9 = some r := h
def unc10 {A1 A2 A3 A4 A5 A6 A7 A8 A9 A10 B : Type} (f : A1 → A2 → A3 → A4 → A5 → A6 → A7 → A8 → A9 → A10 → B) (p : A1 × A2 × A3 × A4 × A5 × A6 × A7 × A8 × A9 × A10) : B := f p.1 p.2.1 p.2.2.1 p.2.2.2.1 p.2.2.2.2.1 p.2.2.2.2.2.1 p.2.2.2.2.2.2.1 p.2.2.2.2.2.2.2.1 p.2.2.2.2.2.2.2.2.1 p.2.2.2.2.2.2.2.2.2
theorem unc10E {A1 A2 A3 A4 A5 A6 A7 A8 A9 A10 B : Type} {f : A1 → A2 → A3 → A4 → A5 → A6 → A7 → A8 → A9 → A10 → Option B} {x1 : A1} {x2 : A2} {x3 : A3} {x4 : A4} {x5 : A5} {x6 : A6} {x7 : A7} {x8 : A8} {x9 : A9} {x10 : A10} {r : B} (h : unc10 f (x1, x2, x3, x4, x5, x6, x7, x8, x9, x10) = some r) : f x1 x2 x3 x4 x5 x6 x7 x8 x9 x10 = some r := h
def unc11 {A1 A2 A3 A4 A5 A6 A7 A8 A9 A10 A11 B : Type} (f : A1 → A2 → A3 → A4 → A5 → A6 → A7 → A8 → A9 → A10 → A11 → B) (p : A1 × A2 × A3 × A4 × A5 × A6 × A7 × A8 × A9 × A10 × A11) : B := f p.1 p.2.1 p.2.2.1 p.2.2.2.1 p.2.2.2.2.1 p.2.2.2.2.2.1 p.2.2.2.2.2.2.1 p.2.2.2.2.2.2.2.1 p.2.2.2.2.2.2.2.2.1 p.2.2.2.2.2.2.2.2.2.1 p.2.2.2.2.2.2.2.2.2.2
def unc12 {A1 A2 A3 A4 A5 A6 A7 A8 A9 A10 A11 A12 B : Type} (f : A1 → A2 → A3 → A4 → A5 → A6 → A7 → A8 → A9 → A10 → A11 → A12 → B) (p : A1 × A2 × A3 × A4 × A5 × A6 × A7 × A8 × A9 × A10 × A11 × A12) : B := f p.1 p.2.1 p.2.2.1 p.2.2.2.1 p.2.2.2.2.1 p.2.2.2.2.2.1 p.2.2.2.2.2.2.1 p.2.2.2.2.2.2.2.1 p.2.2.2.2.2.2.2.2.1 p.2.2.2.2.2.2.2.2.2.1 p.2.2.2.2.2.2.2.2.2.2.1 p.2.2.2.2.2.2.2.2.2.2.2
def unc13 {A1 A2 A3 A4 A5 A6 A7 A8 A9 A10 A11 A12 A13 B : Type} (f : A1 → A2 → A3 → A4 → A5 → A6 → A7 → A8 → A9 → A10 → A11 → A12 → A13 → B) (p : A1 × A2 × A3 × A4 × A5 × A6 × A7 × A8 × A9 × A10 × A11 × A12 × A13) : B := f p.1 p.2.1 p.2.2.1 p.2.2.2.1 p.2.2.2.2.1 p.2.2.2.2.2.1 p.2.2.2.2.2.2.1 p.2.2.2.2.2.2.2.1 p.2.2.2.2.2.2.2.2.1 p.2.2.2.2.2.2.2.2.2.1 p.2.2.2.2.2.2.2.2.2.2.1 p.2.2.2.2.2.2.2.2.2.2.2.1 p.2.2.2.2.2.2.2.2.2.2.2.2
def unc14 {A1 A2 A3 A4 A5 A6 A7 A8 A9 A10 A11 A12 A13 A14 B : Type} (f : A1 → A2 → A3 → A4 → A5 → A6 → A7 → A8 → A9 → A10 → A11 → A12 → A13 → A14 → B) (p : A1 × A2 × A3 × A4 × A5 × A6 × A7 × A8 × A9 × A10 × A11 × A12 × A13 × A14) : B := f p.1 p.2.1 p.2.2.1 p.2.2.2.1 p.2.2.2.2.1 p.2.2.2.2.2.1 p.2.2.2.2.2.2.1 p.2.2.2.2.2.2.2.1 p.2.2.2.2.2.2.2.2.1 p.2.2.2.2.2.2.2.2.2.1 p.2.2.2.2.2.2.2.2.2.2.1 p.2.2.2.2.2.2.2.2.2.2.2.1 p.2.2.2.2.2.2.2.2.2.2.2.2.1 p.2.2.2.2.2.2.2.2.2.2.2.2.2
def unc15 {A1 A2 A3 A4 A5 A6 A7 A8 A9 A10 A11 A12 A13 A14 A15 B : Type} (f : A1 → A2 → A3 → A4 → A5 → A6 → A7 → A8 → A9 → A10 → A11 → A12 → A13 → A14 → A15 → B) (p : A1 × A2 × A3 × A4 × A5 × A6 × A7 × A8 × A9 × A10 × A11 × A12 × A13 × A14 × A15) : B := f p.1 p.2.1 p.2.2.1 p.2.2.2.1 p.2.2.2.2.1 p.2.2.2.2.2.1 p.2.2.2.2.2.2.1 p.2.2.2.2.2.2.2.1 p.2.2.2.2.2.2.2.2.1 p.2.2.2.2.2.2.2.2.2.1 p.2.2.2.2.2.2.2.2.2.2.1 p.2.2.2.2.2.2.2.2.2.2.2.1 p.2.2.2.2.2.2.2.2.2.2.2.2.1 p.2.2.2.2.2.2.2.2.2.2.2.2.2.1 p.2.2.2.2.2.2.2.2.2.2.2.2.2.2
def unc16 {A1 A2 A3 A4 A5 A6 A7 A8 A9 A10 A11 A12 A13 A14 A15 A16 B : Type} (f : A1 → A2 → A3 → A4 → A5 → A6 → A7 → A8 → A9 → A10 → A11 → A12 → A13 → A14 → A15 → A16 → B) (p : A1 × A2 × A3 × A4 × A5 × A6 × A7 × A8 × A9 × A10 × A11 × A12 × A13 × A14 × A15 × A16) : B := f p.1 p.2.1 p.2.2.1 p.2.2.2.1 p.2.2.2.2.1 p.2.2.2.2.2.1 p.2.2.2.2.2.2.1 p.2.2.2.2.2.2.2.1 p.2.2.2.2.2.2.2.2.1 p.2.2.2.2.2.2.2.2.2.1 p.2.2.2.2.2.2.2.2.2.2.1 p.2.2.2.2.2.2.2.2.2.2.2.1 p.2.2.2.2.2.2.2.2.2.2.2.2.1 p.2.2.2.2.2.2.2.2.2.2.2.2.2.1 p.2.2.2.2.2.2.2.2.2.2.2.2.2.2.1 p.2.2.2.2.2.2.2.2.2.2.2.2.2.2.2
section
variable {P : Program} {n : NT} {m : Nat} {dk0 : Nat × Obj → Prop} {rq : Option Nat} {b : Base} {Q : Exit → Act → World → Prop} {e : Env} {hp : Hp} {ty : TypeId}
/-- A call of a function that only reads what is there. -/
theorem u_callW {f : FuncId} {xs : Array Operand} {ts : Array TypeId} {Φ : Value → Base → Hp → Prop} (vs : List Value) (hc : callable P f = true) (hv : vals e xs.toList = some vs) (h : ∀ w, Own b hp w → CallsG P f vs (w : Base) [] Φ) :
    Does P n b (.call { callee := .value (.func f), args := xs, argTypes := ts }) ty e hp (fun v hp' => ∃ b' hs, hs ++ hp = hp' ∧ Φ v b' hs) := ⟨fun a w hf ho d pos af g K Q hK => by
  have hargs : xs.map a.eval = vs.toArray := Array.ext' (by rw [Array.toList_map]; exact hf.evals hv)
  have hrun : (execOp a.eval ⟨d, .call { callee := .value (.func f), args := xs, argTypes := ts }, ty, pos, af, g⟩).run P w = .ok (.enter f vs.toArray) w := by
    simp only [execOp, resolve, Act.eval, Deferred.ofValue, hargs, Sem.run_bind, Sem.run_pure, Result.andThen_ok, invoke]
    simpa using run_callFunc (P := P) hc vs.toArray w
  simp only [Oper.wp, hrun, Oper.upon]
  exact (h w ho w (Own.start w)).mono fun en w' ⟨v, b', hs, he, hle, ho', hΦ⟩ => by
    subst he
    exact hK v (hs ++ hp) w' ⟨b', hs, rfl, hΦ⟩ (ho.grow (hle.back _ _ ho'))⟩
theorem u_callWF (F R : Hp) {f : FuncId} {xs : Array Operand} {ts : Array TypeId} {Φ : Value → Base → Hp → Prop} (vs : List Value) (hhp : hp = F ++ R) (hc : callable P f = true) (hv : vals e xs.toList = some vs) (h : ∀ w, Own b hp w → CallsG P f vs (w : Base) [] Φ) :
    Does P n b (.call { callee := .value (.func f), args := xs, argTypes := ts }) ty e hp (fun v hp' => ∃ b' q, F ++ (q ++ R) = hp' ∧ Φ v b' (q ++ [])) := ⟨fun a w hf ho d pos af g K Q hK => (u_callW vs hc hv h).out a w hf ho d pos af g K Q (fun v hp' w' ⟨b', hs, h1, h2⟩ ho' => by
  subst h1
  rw [hhp] at ho'
  exact hK v (F ++ (hs ++ R)) w' ⟨b', hs, rfl, by rw [List.append_nil]; exact h2⟩ (ho'.perm (perm_mid F hs R).symm))⟩
theorem u_callW0 {f : FuncId} {xs : Array Operand} {ts : Array TypeId} {Φ : Value → Base → Hp → Prop} (vs : List Value) (hc : callable P f = true) (hv : vals e xs.toList = some vs) (h : ∀ w, Own b hp w → CallsG P f vs (w : Base) [] Φ) (h0 : ∀ v b' hs, Φ v b' hs → hs = []) :
    Does P n b (.call { callee := .value (.func f), args := xs, argTypes := ts }) ty e hp (fun v hp' => (∃ b', Φ v b' []) ∧ hp = hp') := ⟨fun a w hf ho d pos af g K Q hK => (u_callW vs hc hv h).out a w hf ho d pos af g K Q (fun v hp' w' ⟨b', hs, h1, h2⟩ ho' => by
  have h3 := h0 v b' hs h2
  subst h3
  exact hK v hp' w' ⟨⟨b', h2⟩, h1⟩ ho')⟩
theorem u_callvW {f : FuncId} {x : Operand} {xs : Array Operand} {ts : Array TypeId} {Φ : Value → Base → Hp → Prop} (first captured : Array Value) (vs : List Value) (hx : val e x = some (.func (.func f) first captured)) (hc : callable P f = true) (hv : vals e xs.toList = some vs) (h : ∀ w, Own b hp w → CallsG P f (first.toList ++ vs ++ captured.toList) (w : Base) [] Φ) :
    Does P n b (.call { callee := .value x, args := xs, argTypes := ts }) ty e hp (fun v hp' => ∃ b' hs, hs ++ hp = hp' ∧ Φ v b' hs) := ⟨fun a w hf ho d pos af g K Q hK => by
  have hargs : xs.map a.eval = vs.toArray := Array.ext' (by rw [Array.toList_map]; exact hf.evals hv)
  have hrun : (execOp a.eval ⟨d, .call { callee := .value x, args := xs, argTypes := ts }, ty, pos, af, g⟩).run P w = .ok (.enter f (first ++ vs.toArray ++ captured)) w := by
    simp only [execOp, resolve, hf.eval hx, Deferred.ofValue, hargs, Sem.run_bind, Sem.run_pure, Result.andThen_ok, invoke]
    exact run_callFunc (P := P) hc _ w
  simp only [Oper.wp, hrun, Oper.upon]
  have h' := h w ho w (Own.start w)
  have harr : (first.toList ++ vs ++ captured.toList).toArray = first ++ vs.toArray ++ captured := by simp
  rw [harr] at h'
  exact h'.mono fun en w' ⟨v, b', hs, he, hle, ho', hΦ⟩ => by
    subst he
    exact hK v (hs ++ hp) w' ⟨b', hs, rfl, hΦ⟩ (ho.grow (hle.back _ _ ho'))⟩
theorem u_callvW0 {f : FuncId} {x : Operand} {xs : Array Operand} {ts : Array TypeId} {Φ : Value → Base → Hp → Prop} (first captured : Array Value) (vs : List Value) (hx : val e x = some (.func (.func f) first captured)) (hc : callable P f = true) (hv : vals e xs.toList = some vs) (h : ∀ w, Own b hp w → CallsG P f (first.toList ++ vs ++ captured.toList) (w : Base) [] Φ) (h0 : ∀ v b' hs, Φ v b' hs → hs = []) :
    Does P n b (.call { callee := .value x, args := xs, argTypes := ts }) ty e hp (fun v hp' => (∃ b', Φ v b' []) ∧ hp = hp') := ⟨fun a w hf ho d pos af g K Q hK => (u_callvW first captured vs hx hc hv h).out a w hf ho d pos af g K Q (fun v hp' w' ⟨b', hs, h1, h2⟩ ho' => by
  have h3 := h0 v b' hs h2
  subst h3
  exact hK v hp' w' ⟨⟨b', h2⟩, h1⟩ ho')⟩
theorem stB {op : Op} {t c : Bool} (h : Stable P n b op ty e hp (.bool t)) (hq : t = c) : Stable P n b op ty e hp (.bool c) := hq ▸ h
theorem D_drawS (S : Hp) {id : Nat} {l : List Oper} (hm : P.follows .mixedOrders = true) (h : SLA P n b b l.toArray S Q l.length (Array.replicate l.length false) e hp) (hl : okR n.rd l = true := by rfl) : SLc P n b Q (.region id l.toArray true) e hp :=
  fun a w hf ho => wpIn_mono (wpIn_region_any hm (by
    have := h a { w with drawn := w.drawn + 1 } hf (ho.drawn _)
    have h2 := wpAny_R hl _ _ _ _ (wpAny_of_anyS _ _ _ _ this)
    simpa using h2)) Calm.imp
theorem R_callGl {w0 : Base} {S : Hp} {ops : Array Oper} {pos : String} {af : Array Edge} {d : Option Tmp} {fuel : Nat} {listed : Array Bool} {Φ : Value → Base → Hp → Prop} (hle : w0.Le b) {i : Nat} {rs : List Nat} {f : FuncId} {xs : Array Operand} {ts : Array TypeId} (hi : ops[i]? = some ⟨d, .call { callee := .value (.func f), args := xs, argTypes := ts }, ty, pos, af, none⟩) (hd : okD d m = true)
    (vs : List Value) (hc : callable P f = true) (hv : vals e xs.toList = some vs) (hcall : CallsG P f vs b hp Φ)
    (h : ∀ v b' hp', b.Le b' → Φ v b' hp' → (noLate .any ops (listed.setIfInBounds i true) = false ∨ S.Sublist hp') ∧ SLA P (NT.mk m dk0 rq) w0 b' ops S Q fuel (listed.setIfInBounds i true) (putE d v e) hp')
    (hs : SLR P (NT.mk m dk0 rq) w0 b ops S Q fuel listed e hp rs) : SLR P (NT.mk m dk0 rq) w0 b ops S Q fuel listed e hp (i :: rs) := fun j hj a w hf ho => by
  rcases List.mem_cons.1 hj with rfl | hj
  · unfold wpOp
    simp only [hi]
    rw [if_pos (by simp [Region.wanted])]
    refine .inl ?_
    have hargs : xs.map a.eval = vs.toArray := Array.ext' (by rw [Array.toList_map]; exact hf.evals hv)
    have hrun : (execOp a.eval ⟨d, .call { callee := .value (.func f), args := xs, argTypes := ts }, ty, pos, af, none⟩).run P w = .ok (.enter f vs.toArray) w := by
      simp only [execOp, resolve, Act.eval, Deferred.ofValue, hargs, Sem.run_bind, Sem.run_pure, Result.andThen_ok, invoke]
      simpa using run_callFunc (P := P) hc vs.toArray w
    simp only [Oper.wp, hrun, Oper.upon]
    exact (hcall w ho).mono fun en w' ⟨v, b', hp', he, hle', ho', hΦ⟩ => by
      subst he
      obtain ⟨h1, h2⟩ := h v b' hp' hle' hΦ
      refine ⟨⟨fun hl => ?_, ((hle.trans hle').back _ _ ho').sub (List.nil_sublist _)⟩, h2 _ _ ((hf.putE hd v).le hle') ho'⟩
      rcases h1 with h1 | h1
      · rw [h1] at hl; cases hl
      · exact ((hle.trans hle').back _ _ ho').sub h1
  · exact hs j hj a w hf ho
theorem R_callvG {w0 : Base} {S : Hp} {ops : Array Oper} {pos : String} {af : Array Edge} {d : Option Tmp} {fuel : Nat} {listed : Array Bool} {Φ : Value → Base → Hp → Prop} (hle : w0.Le b) {i : Nat} {rs : List Nat} {f : FuncId} {x : Operand} {xs : Array Operand} {ts : Array TypeId} (hi : ops[i]? = some ⟨d, .call { callee := .value x, args := xs, argTypes := ts }, ty, pos, af, none⟩) (hd : okD d m = true)
    (first captured : Array Value) (vs : List Value) (hx : val e x = some (.func (.func f) first captured)) (hc : callable P f = true) (hv : vals e xs.toList = some vs) (hcall : CallsG P f (first.toList ++ vs ++ captured.toList) b hp Φ)
    (h : ∀ v b' hp', b.Le b' → Φ v b' hp' → (noLate .any ops (listed.setIfInBounds i true) = false ∨ S.Sublist hp') ∧ SLA P (NT.mk m dk0 rq) w0 b' ops S Q fuel (listed.setIfInBounds i true) (putE d v e) hp')
    (hs : SLR P (NT.mk m dk0 rq) w0 b ops S Q fuel listed e hp rs) : SLR P (NT.mk m dk0 rq) w0 b ops S Q fuel listed e hp (i :: rs) := fun j hj a w hf ho => by
  rcases List.mem_cons.1 hj with rfl | hj
  · unfold wpOp
    simp only [hi]
    rw [if_pos (by simp [Region.wanted])]
    refine .inl ?_
    have hargs : xs.map a.eval = vs.toArray := Array.ext' (by rw [Array.toList_map]; exact hf.evals hv)
    have hrun : (execOp a.eval ⟨d, .call { callee := .value x, args := xs, argTypes := ts }, ty, pos, af, none⟩).run P w = .ok (.enter f (first ++ vs.toArray ++ captured)) w := by
      simp only [execOp, resolve, hf.eval hx, Deferred.ofValue, hargs, Sem.run_bind, Sem.run_pure, Result.andThen_ok, invoke]
      exact run_callFunc (P := P) hc _ w
    simp only [Oper.wp, hrun, Oper.upon]
    have h' := hcall w ho
    have harr : (first.toList ++ vs ++ captured.toList).toArray = first ++ vs.toArray ++ captured := by simp
    rw [harr] at h'
    exact h'.mono fun en w' ⟨v, b', hp', he, hle', ho', hΦ⟩ => by
      subst he
      obtain ⟨h1, h2⟩ := h v b' hp' hle' hΦ
      refine ⟨⟨fun hl => ?_, ((hle.trans hle').back _ _ ho').sub (List.nil_sublist _)⟩, h2 _ _ ((hf.putE hd v).le hle') ho'⟩
      rcases h1 with h1 | h1
      · rw [h1] at hl; cases hl
      · exact ((hle.trans hle').back _ _ ho').sub h1
  · exact hs j hj a w hf ho
theorem R_callGlY {w0 : Base} {S : Hp} {ops : Array Oper} {pos : String} {af : Array Edge} {d : Option Tmp} {fuel : Nat} {listed : Array Bool} {Φ : Value → Base → Hp → Prop} (hle : w0.Le b) {i j : Nat} {tt : Bool} {rs : List Nat} {f : FuncId} {xs : Array Operand} {ts : Array TypeId} (hi : ops[i]? = some ⟨d, .call { callee := .value (.func f), args := xs, argTypes := ts }, ty, pos, af, some (j, tt)⟩) (hd : okD d m = true) (dj : Nat) (hj : (ops[j]?).bind (·.dst) = some dj) (hl : look e dj = some (.bool tt)) (hdj : Nat.blt dj m = true)
    (vs : List Value) (hc : callable P f = true) (hv : vals e xs.toList = some vs) (hcall : CallsG P f vs b hp Φ)
    (h : ∀ v b' hp', b.Le b' → Φ v b' hp' → (noLate .any ops (listed.setIfInBounds i true) = false ∨ S.Sublist hp') ∧ SLA P (NT.mk m dk0 rq) w0 b' ops S Q fuel (listed.setIfInBounds i true) (putE d v e) hp')
    (hs : SLR P (NT.mk m dk0 rq) w0 b ops S Q fuel listed e hp rs) : SLR P (NT.mk m dk0 rq) w0 b ops S Q fuel listed e hp (i :: rs) := fun j2 hj2 a w hf ho => by
  rcases List.mem_cons.1 hj2 with rfl | hj2
  · unfold wpOp
    simp only [hi]
    rw [if_pos (by rw [wanted_of hf hj hl _ rfl hdj]; simp)]
    refine .inl ?_
    have hargs : xs.map a.eval = vs.toArray := Array.ext' (by rw [Array.toList_map]; exact hf.evals hv)
    have hrun : (execOp a.eval ⟨d, .call { callee := .value (.func f), args := xs, argTypes := ts }, ty, pos, af, some (j, tt)⟩).run P w = .ok (.enter f vs.toArray) w := by
      simp only [execOp, resolve, Act.eval, Deferred.ofValue, hargs, Sem.run_bind, Sem.run_pure, Result.andThen_ok, invoke]
      simpa using run_callFunc (P := P) hc vs.toArray w
    simp only [Oper.wp, hrun, Oper.upon]
    exact (hcall w ho).mono fun en w' ⟨v, b', hp', he, hle', ho', hΦ⟩ => by
      subst he
      obtain ⟨h1, h2⟩ := h v b' hp' hle' hΦ
      refine ⟨⟨fun hlb => ?_, ((hle.trans hle').back _ _ ho').sub (List.nil_sublist _)⟩, h2 _ _ ((hf.putE hd v).le hle') ho'⟩
      rcases h1 with h1 | h1
      · rw [h1] at hlb; cases hlb
      · exact ((hle.trans hle').back _ _ ho').sub h1
  · exact hs j2 hj2 a w hf ho
theorem R_doY {w0 : Base} {S : Hp} {ops : Array Oper} {op : Op} {pos : String} {af : Array Edge} {d : Option Tmp} {fuel : Nat} {listed : Array Bool} {Ψ : Value → Hp → Prop} (hle : w0.Le b) {i j : Nat} {tt : Bool} {rs : List Nat} (hi : ops[i]? = some ⟨d, op, ty, pos, af, some (j, tt)⟩) (hd : okD d m = true) (dj : Nat) (hj : (ops[j]?).bind (·.dst) = some dj) (hl : look e dj = some (.bool tt)) (hdj : Nat.blt dj m = true) (hdo : Does P (NT.mk m dk0 rq) b op ty e hp Ψ)
    (h : ∀ v hp', Ψ v hp' → (noLate .any ops (listed.setIfInBounds i true) = false ∨ S.Sublist hp') ∧ SLA P (NT.mk m dk0 rq) w0 b ops S Q fuel (listed.setIfInBounds i true) (putE d v e) hp')
    (hs : SLR P (NT.mk m dk0 rq) w0 b ops S Q fuel listed e hp rs) : SLR P (NT.mk m dk0 rq) w0 b ops S Q fuel listed e hp (i :: rs) := fun j2 hj2 a w hf ho => by
  rcases List.mem_cons.1 hj2 with rfl | hj2
  · unfold wpOp
    simp only [hi]
    rw [if_pos (by rw [wanted_of hf hj hl _ rfl hdj]; simp)]
    refine .inl (hdo.out a w hf ho d pos af (some (j, tt)) _ _ fun v hp' w' hΨ ho' => ?_)
    obtain ⟨h1, h2⟩ := h v hp' hΨ
    refine ⟨⟨fun hlb => ?_, (hle.back _ _ ho').sub (List.nil_sublist _)⟩, h2 _ _ (hf.putE hd v) ho'⟩
    rcases h1 with h1 | h1
    · rw [h1] at hlb; cases hlb
    · exact (hle.back _ _ ho').sub h1
  · exact hs j2 hj2 a w hf ho
end

end Go.Fp