/- Extraction, part 18: loops over maps of the call's own ('for k, v := range m'), in whatever order. -/
import Derived.Test.YtckgfeglhjiflaaDoorXG
import Derived.Maps.RangeRun
set_option linter.unusedVariables false
set_option linter.unusedSimpArgs false
namespace Go.Fp
open Go.RowKit

/-- What a function of lists gives in every order of a list, if it is one thing. -/
noncomputable def ordM {α τ : Type} (f : List α → Option τ) (l : List α) : Option τ := open Classical in if h : ∃ t, ∀ p : List α, p.Perm l → f p = some t then some h.choose else none
theorem ordM_some {α τ : Type} {f : List α → Option τ} {l : List α} {t : τ} (h : ordM f l = some t) (p : List α) (hp : p.Perm l) : f p = some t := by
  unfold ordM at h
  split at h
  · rename_i hh
    rw [← Option.some.inj h]
    exact hh.choose_spec p hp
  · cases h
theorem ordM_of {α τ : Type} {f : List α → Option τ} {l : List α} {t : τ} (h : ∀ p : List α, p.Perm l → f p = some t) : ordM f l = some t := by
  have hh : ∃ t, ∀ p : List α, p.Perm l → f p = some t := ⟨t, h⟩
  unfold ordM
  rw [dif_pos hh]
  exact (hh.choose_spec l (.refl _)).symm.trans (h l (.refl _))
theorem forL_append {α σ τ : Type} {body : α → σ → Option (σ ⊕ τ)} : ∀ (d r : List α) {s s' : σ}, forL body d s = some (.inl s') → forL body (d ++ r) s = forL body r s'
  | [], r, s, s', h => by injection h with h; injection h with h; subst h; rfl
  | x :: d, r, s, s', h => by
    unfold forL at h
    show forL body (x :: (d ++ r)) s = _
    rw [forL]
    cases hb : body x s with
    | none => rw [hb] at h; cases h
    | some o =>
      rw [hb] at h
      cases o with
      | inl s2 => exact forL_append d r h
      | inr t => cases h
/-- The entries that have not come yet. -/
def lft {α : Type} (es : List MapEntry) (l : List α) (seen : Array Nat) : List α := ((es.zip l).filter fun p => !seen.contains p.1.born).map (·.2)
section
variable {κ ν : Type} {P : Program} {kr : RT κ} {vo : OT ν} {ka va : Bool} {w : World} {g gi : Nat} {l left : List (κ × ν)} {hs : Hp}
/-- A map of the call's own over which a loop goes, and what is left. -/
def MIt (kr : RT κ) (vo : OT ν) (ka va : Bool) (w : World) (g gi : Nat) (l left : List (κ × ν)) (hs : Hp) : Prop :=
  ∃ (l0 : List (κ × ν)) (es : List MapEntry) (clock : Nat) (hss : List Hp) (seen : Array Nat) (c0 : Nat), l0.Perm l ∧ hs = (gi, .mapIter (some g) clock seen c0) :: (g, .map es.toArray clock) :: hss.flatten ∧ clock ≤ c0 ∧
    All3 (fun (e : MapEntry) (p : κ × ν) (q : Hp) => VR kr ka w e.key p.1 ∧ VO vo va w e.val p.2 q) es l0 hss ∧ (l0.map (·.1)).Nodup ∧ Born es clock ∧ left.Perm (lft es l0 seen)
/-- .. and the entry 'x' has just come. -/
def MIx (kr : RT κ) (vo : OT ν) (ka va : Bool) (w : World) (g gi : Nat) (l : List (κ × ν)) (x : κ × ν) (hs : Hp) : Prop :=
  ∃ (l : List (κ × ν)) (es : List MapEntry) (clock : Nat) (hss : List Hp) (seen : Array Nat) (e : MapEntry) (j : Nat), hs = (gi, .mapIter (some g) clock (seen.push e.born) clock) :: (g, .map es.toArray clock) :: hss.flatten ∧
    All3 (fun (e : MapEntry) (p : κ × ν) (q : Hp) => VR kr ka w e.key p.1 ∧ VO vo va w e.val p.2 q) es l hss ∧ Born es clock ∧ es[j]? = some e ∧ l[j]? = some x
theorem MIt.mono {w' : World} (hk : Keeps w w') (h : MIt kr vo ka va w g gi l left hs) : MIt kr vo ka va w' g gi l left hs := by
  obtain ⟨l0, es, cl, hss, seen, c0, h0, h1, h2, h3, h4⟩ := h
  exact ⟨l0, es, cl, hss, seen, c0, h0, h1, h2, h3.imp (fun _ _ _ h => ⟨h.1.mono hk, h.2.mono hk⟩), h4⟩
theorem MIx.mono {w' : World} {x : κ × ν} (hk : Keeps w w') (h : MIx kr vo ka va w g gi l x hs) : MIx kr vo ka va w' g gi l x hs := by
  obtain ⟨l0, es, cl, hss, seen, e, j, h1, h3, h4⟩ := h
  exact ⟨l0, es, cl, hss, seen, e, j, h1, h3.imp (fun _ _ _ h => ⟨h.1.mono hk, h.2.mono hk⟩), h4⟩
theorem MIt.le {b b' : Base} (h : MIt kr vo ka va b.w g gi l left hs) (hle : b.Le b') : MIt kr vo ka va b'.w g gi l left hs := h.mono hle.cells
theorem MIx.le {b b' : Base} {x : κ × ν} (h : MIx kr vo ka va b.w g gi l x hs) (hle : b.Le b') : MIx kr vo ka va b'.w g gi l x hs := h.mono hle.cells
theorem cont_ne {seen : Array Nat} {x y : Nat} (h : ¬ x = y) : (seen.push x).contains y = seen.contains y := by
  rw [Bool.eq_iff_iff]
  simp
  exact fun e => absurd e.symm h
theorem cont_self {seen : Array Nat} {x : Nat} : (seen.push x).contains x = true := by simp
theorem filter_one {α : Type} {seen : Array Nat} : ∀ (es : List MapEntry) (l : List α) (j : Nat) (e : MapEntry) (x : α), (es.map (·.born)).Nodup → es[j]? = some e → l[j]? = some x → seen.contains e.born = false →
    (lft es l seen).Perm (x :: lft es l (seen.push e.born))
  | [], _, j, _, _, _, he, _, _ => by simp at he
  | e0 :: es, [], j, _, _, _, _, hx, _ => by simp at hx
  | e0 :: es, x0 :: l, 0, e, x, hn, he, hx, hs => by
    have he : e0 = e := by simpa using he
    have hx : x0 = x := by simpa using hx
    subst he; subst hx
    have hn' := List.nodup_cons.1 hn
    have rest : ∀ (es : List MapEntry) (l : List α), e0.born ∉ es.map (·.born) → lft es l (seen.push e0.born) = lft es l seen := by
      intro es
      induction es with
      | nil => intro l _; rfl
      | cons a es ih =>
        intro l hna
        cases l with
        | nil => rfl
        | cons y l =>
          have h1 : ¬ e0.born = a.born := fun h => hna (by rw [List.map_cons, h]; exact List.mem_cons_self ..)
          have h2 := ih l (fun h => hna (by rw [List.map_cons]; exact List.mem_cons_of_mem _ h))
          unfold lft at h2 ⊢
          have h3 : (seen.push e0.born).contains a.born = seen.contains a.born := cont_ne h1
          rw [List.zip_cons_cons, List.filter_cons, List.filter_cons]
          simp only [h3]
          cases seen.contains a.born with
          | true => exact h2
          | false => exact congrArg (List.cons y) h2
    have h3 : (seen.push e0.born).contains e0.born = true := cont_self
    unfold lft
    rw [List.zip_cons_cons, List.filter_cons, List.filter_cons]
    simp only [hs, h3]
    have := rest es l hn'.1
    unfold lft at this
    show ((((e0, x0) :: ((es.zip l).filter fun p => !seen.contains p.1.born)).map (·.2))).Perm (x0 :: (((es.zip l).filter fun p => !(seen.push e0.born).contains p.1.born).map (·.2)))
    rw [this]
    exact .refl _
  | e0 :: es, x0 :: l, j + 1, e, x, hn, he, hx, hs => by
    have hn' := List.nodup_cons.1 hn
    have he : es[j]? = some e := by simpa using he
    have ih := filter_one es l j e x hn'.2 he (by simpa using hx) hs
    have hne : ¬ e.born = e0.born := fun h => hn'.1 (List.mem_map.2 ⟨e, List.mem_of_getElem? he, h⟩)
    have h3 : (seen.push e.born).contains e0.born = seen.contains e0.born := cont_ne hne
    unfold lft at ih ⊢
    rw [List.zip_cons_cons, List.filter_cons, List.filter_cons]
    simp only [h3]
    cases seen.contains e0.born with
    | true => simpa using ih
    | false => simpa using (ih.cons x0).trans (.swap _ _ _)
theorem lft_nil {α : Type} : ∀ (es : List MapEntry) (l : List α), es.length = l.length → lft es l #[] = l
  | [], [], _ => rfl
  | e :: es, x :: l, h => by
    have ih := lft_nil es l (by simpa using h)
    unfold lft at ih ⊢
    rw [List.zip_cons_cons, List.filter_cons]
    simp
    simpa using ih
section
variable {n : NT} {m : Nat} {dk0 : Nat × Obj → Prop} {rq : Option Nat} {b w0 : Base} {e e' : Env} {hp : Hp} {ty : TypeId} {ops : Array Oper} {rest : List Oper} {Q : Exit → Act → World → Prop} {pos : String} {af : Array Edge}
theorem u_range (F R : Hp) {mt kt et : TypeId} {x : Operand} (hhp : hp = F ++ (hs ++ R)) (h : OM kr vo ka va b.w g l hs) (hm : P.underlying mt = some (.map kt et)) (hx : val e x = some (.map (some g))) :
    Does P n b (.range mt x) ty e hp (fun v hp' => ∃ gi hs', v = .pointer (some ⟨gi, 0, none⟩) ∧ hp' = F ++ (hs' ++ R) ∧ MIt kr vo ka va b.w g gi l l hs') := does_of fun a w hf ho => by
  obtain ⟨l0, h0, es, cl, hss, h1, h2, h3, h4⟩ := h
  have hblk := own_map ho (g := g) (o := .map es.toArray cl) (by rw [hhp, h1]; simp)
  have hlen := h2.len.1
  refine ⟨.pointer (some ⟨w.heap.size, 0, none⟩), w.alloc (.mapIter (some g) cl #[] cl), F ++ (((w.heap.size, .mapIter (some g) cl #[] cl) :: hs) ++ R), fun d pos af gd => ?_, ?_, w.heap.size, _, rfl, rfl, l0, es, cl, hss, #[], cl, h0, by rw [h1], Nat.le_refl _, h2, h3, h4, by rw [lft_nil es l0 hlen]; exact h0.symm⟩
  · simp [execOp, hf.eval hx, run_range_map w mt kt et g es.toArray cl hm hblk]
  · have := ho.alloc (.mapIter (some g) cl #[] cl)
    rw [hhp] at this
    refine this.perm ?_
    rw [List.cons_append]
    exact List.perm_middle
/-- The next entry, or none. -/
theorem t_next {k : Nat} {it : Operand} (F R : Hp) (hd : Nat.blt k m = true) (hit : val e it = some (.pointer (some ⟨gi, 0, none⟩))) (hhp : hp = F ++ (hs ++ R)) (h : MIt kr vo ka va b.w g gi l left hs)
    (hdone : left = [] → SLo P (NT.mk m dk0 rq) b ops Q rest ((k, .tuple #[.bool false]) :: e) hp)
    (hmore : ∀ x left' key vv hs', left.Perm (x :: left') → MIx kr vo ka va b.w g gi l x hs' → MIt kr vo ka va b.w g gi l left' hs' → SLo P (NT.mk m dk0 rq) b ops Q rest ((k, .tuple #[.bool true, key, vv]) :: e) (F ++ (hs' ++ R))) :
    SLo P (NT.mk m dk0 rq) b ops Q (⟨some k, .next it false, ty, pos, af, none⟩ :: rest) e hp := fun a w hf ho =>
  wpListC_plain rfl fun K hK => by
    obtain ⟨l0, es, cl, hss, seen, c0, h0, h1, h2, h3, h4, h5, h6⟩ := h
    have hr := (ho.blk gi (.mapIter (some g) cl seen c0) (by rw [hhp, h1]; simp)).2
    have hb := own_map ho (g := g) (o := .map es.toArray cl) (by rw [hhp, h1]; simp)
    have hlen := h3.len.1
    have hleft : (leftOf es.toArray seen).toList = es.filter fun x => !seen.contains x.born := by simp [leftOf]
    have hwp : ∀ v w', (Instr.next (.pointer (some ⟨gi, 0, none⟩)) false ty).run P w = .ok v w' → K (a.put (some k) v) w' → Oper.wp P ⟨some k, .next it false, ty, pos, af, none⟩ a w K Q := fun v w' hrun hk => by
      have : (execOp a.eval ⟨some k, .next it false, ty, pos, af, none⟩).run P w = .ok (.value v) w' := by simp [execOp, hf.eval hit, hrun]
      simp only [Oper.wp, this, Oper.upon]
      exact hk
    rcases run_next_at (P := P) w ty gi g cl c0 seen es.toArray cl hr hb (by simpa using h5.1) h2 with ⟨g1, g2⟩ | ⟨en, g1, w1, g2, g3⟩
    · have hnil : left = [] := by
        have e1 : es.filter (fun x => !seen.contains x.born) = [] := by
          rw [← hleft]
          exact List.eq_nil_of_length_eq_zero (by simpa using g1)
        have e2 : lft es l0 seen = [] := by
          unfold lft
          rw [List.map_eq_nil_iff, List.filter_eq_nil_iff]
          rintro ⟨en, y⟩ hm
          have := List.filter_eq_nil_iff.1 e1 en (List.of_mem_zip hm).1
          simpa using this
        rw [e2] at h6
        exact h6.eq_nil
      exact hwp _ _ g2 (hK _ _ (hdone hnil _ _ (hf.put hd _) ho))
    · rw [hleft] at g1
      obtain ⟨hmem, hns⟩ := List.mem_filter.1 g1
      obtain ⟨j, hj⟩ := List.mem_iff_getElem?.1 hmem
      have hjl : j < es.length := (List.getElem?_eq_some_iff.1 hj).1
      have hx : l0[j]? = some (l0[j]'(by omega)) := List.getElem?_eq_getElem (by omega)
      have hns' : seen.contains en.born = false := by simpa using hns
      have hp2 := filter_one es l0 j en _ h5.2 hj hx hns'
      have how1 : Own b hp w1 := by rcases g2 with rfl | rfl; exact ho; exact ho.drew
      have hi : hp[F.length]? = some (gi, .mapIter (some g) cl seen c0) := by rw [hhp, h1]; simp
      have ho2 := how1.turnMap (o' := .mapIter (some g) cl (seen.push en.born) cl) hi
      rw [hhp, h1] at ho2
      simp only [List.cons_append] at ho2
      rw [set_mid] at ho2
      refine hwp _ _ g3 (hK _ _ (hmore _ (lft es l0 (seen.push en.born)) en.key en.val ((gi, .mapIter (some g) cl (seen.push en.born) cl) :: (g, .map es.toArray cl) :: hss.flatten) (h6.trans hp2) ⟨l0, es, cl, hss, seen, en, j, rfl, h3, h5, hj, hx⟩ ⟨l0, es, cl, hss, _, cl, h0, rfl, Nat.le_refl _, h3, h4, h5, .refl _⟩ _ _ (hf.put hd _) ?_))
      exact ho2
/-- The round's entry, read behind the step. -/
theorem MIx.entry {vr : RT ν} {x : κ × ν} (P : Program) (h : MIx kr (OT.fr vr) ka va b.w g gi l x hs) : ∃ key vv, VR kr ka b.w key x.1 ∧ VR vr va b.w vv x.2 ∧
    ∀ {n : NT} {e : Env} {hp : Hp} {ty : TypeId} {it : Operand}, hs.Sublist hp → val e it = some (.pointer (some ⟨gi, 0, none⟩)) → Stable P n b (.entry it) ty e hp (.tuple #[key, vv]) := by
  obtain ⟨l0, es, cl, hss, seen, en, j, h1, h3, h5, hj, hx⟩ := h
  obtain ⟨e1, q, e2, e3, e4⟩ := h3.get hx
  rw [hj] at e2
  obtain rfl := Option.some.inj e2
  refine ⟨en.key, en.val, e4.1, ?_, fun {n e hp ty it} hsub hit a w hf ho _ _ _ _ => ?_⟩
  · cases va with
    | true => obtain ⟨cs, q1, q2⟩ := e4.2; exact ⟨cs, q1, q2.1⟩
    | false => exact e4.2.1
  · have hr := (ho.blk gi (.mapIter (some g) cl (seen.push en.born) cl) (hsub.subset (by rw [h1]; simp))).2
    have hb := own_map ho (g := g) (o := .map es.toArray cl) (hsub.subset (by rw [h1]; simp))
    have := run_entry_at (P := P) w gi g cl seen es.toArray cl en hr hb (by simpa using List.mem_of_getElem? hj) (by simpa using h5.2)
    simp [execOp, hf.eval hit, this]
/-- 'for k, v := range m'. -/
theorem c_mapM {σ τ : Type} {step : κ × ν → σ → Option (σ ⊕ τ)} (Inv : σ → Base → Env → Hp → Prop) {c : Code} {s0 : σ} {t : σ ⊕ τ} (hl : ordM (fun p => forL step p s0) l = some t) {hs0 : Hp} (hM : MIt kr vo ka va w0.w g gi l l hs0) {hp' : Hp} (he : Sub e' e) (F R : Hp) (hhp : hp = F ++ (hs0 ++ R)) (hh : hp'.Sublist (F ++ R)) (h0 : Inv s0 w0 e' hp')
    (round : ∀ s left b e hp hsM, Inv s b e hp → w0.Le b → MIt kr vo ka va b.w g gi l left hsM → (left = [] → t = .inl s) → (∀ x left', left.Perm (x :: left') → ∃ o, step x s = some o ∧ ∀ t', o = .inr t' → t = .inr t') →
      SLc P n b (Exit.then (fun a w => ∃ x left' s' b' e' hp' hsM', left.Perm (x :: left') ∧ step x s = some (.inl s') ∧ Inv s' b' e' hp' ∧ w0.Le b' ∧ MIt kr vo ka va b'.w g gi l left' hsM' ∧ Fit n b' e' a ∧ Own b' (hsM' ++ hp') w) Q) c e (hsM ++ hp)) : SLc P n w0 Q (.loop c) e hp := by
  intro a w hf ho fr k cs hro hb hroom
  have hl' := ordM_some hl
  have key : ∀ (N : Nat) (s : σ) (left d : List (κ × ν)) (b : Base) (e : Env) (hp hsM : Hp) a w, left.length = N → (d ++ left).Perm l → forL step d s0 = some (.inl s) → Inv s b e hp → w0.Le b → MIt kr vo ka va b.w g gi l left hsM → Fit n b e a → Own b (hsM ++ hp) w →
      ∃ ex a' w', Q ex a' w' ∧ ArrivesIn (Machine.fenced P (fenceR n.rd)) P (lone (fr.atR a (.code c :: .inLoop c :: k)) cs w) fr k cs ex a' w' := by
    intro N
    induction N using Nat.strongRecOn with
    | _ N ih =>
      intro s left d b e hp hsM a w hN hperm hd hi hle hM hfx hox
      have hround := round s left b e hp hsM hi hle hM (fun hnil => by
        subst hnil
        have h1 := hl' d (by simpa using hperm)
        rw [hd] at h1
        exact (Option.some.inj h1).symm) (fun x left' hx => by
        have h1 := hl' (d ++ x :: left') ((hx.symm.append_left d).trans hperm)
        rw [forL_append d _ hd] at h1
        obtain ⟨o, ho1, ho2, _⟩ := forL_at rfl h1
        exact ⟨o, ho1, ho2⟩) a w hfx hox
      obtain ⟨ex, a1, w1, hq, harr⟩ := hround fr (.inLoop c :: k) cs hro hb hroom
      cases ex with
      | normal =>
        obtain ⟨x, left', s', b', e', hp', hsM', q1, q2, q3, q4, q5, q6, q7⟩ := hq
        have hlen := q1.length_eq
        obtain ⟨ex2, a2, w2, hq2, harr2⟩ := ih left'.length (by rw [← hN, hlen]; simp) s' left' (d ++ [x]) b' e' hp' hsM' a1 w1 rfl (by
          rw [List.append_assoc]
          exact (q1.symm.append_left d).trans hperm) (by
          rw [forL_append d _ hd]
          unfold forL
          rw [q2]
          rfl) q3 q4 q5 q6 q7
        exact ⟨ex2, a2, w2, hq2, .of_steps (StepsIn.trans harr (.one (fenced_calm hb hroom rfl) stepR_inLoop)) harr2⟩
      | exit id => exact ⟨_, a1, w1, hq, .pass (x := .inLoop c) rfl (fun _ _ => .inl (by simp)) harr⟩
      | goto l => exact ⟨_, a1, w1, hq, .pass (x := .inLoop c) rfl (fun _ _ => .inl (by simp)) harr⟩
      | ret => exact ⟨_, a1, w1, hq, .pass (x := .inLoop c) rfl (fun _ _ => .inl (by simp)) harr⟩
      | panic ch => exact ⟨_, a1, w1, hq, .pass (x := .inLoop c) rfl (fun _ _ => .inl (by simp)) harr⟩
      | outgrown => exact ⟨_, a1, w1, hq, .pass (x := .inLoop c) rfl (fun _ _ => .inl (by simp)) harr⟩
  have ho2 : Own w0 (hs0 ++ hp') w := by
    rw [hhp] at ho
    refine (ho.perm (perm_mid F hs0 R)).sub ((List.Sublist.refl _).append hh)
  obtain ⟨ex, a', w', h1, h2⟩ := key _ s0 l [] w0 e' hp' hs0 a w rfl (by simp) rfl h0 (Base.Le.refl _) hM (hf.sub he) ho2
  exact ⟨ex, a', w', h1, .of_steps (.one (fenced_calm hb hroom rfl) stepR_loop) h2⟩
/-- The end of a round. -/
theorem x_mapM {σ τ : Type} {step : κ × ν → σ → Option (σ ⊕ τ)} {Inv : σ → Base → Env → Hp → Prop} {s s' : σ} {x : κ × ν} {left' : List (κ × ν)} {hsM : Hp} (F R : Hp) (hhp : hp = F ++ (hsM ++ R)) (hx : left.Perm (x :: left')) (hst : step x s = some (.inl s')) (hle : w0.Le b) (hM : MIt kr vo ka va b.w g gi l left' hsM)
    (he : Sub e' e) {hp' : Hp} (hh : hp'.Sublist (F ++ R)) (hi : Inv s' b e' hp') :
    SLx n b (Exit.then (fun a w => ∃ x left' s' b' e' hp' hsM', left.Perm (x :: left') ∧ step x s = some (.inl s') ∧ Inv s' b' e' hp' ∧ w0.Le b' ∧ MIt kr vo ka va b'.w g gi l left' hsM' ∧ Fit n b' e' a ∧ Own b' (hsM' ++ hp') w) Q) .normal e hp := fun a w hf ho => by
  subst hhp
  exact ⟨x, left', s', b, e', hp', hsM, hx, hst, hi, hle, hM, hf.sub he, (ho.perm (perm_mid F hsM R)).sub ((List.Sublist.refl _).append hh)⟩
theorem c_mid (F q R : Hp) {c : Code} (h : SLc P n b Q c e (F ++ (q ++ R))) (hhp : hp = q ++ (F ++ R)) : SLc P n b Q c e hp := fun a w hf ho => h a w hf (by
  rw [hhp] at ho
  exact ho.perm (perm_mid F q R).symm)
end
end
end Go.Fp
