/- Extraction, part 17: loops over functions ('for x := range f'). -/
import Derived.Test.YtckgfeglhjiflaaDoorXF
import Derived.RangeFuncIn
import Derived.RangeFuncSeq
set_option linter.unusedVariables false
set_option linter.unusedSimpArgs false
namespace Go.Fp
open Go.RowKit

/-- As forM, over the elements of a list. -/
def forL {α σ τ : Type} (body : α → σ → Option (σ ⊕ τ)) : List α → σ → Option (σ ⊕ τ)
  | [], s => some (.inl s)
  | x :: r, s => match body x s with
    | none => none
    | some (.inl s') => forL body r s'
    | some (.inr t) => some (.inr t)

abbrev Lr (r : Loop) : Obj := .loop { r with state := .ready, pending := none }
abbrev Lb (r : Loop) : Obj := .loop { r with state := .busy, pending := none }
abbrev Ld (r : Loop) (c : Code) : Obj := .loop { r with state := .done, pending := some c }

/-- A function that hands 'xs' to yield, one by one, until yield says no: called where 'b' is known. -/
def IterG (P : Program) (gf : FuncId) (lb : Array Value) (b : Base) (xs : List Value) : Prop :=
  ∀ (b0 : Base) (hp0 : Hp) (w : World), b.Le b0 → Own b0 hp0 w → ∀ (l : Nat) (Rd : Nat → Base → Hp → Prop) (Rx : Base → Hp → Prop),
    (∀ k x b1 hp1, xs[k]? = some x → b0.Le b1 → Rd k b1 hp1 → ∀ b2, b1.Le b2 → ∀ W, Own b2 hp1 W → YieldAt Fence.wide 0 P l #[x] W fun e W' =>
      ∃ b3 hp3, b2.Le b3 ∧ Own b3 hp3 W' ∧ ((e = .returned (.bool true) ∧ Rd (k + 1) b3 hp3) ∨ (e = .returned (.bool false) ∧ Rx b3 hp3))) →
    Rd 0 b0 hp0 →
    Calls P gf (#[.func (.yield l) #[] #[]] ++ lb) w fun e W' => (∃ v, e = .returned v) ∧ ∃ b3 hp3, b0.Le b3 ∧ Own b3 hp3 W' ∧ (Rd xs.length b3 hp3 ∨ Rx b3 hp3)
theorem Base.Le.unbare {a b : Base} (h : a.Le b) : a.bare.Le b := ⟨h.B, h.cells, fun _ hx => absurd hx (by simp), h.bk⟩
def IterV (P : Program) (b : Base) (v : Value) (xs : List Value) : Prop := ∃ gf lb, v = .func (.func gf) #[] lb ∧ callable P gf = true ∧ IterG P gf lb b.bare xs
theorem IterV.le {P : Program} {b b' : Base} {v : Value} {xs : List Value} (h : IterV P b v xs) (hle : b.Le b') : IterV P b' v xs := by
  obtain ⟨gf, lb, h1, h2, h3⟩ := h
  exact ⟨gf, lb, h1, h2, fun b0 hp0 w hl => h3 b0 hp0 w ((⟨hle.B, hle.cells, fun _ hx => absurd hx (by simp), hle.bk⟩ : b.bare.Le b'.bare).trans hl)⟩

theorem Base.Le.dks {b : Base} {dk : Hp} (h : ∀ x ∈ b.dk, x ∈ dk) : b.Le ⟨b.w, b.B, dk⟩ := ⟨rfl, Keeps.refl _, h, fun _ _ h => h⟩

/-- What is asked at the end of a round: it goes on, or the loop is left by a jump. -/
def RoundR (l : Nat) (r : Loop) (b2 : Base) (Nx : Base → Hp → Prop) (Rx : Code → Base → Hp → Prop) : Ending → World → Prop := fun e W' =>
  ∃ b3 hp3, b2.Le b3 ∧ ((e = .returned (.bool true) ∧ Own b3 ((l, Lr r) :: hp3) W' ∧ Nx b3 hp3) ∨ (e = .returned (.bool false) ∧ ∃ c, Own b3 ((l, Ld r c) :: hp3) W' ∧ Rx c b3 hp3))
def RoundQ (P : Program) (l : Nat) (r : Loop) (b2 : Base) (Nx : Base → Hp → Prop) (Rx : Code → Base → Hp → Prop) : Exit → Act → World → Prop := roundPost P l (RoundR l r b2 Nx Rx)
def AssignQ (P : Program) (l : Nat) (r : Loop) (b2 : Base) (Nx : Base → Hp → Prop) (Rx : Code → Base → Hp → Prop) (body : Code) : Exit → Act → World → Prop :=
  Exit.then (fun a₁ w₁ => ∃ w₂, (Instr.beginRound l).run P w₁ = .ok () w₂ ∧ body.wpIn (Fence.wide.inRound l) 0 P (RoundQ P l r b2 Nx Rx) a₁ w₂) (fun _ _ _ => False)
/-- What the loop's frame does behind a jump. -/
def ContQ (P : Program) (n : NT) (Q : Exit → Act → World → Prop) (e : Env) : Code → Base → Hp → Prop := fun c b hp => SLc P n b Q c e hp

section
variable {P : Program} {n : NT} {m : Nat} {dk0 : Nat × Obj → Prop} {b b2 w0 : Base} {Q : Exit → Act → World → Prop} {e e' : Env} {hp : Hp} {l : Nat} {r : Loop} {Nx : Base → Hp → Prop} {Rx : Code → Base → Hp → Prop}
theorem Own.swapObj {w : World} {i : Nat} {o o' : Obj} (h : Own b hp w) (hi : hp[i]? = some (l, o)) : Own b ((l, o') :: hp.eraseIdx i) (w.putObj l o') := by
  have hlt : l < w.heap.size := h.lt (List.mem_of_getElem? hi)
  have h1 := h.turn (o' := o') (w' := w.putObj l o') hi rfl rfl rfl (by simp) (World.putObj_heap_same hlt) (fun k hk => World.putObj_heap_other hk)
  refine h1.perm ?_
  have hil : i < hp.length := (List.getElem?_eq_some_iff.1 hi).1
  have h2 := pull_list (hp.set i (l, o')) i (l, o') (by simp [hil])
  rwa [List.eraseIdx_set_eq] at h2
theorem x_begin {body : Code} (i : Nat) (hi : hp[i]? = some (l, Lr r)) (h : SLc P (NT.mk m dk0 (some l)) b (RoundQ P l r b2 Nx Rx) body e ((l, Lb r) :: hp.eraseIdx i)) : SLx (NT.mk m dk0 (some l)) b (AssignQ P l r b2 Nx Rx body) .normal e hp := fun a w hf ho => by
  have hw := (ho.blk l _ (List.mem_of_getElem? hi)).2
  exact ⟨_, run_beginRound hw rfl, h a _ hf (ho.swapObj hi)⟩
theorem endR {w : World} (jump : Option Code) {i : Nat} (ho : Own b hp w) (hi : hp[i]? = some (l, Lb r)) : (Instr.endRound l jump).run P w = .ok (.bool jump.isNone) (w.putObj l (.loop { r with state := if jump.isNone then .ready else .done, pending := jump })) :=
  run_endRound (r := { r with state := .busy, pending := none }) jump (ho.blk l _ (List.mem_of_getElem? hi)).2
theorem x_round (i : Nat) (hi : hp[i]? = some (l, Lb r)) (hle : b2.Le b) {hp' : Hp} (hh : hp'.Sublist (hp.eraseIdx i)) (hn : Nx b hp') : SLx n b (RoundQ P l r b2 Nx Rx) .normal e hp := fun a w hf ho =>
  ⟨_, _, endR none ho hi, b, hp', hle, .inl ⟨rfl, (ho.swapObj hi).sub (hh.cons_cons _), hn⟩⟩
theorem x_leaveR (i : Nat) (hi : hp[i]? = some (l, Lb r)) (hle : b2.Le b) (h : SLc P (NT.mk m dk0 none) b Q .ret e' (hp.eraseIdx i)) : SLx n b (RoundQ P l r b2 Nx (ContQ P (NT.mk m dk0 none) Q e')) .ret e hp := fun a w hf ho =>
  ⟨_, _, endR (some .ret) ho hi, b, _, hle, .inr ⟨rfl, _, ho.swapObj hi, h⟩⟩
theorem forL_at {α σ τ : Type} {body : α → σ → Option (σ ⊕ τ)} : ∀ {xs : List α} {s : σ} {t : σ ⊕ τ} {x : α} {r : List α}, xs = x :: r → forL body xs s = some t → ∃ o, body x s = some o ∧ (∀ t', o = .inr t' → t = .inr t') ∧ ∀ s', o = .inl s' → forL body r s' = some t
  | _, s, t, x, r, rfl, h => by
    unfold forL at h
    cases hb : body x s with
    | none => rw [hb] at h; cases h
    | some o =>
      rw [hb] at h
      cases o with
      | inl s' => exact ⟨_, rfl, (fun t' ht => absurd ht (by simp)), (fun s'' hs => by injection hs with hs; subst hs; exact h)⟩
      | inr t' => exact ⟨_, rfl, (fun t'' ht => by injection ht with ht; subst ht; injection h with h; exact h.symm), (fun s'' hs => absurd hs (by simp))⟩
/-- A call of yield: what comes of it is 'q', a base and a heap. -/
theorem t_yield {ops : Array Oper} {rest : List Oper} {d : Nat} {pos : String} {af : Array Edge} {f x : Operand} {ts : Array TypeId} {ty : TypeId} {v : Value} {K : Bool → Base → Hp → Prop} (hd : Nat.blt d m = true) (hf : val e f = some (.func (.yield l) #[] #[])) (hx : val e x = some v)
    (hY : ∀ W, Own b hp W → YieldAt Fence.wide 0 P l #[v] W fun en W' => ∃ q b3 hp3, en = .returned (.bool q) ∧ b.Le b3 ∧ Own b3 hp3 W' ∧ K q b3 hp3)
    (k : ∀ q b3 hp3, b.Le b3 → K q b3 hp3 → SLo P (NT.mk m dk0 none) b3 ops Q rest ((d, .bool q) :: e) hp3) :
    SLo P (NT.mk m dk0 none) b ops Q (⟨some d, .call { callee := .value f, args := #[x], argTypes := ts }, ty, pos, af, none⟩ :: rest) e hp := fun a w hft ho =>
  wpListC_plainIn rfl fun K' hK => by
    obtain ⟨fn, tmps, assign, body, hy, hR⟩ := hY w ho
    refine ⟨fun _ _ => trivial, ?_⟩
    show Oper.uponIn Fence.wide 0 P _ a K' Q ((Oper.semAt none a.eval _).run P w)
    rw [Oper.semAt_none]
    have hrun : (execOp a.eval ⟨some d, .call { callee := .value f, args := #[x], argTypes := ts }, ty, pos, af, none⟩).run P w = .ok (.round l fn tmps assign body) w := by
      simp only [execOp, resolve, hft.eval hf, Deferred.ofValue, Sem.run_bind, Sem.run_pure, Result.andThen_ok, invoke]
      simpa [hft.eval hx] using hy
    rw [hrun]
    refine ⟨(fun hd => absurd hd (by simp [Fence.wide])), hR.mono ?_⟩
    rintro en w' ⟨q, b3, hp3, rfl, hle, ho', hk⟩
    exact hK _ _ (k q b3 hp3 hle hk _ _ ((hft.put hd (.bool q)).le hle) ho')
/-- 'for x := range f { .. }'. -/
theorem c_rangeM {α σ τ : Type} {step : α → σ → Option (σ ⊕ τ)} (enc : α → Value) (Inv : σ → Base → Hp → Prop) {g : Operand} {p : Nat} {assign body : Code} {xs : List α} {s0 : σ} {t : σ ⊕ τ} {v : Value}
    (hg : val e g = some v) (hit : IterV P w0 v (xs.map enc)) (hl : forL step xs s0 = some t) {hp' : Hp} (he : Sub e' e) (hh : hp'.Sublist hp) (hp0 : Nat.blt p m = true)
    (h0 : ∀ dk, (∀ x ∈ w0.dk, x ∈ dk) → Inv s0 ⟨w0.w, w0.B, dk⟩ hp')
    (round : ∀ (r : Loop) (l : Nat) x s b1 b2 hp1 o, Inv s b1 hp1 → b1.Le b2 → step x s = some o → (∀ t', o = .inr t' → t = .inr t') →
      SLc P (NT.mk m dk0 (some l)) b2 (AssignQ P l r b2 (fun b hp => ∃ s', o = .inl s' ∧ Inv s' b hp) (ContQ P (NT.mk m dk0 none) Q e') body) assign ((p, enc x) :: e') ((l, Lr r) :: hp1))
    (done : ∀ s b1 hp1, Inv s b1 hp1 → t = .inl s → SLx (NT.mk m dk0 none) b1 Q .normal e' hp1)
    (hdk : ∀ x, dk0 x → x ∈ w0.dk) :
    SLc P (NT.mk m dk0 none) w0 Q (.rangeFunc g #[p] assign body) e hp := fun a w hf ho => by
  obtain ⟨gf, lb, rfl, hc, hit⟩ := hit
  have hgv := hf.eval hg
  refine wpIn_rangeFunc (F := Fence.wide) ?_
  intro fn hfn
  obtain ⟨r, hr⟩ : ∃ r : Loop, r = { state := .ready, pending := none, fn, tmps := a.tmps, params := #[p], assign, body, defers := w.heap.size } := ⟨_, rfl⟩
  obtain ⟨W1, hW1⟩ : ∃ W1, (w.alloc defO).alloc (Lr r) = W1 := ⟨_, rfl⟩
  have hs1 : (w.alloc defO).heap.size = w.heap.size + 1 := by simp
  -- the two blocks of book-keeping
  have o1 : Own w0 ((w.heap.size + 1, Lr r) :: (w.heap.size, defO) :: hp') W1 := by
    have := ((ho.sub hh).alloc defO).alloc (Lr r)
    rw [hs1] at this
    rw [← hW1]
    exact this
  have hB : w0.B ≤ w.heap.size := by have := ho.below.size; have := ho.lo; omega
  have o2 : Own ⟨w0.w, w0.B, (w.heap.size, defO) :: w0.dk⟩ ((w.heap.size + 1, Lr r) :: hp') W1 := by
    have hsub : ((w.heap.size + 1, Lr r) :: hp').Sublist ((w.heap.size + 1, Lr r) :: (w.heap.size, defO) :: hp') := (List.sublist_cons_self _ _).cons_cons _
    have h1 := o1.sub hsub
    refine ⟨h1.lo, h1.below, h1.keeps, h1.nd, h1.blk, h1.hole, fun g o hm => ?_⟩
    rcases List.mem_cons.1 hm with he | hm
    · injection he with e1 e2
      subst e1; subst e2
      refine ⟨hB, (o1.blk _ _ (List.mem_cons_of_mem _ (List.mem_cons_self ..))).2, (fun cs t fr h => absurd h (by simp)), fun o' hm' => ?_⟩
      have hnd := o1.nd
      simp only [List.map_cons, List.nodup_cons] at hnd
      rcases List.mem_cons.1 hm' with he | hm'
      · injection he with e1 _
        omega
      · exact hnd.2.1 (List.mem_map.2 ⟨_, hm', rfl⟩)
    · exact h1.dks g o hm
  have hle2 : w0.Le ⟨w0.w, w0.B, (w.heap.size, defO) :: w0.dk⟩ := Base.Le.dks fun x hx => List.mem_cons_of_mem _ hx
  -- the frame behind the loop
  have fit : ∀ b3 : Base, Base.Le ⟨w0.w, w0.B, (w.heap.size, defO) :: w0.dk⟩ b3 → Fit (NT.mk m dk0 none) b3 e' { a with defers := [{ target := .collected w.heap.size, args := #[] }] ++ a.defers } := fun b3 h3 => by
    obtain ⟨ds, hd, hnd, hk⟩ := hf.defers
    refine ⟨⟨hf.size, fun k v hk => hf.get k v (he.spec k v hk)⟩, w.heap.size :: ds, by rw [hd]; rfl, List.nodup_cons.2 ⟨fun hm => ?_, hnd⟩, fun D hD => ?_⟩
    · have := (ho.dks _ _ (hk _ hm).1).2.1
      have := (Array.getElem?_eq_some_iff.1 this).1
      omega
    · rcases List.mem_cons.1 hD with rfl | hD
      · refine ⟨h3.dk _ (List.mem_cons_self ..), fun o hm => ?_⟩
        have := (ho.dks _ _ (hdk _ hm)).2.1
        have := (Array.getElem?_eq_some_iff.1 this).1
        omega
      · exact ⟨h3.dk _ (List.mem_cons_of_mem _ (hk D hD).1), (hk D hD).2⟩
  refine ⟨w.heap.size + 1, [{ target := .collected w.heap.size, args := #[] }], W1, { target := .fn (.func gf) lb, args := #[.func (.yield (w.heap.size + 1)) #[] #[]] }, W1, gf,
    #[.func (.yield (w.heap.size + 1)) #[] #[]] ++ lb, W1, ?_, ?_, ?_, ?_, (fun hd => absurd hd (by simp [Fence.wide])), ?_⟩
  · rw [← hW1, hr]
    exact run_enterLoop_outer _ _ _ _ _
  · simp only [resolve, hgv]
    simp [go_sem]
  · intro f' _
    trivial
  · simp only [invoke]
    simpa using run_callFunc (P := P) hc _ W1
  · refine callsIn_wide.2 ?_
    refine (hit _ _ W1 hle2.unbare o2 (w.heap.size + 1)
      (fun k b3 hp3 => ∃ s hp1, hp3 = (w.heap.size + 1, Lr r) :: hp1 ∧ Inv s b3 hp1 ∧ Base.Le ⟨w0.w, w0.B, (w.heap.size, defO) :: w0.dk⟩ b3 ∧ forL step (xs.drop k) s = some t)
      (fun b3 hp3 => ∃ c hp1, hp3 = (w.heap.size + 1, Ld r c) :: hp1 ∧ SLc P (NT.mk m dk0 none) b3 Q c e' hp1 ∧ Base.Le ⟨w0.w, w0.B, (w.heap.size, defO) :: w0.dk⟩ b3)
      ?_ ⟨s0, hp', rfl, h0 _ (fun x hx => List.mem_cons_of_mem _ hx), Base.Le.refl _, by rw [List.drop_zero]; exact hl⟩).mono ?_
    · -- a round
      rintro k x b1 hp1 hx hb1 ⟨s, hq, rfl, hi, hbl, hfl⟩ b2 hb2 W hW
      rw [List.getElem?_map] at hx
      cases hxk : xs[k]? with
      | none => rw [hxk] at hx; cases hx
      | some y =>
        rw [hxk] at hx
        injection hx with hx
        subst hx
        have hdrop : xs.drop k = y :: xs.drop (k + 1) := by
          obtain ⟨hlt, hy⟩ := List.getElem?_eq_some_iff.1 hxk
          rw [List.drop_eq_getElem_cons hlt, hy]
        obtain ⟨o, h1, h2, h3⟩ := forL_at hdrop hfl
        have hL := (hW.blk _ _ (List.mem_cons_self ..)).2
        have hy := run_yield (P := P) (args := #[enc y]) hL (by rw [hr]; rfl)
        refine ⟨_, _, _, _, hy, roundIn_of_wpIn (F := Fence.wide) trivial ?_⟩
        have hrd := round r (w.heap.size + 1) y s b1 b2 hq o hi hb2 h1 h2
        have hst := hrd { tmps := (#[p].zip #[enc y]).foldl (fun t (p, v) => t.setIfInBounds p v) a.tmps, defers := [] } W ?_ hW
        · subst hr
          refine wpIn_mono hst fun ex a' w' hq' => ?_
          cases ex with
          | normal =>
            obtain ⟨w2, g1, g2⟩ := hq'
            refine ⟨w2, g1, wpIn_mono g2 fun ex a'' w'' hq'' => ?_⟩
            have key : ∀ ee ww, RoundR (w.heap.size + 1) { state := .ready, pending := none, fn, tmps := a.tmps, params := #[p], assign, body, defers := w.heap.size } b2 (fun b hp => ∃ s', o = .inl s' ∧ Inv s' b hp) (ContQ P (NT.mk m dk0 none) Q e') ee ww →
                ∃ b3 hp3, b2.Le b3 ∧ Own b3 hp3 ww ∧ ((ee = .returned (.bool true) ∧ ∃ s hp1, hp3 = (w.heap.size + 1, Lr { state := .ready, pending := none, fn, tmps := a.tmps, params := #[p], assign, body, defers := w.heap.size }) :: hp1 ∧ Inv s b3 hp1 ∧ Base.Le ⟨w0.w, w0.B, (w.heap.size, defO) :: w0.dk⟩ b3 ∧ forL step (xs.drop (k + 1)) s = some t) ∨ (ee = .returned (.bool false) ∧ ∃ c hp1, hp3 = (w.heap.size + 1, Ld { state := .ready, pending := none, fn, tmps := a.tmps, params := #[p], assign, body, defers := w.heap.size } c) :: hp1 ∧ SLc P (NT.mk m dk0 none) b3 Q c e' hp1 ∧ Base.Le ⟨w0.w, w0.B, (w.heap.size, defO) :: w0.dk⟩ b3)) := by
              rintro ee ww ⟨b3, hp3, q1, ⟨q2, q3, s', q4, q5⟩ | ⟨q2, c, q3, q4⟩⟩
              · exact ⟨b3, _, q1, q3, .inl ⟨q2, s', hp3, rfl, q5, (hbl.trans hb2).trans q1, h3 s' q4⟩⟩
              · exact ⟨b3, _, q1, q3, .inr ⟨q2, c, hp3, rfl, q4, (hbl.trans hb2).trans q1⟩⟩
            cases ex with
            | normal => obtain ⟨v, w3, k1, k2⟩ := hq''; exact ⟨v, w3, k1, key _ _ k2⟩
            | ret => obtain ⟨v, w3, k1, k2⟩ := hq''; exact ⟨v, w3, k1, key _ _ k2⟩
            | exit id => obtain ⟨v, w3, k1, k2⟩ := hq''; exact ⟨v, w3, k1, key _ _ k2⟩
            | goto q => obtain ⟨v, w3, k1, k2⟩ := hq''; exact ⟨v, w3, k1, key _ _ k2⟩
            | panic c => exact hq''
            | outgrown => exact hq''
          | _ => exact hq'
        · refine ⟨⟨by simpa using hf.size, fun k v hk => ?_⟩, [], rfl, List.nodup_nil, fun D hD => absurd hD (by simp)⟩
          have hsz : a.tmps.size = m := hf.size
          have hpm : p < m := by simp [Nat.blt] at hp0; omega
          by_cases hpk : p = k
          · subst hpk
            rw [look_cons_eq] at hk
            injection hk with hk
            subst hk
            simp [hsz, hpm]
          · rw [look_cons_ne hpk] at hk
            have := hf.get k v (he.spec k v hk)
            simpa [Array.getElem?_setIfInBounds_ne hpk] using this
    · -- behind the loop
      rintro ee W2 ⟨⟨v, rfl⟩, b3, hp3, hb3, hW, hend⟩
      rcases hend with ⟨s, hq, rfl, hi, hbl, hfl⟩ | ⟨c, hq, rfl, hi, hbl⟩
      · have hL := (hW.blk _ _ (List.mem_cons_self ..)).2
        refine ⟨_, _, run_endLoop hL (by simp), ?_⟩
        have ht : t = .inl s := by
          rw [List.length_map, List.drop_length] at hfl
          simpa [forL] using hfl.symm
        exact done s b3 hq hi ht _ _ (fit b3 hbl) ((hW.swapObj (i := 0) rfl).sub (List.sublist_cons_self _ _))
      · have hL := (hW.blk _ _ (List.mem_cons_self ..)).2
        refine ⟨_, _, run_endLoop hL (by simp), ?_⟩
        exact hi _ _ (fit b3 hbl) ((hW.swapObj (i := 0) rfl).sub (List.sublist_cons_self _ _))
end

/- ---- shorter words for what comes often ---- -/
section
variable {P : Program} {n : NT} {m : Nat} {dk0 : Nat × Obj → Prop} {rq : Option Nat} {w0 b : Base} {ops : Array Oper} {Q : Exit → Act → World → Prop} {e : Env} {hp : Hp} {ty : TypeId} {pos : String} {af : Array Edge} {rest : List Oper}
theorem c_sr {id : Nat} {l : List Oper} {y : Code} (h : SLo P n w0 l.toArray (Exit.then (wpR y n.rd P Q) Q) l e hp) (hl : okR n.rd l = true := by rfl) : SLc P n w0 Q (.seq (.region id l.toArray false) y) e hp := c_seq (c_region h hl)
theorem t_ne {y : Code} (h : SLc P n w0 Q y e hp) : SLo P n w0 ops (Exit.then (wpR y n.rd P Q) Q) [] e hp := t_nil (x_then_normal h)
theorem t_mv {v : Value} {k : Nat} {x : Operand} (hd : Nat.blt k m = true) (hx : val e x = some v) (h : SLo P (NT.mk m dk0 rq) w0 ops Q rest ((k, v) :: e) hp) : SLo P (NT.mk m dk0 rq) w0 ops Q (⟨some k, .move x, ty, pos, af, none⟩ :: rest) e hp := t_st hd (st_move hx) h
theorem t_as {v : Value} {k : Nat} {x : Operand} (hd : Nat.blt k m = true) (hx : val e x = some v) (h : SLo P (NT.mk m dk0 rq) w0 ops Q rest ((k, v) :: e) hp) : SLo P (NT.mk m dk0 rq) w0 ops Q (⟨some k, .assign x, ty, pos, af, none⟩ :: rest) e hp := t_st hd (st_assign hx) h
theorem mem_n {α : Type} {p : α → Prop} : ∀ u ∈ ([] : List α), p u := fun _ h => (List.not_mem_nil h).elim
theorem mem_c {α : Type} {p : α → Prop} {a : α} {l : List α} (h : p a) (hl : ∀ u ∈ l, p u) : ∀ u ∈ a :: l, p u := fun u hu => by
  rcases List.mem_cons.1 hu with rfl | hu
  · exact h
  · exact hl u hu
theorem D_drawI {S : Hp} {id : Nat} {l : List Oper} (hm : P.follows .mixedOrders = true) (hsub : S.Sublist hp) (h : SLB P n b b l.toArray S Q l.length (Array.replicate l.length false) e hp) (hl : okR n.rd l = true := by rfl) : SLc P n b Q (.region id l.toArray true) e hp :=
  D_drawS S hm (E_in (Base.Le.refl _) hsub h) hl
end
end Go.Fp
