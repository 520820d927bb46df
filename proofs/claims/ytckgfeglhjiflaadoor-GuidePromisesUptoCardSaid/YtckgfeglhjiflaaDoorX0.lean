/- Extraction, part 30: the slices that a map of the call's own holds are frozen; functions of lists that go over maps. -/
import Derived.Test.YtckgfeglhjiflaaDoorXI
set_option linter.unusedVariables false
set_option linter.unusedSimpArgs false
namespace Go.Fp
open Go.RowKit

section
variable {κ α : Type} {kr : RT κ} {ka : Bool} {g : Nat} {hs : Hp}
theorem all3_frzM {el : TypeId} {r : RT α} {w w' : World} (hk : Keeps w w') : ∀ {es : List MapEntry} {l : List (κ × List α)} {hss : List Hp}, All3 (fun (e : MapEntry) (p : κ × List α) (q : Hp) => VR kr ka w e.key p.1 ∧ VO (OT.list el (OT.fr r)) false w e.val p.2 q) es l hss → (∀ y ∈ hss.flatten, w'.heap[y.1]? = some y.2) →
    All3 (fun (e : MapEntry) (p : κ × List α) (q : Hp) => VR kr ka w' e.key p.1 ∧ VO (OT.fr (RT.list r)) false w' e.val p.2 q) es l (List.replicate l.length [])
  | [], [], [], _, _ => trivial
  | e :: es, p :: l, q :: hss, h, hb => by
    refine ⟨⟨h.1.1.mono hk, ?_, rfl⟩, all3_frzM hk h.2 (fun y hy => hb y (by rw [List.flatten_cons]; exact List.mem_append_right _ hy))⟩
    exact (OT.list el (OT.fr r)).frz h.1.2 hk (fun y hy => hb y (by rw [List.flatten_cons]; exact List.mem_append_left _ hy))
theorem OM.frzM {el : TypeId} {r : RT α} {b : Base} {l : List (κ × List α)} (h : OM kr (OT.list el (OT.fr r)) ka false b.w g l hs) : ∃ hv hm : Hp, (hm ++ hv).Perm hs ∧ ∀ b', b.Le b' → (∀ x ∈ hv, b'.w.heap[x.1]? = some x.2) → OM kr (OT.fr (RT.list r)) ka false b'.w g l hm := by
  obtain ⟨l0, hp, es, cl, hss, h1, h2, h3⟩ := h
  refine ⟨hss.flatten, [(g, .map es.toArray cl)], by rw [h1]; exact .refl _, fun b' hle hz => ⟨l0, hp, es, cl, List.replicate l0.length [], by simp, all3_frzM hle.cells h2 hz, h3⟩⟩
end
/-- A round of a loop begins. -/
def LoopAt (P : Program) (n : NT) (Q : Exit → Act → World → Prop) (c : Code) (a : Act) (w : World) : Prop :=
  ∀ (fr : Frame) (k : List Item) (cs : List Frame), fr.roundOf = (fenceR n.rd).round → (fenceR n.rd).fn fr.fn → (fenceR n.rd).room (cs.length + 1 + 0) →
    ∃ ex a' w', Q ex a' w' ∧ ArrivesIn (Machine.fenced P (fenceR n.rd)) P (lone (fr.atR a (.code c :: .inLoop c :: k)) cs w) fr k cs ex a' w'
section
variable {P : Program} {n : NT} {w0 b : Base} {Q : Exit → Act → World → Prop} {e : Env} {hp : Hp}
theorem loopAt_of {c : Code} (h : SLc P n b (Exit.then (LoopAt P n Q c) Q) c e hp) {a : Act} {w : World} (hf : Fit n b e a) (ho : Own b hp w) : LoopAt P n Q c a w := by
  intro fr k cs hro hb hroom
  obtain ⟨ex, a1, w1, hq, harr⟩ := h a w hf ho fr (.inLoop c :: k) cs hro hb hroom
  cases ex with
  | normal =>
    obtain ⟨ex2, a2, w2, hq2, harr2⟩ := hq fr k cs hro hb hroom
    exact ⟨ex2, a2, w2, hq2, .of_steps (StepsIn.trans harr (.one (fenced_calm hb hroom rfl) stepR_inLoop)) harr2⟩
  | exit id => exact ⟨_, a1, w1, hq, .pass (x := .inLoop c) rfl (fun _ _ => .inl (by simp)) harr⟩
  | goto l => exact ⟨_, a1, w1, hq, .pass (x := .inLoop c) rfl (fun _ _ => .inl (by simp)) harr⟩
  | ret => exact ⟨_, a1, w1, hq, .pass (x := .inLoop c) rfl (fun _ _ => .inl (by simp)) harr⟩
  | panic ch => exact ⟨_, a1, w1, hq, .pass (x := .inLoop c) rfl (fun _ _ => .inl (by simp)) harr⟩
  | outgrown => exact ⟨_, a1, w1, hq, .pass (x := .inLoop c) rfl (fun _ _ => .inl (by simp)) harr⟩
/-- A loop, round by round. -/
theorem c_unroll {c : Code} (h : SLc P n b (Exit.then (LoopAt P n Q c) Q) c e hp) : SLc P n b Q (.loop c) e hp := fun a w hf ho => by
  intro fr k cs hro hb hroom
  obtain ⟨ex, a', w', hq, harr⟩ := loopAt_of h hf ho fr k cs hro hb hroom
  exact ⟨ex, a', w', hq, .of_steps (.one (fenced_calm hb hroom rfl) stepR_loop) harr⟩
theorem x_unroll {c : Code} (h : SLc P n b (Exit.then (LoopAt P n Q c) Q) c e hp) : SLx n b (Exit.then (LoopAt P n Q c) Q) .normal e hp := fun a w hf ho => loopAt_of h hf ho
end
/- ---- slices that are known up to their order ---- -/
def lexLe : List Int → List Int → Bool
  | [], _ => true
  | _ :: _, [] => false
  | a :: r, b :: s => if a < b then true else if b < a then false else lexLe r s
def insB {α : Type} (k : α → List Int) (x : α) : List α → List α
  | [] => [x]
  | y :: r => if lexLe (k x) (k y) = true then x :: y :: r else y :: insB k x r
def canB {α : Type} (k : α → List Int) : List α → List α
  | [] => []
  | x :: r => insB k x (canB k r)
theorem insB_perm {α : Type} (k : α → List Int) (x : α) : ∀ l : List α, (insB k x l).Perm (x :: l)
  | [] => .refl _
  | y :: r => by
    unfold insB
    split
    · exact .refl _
    · exact ((insB_perm k x r).cons y).trans (.swap x y r)
theorem canB_perm {α : Type} (k : α → List Int) : ∀ l : List α, (canB k l).Perm l
  | [] => .refl _
  | x :: r => (insB_perm k x _).trans ((canB_perm k r).cons x)
theorem canB_length {α : Type} (k : α → List Int) (l : List α) : (canB k l).length = l.length := (canB_perm k l).length_eq
section
variable {α : Type} {el : TypeId} {o : OT α} {w : World} {v : Value} {l : List α} {hs : Hp} {A : Option Addr} {c : Nat}
def OSP (el : TypeId) (o : OT α) (w : World) (v : Value) (l : List α) (hs : Hp) : Prop := ∃ l' : List α, l'.Perm l ∧ OS el o w v l' hs
theorem OSP.nil : OSP el o w (.slice A 0 0) [] [] := ⟨[], .refl _, OS.nil⟩
theorem OSP.canon (k : α → List Int) (h : OS el o w (.slice A l.length c) l hs) : OSP el o w (.slice A (canB k l).length c) (canB k l) hs := ⟨l, (canB_perm k l).symm, by rw [(canB_perm k l).length_eq]; exact h⟩
theorem OSP.mono {w' : World} (h : OSP el o w v l hs) (hk : Keeps w w') : OSP el o w' v l hs := let ⟨l', h1, h2⟩ := h; ⟨l', h1, h2.mono hk⟩
theorem OSP.le {b b' : Base} (h : OSP el o b.w v l hs) (hle : b.Le b') : OSP el o b'.w v l hs := h.mono hle.cells
theorem OSP.form (h : OSP el o w v l hs) : ∃ A c, v = .slice A l.length c := by
  obtain ⟨l', h1, h2⟩ := h
  obtain ⟨A, c, h3, _⟩ := h2.form
  exact ⟨A, c, by rw [h3, h1.length_eq]⟩
theorem OSP.ex (h : OSP el o w (.slice A l.length c) l hs) : ∃ l' : List α, l'.Perm l ∧ l.length = l'.length ∧ OS el o w (.slice A l'.length c) l' hs := by
  obtain ⟨l', h1, h2⟩ := h
  exact ⟨l', h1, h1.length_eq.symm, by rw [h1.length_eq]; exact h2⟩
end
section
variable {P : Program} {n : NT} {b : Base} {e : Env} {hp : Hp} {ty : TypeId} {α : Type} {el : TypeId} {l : List α} {hs : Hp}
theorem u_appP {r : RT α} (k : α → List Int) (F R : Hp) {s x : Operand} {t sz by_ : Nat} {zv v : Value} {B : Option Addr} {q d : Nat} (css' : List (List Value)) (a : α) (hsz : r.sz = sz) (hpos : 0 < sz) (hsl : slT P t el sz = true) (hinf : (P.info? el).map (fun i => (i.zero, i.size, i.bytes)) = some (some zv, sz, by_)) (hzs : zv.cells.size = sz)
    (hx : val e s = some v) (hy : val e x = some (.slice B q d)) (hq : q = 1) (h : OSP el (OT.fr r) b.w v l hs) (hhp : hp = F ++ (hs ++ R)) (hrd : ∀ w, Own b hp w → Rd w B css'.flatten) (hall : All2 (r.rep b.w) css' [a]) (hroom : (l.length + 1) * by_ ≤ 140737488355328 ∧ l.length + 1 ≤ 9223372036854775807) :
    Does P n b (.call { callee := .builtin .append, args := #[s, x], argTypes := #[t, t] }) ty e hp (fun v' hp' => ∃ hs', hp' = F ++ (hs' ++ R) ∧ OSP el (OT.fr r) b.w v' (insB k a l) hs') := by
  obtain ⟨l', h1, h⟩ := h
  have hd := u_appOS (P := P) (n := n) (b := b) (ty := ty) (e := e) (hp := hp) (r := r) F R css' [a] hsz hpos hsl hinf hzs hx hy hq h hhp hrd hall (by rw [h1.length_eq, hq]; exact hroom)
  refine ⟨fun a' w hf ho d' pos af gd K Q hK => hd.out a' w hf ho d' pos af gd K Q (fun v' hp' w' hΨ ho' => hK v' hp' w' ?_ ho')⟩
  obtain ⟨hs', h2, h3⟩ := hΨ
  refine ⟨hs', h2, l' ++ [a], ?_, h3⟩
  have h4 : (l' ++ [a]).Perm (a :: l') := List.perm_append_comm
  exact h4.trans ((h1.cons a).trans (insB_perm k a l).symm)
end
end Go.Fp
