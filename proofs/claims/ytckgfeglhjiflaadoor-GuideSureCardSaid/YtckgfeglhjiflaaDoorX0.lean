/- Extraction, part 30: the slices that a map of the call's own holds are frozen; functions of lists that go over maps. -/
import Derived.Test.YtckgfeglhjiflaaDoorXI
set_option linter.unusedVariables false
set_option linter.unusedSimpArgs false
namespace Go.Fp
open Go.RowKit

section
variable {κ α : Type} {kr : RT κ} {ka : Bool} {g : Nat} {hs : Hp}
theorem all3_frzM {el : TypeId} {r : RT α} {w w' : World} (hk : Keeps w w') : ∀ {es : List MapEntry} {l : List (κ × List α)} {hss : List Hp}, All3 (fun (e : MapEntry) (p : κ × List α) (q : Hp) => VR kr ka w e.key p.1 ∧ VO (OT.list el (OT.fr r)) false w e.val p.2 q) es l hss → (∀ y ∈ hss.flatten, w'.heap[y.1]? = some y.2) →
    All3 (fun (e : MapEntry) (p : κ × List α) (q : Hp) => VR kr ka w' e.key p.1 ∧ VO (OT.fr (RT.list r)) false w' e.val p.2 q) es l (List.replicate l.length [])
  | [], [], [], _, _ => trivial
  | e :: es, p :: l, q :: hss, h, hb => by
    refine ⟨⟨h.1.1.mono hk, ?_, rfl⟩, all3_frzM hk h.2 (fun y hy => hb y (by rw [List.flatten_cons]; exact List.mem_append_right _ hy))⟩
    exact (OT.list el (OT.fr r)).frz h.1.2 hk (fun y hy => hb y (by rw [List.flatten_cons]; exact List.mem_append_left _ hy))
theorem OM.frzM {el : TypeId} {r : RT α} {b : Base} {l : List (κ × List α)} (h : OM kr (OT.list el (OT.fr r)) ka false b.w g l hs) : ∃ hv hm : Hp, (hm ++ hv).Perm hs ∧ ∀ b', b.Le b' → (∀ x ∈ hv, b'.w.heap[x.1]? = some x.2) → OM kr (OT.fr (RT.list r)) ka false b'.w g l hm := by
  obtain ⟨l0, hp, es, cl, hss, h1, h2, h3⟩ := h
  refine ⟨hss.flatten, [(g, .map es.toArray cl)], by rw [h1]; exact .refl _, fun b' hle hz => ⟨l0, hp, es, cl, List.replicate l0.length [], by simp, all3_frzM hle.cells h2 hz, h3⟩⟩
end
/-- A round of a loop begins. -/
def LoopAt (P : Program) (n : NT) (Q : Exit → Act → World → Prop) (c : Code) (a : Act) (w : World) : Prop :=
  ∀ (fr : Frame) (k : List Item) (cs : List Frame), fr.roundOf = (fenceR n.rd).round → (fenceR n.rd).fn fr.fn → (fenceR n.rd).room (cs.length + 1 + 0) →
    ∃ ex a' w', Q ex a' w' ∧ ArrivesIn (Machine.fenced P (fenceR n.rd)) P (lone (fr.atR a (.code c :: .inLoop c :: k)) cs w) fr k cs ex a' w'
section
variable {P : Program} {n : NT} {w0 b : Base} {Q : Exit → Act → World → Prop} {e : Env} {hp : Hp}
theorem loopAt_of {c : Code} (h : SLc P n b (Exit.then (LoopAt P n Q c) Q) c e hp) {a : Act} {w : World} (hf : Fit n b e a) (ho : Own b hp w) : LoopAt P n Q c a w := by
  intro fr k cs hro hb hroom
  obtain ⟨ex, a1, w1, hq, harr⟩ := h a w hf ho fr (.inLoop c :: k) cs hro hb hroom
  cases ex with
  | normal =>
    obtain ⟨ex2, a2, w2, hq2, harr2⟩ := hq fr k cs hro hb hroom
    exact ⟨ex2, a2, w2, hq2, .of_steps (StepsIn.trans harr (.one (fenced_calm hb hroom rfl) stepR_inLoop)) harr2⟩
  | exit id => exact ⟨_, a1, w1, hq, .pass (x := .inLoop c) rfl (fun _ _ => .inl (by simp)) harr⟩
  | goto l => exact ⟨_, a1, w1, hq, .pass (x := .inLoop c) rfl (fun _ _ => .inl (by simp)) harr⟩
  | ret => exact ⟨_, a1, w1, hq, .pass (x := .inLoop c) rfl (fun _ _ => .inl (by simp)) harr⟩
  | panic ch => exact ⟨_, a1, w1, hq, .pass (x := .inLoop c) rfl (fun _ _ => .inl (by simp)) harr⟩
  | outgrown => exact ⟨_, a1, w1, hq, .pass (x := .inLoop c) rfl (fun _ _ => .inl (by simp)) harr⟩
/-- A loop, round by round. -/
theorem c_unroll {c : Code} (h : SLc P n b (Exit.then (LoopAt P n Q c) Q) c e hp) : SLc P n b Q (.loop c) e hp := fun a w hf ho => by
  intro fr k cs hro hb hroom
  obtain ⟨ex, a', w', hq, harr⟩ := loopAt_of h hf ho fr k cs hro hb hroom
  exact ⟨ex, a', w', hq, .of_steps (.one (fenced_calm hb hroom rfl) stepR_loop) harr⟩
theorem x_unroll {c : Code} (h : SLc P n b (Exit.then (LoopAt P n Q c) Q) c e hp) : SLx n b (Exit.then (LoopAt P n Q c) Q) .normal e hp := fun a w hf ho => loopAt_of h hf ho
end
end Go.Fp
