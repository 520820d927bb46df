/- Extraction: an inner slice that is cut and put back. -/
import Derived.Test.YtckgfeglhjiflaaDoorXG
set_option linter.unusedVariables false
namespace Go.Fp
open Go.RowKit

section
variable {P : Program} {n : NT} {b : Base} {e : Env} {hp : Hp} {ty : TypeId}
end
theorem lv_int {q : IntKind} : ∀ (w : World) (cs : List Value) (a : Int), (RT.int q).rep w cs a → All2 Leaf.ok [.int q] cs := fun w cs a hr => by
  have hr : cs = [.int q a] := hr
  subst hr
  exact ⟨⟨a, rfl⟩, trivial⟩
theorem eq_int {q : IntKind} : ∀ (w w' : World) (cs ds : List Value) (a c : Int), (RT.int q).rep w cs a → (RT.int q).rep w' ds c → eqCells cs ds = decide (a = c) := fun w w' cs ds a c h1 h2 => by
  have h1 : cs = [.int q a] := h1
  have h2 : ds = [.int q c] := h2
  subst h1; subst h2
  simp [eqCells, eqCell]
  rfl
theorem lv_arr {α : Type} {r : RT α} {L : List Leaf} {m : Nat} (h : ∀ (w : World) (cs : List Value) (a : α), r.rep w cs a → All2 Leaf.ok L cs) : ∀ (w : World) (cs : List Value) (l : List α), (RT.arr m r).rep w cs l → All2 Leaf.ok (List.replicate m L).flatten cs := fun w cs l hr => by
  obtain ⟨hl, css, rfl, hall⟩ := hr
  subst hl
  have key : ∀ (css : List (List Value)) (l : List α), All2 (r.rep w) css l → All2 Leaf.ok (List.replicate l.length L).flatten css.flatten := by
    intro css
    induction css with
    | nil => intro l h1; cases l with | nil => exact trivial | cons => exact h1.elim
    | cons c css ih => intro l h1; cases l with | nil => exact h1.elim | cons a l => rw [List.length_cons, List.replicate_succ, List.flatten_cons, List.flatten_cons]; exact (h w c a h1.1).append (ih l h1.2)
  exact key css l hall
theorem eq_arr {α : Type} [DecidableEq α] {r : RT α} {m : Nat} (h : ∀ (w w' : World) (cs ds : List Value) (a c : α), r.rep w cs a → r.rep w' ds c → eqCells cs ds = decide (a = c)) : ∀ (w w' : World) (cs ds : List Value) (a c : List α), (RT.arr m r).rep w cs a → (RT.arr m r).rep w' ds c → eqCells cs ds = decide (a = c) := fun w w' cs ds l l' h1 h2 => by
  obtain ⟨hl, css, rfl, hall⟩ := h1
  obtain ⟨hl', dss, rfl, hall'⟩ := h2
  subst hl
  have key : ∀ (css : List (List Value)) (l : List α) (dss : List (List Value)) (l' : List α), l'.length = l.length → All2 (r.rep w) css l → All2 (r.rep w') dss l' → eqCells css.flatten dss.flatten = decide (l = l') := by
    intro css
    induction css with
    | nil =>
      intro l dss l' he g1 g2
      cases l with
      | nil =>
        cases l' with
        | nil => cases dss with | nil => simp [eqCells] | cons => exact g2.elim
        | cons => simp at he
      | cons => exact g1.elim
    | cons c css ih =>
      intro l dss l' he g1 g2
      cases l with
      | nil => exact g1.elim
      | cons a l =>
        cases l' with
        | nil => simp at he
        | cons a' l' =>
          cases dss with
          | nil => exact g2.elim
          | cons d dss =>
            rw [List.flatten_cons, List.flatten_cons, eqCells_append (by rw [r.len g1.1, r.len g2.1]), h w w' c d a a' g1.1 g2.1, ih l dss l' (by simpa using he) g1.2 g2.2]
            simp [Bool.decide_and]
  exact key css l dss l' hl' hall hall'
end Go.Fp
