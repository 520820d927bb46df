/- The framework, part 6: slices as values with their content; small lemmas on lists that walks use. -/
import Derived.Test.YtckgfeglhjiflaaDoorK5
namespace Go.Fp
open Go.RowKit

structure Sl (α : Type) where
  A : Option Addr
  c : Nat
  l : List α
abbrev Sl.val {α : Type} (s : Sl α) : Value := .slice s.A s.l.length s.c
def encS {α : Type} (s : Sl α) : List Value := [.slice s.A s.l.length s.c]
theorem encS_len {α : Type} (s : Sl α) : (encS s).length = 1 := rfl

/-- The first error among the elements. -/
def firstE {α : Type} (f : α → Int) : List α → Int
  | [] => 0
  | x :: r => if f x = 0 then firstE f r else f x
theorem drop_cons {α : Type} {l : List α} {k : Nat} {x : α} (h : l[k]? = some x) : l.drop k = x :: l.drop (k + 1) := by
  obtain ⟨hk, hx⟩ := List.getElem?_eq_some_iff.1 h
  rw [List.drop_eq_getElem_cons hk, hx]
theorem firstE_drop {α : Type} {f : α → Int} {l : List α} {k : Nat} {x : α} (h : l[k]? = some x) : firstE f (l.drop k) = if f x = 0 then firstE f (l.drop (k + 1)) else f x := by
  rw [drop_cons h]; rfl
theorem firstE_end {α : Type} {f : α → Int} {l : List α} {k : Nat} (h : l.length ≤ k) : firstE f (l.drop k) = 0 := by
  rw [List.drop_eq_nil_of_le h]; rfl
theorem firstE_zero {α : Type} {f : α → Int} {l : List α} : firstE f l = 0 ↔ ∀ x ∈ l, f x = 0 := by
  induction l with
  | nil => simp [firstE]
  | cons x r ih =>
    simp only [firstE, List.mem_cons, forall_eq_or_imp]
    by_cases hx : f x = 0
    · simp [hx, ih]
    · simp [hx]
theorem take_snoc {α : Type} {l : List α} {k : Nat} {x : α} (h : l[k]? = some x) : l.take (k + 1) = l.take k ++ [x] := by
  rw [List.take_add_one, h]; rfl
theorem lt_of_get {α : Type} {l : List α} {k : Nat} {x : α} (h : l[k]? = some x) : k < l.length := (List.getElem?_eq_some_iff.1 h).1
theorem mem_of_get {α : Type} {l : List α} {k : Nat} {x : α} (h : l[k]? = some x) : x ∈ l := List.mem_of_getElem? h
/-- 'p' holds of the first k elements. -/
def All {α : Type} (p : α → Prop) (l : List α) (k : Nat) : Prop := ∀ x ∈ l.take k, p x
theorem All.zero {α : Type} {p : α → Prop} {l : List α} : All p l 0 := fun x hx => by simp at hx
theorem All.snoc {α : Type} {p : α → Prop} {l : List α} {k : Nat} {x : α} (h : All p l k) (hx : l[k]? = some x) (hp : p x) : All p l (k + 1) := fun y hy => by
  rw [take_snoc hx, List.mem_append] at hy
  rcases hy with hy | hy
  · exact h y hy
  · simp at hy; subst hy; exact hp
theorem All.done {α : Type} {p : α → Prop} {l : List α} {k : Nat} (h : All p l k) (hk : l.length ≤ k) : ∀ x ∈ l, p x := fun x hx => h x (by rw [List.take_of_length_le hk]; exact hx)
theorem no_of {r : Int} {p : Prop} (hr : r ≠ 0) (hn : ¬ p) : (r = 0 ↔ p) := ⟨fun h => absurd h hr, fun h => absurd h hn⟩
theorem yes_of {r : Int} {p : Prop} (hr : r = 0) (h : p) : (r = 0 ↔ p) := ⟨fun _ => h, fun _ => hr⟩
end Go.Fp
