/- The framework, part 6: slices as values with their content; small lemmas on lists that walks use. -/
import Derived.Test.YtckgfeglhjiflaaDoorK5
namespace Go.Fp
open Go.RowKit

structure Sl (α : Type) where
  A : Option Addr
  c : Nat
  l : List α
abbrev Sl.val {α : Type} (s : Sl α) : Value := .slice s.A s.l.length s.c
def encS {α : Type} (s : Sl α) : List Value := [.slice s.A s.l.length s.c]
/-- The first error among the elements. -/
def firstE {α : Type} (f : α → Int) : List α → Int
  | [] => 0
  | x :: r => if f x = 0 then firstE f r else f x
/-- 'p' holds of the first k elements. -/
def All {α : Type} (p : α → Prop) (l : List α) (k : Nat) : Prop := ∀ x ∈ l.take k, p x
theorem All.zero {α : Type} {p : α → Prop} {l : List α} : All p l 0 := fun x hx => by simp at hx
theorem All.done {α : Type} {p : α → Prop} {l : List α} {k : Nat} (h : All p l k) (hk : l.length ≤ k) : ∀ x ∈ l, p x := fun x hx => h x (by rw [List.take_of_length_le hk]; exact hx)
end Go.Fp
