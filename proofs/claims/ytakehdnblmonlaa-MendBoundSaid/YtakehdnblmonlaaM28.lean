/- Plain facts that the walk of Best asks for. -/
import Derived.Test.YtakehdnblmonlaaM27
namespace Go.Proofs.Ytakehdnblmonlaa
open Go.RowKit Go.Fp

/-- What Best answers. -/
def BeR (g : Gr) (v : Value) (b' : Base) : Prop :=
  (v = .tuple #[.slice none 0 0, .slice none 0 0, .int .i64 9] ∧ NoFull g (List.replicate g.choices.l.length 0)) ∨
  v = .tuple #[.slice none 0 0, .slice none 0 0, .int .i64 4] ∨
  ∃ (x : Value) (t : Sl Int) (F : List Int) (s : Sv), v = .tuple #[x, t.val, .int .i64 0] ∧ Rd b'.w t.A (rows encI t.l) ∧ PickV g F ∧ FullP F ∧ PS g F s ∧ s.T = t.l ∧
    ∀ (F' : List Int) (s' : Sv), PickV g F' → FullP F' → PS g F' s' → dl g.due.l s.T ≤ dl g.due.l s'.T
theorem agree_zero {n : Nat} {F : List Int} (h : F.length = n) : Agree (List.replicate n 0) F := ⟨by rw [List.length_replicate, h], fun _ _ _ hx _ => .inl (List.eq_of_mem_replicate (List.mem_of_getElem? hx))⟩
/-- The open choices among the first k. -/
structure OL (p : List Int) (k : Nat) (ol : List Int) : Prop where
  nd : ol.Nodup
  lt : ∀ x ∈ ol, 0 ≤ x ∧ x < (k : Int)
  len : ol.length ≤ k
  iff : ∀ (i : Nat) (x : Int), i < k → p[i]? = some x → (x = 0 ↔ (i : Int) ∈ ol)
theorem OL.zero {p : List Int} : OL p 0 [] := ⟨List.nodup_nil, fun x h => by simp at h, Nat.le_refl _, fun i x h => absurd h (by omega)⟩
theorem OL.miss {p : List Int} {k : Nat} {ol : List Int} {x : Int} (h : OL p k ol) (hx : p[k]? = some x) (h0 : x ≠ 0) : OL p (k + 1) ol := by
  refine ⟨h.nd, fun y hy => by have := h.lt y hy; omega, by have := h.len; omega, fun i y hi hy => ?_⟩
  by_cases hik : i = k
  · subst hik
    rw [hx] at hy
    injection hy with hy
    subst hy
    exact ⟨fun h1 => absurd h1 h0, fun h1 => by have := h.lt _ h1; omega⟩
  · exact h.iff i y (by omega) hy
theorem OL.hit {p : List Int} {k : Nat} {ol : List Int} {x : Int} (h : OL p k ol) (hx : p[k]? = some x) (h0 : x = 0) : OL p (k + 1) (ol ++ [(k : Int)]) := by
  refine ⟨?_, fun y hy => ?_, by have := h.len; rw [List.length_append, List.length_singleton]; omega, fun i y hi hy => ?_⟩
  · rw [List.nodup_append]
    refine ⟨h.nd, by simp, fun a ha b hb => ?_⟩
    rw [List.mem_singleton] at hb
    have := h.lt a ha
    omega
  · rcases List.mem_append.1 hy with hy | hy
    · have := h.lt y hy; omega
    · rw [List.mem_singleton] at hy; omega
  · rw [List.mem_append, List.mem_singleton]
    by_cases hik : i = k
    · subst hik
      rw [hx] at hy
      injection hy with hy
      subst hy
      exact ⟨fun _ => .inr rfl, fun _ => h0⟩
    · rw [h.iff i y (by omega) hy]
      exact ⟨.inl, fun h1 => by rcases h1 with h1 | h1; exact h1; omega⟩
theorem OL.oi {p : List Int} {k : Nat} {ol : List Int} (h : OL p k ol) (hk : p.length ≤ k) : OI p ol 0 := fun i x hx => by
  have := lt_of_get hx
  exact h.iff i x (by omega) hx
theorem bk_some {A : Option Addr} {cur : List Int} {hs : Hp} {k : Nat} (h : BK A cur hs) (hk : k < cur.length) : A.isSome = true := by
  rcases h with h | ⟨g, tl, h, _⟩
  · rw [h] at hk
    simp at hk
  · rw [h]; rfl


end Go.Proofs.Ytakehdnblmonlaa
