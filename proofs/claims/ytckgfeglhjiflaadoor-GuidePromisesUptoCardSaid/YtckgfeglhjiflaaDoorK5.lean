/- The framework, part 5: tests that part, returns, loops with a constant part, cuts, rows of elements in memory. -/
import Derived.Test.YtckgfeglhjiflaaDoorK4
namespace Go.Fp
open Go.RowKit

theorem pull_list {α : Type} : ∀ (l : List α) (i : Nat) (x : α), l[i]? = some x → (x :: l.eraseIdx i).Perm l
  | [], i, x, h => by simp at h
  | y :: r, 0, x, h => by
    have : y = x := by simpa using h
    subst this
    exact List.Perm.refl _
  | y :: r, i + 1, x, h => by
    have hr : r[i]? = some x := by simpa using h
    exact (List.Perm.swap y x _).trans ((pull_list r i x hr).cons y)

section
variable {P : Program} {n : NT} {m : Nat} {dk0 : Nat × Obj → Prop} {rq : Option Nat} {w0 : Base} {ops : Array Oper} {Q : Exit → Act → World → Prop} {e : Env} {hp : Hp} {op : Op} {ty : TypeId} {k : Nat} {pos : String} {af : Array Edge} {rest : List Oper}
variable {fuel : Nat} {listed : Array Bool} {S : Hp}

theorem t_bool {p : Prop} [Decidable p] (hd : Nat.blt k m = true) (hst : Stable P (NT.mk m dk0 rq) w0 op ty e hp (.bool (decide p))) (ht : p → SLo P (NT.mk m dk0 rq) w0 ops Q rest ((k, .bool true) :: e) hp) (hf : ¬ p → SLo P (NT.mk m dk0 rq) w0 ops Q rest ((k, .bool false) :: e) hp) :
    SLo P (NT.mk m dk0 rq) w0 ops Q (⟨some k, op, ty, pos, af, none⟩ :: rest) e hp := by
  refine t_st hd hst ?_
  by_cases h : p
  · rw [decide_eq_true h]; exact ht h
  · rw [decide_eq_false h]; exact hf h
/- returns; what is not handed back is let go -/
variable {fn : Func} {Φ : Value → Hp → Prop}
theorem x_drop {x : Exit} {hp' : Hp} (hh : hp'.Sublist hp) (h : SLx n w0 Q x e hp') : SLx n w0 Q x e hp := fun a w hf ho => h a w hf (ho.sub hh)
theorem pull {i : Nat} {x : Nat × Obj} (h : hp[i]? = some x) : (x :: hp.eraseIdx i).Perm hp := by
  exact pull_list hp i x h
/- loops: 'ec' is what stays -/
variable {b1 : Base}
end

/- memory that is read -/
theorem Rd.le {b b' : Base} {A : Option Addr} {xs : List Value} (h : Rd b.w A xs) (hle : b.Le b') : Rd b'.w A xs := fun j u hu => by
  have := h j u hu
  cases A with
  | none => simp [cellO] at this
  | some p => exact hle.cells (p.add j) u this
theorem Rd.fz {w : World} {g : Nat} {t : TypeId} {cs : List Value} (h : w.heap[g]? = some (Cl t cs)) : Rd w (some ⟨g, 0, none⟩) cs := fun j u hu => by
  simp only [cellO, Option.bind_some, Addr.add_lit, Nat.zero_add]
  simp [World.cell?, h, hu]
theorem Rd.old {w0 : Base} {w : World} {hp : Hp} {A : Option Addr} {xs : List Value} (h : Rd w0.w A xs) (ho : Own w0 hp w) : Rd w A xs := fun j u hu => by
  have := h j u hu
  cases A with
  | none => simp [cellO] at this
  | some p => exact ho.old (p := p.add j) this
theorem Rd.own {w0 : Base} {w : World} {hp : Hp} {i g : Nat} {t : TypeId} {cs : List Value} (ho : Own w0 hp w) (hi : hp[i]? = some (g, Cl t cs)) : Rd w (some ⟨g, 0, none⟩) cs := fun j u hu => by
  simp only [cellO, Option.bind_some, Addr.add_lit, Nat.zero_add]
  rw [ho.cell hi]
  exact hu
theorem Rd.left {w : World} {A : Option Addr} {xs ys : List Value} (h : Rd w A (xs ++ ys)) : Rd w A xs := fun j u hu =>
  h j u (by rw [List.getElem?_append_left (List.getElem?_eq_some_iff.1 hu).1]; exact hu)
theorem Rd.nil {w : World} {A : Option Addr} : Rd w A [] := fun j u hu => by simp at hu

/-- Elements of 'sz' cells each, one behind the other. -/
def rows {α : Type} (enc : α → List Value) (l : List α) : List Value := l.flatMap enc
theorem rows_get {α : Type} {enc : α → List Value} {sz : Nat} (he : ∀ x, (enc x).length = sz) : ∀ {l : List α} {k : Nat} {x : α}, l[k]? = some x → ∀ {j : Nat} {u : Value}, (enc x)[j]? = some u → (rows enc l)[k * sz + j]? = some u
  | [], k, x, h, j, u, hu => by simp at h
  | y :: r, 0, x, h, j, u, hu => by
    have hxy : y = x := by simpa using h
    subst hxy
    have hj : j < (enc y).length := (List.getElem?_eq_some_iff.1 hu).1
    simp only [rows, List.flatMap_cons, Nat.zero_mul, Nat.zero_add]
    rw [List.getElem?_append_left hj]
    exact hu
  | y :: r, k + 1, x, h, j, u, hu => by
    have hr : r[k]? = some x := by simpa using h
    have ih := rows_get he hr hu
    have e1 : (k + 1) * sz + j = (enc y).length + (k * sz + j) := by rw [he, Nat.add_mul]; omega
    simp only [rows, List.flatMap_cons]
    rw [e1, List.getElem?_append_right (by omega), Nat.add_sub_cancel_left]
    exact ih
theorem Rd.row {α : Type} {enc : α → List Value} {sz : Nat} (he : ∀ x, (enc x).length = sz) {w : World} {A : Option Addr} {l : List α} (h : Rd w A (rows enc l)) {k : Nat} {x : α} (hx : l[k]? = some x) {j : Nat} {u : Value} (hu : (enc x)[j]? = some u) : cellO w A (k * sz + j) = some u :=
  h _ u (rows_get he hx hu)
def encI (n : Int) : List Value := [.int .i64 n]
theorem encI_len (n : Int) : (encI n).length = 1 := rfl
def encB (b : Bool) : List Value := [.bool b]
theorem Rd.int {w : World} {A : Option Addr} {l : List Int} (h : Rd w A (rows encI l)) {k : Nat} {x : Int} (hx : l[k]? = some x) : cellO w A (k * 1) = some (.int .i64 x) := h.row encI_len hx (j := 0) rfl
theorem Rd.isSome {α : Type} {enc : α → List Value} {sz : Nat} (he : ∀ x, (enc x).length = sz) (hs : 0 < sz) {w : World} {A : Option Addr} {l : List α} (h : Rd w A (rows enc l)) {k : Nat} {x : α} (hx : l[k]? = some x) : A.isSome = true := by
  have hl : 0 < (enc x).length := by rw [he]; exact hs
  exact cellO_some (h.row he hx (List.getElem?_eq_getElem hl))
section
variable {P : Program} {n : NT} {m : Nat} {dk0 : Nat × Obj → Prop} {rq : Option Nat} {w0 : Base} {e : Env} {hp : Hp} {ty : TypeId}
end
end Go.Fp
