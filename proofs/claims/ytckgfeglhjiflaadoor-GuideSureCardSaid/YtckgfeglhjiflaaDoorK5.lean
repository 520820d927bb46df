/- The framework, part 5: tests that part, returns, loops with a constant part, cuts, rows of elements in memory. -/
import Derived.Test.YtckgfeglhjiflaaDoorK4
namespace Go.Fp
open Go.RowKit

theorem pull_list {α : Type} : ∀ (l : List α) (i : Nat) (x : α), l[i]? = some x → (x :: l.eraseIdx i).Perm l
  | [], i, x, h => by simp at h
  | y :: r, 0, x, h => by
    have : y = x := by simpa using h
    subst this
    exact List.Perm.refl _
  | y :: r, i + 1, x, h => by
    have hr : r[i]? = some x := by simpa using h
    exact (List.Perm.swap y x _).trans ((pull_list r i x hr).cons y)

section
variable {P : Program} {n : NT} {m : Nat} {dk0 : Nat × Obj → Prop} {rq : Option Nat} {w0 : Base} {ops : Array Oper} {Q : Exit → Act → World → Prop} {e : Env} {hp : Hp} {op : Op} {ty : TypeId} {k : Nat} {pos : String} {af : Array Edge} {rest : List Oper}
variable {fuel : Nat} {listed : Array Bool} {S : Hp}

theorem t_bool {p : Prop} [Decidable p] (hd : Nat.blt k m = true) (hst : Stable P (NT.mk m dk0 rq) w0 op ty e hp (.bool (decide p))) (ht : p → SLo P (NT.mk m dk0 rq) w0 ops Q rest ((k, .bool true) :: e) hp) (hf : ¬ p → SLo P (NT.mk m dk0 rq) w0 ops Q rest ((k, .bool false) :: e) hp) :
    SLo P (NT.mk m dk0 rq) w0 ops Q (⟨some k, op, ty, pos, af, none⟩ :: rest) e hp := by
  refine t_st hd hst ?_
  by_cases h : p
  · rw [decide_eq_true h]; exact ht h
  · rw [decide_eq_false h]; exact hf h
theorem t_boolv {b : Bool} (hd : Nat.blt k m = true) (hst : Stable P (NT.mk m dk0 rq) w0 op ty e hp (.bool b)) (ht : b = true → SLo P (NT.mk m dk0 rq) w0 ops Q rest ((k, .bool true) :: e) hp) (hf : b = false → SLo P (NT.mk m dk0 rq) w0 ops Q rest ((k, .bool false) :: e) hp) :
    SLo P (NT.mk m dk0 rq) w0 ops Q (⟨some k, op, ty, pos, af, none⟩ :: rest) e hp := by
  refine t_st hd hst ?_
  cases b
  · exact hf rfl
  · exact ht rfl
theorem t_doB {p : Prop} [Decidable p] (hd : Nat.blt k m = true) (hdo : Does P (NT.mk m dk0 rq) w0 op ty e hp (fun v hp' => v = .bool (decide p) ∧ hp' = hp)) (ht : p → SLo P (NT.mk m dk0 rq) w0 ops Q rest ((k, .bool true) :: e) hp) (hf : ¬ p → SLo P (NT.mk m dk0 rq) w0 ops Q rest ((k, .bool false) :: e) hp) :
    SLo P (NT.mk m dk0 rq) w0 ops Q (⟨some k, op, ty, pos, af, none⟩ :: rest) e hp := by
  refine t_do (d := some k) hd hdo ?_
  rintro v hp' ⟨rfl, rfl⟩
  by_cases h : p
  · rw [decide_eq_true h]; exact ht h
  · rw [decide_eq_false h]; exact hf h

/- returns; what is not handed back is let go -/
variable {fn : Func} {Φ : Value → Hp → Prop}
theorem x_sub {x : Exit} {e' : Env} {hp' : Hp} (he : Sub e' e) (hh : hp'.Sublist hp) (h : SLx n w0 Q x e' hp') : SLx n w0 Q x e hp := fun a w hf ho => h a w (hf.sub he) (ho.sub hh)
theorem x_drop {x : Exit} {hp' : Hp} (hh : hp'.Sublist hp) (h : SLx n w0 Q x e hp') : SLx n w0 Q x e hp := fun a w hf ho => h a w hf (ho.sub hh)
theorem c_drop {c : Code} {hp' : Hp} (hh : hp'.Sublist hp) (h : SLc P n w0 Q c e hp') : SLc P n w0 Q c e hp := fun a w hf ho => h a w hf (ho.sub hh)
theorem t_perm {l : List Oper} {hp' : Hp} (hh : hp'.Perm hp) (h : SLo P n w0 ops Q l e hp') : SLo P n w0 ops Q l e hp := fun a w hf ho => h a w hf (ho.perm hh)
theorem pull {i : Nat} {x : Nat × Obj} (h : hp[i]? = some x) : (x :: hp.eraseIdx i).Perm hp := by
  exact pull_list hp i x h
theorem c_pull (i : Nat) {x : Nat × Obj} {c : Code} (h : hp[i]? = some x) (hc : SLc P n w0 Q c e (x :: hp.eraseIdx i)) : SLc P n w0 Q c e hp := fun a w hf ho => hc a w hf (ho.perm (pull h))
theorem t_pull (i : Nat) {x : Nat × Obj} {l : List Oper} (h : hp[i]? = some x) (hc : SLo P n w0 ops Q l e (x :: hp.eraseIdx i)) : SLo P n w0 ops Q l e hp := fun a w hf ho => hc a w hf (ho.perm (pull h))
theorem x_pull (i : Nat) {x : Nat × Obj} {ex : Exit} (h : hp[i]? = some x) (hc : SLx n w0 Q ex e (x :: hp.eraseIdx i)) : SLx n w0 Q ex e hp := fun a w hf ho => hc a w hf (ho.perm (pull h))
theorem t_drop {l : List Oper} {hp' : Hp} (hh : hp'.Sublist hp) (h : SLo P n w0 ops Q l e hp') : SLo P n w0 ops Q l e hp := fun a w hf ho => h a w hf (ho.sub hh)

/- loops: 'ec' is what stays -/
theorem sub_append : ∀ {a b e : Env}, Sub a e → Sub b e → Sub (a ++ b) e
  | [], _, _, _, h => h
  | (_, _) :: _, _, _, ha, h => ⟨ha.1, sub_append ha.2 h⟩
variable {b1 : Base}
theorem u_callf {f : FuncId} {xs : Array Operand} {ts : Array TypeId} (vs : List Value) (hc : callable P f = true) (hv : vals e xs.toList = some vs) (h : ∀ w, Own w0 hp w → CallsH P f vs w [] Φ) :
    Does P n w0 (.call { callee := .value (.func f), args := xs, argTypes := ts }) ty e hp (fun v hp' => ∃ hp1, hp' = hp1 ++ hp ∧ Φ v hp1) := u_call vs hc hv (CallsH.frame h)
end

/- memory that is read -/
theorem Rd.le {b b' : Base} {A : Option Addr} {xs : List Value} (h : Rd b.w A xs) (hle : b.Le b') : Rd b'.w A xs := fun j u hu => by
  have := h j u hu
  cases A with
  | none => simp [cellO] at this
  | some p => exact hle.cells (p.add j) u this
theorem Rd.fz {w : World} {g : Nat} {t : TypeId} {cs : List Value} (h : w.heap[g]? = some (Cl t cs)) : Rd w (some ⟨g, 0, none⟩) cs := fun j u hu => by
  simp only [cellO, Option.bind_some, Addr.add_lit, Nat.zero_add]
  simp [World.cell?, h, hu]
theorem Rd.old {w0 : Base} {w : World} {hp : Hp} {A : Option Addr} {xs : List Value} (h : Rd w0.w A xs) (ho : Own w0 hp w) : Rd w A xs := fun j u hu => by
  have := h j u hu
  cases A with
  | none => simp [cellO] at this
  | some p => exact ho.old (p := p.add j) this
theorem Rd.own {w0 : Base} {w : World} {hp : Hp} {i g : Nat} {t : TypeId} {cs : List Value} (ho : Own w0 hp w) (hi : hp[i]? = some (g, Cl t cs)) : Rd w (some ⟨g, 0, none⟩) cs := fun j u hu => by
  simp only [cellO, Option.bind_some, Addr.add_lit, Nat.zero_add]
  rw [ho.cell hi]
  exact hu
theorem Rd.left {w : World} {A : Option Addr} {xs ys : List Value} (h : Rd w A (xs ++ ys)) : Rd w A xs := fun j u hu =>
  h j u (by rw [List.getElem?_append_left (List.getElem?_eq_some_iff.1 hu).1]; exact hu)
theorem Rd.nil {w : World} {A : Option Addr} : Rd w A [] := fun j u hu => by simp at hu

/-- Elements of 'sz' cells each, one behind the other. -/
def rows {α : Type} (enc : α → List Value) (l : List α) : List Value := l.flatMap enc
theorem rows_length {α : Type} {enc : α → List Value} {sz : Nat} (he : ∀ x, (enc x).length = sz) (l : List α) : (rows enc l).length = l.length * sz := by
  induction l with
  | nil => simp [rows]
  | cons x r ih => simp only [rows, List.flatMap_cons, List.length_append, he] at ih ⊢; rw [ih, List.length_cons, Nat.add_mul]; omega
theorem rows_get {α : Type} {enc : α → List Value} {sz : Nat} (he : ∀ x, (enc x).length = sz) : ∀ {l : List α} {k : Nat} {x : α}, l[k]? = some x → ∀ {j : Nat} {u : Value}, (enc x)[j]? = some u → (rows enc l)[k * sz + j]? = some u
  | [], k, x, h, j, u, hu => by simp at h
  | y :: r, 0, x, h, j, u, hu => by
    have hxy : y = x := by simpa using h
    subst hxy
    have hj : j < (enc y).length := (List.getElem?_eq_some_iff.1 hu).1
    simp only [rows, List.flatMap_cons, Nat.zero_mul, Nat.zero_add]
    rw [List.getElem?_append_left hj]
    exact hu
  | y :: r, k + 1, x, h, j, u, hu => by
    have hr : r[k]? = some x := by simpa using h
    have ih := rows_get he hr hu
    have e1 : (k + 1) * sz + j = (enc y).length + (k * sz + j) := by rw [he, Nat.add_mul]; omega
    simp only [rows, List.flatMap_cons]
    rw [e1, List.getElem?_append_right (by omega), Nat.add_sub_cancel_left]
    exact ih
theorem Rd.row {α : Type} {enc : α → List Value} {sz : Nat} (he : ∀ x, (enc x).length = sz) {w : World} {A : Option Addr} {l : List α} (h : Rd w A (rows enc l)) {k : Nat} {x : α} (hx : l[k]? = some x) {j : Nat} {u : Value} (hu : (enc x)[j]? = some u) : cellO w A (k * sz + j) = some u :=
  h _ u (rows_get he hx hu)
theorem rows_append {α : Type} (enc : α → List Value) (l m : List α) : rows enc (l ++ m) = rows enc l ++ rows enc m := by simp [rows]

def encI (n : Int) : List Value := [.int .i64 n]
theorem encI_len (n : Int) : (encI n).length = 1 := rfl
def encB (b : Bool) : List Value := [.bool b]
theorem encB_len (b : Bool) : (encB b).length = 1 := rfl
theorem Rd.int {w : World} {A : Option Addr} {l : List Int} (h : Rd w A (rows encI l)) {k : Nat} {x : Int} (hx : l[k]? = some x) : cellO w A (k * 1) = some (.int .i64 x) := h.row encI_len hx (j := 0) rfl
theorem Rd.isSome {α : Type} {enc : α → List Value} {sz : Nat} (he : ∀ x, (enc x).length = sz) (hs : 0 < sz) {w : World} {A : Option Addr} {l : List α} (h : Rd w A (rows enc l)) {k : Nat} {x : α} (hx : l[k]? = some x) : A.isSome = true := by
  have hl : 0 < (enc x).length := by rw [he]; exact hs
  exact cellO_some (h.row he hx (List.getElem?_eq_getElem hl))
theorem ex_get {α : Type} {l : List α} {k : Nat} (h : k < l.length) : ∃ x, l[k]? = some x := ⟨l[k], List.getElem?_eq_getElem h⟩
theorem rows_set {α : Type} {enc : α → List Value} {sz : Nat} (he : ∀ x, (enc x).length = sz) : ∀ {l : List α} {k : Nat} (x : α), k < l.length → (rows enc l).take (k * sz) ++ enc x ++ (rows enc l).drop (k * sz + sz) = rows enc (l.set k x)
  | [], k, x, h => by simp at h
  | y :: r, 0, x, h => by
    simp only [rows, List.flatMap_cons, Nat.zero_mul, Nat.zero_add, List.take_zero, List.nil_append, List.set_cons_zero]
    rw [← he y, List.drop_left]
  | y :: r, k + 1, x, h => by
    have ih := rows_set he (l := r) (k := k) x (by simpa using h)
    simp only [rows, List.flatMap_cons, List.set_cons_succ] at ih ⊢
    rw [← ih]
    have e1 : (k + 1) * sz = (enc y).length + k * sz := by rw [he, Nat.add_mul]; omega
    have e2 : (k + 1) * sz + sz = (enc y).length + (k * sz + sz) := by omega
    rw [e2, e1, List.take_length_add_append, List.drop_length_add_append]
    simp
theorem ints_set {l : List Int} {k : Nat} (x : Int) (h : k < l.length) : (rows encI l).set (k * 1) (.int .i64 x) = rows encI (l.set k x) := by
  rw [← rows_set encI_len x h, Nat.mul_one]
  have hl : (rows encI l).length = l.length := by rw [rows_length encI_len]; omega
  rw [List.set_eq_take_append_cons_drop]
  simp [hl, h, encI]
theorem bools_set {l : List Bool} {k : Nat} (x : Bool) (h : k < l.length) : (rows encB l).set (k * 1) (.bool x) = rows encB (l.set k x) := by
  rw [← rows_set encB_len x h, Nat.mul_one]
  have hl : (rows encB l).length = l.length := by rw [rows_length encB_len]; omega
  rw [List.set_eq_take_append_cons_drop]
  simp [hl, h, encB]

theorem own_row {α : Type} {enc : α → List Value} {sz : Nat} (he : ∀ x, (enc x).length = sz) {l : List α} {tl : List Value} {k : Nat} {x : α} (hx : l[k]? = some x) {j : Nat} {u : Value} (hu : (enc x)[j]? = some u) : (rows enc l ++ tl)[0 + k * sz + j]? = some u := by
  have h := rows_get he hx hu
  rw [Nat.zero_add, List.getElem?_append_left (List.getElem?_eq_some_iff.1 h).1]
  exact h
theorem own_int {l : List Int} {tl : List Value} {k : Nat} {x : Int} (hx : l[k]? = some x) : (rows encI l ++ tl)[0 + k * 1]? = some (.int .i64 x) := own_row encI_len hx (j := 0) rfl
theorem own_bool {l : List Bool} {tl : List Value} {k : Nat} {x : Bool} (hx : l[k]? = some x) : (rows encB l ++ tl)[0 + k * 1]? = some (.bool x) := own_row encB_len hx (j := 0) rfl

section
variable {P : Program} {n : NT} {m : Nat} {dk0 : Nat × Obj → Prop} {rq : Option Nat} {w0 : Base} {e : Env} {hp : Hp} {ty : TypeId}
theorem u_store_row {α : Type} {enc : α → List Value} (he : ∀ x, (enc x).length = 1) (i : Nat) {t t' : TypeId} {x y : Operand} {g k : Nat} {l : List α} {tl : List Value} {v : Value} (z : α) (hz : enc z = [v]) (hx : val e x = some (.pointer (some ⟨g, 0 + k * 1, none⟩))) (hy : val e y = some v) (ht : sizT P t 1 = true) (h1 : v.oneCell' = true)
    (hi : hp[i]? = some (g, Cl t' (rows enc l ++ tl))) (hlt : k < l.length) :
    Does P n w0 (.store t x y) ty e hp (fun _ hp' => hp' = hp.set i (g, Cl t' (rows enc (l.set k z) ++ tl))) := by
  have hl : (rows enc l).length = l.length := by rw [rows_length he]; omega
  have h := u_store (P := P) (n := n) (w0 := w0) (e := e) (ty := ty) i hx hy ht h1 hi (by rw [List.length_append, hl]; omega)
  have e1 : (rows enc l ++ tl).set (0 + k * 1) v = rows enc (l.set k z) ++ tl := by
    rw [← rows_set he z hlt, Nat.zero_add, Nat.mul_one, List.set_append_left _ _ (by omega), List.set_eq_take_append_cons_drop]
    simp [hl, hlt, hz]
  rw [e1] at h
  exact h
theorem u_store_int (i : Nat) {t t' : TypeId} {x y : Operand} {g k : Nat} {l : List Int} {tl : List Value} {z : Int} (hx : val e x = some (.pointer (some ⟨g, 0 + k * 1, none⟩))) (hy : val e y = some (.int .i64 z)) (ht : sizT P t 1 = true)
    (hi : hp[i]? = some (g, Cl t' (rows encI l ++ tl))) (hlt : k < l.length) :
    Does P n w0 (.store t x y) ty e hp (fun _ hp' => hp' = hp.set i (g, Cl t' (rows encI (l.set k z) ++ tl))) := u_store_row encI_len i z rfl hx hy ht rfl hi hlt
theorem u_store_bool (i : Nat) {t t' : TypeId} {x y : Operand} {g k : Nat} {l : List Bool} {tl : List Value} {z : Bool} (hx : val e x = some (.pointer (some ⟨g, 0 + k * 1, none⟩))) (hy : val e y = some (.bool z)) (ht : sizT P t 1 = true)
    (hi : hp[i]? = some (g, Cl t' (rows encB l ++ tl))) (hlt : k < l.length) :
    Does P n w0 (.store t x y) ty e hp (fun _ hp' => hp' = hp.set i (g, Cl t' (rows encB (l.set k z) ++ tl))) := u_store_row encB_len i z rfl hx hy ht rfl hi hlt
end
end Go.Fp
