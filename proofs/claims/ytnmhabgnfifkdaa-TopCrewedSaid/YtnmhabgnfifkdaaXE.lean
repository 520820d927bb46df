/- Extraction, part 14: arrays in own and in frozen blocks. -/
import Derived.Test.YtnmhabgnfifkdaaXD
import Derived.Lib.AppendZerosOnto
namespace Go.Fp
open Go.RowKit

section
variable {P : Program} {n : NT} {m : Nat} {dk0 : Hp} {rq : Option Nat} {b : Base} {e : Env} {hp : Hp} {ty : TypeId}
theorem flat_setk {α : Type} {r : RT α} {w : World} {v : Value} {k : Nat} (hk : k < r.sz) : ∀ {css : List (List Value)} {l : List α}, All2 (r.rep w) css l → ∀ {j : Nat} {d : List Value}, css[j]? = some d → css.flatten.set (j * r.sz + k) v = (css.set j (d.set k v)).flatten
  | [], _, _, j, d, hd => by simp at hd
  | c :: css, x :: l, h, 0, d, hd => by
    simp at hd
    subst hd
    have := r.len h.1
    simp only [Nat.zero_mul, Nat.zero_add, List.set_cons_zero, List.flatten_cons]
    rw [List.set_append_left (h := by omega)]
  | c :: css, x :: l, h, j + 1, d, hd => by
    have ih := flat_setk (v := v) hk h.2 (j := j) (d := d) (by simpa using hd)
    have hl := r.len h.1
    have e1 : (j + 1) * r.sz + k = r.sz + (j * r.sz + k) := by rw [Nat.add_mul]; omega
    simp only [List.set_cons_succ, List.flatten_cons]
    rw [e1, List.set_append_right (h := by omega), show r.sz + (j * r.sz + k) - c.length = j * r.sz + k by omega, ih]
theorem arr_put {α : Type} {m k o : Nat} {r : RT α} {w : World} {cs : List Value} {l : List α} {i : Int} {j : Nat} {x y : α} {v : Value} (hj : i = (j : Int)) (h : (RT.arr m r).rep w cs l) (hx : l[j]? = some x) (hk : k < r.sz) (ho : o = j * r.sz + k) (hy : ∀ ds, r.rep w ds x → r.rep w (ds.set k v) y) :
    (RT.arr m r).rep w (cs.set o v) (put l i y) := by
  subst ho hj
  obtain ⟨hl, css, rfl, h2⟩ := h
  obtain ⟨d, hd, hr⟩ := h2.get hx
  rw [put_nat]
  exact ⟨by rw [List.length_set]; exact hl, css.set j (d.set k v), flat_setk hk h2 hd, h2.set j (hy d hr)⟩
theorem int_set {q : IntKind} {w : World} {y x : Int} (ds : List Value) (h : (RT.int q).rep w ds x) : (RT.int q).rep w (ds.set 0 (.int q y)) y := by
  rw [show ds = [.int q x] from h]
  rfl
theorem arr_zero {α : Type} {r : RT α} {w : World} {cs : List Value} {x : α} (m : Nat) (h : r.rep w cs x) : (RT.arr m r).rep w (List.replicate m cs).flatten (List.replicate m x) :=
  ⟨List.length_replicate, _, rfl, All2.rep h m⟩
theorem u_storeArr (i : Nat) {t t' : TypeId} {x y : Operand} {g o m : Nat} {cs : List Value} {v : Value} {α : Type} {r : RT α} {w : World} {l : List α} (hx : val e x = some (.pointer (some ⟨g, o, none⟩))) (hy : val e y = some v) (ht : sizT P t 1 = true) (h1 : v.oneCell' = true)
    (hi : hp[i]? = some (g, Cl t' cs)) (hr : (RT.arr m r).rep w cs l) (hlt : o < m * r.sz) :
    Does P n b (.store t x y) ty e hp (fun _ hp' => hp' = hp.set i (g, Cl t' (cs.set o v))) := u_store i hx hy ht h1 hi (by rw [(RT.arr m r).len hr]; exact hlt)
theorem u_storeAll (i : Nat) {t t' : TypeId} {x y : Operand} {g m : Nat} {cs vs : List Value} {α : Type} {r : RT α} {w w' : World} {l l' : List α} (hx : val e x = some (.pointer (some ⟨g, 0, none⟩))) (hy : val e y = some (.agg vs.toArray)) (ht : sizT P t (m * r.sz) = true)
    (hi : hp[i]? = some (g, Cl t' cs)) (hr : (RT.arr m r).rep w cs l) (hv : (RT.arr m r).rep w' vs l') :
    Does P n b (.store t x y) ty e hp (fun _ hp' => hp' = hp.set i (g, Cl t' vs)) := by
  have l1 : cs.length = m * r.sz := (RT.arr m r).len hr
  have l2 : vs.length = m * r.sz := (RT.arr m r).len hv
  have h := u_storeN (n := n) (w0 := b) (ty := ty) i (m * r.sz) (vs := vs) hx hy rfl ht l2 (fun u hu => (RT.arr m r).one hv u hu) hi (by omega)
  have e1 : cs.take 0 ++ vs ++ cs.drop (0 + m * r.sz) = vs := by
    rw [List.take_zero, List.nil_append, Nat.zero_add, ← l1, List.drop_length, List.append_nil]
  rw [e1] at h
  exact h
theorem st_loadArr (i : Nat) {x : Operand} {g t t' m : Nat} {cs : List Value} {α : Type} {r : RT α} {w : World} {l : List α} (hx : val e x = some (.pointer (some ⟨g, 0, none⟩))) (ht : aggT P t (m * r.sz) = true) (hi : hp[i]? = some (g, Cl t' cs)) (hr : (RT.arr m r).rep w cs l) :
    Stable P n b (.load t x) ty e hp (.agg cs.toArray) := st_loadN i (m * r.sz) hx ht hi ((RT.arr m r).len hr) (fun j u hu => by rw [Nat.zero_add]; exact hu)
def posN (i : Int) : Option Nat := if 0 < i then some i.toNat else none
end
end Go.Fp
