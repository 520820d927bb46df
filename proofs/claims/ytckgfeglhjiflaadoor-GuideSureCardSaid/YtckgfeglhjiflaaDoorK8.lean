/- The framework, part 8: new memory behind the named blocks; freezing it; reading a slice of the call's own by what it reads as. -/
import Derived.Test.YtckgfeglhjiflaaDoorK7
namespace Go.Fp
open Go.RowKit

section
variable {P : Program} {n : NT} {m : Nat} {dk0 : Hp} {rq : Option Nat} {w0 : Base} {ops : Array Oper} {Q : Exit → Act → World → Prop} {e : Env} {hp : Hp} {ty : TypeId} {f : FuncId} {args : List Value} {Φ : Value → Hp → Prop}

theorem perm_mid (F q R : Hp) : (q ++ (F ++ R)).Perm (F ++ (q ++ R)) := by
  rw [← List.append_assoc, ← List.append_assoc]
  exact List.Perm.append_right R List.perm_append_comm
theorem CallsH.frameF (F R : Hp) (hhp : hp = F ++ R) (h : ∀ w, Own w0 hp w → CallsH P f args w [] Φ) : CallsH P f args w0 hp (fun v hp' => ∃ hp1, hp' = F ++ (hp1 ++ R) ∧ Φ v hp1) := fun w ho =>
  (CallsH.frame h w ho).mono fun _ _ ⟨v, hp', he, ho', hp1, hq, hΦ⟩ => ⟨v, F ++ (hp1 ++ R), he, by rw [hq, hhp] at ho'; exact ho'.perm (perm_mid F hp1 R).symm, hp1, rfl, hΦ⟩
theorem u_callF (F R : Hp) {xs : Array Operand} {ts : Array TypeId} (vs : List Value) (hc : callable P f = true) (hv : vals e xs.toList = some vs) (hhp : hp = F ++ R) (h : ∀ w, Own w0 hp w → CallsH P f vs w [] Φ) :
    Does P n w0 (.call { callee := .value (.func f), args := xs, argTypes := ts }) ty e hp (fun v hp' => ∃ hp1, hp' = F ++ (hp1 ++ R) ∧ Φ v hp1) := u_call vs hc hv (CallsH.frameF F R hhp h)

theorem st_load_rd {x : Operand} {t : TypeId} {A : Option Addr} {k : Nat} {v : Value} (hx : val e x = some (.pointer (A.map (·.add k)))) (ht : oneT P t = true) (hrd : ∀ w, Own w0 hp w → cellO w A k = some v) :
    Stable P n w0 (.load t x) ty e hp v := fun a w hf ho _ _ _ _ => by
  have hv := hrd w ho
  cases A with
  | none => simp [cellO] at hv
  | some p =>
    simp only [Option.map_some] at hx
    have hc : w.cell? (p.add k) = some v := hv
    simp [execOp, hf.eval hx, Instr.loadAt, Instr.sureAddr, loadVar, run_isAgg_one ht, hc]

theorem c_freezeF (F hs R : Hp) {c : Code} (hhp : hp = F ++ (hs ++ R)) (h : ∀ b', w0.Le b' → (∀ x ∈ hs, b'.w.heap[x.1]? = some x.2) → SLc P n b' Q c e (F ++ R)) : SLc P n w0 Q c e hp := fun a w hf ho => by
  subst hhp
  obtain ⟨h1, h2, h3⟩ := (ho.perm (perm_mid F hs R)).freeze
  exact h _ h2 h3 a w (hf.le h2) h1
theorem x_freezeF (F hs R : Hp) {ex : Exit} (hhp : hp = F ++ (hs ++ R)) (h : ∀ b', w0.Le b' → (∀ x ∈ hs, b'.w.heap[x.1]? = some x.2) → SLx n b' Q ex e (F ++ R)) : SLx n w0 Q ex e hp := fun a w hf ho => by
  subst hhp
  obtain ⟨h1, h2, h3⟩ := (ho.perm (perm_mid F hs R)).freeze
  exact h _ h2 h3 a w (hf.le h2) h1
theorem Seg.isSome {el sz m : Nat} {A : Option Addr} {c : Nat} {xs : List Value} {hs : Hp} (h : Seg el sz (.slice A m c) m xs hs) (hm : 0 < m) : A.isSome = true := by
  obtain ⟨g, cap, pr, tl, hv, _⟩ := h.pos hm
  injection hv with h1
  rw [h1]; rfl
theorem Seg.rdF {el sz m : Nat} {A : Option Addr} {c : Nat} {xs : List Value} (F hs R : Hp) {w : World} (h : Seg el sz (.slice A m c) m xs hs) (hhp : hp = F ++ (hs ++ R)) (ho : Own w0 hp w) : Rd w A xs :=
  h.rd fun x hx => (ho.blk x.1 x.2 (by rw [hhp]; simp [hx])).2
end
theorem Seg.rd' {el sz m : Nat} {A : Option Addr} {c : Nat} {xs : List Value} {hs : Hp} {w : World} (h : Seg el sz (.slice A m c) m xs hs) (hb : ∀ x ∈ hs, w.heap[x.1]? = some x.2) : Rd w A xs := h.rd hb
theorem cell_le {b b' : Base} (hle : b.Le b') {p : Addr} {v : Value} (h : b.w.cell? p = some v) : b'.w.cell? p = some v := hle.cells p v h
theorem cell_fz {w : World} {g : Nat} {t : TypeId} {cs : List Value} (h : w.heap[g]? = some (Cl t cs)) (k : Nat) {v : Value} (hv : cs[k]? = some v) : w.cell? ⟨g, k, none⟩ = some v := by
  simp [World.cell?, h, hv]

theorem made_rows {α : Type} {enc : α → List Value} (x : α) (z : Value) (hx : enc x = [z]) (hz : z.cells = #[z]) (m : Nat) : (madeCells z.cells (m * 1)).toList = rows enc (List.replicate m x) ++ [] := by
  rw [hz]
  apply List.ext_getElem?
  intro j
  simp only [madeCells, Nat.mul_one, Array.toList_map, List.append_nil]
  have hr : ∀ m : Nat, rows enc (List.replicate m x) = List.replicate m z := by
    intro m
    induction m with
    | zero => rfl
    | succ m ih =>
      simp only [rows, List.replicate_succ, List.flatMap_cons] at ih ⊢
      rw [ih, hx]; rfl
  rw [hr]
  by_cases hj : j < m
  · simp [hj, Nat.mod_one]
  · simp [hj]
section
variable {P : Program} {n : NT} {m : Nat} {dk0 : Hp} {rq : Option Nat} {w0 : Base} {e : Env} {hp : Hp} {ty : TypeId}
/-- make([]T, m), T of one cell -/
theorem u_mk {α : Type} {enc : α → List Value} {t el by_ : Nat} {x y : Operand} {z : Value} (a0 : α) (m : Nat) (hx : val e x = some (.int .i64 (m : Int))) (hy : val e y = some (.int .i64 (m : Int)))
    (hsl : slT P t el 1 = true) (hinf : (P.info? el).map (fun i => (i.zero, i.size, i.bytes)) = some (some z, 1, by_)) (he : enc a0 = [z]) (hz : z.cells = #[z]) (hb : by_ * m ≤ 281474976710656) (hm : m ≤ 9223372036854775807) :
    Does P n w0 (.makeSlice t x y) ty e hp (fun v hp' => ∃ g, v = .slice (some ⟨g, 0, none⟩) m m ∧ hp' = (g, Cl el (rows enc (List.replicate m a0) ++ [])) :: hp) := by
  obtain ⟨h2, _⟩ := slT_spec hsl
  cases hi : P.info? el with
  | none => simp [hi] at hinf
  | some inf =>
    simp only [hi, Option.map_some, Option.some.injEq, Prod.mk.injEq] at hinf
    have h := u_make (P := P) (n := n) (w0 := w0) (e := e) (hp := hp) (ty := ty) m hx hy h2 hi hinf.1 (by rw [hinf.2.2]; exact hb) hm
    rw [hinf.2.1, made_rows a0 z he hz m] at h
    exact h
end
end Go.Fp
