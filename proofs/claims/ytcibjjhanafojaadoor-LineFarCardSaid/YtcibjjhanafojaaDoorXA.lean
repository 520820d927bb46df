/- Extraction, part A: errors as 'nil or not', calls of the library by the shelf's contracts. -/
import Derived.Test.YtcibjjhanafojaaDoorX9
import Derived.Lib.AtoiAll
import Derived.Lib.AtoiErrMem
import Derived.WideLaws
set_option linter.unusedVariables false
namespace Go.Fp
open Go.RowKit

/-- An error: nil, or some value. -/
def ErrV (v : Value) (q : Bool) : Prop := match q with
  | true => v = .nilIface
  | false => ∃ t u, v = .iface t u
theorem ErrV.nil : ErrV .nilIface true := rfl
section
variable {P : Program} {n : NT} {m : Nat} {dk0 : Hp} {rq : Option Nat} {b : Base} {e : Env} {hp : Hp} {ty : TypeId}
def ifT (P : Program) (t : TypeId) : Prop := P.underlying t = some (.interface (P.methodsAt t))
theorem st_eqlE {x : Operand} {t u : TypeId} {v : Value} {q : Bool} (hx : val e x = some v) (h : ErrV v q) (ht : ifT P t) : Stable P n b (.binOp .eql t x (.const .nilIface) u) ty e hp (.bool q) := fun a w hf _ _ _ _ _ => by
  cases q with
  | true =>
    have hv : v = .nilIface := h
    subst hv
    have h1 := run_equal_nil_nil (P := P) w t ht
    simp [execOp, hf.eval hx, show a.eval (.const .nilIface) = .nilIface from rfl, eqGuard, binOp, h1]
  | false =>
    obtain ⟨t', u', rfl⟩ := h
    have h1 := run_equal_held_nil (P := P) w t t' u' ht
    simp [execOp, hf.eval hx, show a.eval (.const .nilIface) = .nilIface from rfl, eqGuard, binOp, h1]
theorem st_neqE {x : Operand} {t u : TypeId} {v : Value} {q : Bool} (hx : val e x = some v) (h : ErrV v q) (ht : ifT P t) : Stable P n b (.binOp .neq t x (.const .nilIface) u) ty e hp (.bool (!q)) := fun a w hf _ _ _ _ _ => by
  cases q with
  | true =>
    have hv : v = .nilIface := h
    subst hv
    have h1 := run_equal_nil_nil (P := P) w t ht
    simp [execOp, hf.eval hx, show a.eval (.const .nilIface) = .nilIface from rfl, eqGuard, binOp, h1]
  | false =>
    obtain ⟨t', u', rfl⟩ := h
    have h1 := run_equal_held_nil (P := P) w t t' u' ht
    simp [execOp, hf.eval hx, show a.eval (.const .nilIface) = .nilIface from rfl, eqGuard, binOp, h1]
end
theorem below_keeps {w w' : World} (h : Below w.heap.size w w') : Keeps w w' := fun p v hv => by
  rw [World.cell?_of_block (w := w) (h.block p.block (World.block_lt_of_cell? w p hv))]
  exact hv
theorem Own.below_ {b : Base} {hp : Hp} {w w' : World} (ho : Own b hp w) (h : Below w.heap.size w w') : Own b hp w' := by
  have h1 : Own (w : Base) [] w' := ⟨Nat.le_refl _, h, below_keeps h, List.nodup_nil, fun g o hm => by simp at hm, fun g o hm => by simp at hm, fun g o hm => absurd hm (by simp)⟩
  simpa using ho.grow h1
/-- What strconv.Atoi yields, and whether its error is nil. -/
def atoiM (s : ByteArray) : Option (Int × Bool) := if s.size ≤ 281474976710656 then (match Lib.atoiAll s.data.toList with
  | .ok v => some (v, true)
  | Lib.NumEnd.syntax => some (0, false)
  | .range => some (Lib.atoiSat s.data.toList, false)) else none
/-- What start-up code has laid, as far as it is read: two errors of package strconv. -/
def GLo (gs gr : Nat) (w : World) : Prop := (∃ t u, w.cell? ⟨gs, 0, none⟩ = some (.iface t u)) ∧ ∃ t u, w.cell? ⟨gr, 0, none⟩ = some (.iface t u)
theorem GLo.mono {gs gr : Nat} {w w' : World} (hk : Keeps w w') (h : GLo gs gr w) : GLo gs gr w' := by
  obtain ⟨⟨t, u, h1⟩, t', u', h2⟩ := h
  exact ⟨⟨t, u, hk _ _ h1⟩, t', u', hk _ _ h2⟩
theorem GLo.le {gs gr : Nat} {b b' : Base} (h : GLo gs gr b.w) (hle : b.Le b') : GLo gs gr b'.w := h.mono hle.cells
theorem GLo.old {gs gr : Nat} {b : Base} {hp : Hp} {w : World} (h : GLo gs gr b.w) (ho : Own b hp w) : GLo gs gr w := h.mono ho.keeps
/-- strconv.Atoi, from the shelf's three contracts. -/
theorem atoi_of {P : Program} {f : FuncId} {gs gr tE tC : Nat} (t5 : TypeId)
    (h1 : ∀ (s : ByteArray) (_ : s.size ≤ 9223372036854775806) (v : Int) (_ : Lib.atoiAll s.data.toList = .ok v) (w : World), Calls P f #[.string s] w fun e w' => e = .returned (.tuple #[.int .i64 v, .nilIface]) ∧ (w' = w ∨ ∃ t, w' = Lib.bytesWorld w t5 t))
    (h2 : ∀ (s : ByteArray) (_ : s.size ≤ 281474976710656) (_ : Lib.atoiAll s.data.toList = Lib.NumEnd.syntax) (ev : Value) (w : World) (_ : w.cell? ⟨gs, 0, none⟩ = some ev) (_ : ev = .nilIface ∨ ∃ te pe, ev = .iface te pe), Calls P f #[.string s] w fun e w' => ∃ N, e = .returned (.tuple #[.int .i64 (0), .iface tE (.pointer (some ⟨N, 0, none⟩))]) ∧ w.heap.size ≤ N ∧ w'.heap[N]? = some (.cells #[.string ⟨#[65, 116, 111, 105]⟩, .string s, ev] tC (0, 0)) ∧ Below w.heap.size w w')
    (h3 : ∀ (s : ByteArray) (_ : s.size ≤ 281474976710656) (_ : Lib.atoiAll s.data.toList = .range) (ev : Value) (w : World) (_ : w.cell? ⟨gr, 0, none⟩ = some ev) (_ : ev = .nilIface ∨ ∃ te pe, ev = .iface te pe), Calls P f #[.string s] w fun e w' => ∃ N, e = .returned (.tuple #[.int .i64 (Lib.atoiSat s.data.toList), .iface tE (.pointer (some ⟨N, 0, none⟩))]) ∧ w.heap.size ≤ N ∧ w'.heap[N]? = some (.cells #[.string ⟨#[65, 116, 111, 105]⟩, .string s, ev] tC (0, 0)) ∧ Below w.heap.size w w')
    {b : Base} {R : Hp} (hG : GLo gs gr b.w) {s : ByteArray} {x : Int} {q : Bool} (hm : atoiM s = some (x, q)) :
    CallsG P f [.string s] b R (fun v b' hp' => ∃ (e : Value), .tuple #[.int .i64 x, e] = v ∧ R = hp' ∧ ErrV e q) := fun w ho => by
  obtain ⟨⟨t, u, g1⟩, t', u', g2⟩ := hG.old ho
  unfold atoiM at hm
  split at hm
  · rename_i hsz
    split at hm
    · rename_i v hv
      injection hm with hm
      injection hm with e1 e2
      subst e1; subst e2
      refine (h1 s (by omega) _ hv w).mono fun e w' ⟨he, hw⟩ => ⟨_, b, R, he, Base.Le.refl _, ?_, .nilIface, rfl, rfl, rfl⟩
      rcases hw with rfl | ⟨t, rfl⟩
      · exact ho
      · exact ho.below_ (Lib.bytesWorld_below w _ _)
    · rename_i hv
      injection hm with hm
      injection hm with e1 e2
      subst e1; subst e2
      exact (h2 s hsz hv _ w g1 (.inr ⟨_, _, rfl⟩)).mono fun e w' ⟨N, he, _, _, hw⟩ => ⟨_, b, R, he, Base.Le.refl _, ho.below_ hw, _, rfl, rfl, _, _, rfl⟩
    · rename_i hv
      injection hm with hm
      injection hm with e1 e2
      subst e1; subst e2
      exact (h3 s hsz hv _ w g2 (.inr ⟨_, _, rfl⟩)).mono fun e w' ⟨N, he, _, _, hw⟩ => ⟨_, b, R, he, Base.Le.refl _, ho.below_ hw, _, rfl, rfl, _, _, rfl⟩
  · cases hm
end Go.Fp
