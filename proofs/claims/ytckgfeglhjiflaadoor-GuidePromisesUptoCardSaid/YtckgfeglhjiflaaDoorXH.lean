/- Extraction: slices of structs, one field of which is a slice of the call's own. -/
import Derived.Test.YtckgfeglhjiflaaDoorXG
namespace Go.Fp
open Go.RowKit

def OT.on {α β : Type} (o : OT α) (f : β → α) : OT β := ⟨o.sz, fun w vs x hs => o.rep w vs (f x) hs, o.fz.on f, o.fsz, fun h hk hb => o.frz h hk hb, fun hk h => o.mono hk h, fun h => o.cells h⟩
/-- Frozen cells ahead of cells of the call's own. -/
def OT.catR {α : Type} (r : RT α) (o : OT α) : OT α := ⟨r.sz + o.sz, fun w vs x hs => ∃ a c, vs = a ++ c ∧ r.rep w a x ∧ o.rep w c x hs, r.cat o.fz, by show r.sz + o.fz.sz = _; rw [o.fsz],
  fun ⟨a, c, h1, h2, h3⟩ hk hb => ⟨a, c, h1, r.mono hk h2, o.frz h3 hk hb⟩, fun hk ⟨a, c, h1, h2, h3⟩ => ⟨a, c, h1, r.mono hk h2, o.mono hk h3⟩,
  fun ⟨a, c, h1, h2, h3⟩ => by
    have hc := o.cells h3
    refine ⟨by rw [h1, List.length_append, r.len h2, hc.1], fun u hu => ?_⟩
    rw [h1, List.mem_append] at hu
    rcases hu with hu | hu
    · exact r.one h2 u hu
    · exact hc.2 u hu⟩
/-- Cells of the call's own ahead of frozen cells. -/
def OT.catL {α : Type} (o : OT α) (r : RT α) : OT α := ⟨o.sz + r.sz, fun w vs x hs => ∃ a c, vs = a ++ c ∧ o.rep w a x hs ∧ r.rep w c x, o.fz.cat r, by show o.fz.sz + r.sz = _; rw [o.fsz],
  fun ⟨a, c, h1, h2, h3⟩ hk hb => ⟨a, c, h1, o.frz h2 hk hb, r.mono hk h3⟩, fun hk ⟨a, c, h1, h2, h3⟩ => ⟨a, c, h1, o.mono hk h2, r.mono hk h3⟩,
  fun ⟨a, c, h1, h2, h3⟩ => by
    have hc := o.cells h2
    refine ⟨by rw [h1, List.length_append, hc.1, r.len h3], fun u hu => ?_⟩
    rw [h1, List.mem_append] at hu
    rcases hu with hu | hu
    · exact hc.2 u hu
    · exact r.one h3 u hu⟩
/-- A slice of the call's own, of which what hangs on element 'j' has been taken out; of the element's cells 'Q' is known. -/
def HoleQ {α : Type} (el : TypeId) (o : OT α) (w : World) (v : Value) (l : List α) (j : Nat) (Q : List Value → Prop) (hs : Hp) : Prop :=
  ∃ (css : List (List Value)) (hss : List Hp) (hq : Hp) (cs : List Value) (hsj : Hp), Seg el o.sz v l.length css.flatten hq ∧ css[j]? = some cs ∧ cs.length = o.sz ∧ hss[j]? = some hsj ∧ css.length = l.length ∧ hss.length = l.length ∧ css.flatten.length = l.length * o.sz ∧ (css.take j).flatten.length = j * o.sz ∧
    (∀ us a' hn, o.rep w us a' hn → All3 (o.rep w) (css.set j us) (l.set j a') (hss.set j hn)) ∧ Q cs ∧ hs = (hq ++ (hss.take j).flatten) ++ (hss.drop (j + 1)).flatten
section
variable {α : Type} {el : TypeId} {o : OT α} {b : Base} {A : Option Addr} {c : Nat} {l : List α} {hs : Hp}
variable {P : Program} {n : NT} {m : Nat} {dk0 : Hp} {rq : Option Nat} {e : Env} {hp : Hp} {ty : TypeId}
end
end Go.Fp
