/- Extraction, part B: what start-up code has laid, at every world of a walk; numerals and joined words by the shelf's contracts. -/
import Derived.Test.YtnmhabgnfifkdaaXA
import Derived.Lib.LaidTab
import Derived.Lib.ItoaNum
import Derived.Lib.Join
import Derived.Sort.Grow
import Derived.Deep.Draws
set_option linter.unusedVariables false
namespace Go.Fp
open Go.RowKit Go.Sort

/-- 'G' holds at every world of the walk. -/
def GOn (G : World → Prop) (b : Base) : Prop := ∀ hp w, Own b hp w → G w
theorem GOn.le {G : World → Prop} {b b' : Base} (h : GOn G b) (hle : b.Le b') : GOn G b' := fun hp w ho => h hp w (hle.back _ _ ho)
theorem GOn.old {G : World → Prop} {b : Base} {hp : Hp} {w : World} (h : GOn G b) (ho : Own b hp w) : GOn G (w : Base) := fun hp' w' ho' => h _ _ (ho.grow ho')
theorem GOn.mono {G G' : World → Prop} {b : Base} (h : GOn G b) (hg : ∀ w, G w → G' w) : GOn G' b := fun hp w ho => hg w (h hp w ho)
/-- strconv.Itoa. -/
def itoaM (n : Int) : Option ByteArray := (chk n).bind fun _ => some ⟨(Lib.itoa n).toArray⟩
/-- strings.Join. -/
def joinM (l : List ByteArray) (sep : ByteArray) : Option ByteArray :=
  if l.length ≤ 140737488355328 ∧ (Lib.join (l.map (·.data.toList)) sep.data.toList).length ≤ 140737488355328 then some ⟨(Lib.join (l.map (·.data.toList)) sep.data.toList).toArray⟩ else none
end Go.Fp
