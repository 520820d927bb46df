/- Extraction, part B: what start-up code has laid, at every world of a walk; numerals and joined words by the shelf's contracts. -/
import Derived.Test.YtckgfeglhjiflaaDoorXA
import Derived.Lib.LaidTab
import Derived.Lib.ItoaNum
import Derived.Lib.Join
import Derived.Sort.Grow
import Derived.Deep.Draws
set_option linter.unusedVariables false
namespace Go.Fp
open Go.RowKit Go.Sort

/-- 'G' holds at every world of the walk. -/
def GOn (G : World → Prop) (b : Base) : Prop := ∀ hp w, Own b hp w → G w
theorem GOn.le {G : World → Prop} {b b' : Base} (h : GOn G b) (hle : b.Le b') : GOn G b' := fun hp w ho => h hp w (hle.back _ _ ho)
theorem GOn.old {G : World → Prop} {b : Base} {hp : Hp} {w : World} (h : GOn G b) (ho : Own b hp w) : GOn G (w : Base) := fun hp' w' ho' => h _ _ (ho.grow ho')
theorem GOn.mono {G G' : World → Prop} {b : Base} (h : GOn G b) (hg : ∀ w, G w → G' w) : GOn G' b := fun hp w ho => hg w (h hp w ho)
theorem tab_below {P : Program} {W w : World} {name : String} {k : IntKind} {zs : List Int} (hb : ∀ i, i < W.heap.size → w.heap[i]? = W.heap[i]?) (h : Lib.TabIs P W name k zs) : Lib.TabIs P w name k zs := by
  unfold Lib.TabIs World.var? at h ⊢
  cases hg : P.globalNamed name with
  | none => rw [hg] at h; cases h
  | some g =>
    rw [hg] at h
    simp only [Option.bind_some] at h ⊢
    by_cases hlt : g < W.heap.size
    · rw [hb g hlt]; exact h
    · rw [Array.getElem?_eq_none (by omega)] at h; cases h
/-- strconv.Itoa. -/
def itoaM (n : Int) : Option ByteArray := (chk n).bind fun _ => some ⟨(Lib.itoa n).toArray⟩
theorem grown_below (w : World) (q : Nat) (os : Array Obj) : Below w.heap.size w (grow (w.drewN q) os) :=
  ⟨rfl, rfl, rfl, by first | (simp [grow]; done) | (simp [grow]; omega), fun i hi => by
    show ((w.drewN q).heap ++ os)[i]? = _
    rw [Array.getElem?_append_left (by show i < w.heap.size; omega)]
    rfl⟩
theorem itoa_of {P : Program} {f : FuncId} {T : World → Prop}
    (h : ∀ (n : Int) (_ : -9223372036854775808 ≤ n) (_ : n ≤ 9223372036854775807) (w : World) (_ : T w), Calls P f #[.int .i64 n] w fun e w' => e = .returned (.string ⟨(Lib.itoa n).toArray⟩) ∧ ∃ k os, w' = grow (w.drewN k) os)
    {b : Base} {R : Hp} (hG : GOn T b) {n : Int} {s : ByteArray} (hm : itoaM n = some s) :
    CallsG P f [.int .i64 n] b R (fun v b' hp' => .string s = v ∧ R = hp') := fun w ho => by
  unfold itoaM at hm
  obtain ⟨_, hc, hm⟩ := bindS hm
  have hc := (chk_some hc).2
  injection hm with hm
  subst hm
  exact (h n hc.1 hc.2 w (hG _ _ ho)).mono fun e w' ⟨he, k, os, hw⟩ => ⟨_, b, R, he, Base.Le.refl _, by rw [hw]; exact ho.below_ (grown_below w k os), rfl, rfl⟩
/-- strings.Join. -/
def joinM (l : List ByteArray) (sep : ByteArray) : Option ByteArray :=
  if l.length ≤ 140737488355328 ∧ (Lib.join (l.map (·.data.toList)) sep.data.toList).length ≤ 140737488355328 then some ⟨(Lib.join (l.map (·.data.toList)) sep.data.toList).toArray⟩ else none
end Go.Fp
