/- What the rows of these laws give, read by what cells stand for. -/
import Derived.Test.YtnlnohallnfbmaaGreatDoorX5
import Derived.Test.YtnlnohallnfbmaaGreatDoorQT
set_option linter.unusedVariables false
set_option linter.unusedSimpArgs false
namespace Go.Proofs.YtnlnohallnfbmaaGreatDoor
open Go.RowKit Go.Fp
open Go.ChangeShapes Go.WideShapes Go.ChangeAt Go.Deep

theorem ownK : ownKnob Tryz.prog.godebug = none := by kernel_rfl
theorem laidK : laidOutB Tryz.prog = true := by kernel_rfl
def ok3 (x : Int) : Prop := -9223372036854775808 ≤ x ∧ x ≤ 9223372036854775807
theorem op3 : Opens Tryz.prog 3 (RT.int .i64) ok3 := opens_mono (opens_int Tryz.underlying3) (fun _ h => i64_wf h)
def ok46 (x : FareSpan) : Prop := ok3 x.From ∧ ok3 x.To
theorem op46 : Opens Tryz.prog 46 rFareSpan ok46 := fun H enc w base spare held n cs y h => by
  obtain ⟨xs, n', _, _, hl, hlen, hf⟩ := DataW.trod_struct Tryz.underlying46 h
  have hlen : xs.length = 2 := hlen
  have f0 : DataW.trod enc Tryz.prog w base spare held n' 3 ((cs.drop 0).take (Tryz.prog.cellsOf 3)) = xs[0]? := hf 0 _ rfl
  rw [show Tryz.prog.cellsOf 3 = 1 by kernel_rfl, List.getElem?_eq_getElem (by omega : 0 < xs.length)] at f0
  obtain ⟨x0, r0, k0⟩ := op3 _ _ _ _ _ _ _ _ _ f0
  have f1 : DataW.trod enc Tryz.prog w base spare held n' 3 ((cs.drop 1).take (Tryz.prog.cellsOf 3)) = xs[1]? := hf 1 _ rfl
  rw [show Tryz.prog.cellsOf 3 = 1 by kernel_rfl, List.getElem?_eq_getElem (by omega : 1 < xs.length)] at f1
  obtain ⟨x1, r1, k1⟩ := op3 _ _ _ _ _ _ _ _ _ f1
  rw [show Tryz.prog.cellsOf 46 = 2 by kernel_rfl] at hl
  rw [List.take_of_length_le (by simp; omega)] at r1
  exact ⟨⟨x0, x1⟩, (show rFareSpan.rep w (cs.drop 0) _ from ⟨(cs.drop 0).take 1, cs.drop 1, cut_at cs 0 1, r0, r1⟩), k0, k1⟩
def ok43 (l : List FareSpan) : Prop := l.length ≤ 9223372036854775807 ∧ ∀ a ∈ l, ok46 a
theorem op43 : Opens Tryz.prog 43 (RT.list rFareSpan) ok43 := opens_list Tryz.underlying43 (by kernel_rfl) op46

end Go.Proofs.YtnlnohallnfbmaaGreatDoor
