/- What the rows of these laws give, read by what cells stand for. -/
import Derived.Test.YtljcafilceachaaDoorX5
import Derived.Test.YtljcafilceachaaDoorFT
set_option linter.unusedVariables false
set_option linter.unusedSimpArgs false
namespace Go.Proofs.YtljcafilceachaaDoor
open Go.RowKit Go.Fp
open Go.ChangeShapes Go.WideShapes Go.ChangeAt Go.Deep

theorem ownK : ownKnob Tryd.prog.godebug = none := by kernel_rfl
theorem laidK : laidOutB Tryd.prog = true := by kernel_rfl
def ok3 (x : Int) : Prop := -9223372036854775808 ≤ x ∧ x ≤ 9223372036854775807
theorem op3 : Opens Tryd.prog 3 (RT.int .i64) ok3 := opens_mono (opens_int Tryd.underlying3) (fun _ h => i64_wf h)
def ok23 (x : GuardTelegram) : Prop := ok3 x.Link ∧ ok3 x.Section ∧ ok3 x.Away
theorem op23 : Opens Tryd.prog 23 rGuardTelegram ok23 := fun H enc w base spare held n cs y h => by
  obtain ⟨xs, n', _, _, hl, hlen, hf⟩ := DataW.trod_struct Tryd.underlying23 h
  have hlen : xs.length = 3 := hlen
  have f0 : DataW.trod enc Tryd.prog w base spare held n' 3 ((cs.drop 0).take (Tryd.prog.cellsOf 3)) = xs[0]? := hf 0 _ rfl
  rw [show Tryd.prog.cellsOf 3 = 1 by kernel_rfl, List.getElem?_eq_getElem (by omega : 0 < xs.length)] at f0
  obtain ⟨x0, r0, k0⟩ := op3 _ _ _ _ _ _ _ _ _ f0
  have f1 : DataW.trod enc Tryd.prog w base spare held n' 3 ((cs.drop 1).take (Tryd.prog.cellsOf 3)) = xs[1]? := hf 1 _ rfl
  rw [show Tryd.prog.cellsOf 3 = 1 by kernel_rfl, List.getElem?_eq_getElem (by omega : 1 < xs.length)] at f1
  obtain ⟨x1, r1, k1⟩ := op3 _ _ _ _ _ _ _ _ _ f1
  have f2 : DataW.trod enc Tryd.prog w base spare held n' 3 ((cs.drop 2).take (Tryd.prog.cellsOf 3)) = xs[2]? := hf 2 _ rfl
  rw [show Tryd.prog.cellsOf 3 = 1 by kernel_rfl, List.getElem?_eq_getElem (by omega : 2 < xs.length)] at f2
  obtain ⟨x2, r2, k2⟩ := op3 _ _ _ _ _ _ _ _ _ f2
  rw [show Tryd.prog.cellsOf 23 = 3 by kernel_rfl] at hl
  rw [List.take_of_length_le (by simp; omega)] at r2
  exact ⟨⟨x0, x1, x2⟩, (show rGuardTelegram.rep w (cs.drop 0) _ from ⟨(cs.drop 0).take 1, cs.drop 1, cut_at cs 0 1, r0, ⟨(cs.drop 1).take 1, cs.drop 2, cut_at cs 1 1, r1, r2⟩⟩), k0, k1, k2⟩
def ok24 (l : List Int) : Prop := l.length ≤ 9223372036854775807 ∧ ∀ a ∈ l, ok3 a
theorem op24 : Opens Tryd.prog 24 (RT.list (RT.int .i64)) ok24 := opens_list Tryd.underlying24 (by kernel_rfl) op3

end Go.Proofs.YtljcafilceachaaDoor
