/- What the rows of these laws give, read by what cells stand for. -/
import Derived.Test.YtajmocgpjkhjlaaX5
import Derived.Test.YtajmocgpjkhjlaaHT
set_option linter.unusedVariables false
set_option linter.unusedSimpArgs false
namespace Go.Proofs.Ytajmocgpjkhjlaa
open Go.RowKit Go.Fp
open Go.ChangeShapes Go.WideShapes Go.ChangeAt Go.Deep

theorem ownK : ownKnob Try.prog.godebug = none := by kernel_rfl
theorem laidK : laidOutB Try.prog = true := by kernel_rfl
def ok3 (x : Int) : Prop := -9223372036854775808 ≤ x ∧ x ≤ 9223372036854775807
theorem op3 : Opens Try.prog 3 (RT.int .i64) ok3 := opens_mono (opens_int Try.underlying3) (fun _ h => i64_wf h)
def ok45 (l : List Int) : Prop := l.length ≤ 9223372036854775807 ∧ ∀ a ∈ l, ok3 a
theorem op45 : Opens Try.prog 45 (RT.list (RT.int .i64)) ok45 := opens_list Try.underlying45 (by kernel_rfl) op3
def ok26 (l : List (List Int)) : Prop := l.length ≤ 9223372036854775807 ∧ ∀ a ∈ l, ok45 a
theorem op26 : Opens Try.prog 26 (RT.list (RT.list (RT.int .i64))) ok26 := opens_list Try.underlying26 (by kernel_rfl) op45
def ok63 (x : FleetDepot) : Prop := ok45 x.Room ∧ ok26 x.Tracks
theorem op63 : Opens Try.prog 63 rFleetDepot ok63 := fun H enc w base spare held n cs y h => by
  obtain ⟨xs, n', _, _, hl, hlen, hf⟩ := DataW.trod_struct Try.underlying63 h
  have hlen : xs.length = 2 := hlen
  have f0 : DataW.trod enc Try.prog w base spare held n' 45 ((cs.drop 0).take (Try.prog.cellsOf 45)) = xs[0]? := hf 0 _ rfl
  rw [show Try.prog.cellsOf 45 = 1 by kernel_rfl, List.getElem?_eq_getElem (by omega : 0 < xs.length)] at f0
  obtain ⟨x0, r0, k0⟩ := op45 _ _ _ _ _ _ _ _ _ f0
  have f1 : DataW.trod enc Try.prog w base spare held n' 26 ((cs.drop 1).take (Try.prog.cellsOf 26)) = xs[1]? := hf 1 _ rfl
  rw [show Try.prog.cellsOf 26 = 1 by kernel_rfl, List.getElem?_eq_getElem (by omega : 1 < xs.length)] at f1
  obtain ⟨x1, r1, k1⟩ := op26 _ _ _ _ _ _ _ _ _ f1
  rw [show Try.prog.cellsOf 63 = 2 by kernel_rfl] at hl
  rw [List.take_of_length_le (by simp; omega)] at r1
  exact ⟨⟨x0, x1⟩, (show rFleetDepot.rep w (cs.drop 0) _ from ⟨(cs.drop 0).take 1, cs.drop 1, cut_at cs 0 1, r0, r1⟩), k0, k1⟩

end Go.Proofs.Ytajmocgpjkhjlaa
