/- What the rows of these laws give, read by what cells stand for. -/
import Derived.Test.YtljcafilceachaaDoorX5
import Derived.Test.YtljcafilceachaaDoorQT
set_option linter.unusedVariables false
set_option linter.unusedSimpArgs false
namespace Go.Proofs.YtljcafilceachaaDoor
open Go.RowKit Go.Fp
open Go.ChangeShapes Go.WideShapes Go.ChangeAt Go.Deep

theorem ownK : ownKnob Tryd.prog.godebug = none := by kernel_rfl
theorem laidK : laidOutB Tryd.prog = true := by kernel_rfl
def ok3 (x : Int) : Prop := -9223372036854775808 ≤ x ∧ x ≤ 9223372036854775807
theorem op3 : Opens Tryd.prog 3 (RT.int .i64) ok3 := opens_mono (opens_int Tryd.underlying3) (fun _ h => i64_wf h)
def ok36 (x : GuardPacket) : Prop := ok3 x.Kind ∧ ok3 x.Session ∧ ok3 x.No ∧ ok3 x.Of ∧ ok3 x.End ∧ ok3 x.At ∧ ok3 x.Speed ∧ ok3 x.Sent
theorem op36 : Opens Tryd.prog 36 rGuardPacket ok36 := fun H enc w base spare held n cs y h => by
  obtain ⟨xs, n', _, _, hl, hlen, hf⟩ := DataW.trod_struct Tryd.underlying36 h
  have hlen : xs.length = 8 := hlen
  have f0 : DataW.trod enc Tryd.prog w base spare held n' 3 ((cs.drop 0).take (Tryd.prog.cellsOf 3)) = xs[0]? := hf 0 _ rfl
  rw [show Tryd.prog.cellsOf 3 = 1 by kernel_rfl, List.getElem?_eq_getElem (by omega : 0 < xs.length)] at f0
  obtain ⟨x0, r0, k0⟩ := op3 _ _ _ _ _ _ _ _ _ f0
  have f1 : DataW.trod enc Tryd.prog w base spare held n' 3 ((cs.drop 1).take (Tryd.prog.cellsOf 3)) = xs[1]? := hf 1 _ rfl
  rw [show Tryd.prog.cellsOf 3 = 1 by kernel_rfl, List.getElem?_eq_getElem (by omega : 1 < xs.length)] at f1
  obtain ⟨x1, r1, k1⟩ := op3 _ _ _ _ _ _ _ _ _ f1
  have f2 : DataW.trod enc Tryd.prog w base spare held n' 3 ((cs.drop 2).take (Tryd.prog.cellsOf 3)) = xs[2]? := hf 2 _ rfl
  rw [show Tryd.prog.cellsOf 3 = 1 by kernel_rfl, List.getElem?_eq_getElem (by omega : 2 < xs.length)] at f2
  obtain ⟨x2, r2, k2⟩ := op3 _ _ _ _ _ _ _ _ _ f2
  have f3 : DataW.trod enc Tryd.prog w base spare held n' 3 ((cs.drop 3).take (Tryd.prog.cellsOf 3)) = xs[3]? := hf 3 _ rfl
  rw [show Tryd.prog.cellsOf 3 = 1 by kernel_rfl, List.getElem?_eq_getElem (by omega : 3 < xs.length)] at f3
  obtain ⟨x3, r3, k3⟩ := op3 _ _ _ _ _ _ _ _ _ f3
  have f4 : DataW.trod enc Tryd.prog w base spare held n' 3 ((cs.drop 4).take (Tryd.prog.cellsOf 3)) = xs[4]? := hf 4 _ rfl
  rw [show Tryd.prog.cellsOf 3 = 1 by kernel_rfl, List.getElem?_eq_getElem (by omega : 4 < xs.length)] at f4
  obtain ⟨x4, r4, k4⟩ := op3 _ _ _ _ _ _ _ _ _ f4
  have f5 : DataW.trod enc Tryd.prog w base spare held n' 3 ((cs.drop 5).take (Tryd.prog.cellsOf 3)) = xs[5]? := hf 5 _ rfl
  rw [show Tryd.prog.cellsOf 3 = 1 by kernel_rfl, List.getElem?_eq_getElem (by omega : 5 < xs.length)] at f5
  obtain ⟨x5, r5, k5⟩ := op3 _ _ _ _ _ _ _ _ _ f5
  have f6 : DataW.trod enc Tryd.prog w base spare held n' 3 ((cs.drop 6).take (Tryd.prog.cellsOf 3)) = xs[6]? := hf 6 _ rfl
  rw [show Tryd.prog.cellsOf 3 = 1 by kernel_rfl, List.getElem?_eq_getElem (by omega : 6 < xs.length)] at f6
  obtain ⟨x6, r6, k6⟩ := op3 _ _ _ _ _ _ _ _ _ f6
  have f7 : DataW.trod enc Tryd.prog w base spare held n' 3 ((cs.drop 7).take (Tryd.prog.cellsOf 3)) = xs[7]? := hf 7 _ rfl
  rw [show Tryd.prog.cellsOf 3 = 1 by kernel_rfl, List.getElem?_eq_getElem (by omega : 7 < xs.length)] at f7
  obtain ⟨x7, r7, k7⟩ := op3 _ _ _ _ _ _ _ _ _ f7
  rw [show Tryd.prog.cellsOf 36 = 8 by kernel_rfl] at hl
  rw [List.take_of_length_le (by simp; omega)] at r7
  exact ⟨⟨x0, x1, x2, x3, x4, x5, x6, x7⟩, (show rGuardPacket.rep w (cs.drop 0) _ from ⟨(cs.drop 0).take 1, cs.drop 1, cut_at cs 0 1, r0, ⟨(cs.drop 1).take 1, cs.drop 2, cut_at cs 1 1, r1, ⟨(cs.drop 2).take 1, cs.drop 3, cut_at cs 2 1, r2, ⟨(cs.drop 3).take 1, cs.drop 4, cut_at cs 3 1, r3, ⟨(cs.drop 4).take 1, cs.drop 5, cut_at cs 4 1, r4, ⟨(cs.drop 5).take 1, cs.drop 6, cut_at cs 5 1, r5, ⟨(cs.drop 6).take 1, cs.drop 7, cut_at cs 6 1, r6, r7⟩⟩⟩⟩⟩⟩⟩), k0, k1, k2, k3, k4, k5, k6, k7⟩

end Go.Proofs.YtljcafilceachaaDoor
