/- What the rows of these laws give, read by what cells stand for. -/
import Derived.Test.YtglmhaihgpnogaaGreatDoorX5
import Derived.Test.YtglmhaihgpnogaaGreatDoorZT
set_option linter.unusedVariables false
set_option linter.unusedSimpArgs false
namespace Go.Proofs.YtglmhaihgpnogaaGreatDoor
open Go.RowKit Go.Fp
open Go.ChangeShapes Go.WideShapes Go.ChangeAt Go.Deep

theorem ownK : ownKnob Tryz.prog.godebug = none := by kernel_rfl
theorem laidK : laidOutB Tryz.prog = true := by kernel_rfl
def ok3 (x : Int) : Prop := -9223372036854775808 ≤ x ∧ x ≤ 9223372036854775807
theorem op3 : Opens Tryz.prog 3 (RT.int .i64) ok3 := opens_mono (opens_int Tryz.underlying3) (fun _ h => i64_wf h)
def ok22 (l : List Int) : Prop := l.length ≤ 9223372036854775807 ∧ ∀ a ∈ l, ok3 a
theorem op22 : Opens Tryz.prog 22 (RT.list (RT.int .i64)) ok22 := opens_list Tryz.underlying22 (by kernel_rfl) op3
def ok24 (x : FareTicket) : Prop := ok3 x.No ∧ ok3 x.Day ∧ ok3 x.Start ∧ ok3 x.End ∧ ok3 x.Price ∧ ok22 x.Zones
theorem op24 : Opens Tryz.prog 24 rFareTicket ok24 := fun H enc w base spare held n cs y h => by
  obtain ⟨xs, n', _, _, hl, hlen, hf⟩ := DataW.trod_struct Tryz.underlying24 h
  have hlen : xs.length = 6 := hlen
  have f0 : DataW.trod enc Tryz.prog w base spare held n' 3 ((cs.drop 0).take (Tryz.prog.cellsOf 3)) = xs[0]? := hf 0 _ rfl
  rw [show Tryz.prog.cellsOf 3 = 1 by kernel_rfl, List.getElem?_eq_getElem (by omega : 0 < xs.length)] at f0
  obtain ⟨x0, r0, k0⟩ := op3 _ _ _ _ _ _ _ _ _ f0
  have f1 : DataW.trod enc Tryz.prog w base spare held n' 3 ((cs.drop 1).take (Tryz.prog.cellsOf 3)) = xs[1]? := hf 1 _ rfl
  rw [show Tryz.prog.cellsOf 3 = 1 by kernel_rfl, List.getElem?_eq_getElem (by omega : 1 < xs.length)] at f1
  obtain ⟨x1, r1, k1⟩ := op3 _ _ _ _ _ _ _ _ _ f1
  have f2 : DataW.trod enc Tryz.prog w base spare held n' 3 ((cs.drop 2).take (Tryz.prog.cellsOf 3)) = xs[2]? := hf 2 _ rfl
  rw [show Tryz.prog.cellsOf 3 = 1 by kernel_rfl, List.getElem?_eq_getElem (by omega : 2 < xs.length)] at f2
  obtain ⟨x2, r2, k2⟩ := op3 _ _ _ _ _ _ _ _ _ f2
  have f3 : DataW.trod enc Tryz.prog w base spare held n' 3 ((cs.drop 3).take (Tryz.prog.cellsOf 3)) = xs[3]? := hf 3 _ rfl
  rw [show Tryz.prog.cellsOf 3 = 1 by kernel_rfl, List.getElem?_eq_getElem (by omega : 3 < xs.length)] at f3
  obtain ⟨x3, r3, k3⟩ := op3 _ _ _ _ _ _ _ _ _ f3
  have f4 : DataW.trod enc Tryz.prog w base spare held n' 3 ((cs.drop 4).take (Tryz.prog.cellsOf 3)) = xs[4]? := hf 4 _ rfl
  rw [show Tryz.prog.cellsOf 3 = 1 by kernel_rfl, List.getElem?_eq_getElem (by omega : 4 < xs.length)] at f4
  obtain ⟨x4, r4, k4⟩ := op3 _ _ _ _ _ _ _ _ _ f4
  have f5 : DataW.trod enc Tryz.prog w base spare held n' 22 ((cs.drop 5).take (Tryz.prog.cellsOf 22)) = xs[5]? := hf 5 _ rfl
  rw [show Tryz.prog.cellsOf 22 = 1 by kernel_rfl, List.getElem?_eq_getElem (by omega : 5 < xs.length)] at f5
  obtain ⟨x5, r5, k5⟩ := op22 _ _ _ _ _ _ _ _ _ f5
  rw [show Tryz.prog.cellsOf 24 = 6 by kernel_rfl] at hl
  rw [List.take_of_length_le (by simp; omega)] at r5
  exact ⟨⟨x0, x1, x2, x3, x4, x5⟩, (show rFareTicket.rep w (cs.drop 0) _ from ⟨(cs.drop 0).take 1, cs.drop 1, cut_at cs 0 1, r0, ⟨(cs.drop 1).take 1, cs.drop 2, cut_at cs 1 1, r1, ⟨(cs.drop 2).take 1, cs.drop 3, cut_at cs 2 1, r2, ⟨(cs.drop 3).take 1, cs.drop 4, cut_at cs 3 1, r3, ⟨(cs.drop 4).take 1, cs.drop 5, cut_at cs 4 1, r4, r5⟩⟩⟩⟩⟩), k0, k1, k2, k3, k4, k5⟩
def ok5 (x : Int) : Prop := 0 ≤ x ∧ x ≤ 255
theorem op5 : Opens Tryz.prog 5 (RT.int .u8) ok5 := opens_mono (opens_int Tryz.underlying5) (fun _ h => u8_wf h)

end Go.Proofs.YtglmhaihgpnogaaGreatDoor
