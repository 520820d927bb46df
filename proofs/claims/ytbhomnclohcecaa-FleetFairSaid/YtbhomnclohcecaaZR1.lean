/- What the rows of these laws give, read by what cells stand for. -/
import Derived.Test.YtbhomnclohcecaaX5
import Derived.Test.YtbhomnclohcecaaZT
set_option linter.unusedVariables false
set_option linter.unusedSimpArgs false
namespace Go.Proofs.Ytbhomnclohcecaa
open Go.RowKit Go.Fp
open Go.ChangeShapes Go.WideShapes Go.ChangeAt Go.Deep

theorem ownK : ownKnob Try.prog.godebug = none := by kernel_rfl
theorem laidK : laidOutB Try.prog = true := by kernel_rfl
def ok3 (x : Int) : Prop := -9223372036854775808 ≤ x ∧ x ≤ 9223372036854775807
theorem op3 : Opens Try.prog 3 (RT.int .i64) ok3 := opens_mono (opens_int Try.underlying3) (fun _ h => i64_wf h)
def ok43 (x : FleetShift) : Prop := ok3 x.Day ∧ ok3 x.Start ∧ ok3 x.End
theorem op43 : Opens Try.prog 43 rFleetShift ok43 := fun H enc w base spare held n cs y h => by
  obtain ⟨xs, n', _, _, hl, hlen, hf⟩ := DataW.trod_struct Try.underlying43 h
  have hlen : xs.length = 3 := hlen
  have f0 : DataW.trod enc Try.prog w base spare held n' 3 ((cs.drop 0).take (Try.prog.cellsOf 3)) = xs[0]? := hf 0 _ rfl
  rw [show Try.prog.cellsOf 3 = 1 by kernel_rfl, List.getElem?_eq_getElem (by omega : 0 < xs.length)] at f0
  obtain ⟨x0, r0, k0⟩ := op3 _ _ _ _ _ _ _ _ _ f0
  have f1 : DataW.trod enc Try.prog w base spare held n' 3 ((cs.drop 1).take (Try.prog.cellsOf 3)) = xs[1]? := hf 1 _ rfl
  rw [show Try.prog.cellsOf 3 = 1 by kernel_rfl, List.getElem?_eq_getElem (by omega : 1 < xs.length)] at f1
  obtain ⟨x1, r1, k1⟩ := op3 _ _ _ _ _ _ _ _ _ f1
  have f2 : DataW.trod enc Try.prog w base spare held n' 3 ((cs.drop 2).take (Try.prog.cellsOf 3)) = xs[2]? := hf 2 _ rfl
  rw [show Try.prog.cellsOf 3 = 1 by kernel_rfl, List.getElem?_eq_getElem (by omega : 2 < xs.length)] at f2
  obtain ⟨x2, r2, k2⟩ := op3 _ _ _ _ _ _ _ _ _ f2
  rw [show Try.prog.cellsOf 43 = 3 by kernel_rfl] at hl
  rw [List.take_of_length_le (by simp; omega)] at r2
  exact ⟨⟨x0, x1, x2⟩, (show rFleetShift.rep w (cs.drop 0) _ from ⟨(cs.drop 0).take 1, cs.drop 1, cut_at cs 0 1, r0, ⟨(cs.drop 1).take 1, cs.drop 2, cut_at cs 1 1, r1, r2⟩⟩), k0, k1, k2⟩
def ok22 (l : List FleetShift) : Prop := l.length ≤ 9223372036854775807 ∧ ∀ a ∈ l, ok43 a
theorem op22 : Opens Try.prog 22 (RT.list rFleetShift) ok22 := opens_list Try.underlying22 (by kernel_rfl) op43
def ok24 (x : FleetLimits) : Prop := ok3 x.Change ∧ ok3 x.Long ∧ ok3 x.Work ∧ ok3 x.After ∧ ok3 x.Break ∧ ok3 x.Rest ∧ ok3 x.Row
theorem op24 : Opens Try.prog 24 rFleetLimits ok24 := fun H enc w base spare held n cs y h => by
  obtain ⟨xs, n', _, _, hl, hlen, hf⟩ := DataW.trod_struct Try.underlying24 h
  have hlen : xs.length = 7 := hlen
  have f0 : DataW.trod enc Try.prog w base spare held n' 3 ((cs.drop 0).take (Try.prog.cellsOf 3)) = xs[0]? := hf 0 _ rfl
  rw [show Try.prog.cellsOf 3 = 1 by kernel_rfl, List.getElem?_eq_getElem (by omega : 0 < xs.length)] at f0
  obtain ⟨x0, r0, k0⟩ := op3 _ _ _ _ _ _ _ _ _ f0
  have f1 : DataW.trod enc Try.prog w base spare held n' 3 ((cs.drop 1).take (Try.prog.cellsOf 3)) = xs[1]? := hf 1 _ rfl
  rw [show Try.prog.cellsOf 3 = 1 by kernel_rfl, List.getElem?_eq_getElem (by omega : 1 < xs.length)] at f1
  obtain ⟨x1, r1, k1⟩ := op3 _ _ _ _ _ _ _ _ _ f1
  have f2 : DataW.trod enc Try.prog w base spare held n' 3 ((cs.drop 2).take (Try.prog.cellsOf 3)) = xs[2]? := hf 2 _ rfl
  rw [show Try.prog.cellsOf 3 = 1 by kernel_rfl, List.getElem?_eq_getElem (by omega : 2 < xs.length)] at f2
  obtain ⟨x2, r2, k2⟩ := op3 _ _ _ _ _ _ _ _ _ f2
  have f3 : DataW.trod enc Try.prog w base spare held n' 3 ((cs.drop 3).take (Try.prog.cellsOf 3)) = xs[3]? := hf 3 _ rfl
  rw [show Try.prog.cellsOf 3 = 1 by kernel_rfl, List.getElem?_eq_getElem (by omega : 3 < xs.length)] at f3
  obtain ⟨x3, r3, k3⟩ := op3 _ _ _ _ _ _ _ _ _ f3
  have f4 : DataW.trod enc Try.prog w base spare held n' 3 ((cs.drop 4).take (Try.prog.cellsOf 3)) = xs[4]? := hf 4 _ rfl
  rw [show Try.prog.cellsOf 3 = 1 by kernel_rfl, List.getElem?_eq_getElem (by omega : 4 < xs.length)] at f4
  obtain ⟨x4, r4, k4⟩ := op3 _ _ _ _ _ _ _ _ _ f4
  have f5 : DataW.trod enc Try.prog w base spare held n' 3 ((cs.drop 5).take (Try.prog.cellsOf 3)) = xs[5]? := hf 5 _ rfl
  rw [show Try.prog.cellsOf 3 = 1 by kernel_rfl, List.getElem?_eq_getElem (by omega : 5 < xs.length)] at f5
  obtain ⟨x5, r5, k5⟩ := op3 _ _ _ _ _ _ _ _ _ f5
  have f6 : DataW.trod enc Try.prog w base spare held n' 3 ((cs.drop 6).take (Try.prog.cellsOf 3)) = xs[6]? := hf 6 _ rfl
  rw [show Try.prog.cellsOf 3 = 1 by kernel_rfl, List.getElem?_eq_getElem (by omega : 6 < xs.length)] at f6
  obtain ⟨x6, r6, k6⟩ := op3 _ _ _ _ _ _ _ _ _ f6
  rw [show Try.prog.cellsOf 24 = 7 by kernel_rfl] at hl
  rw [List.take_of_length_le (by simp; omega)] at r6
  exact ⟨⟨x0, x1, x2, x3, x4, x5, x6⟩, (show rFleetLimits.rep w (cs.drop 0) _ from ⟨(cs.drop 0).take 1, cs.drop 1, cut_at cs 0 1, r0, ⟨(cs.drop 1).take 1, cs.drop 2, cut_at cs 1 1, r1, ⟨(cs.drop 2).take 1, cs.drop 3, cut_at cs 2 1, r2, ⟨(cs.drop 3).take 1, cs.drop 4, cut_at cs 3 1, r3, ⟨(cs.drop 4).take 1, cs.drop 5, cut_at cs 4 1, r4, ⟨(cs.drop 5).take 1, cs.drop 6, cut_at cs 5 1, r5, r6⟩⟩⟩⟩⟩⟩), k0, k1, k2, k3, k4, k5, k6⟩
def ok41 (x : FleetAbsence) : Prop := ok3 x.Driver ∧ ok3 x.Day
theorem op41 : Opens Try.prog 41 rFleetAbsence ok41 := fun H enc w base spare held n cs y h => by
  obtain ⟨xs, n', _, _, hl, hlen, hf⟩ := DataW.trod_struct Try.underlying41 h
  have hlen : xs.length = 2 := hlen
  have f0 : DataW.trod enc Try.prog w base spare held n' 3 ((cs.drop 0).take (Try.prog.cellsOf 3)) = xs[0]? := hf 0 _ rfl
  rw [show Try.prog.cellsOf 3 = 1 by kernel_rfl, List.getElem?_eq_getElem (by omega : 0 < xs.length)] at f0
  obtain ⟨x0, r0, k0⟩ := op3 _ _ _ _ _ _ _ _ _ f0
  have f1 : DataW.trod enc Try.prog w base spare held n' 3 ((cs.drop 1).take (Try.prog.cellsOf 3)) = xs[1]? := hf 1 _ rfl
  rw [show Try.prog.cellsOf 3 = 1 by kernel_rfl, List.getElem?_eq_getElem (by omega : 1 < xs.length)] at f1
  obtain ⟨x1, r1, k1⟩ := op3 _ _ _ _ _ _ _ _ _ f1
  rw [show Try.prog.cellsOf 41 = 2 by kernel_rfl] at hl
  rw [List.take_of_length_le (by simp; omega)] at r1
  exact ⟨⟨x0, x1⟩, (show rFleetAbsence.rep w (cs.drop 0) _ from ⟨(cs.drop 0).take 1, cs.drop 1, cut_at cs 0 1, r0, r1⟩), k0, k1⟩
def ok25 (l : List FleetAbsence) : Prop := l.length ≤ 9223372036854775807 ∧ ∀ a ∈ l, ok41 a
theorem op25 : Opens Try.prog 25 (RT.list rFleetAbsence) ok25 := opens_list Try.underlying25 (by kernel_rfl) op41

end Go.Proofs.Ytbhomnclohcecaa
