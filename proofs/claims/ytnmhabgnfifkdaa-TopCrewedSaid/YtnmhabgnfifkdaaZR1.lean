/- What the rows of these laws give, read by what cells stand for. -/
import Derived.Test.YtnmhabgnfifkdaaX5
import Derived.Test.YtnmhabgnfifkdaaZT
set_option linter.unusedVariables false
set_option linter.unusedSimpArgs false
namespace Go.Proofs.Ytnmhabgnfifkdaa
open Go.RowKit Go.Fp
open Go.ChangeShapes Go.WideShapes Go.ChangeAt Go.Deep

theorem ownK : ownKnob Try.prog.godebug = none := by kernel_rfl
theorem laidK : laidOutB Try.prog = true := by kernel_rfl
def ok3 (x : Int) : Prop := -9223372036854775808 ≤ x ∧ x ≤ 9223372036854775807
theorem op3 : Opens Try.prog 3 (RT.int .i64) ok3 := opens_mono (opens_int Try.underlying3) (fun _ h => i64_wf h)
def ok37 (x : ApiStop) : Prop := ok3 x.Station ∧ ok3 x.Track ∧ ok3 x.Arr ∧ ok3 x.Dep
theorem op37 : Opens Try.prog 37 rApiStop ok37 := fun H enc w base spare held n cs y h => by
  obtain ⟨xs, n', _, _, hl, hlen, hf⟩ := DataW.trod_struct Try.underlying37 h
  have hlen : xs.length = 4 := hlen
  have f0 : DataW.trod enc Try.prog w base spare held n' 3 ((cs.drop 0).take (Try.prog.cellsOf 3)) = xs[0]? := hf 0 _ rfl
  rw [show Try.prog.cellsOf 3 = 1 by kernel_rfl, List.getElem?_eq_getElem (by omega : 0 < xs.length)] at f0
  obtain ⟨x0, r0, k0⟩ := op3 _ _ _ _ _ _ _ _ _ f0
  have f1 : DataW.trod enc Try.prog w base spare held n' 3 ((cs.drop 1).take (Try.prog.cellsOf 3)) = xs[1]? := hf 1 _ rfl
  rw [show Try.prog.cellsOf 3 = 1 by kernel_rfl, List.getElem?_eq_getElem (by omega : 1 < xs.length)] at f1
  obtain ⟨x1, r1, k1⟩ := op3 _ _ _ _ _ _ _ _ _ f1
  have f2 : DataW.trod enc Try.prog w base spare held n' 3 ((cs.drop 2).take (Try.prog.cellsOf 3)) = xs[2]? := hf 2 _ rfl
  rw [show Try.prog.cellsOf 3 = 1 by kernel_rfl, List.getElem?_eq_getElem (by omega : 2 < xs.length)] at f2
  obtain ⟨x2, r2, k2⟩ := op3 _ _ _ _ _ _ _ _ _ f2
  have f3 : DataW.trod enc Try.prog w base spare held n' 3 ((cs.drop 3).take (Try.prog.cellsOf 3)) = xs[3]? := hf 3 _ rfl
  rw [show Try.prog.cellsOf 3 = 1 by kernel_rfl, List.getElem?_eq_getElem (by omega : 3 < xs.length)] at f3
  obtain ⟨x3, r3, k3⟩ := op3 _ _ _ _ _ _ _ _ _ f3
  rw [show Try.prog.cellsOf 37 = 4 by kernel_rfl] at hl
  rw [List.take_of_length_le (by simp; omega)] at r3
  exact ⟨⟨x0, x1, x2, x3⟩, (show rApiStop.rep w (cs.drop 0) _ from ⟨(cs.drop 0).take 1, cs.drop 1, cut_at cs 0 1, r0, ⟨(cs.drop 1).take 1, cs.drop 2, cut_at cs 1 1, r1, ⟨(cs.drop 2).take 1, cs.drop 3, cut_at cs 2 1, r2, r3⟩⟩⟩), k0, k1, k2, k3⟩
def ok33 (l : List ApiStop) : Prop := l.length ≤ 9223372036854775807 ∧ ∀ a ∈ l, ok37 a
theorem op33 : Opens Try.prog 33 (RT.list rApiStop) ok33 := opens_list Try.underlying33 (by kernel_rfl) op37
def ok42 (l : List Int) : Prop := l.length ≤ 9223372036854775807 ∧ ∀ a ∈ l, ok3 a
theorem op42 : Opens Try.prog 42 (RT.list (RT.int .i64)) ok42 := opens_list Try.underlying42 (by kernel_rfl) op3
def ok23 (l : List (List Int)) : Prop := l.length ≤ 9223372036854775807 ∧ ∀ a ∈ l, ok42 a
theorem op23 : Opens Try.prog 23 (RT.list (RT.list (RT.int .i64))) ok23 := opens_list Try.underlying23 (by kernel_rfl) op42
def ok35 (x : ApiTrain) : Prop := ok3 x.No ∧ ok3 x.Stock ∧ ok33 x.Stops ∧ ok23 x.Legs
theorem op35 : Opens Try.prog 35 rApiTrain ok35 := fun H enc w base spare held n cs y h => by
  obtain ⟨xs, n', _, _, hl, hlen, hf⟩ := DataW.trod_struct Try.underlying35 h
  have hlen : xs.length = 4 := hlen
  have f0 : DataW.trod enc Try.prog w base spare held n' 3 ((cs.drop 0).take (Try.prog.cellsOf 3)) = xs[0]? := hf 0 _ rfl
  rw [show Try.prog.cellsOf 3 = 1 by kernel_rfl, List.getElem?_eq_getElem (by omega : 0 < xs.length)] at f0
  obtain ⟨x0, r0, k0⟩ := op3 _ _ _ _ _ _ _ _ _ f0
  have f1 : DataW.trod enc Try.prog w base spare held n' 3 ((cs.drop 1).take (Try.prog.cellsOf 3)) = xs[1]? := hf 1 _ rfl
  rw [show Try.prog.cellsOf 3 = 1 by kernel_rfl, List.getElem?_eq_getElem (by omega : 1 < xs.length)] at f1
  obtain ⟨x1, r1, k1⟩ := op3 _ _ _ _ _ _ _ _ _ f1
  have f2 : DataW.trod enc Try.prog w base spare held n' 33 ((cs.drop 2).take (Try.prog.cellsOf 33)) = xs[2]? := hf 2 _ rfl
  rw [show Try.prog.cellsOf 33 = 1 by kernel_rfl, List.getElem?_eq_getElem (by omega : 2 < xs.length)] at f2
  obtain ⟨x2, r2, k2⟩ := op33 _ _ _ _ _ _ _ _ _ f2
  have f3 : DataW.trod enc Try.prog w base spare held n' 23 ((cs.drop 3).take (Try.prog.cellsOf 23)) = xs[3]? := hf 3 _ rfl
  rw [show Try.prog.cellsOf 23 = 1 by kernel_rfl, List.getElem?_eq_getElem (by omega : 3 < xs.length)] at f3
  obtain ⟨x3, r3, k3⟩ := op23 _ _ _ _ _ _ _ _ _ f3
  rw [show Try.prog.cellsOf 35 = 4 by kernel_rfl] at hl
  rw [List.take_of_length_le (by simp; omega)] at r3
  exact ⟨⟨x0, x1, x2, x3⟩, (show rApiTrain.rep w (cs.drop 0) _ from ⟨(cs.drop 0).take 1, cs.drop 1, cut_at cs 0 1, r0, ⟨(cs.drop 1).take 1, cs.drop 2, cut_at cs 1 1, r1, ⟨(cs.drop 2).take 1, cs.drop 3, cut_at cs 2 1, r2, r3⟩⟩⟩), k0, k1, k2, k3⟩
def ok22 (l : List ApiTrain) : Prop := l.length ≤ 9223372036854775807 ∧ ∀ a ∈ l, ok35 a
theorem op22 : Opens Try.prog 22 (RT.list rApiTrain) ok22 := opens_list Try.underlying22 (by kernel_rfl) op35
def ok25 (x : ApiDay) : Prop := ok22 x.Trains ∧ ok23 x.Turns
theorem op25 : Opens Try.prog 25 rApiDay ok25 := fun H enc w base spare held n cs y h => by
  obtain ⟨xs, n', _, _, hl, hlen, hf⟩ := DataW.trod_struct Try.underlying25 h
  have hlen : xs.length = 2 := hlen
  have f0 : DataW.trod enc Try.prog w base spare held n' 22 ((cs.drop 0).take (Try.prog.cellsOf 22)) = xs[0]? := hf 0 _ rfl
  rw [show Try.prog.cellsOf 22 = 1 by kernel_rfl, List.getElem?_eq_getElem (by omega : 0 < xs.length)] at f0
  obtain ⟨x0, r0, k0⟩ := op22 _ _ _ _ _ _ _ _ _ f0
  have f1 : DataW.trod enc Try.prog w base spare held n' 23 ((cs.drop 1).take (Try.prog.cellsOf 23)) = xs[1]? := hf 1 _ rfl
  rw [show Try.prog.cellsOf 23 = 1 by kernel_rfl, List.getElem?_eq_getElem (by omega : 1 < xs.length)] at f1
  obtain ⟨x1, r1, k1⟩ := op23 _ _ _ _ _ _ _ _ _ f1
  rw [show Try.prog.cellsOf 25 = 2 by kernel_rfl] at hl
  rw [List.take_of_length_le (by simp; omega)] at r1
  exact ⟨⟨x0, x1⟩, (show rApiDay.rep w (cs.drop 0) _ from ⟨(cs.drop 0).take 1, cs.drop 1, cut_at cs 0 1, r0, r1⟩), k0, k1⟩
def ok27 (x : FleetLimits) : Prop := ok3 x.Change ∧ ok3 x.Long ∧ ok3 x.Work ∧ ok3 x.After ∧ ok3 x.Break ∧ ok3 x.Rest ∧ ok3 x.Row
theorem op27 : Opens Try.prog 27 rFleetLimits ok27 := fun H enc w base spare held n cs y h => by
  obtain ⟨xs, n', _, _, hl, hlen, hf⟩ := DataW.trod_struct Try.underlying27 h
  have hlen : xs.length = 7 := hlen
  have f0 : DataW.trod enc Try.prog w base spare held n' 3 ((cs.drop 0).take (Try.prog.cellsOf 3)) = xs[0]? := hf 0 _ rfl
  rw [show Try.prog.cellsOf 3 = 1 by kernel_rfl, List.getElem?_eq_getElem (by omega : 0 < xs.length)] at f0
  obtain ⟨x0, r0, k0⟩ := op3 _ _ _ _ _ _ _ _ _ f0
  have f1 : DataW.trod enc Try.prog w base spare held n' 3 ((cs.drop 1).take (Try.prog.cellsOf 3)) = xs[1]? := hf 1 _ rfl
  rw [show Try.prog.cellsOf 3 = 1 by kernel_rfl, List.getElem?_eq_getElem (by omega : 1 < xs.length)] at f1
  obtain ⟨x1, r1, k1⟩ := op3 _ _ _ _ _ _ _ _ _ f1
  have f2 : DataW.trod enc Try.prog w base spare held n' 3 ((cs.drop 2).take (Try.prog.cellsOf 3)) = xs[2]? := hf 2 _ rfl
  rw [show Try.prog.cellsOf 3 = 1 by kernel_rfl, List.getElem?_eq_getElem (by omega : 2 < xs.length)] at f2
  obtain ⟨x2, r2, k2⟩ := op3 _ _ _ _ _ _ _ _ _ f2
  have f3 : DataW.trod enc Try.prog w base spare held n' 3 ((cs.drop 3).take (Try.prog.cellsOf 3)) = xs[3]? := hf 3 _ rfl
  rw [show Try.prog.cellsOf 3 = 1 by kernel_rfl, List.getElem?_eq_getElem (by omega : 3 < xs.length)] at f3
  obtain ⟨x3, r3, k3⟩ := op3 _ _ _ _ _ _ _ _ _ f3
  have f4 : DataW.trod enc Try.prog w base spare held n' 3 ((cs.drop 4).take (Try.prog.cellsOf 3)) = xs[4]? := hf 4 _ rfl
  rw [show Try.prog.cellsOf 3 = 1 by kernel_rfl, List.getElem?_eq_getElem (by omega : 4 < xs.length)] at f4
  obtain ⟨x4, r4, k4⟩ := op3 _ _ _ _ _ _ _ _ _ f4
  have f5 : DataW.trod enc Try.prog w base spare held n' 3 ((cs.drop 5).take (Try.prog.cellsOf 3)) = xs[5]? := hf 5 _ rfl
  rw [show Try.prog.cellsOf 3 = 1 by kernel_rfl, List.getElem?_eq_getElem (by omega : 5 < xs.length)] at f5
  obtain ⟨x5, r5, k5⟩ := op3 _ _ _ _ _ _ _ _ _ f5
  have f6 : DataW.trod enc Try.prog w base spare held n' 3 ((cs.drop 6).take (Try.prog.cellsOf 3)) = xs[6]? := hf 6 _ rfl
  rw [show Try.prog.cellsOf 3 = 1 by kernel_rfl, List.getElem?_eq_getElem (by omega : 6 < xs.length)] at f6
  obtain ⟨x6, r6, k6⟩ := op3 _ _ _ _ _ _ _ _ _ f6
  rw [show Try.prog.cellsOf 27 = 7 by kernel_rfl] at hl
  rw [List.take_of_length_le (by simp; omega)] at r6
  exact ⟨⟨x0, x1, x2, x3, x4, x5, x6⟩, (show rFleetLimits.rep w (cs.drop 0) _ from ⟨(cs.drop 0).take 1, cs.drop 1, cut_at cs 0 1, r0, ⟨(cs.drop 1).take 1, cs.drop 2, cut_at cs 1 1, r1, ⟨(cs.drop 2).take 1, cs.drop 3, cut_at cs 2 1, r2, ⟨(cs.drop 3).take 1, cs.drop 4, cut_at cs 3 1, r3, ⟨(cs.drop 4).take 1, cs.drop 5, cut_at cs 4 1, r4, ⟨(cs.drop 5).take 1, cs.drop 6, cut_at cs 5 1, r5, r6⟩⟩⟩⟩⟩⟩), k0, k1, k2, k3, k4, k5, k6⟩
def ok54 (x : FleetAbsence) : Prop := ok3 x.Driver ∧ ok3 x.Day
theorem op54 : Opens Try.prog 54 rFleetAbsence ok54 := fun H enc w base spare held n cs y h => by
  obtain ⟨xs, n', _, _, hl, hlen, hf⟩ := DataW.trod_struct Try.underlying54 h
  have hlen : xs.length = 2 := hlen
  have f0 : DataW.trod enc Try.prog w base spare held n' 3 ((cs.drop 0).take (Try.prog.cellsOf 3)) = xs[0]? := hf 0 _ rfl
  rw [show Try.prog.cellsOf 3 = 1 by kernel_rfl, List.getElem?_eq_getElem (by omega : 0 < xs.length)] at f0
  obtain ⟨x0, r0, k0⟩ := op3 _ _ _ _ _ _ _ _ _ f0
  have f1 : DataW.trod enc Try.prog w base spare held n' 3 ((cs.drop 1).take (Try.prog.cellsOf 3)) = xs[1]? := hf 1 _ rfl
  rw [show Try.prog.cellsOf 3 = 1 by kernel_rfl, List.getElem?_eq_getElem (by omega : 1 < xs.length)] at f1
  obtain ⟨x1, r1, k1⟩ := op3 _ _ _ _ _ _ _ _ _ f1
  rw [show Try.prog.cellsOf 54 = 2 by kernel_rfl] at hl
  rw [List.take_of_length_le (by simp; omega)] at r1
  exact ⟨⟨x0, x1⟩, (show rFleetAbsence.rep w (cs.drop 0) _ from ⟨(cs.drop 0).take 1, cs.drop 1, cut_at cs 0 1, r0, r1⟩), k0, k1⟩
def ok28 (l : List FleetAbsence) : Prop := l.length ≤ 9223372036854775807 ∧ ∀ a ∈ l, ok54 a
theorem op28 : Opens Try.prog 28 (RT.list rFleetAbsence) ok28 := opens_list Try.underlying28 (by kernel_rfl) op54

end Go.Proofs.Ytnmhabgnfifkdaa
