/- What the rows of these laws give, read by what cells stand for. -/
import Derived.Test.YtckgfeglhjiflaaDoorX5
import Derived.Test.YtckgfeglhjiflaaDoorWT
set_option linter.unusedVariables false
set_option linter.unusedSimpArgs false
namespace Go.Proofs.YtckgfeglhjiflaaDoor
open Go.RowKit Go.Fp
open Go.ChangeShapes Go.WideShapes Go.ChangeAt Go.Deep

theorem ownK : ownKnob Tryd.prog.godebug = none := by kernel_rfl
theorem laidK : laidOutB Tryd.prog = true := by kernel_rfl
def ok3 (x : Int) : Prop := -9223372036854775808 ≤ x ∧ x ≤ 9223372036854775807
theorem op3 : Opens Tryd.prog 3 (RT.int .i64) ok3 := opens_mono (opens_int Tryd.underlying3) (fun _ h => i64_wf h)
def ok83 (x : ApiStop) : Prop := ok3 x.Station ∧ ok3 x.Track ∧ ok3 x.Arr ∧ ok3 x.Dep
theorem op83 : Opens Tryd.prog 83 rApiStop ok83 := fun H enc w base spare held n cs y h => by
  obtain ⟨xs, n', _, _, hl, hlen, hf⟩ := DataW.trod_struct Tryd.underlying83 h
  have hlen : xs.length = 4 := hlen
  have f0 : DataW.trod enc Tryd.prog w base spare held n' 3 ((cs.drop 0).take (Tryd.prog.cellsOf 3)) = xs[0]? := hf 0 _ rfl
  rw [show Tryd.prog.cellsOf 3 = 1 by kernel_rfl, List.getElem?_eq_getElem (by omega : 0 < xs.length)] at f0
  obtain ⟨x0, r0, k0⟩ := op3 _ _ _ _ _ _ _ _ _ f0
  have f1 : DataW.trod enc Tryd.prog w base spare held n' 3 ((cs.drop 1).take (Tryd.prog.cellsOf 3)) = xs[1]? := hf 1 _ rfl
  rw [show Tryd.prog.cellsOf 3 = 1 by kernel_rfl, List.getElem?_eq_getElem (by omega : 1 < xs.length)] at f1
  obtain ⟨x1, r1, k1⟩ := op3 _ _ _ _ _ _ _ _ _ f1
  have f2 : DataW.trod enc Tryd.prog w base spare held n' 3 ((cs.drop 2).take (Tryd.prog.cellsOf 3)) = xs[2]? := hf 2 _ rfl
  rw [show Tryd.prog.cellsOf 3 = 1 by kernel_rfl, List.getElem?_eq_getElem (by omega : 2 < xs.length)] at f2
  obtain ⟨x2, r2, k2⟩ := op3 _ _ _ _ _ _ _ _ _ f2
  have f3 : DataW.trod enc Tryd.prog w base spare held n' 3 ((cs.drop 3).take (Tryd.prog.cellsOf 3)) = xs[3]? := hf 3 _ rfl
  rw [show Tryd.prog.cellsOf 3 = 1 by kernel_rfl, List.getElem?_eq_getElem (by omega : 3 < xs.length)] at f3
  obtain ⟨x3, r3, k3⟩ := op3 _ _ _ _ _ _ _ _ _ f3
  rw [show Tryd.prog.cellsOf 83 = 4 by kernel_rfl] at hl
  rw [List.take_of_length_le (by simp; omega)] at r3
  exact ⟨⟨x0, x1, x2, x3⟩, (show rApiStop.rep w (cs.drop 0) _ from ⟨(cs.drop 0).take 1, cs.drop 1, cut_at cs 0 1, r0, ⟨(cs.drop 1).take 1, cs.drop 2, cut_at cs 1 1, r1, ⟨(cs.drop 2).take 1, cs.drop 3, cut_at cs 2 1, r2, r3⟩⟩⟩), k0, k1, k2, k3⟩
def ok45 (l : List ApiStop) : Prop := l.length ≤ 9223372036854775807 ∧ ∀ a ∈ l, ok83 a
theorem op45 : Opens Tryd.prog 45 (RT.list rApiStop) ok45 := opens_list Tryd.underlying45 (by kernel_rfl) op83
def ok49 (l : List Int) : Prop := l.length ≤ 9223372036854775807 ∧ ∀ a ∈ l, ok3 a
theorem op49 : Opens Tryd.prog 49 (RT.list (RT.int .i64)) ok49 := opens_list Tryd.underlying49 (by kernel_rfl) op3
def ok23 (l : List (List Int)) : Prop := l.length ≤ 9223372036854775807 ∧ ∀ a ∈ l, ok49 a
theorem op23 : Opens Tryd.prog 23 (RT.list (RT.list (RT.int .i64))) ok23 := opens_list Tryd.underlying23 (by kernel_rfl) op49
def ok47 (x : ApiTrain) : Prop := ok3 x.No ∧ ok3 x.Stock ∧ ok45 x.Stops ∧ ok23 x.Legs
theorem op47 : Opens Tryd.prog 47 rApiTrain ok47 := fun H enc w base spare held n cs y h => by
  obtain ⟨xs, n', _, _, hl, hlen, hf⟩ := DataW.trod_struct Tryd.underlying47 h
  have hlen : xs.length = 4 := hlen
  have f0 : DataW.trod enc Tryd.prog w base spare held n' 3 ((cs.drop 0).take (Tryd.prog.cellsOf 3)) = xs[0]? := hf 0 _ rfl
  rw [show Tryd.prog.cellsOf 3 = 1 by kernel_rfl, List.getElem?_eq_getElem (by omega : 0 < xs.length)] at f0
  obtain ⟨x0, r0, k0⟩ := op3 _ _ _ _ _ _ _ _ _ f0
  have f1 : DataW.trod enc Tryd.prog w base spare held n' 3 ((cs.drop 1).take (Tryd.prog.cellsOf 3)) = xs[1]? := hf 1 _ rfl
  rw [show Tryd.prog.cellsOf 3 = 1 by kernel_rfl, List.getElem?_eq_getElem (by omega : 1 < xs.length)] at f1
  obtain ⟨x1, r1, k1⟩ := op3 _ _ _ _ _ _ _ _ _ f1
  have f2 : DataW.trod enc Tryd.prog w base spare held n' 45 ((cs.drop 2).take (Tryd.prog.cellsOf 45)) = xs[2]? := hf 2 _ rfl
  rw [show Tryd.prog.cellsOf 45 = 1 by kernel_rfl, List.getElem?_eq_getElem (by omega : 2 < xs.length)] at f2
  obtain ⟨x2, r2, k2⟩ := op45 _ _ _ _ _ _ _ _ _ f2
  have f3 : DataW.trod enc Tryd.prog w base spare held n' 23 ((cs.drop 3).take (Tryd.prog.cellsOf 23)) = xs[3]? := hf 3 _ rfl
  rw [show Tryd.prog.cellsOf 23 = 1 by kernel_rfl, List.getElem?_eq_getElem (by omega : 3 < xs.length)] at f3
  obtain ⟨x3, r3, k3⟩ := op23 _ _ _ _ _ _ _ _ _ f3
  rw [show Tryd.prog.cellsOf 47 = 4 by kernel_rfl] at hl
  rw [List.take_of_length_le (by simp; omega)] at r3
  exact ⟨⟨x0, x1, x2, x3⟩, (show rApiTrain.rep w (cs.drop 0) _ from ⟨(cs.drop 0).take 1, cs.drop 1, cut_at cs 0 1, r0, ⟨(cs.drop 1).take 1, cs.drop 2, cut_at cs 1 1, r1, ⟨(cs.drop 2).take 1, cs.drop 3, cut_at cs 2 1, r2, r3⟩⟩⟩), k0, k1, k2, k3⟩
def ok22 (l : List ApiTrain) : Prop := l.length ≤ 9223372036854775807 ∧ ∀ a ∈ l, ok47 a
theorem op22 : Opens Tryd.prog 22 (RT.list rApiTrain) ok22 := opens_list Tryd.underlying22 (by kernel_rfl) op47
def ok25 (x : ApiDay) : Prop := ok22 x.Trains ∧ ok23 x.Turns
theorem op25 : Opens Tryd.prog 25 rApiDay ok25 := fun H enc w base spare held n cs y h => by
  obtain ⟨xs, n', _, _, hl, hlen, hf⟩ := DataW.trod_struct Tryd.underlying25 h
  have hlen : xs.length = 2 := hlen
  have f0 : DataW.trod enc Tryd.prog w base spare held n' 22 ((cs.drop 0).take (Tryd.prog.cellsOf 22)) = xs[0]? := hf 0 _ rfl
  rw [show Tryd.prog.cellsOf 22 = 1 by kernel_rfl, List.getElem?_eq_getElem (by omega : 0 < xs.length)] at f0
  obtain ⟨x0, r0, k0⟩ := op22 _ _ _ _ _ _ _ _ _ f0
  have f1 : DataW.trod enc Tryd.prog w base spare held n' 23 ((cs.drop 1).take (Tryd.prog.cellsOf 23)) = xs[1]? := hf 1 _ rfl
  rw [show Tryd.prog.cellsOf 23 = 1 by kernel_rfl, List.getElem?_eq_getElem (by omega : 1 < xs.length)] at f1
  obtain ⟨x1, r1, k1⟩ := op23 _ _ _ _ _ _ _ _ _ f1
  rw [show Tryd.prog.cellsOf 25 = 2 by kernel_rfl] at hl
  rw [List.take_of_length_le (by simp; omega)] at r1
  exact ⟨⟨x0, x1⟩, (show rApiDay.rep w (cs.drop 0) _ from ⟨(cs.drop 0).take 1, cs.drop 1, cut_at cs 0 1, r0, r1⟩), k0, k1⟩
def ok53 (l : List ApiDay) : Prop := l.length ≤ 9223372036854775807 ∧ ∀ a ∈ l, ok25 a
theorem op53 : Opens Tryd.prog 53 (RT.list rApiDay) ok53 := opens_list Tryd.underlying53 (by kernel_rfl) op25
def ok86 (x : GuideRide) : Prop := ok3 x.Train ∧ ok3 x.On ∧ ok3 x.Off
theorem op86 : Opens Tryd.prog 86 rGuideRide ok86 := fun H enc w base spare held n cs y h => by
  obtain ⟨xs, n', _, _, hl, hlen, hf⟩ := DataW.trod_struct Tryd.underlying86 h
  have hlen : xs.length = 3 := hlen
  have f0 : DataW.trod enc Tryd.prog w base spare held n' 3 ((cs.drop 0).take (Tryd.prog.cellsOf 3)) = xs[0]? := hf 0 _ rfl
  rw [show Tryd.prog.cellsOf 3 = 1 by kernel_rfl, List.getElem?_eq_getElem (by omega : 0 < xs.length)] at f0
  obtain ⟨x0, r0, k0⟩ := op3 _ _ _ _ _ _ _ _ _ f0
  have f1 : DataW.trod enc Tryd.prog w base spare held n' 3 ((cs.drop 1).take (Tryd.prog.cellsOf 3)) = xs[1]? := hf 1 _ rfl
  rw [show Tryd.prog.cellsOf 3 = 1 by kernel_rfl, List.getElem?_eq_getElem (by omega : 1 < xs.length)] at f1
  obtain ⟨x1, r1, k1⟩ := op3 _ _ _ _ _ _ _ _ _ f1
  have f2 : DataW.trod enc Tryd.prog w base spare held n' 3 ((cs.drop 2).take (Tryd.prog.cellsOf 3)) = xs[2]? := hf 2 _ rfl
  rw [show Tryd.prog.cellsOf 3 = 1 by kernel_rfl, List.getElem?_eq_getElem (by omega : 2 < xs.length)] at f2
  obtain ⟨x2, r2, k2⟩ := op3 _ _ _ _ _ _ _ _ _ f2
  rw [show Tryd.prog.cellsOf 86 = 3 by kernel_rfl] at hl
  rw [List.take_of_length_le (by simp; omega)] at r2
  exact ⟨⟨x0, x1, x2⟩, (show rGuideRide.rep w (cs.drop 0) _ from ⟨(cs.drop 0).take 1, cs.drop 1, cut_at cs 0 1, r0, ⟨(cs.drop 1).take 1, cs.drop 2, cut_at cs 1 1, r1, r2⟩⟩), k0, k1, k2⟩
def ok31 (l : List GuideRide) : Prop := l.length ≤ 9223372036854775807 ∧ ∀ a ∈ l, ok86 a
theorem op31 : Opens Tryd.prog 31 (RT.list rGuideRide) ok31 := opens_list Tryd.underlying31 (by kernel_rfl) op86
def ok33 (x : GuideJourney) : Prop := ok31 x.Rides
theorem op33 : Opens Tryd.prog 33 rGuideJourney ok33 := fun H enc w base spare held n cs y h => by
  obtain ⟨xs, n', _, _, hl, hlen, hf⟩ := DataW.trod_struct Tryd.underlying33 h
  have hlen : xs.length = 1 := hlen
  have f0 : DataW.trod enc Tryd.prog w base spare held n' 31 ((cs.drop 0).take (Tryd.prog.cellsOf 31)) = xs[0]? := hf 0 _ rfl
  rw [show Tryd.prog.cellsOf 31 = 1 by kernel_rfl, List.getElem?_eq_getElem (by omega : 0 < xs.length)] at f0
  obtain ⟨x0, r0, k0⟩ := op31 _ _ _ _ _ _ _ _ _ f0
  rw [show Tryd.prog.cellsOf 33 = 1 by kernel_rfl] at hl
  rw [List.take_of_length_le (by simp; omega)] at r0
  exact ⟨⟨x0⟩, r0, k0⟩
def ok54 (l : List GuideJourney) : Prop := l.length ≤ 9223372036854775807 ∧ ∀ a ∈ l, ok33 a
theorem op54 : Opens Tryd.prog 54 (RT.list rGuideJourney) ok54 := opens_list Tryd.underlying54 (by kernel_rfl) op33

end Go.Proofs.YtckgfeglhjiflaaDoor
