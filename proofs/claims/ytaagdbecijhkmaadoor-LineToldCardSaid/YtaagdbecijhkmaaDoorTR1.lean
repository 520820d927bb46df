/- What the rows of these laws give, read by what cells stand for. -/
import Derived.Test.YtaagdbecijhkmaaDoorX5
import Derived.Test.YtaagdbecijhkmaaDoorTT
set_option linter.unusedVariables false
set_option linter.unusedSimpArgs false
namespace Go.Proofs.YtaagdbecijhkmaaDoor
open Go.RowKit Go.Fp
open Go.ChangeShapes Go.WideShapes Go.ChangeAt Go.Deep

theorem ownK : ownKnob Tryd.prog.godebug = none := by kernel_rfl
theorem laidK : laidOutB Tryd.prog = true := by kernel_rfl
def ok9 (s : ByteArray) : Prop := s.size ≤ 9223372036854775807
theorem op9 : Opens Tryd.prog 9 RT.str ok9 := opens_str Tryd.underlying9
def ok22 (l : List ByteArray) : Prop := l.length ≤ 9223372036854775807 ∧ ∀ a ∈ l, ok9 a
theorem op22 : Opens Tryd.prog 22 (RT.list RT.str) ok22 := opens_list Tryd.underlying22 (by kernel_rfl) op9
def ok3 (x : Int) : Prop := -9223372036854775808 ≤ x ∧ x ≤ 9223372036854775807
theorem op3 : Opens Tryd.prog 3 (RT.int .i64) ok3 := opens_mono (opens_int Tryd.underlying3) (fun _ h => i64_wf h)
def ok4 (_ : Bool) : Prop := True
theorem op4 : Opens Tryd.prog 4 RT.bool ok4 := opens_bool Tryd.underlying4
def ok39 (x : ApiSection) : Prop := ok3 x.Kind ∧ ok3 x.Length ∧ ok3 x.Grade ∧ ok3 x.Speed ∧ ok3 x.Slow ∧ ok3 x.Station ∧ ok4 x.Axles
theorem op39 : Opens Tryd.prog 39 rApiSection ok39 := fun H enc w base spare held n cs y h => by
  obtain ⟨xs, n', _, _, hl, hlen, hf⟩ := DataW.trod_struct Tryd.underlying39 h
  have hlen : xs.length = 7 := hlen
  have f0 : DataW.trod enc Tryd.prog w base spare held n' 3 ((cs.drop 0).take (Tryd.prog.cellsOf 3)) = xs[0]? := hf 0 _ rfl
  rw [show Tryd.prog.cellsOf 3 = 1 by kernel_rfl, List.getElem?_eq_getElem (by omega : 0 < xs.length)] at f0
  obtain ⟨x0, r0, k0⟩ := op3 _ _ _ _ _ _ _ _ _ f0
  have f1 : DataW.trod enc Tryd.prog w base spare held n' 3 ((cs.drop 1).take (Tryd.prog.cellsOf 3)) = xs[1]? := hf 1 _ rfl
  rw [show Tryd.prog.cellsOf 3 = 1 by kernel_rfl, List.getElem?_eq_getElem (by omega : 1 < xs.length)] at f1
  obtain ⟨x1, r1, k1⟩ := op3 _ _ _ _ _ _ _ _ _ f1
  have f2 : DataW.trod enc Tryd.prog w base spare held n' 3 ((cs.drop 2).take (Tryd.prog.cellsOf 3)) = xs[2]? := hf 2 _ rfl
  rw [show Tryd.prog.cellsOf 3 = 1 by kernel_rfl, List.getElem?_eq_getElem (by omega : 2 < xs.length)] at f2
  obtain ⟨x2, r2, k2⟩ := op3 _ _ _ _ _ _ _ _ _ f2
  have f3 : DataW.trod enc Tryd.prog w base spare held n' 3 ((cs.drop 3).take (Tryd.prog.cellsOf 3)) = xs[3]? := hf 3 _ rfl
  rw [show Tryd.prog.cellsOf 3 = 1 by kernel_rfl, List.getElem?_eq_getElem (by omega : 3 < xs.length)] at f3
  obtain ⟨x3, r3, k3⟩ := op3 _ _ _ _ _ _ _ _ _ f3
  have f4 : DataW.trod enc Tryd.prog w base spare held n' 3 ((cs.drop 4).take (Tryd.prog.cellsOf 3)) = xs[4]? := hf 4 _ rfl
  rw [show Tryd.prog.cellsOf 3 = 1 by kernel_rfl, List.getElem?_eq_getElem (by omega : 4 < xs.length)] at f4
  obtain ⟨x4, r4, k4⟩ := op3 _ _ _ _ _ _ _ _ _ f4
  have f5 : DataW.trod enc Tryd.prog w base spare held n' 3 ((cs.drop 5).take (Tryd.prog.cellsOf 3)) = xs[5]? := hf 5 _ rfl
  rw [show Tryd.prog.cellsOf 3 = 1 by kernel_rfl, List.getElem?_eq_getElem (by omega : 5 < xs.length)] at f5
  obtain ⟨x5, r5, k5⟩ := op3 _ _ _ _ _ _ _ _ _ f5
  have f6 : DataW.trod enc Tryd.prog w base spare held n' 4 ((cs.drop 6).take (Tryd.prog.cellsOf 4)) = xs[6]? := hf 6 _ rfl
  rw [show Tryd.prog.cellsOf 4 = 1 by kernel_rfl, List.getElem?_eq_getElem (by omega : 6 < xs.length)] at f6
  obtain ⟨x6, r6, k6⟩ := op4 _ _ _ _ _ _ _ _ _ f6
  rw [show Tryd.prog.cellsOf 39 = 7 by kernel_rfl] at hl
  rw [List.take_of_length_le (by simp; omega)] at r6
  exact ⟨⟨x0, x1, x2, x3, x4, x5, x6⟩, (show rApiSection.rep w (cs.drop 0) _ from ⟨(cs.drop 0).take 1, cs.drop 1, cut_at cs 0 1, r0, ⟨(cs.drop 1).take 1, cs.drop 2, cut_at cs 1 1, r1, ⟨(cs.drop 2).take 1, cs.drop 3, cut_at cs 2 1, r2, ⟨(cs.drop 3).take 1, cs.drop 4, cut_at cs 3 1, r3, ⟨(cs.drop 4).take 1, cs.drop 5, cut_at cs 4 1, r4, ⟨(cs.drop 5).take 1, cs.drop 6, cut_at cs 5 1, r5, r6⟩⟩⟩⟩⟩⟩), k0, k1, k2, k3, k4, k5, k6⟩
def ok23 (l : List ApiSection) : Prop := l.length ≤ 9223372036854775807 ∧ ∀ a ∈ l, ok39 a
theorem op23 : Opens Tryd.prog 23 (RT.list rApiSection) ok23 := opens_list Tryd.underlying23 (by kernel_rfl) op39
def ok42 (x : ApiLink) : Prop := ok3 x.A ∧ ok3 x.EndA ∧ ok3 x.B ∧ ok3 x.EndB
theorem op42 : Opens Tryd.prog 42 rApiLink ok42 := fun H enc w base spare held n cs y h => by
  obtain ⟨xs, n', _, _, hl, hlen, hf⟩ := DataW.trod_struct Tryd.underlying42 h
  have hlen : xs.length = 4 := hlen
  have f0 : DataW.trod enc Tryd.prog w base spare held n' 3 ((cs.drop 0).take (Tryd.prog.cellsOf 3)) = xs[0]? := hf 0 _ rfl
  rw [show Tryd.prog.cellsOf 3 = 1 by kernel_rfl, List.getElem?_eq_getElem (by omega : 0 < xs.length)] at f0
  obtain ⟨x0, r0, k0⟩ := op3 _ _ _ _ _ _ _ _ _ f0
  have f1 : DataW.trod enc Tryd.prog w base spare held n' 3 ((cs.drop 1).take (Tryd.prog.cellsOf 3)) = xs[1]? := hf 1 _ rfl
  rw [show Tryd.prog.cellsOf 3 = 1 by kernel_rfl, List.getElem?_eq_getElem (by omega : 1 < xs.length)] at f1
  obtain ⟨x1, r1, k1⟩ := op3 _ _ _ _ _ _ _ _ _ f1
  have f2 : DataW.trod enc Tryd.prog w base spare held n' 3 ((cs.drop 2).take (Tryd.prog.cellsOf 3)) = xs[2]? := hf 2 _ rfl
  rw [show Tryd.prog.cellsOf 3 = 1 by kernel_rfl, List.getElem?_eq_getElem (by omega : 2 < xs.length)] at f2
  obtain ⟨x2, r2, k2⟩ := op3 _ _ _ _ _ _ _ _ _ f2
  have f3 : DataW.trod enc Tryd.prog w base spare held n' 3 ((cs.drop 3).take (Tryd.prog.cellsOf 3)) = xs[3]? := hf 3 _ rfl
  rw [show Tryd.prog.cellsOf 3 = 1 by kernel_rfl, List.getElem?_eq_getElem (by omega : 3 < xs.length)] at f3
  obtain ⟨x3, r3, k3⟩ := op3 _ _ _ _ _ _ _ _ _ f3
  rw [show Tryd.prog.cellsOf 42 = 4 by kernel_rfl] at hl
  rw [List.take_of_length_le (by simp; omega)] at r3
  exact ⟨⟨x0, x1, x2, x3⟩, (show rApiLink.rep w (cs.drop 0) _ from ⟨(cs.drop 0).take 1, cs.drop 1, cut_at cs 0 1, r0, ⟨(cs.drop 1).take 1, cs.drop 2, cut_at cs 1 1, r1, ⟨(cs.drop 2).take 1, cs.drop 3, cut_at cs 2 1, r2, r3⟩⟩⟩), k0, k1, k2, k3⟩
def ok24 (l : List ApiLink) : Prop := l.length ≤ 9223372036854775807 ∧ ∀ a ∈ l, ok42 a
theorem op24 : Opens Tryd.prog 24 (RT.list rApiLink) ok24 := opens_list Tryd.underlying24 (by kernel_rfl) op42
def ok45 (x : ApiSignal) : Prop := ok3 x.Section ∧ ok3 x.End
theorem op45 : Opens Tryd.prog 45 rApiSignal ok45 := fun H enc w base spare held n cs y h => by
  obtain ⟨xs, n', _, _, hl, hlen, hf⟩ := DataW.trod_struct Tryd.underlying45 h
  have hlen : xs.length = 2 := hlen
  have f0 : DataW.trod enc Tryd.prog w base spare held n' 3 ((cs.drop 0).take (Tryd.prog.cellsOf 3)) = xs[0]? := hf 0 _ rfl
  rw [show Tryd.prog.cellsOf 3 = 1 by kernel_rfl, List.getElem?_eq_getElem (by omega : 0 < xs.length)] at f0
  obtain ⟨x0, r0, k0⟩ := op3 _ _ _ _ _ _ _ _ _ f0
  have f1 : DataW.trod enc Tryd.prog w base spare held n' 3 ((cs.drop 1).take (Tryd.prog.cellsOf 3)) = xs[1]? := hf 1 _ rfl
  rw [show Tryd.prog.cellsOf 3 = 1 by kernel_rfl, List.getElem?_eq_getElem (by omega : 1 < xs.length)] at f1
  obtain ⟨x1, r1, k1⟩ := op3 _ _ _ _ _ _ _ _ _ f1
  rw [show Tryd.prog.cellsOf 45 = 2 by kernel_rfl] at hl
  rw [List.take_of_length_le (by simp; omega)] at r1
  exact ⟨⟨x0, x1⟩, (show rApiSignal.rep w (cs.drop 0) _ from ⟨(cs.drop 0).take 1, cs.drop 1, cut_at cs 0 1, r0, r1⟩), k0, k1⟩
def ok25 (l : List ApiSignal) : Prop := l.length ≤ 9223372036854775807 ∧ ∀ a ∈ l, ok45 a
theorem op25 : Opens Tryd.prog 25 (RT.list rApiSignal) ok25 := opens_list Tryd.underlying25 (by kernel_rfl) op45
def ok48 (x : ApiGate) : Prop := ok3 x.Section ∧ ok3 x.Close
theorem op48 : Opens Tryd.prog 48 rApiGate ok48 := fun H enc w base spare held n cs y h => by
  obtain ⟨xs, n', _, _, hl, hlen, hf⟩ := DataW.trod_struct Tryd.underlying48 h
  have hlen : xs.length = 2 := hlen
  have f0 : DataW.trod enc Tryd.prog w base spare held n' 3 ((cs.drop 0).take (Tryd.prog.cellsOf 3)) = xs[0]? := hf 0 _ rfl
  rw [show Tryd.prog.cellsOf 3 = 1 by kernel_rfl, List.getElem?_eq_getElem (by omega : 0 < xs.length)] at f0
  obtain ⟨x0, r0, k0⟩ := op3 _ _ _ _ _ _ _ _ _ f0
  have f1 : DataW.trod enc Tryd.prog w base spare held n' 3 ((cs.drop 1).take (Tryd.prog.cellsOf 3)) = xs[1]? := hf 1 _ rfl
  rw [show Tryd.prog.cellsOf 3 = 1 by kernel_rfl, List.getElem?_eq_getElem (by omega : 1 < xs.length)] at f1
  obtain ⟨x1, r1, k1⟩ := op3 _ _ _ _ _ _ _ _ _ f1
  rw [show Tryd.prog.cellsOf 48 = 2 by kernel_rfl] at hl
  rw [List.take_of_length_le (by simp; omega)] at r1
  exact ⟨⟨x0, x1⟩, (show rApiGate.rep w (cs.drop 0) _ from ⟨(cs.drop 0).take 1, cs.drop 1, cut_at cs 0 1, r0, r1⟩), k0, k1⟩
def ok26 (l : List ApiGate) : Prop := l.length ≤ 9223372036854775807 ∧ ∀ a ∈ l, ok48 a
theorem op26 : Opens Tryd.prog 26 (RT.list rApiGate) ok26 := opens_list Tryd.underlying26 (by kernel_rfl) op48
def ok28 (x : ApiNet) : Prop := ok22 x.Stations ∧ ok23 x.Sections ∧ ok24 x.Links ∧ ok25 x.Signals ∧ ok26 x.Gates
theorem op28 : Opens Tryd.prog 28 rApiNet ok28 := fun H enc w base spare held n cs y h => by
  obtain ⟨xs, n', _, _, hl, hlen, hf⟩ := DataW.trod_struct Tryd.underlying28 h
  have hlen : xs.length = 5 := hlen
  have f0 : DataW.trod enc Tryd.prog w base spare held n' 22 ((cs.drop 0).take (Tryd.prog.cellsOf 22)) = xs[0]? := hf 0 _ rfl
  rw [show Tryd.prog.cellsOf 22 = 1 by kernel_rfl, List.getElem?_eq_getElem (by omega : 0 < xs.length)] at f0
  obtain ⟨x0, r0, k0⟩ := op22 _ _ _ _ _ _ _ _ _ f0
  have f1 : DataW.trod enc Tryd.prog w base spare held n' 23 ((cs.drop 1).take (Tryd.prog.cellsOf 23)) = xs[1]? := hf 1 _ rfl
  rw [show Tryd.prog.cellsOf 23 = 1 by kernel_rfl, List.getElem?_eq_getElem (by omega : 1 < xs.length)] at f1
  obtain ⟨x1, r1, k1⟩ := op23 _ _ _ _ _ _ _ _ _ f1
  have f2 : DataW.trod enc Tryd.prog w base spare held n' 24 ((cs.drop 2).take (Tryd.prog.cellsOf 24)) = xs[2]? := hf 2 _ rfl
  rw [show Tryd.prog.cellsOf 24 = 1 by kernel_rfl, List.getElem?_eq_getElem (by omega : 2 < xs.length)] at f2
  obtain ⟨x2, r2, k2⟩ := op24 _ _ _ _ _ _ _ _ _ f2
  have f3 : DataW.trod enc Tryd.prog w base spare held n' 25 ((cs.drop 3).take (Tryd.prog.cellsOf 25)) = xs[3]? := hf 3 _ rfl
  rw [show Tryd.prog.cellsOf 25 = 1 by kernel_rfl, List.getElem?_eq_getElem (by omega : 3 < xs.length)] at f3
  obtain ⟨x3, r3, k3⟩ := op25 _ _ _ _ _ _ _ _ _ f3
  have f4 : DataW.trod enc Tryd.prog w base spare held n' 26 ((cs.drop 4).take (Tryd.prog.cellsOf 26)) = xs[4]? := hf 4 _ rfl
  rw [show Tryd.prog.cellsOf 26 = 1 by kernel_rfl, List.getElem?_eq_getElem (by omega : 4 < xs.length)] at f4
  obtain ⟨x4, r4, k4⟩ := op26 _ _ _ _ _ _ _ _ _ f4
  rw [show Tryd.prog.cellsOf 28 = 5 by kernel_rfl] at hl
  rw [List.take_of_length_le (by simp; omega)] at r4
  exact ⟨⟨x0, x1, x2, x3, x4⟩, (show rApiNet.rep w (cs.drop 0) _ from ⟨(cs.drop 0).take 1, cs.drop 1, cut_at cs 0 1, r0, ⟨(cs.drop 1).take 1, cs.drop 2, cut_at cs 1 1, r1, ⟨(cs.drop 2).take 1, cs.drop 3, cut_at cs 2 1, r2, ⟨(cs.drop 3).take 1, cs.drop 4, cut_at cs 3 1, r3, r4⟩⟩⟩⟩), k0, k1, k2, k3, k4⟩

end Go.Proofs.YtaagdbecijhkmaaDoor
