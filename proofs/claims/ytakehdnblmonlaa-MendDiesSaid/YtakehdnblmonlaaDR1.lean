/- What the rows of these laws give, read by what cells stand for. -/
import Derived.Test.YtakehdnblmonlaaX5
import Derived.Test.YtakehdnblmonlaaDT
set_option linter.unusedVariables false
set_option linter.unusedSimpArgs false
namespace Go.Proofs.Ytakehdnblmonlaa
open Go.RowKit Go.Fp
open Go.ChangeShapes Go.WideShapes Go.ChangeAt Go.Deep

theorem ownK : ownKnob Try.prog.godebug = none := by kernel_rfl
theorem laidK : laidOutB Try.prog = true := by kernel_rfl
def ok3 (x : Int) : Prop := -9223372036854775808 ≤ x ∧ x ≤ 9223372036854775807
theorem op3 : Opens Try.prog 3 (RT.int .i64) ok3 := opens_mono (opens_int Try.underlying3) (fun _ h => i64_wf h)
def ok22 (l : List Int) : Prop := l.length ≤ 9223372036854775807 ∧ ∀ a ∈ l, ok3 a
theorem op22 : Opens Try.prog 22 (RT.list (RT.int .i64)) ok22 := opens_list Try.underlying22 (by kernel_rfl) op3
def ok83 (x : MendLink) : Prop := ok3 x.From ∧ ok3 x.To ∧ ok3 x.Len ∧ ok3 x.Back
theorem op83 : Opens Try.prog 83 rMendLink ok83 := fun H enc w base spare held n cs y h => by
  obtain ⟨xs, n', _, _, hl, hlen, hf⟩ := DataW.trod_struct Try.underlying83 h
  have hlen : xs.length = 4 := hlen
  have f0 : DataW.trod enc Try.prog w base spare held n' 3 ((cs.drop 0).take (Try.prog.cellsOf 3)) = xs[0]? := hf 0 _ rfl
  rw [show Try.prog.cellsOf 3 = 1 by kernel_rfl, List.getElem?_eq_getElem (by omega : 0 < xs.length)] at f0
  obtain ⟨x0, r0, k0⟩ := op3 _ _ _ _ _ _ _ _ _ f0
  have f1 : DataW.trod enc Try.prog w base spare held n' 3 ((cs.drop 1).take (Try.prog.cellsOf 3)) = xs[1]? := hf 1 _ rfl
  rw [show Try.prog.cellsOf 3 = 1 by kernel_rfl, List.getElem?_eq_getElem (by omega : 1 < xs.length)] at f1
  obtain ⟨x1, r1, k1⟩ := op3 _ _ _ _ _ _ _ _ _ f1
  have f2 : DataW.trod enc Try.prog w base spare held n' 3 ((cs.drop 2).take (Try.prog.cellsOf 3)) = xs[2]? := hf 2 _ rfl
  rw [show Try.prog.cellsOf 3 = 1 by kernel_rfl, List.getElem?_eq_getElem (by omega : 2 < xs.length)] at f2
  obtain ⟨x2, r2, k2⟩ := op3 _ _ _ _ _ _ _ _ _ f2
  have f3 : DataW.trod enc Try.prog w base spare held n' 3 ((cs.drop 3).take (Try.prog.cellsOf 3)) = xs[3]? := hf 3 _ rfl
  rw [show Try.prog.cellsOf 3 = 1 by kernel_rfl, List.getElem?_eq_getElem (by omega : 3 < xs.length)] at f3
  obtain ⟨x3, r3, k3⟩ := op3 _ _ _ _ _ _ _ _ _ f3
  rw [show Try.prog.cellsOf 83 = 4 by kernel_rfl] at hl
  rw [List.take_of_length_le (by simp; omega)] at r3
  exact ⟨⟨x0, x1, x2, x3⟩, (show rMendLink.rep w (cs.drop 0) _ from ⟨(cs.drop 0).take 1, cs.drop 1, cut_at cs 0 1, r0, ⟨(cs.drop 1).take 1, cs.drop 2, cut_at cs 1 1, r1, ⟨(cs.drop 2).take 1, cs.drop 3, cut_at cs 2 1, r2, r3⟩⟩⟩), k0, k1, k2, k3⟩
def ok52 (l : List MendLink) : Prop := l.length ≤ 9223372036854775807 ∧ ∀ a ∈ l, ok83 a
theorem op52 : Opens Try.prog 52 (RT.list rMendLink) ok52 := opens_list Try.underlying52 (by kernel_rfl) op83
def ok54 (x : MendRound) : Prop := ok3 x.Period ∧ ok22 x.Plan ∧ ok52 x.Links
theorem op54 : Opens Try.prog 54 rMendRound ok54 := fun H enc w base spare held n cs y h => by
  obtain ⟨xs, n', _, _, hl, hlen, hf⟩ := DataW.trod_struct Try.underlying54 h
  have hlen : xs.length = 3 := hlen
  have f0 : DataW.trod enc Try.prog w base spare held n' 3 ((cs.drop 0).take (Try.prog.cellsOf 3)) = xs[0]? := hf 0 _ rfl
  rw [show Try.prog.cellsOf 3 = 1 by kernel_rfl, List.getElem?_eq_getElem (by omega : 0 < xs.length)] at f0
  obtain ⟨x0, r0, k0⟩ := op3 _ _ _ _ _ _ _ _ _ f0
  have f1 : DataW.trod enc Try.prog w base spare held n' 22 ((cs.drop 1).take (Try.prog.cellsOf 22)) = xs[1]? := hf 1 _ rfl
  rw [show Try.prog.cellsOf 22 = 1 by kernel_rfl, List.getElem?_eq_getElem (by omega : 1 < xs.length)] at f1
  obtain ⟨x1, r1, k1⟩ := op22 _ _ _ _ _ _ _ _ _ f1
  have f2 : DataW.trod enc Try.prog w base spare held n' 52 ((cs.drop 2).take (Try.prog.cellsOf 52)) = xs[2]? := hf 2 _ rfl
  rw [show Try.prog.cellsOf 52 = 1 by kernel_rfl, List.getElem?_eq_getElem (by omega : 2 < xs.length)] at f2
  obtain ⟨x2, r2, k2⟩ := op52 _ _ _ _ _ _ _ _ _ f2
  rw [show Try.prog.cellsOf 54 = 3 by kernel_rfl] at hl
  rw [List.take_of_length_le (by simp; omega)] at r2
  exact ⟨⟨x0, x1, x2⟩, (show rMendRound.rep w (cs.drop 0) _ from ⟨(cs.drop 0).take 1, cs.drop 1, cut_at cs 0 1, r0, ⟨(cs.drop 1).take 1, cs.drop 2, cut_at cs 1 1, r1, r2⟩⟩), k0, k1, k2⟩
def ok58 (x : MendFirst) : Prop := ok3 x.Event ∧ ok3 x.Period ∧ ok3 x.Secs
theorem op58 : Opens Try.prog 58 rMendFirst ok58 := fun H enc w base spare held n cs y h => by
  obtain ⟨xs, n', _, _, hl, hlen, hf⟩ := DataW.trod_struct Try.underlying58 h
  have hlen : xs.length = 3 := hlen
  have f0 : DataW.trod enc Try.prog w base spare held n' 3 ((cs.drop 0).take (Try.prog.cellsOf 3)) = xs[0]? := hf 0 _ rfl
  rw [show Try.prog.cellsOf 3 = 1 by kernel_rfl, List.getElem?_eq_getElem (by omega : 0 < xs.length)] at f0
  obtain ⟨x0, r0, k0⟩ := op3 _ _ _ _ _ _ _ _ _ f0
  have f1 : DataW.trod enc Try.prog w base spare held n' 3 ((cs.drop 1).take (Try.prog.cellsOf 3)) = xs[1]? := hf 1 _ rfl
  rw [show Try.prog.cellsOf 3 = 1 by kernel_rfl, List.getElem?_eq_getElem (by omega : 1 < xs.length)] at f1
  obtain ⟨x1, r1, k1⟩ := op3 _ _ _ _ _ _ _ _ _ f1
  have f2 : DataW.trod enc Try.prog w base spare held n' 3 ((cs.drop 2).take (Try.prog.cellsOf 3)) = xs[2]? := hf 2 _ rfl
  rw [show Try.prog.cellsOf 3 = 1 by kernel_rfl, List.getElem?_eq_getElem (by omega : 2 < xs.length)] at f2
  obtain ⟨x2, r2, k2⟩ := op3 _ _ _ _ _ _ _ _ _ f2
  rw [show Try.prog.cellsOf 58 = 3 by kernel_rfl] at hl
  rw [List.take_of_length_le (by simp; omega)] at r2
  exact ⟨⟨x0, x1, x2⟩, (show rMendFirst.rep w (cs.drop 0) _ from ⟨(cs.drop 0).take 1, cs.drop 1, cut_at cs 0 1, r0, ⟨(cs.drop 1).take 1, cs.drop 2, cut_at cs 1 1, r1, r2⟩⟩), k0, k1, k2⟩
def ok55 (l : List MendFirst) : Prop := l.length ≤ 9223372036854775807 ∧ ∀ a ∈ l, ok58 a
theorem op55 : Opens Try.prog 55 (RT.list rMendFirst) ok55 := opens_list Try.underlying55 (by kernel_rfl) op58

end Go.Proofs.Ytakehdnblmonlaa
