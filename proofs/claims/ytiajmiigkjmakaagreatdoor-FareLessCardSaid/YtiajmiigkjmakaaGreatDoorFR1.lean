/- What the rows of these laws give, read by what cells stand for. -/
import Derived.Test.YtiajmiigkjmakaaGreatDoorX5R
import Derived.Test.YtiajmiigkjmakaaGreatDoorFT
set_option linter.unusedVariables false
set_option linter.unusedSimpArgs false
namespace Go.Proofs.YtiajmiigkjmakaaGreatDoor
open Go.RowKit Go.Fp
open Go.ChangeShapes Go.WideShapes Go.ChangeAt Go.Deep

theorem ownK : ownKnob Tryz.prog.godebug = none := by kernel_rfl
theorem laidK : laidOutB Tryz.prog = true := by kernel_rfl
def ok4 (_ : Bool) : Prop := True
theorem op4 : Opens Tryz.prog 4 RT.bool ok4 := opens_bool Tryz.underlying4
def ok3 (x : Int) : Prop := -9223372036854775808 ≤ x ∧ x ≤ 9223372036854775807
theorem op3 : Opens Tryz.prog 3 (RT.int .i64) ok3 := opens_mono (opens_int Tryz.underlying3) (fun _ h => i64_wf h)
def ok45 (x : FareBand) : Prop := ok3 x.Upto ∧ ok3 x.Price
theorem op45 : Opens Tryz.prog 45 rFareBand ok45 := fun H enc w base spare held n cs y h => by
  obtain ⟨xs, n', _, _, hl, hlen, hf⟩ := DataW.trod_struct Tryz.underlying45 h
  have hlen : xs.length = 2 := hlen
  have f0 : DataW.trod enc Tryz.prog w base spare held n' 3 ((cs.drop 0).take (Tryz.prog.cellsOf 3)) = xs[0]? := hf 0 _ rfl
  rw [show Tryz.prog.cellsOf 3 = 1 by kernel_rfl, List.getElem?_eq_getElem (by omega : 0 < xs.length)] at f0
  obtain ⟨x0, r0, k0⟩ := op3 _ _ _ _ _ _ _ _ _ f0
  have f1 : DataW.trod enc Tryz.prog w base spare held n' 3 ((cs.drop 1).take (Tryz.prog.cellsOf 3)) = xs[1]? := hf 1 _ rfl
  rw [show Tryz.prog.cellsOf 3 = 1 by kernel_rfl, List.getElem?_eq_getElem (by omega : 1 < xs.length)] at f1
  obtain ⟨x1, r1, k1⟩ := op3 _ _ _ _ _ _ _ _ _ f1
  rw [show Tryz.prog.cellsOf 45 = 2 by kernel_rfl] at hl
  rw [List.take_of_length_le (by simp; omega)] at r1
  exact ⟨⟨x0, x1⟩, (show rFareBand.rep w (cs.drop 0) _ from ⟨(cs.drop 0).take 1, cs.drop 1, cut_at cs 0 1, r0, r1⟩), k0, k1⟩
def ok22 (l : List FareBand) : Prop := l.length ≤ 9223372036854775807 ∧ ∀ a ∈ l, ok45 a
theorem op22 : Opens Tryz.prog 22 (RT.list rFareBand) ok22 := opens_list Tryz.underlying22 (by kernel_rfl) op45
theorem ob48 : ∀ N, OpensB N Tryz.prog 48 rFareCond := fun N => by
  induction N with
  | zero =>
    intro H enc w base spare held n cs y hn h
    obtain ⟨xs, n', e, _⟩ := DataW.trod_struct Tryz.underlying48 h
    omega
  | succ N ih =>
    intro H enc w base spare held n cs y hn h
    obtain ⟨xs, n', e, _, hl, hlen, hf⟩ := DataW.trod_struct Tryz.underlying48 h
    have hlen : xs.length = 4 := hlen
    have f0 : DataW.trod enc Tryz.prog w base spare held n' 3 ((cs.drop 0).take (Tryz.prog.cellsOf 3)) = xs[0]? := hf 0 _ rfl
    rw [show Tryz.prog.cellsOf 3 = 1 by kernel_rfl, List.getElem?_eq_getElem (by omega : 0 < xs.length)] at f0
    obtain ⟨x0, r0, k0⟩ := op3 _ _ _ _ _ _ _ _ _ f0
    have f1 : DataW.trod enc Tryz.prog w base spare held n' 3 ((cs.drop 1).take (Tryz.prog.cellsOf 3)) = xs[1]? := hf 1 _ rfl
    rw [show Tryz.prog.cellsOf 3 = 1 by kernel_rfl, List.getElem?_eq_getElem (by omega : 1 < xs.length)] at f1
    obtain ⟨x1, r1, k1⟩ := op3 _ _ _ _ _ _ _ _ _ f1
    have f2 : DataW.trod enc Tryz.prog w base spare held n' 3 ((cs.drop 2).take (Tryz.prog.cellsOf 3)) = xs[2]? := hf 2 _ rfl
    rw [show Tryz.prog.cellsOf 3 = 1 by kernel_rfl, List.getElem?_eq_getElem (by omega : 2 < xs.length)] at f2
    obtain ⟨x2, r2, k2⟩ := op3 _ _ _ _ _ _ _ _ _ f2
    have f3 : DataW.trod enc Tryz.prog w base spare held n' 46 ((cs.drop 3).take (Tryz.prog.cellsOf 46)) = xs[3]? := hf 3 _ rfl
    rw [show Tryz.prog.cellsOf 46 = 1 by kernel_rfl, List.getElem?_eq_getElem (by omega : 3 < xs.length)] at f3
    obtain ⟨x3, r3⟩ := OpensB.list Tryz.underlying46 (show Tryz.prog.cellsOf 48 = 4 by kernel_rfl) (ih.rle (fix_in fFareCond_sz fFareCond_c)) _ _ _ _ _ _ _ _ _ (by omega) f3
    rw [show Tryz.prog.cellsOf 48 = 4 by kernel_rfl] at hl
    rw [List.take_of_length_le (by simp; omega)] at r3
    exact ⟨⟨x0, x1, x2, x3⟩, (show rFareCond.rep w (cs.drop 0) _ from ⟨(cs.drop 0).take 1, cs.drop 1, cut_at cs 0 1, r0, ⟨(cs.drop 1).take 1, cs.drop 2, cut_at cs 1 1, r1, ⟨(cs.drop 2).take 1, cs.drop 3, cut_at cs 2 1, r2, r3⟩⟩⟩)⟩
def ok48 (_ : FareCond) : Prop := True
theorem op48 : Opens Tryz.prog 48 rFareCond ok48 := OpensB.all ob48
def ok50 (x : FareRule) : Prop := ok48 x.If ∧ ok3 x.Do ∧ ok3 x.N ∧ ok4 x.Stop
theorem op50 : Opens Tryz.prog 50 rFareRule ok50 := fun H enc w base spare held n cs y h => by
  obtain ⟨xs, n', _, _, hl, hlen, hf⟩ := DataW.trod_struct Tryz.underlying50 h
  have hlen : xs.length = 4 := hlen
  have f0 : DataW.trod enc Tryz.prog w base spare held n' 48 ((cs.drop 0).take (Tryz.prog.cellsOf 48)) = xs[0]? := hf 0 _ rfl
  rw [show Tryz.prog.cellsOf 48 = 4 by kernel_rfl, List.getElem?_eq_getElem (by omega : 0 < xs.length)] at f0
  obtain ⟨x0, r0, k0⟩ := op48 _ _ _ _ _ _ _ _ _ f0
  have f1 : DataW.trod enc Tryz.prog w base spare held n' 3 ((cs.drop 4).take (Tryz.prog.cellsOf 3)) = xs[1]? := hf 1 _ rfl
  rw [show Tryz.prog.cellsOf 3 = 1 by kernel_rfl, List.getElem?_eq_getElem (by omega : 1 < xs.length)] at f1
  obtain ⟨x1, r1, k1⟩ := op3 _ _ _ _ _ _ _ _ _ f1
  have f2 : DataW.trod enc Tryz.prog w base spare held n' 3 ((cs.drop 5).take (Tryz.prog.cellsOf 3)) = xs[2]? := hf 2 _ rfl
  rw [show Tryz.prog.cellsOf 3 = 1 by kernel_rfl, List.getElem?_eq_getElem (by omega : 2 < xs.length)] at f2
  obtain ⟨x2, r2, k2⟩ := op3 _ _ _ _ _ _ _ _ _ f2
  have f3 : DataW.trod enc Tryz.prog w base spare held n' 4 ((cs.drop 6).take (Tryz.prog.cellsOf 4)) = xs[3]? := hf 3 _ rfl
  rw [show Tryz.prog.cellsOf 4 = 1 by kernel_rfl, List.getElem?_eq_getElem (by omega : 3 < xs.length)] at f3
  obtain ⟨x3, r3, k3⟩ := op4 _ _ _ _ _ _ _ _ _ f3
  rw [show Tryz.prog.cellsOf 50 = 7 by kernel_rfl] at hl
  rw [List.take_of_length_le (by simp; omega)] at r3
  exact ⟨⟨x0, x1, x2, x3⟩, (show rFareRule.rep w (cs.drop 0) _ from ⟨(cs.drop 0).take 4, cs.drop 4, cut_at cs 0 4, r0, ⟨(cs.drop 4).take 1, cs.drop 5, cut_at cs 4 1, r1, ⟨(cs.drop 5).take 1, cs.drop 6, cut_at cs 5 1, r2, r3⟩⟩⟩), k0, k1, k2, k3⟩
def ok23 (l : List FareRule) : Prop := l.length ≤ 9223372036854775807 ∧ ∀ a ∈ l, ok50 a
theorem op23 : Opens Tryz.prog 23 (RT.list rFareRule) ok23 := opens_list Tryz.underlying23 (by kernel_rfl) op50
def ok25 (x : FareTariff) : Prop := ok4 x.ByKm ∧ ok22 x.Bands ∧ ok3 x.Round ∧ ok23 x.Rules
theorem op25 : Opens Tryz.prog 25 rFareTariff ok25 := fun H enc w base spare held n cs y h => by
  obtain ⟨xs, n', _, _, hl, hlen, hf⟩ := DataW.trod_struct Tryz.underlying25 h
  have hlen : xs.length = 4 := hlen
  have f0 : DataW.trod enc Tryz.prog w base spare held n' 4 ((cs.drop 0).take (Tryz.prog.cellsOf 4)) = xs[0]? := hf 0 _ rfl
  rw [show Tryz.prog.cellsOf 4 = 1 by kernel_rfl, List.getElem?_eq_getElem (by omega : 0 < xs.length)] at f0
  obtain ⟨x0, r0, k0⟩ := op4 _ _ _ _ _ _ _ _ _ f0
  have f1 : DataW.trod enc Tryz.prog w base spare held n' 22 ((cs.drop 1).take (Tryz.prog.cellsOf 22)) = xs[1]? := hf 1 _ rfl
  rw [show Tryz.prog.cellsOf 22 = 1 by kernel_rfl, List.getElem?_eq_getElem (by omega : 1 < xs.length)] at f1
  obtain ⟨x1, r1, k1⟩ := op22 _ _ _ _ _ _ _ _ _ f1
  have f2 : DataW.trod enc Tryz.prog w base spare held n' 3 ((cs.drop 2).take (Tryz.prog.cellsOf 3)) = xs[2]? := hf 2 _ rfl
  rw [show Tryz.prog.cellsOf 3 = 1 by kernel_rfl, List.getElem?_eq_getElem (by omega : 2 < xs.length)] at f2
  obtain ⟨x2, r2, k2⟩ := op3 _ _ _ _ _ _ _ _ _ f2
  have f3 : DataW.trod enc Tryz.prog w base spare held n' 23 ((cs.drop 3).take (Tryz.prog.cellsOf 23)) = xs[3]? := hf 3 _ rfl
  rw [show Tryz.prog.cellsOf 23 = 1 by kernel_rfl, List.getElem?_eq_getElem (by omega : 3 < xs.length)] at f3
  obtain ⟨x3, r3, k3⟩ := op23 _ _ _ _ _ _ _ _ _ f3
  rw [show Tryz.prog.cellsOf 25 = 4 by kernel_rfl] at hl
  rw [List.take_of_length_le (by simp; omega)] at r3
  exact ⟨⟨x0, x1, x2, x3⟩, (show rFareTariff.rep w (cs.drop 0) _ from ⟨(cs.drop 0).take 1, cs.drop 1, cut_at cs 0 1, r0, ⟨(cs.drop 1).take 1, cs.drop 2, cut_at cs 1 1, r1, ⟨(cs.drop 2).take 1, cs.drop 3, cut_at cs 2 1, r2, r3⟩⟩⟩), k0, k1, k2, k3⟩
def ok27 (l : List Int) : Prop := l.length ≤ 9223372036854775807 ∧ ∀ a ∈ l, ok3 a
theorem op27 : Opens Tryz.prog 27 (RT.list (RT.int .i64)) ok27 := opens_list Tryz.underlying27 (by kernel_rfl) op3
def ok38 (x : FareTrip) : Prop := ok3 x.Day ∧ ok3 x.At ∧ ok3 x.Km ∧ ok3 x.Age ∧ ok4 x.Card ∧ ok27 x.Zones
theorem op38 : Opens Tryz.prog 38 rFareTrip ok38 := fun H enc w base spare held n cs y h => by
  obtain ⟨xs, n', _, _, hl, hlen, hf⟩ := DataW.trod_struct Tryz.underlying38 h
  have hlen : xs.length = 6 := hlen
  have f0 : DataW.trod enc Tryz.prog w base spare held n' 3 ((cs.drop 0).take (Tryz.prog.cellsOf 3)) = xs[0]? := hf 0 _ rfl
  rw [show Tryz.prog.cellsOf 3 = 1 by kernel_rfl, List.getElem?_eq_getElem (by omega : 0 < xs.length)] at f0
  obtain ⟨x0, r0, k0⟩ := op3 _ _ _ _ _ _ _ _ _ f0
  have f1 : DataW.trod enc Tryz.prog w base spare held n' 3 ((cs.drop 1).take (Tryz.prog.cellsOf 3)) = xs[1]? := hf 1 _ rfl
  rw [show Tryz.prog.cellsOf 3 = 1 by kernel_rfl, List.getElem?_eq_getElem (by omega : 1 < xs.length)] at f1
  obtain ⟨x1, r1, k1⟩ := op3 _ _ _ _ _ _ _ _ _ f1
  have f2 : DataW.trod enc Tryz.prog w base spare held n' 3 ((cs.drop 2).take (Tryz.prog.cellsOf 3)) = xs[2]? := hf 2 _ rfl
  rw [show Tryz.prog.cellsOf 3 = 1 by kernel_rfl, List.getElem?_eq_getElem (by omega : 2 < xs.length)] at f2
  obtain ⟨x2, r2, k2⟩ := op3 _ _ _ _ _ _ _ _ _ f2
  have f3 : DataW.trod enc Tryz.prog w base spare held n' 3 ((cs.drop 3).take (Tryz.prog.cellsOf 3)) = xs[3]? := hf 3 _ rfl
  rw [show Tryz.prog.cellsOf 3 = 1 by kernel_rfl, List.getElem?_eq_getElem (by omega : 3 < xs.length)] at f3
  obtain ⟨x3, r3, k3⟩ := op3 _ _ _ _ _ _ _ _ _ f3
  have f4 : DataW.trod enc Tryz.prog w base spare held n' 4 ((cs.drop 4).take (Tryz.prog.cellsOf 4)) = xs[4]? := hf 4 _ rfl
  rw [show Tryz.prog.cellsOf 4 = 1 by kernel_rfl, List.getElem?_eq_getElem (by omega : 4 < xs.length)] at f4
  obtain ⟨x4, r4, k4⟩ := op4 _ _ _ _ _ _ _ _ _ f4
  have f5 : DataW.trod enc Tryz.prog w base spare held n' 27 ((cs.drop 5).take (Tryz.prog.cellsOf 27)) = xs[5]? := hf 5 _ rfl
  rw [show Tryz.prog.cellsOf 27 = 1 by kernel_rfl, List.getElem?_eq_getElem (by omega : 5 < xs.length)] at f5
  obtain ⟨x5, r5, k5⟩ := op27 _ _ _ _ _ _ _ _ _ f5
  rw [show Tryz.prog.cellsOf 38 = 6 by kernel_rfl] at hl
  rw [List.take_of_length_le (by simp; omega)] at r5
  exact ⟨⟨x0, x1, x2, x3, x4, x5⟩, (show rFareTrip.rep w (cs.drop 0) _ from ⟨(cs.drop 0).take 1, cs.drop 1, cut_at cs 0 1, r0, ⟨(cs.drop 1).take 1, cs.drop 2, cut_at cs 1 1, r1, ⟨(cs.drop 2).take 1, cs.drop 3, cut_at cs 2 1, r2, ⟨(cs.drop 3).take 1, cs.drop 4, cut_at cs 3 1, r3, ⟨(cs.drop 4).take 1, cs.drop 5, cut_at cs 4 1, r4, r5⟩⟩⟩⟩⟩), k0, k1, k2, k3, k4, k5⟩
def ok26 (l : List FareTrip) : Prop := l.length ≤ 9223372036854775807 ∧ ∀ a ∈ l, ok38 a
theorem op26 : Opens Tryz.prog 26 (RT.list rFareTrip) ok26 := opens_list Tryz.underlying26 (by kernel_rfl) op38
def ok29 (x : FarePass) : Prop := ok3 x.Days ∧ ok3 x.Price ∧ ok27 x.Zones
theorem op29 : Opens Tryz.prog 29 rFarePass ok29 := fun H enc w base spare held n cs y h => by
  obtain ⟨xs, n', _, _, hl, hlen, hf⟩ := DataW.trod_struct Tryz.underlying29 h
  have hlen : xs.length = 3 := hlen
  have f0 : DataW.trod enc Tryz.prog w base spare held n' 3 ((cs.drop 0).take (Tryz.prog.cellsOf 3)) = xs[0]? := hf 0 _ rfl
  rw [show Tryz.prog.cellsOf 3 = 1 by kernel_rfl, List.getElem?_eq_getElem (by omega : 0 < xs.length)] at f0
  obtain ⟨x0, r0, k0⟩ := op3 _ _ _ _ _ _ _ _ _ f0
  have f1 : DataW.trod enc Tryz.prog w base spare held n' 3 ((cs.drop 1).take (Tryz.prog.cellsOf 3)) = xs[1]? := hf 1 _ rfl
  rw [show Tryz.prog.cellsOf 3 = 1 by kernel_rfl, List.getElem?_eq_getElem (by omega : 1 < xs.length)] at f1
  obtain ⟨x1, r1, k1⟩ := op3 _ _ _ _ _ _ _ _ _ f1
  have f2 : DataW.trod enc Tryz.prog w base spare held n' 27 ((cs.drop 2).take (Tryz.prog.cellsOf 27)) = xs[2]? := hf 2 _ rfl
  rw [show Tryz.prog.cellsOf 27 = 1 by kernel_rfl, List.getElem?_eq_getElem (by omega : 2 < xs.length)] at f2
  obtain ⟨x2, r2, k2⟩ := op27 _ _ _ _ _ _ _ _ _ f2
  rw [show Tryz.prog.cellsOf 29 = 3 by kernel_rfl] at hl
  rw [List.take_of_length_le (by simp; omega)] at r2
  exact ⟨⟨x0, x1, x2⟩, (show rFarePass.rep w (cs.drop 0) _ from ⟨(cs.drop 0).take 1, cs.drop 1, cut_at cs 0 1, r0, ⟨(cs.drop 1).take 1, cs.drop 2, cut_at cs 1 1, r1, r2⟩⟩), k0, k1, k2⟩

end Go.Proofs.YtiajmiigkjmakaaGreatDoor
