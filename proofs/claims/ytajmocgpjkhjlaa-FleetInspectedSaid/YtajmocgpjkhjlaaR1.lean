/- What the rows of these laws give, read by what cells stand for. -/
import Derived.Test.YtajmocgpjkhjlaaX5
import Derived.Test.YtajmocgpjkhjlaaT
set_option linter.unusedVariables false
set_option linter.unusedSimpArgs false
namespace Go.Proofs.Ytajmocgpjkhjlaa
open Go.RowKit Go.Fp
open Go.ChangeShapes Go.WideShapes Go.ChangeAt Go.Deep

theorem ownK : ownKnob Try.prog.godebug = none := by kernel_rfl
theorem laidK : laidOutB Try.prog = true := by kernel_rfl
def ok3 (x : Int) : Prop := -9223372036854775808 ≤ x ∧ x ≤ 9223372036854775807
theorem op3 : Opens Try.prog 3 (RT.int .i64) ok3 := opens_mono (opens_int Try.underlying3) (fun _ h => i64_wf h)
def ok36 (x : FleetTask) : Prop := ok3 x.From ∧ ok3 x.To ∧ ok3 x.Dep ∧ ok3 x.Arr ∧ ok3 x.Km ∧ ok3 x.Units
theorem op36 : Opens Try.prog 36 rFleetTask ok36 := fun H enc w base spare held n cs y h => by
  obtain ⟨hl, hf⟩ := open_fields Try.underlying36 (by kernel_rfl) (by kernel_rfl) h
  obtain ⟨v0, _, _, h0, e0⟩ := hf 0 _ rfl
  obtain ⟨x0, r0, k0⟩ := op3 _ _ _ _ _ _ _ _ _ e0
  obtain ⟨v1, _, _, h1, e1⟩ := hf 1 _ rfl
  obtain ⟨x1, r1, k1⟩ := op3 _ _ _ _ _ _ _ _ _ e1
  obtain ⟨v2, _, _, h2, e2⟩ := hf 2 _ rfl
  obtain ⟨x2, r2, k2⟩ := op3 _ _ _ _ _ _ _ _ _ e2
  obtain ⟨v3, _, _, h3, e3⟩ := hf 3 _ rfl
  obtain ⟨x3, r3, k3⟩ := op3 _ _ _ _ _ _ _ _ _ e3
  obtain ⟨v4, _, _, h4, e4⟩ := hf 4 _ rfl
  obtain ⟨x4, r4, k4⟩ := op3 _ _ _ _ _ _ _ _ _ e4
  obtain ⟨v5, _, _, h5, e5⟩ := hf 5 _ rfl
  obtain ⟨x5, r5, k5⟩ := op3 _ _ _ _ _ _ _ _ _ e5
  have hcs : cs = [v0, v1, v2, v3, v4, v5] := by
    match cs, hl with
    | [y0, y1, y2, y3, y4, y5], _ =>
      simp at h0 h1 h2 h3 h4 h5
      rw [h0, h1, h2, h3, h4, h5]
  subst hcs
  exact ⟨⟨x0, x1, x2, x3, x4, x5⟩, ⟨[v0], _, rfl, r0, ⟨[v1], _, rfl, r1, ⟨[v2], _, rfl, r2, ⟨[v3], _, rfl, r3, ⟨[v4], _, rfl, r4, r5⟩⟩⟩⟩⟩, k0, k1, k2, k3, k4, k5⟩
def ok22 (l : List FleetTask) : Prop := l.length ≤ 9223372036854775807 ∧ ∀ a ∈ l, ok36 a
theorem op22 : Opens Try.prog 22 (RT.list rFleetTask) ok22 := opens_list Try.underlying22 (by kernel_rfl) op36
def ok45 (l : List Int) : Prop := l.length ≤ 9223372036854775807 ∧ ∀ a ∈ l, ok3 a
theorem op45 : Opens Try.prog 45 (RT.list (RT.int .i64)) ok45 := opens_list Try.underlying45 (by kernel_rfl) op3
def ok26 (l : List (List Int)) : Prop := l.length ≤ 9223372036854775807 ∧ ∀ a ∈ l, ok45 a
theorem op26 : Opens Try.prog 26 (RT.list (RT.list (RT.int .i64))) ok26 := opens_list Try.underlying26 (by kernel_rfl) op45
def ok47 (x : FleetSet) : Prop := ok3 x.Home ∧ ok3 x.Km
theorem op47 : Opens Try.prog 47 rFleetSet ok47 := fun H enc w base spare held n cs y h => by
  obtain ⟨hl, hf⟩ := open_fields Try.underlying47 (by kernel_rfl) (by kernel_rfl) h
  obtain ⟨v0, _, _, h0, e0⟩ := hf 0 _ rfl
  obtain ⟨x0, r0, k0⟩ := op3 _ _ _ _ _ _ _ _ _ e0
  obtain ⟨v1, _, _, h1, e1⟩ := hf 1 _ rfl
  obtain ⟨x1, r1, k1⟩ := op3 _ _ _ _ _ _ _ _ _ e1
  have hcs : cs = [v0, v1] := by
    match cs, hl with
    | [y0, y1], _ =>
      simp at h0 h1
      rw [h0, h1]
  subst hcs
  exact ⟨⟨x0, x1⟩, ⟨[v0], _, rfl, r0, r1⟩, k0, k1⟩
def ok38 (l : List FleetSet) : Prop := l.length ≤ 9223372036854775807 ∧ ∀ a ∈ l, ok47 a
theorem op38 : Opens Try.prog 38 (RT.list rFleetSet) ok38 := opens_list Try.underlying38 (by kernel_rfl) op47
def ok40 (x : FleetShop) : Prop := ok3 x.Place ∧ ok3 x.Long ∧ ok3 x.Limit
theorem op40 : Opens Try.prog 40 rFleetShop ok40 := fun H enc w base spare held n cs y h => by
  obtain ⟨hl, hf⟩ := open_fields Try.underlying40 (by kernel_rfl) (by kernel_rfl) h
  obtain ⟨v0, _, _, h0, e0⟩ := hf 0 _ rfl
  obtain ⟨x0, r0, k0⟩ := op3 _ _ _ _ _ _ _ _ _ e0
  obtain ⟨v1, _, _, h1, e1⟩ := hf 1 _ rfl
  obtain ⟨x1, r1, k1⟩ := op3 _ _ _ _ _ _ _ _ _ e1
  obtain ⟨v2, _, _, h2, e2⟩ := hf 2 _ rfl
  obtain ⟨x2, r2, k2⟩ := op3 _ _ _ _ _ _ _ _ _ e2
  have hcs : cs = [v0, v1, v2] := by
    match cs, hl with
    | [y0, y1, y2], _ =>
      simp at h0 h1 h2
      rw [h0, h1, h2]
  subst hcs
  exact ⟨⟨x0, x1, x2⟩, ⟨[v0], _, rfl, r0, ⟨[v1], _, rfl, r1, r2⟩⟩, k0, k1, k2⟩

end Go.Proofs.Ytajmocgpjkhjlaa
