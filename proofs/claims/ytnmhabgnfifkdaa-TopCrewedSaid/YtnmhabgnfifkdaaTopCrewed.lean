/- PROVED: TopCrewed answers true at every input, and its arguments read behind the call as they read before. No condition. -/
import Derived.Test.YtnmhabgnfifkdaaZP6
import Derived.Test.YtnmhabgnfifkdaaZR1
import Derived.Test.YtnmhabgnfifkdaaTC5
set_option linter.unusedVariables false
set_option linter.unusedSimpArgs false
namespace Go.Proofs.Ytnmhabgnfifkdaa
open Go.RowKit Go.Fp
open Go.ChangeShapes Go.WideShapes Go.ChangeAt Go.Deep

set_option maxRecDepth 100000 in
theorem topCrewed_lifted (os : Os) (started : os.Started) (H : Type) (enc : TypeId × Value → H) :
    ReturnsInHanded {} Try.checked os 3 .any (Rows.topCrewedSpec.pre6 enc Try.prog Try.f3 Rows.topCrewedRow.domain false) (Rows.topCrewedSpec.post enc Try.prog Try.f3 false true false false) := by
  refine returnsInHanded_of_change (C := Try.checked) ownK started (by kernel_rfl) Try.func3
    (ChangeSpec.witness6 (enc := enc) (C := Try.checked) false ⟨#[], #[.agg #[.slice none 0 0, .slice none 0 0], .agg #[.int .i64 0, .int .i64 0, .int .i64 0, .int .i64 0, .int .i64 0, .int .i64 0, .int .i64 0], .int .i64 0, .slice none 0 0], []⟩ 8 (by kernel_rfl) (by kernel_rfl) (by kernel_rfl) (by kernel_rfl)) ?_
  intro W base args ds gs before hval0 hW _ _
  have hval : ∀ (j : Nat) t v, Try.f3.params[j]? = some t → args[j]? = some v → Value.okWide Try.prog W .any base t v := hval0
  have hW' := hW
  obtain ⟨p, q, hA0, hV, rfl, hfz, hnd⟩ := hW
  have hA : DataW.TrodAll enc Try.prog W 0 (fun _ => true) true Try.f3.params.toList args.toList ds p := hA0
  rw [Try.params3] at hA hval
  obtain ⟨v0, w0, d0, e0, p0, q0, ha, rfl, rfl, h0, hA⟩ := trodAll_cons hA
  obtain ⟨v1, w1, d1, e1, p1, q1, rfl, rfl, rfl, h1, hA⟩ := trodAll_cons hA
  obtain ⟨v2, w2, d2, e2, p2, q2, rfl, rfl, rfl, h2, hA⟩ := trodAll_cons hA
  obtain ⟨v3, w3, d3, e3, p3, q3, rfl, rfl, rfl, h3, hA⟩ := trodAll_cons hA
  obtain ⟨rfl, rfl, rfl⟩ := trodAll_nil hA
  have hargs : args = #[v0, v1, v2, v3] := Array.ext' ha
  subst hargs
  obtain ⟨rfl, rfl⟩ := trodVars_none hV
  obtain ⟨b0, rfl, _⟩ := okWide_struct Try.underlying25 (hval 0 25 v0 rfl rfl)
  obtain ⟨fu0, g0⟩ := h0
  obtain ⟨s0, z0, k0⟩ := op25 _ _ _ _ _ _ _ _ _ g0
  have z0 : rApiDay.rep W b0.toList s0 := z0
  generalize hb0 : b0.toList = bl0 at z0
  obtain ⟨_, _, rfl, ⟨A1001, c1002, rfl, h1003⟩, ⟨A1004, c1005, rfl, h1006⟩⟩ := z0
  have hb0 : b0 = #[.slice A1001 (s0.Trains).length c1002, .slice A1004 (s0.Turns).length c1005] := Array.ext' hb0
  subst hb0
  obtain ⟨b1, rfl, _⟩ := okWide_struct Try.underlying27 (hval 1 27 v1 rfl rfl)
  obtain ⟨fu1, g1⟩ := h1
  obtain ⟨s1, z1, k1⟩ := op27 _ _ _ _ _ _ _ _ _ g1
  have z1 : b1.toList = [.int .i64 s1.Change, .int .i64 s1.Long, .int .i64 s1.Work, .int .i64 s1.After, .int .i64 s1.Break, .int .i64 s1.Rest, .int .i64 s1.Row] := by
    obtain ⟨c0, r0, y0, rfl, ⟨c1, r1, y1, rfl, ⟨c2, r2, y2, rfl, ⟨c3, r3, y3, rfl, ⟨c4, r4, y4, rfl, ⟨c5, r5, y5, rfl, rfl⟩⟩⟩⟩⟩⟩ := z1
    subst y5
    subst y4
    subst y3
    subst y2
    subst y1
    exact y0
  have z1 : b1 = #[.int .i64 s1.Change, .int .i64 s1.Long, .int .i64 s1.Work, .int .i64 s1.After, .int .i64 s1.Break, .int .i64 s1.Rest, .int .i64 s1.Row] := Array.ext' z1
  subst z1
  obtain ⟨x2, rfl⟩ := okWide_int Try.underlying3 (hval 2 3 v2 rfl rfl)
  obtain ⟨fu2, g2⟩ := h2
  obtain ⟨y2, z2, k2⟩ := op3 _ _ _ _ _ _ _ _ _ g2
  have z2 : [Value.int .i64 x2] = [Value.int .i64 y2] := z2
  injection z2 with z2 _
  injection z2 with _ z2
  subst z2
  obtain ⟨a3, m3, c3, rfl⟩ := okWide_slice Try.underlying28 (hval 3 28 v3 rfl rfl)
  obtain ⟨fu3, g3⟩ := h3
  obtain ⟨l3, ⟨A3, C3, z3, F3⟩, k3⟩ := op28 _ _ _ _ _ _ _ _ _ g3
  have z3 : [Value.slice a3 m3 c3] = [Value.slice A3 l3.length C3] := z3
  injection z3 with z3 _
  injection z3 with z3 zm3 zc3
  subst z3
  subst zm3
  subst zc3
  refine (cFishtopTopCrewed (W : Base) [] s0 s1 x2 l3 A1001 c1002 A1004 c1005 a3 c3 h1003 h1006 F3 true (crewedPlain s0 s1 x2 l3 (stops_small h1003)) W (own_start W)).mono fun e W' ⟨v, b', hp', he, hle, ho, hv, hh⟩ => ?_
  subst he
  subst hv
  subst hh
  exact ⟨_, rfl, post_true laidK (by kernel_rfl) rfl (by kernel_rfl) Try.underlying4 hW' rfl (below_end hle ho)⟩
theorem topCrewed_holds : Rows.TopCrewedSaid :=
  OpenClaim.holds_of_wide 3 Try.f3 rfl rfl rfl rfl rfl rfl rfl ⟨rfl, rfl, rfl, rfl, rfl⟩ rfl rfl rfl rfl rfl (by kernel_rfl) Try.func3 (by kernel_rfl)
    (of_decide_eq_true (by kernel_rfl)) (by unfold Func.isWrapper; first | (rw [if_pos (by decide +kernel)]; kernel_rfl) | (rw [if_neg (by decide +kernel)]; exact ⟨rfl, rfl⟩))
    (fun os started H enc _ => topCrewed_lifted os started H enc)

end Go.Proofs.Ytnmhabgnfifkdaa
