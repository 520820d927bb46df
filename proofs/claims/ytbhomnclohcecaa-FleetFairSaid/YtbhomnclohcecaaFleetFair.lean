/- PROVED: FleetFair answers true at every input, and its arguments read behind the call as they read before. No condition. -/
import Derived.Test.YtbhomnclohcecaaZP5
import Derived.Test.YtbhomnclohcecaaZR1
import Derived.Test.YtbhomnclohcecaaFA6
set_option linter.unusedVariables false
set_option linter.unusedSimpArgs false
namespace Go.Proofs.Ytbhomnclohcecaa
open Go.RowKit Go.Fp
open Go.ChangeShapes Go.WideShapes Go.ChangeAt Go.Deep

set_option maxRecDepth 100000 in
theorem fleetFair_lifted (os : Os) (started : os.Started) (H : Type) (enc : TypeId × Value → H) :
    ReturnsInHanded {} Try.checked os 3 .any (Rows.fleetFairSpec.pre6 enc Try.prog Try.f3 Rows.fleetFairRow.domain false) (Rows.fleetFairSpec.post enc Try.prog Try.f3 false true false false) := by
  refine returnsInHanded_of_change (C := Try.checked) ownK started (by kernel_rfl) Try.func3
    (ChangeSpec.witness6 (enc := enc) (C := Try.checked) false ⟨#[], #[.slice none 0 0, .int .i64 0, .agg #[.int .i64 0, .int .i64 0, .int .i64 0, .int .i64 0, .int .i64 0, .int .i64 0, .int .i64 0], .slice none 0 0], []⟩ 8 (by kernel_rfl) (by kernel_rfl) (by kernel_rfl) (by kernel_rfl)) ?_
  intro W base args ds gs before hval0 hW _ _
  have hval : ∀ (j : Nat) t v, Try.f3.params[j]? = some t → args[j]? = some v → Value.okWide Try.prog W .any base t v := hval0
  have hW' := hW
  obtain ⟨p, q, hA0, hV, rfl, hfz, hnd⟩ := hW
  have hA : DataW.TrodAll enc Try.prog W 0 (fun _ => true) true Try.f3.params.toList args.toList ds p := hA0
  rw [Try.params3] at hA hval
  obtain ⟨v0, w0, d0, e0, p0, q0, ha, rfl, rfl, h0, hA⟩ := trodAll_cons hA
  obtain ⟨v1, w1, d1, e1, p1, q1, rfl, rfl, rfl, h1, hA⟩ := trodAll_cons hA
  obtain ⟨v2, w2, d2, e2, p2, q2, rfl, rfl, rfl, h2, hA⟩ := trodAll_cons hA
  obtain ⟨v3, w3, d3, e3, p3, q3, rfl, rfl, rfl, h3, hA⟩ := trodAll_cons hA
  obtain ⟨rfl, rfl, rfl⟩ := trodAll_nil hA
  have hargs : args = #[v0, v1, v2, v3] := Array.ext' ha
  subst hargs
  obtain ⟨rfl, rfl⟩ := trodVars_none hV
  obtain ⟨a0, m0, c0, rfl⟩ := okWide_slice Try.underlying22 (hval 0 22 v0 rfl rfl)
  obtain ⟨fu0, g0⟩ := h0
  obtain ⟨l0, ⟨A0, C0, z0, F0⟩, k0⟩ := op22 _ _ _ _ _ _ _ _ _ g0
  have z0 : [Value.slice a0 m0 c0] = [Value.slice A0 l0.length C0] := z0
  injection z0 with z0 _
  injection z0 with z0 zm0 zc0
  subst z0
  subst zm0
  subst zc0
  obtain ⟨x1, rfl⟩ := okWide_int Try.underlying3 (hval 1 3 v1 rfl rfl)
  obtain ⟨fu1, g1⟩ := h1
  obtain ⟨y1, z1, k1⟩ := op3 _ _ _ _ _ _ _ _ _ g1
  have z1 : [Value.int .i64 x1] = [Value.int .i64 y1] := z1
  injection z1 with z1 _
  injection z1 with _ z1
  subst z1
  obtain ⟨b2, rfl, _⟩ := okWide_struct Try.underlying24 (hval 2 24 v2 rfl rfl)
  obtain ⟨fu2, g2⟩ := h2
  obtain ⟨s2, z2, k2⟩ := op24 _ _ _ _ _ _ _ _ _ g2
  have z2 : b2.toList = [.int .i64 s2.Change, .int .i64 s2.Long, .int .i64 s2.Work, .int .i64 s2.After, .int .i64 s2.Break, .int .i64 s2.Rest, .int .i64 s2.Row] := by
    obtain ⟨c0, r0, y0, rfl, ⟨c1, r1, y1, rfl, ⟨c2, r2, y2, rfl, ⟨c3, r3, y3, rfl, ⟨c4, r4, y4, rfl, ⟨c5, r5, y5, rfl, rfl⟩⟩⟩⟩⟩⟩ := z2
    subst y5
    subst y4
    subst y3
    subst y2
    subst y1
    exact y0
  have z2 : b2 = #[.int .i64 s2.Change, .int .i64 s2.Long, .int .i64 s2.Work, .int .i64 s2.After, .int .i64 s2.Break, .int .i64 s2.Rest, .int .i64 s2.Row] := Array.ext' z2
  subst z2
  obtain ⟨a3, m3, c3, rfl⟩ := okWide_slice Try.underlying25 (hval 3 25 v3 rfl rfl)
  obtain ⟨fu3, g3⟩ := h3
  obtain ⟨l3, ⟨A3, C3, z3, F3⟩, k3⟩ := op25 _ _ _ _ _ _ _ _ _ g3
  have z3 : [Value.slice a3 m3 c3] = [Value.slice A3 l3.length C3] := z3
  injection z3 with z3 _
  injection z3 with z3 zm3 zc3
  subst z3
  subst zm3
  subst zc3
  refine (cFishkeep2FleetFair (W : Base) [] l0 x1 s2 l3 a0 c0 a3 c3 F0 F3 true (fairPlain l0 x1 s2 l3 ) W (own_start W)).mono fun e W' ⟨v, b', hp', he, hle, ho, hv, hh⟩ => ?_
  subst he
  subst hv
  subst hh
  exact ⟨_, rfl, post_true laidK (by kernel_rfl) rfl (by kernel_rfl) Try.underlying4 hW' rfl (below_end hle ho)⟩
theorem fleetFair_holds : Rows.FleetFairSaid :=
  OpenClaim.holds_of_wide 3 Try.f3 rfl rfl rfl rfl rfl rfl rfl ⟨rfl, rfl, rfl, rfl, rfl⟩ rfl rfl rfl rfl rfl (by kernel_rfl) Try.func3 (by kernel_rfl)
    (of_decide_eq_true (by kernel_rfl)) (by unfold Func.isWrapper; first | (rw [if_pos (by decide +kernel)]; kernel_rfl) | (rw [if_neg (by decide +kernel)]; exact ⟨rfl, rfl⟩))
    (fun os started H enc _ => fleetFair_lifted os started H enc)

end Go.Proofs.Ytbhomnclohcecaa
