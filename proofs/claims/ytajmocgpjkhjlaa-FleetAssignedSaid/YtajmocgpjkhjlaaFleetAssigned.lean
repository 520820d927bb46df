/- PROVED: FleetAssigned answers true at every input, and its arguments read behind the call as they read before. No condition. -/
import Derived.Test.YtajmocgpjkhjlaaAP4
import Derived.Test.YtajmocgpjkhjlaaAR1
import Derived.Test.YtajmocgpjkhjlaaAL7
set_option linter.unusedVariables false
set_option linter.unusedSimpArgs false
namespace Go.Proofs.Ytajmocgpjkhjlaa
open Go.RowKit Go.Fp
open Go.ChangeShapes Go.WideShapes Go.ChangeAt Go.Deep

set_option maxRecDepth 100000 in
theorem fleetAssigned_lifted (os : Os) (started : os.Started) (H : Type) (enc : TypeId × Value → H) :
    ReturnsInHanded {} Try.checked os 8 .any (Rows.fleetAssignedSpec.pre6 enc Try.prog Try.f8 Rows.fleetAssignedRow.domain false) (Rows.fleetAssignedSpec.post enc Try.prog Try.f8 false true false false) := by
  refine returnsInHanded_of_change (C := Try.checked) ownK started (by kernel_rfl) Try.func8
    (ChangeSpec.witness6 (enc := enc) (C := Try.checked) false ⟨#[], #[.slice none 0 0, .int .i64 0, .slice none 0 0, .agg #[.int .i64 0, .int .i64 0, .int .i64 0]], []⟩ 8 (by kernel_rfl) (by kernel_rfl) (by kernel_rfl) (by kernel_rfl)) ?_
  intro W base args ds gs before hval0 hW _ _
  have hval : ∀ (j : Nat) t v, Try.f8.params[j]? = some t → args[j]? = some v → Value.okWide Try.prog W .any base t v := hval0
  have hW' := hW
  obtain ⟨p, q, hA0, hV, rfl, hfz, hnd⟩ := hW
  have hA : DataW.TrodAll enc Try.prog W 0 (fun _ => true) true Try.f8.params.toList args.toList ds p := hA0
  rw [Try.params8] at hA hval
  obtain ⟨v0, w0, d0, e0, p0, q0, ha, rfl, rfl, h0, hA⟩ := trodAll_cons hA
  obtain ⟨v1, w1, d1, e1, p1, q1, rfl, rfl, rfl, h1, hA⟩ := trodAll_cons hA
  obtain ⟨v2, w2, d2, e2, p2, q2, rfl, rfl, rfl, h2, hA⟩ := trodAll_cons hA
  obtain ⟨v3, w3, d3, e3, p3, q3, rfl, rfl, rfl, h3, hA⟩ := trodAll_cons hA
  obtain ⟨rfl, rfl, rfl⟩ := trodAll_nil hA
  have hargs : args = #[v0, v1, v2, v3] := Array.ext' ha
  subst hargs
  obtain ⟨rfl, rfl⟩ := trodVars_none hV
  obtain ⟨a0, m0, c0, rfl⟩ := okWide_slice Try.underlying22 (hval 0 22 v0 rfl rfl)
  obtain ⟨fu0, g0⟩ := h0
  obtain ⟨l0, ⟨A0, C0, z0, F0⟩, k0⟩ := op22 _ _ _ _ _ _ _ _ _ g0
  have z0 : [Value.slice a0 m0 c0] = [Value.slice A0 l0.length C0] := z0
  injection z0 with z0 _
  injection z0 with z0 zm0 zc0
  subst z0
  subst zm0
  subst zc0
  obtain ⟨x1, rfl⟩ := okWide_int Try.underlying3 (hval 1 3 v1 rfl rfl)
  obtain ⟨fu1, g1⟩ := h1
  obtain ⟨y1, z1, k1⟩ := op3 _ _ _ _ _ _ _ _ _ g1
  have z1 : [Value.int .i64 x1] = [Value.int .i64 y1] := z1
  injection z1 with z1 _
  injection z1 with _ z1
  subst z1
  obtain ⟨a2, m2, c2, rfl⟩ := okWide_slice Try.underlying38 (hval 2 38 v2 rfl rfl)
  obtain ⟨fu2, g2⟩ := h2
  obtain ⟨l2, ⟨A2, C2, z2, F2⟩, k2⟩ := op38 _ _ _ _ _ _ _ _ _ g2
  have z2 : [Value.slice a2 m2 c2] = [Value.slice A2 l2.length C2] := z2
  injection z2 with z2 _
  injection z2 with z2 zm2 zc2
  subst z2
  subst zm2
  subst zc2
  obtain ⟨b3, rfl, _⟩ := okWide_struct Try.underlying40 (hval 3 40 v3 rfl rfl)
  obtain ⟨fu3, g3⟩ := h3
  obtain ⟨s3, z3, k3⟩ := op40 _ _ _ _ _ _ _ _ _ g3
  have z3 : b3.toList = [.int .i64 s3.Place, .int .i64 s3.Long, .int .i64 s3.Limit] := by
    obtain ⟨c0, r0, y0, rfl, ⟨c1, r1, y1, rfl, rfl⟩⟩ := z3
    subst y1
    exact y0
  have z3 : b3 = #[.int .i64 s3.Place, .int .i64 s3.Long, .int .i64 s3.Limit] := Array.ext' z3
  subst z3
  refine (cFishkeep2FleetAssigned (W : Base) [] l0 x1 l2 s3 a0 c0 a2 c2 F0 F2 true (assignedPlain l0 x1 l2 s3 ) W (own_start W)).mono fun e W' ⟨v, b', hp', he, hle, ho, hv, hh⟩ => ?_
  subst he
  subst hv
  subst hh
  exact ⟨_, rfl, post_true laidK (by kernel_rfl) rfl (by kernel_rfl) Try.underlying4 hW' rfl (below_end hle ho)⟩
theorem fleetAssigned_holds : Rows.FleetAssignedSaid :=
  OpenClaim.holds_of_wide 8 Try.f8 rfl rfl rfl rfl rfl rfl rfl ⟨rfl, rfl, rfl, rfl, rfl⟩ rfl rfl rfl rfl rfl (by kernel_rfl) Try.func8 (by kernel_rfl)
    (of_decide_eq_true (by kernel_rfl)) (by unfold Func.isWrapper; first | (rw [if_pos (by decide +kernel)]; kernel_rfl) | (rw [if_neg (by decide +kernel)]; exact ⟨rfl, rfl⟩))
    (fun os started H enc _ => fleetAssigned_lifted os started H enc)

end Go.Proofs.Ytajmocgpjkhjlaa
