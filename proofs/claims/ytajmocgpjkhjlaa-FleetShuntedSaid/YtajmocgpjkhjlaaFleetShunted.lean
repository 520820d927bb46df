/- PROVED: FleetShunted answers true at every input, and its arguments read behind the call as they read before. No condition. -/
import Derived.Test.YtajmocgpjkhjlaaHP5
import Derived.Test.YtajmocgpjkhjlaaHR1
import Derived.Test.YtajmocgpjkhjlaaHL7
set_option linter.unusedVariables false
set_option linter.unusedSimpArgs false
namespace Go.Proofs.Ytajmocgpjkhjlaa
open Go.RowKit Go.Fp
open Go.ChangeShapes Go.WideShapes Go.ChangeAt Go.Deep

set_option maxRecDepth 100000 in
theorem fleetShunted_lifted (os : Os) (started : os.Started) (H : Type) (enc : TypeId × Value → H) :
    ReturnsInHanded {} Try.checked os 7 .any (Rows.fleetShuntedSpec.pre6 enc Try.prog Try.f7 Rows.fleetShuntedRow.domain false) (Rows.fleetShuntedSpec.post enc Try.prog Try.f7 false true false false) := by
  refine returnsInHanded_of_change (C := Try.checked) ownK started (by kernel_rfl) Try.func7
    (ChangeSpec.witness6 (enc := enc) (C := Try.checked) false ⟨#[], #[.agg #[.slice none 0 0, .slice none 0 0], .slice none 0 0, .slice none 0 0], []⟩ 8 (by kernel_rfl) (by kernel_rfl) (by kernel_rfl) (by kernel_rfl)) ?_
  intro W base args ds gs before hval0 hW _ _
  have hval : ∀ (j : Nat) t v, Try.f7.params[j]? = some t → args[j]? = some v → Value.okWide Try.prog W .any base t v := hval0
  have hW' := hW
  obtain ⟨p, q, hA0, hV, rfl, hfz, hnd⟩ := hW
  have hA : DataW.TrodAll enc Try.prog W 0 (fun _ => true) true Try.f7.params.toList args.toList ds p := hA0
  rw [Try.params7] at hA hval
  obtain ⟨v0, w0, d0, e0, p0, q0, ha, rfl, rfl, h0, hA⟩ := trodAll_cons hA
  obtain ⟨v1, w1, d1, e1, p1, q1, rfl, rfl, rfl, h1, hA⟩ := trodAll_cons hA
  obtain ⟨v2, w2, d2, e2, p2, q2, rfl, rfl, rfl, h2, hA⟩ := trodAll_cons hA
  obtain ⟨rfl, rfl, rfl⟩ := trodAll_nil hA
  have hargs : args = #[v0, v1, v2] := Array.ext' ha
  subst hargs
  obtain ⟨rfl, rfl⟩ := trodVars_none hV
  obtain ⟨b0, rfl, _⟩ := okWide_struct Try.underlying63 (hval 0 63 v0 rfl rfl)
  obtain ⟨fu0, g0⟩ := h0
  obtain ⟨s0, z0, k0⟩ := op63 _ _ _ _ _ _ _ _ _ g0
  have z0 : rFleetDepot.rep W b0.toList s0 := z0
  generalize hb0 : b0.toList = bl0 at z0
  obtain ⟨_, _, rfl, ⟨A1001, c1002, rfl, h1003⟩, ⟨A1004, c1005, rfl, h1006⟩⟩ := z0
  have hb0 : b0 = #[.slice A1001 (s0.Room).length c1002, .slice A1004 (s0.Tracks).length c1005] := Array.ext' hb0
  subst hb0
  obtain ⟨a1, m1, c1, rfl⟩ := okWide_slice Try.underlying45 (hval 1 45 v1 rfl rfl)
  obtain ⟨fu1, g1⟩ := h1
  obtain ⟨l1, ⟨A1, C1, z1, F1⟩, k1⟩ := op45 _ _ _ _ _ _ _ _ _ g1
  have z1 : [Value.slice a1 m1 c1] = [Value.slice A1 l1.length C1] := z1
  injection z1 with z1 _
  injection z1 with z1 zm1 zc1
  subst z1
  subst zm1
  subst zc1
  obtain ⟨a2, m2, c2, rfl⟩ := okWide_slice Try.underlying45 (hval 2 45 v2 rfl rfl)
  obtain ⟨fu2, g2⟩ := h2
  obtain ⟨l2, ⟨A2, C2, z2, F2⟩, k2⟩ := op45 _ _ _ _ _ _ _ _ _ g2
  have z2 : [Value.slice a2 m2 c2] = [Value.slice A2 l2.length C2] := z2
  injection z2 with z2 _
  injection z2 with z2 zm2 zc2
  subst z2
  subst zm2
  subst zc2
  refine (cFishkeep2FleetShunted (W : Base) [] s0 l1 l2 A1001 c1002 A1004 c1005 a1 c1 a2 c2 h1003 h1006 F1 F2 true (shuntedPlain s0 l1 l2 ) W (own_start W)).mono fun e W' ⟨v, b', hp', he, hle, ho, hv, hh⟩ => ?_
  subst he
  subst hv
  subst hh
  exact ⟨_, rfl, post_true laidK (by kernel_rfl) rfl (by kernel_rfl) Try.underlying4 hW' rfl (below_end hle ho)⟩
theorem fleetShunted_holds : Rows.FleetShuntedSaid :=
  OpenClaim.holds_of_wide 7 Try.f7 rfl rfl rfl rfl rfl rfl rfl ⟨rfl, rfl, rfl, rfl, rfl⟩ rfl rfl rfl rfl rfl (by kernel_rfl) Try.func7 (by kernel_rfl)
    (of_decide_eq_true (by kernel_rfl)) (by unfold Func.isWrapper; first | (rw [if_pos (by decide +kernel)]; kernel_rfl) | (rw [if_neg (by decide +kernel)]; exact ⟨rfl, rfl⟩))
    (fun os started H enc _ => fleetShunted_lifted os started H enc)

end Go.Proofs.Ytajmocgpjkhjlaa
