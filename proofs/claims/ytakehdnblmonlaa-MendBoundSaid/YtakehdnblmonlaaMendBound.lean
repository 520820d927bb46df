/- PROVED: MendBound answers true at every input, and its arguments read behind the call as they read before. No condition. -/
import Derived.Test.YtakehdnblmonlaaM30
import Derived.Test.YtakehdnblmonlaaR1
namespace Go.Proofs.Ytakehdnblmonlaa
open Go.RowKit Go.Fp

open Go.ChangeShapes Go.WideShapes Go.ChangeAt Go.Deep

set_option maxRecDepth 100000 in
theorem mendBound_lifted (os : Os) (started : os.Started) (H : Type) (enc : TypeId × Value → H) :
    ReturnsInHanded {} Try.checked os 4 .any (Rows.mendBoundSpec.pre6 enc Try.prog Try.f4 Rows.mendBoundRow.domain false) (Rows.mendBoundSpec.post enc Try.prog Try.f4 false true false false) := by
  refine returnsInHanded_of_change (C := Try.checked) Try.ownK started (by kernel_rfl) Try.func4
    (ChangeSpec.witness6 (enc := enc) (C := Try.checked) false ⟨#[], #[.agg #[.slice none 0 0, .slice none 0 0, .slice none 0 0, .slice none 0 0, .slice none 0 0], .slice none 0 0, .slice none 0 0], []⟩ 8 (by kernel_rfl) (by kernel_rfl) (by kernel_rfl) (by kernel_rfl)) ?_
  intro W base args ds gs before hval0 hW _ _
  have hval : ∀ (j : Nat) t v, Try.f4.params[j]? = some t → args[j]? = some v → Value.okWide Try.prog W .any base t v := hval0
  have hW' := hW
  obtain ⟨p, q, hA0, hV, rfl, hfz, hnd⟩ := hW
  have hA : DataW.TrodAll enc Try.prog W 0 (fun _ => true) true Try.f4.params.toList args.toList ds p := hA0
  rw [Try.params4] at hA hval
  obtain ⟨v0, v1, v2, d0, d1, d2, p0, p1, p2, rfl, rfl, rfl, h0, h1, h2⟩ := trodAll_three hA
  obtain ⟨rfl, rfl⟩ := trodVars_none hV
  obtain ⟨g, rfl, hg⟩ := open_graphv (hval 0 26 v0 rfl rfl) h0
  obtain ⟨s1, rfl, r1, n1⟩ := open_intsv (hval 1 22 v1 rfl rfl) h1
  obtain ⟨s2, rfl, r2, n2⟩ := open_intsv (hval 2 22 v2 rfl rfl) h2
  refine (MendBound_c (W : Base) [] g s1.A s2.A s1.c s2.c s1.l s2.l hg r1 r2 n1 n2 W (own_start W)).mono fun e W' ⟨v, b', he, hle, ho, hv⟩ => ?_
  subst he
  subst hv
  exact ⟨_, rfl, post_true Try.laidK (by kernel_rfl) rfl (by kernel_rfl) Try.underlying4 hW' rfl (below_end hle ho)⟩
theorem mendBound_holds : Rows.MendBoundSaid :=
  OpenClaim.holds_of_wide 4 Try.f4 rfl rfl rfl rfl rfl rfl rfl ⟨rfl, rfl, rfl, rfl, rfl⟩ rfl rfl rfl rfl rfl (by kernel_rfl) Try.func4 (by kernel_rfl)
    (of_decide_eq_true (by kernel_rfl)) (by unfold Func.isWrapper; first | (rw [if_pos (by decide +kernel)]; kernel_rfl) | (rw [if_neg (by decide +kernel)]; exact ⟨rfl, rfl⟩))
    (fun os started H enc _ => mendBound_lifted os started H enc)


end Go.Proofs.Ytakehdnblmonlaa
