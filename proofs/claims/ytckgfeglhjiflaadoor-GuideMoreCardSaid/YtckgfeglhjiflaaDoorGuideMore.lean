/- PROVED: GuideMore answers true at every input, and its arguments read behind the call as they read before; the listed package variables are tied to the text. No other condition. -/
import Derived.Test.YtckgfeglhjiflaaDoorZP4
import Derived.Test.YtckgfeglhjiflaaDoorZR1
import Derived.Test.YtckgfeglhjiflaaDoorR2
import Derived.Test.YtckgfeglhjiflaaDoorR4
import Derived.Test.YtckgfeglhjiflaaDoorCards
import Derived.Test.YtckgfeglhjiflaaDoorTie
import Derived.Test.YtckgfeglhjiflaaDoorGZ3
import Derived.WalkKit
import Derived.ProofKit
import Derived.OpenShut
import Derived.Deep.DeepHandedRow
import Derived.Lib.LaidTab
set_option linter.unusedVariables false
set_option linter.unusedSimpArgs false
namespace Go.Proofs.YtckgfeglhjiflaaDoor
open Go.RowKit Go.Fp
open Go.ChangeShapes Go.WideShapes Go.ChangeAt Go.Deep

set_option maxRecDepth 100000 in
theorem guideMore_walk (H : Type) (enc : TypeId × Value → H) (W : World) (base : Nat) (args : Array Value) (ds gs : List (DataW H)) (before : List MemPlace)
    (hval : ∀ (j : Nat) t v, Tryd.f4.params[j]? = some t → args[j]? = some v → Value.okWide Tryd.prog W .any base t v) (hG : GOn GT (W : Base))
    (hW : DataW.Whole enc Tryd.prog Tryd.f4.params.toList Rows.guideMoreSpec.vars false W args.toList ds gs before)
    (hz : (DataW.weightsEach Tryd.prog (Tryd.f4.params.toList ++ (OpenSpec.ofChange Rows.guideMoreSpec).bare.plain.varTypes Tryd.prog) (ds ++ gs)).all (· ≤ reachBytes) = true) :
    Calls Tryd.prog 4 args W fun e W' => ∃ v, e = .returned v ∧ Rows.guideMoreSpec.post enc Tryd.prog Tryd.f4 false true false false W args v W' := by
  have hW' := hW
  obtain ⟨p, q, hA0, hV, rfl, hfz, hnd⟩ := hW
  have hA : DataW.TrodAll enc Tryd.prog W 0 (fun _ => true) true Tryd.f4.params.toList args.toList ds p := hA0
  rw [Tryd.params4] at hA hval hz
  obtain ⟨v0, w0, d0, e0, p0, q0, ha, rfl, rfl, h0, hA⟩ := trodAll_cons hA
  obtain ⟨v1, w1, d1, e1, p1, q1, rfl, rfl, rfl, h1, hA⟩ := trodAll_cons hA
  obtain ⟨v2, w2, d2, e2, p2, q2, rfl, rfl, rfl, h2, hA⟩ := trodAll_cons hA
  obtain ⟨v3, w3, d3, e3, p3, q3, rfl, rfl, rfl, h3, hA⟩ := trodAll_cons hA
  obtain ⟨v4, w4, d4, e4, p4, q4, rfl, rfl, rfl, h4, hA⟩ := trodAll_cons hA
  obtain ⟨v5, w5, d5, e5, p5, q5, rfl, rfl, rfl, h5, hA⟩ := trodAll_cons hA
  obtain ⟨rfl, rfl, rfl⟩ := trodAll_nil hA
  have hargs : args = #[v0, v1, v2, v3, v4, v5] := Array.ext' ha
  subst hargs
  obtain ⟨rfl, rfl⟩ := trodVars_none hV
  obtain ⟨b0, rfl, _⟩ := okWide_struct Tryd.underlying25 (hval 0 25 v0 rfl rfl)
  obtain ⟨fu0, g0⟩ := h0
  obtain ⟨y0, z0, k0⟩ := op25 _ _ _ _ _ _ _ _ _ g0
  have z0 : rApiDay.rep W b0.toList y0 := z0
  generalize hb0 : b0.toList = bl0 at z0
  obtain ⟨_, _, rfl, ⟨A1001, c1002, rfl, h1003⟩, ⟨A1004, c1005, rfl, h1006⟩⟩ := z0
  have hb0 : b0 = #[.slice A1001 (y0.Trains).length c1002, .slice A1004 (y0.Turns).length c1005] := Array.ext' hb0
  subst hb0
  have sz0 := sized_field (e := 47) (j := 0) (ft := 22) 0 Tryd.underlying25 Tryd.underlying22 g0 hz rfl rfl rfl rfl (by kernel_rfl) rfl
  rw [show Tryd.prog.bytesOf 47 = 64 by kernel_rfl] at sz0
  obtain ⟨b1, rfl, _⟩ := okWide_struct Tryd.underlying47 (hval 1 47 v1 rfl rfl)
  obtain ⟨fu1, g1⟩ := h1
  obtain ⟨y1, z1, k1⟩ := op47 _ _ _ _ _ _ _ _ _ g1
  have z1 : rApiTrain.rep W b1.toList y1 := z1
  generalize hb1 : b1.toList = bl1 at z1
  obtain ⟨_, _, rfl, rfl, ⟨_, _, rfl, rfl, ⟨_, _, rfl, ⟨A2001, c2002, rfl, h2003⟩, ⟨A2004, c2005, rfl, h2006⟩⟩⟩⟩ := z1
  have hb1 : b1 = #[.int .i64 (y1.No), .int .i64 (y1.Stock), .slice A2001 (y1.Stops).length c2002, .slice A2004 (y1.Legs).length c2005] := Array.ext' hb1
  subst hb1
  obtain ⟨x2, rfl⟩ := okWide_int Tryd.underlying3 (hval 2 3 v2 rfl rfl)
  obtain ⟨fu2, g2⟩ := h2
  obtain ⟨y2, z2, k2⟩ := op3 _ _ _ _ _ _ _ _ _ g2
  have z2 : [Value.int .i64 x2] = [Value.int .i64 y2] := z2
  injection z2 with z2 _
  injection z2 with _ z2
  subst z2
  obtain ⟨x3, rfl⟩ := okWide_int Tryd.underlying3 (hval 3 3 v3 rfl rfl)
  obtain ⟨fu3, g3⟩ := h3
  obtain ⟨y3, z3, k3⟩ := op3 _ _ _ _ _ _ _ _ _ g3
  have z3 : [Value.int .i64 x3] = [Value.int .i64 y3] := z3
  injection z3 with z3 _
  injection z3 with _ z3
  subst z3
  obtain ⟨x4, rfl⟩ := okWide_int Tryd.underlying3 (hval 4 3 v4 rfl rfl)
  obtain ⟨fu4, g4⟩ := h4
  obtain ⟨y4, z4, k4⟩ := op3 _ _ _ _ _ _ _ _ _ g4
  have z4 : [Value.int .i64 x4] = [Value.int .i64 y4] := z4
  injection z4 with z4 _
  injection z4 with _ z4
  subst z4
  obtain ⟨x5, rfl⟩ := okWide_int Tryd.underlying3 (hval 5 3 v5 rfl rfl)
  obtain ⟨fu5, g5⟩ := h5
  obtain ⟨y5, z5, k5⟩ := op3 _ _ _ _ _ _ _ _ _ g5
  have z5 : [Value.int .i64 x5] = [Value.int .i64 y5] := z5
  injection z5 with z5 _
  injection z5 with _ z5
  subst z5
  refine (cFishkeep2GuideMore (W : Base) [] hG y0 y1 x2 x3 x4 x5 A1001 c1002 A1004 c1005 A2001 c2002 A2004 c2005 h1003 h1006 h2003 h2006 true (moreRow y0 y1 x2 x3 x4 x5 k0 k1 k2 k3 k4 k5 sz0) W (own_start W)).mono fun e W' ⟨v, b', hp', he, hle, ho, hv, hh⟩ => ?_
  subst he
  subst hv
  subst hh
  exact ⟨_, rfl, post_true laidK (by kernel_rfl) rfl (by kernel_rfl) Tryd.underlying4 hW' rfl (below_end hle ho)⟩
theorem guideMore_laid (os : Os) : laidMet Tryd.prog Rows.guideMoreRow.laid ((laidWorld os).forCall (fun _ _ => 0) ⟨#[], #[.agg #[.slice none 0 0, .slice none 0 0], .agg #[.int .i64 0, .int .i64 0, .slice none 0 0, .slice none 0 0], .int .i64 0, .int .i64 0, .int .i64 0, .int .i64 0], []⟩).memory :=
  laidMet_of_run' 8 (by kernel_rfl) (by kernel_rfl)
theorem guideMore_reads (os : Os) {H : Type} (enc : TypeId × Value → H) : ∃ places, DataW.whole enc Tryd.prog ((laidWorld os).forCall (fun _ _ => 0) ⟨#[], #[.agg #[.slice none 0 0, .slice none 0 0], .agg #[.int .i64 0, .int .i64 0, .slice none 0 0, .slice none 0 0], .int .i64 0, .int .i64 0, .int .i64 0, .int .i64 0], []⟩).memory Tryd.f4.params.toList Rows.guideMoreSpec.vars false (#[.agg #[.slice none 0 0, .slice none 0 0], .agg #[.int .i64 0, .int .i64 0, .slice none 0 0, .slice none 0 0], .int .i64 0, .int .i64 0, .int .i64 0, .int .i64 0] : Array Value).toList 8 = some ([.agg [.nil, .nil], .agg [.lit (.int .i64 0), .lit (.int .i64 0), .nil, .nil], .lit (.int .i64 0), .lit (.int .i64 0), .lit (.int .i64 0), .lit (.int .i64 0)], [], places) :=
  ⟨[], by kernel_rfl⟩
set_option maxRecDepth 100000 in
theorem guideMore_lifted (os : Os) (started : os.Started) (H : Type) (enc : TypeId × Value → H) (F : Stop.Interp) :
    ReturnsInHanded {} Tryd.checked os 4 .any ((OpenSpec.ofChange Rows.guideMoreSpec).preRow enc Tryd.prog Tryd.f4 Rows.guideMoreRow.domain false Rows.guideMoreRow.laid) (((OpenSpec.ofChange Rows.guideMoreSpec).at F).post enc Tryd.prog Tryd.f4 false true false false) := by
  obtain ⟨places, hx⟩ := guideMore_reads os enc
  refine returnsInHanded_of_row (C := Tryd.checked) (s := OpenSpec.ofChange Rows.guideMoreSpec) ownK started (by kernel_rfl) Tryd.func4
    (witness_row_at (enc := enc) (C := Tryd.checked) false (laidWorld os) #[.agg #[.slice none 0 0, .slice none 0 0], .agg #[.int .i64 0, .int .i64 0, .slice none 0 0, .slice none 0 0], .int .i64 0, .int .i64 0, .int .i64 0, .int .i64 0] rfl (by kernel_rfl) (by kernel_rfl) (by kernel_rfl)
      (OpenSpec.preRow_of_cond 8 hx (by kernel_rfl) (fun k hk => by cases hk) (by kernel_rfl) (guideMore_laid os))) ?_
  intro W base args ds gs before hval hW _ _ hz hL _ _
  exact guideMore_walk H enc W base args ds gs before hval (gt_of (show laidMet Tryd.prog Rows.guideMoreRow.laid W from hL)) hW hz
theorem guideMore_said : Rows.GuideMoreSaid :=
  OpenClaim.holds_of_cond 4 Tryd.f4 rfl rfl rfl rfl rfl rfl rfl ⟨rfl, rfl, rfl, rfl, rfl⟩ rfl rfl rfl rfl rfl (by kernel_rfl) Tryd.func4 (by kernel_rfl)
    (of_decide_eq_true (by kernel_rfl)) (by unfold Func.isWrapper; first | (rw [if_pos (by decide +kernel)]; kernel_rfl) | (rw [if_neg (by decide +kernel)]; exact ⟨rfl, rfl⟩))
    (fun os started H enc _ F => by rw [OpenClaim.pre_eq_preRow]; exact guideMore_lifted os started H enc F)
theorem guideMore_plainArgs (f : FuncId) (fn : Func) (hf : Tryd.pinned.checked.prog.funcNamed Rows.guideMoreRow.func = some f) (hfn : Tryd.pinned.checked.prog.funcs[f]? = some fn) :
    false = Tryd.pinned.checked.prog.looks [] ∧ ∀ (j : Nat) t, fn.params[j]? = some t → Tryd.pinned.checked.prog.wantsStandIn t = false := by
  obtain rfl : f = 4 := Option.some.inj ((show Tryd.prog.funcNamed Rows.guideMoreRow.func = some 4 by kernel_rfl).symm.trans hf) |>.symm
  obtain rfl : fn = Tryd.f4 := (Option.some.inj (Tryd.func4.symm.trans hfn)).symm
  refine ⟨by kernel_rfl, fun j t ht => ?_⟩
  have ht := Array.mem_of_getElem? ht
  rw [Tryd.params4] at ht
  have ht : t = 25 ∨ t = 47 ∨ t = 3 := by simpa using ht
  rcases ht with rfl | rfl | rfl
  · exact (show Tryd.prog.wantsStandIn 25 = false by kernel_rfl)
  · exact (show Tryd.prog.wantsStandIn 47 = false by kernel_rfl)
  · exact (show Tryd.prog.wantsStandIn 3 = false by kernel_rfl)
theorem guideMore_holds : Rows.GuideMoreCardSaid :=
  Claim7.holds_tied_plain_at .later [] _ _ _ _ guideMore_said (fun _ h => by cases h) (by kernel_rfl) (fun _ h => by cases h) guideMore_row_tie rfl ⟨rfl, rfl⟩ (by kernel_rfl) rfl guideMore_plainArgs (by kernel_rfl)

end Go.Proofs.YtckgfeglhjiflaaDoor
