/- PROVED: FareForges answers true at every input, and its arguments read behind the call as they read before; the listed package variables are tied to the text. No other condition. -/
import Derived.Test.YtglmhaihgpnogaaGreatDoorZP2
import Derived.Test.YtglmhaihgpnogaaGreatDoorZR1
import Derived.Test.YtglmhaihgpnogaaGreatDoorR2
import Derived.Test.YtglmhaihgpnogaaGreatDoorR4
import Derived.Test.YtglmhaihgpnogaaGreatDoorCards
import Derived.Test.YtglmhaihgpnogaaGreatDoorTie
import Derived.Test.YtglmhaihgpnogaaGreatDoorFMZ
import Derived.WalkKit
import Derived.ProofKit
import Derived.OpenShut
import Derived.Deep.DeepHandedRow
import Derived.Lib.LaidTab
set_option linter.unusedVariables false
set_option linter.unusedSimpArgs false
namespace Go.Proofs.YtglmhaihgpnogaaGreatDoor
open Go.RowKit Go.Fp
open Go.ChangeShapes Go.WideShapes Go.ChangeAt Go.Deep

set_option maxRecDepth 100000 in
theorem fareForges_walk (H : Type) (enc : TypeId × Value → H) (W : World) (base : Nat) (args : Array Value) (ds gs : List (DataW H)) (before : List MemPlace)
    (hval : ∀ (j : Nat) t v, Tryz.f3.params[j]? = some t → args[j]? = some v → Value.okWide Tryz.prog W .any base t v) (hG : GOn GT (W : Base))
    (hW : DataW.Whole enc Tryz.prog Tryz.f3.params.toList Rows.fareForgesSpec.vars false W args.toList ds gs before)
    (hz : (DataW.weightsEach Tryz.prog (Tryz.f3.params.toList ++ (OpenSpec.ofChange Rows.fareForgesSpec).bare.plain.varTypes Tryz.prog) (ds ++ gs)).all (· ≤ reachBytes) = true) :
    Calls Tryz.prog 3 args W fun e W' => ∃ v, e = .returned v ∧ Rows.fareForgesSpec.post enc Tryz.prog Tryz.f3 false true false false W args v W' := by
  have hW' := hW
  obtain ⟨p, q, hA0, hV, rfl, hfz, hnd⟩ := hW
  have hA : DataW.TrodAll enc Tryz.prog W 0 (fun _ => true) true Tryz.f3.params.toList args.toList ds p := hA0
  rw [Tryz.params3] at hA hval hz
  obtain ⟨v0, w0, d0, e0, p0, q0, ha, rfl, rfl, h0, hA⟩ := trodAll_cons hA
  obtain ⟨v1, w1, d1, e1, p1, q1, rfl, rfl, rfl, h1, hA⟩ := trodAll_cons hA
  obtain ⟨v2, w2, d2, e2, p2, q2, rfl, rfl, rfl, h2, hA⟩ := trodAll_cons hA
  obtain ⟨v3, w3, d3, e3, p3, q3, rfl, rfl, rfl, h3, hA⟩ := trodAll_cons hA
  obtain ⟨v4, w4, d4, e4, p4, q4, rfl, rfl, rfl, h4, hA⟩ := trodAll_cons hA
  obtain ⟨v5, w5, d5, e5, p5, q5, rfl, rfl, rfl, h5, hA⟩ := trodAll_cons hA
  obtain ⟨rfl, rfl, rfl⟩ := trodAll_nil hA
  have hargs : args = #[v0, v1, v2, v3, v4, v5] := Array.ext' ha
  subst hargs
  obtain ⟨rfl, rfl⟩ := trodVars_none hV
  obtain ⟨x0, rfl⟩ := okWide_int Tryz.underlying3 (hval 0 3 v0 rfl rfl)
  obtain ⟨fu0, g0⟩ := h0
  obtain ⟨y0, z0, k0⟩ := op3 _ _ _ _ _ _ _ _ _ g0
  have z0 : [Value.int .i64 x0] = [Value.int .i64 y0] := z0
  injection z0 with z0 _
  injection z0 with _ z0
  subst z0
  obtain ⟨x1, rfl⟩ := okWide_int Tryz.underlying3 (hval 1 3 v1 rfl rfl)
  obtain ⟨fu1, g1⟩ := h1
  obtain ⟨y1, z1, k1⟩ := op3 _ _ _ _ _ _ _ _ _ g1
  have z1 : [Value.int .i64 x1] = [Value.int .i64 y1] := z1
  injection z1 with z1 _
  injection z1 with _ z1
  subst z1
  obtain ⟨x2, rfl⟩ := okWide_int Tryz.underlying3 (hval 2 3 v2 rfl rfl)
  obtain ⟨fu2, g2⟩ := h2
  obtain ⟨y2, z2, k2⟩ := op3 _ _ _ _ _ _ _ _ _ g2
  have z2 : [Value.int .i64 x2] = [Value.int .i64 y2] := z2
  injection z2 with z2 _
  injection z2 with _ z2
  subst z2
  obtain ⟨b3, rfl, _⟩ := okWide_struct Tryz.underlying24 (hval 3 24 v3 rfl rfl)
  obtain ⟨fu3, g3⟩ := h3
  obtain ⟨y3, z3, k3⟩ := op24 _ _ _ _ _ _ _ _ _ g3
  have z3 : rFareTicket.rep W b3.toList y3 := z3
  generalize hb3 : b3.toList = bl3 at z3
  obtain ⟨_, _, rfl, rfl, ⟨_, _, rfl, rfl, ⟨_, _, rfl, rfl, ⟨_, _, rfl, rfl, ⟨_, _, rfl, rfl, ⟨A4001, c4002, rfl, h4003⟩⟩⟩⟩⟩⟩ := z3
  have hb3 : b3 = #[.int .i64 (y3.No), .int .i64 (y3.Day), .int .i64 (y3.Start), .int .i64 (y3.End), .int .i64 (y3.Price), .slice A4001 (y3.Zones).length c4002] := Array.ext' hb3
  subst hb3
  obtain ⟨x4, rfl⟩ := okWide_int Tryz.underlying3 (hval 4 3 v4 rfl rfl)
  obtain ⟨fu4, g4⟩ := h4
  obtain ⟨y4, z4, k4⟩ := op3 _ _ _ _ _ _ _ _ _ g4
  have z4 : [Value.int .i64 x4] = [Value.int .i64 y4] := z4
  injection z4 with z4 _
  injection z4 with _ z4
  subst z4
  obtain ⟨x5, rfl⟩ := okWide_int Tryz.underlying5 (hval 5 5 v5 rfl rfl)
  obtain ⟨fu5, g5⟩ := h5
  obtain ⟨y5, z5, k5⟩ := op5 _ _ _ _ _ _ _ _ _ g5
  have z5 : [Value.int .u8 x5] = [Value.int .u8 y5] := z5
  injection z5 with z5 _
  injection z5 with _ z5
  subst z5
  refine (cFishkeep2FareForges (W : Base) [] hG x0 x1 x2 y3 x4 x5 A4001 c4002 h4003 true (forgesRow x0 x1 x2 y3 x4 x5 k0 k1 k2 k3 k4 k5) W (own_start W)).mono fun e W' ⟨v, b', hp', he, hle, ho, hv, hh⟩ => ?_
  subst he
  subst hv
  subst hh
  exact ⟨_, rfl, post_true laidK (by kernel_rfl) rfl (by kernel_rfl) Tryz.underlying4 hW' rfl (below_end hle ho)⟩
theorem fareForges_laid (os : Os) : laidMet Tryz.prog Rows.fareForgesRow.laid ((laidWorld os).forCall (fun _ _ => 0) ⟨#[], #[.int .i64 0, .int .i64 0, .int .i64 0, .agg #[.int .i64 0, .int .i64 0, .int .i64 0, .int .i64 0, .int .i64 0, .slice none 0 0], .int .i64 0, .int .u8 0], []⟩).memory :=
  laidMet_of_run' 8 (by kernel_rfl) (by kernel_rfl)
theorem fareForges_reads (os : Os) {H : Type} (enc : TypeId × Value → H) : ∃ places, DataW.whole enc Tryz.prog ((laidWorld os).forCall (fun _ _ => 0) ⟨#[], #[.int .i64 0, .int .i64 0, .int .i64 0, .agg #[.int .i64 0, .int .i64 0, .int .i64 0, .int .i64 0, .int .i64 0, .slice none 0 0], .int .i64 0, .int .u8 0], []⟩).memory Tryz.f3.params.toList Rows.fareForgesSpec.vars false (#[.int .i64 0, .int .i64 0, .int .i64 0, .agg #[.int .i64 0, .int .i64 0, .int .i64 0, .int .i64 0, .int .i64 0, .slice none 0 0], .int .i64 0, .int .u8 0] : Array Value).toList 8 = some ([.lit (.int .i64 0), .lit (.int .i64 0), .lit (.int .i64 0), .agg [.lit (.int .i64 0), .lit (.int .i64 0), .lit (.int .i64 0), .lit (.int .i64 0), .lit (.int .i64 0), .nil], .lit (.int .i64 0), .lit (.int .u8 0)], [], places) :=
  ⟨[], by kernel_rfl⟩
set_option maxRecDepth 100000 in
theorem fareForges_lifted (os : Os) (started : os.Started) (H : Type) (enc : TypeId × Value → H) (F : Stop.Interp) :
    ReturnsInHanded {} Tryz.checked os 3 .any ((OpenSpec.ofChange Rows.fareForgesSpec).preRow enc Tryz.prog Tryz.f3 Rows.fareForgesRow.domain false Rows.fareForgesRow.laid) (((OpenSpec.ofChange Rows.fareForgesSpec).at F).post enc Tryz.prog Tryz.f3 false true false false) := by
  obtain ⟨places, hx⟩ := fareForges_reads os enc
  refine returnsInHanded_of_row (C := Tryz.checked) (s := OpenSpec.ofChange Rows.fareForgesSpec) ownK started (by kernel_rfl) Tryz.func3
    (witness_row_at (enc := enc) (C := Tryz.checked) false (laidWorld os) #[.int .i64 0, .int .i64 0, .int .i64 0, .agg #[.int .i64 0, .int .i64 0, .int .i64 0, .int .i64 0, .int .i64 0, .slice none 0 0], .int .i64 0, .int .u8 0] rfl (by kernel_rfl) (by kernel_rfl) (by kernel_rfl)
      (OpenSpec.preRow_of_cond 8 hx (by kernel_rfl) (fun k hk => by cases hk) (by kernel_rfl) (fareForges_laid os))) ?_
  intro W base args ds gs before hval hW _ _ hz hL _ _
  exact fareForges_walk H enc W base args ds gs before hval (gt_of (show laidMet Tryz.prog Rows.fareForgesRow.laid W from hL)) hW hz
theorem fareForges_said : Rows.FareForgesSaid :=
  OpenClaim.holds_of_cond 3 Tryz.f3 rfl rfl rfl rfl rfl rfl rfl ⟨rfl, rfl, rfl, rfl, rfl⟩ rfl rfl rfl rfl rfl (by kernel_rfl) Tryz.func3 (by kernel_rfl)
    (of_decide_eq_true (by kernel_rfl)) (by unfold Func.isWrapper; first | (rw [if_pos (by decide +kernel)]; kernel_rfl) | (rw [if_neg (by decide +kernel)]; exact ⟨rfl, rfl⟩))
    (fun os started H enc _ F => by rw [OpenClaim.pre_eq_preRow]; exact fareForges_lifted os started H enc F)
theorem fareForges_plainArgs (f : FuncId) (fn : Func) (hf : Tryz.pinned.checked.prog.funcNamed Rows.fareForgesRow.func = some f) (hfn : Tryz.pinned.checked.prog.funcs[f]? = some fn) :
    true = Tryz.pinned.checked.prog.looks [] ∧ ∀ (j : Nat) t, fn.params[j]? = some t → Tryz.pinned.checked.prog.wantsStandIn t = false := by
  obtain rfl : f = 3 := Option.some.inj ((show Tryz.prog.funcNamed Rows.fareForgesRow.func = some 3 by kernel_rfl).symm.trans hf) |>.symm
  obtain rfl : fn = Tryz.f3 := (Option.some.inj (Tryz.func3.symm.trans hfn)).symm
  refine ⟨by kernel_rfl, fun j t ht => ?_⟩
  have ht := Array.mem_of_getElem? ht
  rw [Tryz.params3] at ht
  have ht : t = 3 ∨ t = 24 ∨ t = 5 := by
    simp at ht
    rcases ht with h | h | h | h <;> (subst h; simp)
  rcases ht with rfl | rfl | rfl
  · exact (show Tryz.prog.wantsStandIn 3 = false by kernel_rfl)
  · exact (show Tryz.prog.wantsStandIn 24 = false by kernel_rfl)
  · exact (show Tryz.prog.wantsStandIn 5 = false by kernel_rfl)
theorem fareForges_holds : Rows.FareForgesCardSaid :=
  Claim7.holds_tied_plain_at .later [] _ _ _ _ fareForges_said (fun _ h => by cases h) (by kernel_rfl) (fun _ h => by cases h) fareForges_row_tie rfl ⟨rfl, rfl⟩ (by kernel_rfl) rfl fareForges_plainArgs (by kernel_rfl)

end Go.Proofs.YtglmhaihgpnogaaGreatDoor
