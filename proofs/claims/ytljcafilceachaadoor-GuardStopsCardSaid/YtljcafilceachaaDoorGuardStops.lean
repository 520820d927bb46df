/- PROVED: GuardStops answers true at every input, and its arguments read behind the call as they read before; the listed package variables are tied to the text. No other condition. -/
import Derived.Test.YtljcafilceachaaDoorGP4
import Derived.Test.YtljcafilceachaaDoorGR1
import Derived.Test.YtljcafilceachaaDoorR2
import Derived.Test.YtljcafilceachaaDoorR3
import Derived.Test.YtljcafilceachaaDoorCards
import Derived.Test.YtljcafilceachaaDoorTie
import Derived.Test.YtljcafilceachaaDoorHD
import Derived.WalkKit
import Derived.ProofKit
import Derived.OpenShut
import Derived.Deep.DeepHandedRow
import Derived.Lib.LaidTab
set_option linter.unusedVariables false
set_option linter.unusedSimpArgs false
namespace Go.Proofs.YtljcafilceachaaDoor
open Go.RowKit Go.Fp
open Go.ChangeShapes Go.WideShapes Go.ChangeAt Go.Deep

set_option maxRecDepth 100000 in
theorem guardStops_walk (H : Type) (enc : TypeId × Value → H) (W : World) (base : Nat) (args : Array Value) (ds gs : List (DataW H)) (before : List MemPlace)
    (hval : ∀ (j : Nat) t v, Tryd.f13.params[j]? = some t → args[j]? = some v → Value.okWide Tryd.prog W .any base t v) (hG : GLo 2 3 W)
    (hW : DataW.Whole enc Tryd.prog Tryd.f13.params.toList Rows.guardStopsSpec.vars false W args.toList ds gs before)
    (hz : (DataW.weightsEach Tryd.prog (Tryd.f13.params.toList ++ (OpenSpec.ofChange Rows.guardStopsSpec).bare.plain.varTypes Tryd.prog) (ds ++ gs)).all (· ≤ reachBytes) = true) :
    Calls Tryd.prog 13 args W fun e W' => ∃ v, e = .returned v ∧ Rows.guardStopsSpec.post enc Tryd.prog Tryd.f13 false true false false W args v W' := by
  have hW' := hW
  obtain ⟨p, q, hA0, hV, rfl, hfz, hnd⟩ := hW
  have hA : DataW.TrodAll enc Tryd.prog W 0 (fun _ => true) true Tryd.f13.params.toList args.toList ds p := hA0
  rw [Tryd.params13] at hA hval hz
  obtain ⟨v0, w0, d0, e0, p0, q0, ha, rfl, rfl, h0, hA⟩ := trodAll_cons hA
  obtain ⟨v1, w1, d1, e1, p1, q1, rfl, rfl, rfl, h1, hA⟩ := trodAll_cons hA
  obtain ⟨v2, w2, d2, e2, p2, q2, rfl, rfl, rfl, h2, hA⟩ := trodAll_cons hA
  obtain ⟨v3, w3, d3, e3, p3, q3, rfl, rfl, rfl, h3, hA⟩ := trodAll_cons hA
  obtain ⟨v4, w4, d4, e4, p4, q4, rfl, rfl, rfl, h4, hA⟩ := trodAll_cons hA
  obtain ⟨rfl, rfl, rfl⟩ := trodAll_nil hA
  have hargs : args = #[v0, v1, v2, v3, v4] := Array.ext' ha
  subst hargs
  obtain ⟨rfl, rfl⟩ := trodVars_none hV
  obtain ⟨b0, rfl, _⟩ := okWide_struct Tryd.underlying43 (hval 0 43 v0 rfl rfl)
  obtain ⟨fu0, g0⟩ := h0
  obtain ⟨y0, z0, k0⟩ := op43 _ _ _ _ _ _ _ _ _ g0
  have z0 : rApiStock.rep W b0.toList y0 := z0
  generalize hb0 : b0.toList = bl0 at z0
  obtain ⟨_, _, rfl, rfl, ⟨_, _, rfl, rfl, ⟨_, _, rfl, rfl, ⟨_, _, rfl, rfl, ⟨_, _, rfl, rfl, ⟨_, _, rfl, rfl, ⟨_, _, rfl, rfl, ⟨_, _, rfl, rfl, ⟨_, _, rfl, rfl, rfl⟩⟩⟩⟩⟩⟩⟩⟩⟩ := z0
  have hb0 : b0 = #[.string (y0.Name), .int .i64 (y0.Length), .int .i64 (y0.Mass), .int .i64 (y0.Start), .int .i64 (y0.Power), .int .i64 (y0.Roll), .int .i64 (y0.Drag), .int .i64 (y0.Brake), .int .i64 (y0.Top), .int .i64 (y0.Seats)] := Array.ext' hb0
  subst hb0
  obtain ⟨a1, m1, c1, rfl⟩ := okWide_slice Tryd.underlying80 (hval 1 80 v1 rfl rfl)
  obtain ⟨fu1, g1⟩ := h1
  obtain ⟨l1, ⟨A1, C1, z1, F1⟩, k1⟩ := op80 _ _ _ _ _ _ _ _ _ g1
  have z1 : [Value.slice a1 m1 c1] = [Value.slice A1 l1.length C1] := z1
  injection z1 with z1 _
  injection z1 with z1 zm1 zc1
  subst z1
  subst zm1
  subst zc1
  have sz1 := sized_open (e := 97) (j := 1) Tryd.underlying80 g1 hz rfl rfl
  rw [show Tryd.prog.bytesOf 97 = 24 by kernel_rfl] at sz1
  obtain ⟨x2, rfl⟩ := okWide_int Tryd.underlying3 (hval 2 3 v2 rfl rfl)
  obtain ⟨fu2, g2⟩ := h2
  obtain ⟨y2, z2, k2⟩ := op3 _ _ _ _ _ _ _ _ _ g2
  have z2 : [Value.int .i64 x2] = [Value.int .i64 y2] := z2
  injection z2 with z2 _
  injection z2 with _ z2
  subst z2
  obtain ⟨x3, rfl⟩ := okWide_int Tryd.underlying3 (hval 3 3 v3 rfl rfl)
  obtain ⟨fu3, g3⟩ := h3
  obtain ⟨y3, z3, k3⟩ := op3 _ _ _ _ _ _ _ _ _ g3
  have z3 : [Value.int .i64 x3] = [Value.int .i64 y3] := z3
  injection z3 with z3 _
  injection z3 with _ z3
  subst z3
  obtain ⟨a4, m4, c4, rfl⟩ := okWide_slice Tryd.underlying95 (hval 4 95 v4 rfl rfl)
  obtain ⟨fu4, g4⟩ := h4
  obtain ⟨l4, ⟨A4, C4, z4, F4⟩, k4⟩ := op95 _ _ _ _ _ _ _ _ _ g4
  have z4 : [Value.slice a4 m4 c4] = [Value.slice A4 l4.length C4] := z4
  injection z4 with z4 _
  injection z4 with z4 zm4 zc4
  subst z4
  subst zm4
  subst zc4
  have sz4 := sized_open (e := 99) (j := 4) Tryd.underlying95 g4 hz rfl rfl
  rw [show Tryd.prog.bytesOf 99 = 24 by kernel_rfl] at sz4
  refine (cFishkeep1GuardStops (W : Base) [] hG y0 l1 x2 x3 l4 a1 c1 a4 c4 F1 F4 true (guardStopsPlain y0 l1 x2 x3 l4 k0 k1 k2 k3 k4 sz1 sz4) W (own_start W)).mono fun e W' ⟨v, b', hp', he, hle, ho, hv, hh⟩ => ?_
  subst he
  subst hv
  subst hh
  exact ⟨_, rfl, post_true laidK (by kernel_rfl) rfl (by kernel_rfl) Tryd.underlying4 hW' rfl (below_end hle ho)⟩
theorem guardStops_laid (os : Os) : laidMet Tryd.prog Rows.guardStopsRow.laid ((laidWorld os).forCall (fun _ _ => 0) ⟨#[], #[.agg #[.string ByteArray.empty, .int .i64 0, .int .i64 0, .int .i64 0, .int .i64 0, .int .i64 0, .int .i64 0, .int .i64 0, .int .i64 0, .int .i64 0], .slice none 0 0, .int .i64 0, .int .i64 0, .slice none 0 0], []⟩).memory :=
  laidMet_of_run' 8 (by kernel_rfl) (by kernel_rfl)
theorem guardStops_reads (os : Os) {H : Type} (enc : TypeId × Value → H) : ∃ places, DataW.whole enc Tryd.prog ((laidWorld os).forCall (fun _ _ => 0) ⟨#[], #[.agg #[.string ByteArray.empty, .int .i64 0, .int .i64 0, .int .i64 0, .int .i64 0, .int .i64 0, .int .i64 0, .int .i64 0, .int .i64 0, .int .i64 0], .slice none 0 0, .int .i64 0, .int .i64 0, .slice none 0 0], []⟩).memory Tryd.f13.params.toList Rows.guardStopsSpec.vars false (#[.agg #[.string ByteArray.empty, .int .i64 0, .int .i64 0, .int .i64 0, .int .i64 0, .int .i64 0, .int .i64 0, .int .i64 0, .int .i64 0, .int .i64 0], .slice none 0 0, .int .i64 0, .int .i64 0, .slice none 0 0] : Array Value).toList 8 = some ([.agg [.lit (.string []), .lit (.int .i64 0), .lit (.int .i64 0), .lit (.int .i64 0), .lit (.int .i64 0), .lit (.int .i64 0), .lit (.int .i64 0), .lit (.int .i64 0), .lit (.int .i64 0), .lit (.int .i64 0)], .nil, .lit (.int .i64 0), .lit (.int .i64 0), .nil], [], places) :=
  ⟨[], by kernel_rfl⟩
set_option maxRecDepth 100000 in
theorem guardStops_lifted (os : Os) (started : os.Started) (H : Type) (enc : TypeId × Value → H) (F : Stop.Interp) :
    ReturnsInHanded {} Tryd.checked os 13 .any ((OpenSpec.ofChange Rows.guardStopsSpec).preRow enc Tryd.prog Tryd.f13 Rows.guardStopsRow.domain false Rows.guardStopsRow.laid) (((OpenSpec.ofChange Rows.guardStopsSpec).at F).post enc Tryd.prog Tryd.f13 false true false false) := by
  obtain ⟨places, hx⟩ := guardStops_reads os enc
  refine returnsInHanded_of_row (C := Tryd.checked) (s := OpenSpec.ofChange Rows.guardStopsSpec) ownK started (by kernel_rfl) Tryd.func13
    (witness_row_at (enc := enc) (C := Tryd.checked) false (laidWorld os) #[.agg #[.string ByteArray.empty, .int .i64 0, .int .i64 0, .int .i64 0, .int .i64 0, .int .i64 0, .int .i64 0, .int .i64 0, .int .i64 0, .int .i64 0], .slice none 0 0, .int .i64 0, .int .i64 0, .slice none 0 0] rfl (by kernel_rfl) (by kernel_rfl) (by kernel_rfl)
      (OpenSpec.preRow_of_cond 8 hx (by kernel_rfl) (fun k hk => by cases hk) (by kernel_rfl) (guardStops_laid os))) ?_
  intro W base args ds gs before hval hW _ _ hz hL _ _
  exact guardStops_walk H enc W base args ds gs before hval (glo_head (laidMet.tail (laidMet.tail (laidMet.tail (laidMet.tail (show laidMet Tryd.prog Rows.guardStopsRow.laid W from hL)))))) hW hz
theorem guardStops_said : Rows.GuardStopsSaid :=
  OpenClaim.holds_of_cond 13 Tryd.f13 rfl rfl rfl rfl rfl rfl rfl ⟨rfl, rfl, rfl, rfl, rfl⟩ rfl rfl rfl rfl rfl (by kernel_rfl) Tryd.func13 (by kernel_rfl)
    (of_decide_eq_true (by kernel_rfl)) (by unfold Func.isWrapper; first | (rw [if_pos (by decide +kernel)]; kernel_rfl) | (rw [if_neg (by decide +kernel)]; exact ⟨rfl, rfl⟩))
    (fun os started H enc _ F => by rw [OpenClaim.pre_eq_preRow]; exact guardStops_lifted os started H enc F)
theorem guardStops_plainArgs (f : FuncId) (fn : Func) (hf : Tryd.pinned.checked.prog.funcNamed Rows.guardStopsRow.func = some f) (hfn : Tryd.pinned.checked.prog.funcs[f]? = some fn) :
    true = Tryd.pinned.checked.prog.looks [] ∧ ∀ (j : Nat) t, fn.params[j]? = some t → Tryd.pinned.checked.prog.wantsStandIn t = false := by
  obtain rfl : f = 13 := Option.some.inj ((show Tryd.prog.funcNamed Rows.guardStopsRow.func = some 13 by kernel_rfl).symm.trans hf) |>.symm
  obtain rfl : fn = Tryd.f13 := (Option.some.inj (Tryd.func13.symm.trans hfn)).symm
  refine ⟨by kernel_rfl, fun j t ht => ?_⟩
  have ht := Array.mem_of_getElem? ht
  rw [Tryd.params13] at ht
  have ht : t = 43 ∨ t = 80 ∨ t = 3 ∨ t = 95 := by simpa using ht
  rcases ht with rfl | rfl | rfl | rfl
  · exact (show Tryd.prog.wantsStandIn 43 = false by kernel_rfl)
  · exact (show Tryd.prog.wantsStandIn 80 = false by kernel_rfl)
  · exact (show Tryd.prog.wantsStandIn 3 = false by kernel_rfl)
  · exact (show Tryd.prog.wantsStandIn 95 = false by kernel_rfl)
theorem guardStops_holds : Rows.GuardStopsCardSaid :=
  Claim7.holds_tied_plain_at .later [] _ _ _ _ guardStops_said (fun _ h => by cases h) (by kernel_rfl) (fun _ h => by cases h) guardStops_row_tie rfl ⟨rfl, rfl⟩ (by kernel_rfl) rfl guardStops_plainArgs (by kernel_rfl)

end Go.Proofs.YtljcafilceachaaDoor
