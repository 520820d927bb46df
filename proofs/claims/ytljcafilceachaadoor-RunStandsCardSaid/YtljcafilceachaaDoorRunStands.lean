/- PROVED: RunStands answers true at every input, and its arguments read behind the call as they read before; the listed package variables are tied to the text. No other condition. -/
import Derived.Test.YtljcafilceachaaDoorP6
import Derived.Test.YtljcafilceachaaDoorR1
import Derived.Test.YtljcafilceachaaDoorR2
import Derived.Test.YtljcafilceachaaDoorCards
import Derived.Test.YtljcafilceachaaDoorTie
import Derived.Test.YtljcafilceachaaDoorRA
import Derived.WalkKit
import Derived.ProofKit
import Derived.OpenShut
import Derived.Deep.DeepHandedRow
import Derived.Lib.LaidTab
set_option linter.unusedVariables false
set_option linter.unusedSimpArgs false
namespace Go.Proofs.YtljcafilceachaaDoor
open Go.RowKit Go.Fp
open Go.ChangeShapes Go.WideShapes Go.ChangeAt Go.Deep

set_option maxRecDepth 100000 in
theorem runStands_walk (H : Type) (enc : TypeId × Value → H) (W : World) (base : Nat) (args : Array Value) (ds gs : List (DataW H)) (before : List MemPlace)
    (hval : ∀ (j : Nat) t v, Tryd.f5.params[j]? = some t → args[j]? = some v → Value.okWide Tryd.prog W .any base t v)
    (hW : DataW.Whole enc Tryd.prog Tryd.f5.params.toList Rows.runStandsSpec.vars false W args.toList ds gs before)
    (hz : (DataW.weightsEach Tryd.prog (Tryd.f5.params.toList ++ (OpenSpec.ofChange Rows.runStandsSpec).bare.plain.varTypes Tryd.prog) (ds ++ gs)).all (· ≤ reachBytes) = true) :
    Calls Tryd.prog 5 args W fun e W' => ∃ v, e = .returned v ∧ Rows.runStandsSpec.post enc Tryd.prog Tryd.f5 false true false false W args v W' := by
  have hW' := hW
  obtain ⟨p, q, hA0, hV, rfl, hfz, hnd⟩ := hW
  have hA : DataW.TrodAll enc Tryd.prog W 0 (fun _ => true) true Tryd.f5.params.toList args.toList ds p := hA0
  rw [Tryd.params5] at hA hval hz
  obtain ⟨v0, w0, d0, e0, p0, q0, ha, rfl, rfl, h0, hA⟩ := trodAll_cons hA
  obtain ⟨v1, w1, d1, e1, p1, q1, rfl, rfl, rfl, h1, hA⟩ := trodAll_cons hA
  obtain ⟨v2, w2, d2, e2, p2, q2, rfl, rfl, rfl, h2, hA⟩ := trodAll_cons hA
  obtain ⟨rfl, rfl, rfl⟩ := trodAll_nil hA
  have hargs : args = #[v0, v1, v2] := Array.ext' ha
  subst hargs
  obtain ⟨rfl, rfl⟩ := trodVars_none hV
  obtain ⟨b0, rfl, _⟩ := okWide_struct Tryd.underlying43 (hval 0 43 v0 rfl rfl)
  obtain ⟨fu0, g0⟩ := h0
  obtain ⟨y0, z0, k0⟩ := op43 _ _ _ _ _ _ _ _ _ g0
  have z0 : rApiStock.rep W b0.toList y0 := z0
  generalize hb0 : b0.toList = bl0 at z0
  obtain ⟨_, _, rfl, rfl, ⟨_, _, rfl, rfl, ⟨_, _, rfl, rfl, ⟨_, _, rfl, rfl, ⟨_, _, rfl, rfl, ⟨_, _, rfl, rfl, ⟨_, _, rfl, rfl, ⟨_, _, rfl, rfl, ⟨_, _, rfl, rfl, rfl⟩⟩⟩⟩⟩⟩⟩⟩⟩ := z0
  have hb0 : b0 = #[.string (y0.Name), .int .i64 (y0.Length), .int .i64 (y0.Mass), .int .i64 (y0.Start), .int .i64 (y0.Power), .int .i64 (y0.Roll), .int .i64 (y0.Drag), .int .i64 (y0.Brake), .int .i64 (y0.Top), .int .i64 (y0.Seats)] := Array.ext' hb0
  subst hb0
  obtain ⟨x1, rfl⟩ := okWide_int Tryd.underlying3 (hval 1 3 v1 rfl rfl)
  obtain ⟨fu1, g1⟩ := h1
  obtain ⟨y1, z1, k1⟩ := op3 _ _ _ _ _ _ _ _ _ g1
  have z1 : [Value.int .i64 x1] = [Value.int .i64 y1] := z1
  injection z1 with z1 _
  injection z1 with _ z1
  subst z1
  obtain ⟨x2, rfl⟩ := okWide_int Tryd.underlying3 (hval 2 3 v2 rfl rfl)
  obtain ⟨fu2, g2⟩ := h2
  obtain ⟨y2, z2, k2⟩ := op3 _ _ _ _ _ _ _ _ _ g2
  have z2 : [Value.int .i64 x2] = [Value.int .i64 y2] := z2
  injection z2 with z2 _
  injection z2 with _ z2
  subst z2
  refine (cFishkeep1RunStands (W : Base) [] y0 x1 x2   true (standsPlain y0 x1 x2 k0 k1 k2) W (own_start W)).mono fun e W' ⟨v, b', hp', he, hle, ho, hv, hh⟩ => ?_
  subst he
  subst hv
  subst hh
  exact ⟨_, rfl, post_true laidK (by kernel_rfl) rfl (by kernel_rfl) Tryd.underlying4 hW' rfl (below_end hle ho)⟩
theorem runStands_laid (os : Os) : laidMet Tryd.prog Rows.runStandsRow.laid ((laidWorld os).forCall (fun _ _ => 0) ⟨#[], #[.agg #[.string ByteArray.empty, .int .i64 0, .int .i64 0, .int .i64 0, .int .i64 0, .int .i64 0, .int .i64 0, .int .i64 0, .int .i64 0, .int .i64 0], .int .i64 0, .int .i64 0], []⟩).memory :=
  laidMet_of_run' 8 (by kernel_rfl) (by kernel_rfl)
theorem runStands_reads (os : Os) {H : Type} (enc : TypeId × Value → H) : ∃ places, DataW.whole enc Tryd.prog ((laidWorld os).forCall (fun _ _ => 0) ⟨#[], #[.agg #[.string ByteArray.empty, .int .i64 0, .int .i64 0, .int .i64 0, .int .i64 0, .int .i64 0, .int .i64 0, .int .i64 0, .int .i64 0, .int .i64 0], .int .i64 0, .int .i64 0], []⟩).memory Tryd.f5.params.toList Rows.runStandsSpec.vars false (#[.agg #[.string ByteArray.empty, .int .i64 0, .int .i64 0, .int .i64 0, .int .i64 0, .int .i64 0, .int .i64 0, .int .i64 0, .int .i64 0, .int .i64 0], .int .i64 0, .int .i64 0] : Array Value).toList 8 = some ([.agg [.lit (.string []), .lit (.int .i64 0), .lit (.int .i64 0), .lit (.int .i64 0), .lit (.int .i64 0), .lit (.int .i64 0), .lit (.int .i64 0), .lit (.int .i64 0), .lit (.int .i64 0), .lit (.int .i64 0)], .lit (.int .i64 0), .lit (.int .i64 0)], [], places) :=
  ⟨[], by kernel_rfl⟩
set_option maxRecDepth 100000 in
theorem runStands_lifted (os : Os) (started : os.Started) (H : Type) (enc : TypeId × Value → H) (F : Stop.Interp) :
    ReturnsInHanded {} Tryd.checked os 5 .any ((OpenSpec.ofChange Rows.runStandsSpec).preRow enc Tryd.prog Tryd.f5 Rows.runStandsRow.domain false Rows.runStandsRow.laid) (((OpenSpec.ofChange Rows.runStandsSpec).at F).post enc Tryd.prog Tryd.f5 false true false false) := by
  obtain ⟨places, hx⟩ := runStands_reads os enc
  refine returnsInHanded_of_row (C := Tryd.checked) (s := OpenSpec.ofChange Rows.runStandsSpec) ownK started (by kernel_rfl) Tryd.func5
    (witness_row_at (enc := enc) (C := Tryd.checked) false (laidWorld os) #[.agg #[.string ByteArray.empty, .int .i64 0, .int .i64 0, .int .i64 0, .int .i64 0, .int .i64 0, .int .i64 0, .int .i64 0, .int .i64 0, .int .i64 0], .int .i64 0, .int .i64 0] rfl (by kernel_rfl) (by kernel_rfl) (by kernel_rfl)
      (OpenSpec.preRow_of_cond 8 hx (by kernel_rfl) (fun k hk => by cases hk) (by kernel_rfl) (runStands_laid os))) ?_
  intro W base args ds gs before hval hW _ _ hz hL _ _
  exact runStands_walk H enc W base args ds gs before hval hW hz
theorem runStands_said : Rows.RunStandsSaid :=
  OpenClaim.holds_of_cond 5 Tryd.f5 rfl rfl rfl rfl rfl rfl rfl ⟨rfl, rfl, rfl, rfl, rfl⟩ rfl rfl rfl rfl rfl (by kernel_rfl) Tryd.func5 (by kernel_rfl)
    (of_decide_eq_true (by kernel_rfl)) (by unfold Func.isWrapper; first | (rw [if_pos (by decide +kernel)]; kernel_rfl) | (rw [if_neg (by decide +kernel)]; exact ⟨rfl, rfl⟩))
    (fun os started H enc _ F => by rw [OpenClaim.pre_eq_preRow]; exact runStands_lifted os started H enc F)
theorem runStands_plainArgs (f : FuncId) (fn : Func) (hf : Tryd.pinned.checked.prog.funcNamed Rows.runStandsRow.func = some f) (hfn : Tryd.pinned.checked.prog.funcs[f]? = some fn) :
    true = Tryd.pinned.checked.prog.looks [] ∧ ∀ (j : Nat) t, fn.params[j]? = some t → Tryd.pinned.checked.prog.wantsStandIn t = false := by
  obtain rfl : f = 5 := Option.some.inj ((show Tryd.prog.funcNamed Rows.runStandsRow.func = some 5 by kernel_rfl).symm.trans hf) |>.symm
  obtain rfl : fn = Tryd.f5 := (Option.some.inj (Tryd.func5.symm.trans hfn)).symm
  refine ⟨by kernel_rfl, fun j t ht => ?_⟩
  have ht := Array.mem_of_getElem? ht
  rw [Tryd.params5] at ht
  have ht : t = 43 ∨ t = 3 := by simpa using ht
  rcases ht with rfl | rfl
  · exact (show Tryd.prog.wantsStandIn 43 = false by kernel_rfl)
  · exact (show Tryd.prog.wantsStandIn 3 = false by kernel_rfl)
theorem runStands_holds : Rows.RunStandsCardSaid :=
  Claim7.holds_tied_plain_at .later [] _ _ _ _ runStands_said (fun _ h => by cases h) (by kernel_rfl) (fun _ h => by cases h) runStands_row_tie rfl ⟨rfl, rfl⟩ (by kernel_rfl) rfl runStands_plainArgs (by kernel_rfl)

end Go.Proofs.YtljcafilceachaaDoor
