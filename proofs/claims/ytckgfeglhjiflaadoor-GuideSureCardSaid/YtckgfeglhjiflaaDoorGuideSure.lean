/- PROVED: GuideSure answers true at every input, and its arguments read behind the call as they read before; the listed package variables are tied to the text. No other condition. -/
import Derived.Test.YtckgfeglhjiflaaDoorZP3
import Derived.Test.YtckgfeglhjiflaaDoorZR1
import Derived.Test.YtckgfeglhjiflaaDoorR2
import Derived.Test.YtckgfeglhjiflaaDoorR4
import Derived.Test.YtckgfeglhjiflaaDoorCards
import Derived.Test.YtckgfeglhjiflaaDoorTie
import Derived.Test.YtckgfeglhjiflaaDoorGI
import Derived.WalkKit
import Derived.ProofKit
import Derived.OpenShut
import Derived.Deep.DeepHandedRow
import Derived.Lib.LaidTab
set_option linter.unusedVariables false
set_option linter.unusedSimpArgs false
namespace Go.Proofs.YtckgfeglhjiflaaDoor
open Go.RowKit Go.Fp
open Go.ChangeShapes Go.WideShapes Go.ChangeAt Go.Deep

set_option maxRecDepth 100000 in
theorem guideSure_walk (H : Type) (enc : TypeId × Value → H) (W : World) (base : Nat) (args : Array Value) (ds gs : List (DataW H)) (before : List MemPlace)
    (hval : ∀ (j : Nat) t v, Tryd.f6.params[j]? = some t → args[j]? = some v → Value.okWide Tryd.prog W .any base t v) (hG : GOn GT (W : Base))
    (hW : DataW.Whole enc Tryd.prog Tryd.f6.params.toList Rows.guideSureSpec.vars false W args.toList ds gs before)
    (hz : (DataW.weightsEach Tryd.prog (Tryd.f6.params.toList ++ (OpenSpec.ofChange Rows.guideSureSpec).bare.plain.varTypes Tryd.prog) (ds ++ gs)).all (· ≤ reachBytes) = true) :
    Calls Tryd.prog 6 args W fun e W' => ∃ v, e = .returned v ∧ Rows.guideSureSpec.post enc Tryd.prog Tryd.f6 false true false false W args v W' := by
  have hW' := hW
  obtain ⟨p, q, hA0, hV, rfl, hfz, hnd⟩ := hW
  have hA : DataW.TrodAll enc Tryd.prog W 0 (fun _ => true) true Tryd.f6.params.toList args.toList ds p := hA0
  rw [Tryd.params6] at hA hval hz
  obtain ⟨v0, w0, d0, e0, p0, q0, ha, rfl, rfl, h0, hA⟩ := trodAll_cons hA
  obtain ⟨v1, w1, d1, e1, p1, q1, rfl, rfl, rfl, h1, hA⟩ := trodAll_cons hA
  obtain ⟨v2, w2, d2, e2, p2, q2, rfl, rfl, rfl, h2, hA⟩ := trodAll_cons hA
  obtain ⟨v3, w3, d3, e3, p3, q3, rfl, rfl, rfl, h3, hA⟩ := trodAll_cons hA
  obtain ⟨v4, w4, d4, e4, p4, q4, rfl, rfl, rfl, h4, hA⟩ := trodAll_cons hA
  obtain ⟨v5, w5, d5, e5, p5, q5, rfl, rfl, rfl, h5, hA⟩ := trodAll_cons hA
  obtain ⟨v6, w6, d6, e6, p6, q6, rfl, rfl, rfl, h6, hA⟩ := trodAll_cons hA
  obtain ⟨rfl, rfl, rfl⟩ := trodAll_nil hA
  have hargs : args = #[v0, v1, v2, v3, v4, v5, v6] := Array.ext' ha
  subst hargs
  obtain ⟨rfl, rfl⟩ := trodVars_none hV
  obtain ⟨b0, rfl, _⟩ := okWide_struct Tryd.underlying25 (hval 0 25 v0 rfl rfl)
  obtain ⟨fu0, g0⟩ := h0
  obtain ⟨y0, z0, k0⟩ := op25 _ _ _ _ _ _ _ _ _ g0
  have z0 : rApiDay.rep W b0.toList y0 := z0
  generalize hb0 : b0.toList = bl0 at z0
  obtain ⟨_, _, rfl, ⟨A1001, c1002, rfl, h1003⟩, ⟨A1004, c1005, rfl, h1006⟩⟩ := z0
  have hb0 : b0 = #[.slice A1001 (y0.Trains).length c1002, .slice A1004 (y0.Turns).length c1005] := Array.ext' hb0
  subst hb0
  obtain ⟨x1, rfl⟩ := okWide_int Tryd.underlying3 (hval 1 3 v1 rfl rfl)
  obtain ⟨fu1, g1⟩ := h1
  obtain ⟨y1, z1, k1⟩ := op3 _ _ _ _ _ _ _ _ _ g1
  have z1 : [Value.int .i64 x1] = [Value.int .i64 y1] := z1
  injection z1 with z1 _
  injection z1 with _ z1
  subst z1
  obtain ⟨x2, rfl⟩ := okWide_int Tryd.underlying3 (hval 2 3 v2 rfl rfl)
  obtain ⟨fu2, g2⟩ := h2
  obtain ⟨y2, z2, k2⟩ := op3 _ _ _ _ _ _ _ _ _ g2
  have z2 : [Value.int .i64 x2] = [Value.int .i64 y2] := z2
  injection z2 with z2 _
  injection z2 with _ z2
  subst z2
  obtain ⟨x3, rfl⟩ := okWide_int Tryd.underlying3 (hval 3 3 v3 rfl rfl)
  obtain ⟨fu3, g3⟩ := h3
  obtain ⟨y3, z3, k3⟩ := op3 _ _ _ _ _ _ _ _ _ g3
  have z3 : [Value.int .i64 x3] = [Value.int .i64 y3] := z3
  injection z3 with z3 _
  injection z3 with _ z3
  subst z3
  obtain ⟨x4, rfl⟩ := okWide_int Tryd.underlying3 (hval 4 3 v4 rfl rfl)
  obtain ⟨fu4, g4⟩ := h4
  obtain ⟨y4, z4, k4⟩ := op3 _ _ _ _ _ _ _ _ _ g4
  have z4 : [Value.int .i64 x4] = [Value.int .i64 y4] := z4
  injection z4 with z4 _
  injection z4 with _ z4
  subst z4
  obtain ⟨x5, rfl⟩ := okWide_int Tryd.underlying3 (hval 5 3 v5 rfl rfl)
  obtain ⟨fu5, g5⟩ := h5
  obtain ⟨y5, z5, k5⟩ := op3 _ _ _ _ _ _ _ _ _ g5
  have z5 : [Value.int .i64 x5] = [Value.int .i64 y5] := z5
  injection z5 with z5 _
  injection z5 with _ z5
  subst z5
  obtain ⟨a6, m6, c6, rfl⟩ := okWide_slice Tryd.underlying74 (hval 6 74 v6 rfl rfl)
  obtain ⟨fu6, g6⟩ := h6
  obtain ⟨l6, ⟨A6, C6, z6, F6⟩, k6⟩ := op74 _ _ _ _ _ _ _ _ _ g6
  have z6 : [Value.slice a6 m6 c6] = [Value.slice A6 l6.length C6] := z6
  injection z6 with z6 _
  injection z6 with z6 zm6 zc6
  subst z6
  subst zm6
  subst zc6
  have sz6 := sized_open (e := 162) (j := 6) Tryd.underlying74 g6 hz rfl rfl
  rw [show Tryd.prog.bytesOf 162 = 56 by kernel_rfl] at sz6
  refine (cFishkeep2GuideSure (W : Base) [] hG y0 x1 x2 x3 x4 x5 l6 A1001 c1002 A1004 c1005 a6 c6 h1003 h1006 F6 true (sureRow y0 x1 x2 x3 x4 x5 l6 k0 k1 k2 k3 k4 k5 k6 sz6) W (own_start W)).mono fun e W' ⟨v, b', hp', he, hle, ho, hv, hh⟩ => ?_
  subst he
  subst hv
  subst hh
  exact ⟨_, rfl, post_true laidK (by kernel_rfl) rfl (by kernel_rfl) Tryd.underlying4 hW' rfl (below_end hle ho)⟩
theorem guideSure_laid (os : Os) : laidMet Tryd.prog Rows.guideSureRow.laid ((laidWorld os).forCall (fun _ _ => 0) ⟨#[], #[.agg #[.slice none 0 0, .slice none 0 0], .int .i64 0, .int .i64 0, .int .i64 0, .int .i64 0, .int .i64 0, .slice none 0 0], []⟩).memory :=
  laidMet_of_run' 8 (by kernel_rfl) (by kernel_rfl)
theorem guideSure_reads (os : Os) {H : Type} (enc : TypeId × Value → H) : ∃ places, DataW.whole enc Tryd.prog ((laidWorld os).forCall (fun _ _ => 0) ⟨#[], #[.agg #[.slice none 0 0, .slice none 0 0], .int .i64 0, .int .i64 0, .int .i64 0, .int .i64 0, .int .i64 0, .slice none 0 0], []⟩).memory Tryd.f6.params.toList Rows.guideSureSpec.vars false (#[.agg #[.slice none 0 0, .slice none 0 0], .int .i64 0, .int .i64 0, .int .i64 0, .int .i64 0, .int .i64 0, .slice none 0 0] : Array Value).toList 8 = some ([.agg [.nil, .nil], .lit (.int .i64 0), .lit (.int .i64 0), .lit (.int .i64 0), .lit (.int .i64 0), .lit (.int .i64 0), .nil], [], places) :=
  ⟨[], by kernel_rfl⟩
set_option maxRecDepth 100000 in
theorem guideSure_lifted (os : Os) (started : os.Started) (H : Type) (enc : TypeId × Value → H) (F : Stop.Interp) :
    ReturnsInHanded {} Tryd.checked os 6 .any ((OpenSpec.ofChange Rows.guideSureSpec).preRow enc Tryd.prog Tryd.f6 Rows.guideSureRow.domain false Rows.guideSureRow.laid) (((OpenSpec.ofChange Rows.guideSureSpec).at F).post enc Tryd.prog Tryd.f6 false true false false) := by
  obtain ⟨places, hx⟩ := guideSure_reads os enc
  refine returnsInHanded_of_row (C := Tryd.checked) (s := OpenSpec.ofChange Rows.guideSureSpec) ownK started (by kernel_rfl) Tryd.func6
    (witness_row_at (enc := enc) (C := Tryd.checked) false (laidWorld os) #[.agg #[.slice none 0 0, .slice none 0 0], .int .i64 0, .int .i64 0, .int .i64 0, .int .i64 0, .int .i64 0, .slice none 0 0] rfl (by kernel_rfl) (by kernel_rfl) (by kernel_rfl)
      (OpenSpec.preRow_of_cond 8 hx (by kernel_rfl) (fun k hk => by cases hk) (by kernel_rfl) (guideSure_laid os))) ?_
  intro W base args ds gs before hval hW _ _ hz hL _ _
  exact guideSure_walk H enc W base args ds gs before hval (gt_of (show laidMet Tryd.prog Rows.guideSureRow.laid W from hL)) hW hz
theorem guideSure_said : Rows.GuideSureSaid :=
  OpenClaim.holds_of_cond 6 Tryd.f6 rfl rfl rfl rfl rfl rfl rfl ⟨rfl, rfl, rfl, rfl, rfl⟩ rfl rfl rfl rfl rfl (by kernel_rfl) Tryd.func6 (by kernel_rfl)
    (of_decide_eq_true (by kernel_rfl)) (by unfold Func.isWrapper; first | (rw [if_pos (by decide +kernel)]; kernel_rfl) | (rw [if_neg (by decide +kernel)]; exact ⟨rfl, rfl⟩))
    (fun os started H enc _ F => by rw [OpenClaim.pre_eq_preRow]; exact guideSure_lifted os started H enc F)
theorem guideSure_plainArgs (f : FuncId) (fn : Func) (hf : Tryd.pinned.checked.prog.funcNamed Rows.guideSureRow.func = some f) (hfn : Tryd.pinned.checked.prog.funcs[f]? = some fn) :
    false = Tryd.pinned.checked.prog.looks [] ∧ ∀ (j : Nat) t, fn.params[j]? = some t → Tryd.pinned.checked.prog.wantsStandIn t = false := by
  obtain rfl : f = 6 := Option.some.inj ((show Tryd.prog.funcNamed Rows.guideSureRow.func = some 6 by kernel_rfl).symm.trans hf) |>.symm
  obtain rfl : fn = Tryd.f6 := (Option.some.inj (Tryd.func6.symm.trans hfn)).symm
  refine ⟨by kernel_rfl, fun j t ht => ?_⟩
  have ht := Array.mem_of_getElem? ht
  rw [Tryd.params6] at ht
  have ht : t = 25 ∨ t = 3 ∨ t = 74 := by simpa using ht
  rcases ht with rfl | rfl | rfl
  · exact (show Tryd.prog.wantsStandIn 25 = false by kernel_rfl)
  · exact (show Tryd.prog.wantsStandIn 3 = false by kernel_rfl)
  · exact (show Tryd.prog.wantsStandIn 74 = false by kernel_rfl)
theorem guideSure_holds : Rows.GuideSureCardSaid :=
  Claim7.holds_tied_plain_at .later [] _ _ _ _ guideSure_said (fun _ h => by cases h) (by kernel_rfl) (fun _ h => by cases h) guideSure_row_tie rfl ⟨rfl, rfl⟩ (by kernel_rfl) rfl guideSure_plainArgs (by kernel_rfl)

end Go.Proofs.YtckgfeglhjiflaaDoor
