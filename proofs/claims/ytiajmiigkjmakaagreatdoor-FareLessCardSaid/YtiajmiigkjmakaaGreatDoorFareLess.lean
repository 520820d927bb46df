/- PROVED: FareLess answers true at every input, and its arguments read behind the call as they read before; the listed package variables are tied to the text. No other condition. -/
import Derived.Test.YtiajmiigkjmakaaGreatDoorFP2
import Derived.Test.YtiajmiigkjmakaaGreatDoorFR1
import Derived.Test.YtiajmiigkjmakaaGreatDoorR2
import Derived.Test.YtiajmiigkjmakaaGreatDoorCards
import Derived.Test.YtiajmiigkjmakaaGreatDoorTie
import Derived.Test.YtiajmiigkjmakaaGreatDoorLA6
import Derived.WalkKit
import Derived.ProofKit
import Derived.OpenShut
import Derived.Deep.DeepHandedRow
import Derived.Lib.LaidTab
set_option linter.unusedVariables false
set_option linter.unusedSimpArgs false
namespace Go.Proofs.YtiajmiigkjmakaaGreatDoor
open Go.RowKit Go.Fp
open Go.ChangeShapes Go.WideShapes Go.ChangeAt Go.Deep

set_option maxRecDepth 100000 in
theorem fareLess_walk (H : Type) (enc : TypeId × Value → H) (W : World) (base : Nat) (args : Array Value) (ds gs : List (DataW H)) (before : List MemPlace)
    (hval : ∀ (j : Nat) t v, Tryz.f3.params[j]? = some t → args[j]? = some v → Value.okWide Tryz.prog W .any base t v)
    (hW : DataW.Whole enc Tryz.prog Tryz.f3.params.toList Rows.fareLessSpec.vars false W args.toList ds gs before)
    (hz : (DataW.weightsEach Tryz.prog (Tryz.f3.params.toList ++ (OpenSpec.ofChange Rows.fareLessSpec).bare.plain.varTypes Tryz.prog) (ds ++ gs)).all (· ≤ reachBytes) = true) :
    Calls Tryz.prog 3 args W fun e W' => ∃ v, e = .returned v ∧ Rows.fareLessSpec.post enc Tryz.prog Tryz.f3 false true false false W args v W' := by
  have hW' := hW
  obtain ⟨p, q, hA0, hV, rfl, hfz, hnd⟩ := hW
  have hA : DataW.TrodAll enc Tryz.prog W 0 (fun _ => true) true Tryz.f3.params.toList args.toList ds p := hA0
  rw [Tryz.params3] at hA hval hz
  obtain ⟨v0, w0, d0, e0, p0, q0, ha, rfl, rfl, h0, hA⟩ := trodAll_cons hA
  obtain ⟨v1, w1, d1, e1, p1, q1, rfl, rfl, rfl, h1, hA⟩ := trodAll_cons hA
  obtain ⟨v2, w2, d2, e2, p2, q2, rfl, rfl, rfl, h2, hA⟩ := trodAll_cons hA
  obtain ⟨v3, w3, d3, e3, p3, q3, rfl, rfl, rfl, h3, hA⟩ := trodAll_cons hA
  obtain ⟨rfl, rfl, rfl⟩ := trodAll_nil hA
  have hargs : args = #[v0, v1, v2, v3] := Array.ext' ha
  subst hargs
  obtain ⟨rfl, rfl⟩ := trodVars_none hV
  obtain ⟨b0, rfl, _⟩ := okWide_struct Tryz.underlying25 (hval 0 25 v0 rfl rfl)
  obtain ⟨fu0, g0⟩ := h0
  obtain ⟨y0, z0, k0⟩ := op25 _ _ _ _ _ _ _ _ _ g0
  have z0 : rFareTariff.rep W b0.toList y0 := z0
  generalize hb0 : b0.toList = bl0 at z0
  obtain ⟨_, _, rfl, rfl, ⟨_, _, rfl, ⟨A1001, c1002, rfl, h1003⟩, ⟨_, _, rfl, rfl, ⟨A1004, c1005, rfl, h1006⟩⟩⟩⟩ := z0
  have hb0 : b0 = #[.bool (y0.ByKm), .slice A1001 (y0.Bands).length c1002, .int .i64 (y0.Round), .slice A1004 (y0.Rules).length c1005] := Array.ext' hb0
  subst hb0
  obtain ⟨a1, m1, c1, rfl⟩ := okWide_slice Tryz.underlying26 (hval 1 26 v1 rfl rfl)
  obtain ⟨fu1, g1⟩ := h1
  obtain ⟨l1, ⟨A1, C1, z1, F1⟩, k1⟩ := op26 _ _ _ _ _ _ _ _ _ g1
  have z1 : [Value.slice a1 m1 c1] = [Value.slice A1 l1.length C1] := z1
  injection z1 with z1 _
  injection z1 with z1 zm1 zc1
  subst z1
  subst zm1
  subst zc1
  have sz1 := sized_open (e := 38) (j := 1) Tryz.underlying26 g1 hz rfl rfl
  rw [show Tryz.prog.bytesOf 38 = 64 by kernel_rfl] at sz1
  obtain ⟨b2, rfl, _⟩ := okWide_struct Tryz.underlying29 (hval 2 29 v2 rfl rfl)
  obtain ⟨fu2, g2⟩ := h2
  obtain ⟨y2, z2, k2⟩ := op29 _ _ _ _ _ _ _ _ _ g2
  have z2 : rFarePass.rep W b2.toList y2 := z2
  generalize hb2 : b2.toList = bl2 at z2
  obtain ⟨_, _, rfl, rfl, ⟨_, _, rfl, rfl, ⟨A3001, c3002, rfl, h3003⟩⟩⟩ := z2
  have hb2 : b2 = #[.int .i64 (y2.Days), .int .i64 (y2.Price), .slice A3001 (y2.Zones).length c3002] := Array.ext' hb2
  subst hb2
  obtain ⟨b3, rfl, _⟩ := okWide_struct Tryz.underlying29 (hval 3 29 v3 rfl rfl)
  obtain ⟨fu3, g3⟩ := h3
  obtain ⟨y3, z3, k3⟩ := op29 _ _ _ _ _ _ _ _ _ g3
  have z3 : rFarePass.rep W b3.toList y3 := z3
  generalize hb3 : b3.toList = bl3 at z3
  obtain ⟨_, _, rfl, rfl, ⟨_, _, rfl, rfl, ⟨A4001, c4002, rfl, h4003⟩⟩⟩ := z3
  have hb3 : b3 = #[.int .i64 (y3.Days), .int .i64 (y3.Price), .slice A4001 (y3.Zones).length c4002] := Array.ext' hb3
  subst hb3
  refine (cFishkeep2FareLess (W : Base) [] y0 l1 y2 y3 A1001 c1002 A1004 c1005 a1 c1 A3001 c3002 A4001 c4002 h1003 h1006 F1 h3003 h4003 true (lessRow y0 l1 y2 y3 k0 k1 k2 k3 sz1) W (own_start W)).mono fun e W' ⟨v, b', hp', he, hle, ho, hv, hh⟩ => ?_
  subst he
  subst hv
  subst hh
  exact ⟨_, rfl, post_true laidK (by kernel_rfl) rfl (by kernel_rfl) Tryz.underlying4 hW' rfl (below_end hle ho)⟩
theorem fareLess_laid (os : Os) : laidMet Tryz.prog Rows.fareLessRow.laid ((laidWorld os).forCall (fun _ _ => 0) ⟨#[], #[.agg #[.bool false, .slice none 0 0, .int .i64 0, .slice none 0 0], .slice none 0 0, .agg #[.int .i64 0, .int .i64 0, .slice none 0 0], .agg #[.int .i64 0, .int .i64 0, .slice none 0 0]], []⟩).memory :=
  laidMet_of_run' 8 (by kernel_rfl) (by kernel_rfl)
theorem fareLess_reads (os : Os) {H : Type} (enc : TypeId × Value → H) : ∃ places, DataW.whole enc Tryz.prog ((laidWorld os).forCall (fun _ _ => 0) ⟨#[], #[.agg #[.bool false, .slice none 0 0, .int .i64 0, .slice none 0 0], .slice none 0 0, .agg #[.int .i64 0, .int .i64 0, .slice none 0 0], .agg #[.int .i64 0, .int .i64 0, .slice none 0 0]], []⟩).memory Tryz.f3.params.toList Rows.fareLessSpec.vars false (#[.agg #[.bool false, .slice none 0 0, .int .i64 0, .slice none 0 0], .slice none 0 0, .agg #[.int .i64 0, .int .i64 0, .slice none 0 0], .agg #[.int .i64 0, .int .i64 0, .slice none 0 0]] : Array Value).toList 8 = some ([.agg [.lit (.bool false), .nil, .lit (.int .i64 0), .nil], .nil, .agg [.lit (.int .i64 0), .lit (.int .i64 0), .nil], .agg [.lit (.int .i64 0), .lit (.int .i64 0), .nil]], [], places) :=
  ⟨[], by kernel_rfl⟩
set_option maxRecDepth 100000 in
theorem fareLess_lifted (os : Os) (started : os.Started) (H : Type) (enc : TypeId × Value → H) (F : Stop.Interp) :
    ReturnsInHanded {} Tryz.checked os 3 .any ((OpenSpec.ofChange Rows.fareLessSpec).preRow enc Tryz.prog Tryz.f3 Rows.fareLessRow.domain false Rows.fareLessRow.laid) (((OpenSpec.ofChange Rows.fareLessSpec).at F).post enc Tryz.prog Tryz.f3 false true false false) := by
  obtain ⟨places, hx⟩ := fareLess_reads os enc
  refine returnsInHanded_of_row (C := Tryz.checked) (s := OpenSpec.ofChange Rows.fareLessSpec) ownK started (by kernel_rfl) Tryz.func3
    (witness_row_at (enc := enc) (C := Tryz.checked) false (laidWorld os) #[.agg #[.bool false, .slice none 0 0, .int .i64 0, .slice none 0 0], .slice none 0 0, .agg #[.int .i64 0, .int .i64 0, .slice none 0 0], .agg #[.int .i64 0, .int .i64 0, .slice none 0 0]] rfl (by kernel_rfl) (by kernel_rfl) (by kernel_rfl)
      (OpenSpec.preRow_of_cond 8 hx (by kernel_rfl) (fun k hk => by cases hk) (by kernel_rfl) (fareLess_laid os))) ?_
  intro W base args ds gs before hval hW _ _ hz hL _ _
  exact fareLess_walk H enc W base args ds gs before hval hW hz
theorem fareLess_said : Rows.FareLessSaid :=
  OpenClaim.holds_of_cond 3 Tryz.f3 rfl rfl rfl rfl rfl rfl rfl ⟨rfl, rfl, rfl, rfl, rfl⟩ rfl rfl rfl rfl rfl (by kernel_rfl) Tryz.func3 (by kernel_rfl)
    (of_decide_eq_true (by kernel_rfl)) (by unfold Func.isWrapper; first | (rw [if_pos (by decide +kernel)]; kernel_rfl) | (rw [if_neg (by decide +kernel)]; exact ⟨rfl, rfl⟩))
    (fun os started H enc _ F => by rw [OpenClaim.pre_eq_preRow]; exact fareLess_lifted os started H enc F)
theorem fareLess_plainArgs (f : FuncId) (fn : Func) (hf : Tryz.pinned.checked.prog.funcNamed Rows.fareLessRow.func = some f) (hfn : Tryz.pinned.checked.prog.funcs[f]? = some fn) :
    true = Tryz.pinned.checked.prog.looks [] ∧ ∀ (j : Nat) t, fn.params[j]? = some t → Tryz.pinned.checked.prog.wantsStandIn t = false := by
  obtain rfl : f = 3 := Option.some.inj ((show Tryz.prog.funcNamed Rows.fareLessRow.func = some 3 by kernel_rfl).symm.trans hf) |>.symm
  obtain rfl : fn = Tryz.f3 := (Option.some.inj (Tryz.func3.symm.trans hfn)).symm
  refine ⟨by kernel_rfl, fun j t ht => ?_⟩
  have ht := Array.mem_of_getElem? ht
  rw [Tryz.params3] at ht
  have ht : t = 25 ∨ t = 26 ∨ t = 29 := by simpa using ht
  rcases ht with rfl | rfl | rfl
  · exact (show Tryz.prog.wantsStandIn 25 = false by kernel_rfl)
  · exact (show Tryz.prog.wantsStandIn 26 = false by kernel_rfl)
  · exact (show Tryz.prog.wantsStandIn 29 = false by kernel_rfl)
theorem fareLess_holds : Rows.FareLessCardSaid :=
  Claim7.holds_tied_plain_at .later [] _ _ _ _ fareLess_said (fun _ h => by cases h) (by kernel_rfl) (fun _ h => by cases h) fareLess_row_tie rfl ⟨rfl, rfl⟩ (by kernel_rfl) rfl fareLess_plainArgs (by kernel_rfl)

end Go.Proofs.YtiajmiigkjmakaaGreatDoor
