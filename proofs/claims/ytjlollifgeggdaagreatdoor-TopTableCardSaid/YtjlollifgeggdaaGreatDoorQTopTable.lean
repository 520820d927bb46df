import Derived.Test.YtjlollifgeggdaaGreatDoorQZP4
import Derived.Test.YtjlollifgeggdaaGreatDoorF6
import Derived.Test.YtjlollifgeggdaaGreatDoorCards
import Derived.Test.YtjlollifgeggdaaGreatDoorTie
import Derived.Test.YtjlollifgeggdaaGreatDoorP3
import Derived.WalkKit
import Derived.ProofKit
import Derived.OpenShut
import Derived.Deep.DeepHandedRow
import Derived.Lib.LaidTab
set_option linter.unusedVariables false
set_option linter.unusedSimpArgs false
set_option linter.unusedSectionVars false
namespace Go.Proofs.YtjlollifgeggdaaGreatDoor
open Go.RowKit Go.Fp
open Go.ChangeShapes Go.WideShapes Go.ChangeAt Go.Deep
set_option maxRecDepth 100000 in
theorem z0e (H : Type) (enc : TypeId × Value → H) (W : World) (base : Nat) (args : Array Value) (ds gs : List (DataW H)) (before : List MemPlace)
  (hval : ∀ (j : Nat) t v, Tryz.f3.params[j]? = some t → args[j]? = some v → Value.okWide Tryz.prog W .any base t v)
  (hW : DataW.Whole enc Tryz.prog Tryz.f3.params.toList Rows.topTableSpec.vars false W args.toList ds gs before)
  (hz : (DataW.weightsEach Tryz.prog (Tryz.f3.params.toList ++ (OpenSpec.ofChange Rows.topTableSpec).bare.plain.varTypes Tryz.prog) (ds ++ gs)).all (· ≤ reachBytes) = true) :
  Calls Tryz.prog 3 args W fun e W' => ∃ v, e = .returned v ∧ Rows.topTableSpec.post enc Tryz.prog Tryz.f3 false true false false W args v W' := by
 have hW' := hW
 obtain ⟨p, q, hA0, hV, rfl, hfz, hnd⟩ := hW
 have hA : DataW.TrodAll enc Tryz.prog W 0 (fun _ => true) true Tryz.f3.params.toList args.toList ds p := hA0
 rw [Tryz.params3] at hA hval hz
 obtain ⟨v0, w0, d0, e0, p0, q0, ha, rfl, rfl, h0, hA⟩ := trodAll_cons hA
 obtain ⟨v1, w1, d1, e1, p1, q1, rfl, rfl, rfl, h1, hA⟩ := trodAll_cons hA
 obtain ⟨v2, w2, d2, e2, p2, q2, rfl, rfl, rfl, h2, hA⟩ := trodAll_cons hA
 obtain ⟨rfl, rfl, rfl⟩ := trodAll_nil hA
 have hargs : args = #[v0, v1, v2] := Array.ext' ha
 subst hargs
 obtain ⟨rfl, rfl⟩ := trodVars_none hV
 obtain ⟨b0, rfl, _⟩ := okWide_struct Tryz.underlying28 (hval 0 28 v0 rfl rfl)
 obtain ⟨fu0, g0⟩ := h0
 obtain ⟨y0, z0, k0⟩ := j3Y _ _ _ _ _ _ _ _ _ g0
 have z0 : z2t.rep W b0.toList y0 := z0
 generalize hb0 : b0.toList = bl0 at z0
 obtain ⟨_, _, rfl, ⟨A1001, c1002, rfl, h1003⟩, ⟨_, _, rfl, ⟨A1004, c1005, rfl, h1006⟩, ⟨_, _, rfl, ⟨A1007, c1008, rfl, h1009⟩, ⟨_, _, rfl, ⟨A1010, c1011, rfl, h1012⟩, ⟨A1013, c1014, rfl, h1015⟩⟩⟩⟩⟩ := z0
 have hb0 : b0 = #[.slice A1001 (y0.Stations).length c1002, .slice A1004 (y0.Sections).length c1005, .slice A1007 (y0.Links).length c1008, .slice A1010 (y0.Signals).length c1011, .slice A1013 (y0.Gates).length c1014] := Array.ext' hb0
 subst hb0
 obtain ⟨x1, rfl⟩ := okWide_int Tryz.underlying3 (hval 1 3 v1 rfl rfl)
 obtain ⟨fu1, g1⟩ := h1
 obtain ⟨y1, z1, k1⟩ := op3 _ _ _ _ _ _ _ _ _ g1
 have z1 : [Value.int .i64 x1] = [Value.int .i64 y1] := z1
 injection z1 with z1 _
 injection z1 with _ z1
 subst z1
 obtain ⟨x2, rfl⟩ := okWide_int Tryz.underlying3 (hval 2 3 v2 rfl rfl)
 obtain ⟨fu2, g2⟩ := h2
 obtain ⟨y2, z2, k2⟩ := op3 _ _ _ _ _ _ _ _ _ g2
 have z2 : [Value.int .i64 x2] = [Value.int .i64 y2] := z2
 injection z2 with z2 _
 injection z2 with _ z2
 subst z2
 refine (q7y (W : v7) [] y0 x1 x2 A1001 c1002 A1004 c1005 A1007 c1008 A1010 c1011 A1013 c1014 h1003 h1006 h1009 h1012 h1015 true (z4u y0 x1 x2 k0 k1 k2) W (z5E W)).mono fun e W' ⟨v, b', hp', he, hle, ho, hv, hh⟩ => ?_
 subst he
 subst hv
 subst hh
 exact ⟨_, rfl, z5D j3q (by kernel_rfl) rfl (by kernel_rfl) Tryz.underlying4 hW' rfl (z6U hle ho)⟩
theorem z0g (os : Os) : laidMet Tryz.prog Rows.topTableRow.laid ((q8r os).forCall (fun _ _ => 0) ⟨#[], #[.agg #[.slice none 0 0, .slice none 0 0, .slice none 0 0, .slice none 0 0, .slice none 0 0], .int .i64 0, .int .i64 0], []⟩).memory :=
 laidMet_of_run' 8 (by kernel_rfl) (by kernel_rfl)
theorem q8W (os : Os) {H : Type} (enc : TypeId × Value → H) : ∃ places, DataW.whole enc Tryz.prog ((q8r os).forCall (fun _ _ => 0) ⟨#[], #[.agg #[.slice none 0 0, .slice none 0 0, .slice none 0 0, .slice none 0 0, .slice none 0 0], .int .i64 0, .int .i64 0], []⟩).memory Tryz.f3.params.toList Rows.topTableSpec.vars false (#[.agg #[.slice none 0 0, .slice none 0 0, .slice none 0 0, .slice none 0 0, .slice none 0 0], .int .i64 0, .int .i64 0] : Array Value).toList 8 = some ([.agg [.nil, .nil, .nil, .nil, .nil], .lit (.int .i64 0), .lit (.int .i64 0)], [], places) :=
 ⟨[], by kernel_rfl⟩
set_option maxRecDepth 100000 in
theorem q8a (os : Os) (started : os.Started) (H : Type) (enc : TypeId × Value → H) (F : Stop.Interp) :
  ReturnsInHanded {} Tryz.checked os 3 .any ((OpenSpec.ofChange Rows.topTableSpec).preRow enc Tryz.prog Tryz.f3 Rows.topTableRow.domain false Rows.topTableRow.laid) (((OpenSpec.ofChange Rows.topTableSpec).at F).post enc Tryz.prog Tryz.f3 false true false false) := by
 obtain ⟨places, hx⟩ := q8W os enc
 refine returnsInHanded_of_row (C := Tryz.checked) (s := OpenSpec.ofChange Rows.topTableSpec) j3X started (by kernel_rfl) Tryz.func3
  (witness_row_at (enc := enc) (C := Tryz.checked) false (q8r os) #[.agg #[.slice none 0 0, .slice none 0 0, .slice none 0 0, .slice none 0 0, .slice none 0 0], .int .i64 0, .int .i64 0] rfl (by kernel_rfl) (by kernel_rfl) (by kernel_rfl)
   (OpenSpec.preRow_of_cond 8 hx (by kernel_rfl) (fun k hk => by cases hk) (by kernel_rfl) (z0g os))) ?_
 intro W base args ds gs before hval hW _ _ hz hL _ _
 exact z0e H enc W base args ds gs before hval hW hz
theorem z0f : Rows.TopTableSaid :=
 OpenClaim.holds_of_cond 3 Tryz.f3 rfl rfl rfl rfl rfl rfl rfl ⟨rfl, rfl, rfl, rfl, rfl⟩ rfl rfl rfl rfl rfl (by kernel_rfl) Tryz.func3 (by kernel_rfl)
  (of_decide_eq_true (by kernel_rfl)) (by unfold Func.isWrapper; first | (rw [if_pos (by decide +kernel)]; kernel_rfl) | (rw [if_neg (by decide +kernel)]; exact ⟨rfl, rfl⟩))
  (fun os started H enc _ F => by rw [OpenClaim.pre_eq_preRow]; exact q8a os started H enc F)
theorem q5K (f : FuncId) (fn : Func) (hf : Tryz.pinned.checked.prog.funcNamed Rows.topTableRow.func = some f) (hfn : Tryz.pinned.checked.prog.funcs[f]? = some fn) :
  true = Tryz.pinned.checked.prog.looks [] ∧ ∀ (j : Nat) t, fn.params[j]? = some t → Tryz.pinned.checked.prog.wantsStandIn t = false := by
 obtain rfl : f = 3 := Kd ((show Tryz.prog.funcNamed Rows.topTableRow.func = some 3 by kernel_rfl).symm.trans hf) |>.symm
 obtain rfl : fn = Tryz.f3 := (Kd (Tryz.func3.symm.trans hfn)).symm
 refine ⟨by kernel_rfl, fun j t ht => ?_⟩
 have ht := Array.mem_of_getElem? ht
 rw [Tryz.params3] at ht
 have ht : t = 28 ∨ t = 3 := by simpa using ht
 rcases ht with rfl | rfl
 ·exact (show Tryz.prog.wantsStandIn 28 = false by kernel_rfl)
 ·exact (show Tryz.prog.wantsStandIn 3 = false by kernel_rfl)
theorem topTable_holds : Rows.TopTableCardSaid :=
 Claim7.holds_tied_plain_at .later [] _ _ _ _ z0f (fun _ h => by cases h) (by kernel_rfl) (fun _ h => by cases h) topTable_row_tie rfl ⟨rfl, rfl⟩ (by kernel_rfl) rfl q5K (by kernel_rfl)
end Go.Proofs.YtjlollifgeggdaaGreatDoor
