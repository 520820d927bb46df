import Derived.Test.YtjlollifgeggdaaGreatDoorQZP5
import Derived.Test.YtjlollifgeggdaaGreatDoorF6
import Derived.Test.YtjlollifgeggdaaGreatDoorCards
import Derived.Test.YtjlollifgeggdaaGreatDoorTie
import Derived.Test.YtjlollifgeggdaaGreatDoorP3
import Derived.WalkKit
import Derived.ProofKit
import Derived.OpenShut
import Derived.Deep.DeepHandedRow
import Derived.Lib.LaidTab
set_option linter.unusedVariables false
set_option linter.unusedSimpArgs false
set_option linter.unusedSectionVars false
namespace Go.Proofs.YtjlollifgeggdaaGreatDoor
open Go.RowKit Go.Fp
open Go.ChangeShapes Go.WideShapes Go.ChangeAt Go.Deep
set_option maxRecDepth 100000 in
theorem q9C (H : Type) (enc : TypeId × Value → H) (W : World) (base : Nat) (args : Array Value) (ds gs : List (DataW H)) (before : List MemPlace)
  (hval : ∀ (j : Nat) t v, Tryz.f4.params[j]? = some t → args[j]? = some v → Value.okWide Tryz.prog W .any base t v)
  (hW : DataW.Whole enc Tryz.prog Tryz.f4.params.toList Rows.topReleasedSpec.vars false W args.toList ds gs before)
  (hz : (DataW.weightsEach Tryz.prog (Tryz.f4.params.toList ++ (OpenSpec.ofChange Rows.topReleasedSpec).bare.plain.varTypes Tryz.prog) (ds ++ gs)).all (· ≤ reachBytes) = true) :
  Calls Tryz.prog 4 args W fun e W' => ∃ v, e = .returned v ∧ Rows.topReleasedSpec.post enc Tryz.prog Tryz.f4 false true false false W args v W' := by
 have hW' := hW
 obtain ⟨p, q, hA0, hV, rfl, hfz, hnd⟩ := hW
 have hA : DataW.TrodAll enc Tryz.prog W 0 (fun _ => true) true Tryz.f4.params.toList args.toList ds p := hA0
 rw [Tryz.params4] at hA hval hz
 obtain ⟨v0, w0, d0, e0, p0, q0, ha, rfl, rfl, h0, hA⟩ := trodAll_cons hA
 obtain ⟨v1, w1, d1, e1, p1, q1, rfl, rfl, rfl, h1, hA⟩ := trodAll_cons hA
 obtain ⟨v2, w2, d2, e2, p2, q2, rfl, rfl, rfl, h2, hA⟩ := trodAll_cons hA
 obtain ⟨v3, w3, d3, e3, p3, q3, rfl, rfl, rfl, h3, hA⟩ := trodAll_cons hA
 obtain ⟨rfl, rfl, rfl⟩ := trodAll_nil hA
 have hargs : args = #[v0, v1, v2, v3] := Array.ext' ha
 subst hargs
 obtain ⟨rfl, rfl⟩ := trodVars_none hV
 obtain ⟨b0, rfl, _⟩ := okWide_struct Tryz.underlying28 (hval 0 28 v0 rfl rfl)
 obtain ⟨fu0, g0⟩ := h0
 obtain ⟨y0, z0, k0⟩ := j7E _ _ _ _ _ _ _ _ _ g0
 have z0 : z5t.rep W b0.toList y0 := z0
 generalize hb0 : b0.toList = bl0 at z0
 obtain ⟨_, _, rfl, ⟨A1001, c1002, rfl, h1003⟩, ⟨_, _, rfl, ⟨A1004, c1005, rfl, h1006⟩, ⟨_, _, rfl, ⟨A1007, c1008, rfl, h1009⟩, ⟨_, _, rfl, ⟨A1010, c1011, rfl, h1012⟩, ⟨A1013, c1014, rfl, h1015⟩⟩⟩⟩⟩ := z0
 have hb0 : b0 = #[.slice A1001 (y0.Stations).length c1002, .slice A1004 (y0.Sections).length c1005, .slice A1007 (y0.Links).length c1008, .slice A1010 (y0.Signals).length c1011, .slice A1013 (y0.Gates).length c1014] := Array.ext' hb0
 subst hb0
 obtain ⟨x1, rfl⟩ := okWide_int Tryz.underlying3 (hval 1 3 v1 rfl rfl)
 obtain ⟨fu1, g1⟩ := h1
 obtain ⟨y1, z1, k1⟩ := op3 _ _ _ _ _ _ _ _ _ g1
 have z1 : [Value.int .i64 x1] = [Value.int .i64 y1] := z1
 injection z1 with z1 _
 injection z1 with _ z1
 subst z1
 obtain ⟨a2, m2, c2, rfl⟩ := okWide_slice Tryz.underlying45 (hval 2 45 v2 rfl rfl)
 obtain ⟨fu2, g2⟩ := h2
 obtain ⟨l2, ⟨A2, C2, z2, F2⟩, k2⟩ := j7D _ _ _ _ _ _ _ _ _ g2
 have z2 : [Value.slice a2 m2 c2] = [Value.slice A2 l2.length C2] := z2
 injection z2 with z2 _
 injection z2 with z2 zm2 zc2
 subst z2
 subst zm2
 subst zc2
 have sz2 := z7s (e := 3) (j := 2) Tryz.underlying45 g2 hz rfl rfl
 rw [show Tryz.prog.bytesOf 3 = 8 by kernel_rfl] at sz2
 obtain ⟨x3, rfl⟩ := okWide_int Tryz.underlying3 (hval 3 3 v3 rfl rfl)
 obtain ⟨fu3, g3⟩ := h3
 obtain ⟨y3, z3, k3⟩ := op3 _ _ _ _ _ _ _ _ _ g3
 have z3 : [Value.int .i64 x3] = [Value.int .i64 y3] := z3
 injection z3 with z3 _
 injection z3 with _ z3
 subst z3
 refine (q7F (W : k9) [] y0 x1 l2 x3 A1001 c1002 A1004 c1005 A1007 c1008 A1010 c1011 A1013 c1014 a2 c2 h1003 h1006 h1009 h1012 h1015 F2 true (z2Y y0 x1 l2 x3 k0 k1 k2 k3 sz2) W (z8N W)).mono fun e W' ⟨v, b', hp', he, hle, ho, hv, hh⟩ => ?_
 subst he
 subst hv
 subst hh
 exact ⟨_, rfl, z8J j6U (by kernel_rfl) rfl (by kernel_rfl) Tryz.underlying4 hW' rfl (j0n hle ho)⟩
theorem q9E (os : Os) : laidMet Tryz.prog Rows.topReleasedRow.laid ((z0J os).forCall (fun _ _ => 0) ⟨#[], #[.agg #[.slice none 0 0, .slice none 0 0, .slice none 0 0, .slice none 0 0, .slice none 0 0], .int .i64 0, .slice none 0 0, .int .i64 0], []⟩).memory :=
 laidMet_of_run' 8 (by kernel_rfl) (by kernel_rfl)
theorem q8R (os : Os) {H : Type} (enc : TypeId × Value → H) : ∃ places, DataW.whole enc Tryz.prog ((z0J os).forCall (fun _ _ => 0) ⟨#[], #[.agg #[.slice none 0 0, .slice none 0 0, .slice none 0 0, .slice none 0 0, .slice none 0 0], .int .i64 0, .slice none 0 0, .int .i64 0], []⟩).memory Tryz.f4.params.toList Rows.topReleasedSpec.vars false (#[.agg #[.slice none 0 0, .slice none 0 0, .slice none 0 0, .slice none 0 0, .slice none 0 0], .int .i64 0, .slice none 0 0, .int .i64 0] : Array Value).toList 8 = some ([.agg [.nil, .nil, .nil, .nil, .nil], .lit (.int .i64 0), .nil, .lit (.int .i64 0)], [], places) :=
 ⟨[], by kernel_rfl⟩
set_option maxRecDepth 100000 in
theorem q7P (os : Os) (started : os.Started) (H : Type) (enc : TypeId × Value → H) (F : Stop.Interp) :
  ReturnsInHanded {} Tryz.checked os 4 .any ((OpenSpec.ofChange Rows.topReleasedSpec).preRow enc Tryz.prog Tryz.f4 Rows.topReleasedRow.domain false Rows.topReleasedRow.laid) (((OpenSpec.ofChange Rows.topReleasedSpec).at F).post enc Tryz.prog Tryz.f4 false true false false) := by
 obtain ⟨places, hx⟩ := q8R os enc
 refine returnsInHanded_of_row (C := Tryz.checked) (s := OpenSpec.ofChange Rows.topReleasedSpec) j7C started (by kernel_rfl) Tryz.func4
  (witness_row_at (enc := enc) (C := Tryz.checked) false (z0J os) #[.agg #[.slice none 0 0, .slice none 0 0, .slice none 0 0, .slice none 0 0, .slice none 0 0], .int .i64 0, .slice none 0 0, .int .i64 0] rfl (by kernel_rfl) (by kernel_rfl) (by kernel_rfl)
   (OpenSpec.preRow_of_cond 8 hx (by kernel_rfl) (fun k hk => by cases hk) (by kernel_rfl) (q9E os))) ?_
 intro W base args ds gs before hval hW _ _ hz hL _ _
 exact q9C H enc W base args ds gs before hval hW hz
theorem q9D : Rows.TopReleasedSaid :=
 OpenClaim.holds_of_cond 4 Tryz.f4 rfl rfl rfl rfl rfl rfl rfl ⟨rfl, rfl, rfl, rfl, rfl⟩ rfl rfl rfl rfl rfl (by kernel_rfl) Tryz.func4 (by kernel_rfl)
  (of_decide_eq_true (by kernel_rfl)) (by unfold Func.isWrapper; first | (rw [if_pos (by decide +kernel)]; kernel_rfl) | (rw [if_neg (by decide +kernel)]; exact ⟨rfl, rfl⟩))
  (fun os started H enc _ F => by rw [OpenClaim.pre_eq_preRow]; exact q7P os started H enc F)
theorem q6k (f : FuncId) (fn : Func) (hf : Tryz.pinned.checked.prog.funcNamed Rows.topReleasedRow.func = some f) (hfn : Tryz.pinned.checked.prog.funcs[f]? = some fn) :
  true = Tryz.pinned.checked.prog.looks [] ∧ ∀ (j : Nat) t, fn.params[j]? = some t → Tryz.pinned.checked.prog.wantsStandIn t = false := by
 obtain rfl : f = 4 := Kd ((show Tryz.prog.funcNamed Rows.topReleasedRow.func = some 4 by kernel_rfl).symm.trans hf) |>.symm
 obtain rfl : fn = Tryz.f4 := (Kd (Tryz.func4.symm.trans hfn)).symm
 refine ⟨by kernel_rfl, fun j t ht => ?_⟩
 have ht := Array.mem_of_getElem? ht
 rw [Tryz.params4] at ht
 have ht : t = 28 ∨ t = 3 ∨ t = 45 := by
  simp at ht
  rcases ht with h | h | h | h <;> (subst h; simp)
 rcases ht with rfl | rfl | rfl
 ·exact (show Tryz.prog.wantsStandIn 28 = false by kernel_rfl)
 ·exact (show Tryz.prog.wantsStandIn 3 = false by kernel_rfl)
 ·exact (show Tryz.prog.wantsStandIn 45 = false by kernel_rfl)
theorem topReleased_holds : Rows.TopReleasedCardSaid :=
 Claim7.holds_tied_plain_at .later [] _ _ _ _ q9D (fun _ h => by cases h) (by kernel_rfl) (fun _ h => by cases h) topReleased_row_tie rfl ⟨rfl, rfl⟩ (by kernel_rfl) rfl q6k (by kernel_rfl)
end Go.Proofs.YtjlollifgeggdaaGreatDoor
