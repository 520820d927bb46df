/- PROVED: FareOnce answers true at every input, and its arguments read behind the call as they read before; the listed package variables are tied to the text. No other condition. -/
import Derived.Test.YthcgoaejnpelbaaGreatDoorVP1
import Derived.Test.YthcgoaejnpelbaaGreatDoorOR1
import Derived.Test.YthcgoaejnpelbaaGreatDoorR2
import Derived.Test.YthcgoaejnpelbaaGreatDoorCards
import Derived.Test.YthcgoaejnpelbaaGreatDoorTie
import Derived.Test.YthcgoaejnpelbaaGreatDoorOL
import Derived.WalkKit
import Derived.ProofKit
import Derived.OpenShut
import Derived.Deep.DeepHandedRow
import Derived.Lib.LaidTab
set_option linter.unusedVariables false
set_option linter.unusedSimpArgs false
namespace Go.Proofs.YthcgoaejnpelbaaGreatDoor
open Go.RowKit Go.Fp
open Go.ChangeShapes Go.WideShapes Go.ChangeAt Go.Deep

theorem cOnce (b : Base) (R : Hp) (x1 : Int) (x2 : Int) (x3 : Int) (l7 : (List Int)) (A4 : Option Addr) (c5 : Nat) (h6 : FZ (RT.int .i64) b.w A4 c5 l7) (x2383 : Bool) (hm : mFishkeep2FareOnce x1 x2 x3 l7 = some x2383 ∨ Inv.mFishkeep2FareOnce x1 x2 x3 l7 = some x2383) :
    CallsG Tryz.prog 3 [.int .i64 (x1), .int .i64 (x2), .int .i64 (x3), .slice A4 (l7).length c5] b (R) (fun v b' hp' => .bool (x2383) = v ∧ R = hp') :=
  hm.elim (fun h => cFishkeep2FareOnce b R x1 x2 x3 l7 A4 c5 h6 x2383 h) (fun h => Inv.cFishkeep2FareOnce b R x1 x2 x3 l7 A4 c5 h6 x2383 h)
set_option maxRecDepth 100000 in
theorem fareOnce_walk (H : Type) (enc : TypeId × Value → H) (W : World) (base : Nat) (args : Array Value) (ds gs : List (DataW H)) (before : List MemPlace)
    (hval : ∀ (j : Nat) t v, Tryz.f3.params[j]? = some t → args[j]? = some v → Value.okWide Tryz.prog W .any base t v)
    (hW : DataW.Whole enc Tryz.prog Tryz.f3.params.toList Rows.fareOnceSpec.vars false W args.toList ds gs before)
    (hz : (DataW.weightsEach Tryz.prog (Tryz.f3.params.toList ++ (OpenSpec.ofChange Rows.fareOnceSpec).bare.plain.varTypes Tryz.prog) (ds ++ gs)).all (· ≤ reachBytes) = true) :
    Calls Tryz.prog 3 args W fun e W' => ∃ v, e = .returned v ∧ Rows.fareOnceSpec.post enc Tryz.prog Tryz.f3 false true false false W args v W' := by
  have hW' := hW
  obtain ⟨p, q, hA0, hV, rfl, hfz, hnd⟩ := hW
  have hA : DataW.TrodAll enc Tryz.prog W 0 (fun _ => true) true Tryz.f3.params.toList args.toList ds p := hA0
  rw [Tryz.params3] at hA hval hz
  obtain ⟨v0, w0, d0, e0, p0, q0, ha, rfl, rfl, h0, hA⟩ := trodAll_cons hA
  obtain ⟨v1, w1, d1, e1, p1, q1, rfl, rfl, rfl, h1, hA⟩ := trodAll_cons hA
  obtain ⟨v2, w2, d2, e2, p2, q2, rfl, rfl, rfl, h2, hA⟩ := trodAll_cons hA
  obtain ⟨v3, w3, d3, e3, p3, q3, rfl, rfl, rfl, h3, hA⟩ := trodAll_cons hA
  obtain ⟨rfl, rfl, rfl⟩ := trodAll_nil hA
  have hargs : args = #[v0, v1, v2, v3] := Array.ext' ha
  subst hargs
  obtain ⟨rfl, rfl⟩ := trodVars_none hV
  obtain ⟨x0, rfl⟩ := okWide_int Tryz.underlying3 (hval 0 3 v0 rfl rfl)
  obtain ⟨fu0, g0⟩ := h0
  obtain ⟨y0, z0, k0⟩ := op3 _ _ _ _ _ _ _ _ _ g0
  have z0 : [Value.int .i64 x0] = [Value.int .i64 y0] := z0
  injection z0 with z0 _
  injection z0 with _ z0
  subst z0
  obtain ⟨x1, rfl⟩ := okWide_int Tryz.underlying3 (hval 1 3 v1 rfl rfl)
  obtain ⟨fu1, g1⟩ := h1
  obtain ⟨y1, z1, k1⟩ := op3 _ _ _ _ _ _ _ _ _ g1
  have z1 : [Value.int .i64 x1] = [Value.int .i64 y1] := z1
  injection z1 with z1 _
  injection z1 with _ z1
  subst z1
  obtain ⟨x2, rfl⟩ := okWide_int Tryz.underlying3 (hval 2 3 v2 rfl rfl)
  obtain ⟨fu2, g2⟩ := h2
  obtain ⟨y2, z2, k2⟩ := op3 _ _ _ _ _ _ _ _ _ g2
  have z2 : [Value.int .i64 x2] = [Value.int .i64 y2] := z2
  injection z2 with z2 _
  injection z2 with _ z2
  subst z2
  obtain ⟨a3, m3, c3, rfl⟩ := okWide_slice Tryz.underlying22 (hval 3 22 v3 rfl rfl)
  obtain ⟨fu3, g3⟩ := h3
  obtain ⟨l3, ⟨A3, C3, z3, F3⟩, k3⟩ := op22 _ _ _ _ _ _ _ _ _ g3
  have z3 : [Value.slice a3 m3 c3] = [Value.slice A3 l3.length C3] := z3
  injection z3 with z3 _
  injection z3 with z3 zm3 zc3
  subst z3
  subst zm3
  subst zc3
  have sz3 := sized_open (e := 3) (j := 3) Tryz.underlying22 g3 hz rfl rfl
  rw [show Tryz.prog.bytesOf 3 = 8 by kernel_rfl] at sz3
  refine (cOnce (W : Base) [] x0 x1 x2 l3 a3 c3 F3 true (oncePlain x0 x1 x2 l3 k0 k1 k2 k3 sz3) W (own_start W)).mono fun e W' ⟨v, b', hp', he, hle, ho, hv, hh⟩ => ?_
  subst he
  subst hv
  subst hh
  exact ⟨_, rfl, post_true laidK (by kernel_rfl) rfl (by kernel_rfl) Tryz.underlying4 hW' rfl (below_end hle ho)⟩
theorem fareOnce_laid (os : Os) : laidMet Tryz.prog Rows.fareOnceRow.laid ((laidWorld os).forCall (fun _ _ => 0) ⟨#[], #[.int .i64 0, .int .i64 0, .int .i64 0, .slice none 0 0], []⟩).memory :=
  laidMet_of_run' 8 (by kernel_rfl) (by kernel_rfl)
theorem fareOnce_reads (os : Os) {H : Type} (enc : TypeId × Value → H) : ∃ places, DataW.whole enc Tryz.prog ((laidWorld os).forCall (fun _ _ => 0) ⟨#[], #[.int .i64 0, .int .i64 0, .int .i64 0, .slice none 0 0], []⟩).memory Tryz.f3.params.toList Rows.fareOnceSpec.vars false (#[.int .i64 0, .int .i64 0, .int .i64 0, .slice none 0 0] : Array Value).toList 8 = some ([.lit (.int .i64 0), .lit (.int .i64 0), .lit (.int .i64 0), .nil], [], places) :=
  ⟨[], by kernel_rfl⟩
set_option maxRecDepth 100000 in
theorem fareOnce_lifted (os : Os) (started : os.Started) (H : Type) (enc : TypeId × Value → H) (F : Stop.Interp) :
    ReturnsInHanded {} Tryz.checked os 3 .any ((OpenSpec.ofChange Rows.fareOnceSpec).preRow enc Tryz.prog Tryz.f3 Rows.fareOnceRow.domain false Rows.fareOnceRow.laid) (((OpenSpec.ofChange Rows.fareOnceSpec).at F).post enc Tryz.prog Tryz.f3 false true false false) := by
  obtain ⟨places, hx⟩ := fareOnce_reads os enc
  refine returnsInHanded_of_row (C := Tryz.checked) (s := OpenSpec.ofChange Rows.fareOnceSpec) ownK started (by kernel_rfl) Tryz.func3
    (witness_row_at (enc := enc) (C := Tryz.checked) false (laidWorld os) #[.int .i64 0, .int .i64 0, .int .i64 0, .slice none 0 0] rfl (by kernel_rfl) (by kernel_rfl) (by kernel_rfl)
      (OpenSpec.preRow_of_cond 8 hx (by kernel_rfl) (fun k hk => by cases hk) (by kernel_rfl) (fareOnce_laid os))) ?_
  intro W base args ds gs before hval hW _ _ hz hL _ _
  exact fareOnce_walk H enc W base args ds gs before hval hW hz
theorem fareOnce_said : Rows.FareOnceSaid :=
  OpenClaim.holds_of_cond 3 Tryz.f3 rfl rfl rfl rfl rfl rfl rfl ⟨rfl, rfl, rfl, rfl, rfl⟩ rfl rfl rfl rfl rfl (by kernel_rfl) Tryz.func3 (by kernel_rfl)
    (of_decide_eq_true (by kernel_rfl)) (by unfold Func.isWrapper; first | (rw [if_pos (by decide +kernel)]; kernel_rfl) | (rw [if_neg (by decide +kernel)]; exact ⟨rfl, rfl⟩))
    (fun os started H enc _ F => by rw [OpenClaim.pre_eq_preRow]; exact fareOnce_lifted os started H enc F)
theorem fareOnce_plainArgs (f : FuncId) (fn : Func) (hf : Tryz.pinned.checked.prog.funcNamed Rows.fareOnceRow.func = some f) (hfn : Tryz.pinned.checked.prog.funcs[f]? = some fn) :
    true = Tryz.pinned.checked.prog.looks [] ∧ ∀ (j : Nat) t, fn.params[j]? = some t → Tryz.pinned.checked.prog.wantsStandIn t = false := by
  obtain rfl : f = 3 := Option.some.inj ((show Tryz.prog.funcNamed Rows.fareOnceRow.func = some 3 by kernel_rfl).symm.trans hf) |>.symm
  obtain rfl : fn = Tryz.f3 := (Option.some.inj (Tryz.func3.symm.trans hfn)).symm
  refine ⟨by kernel_rfl, fun j t ht => ?_⟩
  have ht := Array.mem_of_getElem? ht
  rw [Tryz.params3] at ht
  have ht : t = 3 ∨ t = 22 := by simpa using ht
  rcases ht with rfl | rfl
  · exact (show Tryz.prog.wantsStandIn 3 = false by kernel_rfl)
  · exact (show Tryz.prog.wantsStandIn 22 = false by kernel_rfl)
theorem fareOnce_holds : Rows.FareOnceCardSaid :=
  Claim7.holds_tied_plain_at .later [] _ _ _ _ fareOnce_said (fun _ h => by cases h) (by kernel_rfl) (fun _ h => by cases h) fareOnce_row_tie rfl ⟨rfl, rfl⟩ (by kernel_rfl) rfl fareOnce_plainArgs (by kernel_rfl)

end Go.Proofs.YthcgoaejnpelbaaGreatDoor
