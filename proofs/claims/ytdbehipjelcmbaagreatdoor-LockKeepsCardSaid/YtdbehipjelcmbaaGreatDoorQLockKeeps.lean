import Derived.Test.YtdbehipjelcmbaaGreatDoorF7
import Derived.Test.YtdbehipjelcmbaaGreatDoorF6
import Derived.Test.YtdbehipjelcmbaaGreatDoorCards
import Derived.Test.YtdbehipjelcmbaaGreatDoorTie
import Derived.Test.YtdbehipjelcmbaaGreatDoorP3
import Derived.WalkKit
import Derived.ProofKit
import Derived.OpenShut
import Derived.Deep.DeepHandedRow
import Derived.Lib.LaidTab
set_option linter.unusedVariables false
set_option linter.unusedSimpArgs false
set_option linter.unusedSectionVars false
namespace Go.Proofs.YtdbehipjelcmbaaGreatDoor
open Go.RowKit Go.Fp
open Go.ChangeShapes Go.WideShapes Go.ChangeAt Go.Deep
theorem j5w (b : Base) (R : Hp) (s1 : ApiNet) (l20 : (List Fishkeep1Call)) (A2 : Option Addr) (c3 : Nat) (A5 : Option Addr) (c6 : Nat) (A8 : Option Addr) (c9 : Nat) (A11 : Option Addr) (c12 : Nat) (A14 : Option Addr) (c15 : Nat) (A17 : Option Addr) (c18 : Nat) (h4 : FZ RT.str b.w A2 c3 s1.Stations) (h7 : FZ rApiSection b.w A5 c6 s1.Sections) (h10 : FZ rApiLink b.w A8 c9 s1.Links) (h13 : FZ rApiSignal b.w A11 c12 s1.Signals) (h16 : FZ rApiGate b.w A14 c15 s1.Gates) (h19 : FZ rFishkeep1Call b.w A17 c18 l20) (x423 : Bool) (hm : mFishkeep1LockKeeps s1 l20 = some x423 ∨ Inv.mFishkeep1LockKeeps s1 l20 = some x423) :
 CallsG Tryz.prog 3 [.agg #[.slice A2 (s1.Stations).length c3, .slice A5 (s1.Sections).length c6, .slice A8 (s1.Links).length c9, .slice A11 (s1.Signals).length c12, .slice A14 (s1.Gates).length c15], .slice A17 (l20).length c18] b (R) (fun v b' hp' => .bool (x423) = v ∧ R = hp') :=
  hm.elim (fun h => cFishkeep1LockKeeps b R s1 l20 A2 c3 A5 c6 A8 c9 A11 c12 A14 c15 A17 c18 h4 h7 h10 h13 h16 h19 x423 h) (fun h => Inv.cFishkeep1LockKeeps b R s1 l20 A2 c3 A5 c6 A8 c9 A11 c12 A14 c15 A17 c18 h4 h7 h10 h13 h16 h19 x423 h)
set_option maxRecDepth 100000 in
theorem z0I (H : Type) (enc : TypeId × Value → H) (W : World) (base : Nat) (args : Array Value) (ds gs : List (DataW H)) (before : List MemPlace)
    (hval : ∀ (j : Nat) t v, Tryz.f3.params[j]? = some t → args[j]? = some v → Value.okWide Tryz.prog W .any base t v)
    (hW : DataW.Whole enc Tryz.prog Tryz.f3.params.toList Rows.lockKeepsSpec.vars false W args.toList ds gs before)
    (hz : (DataW.weightsEach Tryz.prog (Tryz.f3.params.toList ++ (OpenSpec.ofChange Rows.lockKeepsSpec).bare.plain.varTypes Tryz.prog) (ds ++ gs)).all (· ≤ reachBytes) = true) :
    Calls Tryz.prog 3 args W fun e W' => ∃ v, e = .returned v ∧ Rows.lockKeepsSpec.post enc Tryz.prog Tryz.f3 false true false false W args v W' := by
  have hW' := hW
  obtain ⟨p, q, hA0, hV, rfl, hfz, hnd⟩ := hW
  have hA : DataW.TrodAll enc Tryz.prog W 0 (fun _ => true) true Tryz.f3.params.toList args.toList ds p := hA0
  rw [Tryz.params3] at hA hval hz
  obtain ⟨v0, w0, d0, e0, p0, q0, ha, rfl, rfl, h0, hA⟩ := trodAll_cons hA
  obtain ⟨v1, w1, d1, e1, p1, q1, rfl, rfl, rfl, h1, hA⟩ := trodAll_cons hA
  obtain ⟨rfl, rfl, rfl⟩ := trodAll_nil hA
  have hargs : args = #[v0, v1] := Array.ext' ha
  subst hargs
  obtain ⟨rfl, rfl⟩ := trodVars_none hV
  obtain ⟨b0, rfl, _⟩ := okWide_struct Tryz.underlying28 (hval 0 28 v0 rfl rfl)
  obtain ⟨fu0, g0⟩ := h0
  obtain ⟨y0, z0, k0⟩ := j6d _ _ _ _ _ _ _ _ _ g0
  have z0 : rApiNet.rep W b0.toList y0 := z0
  generalize hb0 : b0.toList = bl0 at z0
  obtain ⟨_, _, rfl, ⟨A1001, c1002, rfl, h1003⟩, ⟨_, _, rfl, ⟨A1004, c1005, rfl, h1006⟩, ⟨_, _, rfl, ⟨A1007, c1008, rfl, h1009⟩, ⟨_, _, rfl, ⟨A1010, c1011, rfl, h1012⟩, ⟨A1013, c1014, rfl, h1015⟩⟩⟩⟩⟩ := z0
  have hb0 : b0 = #[.slice A1001 (y0.Stations).length c1002, .slice A1004 (y0.Sections).length c1005, .slice A1007 (y0.Links).length c1008, .slice A1010 (y0.Signals).length c1011, .slice A1013 (y0.Gates).length c1014] := Array.ext' hb0
  subst hb0
  obtain ⟨a1, m1, c1, rfl⟩ := okWide_slice Tryz.underlying29 (hval 1 29 v1 rfl rfl)
  obtain ⟨fu1, g1⟩ := h1
  obtain ⟨l1, ⟨A1, C1, z1, F1⟩, k1⟩ := j6c _ _ _ _ _ _ _ _ _ g1
  have z1 : [Value.slice a1 m1 c1] = [Value.slice A1 l1.length C1] := z1
  injection z1 with z1 _
  injection z1 with z1 zm1 zc1
  subst z1
  subst zm1
  subst zc1
  have sz1 := z5W (e := 39) (j := 1) Tryz.underlying29 g1 hz rfl rfl
  rw [show Tryz.prog.bytesOf 39 = 32 by kernel_rfl] at sz1
  refine (j5w (W : Base) [] y0 l1 A1001 c1002 A1004 c1005 A1007 c1008 A1010 c1011 A1013 c1014 a1 c1 h1003 h1006 h1009 h1012 h1015 F1 true (z6r y0 l1 k0 k1 sz1) W (z7i W)).mono fun e W' ⟨v, b', hp', he, hle, ho, hv, hh⟩ => ?_
  subst he
  subst hv
  subst hh
  exact ⟨_, rfl, z7f j5j (by kernel_rfl) rfl (by kernel_rfl) Tryz.underlying4 hW' rfl (z8E hle ho)⟩
theorem z0K (os : Os) : laidMet Tryz.prog Rows.lockKeepsRow.laid ((q9K os).forCall (fun _ _ => 0) ⟨#[], #[.agg #[.slice none 0 0, .slice none 0 0, .slice none 0 0, .slice none 0 0, .slice none 0 0], .slice none 0 0], []⟩).memory :=
  laidMet_of_run' 8 (by kernel_rfl) (by kernel_rfl)
theorem q9I (os : Os) {H : Type} (enc : TypeId × Value → H) : ∃ places, DataW.whole enc Tryz.prog ((q9K os).forCall (fun _ _ => 0) ⟨#[], #[.agg #[.slice none 0 0, .slice none 0 0, .slice none 0 0, .slice none 0 0, .slice none 0 0], .slice none 0 0], []⟩).memory Tryz.f3.params.toList Rows.lockKeepsSpec.vars false (#[.agg #[.slice none 0 0, .slice none 0 0, .slice none 0 0, .slice none 0 0, .slice none 0 0], .slice none 0 0] : Array Value).toList 8 = some ([.agg [.nil, .nil, .nil, .nil, .nil], .nil], [], places) :=
  ⟨[], by kernel_rfl⟩
set_option maxRecDepth 100000 in
theorem q8I (os : Os) (started : os.Started) (H : Type) (enc : TypeId × Value → H) (F : Stop.Interp) :
    ReturnsInHanded {} Tryz.checked os 3 .any ((OpenSpec.ofChange Rows.lockKeepsSpec).preRow enc Tryz.prog Tryz.f3 Rows.lockKeepsRow.domain false Rows.lockKeepsRow.laid) (((OpenSpec.ofChange Rows.lockKeepsSpec).at F).post enc Tryz.prog Tryz.f3 false true false false) := by
  obtain ⟨places, hx⟩ := q9I os enc
  refine returnsInHanded_of_row (C := Tryz.checked) (s := OpenSpec.ofChange Rows.lockKeepsSpec) j5Z started (by kernel_rfl) Tryz.func3
    (witness_row_at (enc := enc) (C := Tryz.checked) false (q9K os) #[.agg #[.slice none 0 0, .slice none 0 0, .slice none 0 0, .slice none 0 0, .slice none 0 0], .slice none 0 0] rfl (by kernel_rfl) (by kernel_rfl) (by kernel_rfl)
      (OpenSpec.preRow_of_cond 8 hx (by kernel_rfl) (fun k hk => by cases hk) (by kernel_rfl) (z0K os))) ?_
  intro W base args ds gs before hval hW _ _ hz hL _ _
  exact z0I H enc W base args ds gs before hval hW hz
theorem z0J : Rows.LockKeepsSaid :=
  OpenClaim.holds_of_cond 3 Tryz.f3 rfl rfl rfl rfl rfl rfl rfl ⟨rfl, rfl, rfl, rfl, rfl⟩ rfl rfl rfl rfl rfl (by kernel_rfl) Tryz.func3 (by kernel_rfl)
    (of_decide_eq_true (by kernel_rfl)) (by unfold Func.isWrapper; first | (rw [if_pos (by decide +kernel)]; kernel_rfl) | (rw [if_neg (by decide +kernel)]; exact ⟨rfl, rfl⟩))
    (fun os started H enc _ F => by rw [OpenClaim.pre_eq_preRow]; exact q8I os started H enc F)
theorem q6J (f : FuncId) (fn : Func) (hf : Tryz.pinned.checked.prog.funcNamed Rows.lockKeepsRow.func = some f) (hfn : Tryz.pinned.checked.prog.funcs[f]? = some fn) :
    true = Tryz.pinned.checked.prog.looks [] ∧ ∀ (j : Nat) t, fn.params[j]? = some t → Tryz.pinned.checked.prog.wantsStandIn t = false := by
  obtain rfl : f = 3 := Option.some.inj ((show Tryz.prog.funcNamed Rows.lockKeepsRow.func = some 3 by kernel_rfl).symm.trans hf) |>.symm
  obtain rfl : fn = Tryz.f3 := (Option.some.inj (Tryz.func3.symm.trans hfn)).symm
  refine ⟨by kernel_rfl, fun j t ht => ?_⟩
  have ht := Array.mem_of_getElem? ht
  rw [Tryz.params3] at ht
  have ht : t = 28 ∨ t = 29 := by simpa using ht
  rcases ht with rfl | rfl
  · exact (show Tryz.prog.wantsStandIn 28 = false by kernel_rfl)
  · exact (show Tryz.prog.wantsStandIn 29 = false by kernel_rfl)
theorem lockKeeps_holds : Rows.LockKeepsCardSaid :=
  Claim7.holds_tied_plain_at .later [] _ _ _ _ z0J (fun _ h => by cases h) (by kernel_rfl) (fun _ h => by cases h) lockKeeps_row_tie rfl ⟨rfl, rfl⟩ (by kernel_rfl) rfl q6J (by kernel_rfl)
end Go.Proofs.YtdbehipjelcmbaaGreatDoor
