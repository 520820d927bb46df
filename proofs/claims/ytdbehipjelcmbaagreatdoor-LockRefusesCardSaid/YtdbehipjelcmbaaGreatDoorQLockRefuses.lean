import Derived.Test.YtdbehipjelcmbaaGreatDoorF7
import Derived.Test.YtdbehipjelcmbaaGreatDoorF6
import Derived.Test.YtdbehipjelcmbaaGreatDoorCards
import Derived.Test.YtdbehipjelcmbaaGreatDoorTie
import Derived.Test.YtdbehipjelcmbaaGreatDoorP3
import Derived.WalkKit
import Derived.ProofKit
import Derived.OpenShut
import Derived.Deep.DeepHandedRow
import Derived.Lib.LaidTab
set_option linter.unusedVariables false
set_option linter.unusedSimpArgs false
set_option linter.unusedSectionVars false
namespace Go.Proofs.YtdbehipjelcmbaaGreatDoor
open Go.RowKit Go.Fp
open Go.ChangeShapes Go.WideShapes Go.ChangeAt Go.Deep
theorem j7k (b : k8) (R : Hp) (s1 : v6) (l20 : (List J1)) (A2 : Option Addr) (c3 : Nat) (A5 : Option Addr) (c6 : Nat) (A8 : Option Addr) (c9 : Nat) (A11 : Option Addr) (c12 : Nat) (A14 : Option Addr) (c15 : Nat) (A17 : Option Addr) (c18 : Nat) (h4 : FZ RT.str b.w A2 c3 s1.Stations) (h7 : FZ j3 b.w A5 c6 s1.Sections) (h10 : FZ w6 b.w A8 c9 s1.Links) (h13 : FZ j6 b.w A11 c12 s1.Signals) (h16 : FZ w7 b.w A14 c15 s1.Gates) (h19 : FZ q0U b.w A17 c18 l20) (x595 : Bool) (hm : mFishkeep1LockRefuses s1 l20 = some x595 ∨ Inv.mFishkeep1LockRefuses s1 l20 = some x595) :
 w8 Tryz.prog 4 [.agg #[.slice A2 (s1.Stations).length c3, .slice A5 (s1.Sections).length c6, .slice A8 (s1.Links).length c9, .slice A11 (s1.Signals).length c12, .slice A14 (s1.Gates).length c15], .slice A17 (l20).length c18] b (R) (fun v b' hp' => .bool (x595) = v ∧ R = hp') :=
  hm.elim (fun h => cFishkeep1LockRefuses b R s1 l20 A2 c3 A5 c6 A8 c9 A11 c12 A14 c15 A17 c18 h4 h7 h10 h13 h16 h19 x595 h) (fun h => Inv.cFishkeep1LockRefuses b R s1 l20 A2 c3 A5 c6 A8 c9 A11 c12 A14 c15 A17 c18 h4 h7 h10 h13 h16 h19 x595 h)
set_option maxRecDepth 100000 in
theorem q9O (H : Type) (enc : TypeId × Value → H) (W : World) (base : Nat) (args : Array Value) (ds gs : List (DataW H)) (before : List MemPlace)
    (hval : ∀ (j : Nat) t v, Tryz.f4.params[j]? = some t → args[j]? = some v → Value.okWide Tryz.prog W .any base t v)
    (hW : DataW.Whole enc Tryz.prog Tryz.f4.params.toList Rows.lockRefusesSpec.vars false W args.toList ds gs before)
    (hz : (DataW.weightsEach Tryz.prog (Tryz.f4.params.toList ++ (OpenSpec.ofChange Rows.lockRefusesSpec).bare.plain.varTypes Tryz.prog) (ds ++ gs)).all (· ≤ reachBytes) = true) :
    Calls Tryz.prog 4 args W fun e W' => ∃ v, e = .returned v ∧ Rows.lockRefusesSpec.post enc Tryz.prog Tryz.f4 false true false false W args v W' := by
  have hW' := hW
  obtain ⟨p, q, hA0, hV, rfl, hfz, hnd⟩ := hW
  have hA : DataW.TrodAll enc Tryz.prog W 0 (fun _ => true) true Tryz.f4.params.toList args.toList ds p := hA0
  rw [Tryz.params4] at hA hval hz
  obtain ⟨v0, w0, d0, e0, p0, q0, ha, rfl, rfl, h0, hA⟩ := trodAll_cons hA
  obtain ⟨v1, w1, d1, e1, p1, q1, rfl, rfl, rfl, h1, hA⟩ := trodAll_cons hA
  obtain ⟨rfl, rfl, rfl⟩ := trodAll_nil hA
  have hargs : args = #[v0, v1] := Array.ext' ha
  subst hargs
  obtain ⟨rfl, rfl⟩ := trodVars_none hV
  obtain ⟨b0, rfl, _⟩ := okWide_struct Tryz.underlying28 (hval 0 28 v0 rfl rfl)
  obtain ⟨fu0, g0⟩ := h0
  obtain ⟨y0, z0, k0⟩ := j7I _ _ _ _ _ _ _ _ _ g0
  have z0 : z5m.rep W b0.toList y0 := z0
  generalize hb0 : b0.toList = bl0 at z0
  obtain ⟨_, _, rfl, ⟨A1001, c1002, rfl, h1003⟩, ⟨_, _, rfl, ⟨A1004, c1005, rfl, h1006⟩, ⟨_, _, rfl, ⟨A1007, c1008, rfl, h1009⟩, ⟨_, _, rfl, ⟨A1010, c1011, rfl, h1012⟩, ⟨A1013, c1014, rfl, h1015⟩⟩⟩⟩⟩ := z0
  have hb0 : b0 = #[.slice A1001 (y0.Stations).length c1002, .slice A1004 (y0.Sections).length c1005, .slice A1007 (y0.Links).length c1008, .slice A1010 (y0.Signals).length c1011, .slice A1013 (y0.Gates).length c1014] := Array.ext' hb0
  subst hb0
  obtain ⟨a1, m1, c1, rfl⟩ := okWide_slice Tryz.underlying29 (hval 1 29 v1 rfl rfl)
  obtain ⟨fu1, g1⟩ := h1
  obtain ⟨l1, ⟨A1, C1, z1, F1⟩, k1⟩ := j7H _ _ _ _ _ _ _ _ _ g1
  have z1 : [Value.slice a1 m1 c1] = [Value.slice A1 l1.length C1] := z1
  injection z1 with z1 _
  injection z1 with z1 zm1 zc1
  subst z1
  subst zm1
  subst zc1
  have sz1 := z7c (e := 39) (j := 1) Tryz.underlying29 g1 hz rfl rfl
  rw [show Tryz.prog.bytesOf 39 = 32 by kernel_rfl] at sz1
  refine (j7k (W : k8) [] y0 l1 A1001 c1002 A1004 c1005 A1007 c1008 A1010 c1011 A1013 c1014 a1 c1 h1003 h1006 h1009 h1012 h1015 F1 true (z4h y0 l1 k0 k1 sz1) W (z8u W)).mono fun e W' ⟨v, b', hp', he, hle, ho, hv, hh⟩ => ?_
  subst he
  subst hv
  subst hh
  exact ⟨_, rfl, z8r j6V (by kernel_rfl) rfl (by kernel_rfl) Tryz.underlying4 hW' rfl (z9Q hle ho)⟩
theorem q9Q (os : Os) : laidMet Tryz.prog Rows.lockRefusesRow.laid ((z0P os).forCall (fun _ _ => 0) ⟨#[], #[.agg #[.slice none 0 0, .slice none 0 0, .slice none 0 0, .slice none 0 0, .slice none 0 0], .slice none 0 0], []⟩).memory :=
  laidMet_of_run' 8 (by kernel_rfl) (by kernel_rfl)
theorem q9e (os : Os) {H : Type} (enc : TypeId × Value → H) : ∃ places, DataW.whole enc Tryz.prog ((z0P os).forCall (fun _ _ => 0) ⟨#[], #[.agg #[.slice none 0 0, .slice none 0 0, .slice none 0 0, .slice none 0 0, .slice none 0 0], .slice none 0 0], []⟩).memory Tryz.f4.params.toList Rows.lockRefusesSpec.vars false (#[.agg #[.slice none 0 0, .slice none 0 0, .slice none 0 0, .slice none 0 0, .slice none 0 0], .slice none 0 0] : Array Value).toList 8 = some ([.agg [.nil, .nil, .nil, .nil, .nil], .nil], [], places) :=
  ⟨[], by kernel_rfl⟩
set_option maxRecDepth 100000 in
theorem q8j (os : Os) (started : os.Started) (H : Type) (enc : TypeId × Value → H) (F : Stop.Interp) :
    ReturnsInHanded {} Tryz.checked os 4 .any ((OpenSpec.ofChange Rows.lockRefusesSpec).preRow enc Tryz.prog Tryz.f4 Rows.lockRefusesRow.domain false Rows.lockRefusesRow.laid) (((OpenSpec.ofChange Rows.lockRefusesSpec).at F).post enc Tryz.prog Tryz.f4 false true false false) := by
  obtain ⟨places, hx⟩ := q9e os enc
  refine returnsInHanded_of_row (C := Tryz.checked) (s := OpenSpec.ofChange Rows.lockRefusesSpec) j7E started (by kernel_rfl) Tryz.func4
    (witness_row_at (enc := enc) (C := Tryz.checked) false (z0P os) #[.agg #[.slice none 0 0, .slice none 0 0, .slice none 0 0, .slice none 0 0, .slice none 0 0], .slice none 0 0] rfl (by kernel_rfl) (by kernel_rfl) (by kernel_rfl)
      (OpenSpec.preRow_of_cond 8 hx (by kernel_rfl) (fun k hk => by cases hk) (by kernel_rfl) (q9Q os))) ?_
  intro W base args ds gs before hval hW _ _ hz hL _ _
  exact q9O H enc W base args ds gs before hval hW hz
theorem q9P : Rows.LockRefusesSaid :=
  OpenClaim.holds_of_cond 4 Tryz.f4 rfl rfl rfl rfl rfl rfl rfl ⟨rfl, rfl, rfl, rfl, rfl⟩ rfl rfl rfl rfl rfl (by kernel_rfl) Tryz.func4 (by kernel_rfl)
    (of_decide_eq_true (by kernel_rfl)) (by unfold Func.isWrapper; first | (rw [if_pos (by decide +kernel)]; kernel_rfl) | (rw [if_neg (by decide +kernel)]; exact ⟨rfl, rfl⟩))
    (fun os started H enc _ F => by rw [OpenClaim.pre_eq_preRow]; exact q8j os started H enc F)
theorem q6y (f : FuncId) (fn : Func) (hf : Tryz.pinned.checked.prog.funcNamed Rows.lockRefusesRow.func = some f) (hfn : Tryz.pinned.checked.prog.funcs[f]? = some fn) :
    true = Tryz.pinned.checked.prog.looks [] ∧ ∀ (j : Nat) t, fn.params[j]? = some t → Tryz.pinned.checked.prog.wantsStandIn t = false := by
  obtain rfl : f = 4 := Kd ((show Tryz.prog.funcNamed Rows.lockRefusesRow.func = some 4 by kernel_rfl).symm.trans hf) |>.symm
  obtain rfl : fn = Tryz.f4 := (Kd (Tryz.func4.symm.trans hfn)).symm
  refine ⟨by kernel_rfl, fun j t ht => ?_⟩
  have ht := Array.mem_of_getElem? ht
  rw [Tryz.params4] at ht
  have ht : t = 28 ∨ t = 29 := by simpa using ht
  rcases ht with rfl | rfl
  · exact (show Tryz.prog.wantsStandIn 28 = false by kernel_rfl)
  · exact (show Tryz.prog.wantsStandIn 29 = false by kernel_rfl)
theorem lockRefuses_holds : Rows.LockRefusesCardSaid :=
  Claim7.holds_tied_plain_at .later [] _ _ _ _ q9P (fun _ h => by cases h) (by kernel_rfl) (fun _ h => by cases h) lockRefuses_row_tie rfl ⟨rfl, rfl⟩ (by kernel_rfl) rfl q6y (by kernel_rfl)
end Go.Proofs.YtdbehipjelcmbaaGreatDoor
