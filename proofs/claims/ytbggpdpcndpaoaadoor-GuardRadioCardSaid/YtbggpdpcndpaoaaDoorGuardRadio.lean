/- PROVED: GuardRadio answers true at every input, and its arguments read behind the call as they read before; the listed package variables are tied to the text. No other condition. -/
import Derived.Test.YtbggpdpcndpaoaaDoorZP3
import Derived.Test.YtbggpdpcndpaoaaDoorZR1
import Derived.Test.YtbggpdpcndpaoaaDoorR2
import Derived.Test.YtbggpdpcndpaoaaDoorR4
import Derived.Test.YtbggpdpcndpaoaaDoorCards
import Derived.Test.YtbggpdpcndpaoaaDoorTie
import Derived.Test.YtbggpdpcndpaoaaDoorZH
import Derived.WalkKit
import Derived.ProofKit
import Derived.OpenShut
import Derived.Deep.DeepHandedRow
import Derived.Lib.LaidTab
set_option linter.unusedVariables false
set_option linter.unusedSimpArgs false
namespace Go.Proofs.YtbggpdpcndpaoaaDoor
open Go.RowKit Go.Fp
open Go.ChangeShapes Go.WideShapes Go.ChangeAt Go.Deep

set_option maxRecDepth 100000 in
theorem guardRadio_walk (H : Type) (enc : TypeId × Value → H) (W : World) (base : Nat) (args : Array Value) (ds gs : List (DataW H)) (before : List MemPlace)
    (hval : ∀ (j : Nat) t v, Tryd.f3.params[j]? = some t → args[j]? = some v → Value.okWide Tryd.prog W .any base t v) (hG : GOn GT (W : Base))
    (hW : DataW.Whole enc Tryd.prog Tryd.f3.params.toList Rows.guardRadioSpec.vars false W args.toList ds gs before)
    (hz : (DataW.weightsEach Tryd.prog (Tryd.f3.params.toList ++ (OpenSpec.ofChange Rows.guardRadioSpec).bare.plain.varTypes Tryd.prog) (ds ++ gs)).all (· ≤ reachBytes) = true) :
    Calls Tryd.prog 3 args W fun e W' => ∃ v, e = .returned v ∧ Rows.guardRadioSpec.post enc Tryd.prog Tryd.f3 false true false false W args v W' := by
  have hW' := hW
  obtain ⟨p, q, hA0, hV, rfl, hfz, hnd⟩ := hW
  have hA : DataW.TrodAll enc Tryd.prog W 0 (fun _ => true) true Tryd.f3.params.toList args.toList ds p := hA0
  rw [Tryd.params3] at hA hval hz
  obtain ⟨v0, w0, d0, e0, p0, q0, ha, rfl, rfl, h0, hA⟩ := trodAll_cons hA
  obtain ⟨rfl, rfl, rfl⟩ := trodAll_nil hA
  have hargs : args = #[v0] := Array.ext' ha
  subst hargs
  obtain ⟨rfl, rfl⟩ := trodVars_none hV
  obtain ⟨a0, m0, c0, rfl⟩ := okWide_slice Tryd.underlying22 (hval 0 22 v0 rfl rfl)
  obtain ⟨fu0, g0⟩ := h0
  obtain ⟨l0, ⟨A0, C0, z0, F0⟩, k0⟩ := op22 _ _ _ _ _ _ _ _ _ g0
  have z0 : [Value.slice a0 m0 c0] = [Value.slice A0 l0.length C0] := z0
  injection z0 with z0 _
  injection z0 with z0 zm0 zc0
  subst z0
  subst zm0
  subst zc0
  have sz0 := sized_open (e := 31) (j := 0) Tryd.underlying22 g0 hz rfl rfl
  rw [show Tryd.prog.bytesOf 31 = 40 by kernel_rfl] at sz0
  refine (cFishkeep1GuardRadio (W : Base) [] hG l0 a0 c0 F0 true (radioRow l0 k0 sz0) W (own_start W)).mono fun e W' ⟨v, b', hp', he, hle, ho, hv, hh⟩ => ?_
  subst he
  subst hv
  subst hh
  exact ⟨_, rfl, post_true laidK (by kernel_rfl) rfl (by kernel_rfl) Tryd.underlying4 hW' rfl (below_end hle ho)⟩
theorem guardRadio_laid (os : Os) : laidMet Tryd.prog Rows.guardRadioRow.laid ((laidWorld os).forCall (fun _ _ => 0) ⟨#[], #[.slice none 0 0], []⟩).memory :=
  laidMet_of_run' 8 (by kernel_rfl) (by kernel_rfl)
theorem guardRadio_reads (os : Os) {H : Type} (enc : TypeId × Value → H) : ∃ places, DataW.whole enc Tryd.prog ((laidWorld os).forCall (fun _ _ => 0) ⟨#[], #[.slice none 0 0], []⟩).memory Tryd.f3.params.toList Rows.guardRadioSpec.vars false (#[.slice none 0 0] : Array Value).toList 8 = some ([.nil], [], places) :=
  ⟨[], by kernel_rfl⟩
set_option maxRecDepth 100000 in
theorem guardRadio_lifted (os : Os) (started : os.Started) (H : Type) (enc : TypeId × Value → H) (F : Stop.Interp) :
    ReturnsInHanded {} Tryd.checked os 3 .any ((OpenSpec.ofChange Rows.guardRadioSpec).preRow enc Tryd.prog Tryd.f3 Rows.guardRadioRow.domain false Rows.guardRadioRow.laid) (((OpenSpec.ofChange Rows.guardRadioSpec).at F).post enc Tryd.prog Tryd.f3 false true false false) := by
  obtain ⟨places, hx⟩ := guardRadio_reads os enc
  refine returnsInHanded_of_row (C := Tryd.checked) (s := OpenSpec.ofChange Rows.guardRadioSpec) ownK started (by kernel_rfl) Tryd.func3
    (witness_row_at (enc := enc) (C := Tryd.checked) false (laidWorld os) #[.slice none 0 0] rfl (by kernel_rfl) (by kernel_rfl) (by kernel_rfl)
      (OpenSpec.preRow_of_cond 8 hx (by kernel_rfl) (fun k hk => by cases hk) (by kernel_rfl) (guardRadio_laid os))) ?_
  intro W base args ds gs before hval hW _ _ hz hL _ _
  exact guardRadio_walk H enc W base args ds gs before hval (gt_of (show laidMet Tryd.prog Rows.guardRadioRow.laid W from hL)) hW hz
theorem guardRadio_said : Rows.GuardRadioSaid :=
  OpenClaim.holds_of_cond 3 Tryd.f3 rfl rfl rfl rfl rfl rfl rfl ⟨rfl, rfl, rfl, rfl, rfl⟩ rfl rfl rfl rfl rfl (by kernel_rfl) Tryd.func3 (by kernel_rfl)
    (of_decide_eq_true (by kernel_rfl)) (by unfold Func.isWrapper; first | (rw [if_pos (by decide +kernel)]; kernel_rfl) | (rw [if_neg (by decide +kernel)]; exact ⟨rfl, rfl⟩))
    (fun os started H enc _ F => by rw [OpenClaim.pre_eq_preRow]; exact guardRadio_lifted os started H enc F)
theorem guardRadio_plainArgs (f : FuncId) (fn : Func) (hf : Tryd.pinned.checked.prog.funcNamed Rows.guardRadioRow.func = some f) (hfn : Tryd.pinned.checked.prog.funcs[f]? = some fn) :
    true = Tryd.pinned.checked.prog.looks [] ∧ ∀ (j : Nat) t, fn.params[j]? = some t → Tryd.pinned.checked.prog.wantsStandIn t = false := by
  obtain rfl : f = 3 := Option.some.inj ((show Tryd.prog.funcNamed Rows.guardRadioRow.func = some 3 by kernel_rfl).symm.trans hf) |>.symm
  obtain rfl : fn = Tryd.f3 := (Option.some.inj (Tryd.func3.symm.trans hfn)).symm
  refine ⟨by kernel_rfl, fun j t ht => ?_⟩
  have ht := Array.mem_of_getElem? ht
  rw [Tryd.params3] at ht
  obtain rfl : t = 22 := by simpa using ht
  exact (show Tryd.prog.wantsStandIn 22 = false by kernel_rfl)
theorem guardRadio_holds : Rows.GuardRadioCardSaid :=
  Claim7.holds_tied_plain_at .later [] _ _ _ _ guardRadio_said (fun _ h => by cases h) (by kernel_rfl) (fun _ h => by cases h) guardRadio_row_tie rfl ⟨rfl, rfl⟩ (by kernel_rfl) rfl guardRadio_plainArgs (by kernel_rfl)

end Go.Proofs.YtbggpdpcndpaoaaDoor
