/- PROVED: GuidePromises answers true, and its arguments read behind the call as they read before, where they are of bulk at most 1048576 (the second form); the listed package variables are tied to the text. No other condition. -/
import Derived.Test.YtckgfeglhjiflaaDoorVP1
import Derived.Test.YtckgfeglhjiflaaDoorWR1
import Derived.Test.YtckgfeglhjiflaaDoorR2
import Derived.Test.YtckgfeglhjiflaaDoorR4
import Derived.Test.YtckgfeglhjiflaaDoorCards
import Derived.Test.YtckgfeglhjiflaaDoorTie
import Derived.Test.YtckgfeglhjiflaaDoorGZ1
import Derived.WalkKit
import Derived.ProofKit
import Derived.OpenShut
import Derived.Deep.DeepHandedRow
import Derived.Lib.LaidTab
set_option linter.unusedVariables false
set_option linter.unusedSimpArgs false
namespace Go.Proofs.YtckgfeglhjiflaaDoor
open Go.RowKit Go.Fp
open Go.ChangeShapes Go.WideShapes Go.ChangeAt Go.Deep

theorem bulk_one {H : Type} (d : DataW H) : 1 ≤ Rows.uptoBulk d := by
  cases d with
  | lit l => cases l <;> simp [Rows.uptoBulk]
  | _ => simp [Rows.uptoBulk]
theorem bulk_len {H : Type} : ∀ l : List (DataW H), l.length ≤ Rows.uptoBulkAll l
  | [] => by simp
  | d :: r => by
    have h1 := bulk_len r
    have h2 := bulk_one d
    rw [Rows.uptoBulkAll, List.length_cons]
    omega
theorem bulk_mem {H : Type} : ∀ {l : List (DataW H)} {j : Nat} {d : DataW H}, l[j]? = some d → Rows.uptoBulk d ≤ Rows.uptoBulkAll l
  | [], j, d, h => by simp at h
  | x :: r, 0, d, h => by
    simp at h
    subst h
    rw [Rows.uptoBulkAll]
    omega
  | x :: r, j + 1, d, h => by
    have h1 := bulk_mem (l := r) (j := j) (d := d) (by simpa using h)
    rw [Rows.uptoBulkAll]
    omega
theorem bulk_slice {H : Type} {l : List (DataW H)} {j : Nat} {E S : List (DataW H)} (h : l[j]? = some (.slice E S)) : E.length ≤ Rows.uptoBulkAll l := by
  have h1 := bulk_mem h
  have h2 := bulk_len E
  rw [Rows.uptoBulk] at h1
  omega
theorem bulk_open {H : Type} {P : Program} {t e : TypeId} {enc : TypeId × Value → H} {w : World} {base : Nat} {spare : Nat → Bool} {held : Bool} {n : Nat} {a : Option Addr} {m c : Nat} {d : DataW H} {pl : List MemPlace} {ds : List (DataW H)} {j : Nat} (hu : P.underlying t = some (.slice e)) (h : DataW.trod enc P w base spare held n t [.slice a m c] = some (d, pl))
    (hb : Rows.uptoBulkAll ds ≤ 1048576) (hd : ds[j]? = some d) : m ≤ 1048576 := by
  rcases open_slice hu h with ⟨h1, _⟩ | ⟨a', len, cap, q, n', D, Pl, h1, _, hl, hm, hmm, hx, _⟩
  · injection h1 with h1 _
    injection h1 with _ h1 _
    subst h1
    omega
  · injection h1 with h1 _
    injection h1 with _ h1 _
    subst h1
    injection hx with hx _
    subst hx
    have h2 := bulk_slice hd
    simp only [List.length_map, List.length_range] at h2
    omega
theorem cBoth (b : Base) (R : Hp) (hG : GOn GT b) (s1 : ApiDay) (x8 : Int) (l12 : (List ApiDay)) (l16 : (List GuideJourney)) (l20 : (List Int)) (A2 : Option Addr) (c3 : Nat) (A5 : Option Addr) (c6 : Nat) (A9 : Option Addr) (c10 : Nat) (A13 : Option Addr) (c14 : Nat) (A17 : Option Addr) (c18 : Nat) (h4 : FZ rApiTrain b.w A2 c3 s1.Trains) (h7 : FZ (RT.list (RT.int .i64)) b.w A5 c6 s1.Turns) (h11 : FZ rApiDay b.w A9 c10 l12) (h15 : FZ rGuideJourney b.w A13 c14 l16) (h19 : FZ (RT.int .i64) b.w A17 c18 l20) (x4833 : Bool) (hm : mFishkeep2GuidePromises s1 x8 l12 l16 l20 = some x4833 ∨ Inv.mFishkeep2GuidePromises s1 x8 l12 l16 l20 = some x4833) :
    CallsG Tryd.prog 5 [.agg #[.slice A2 (s1.Trains).length c3, .slice A5 (s1.Turns).length c6], .int .i64 (x8), .slice A9 (l12).length c10, .slice A13 (l16).length c14, .slice A17 (l20).length c18] b (R) (fun v b' hp' => .bool (x4833) = v ∧ R = hp') :=
  hm.elim (fun h => cFishkeep2GuidePromises b R hG s1 x8 l12 l16 l20 A2 c3 A5 c6 A9 c10 A13 c14 A17 c18 h4 h7 h11 h15 h19 x4833 h) (fun h => Inv.cFishkeep2GuidePromises b R hG s1 x8 l12 l16 l20 A2 c3 A5 c6 A9 c10 A13 c14 A17 c18 h4 h7 h11 h15 h19 x4833 h)
set_option maxRecDepth 100000 in
theorem guidePromises_walk (H : Type) (enc : TypeId × Value → H) (W : World) (base : Nat) (args : Array Value) (ds gs : List (DataW H)) (before : List MemPlace)
    (hval : ∀ (j : Nat) t v, Tryd.f5.params[j]? = some t → args[j]? = some v → Value.okWide Tryd.prog W .any base t v) (hG : GOn GT (W : Base))
    (hW : DataW.Whole enc Tryd.prog Tryd.f5.params.toList Rows.guidePromisesSpec.vars false W args.toList ds gs before)
    (hz : (DataW.weightsEach Tryd.prog (Tryd.f5.params.toList ++ (OpenSpec.ofChange Rows.guidePromisesSpec).bare.plain.varTypes Tryd.prog) (ds ++ gs)).all (· ≤ reachBytes) = true) (hbk : Rows.uptoBulkAll (ds ++ gs) ≤ 1048576) :
    Calls Tryd.prog 5 args W fun e W' => ∃ v, e = .returned v ∧ Rows.guidePromisesSpec.post enc Tryd.prog Tryd.f5 false true false false W args v W' := by
  have hW' := hW
  obtain ⟨p, q, hA0, hV, rfl, hfz, hnd⟩ := hW
  have hA : DataW.TrodAll enc Tryd.prog W 0 (fun _ => true) true Tryd.f5.params.toList args.toList ds p := hA0
  rw [Tryd.params5] at hA hval hz
  obtain ⟨v0, w0, d0, e0, p0, q0, ha, rfl, rfl, h0, hA⟩ := trodAll_cons hA
  obtain ⟨v1, w1, d1, e1, p1, q1, rfl, rfl, rfl, h1, hA⟩ := trodAll_cons hA
  obtain ⟨v2, w2, d2, e2, p2, q2, rfl, rfl, rfl, h2, hA⟩ := trodAll_cons hA
  obtain ⟨v3, w3, d3, e3, p3, q3, rfl, rfl, rfl, h3, hA⟩ := trodAll_cons hA
  obtain ⟨v4, w4, d4, e4, p4, q4, rfl, rfl, rfl, h4, hA⟩ := trodAll_cons hA
  obtain ⟨rfl, rfl, rfl⟩ := trodAll_nil hA
  have hargs : args = #[v0, v1, v2, v3, v4] := Array.ext' ha
  subst hargs
  obtain ⟨rfl, rfl⟩ := trodVars_none hV
  obtain ⟨b0, rfl, _⟩ := okWide_struct Tryd.underlying25 (hval 0 25 v0 rfl rfl)
  obtain ⟨fu0, g0⟩ := h0
  obtain ⟨y0, z0, k0⟩ := op25 _ _ _ _ _ _ _ _ _ g0
  have z0 : rApiDay.rep W b0.toList y0 := z0
  generalize hb0 : b0.toList = bl0 at z0
  obtain ⟨_, _, rfl, ⟨A1001, c1002, rfl, h1003⟩, ⟨A1004, c1005, rfl, h1006⟩⟩ := z0
  have hb0 : b0 = #[.slice A1001 (y0.Trains).length c1002, .slice A1004 (y0.Turns).length c1005] := Array.ext' hb0
  subst hb0
  obtain ⟨x1, rfl⟩ := okWide_int Tryd.underlying3 (hval 1 3 v1 rfl rfl)
  obtain ⟨fu1, g1⟩ := h1
  obtain ⟨y1, z1, k1⟩ := op3 _ _ _ _ _ _ _ _ _ g1
  have z1 : [Value.int .i64 x1] = [Value.int .i64 y1] := z1
  injection z1 with z1 _
  injection z1 with _ z1
  subst z1
  obtain ⟨a2, m2, c2, rfl⟩ := okWide_slice Tryd.underlying53 (hval 2 53 v2 rfl rfl)
  obtain ⟨fu2, g2⟩ := h2
  obtain ⟨l2, ⟨A2, C2, z2, F2⟩, k2⟩ := op53 _ _ _ _ _ _ _ _ _ g2
  have z2 : [Value.slice a2 m2 c2] = [Value.slice A2 l2.length C2] := z2
  injection z2 with z2 _
  injection z2 with z2 zm2 zc2
  subst z2
  subst zm2
  subst zc2
  have sz2 := sized_open (e := 25) (j := 2) Tryd.underlying53 g2 hz rfl rfl
  rw [show Tryd.prog.bytesOf 25 = 48 by kernel_rfl] at sz2
  have bk2 := bulk_open (j := 2) Tryd.underlying53 g2 hbk rfl
  obtain ⟨a3, m3, c3, rfl⟩ := okWide_slice Tryd.underlying54 (hval 3 54 v3 rfl rfl)
  obtain ⟨fu3, g3⟩ := h3
  obtain ⟨l3, ⟨A3, C3, z3, F3⟩, k3⟩ := op54 _ _ _ _ _ _ _ _ _ g3
  have z3 : [Value.slice a3 m3 c3] = [Value.slice A3 l3.length C3] := z3
  injection z3 with z3 _
  injection z3 with z3 zm3 zc3
  subst z3
  subst zm3
  subst zc3
  have sz3 := sized_open (e := 33) (j := 3) Tryd.underlying54 g3 hz rfl rfl
  rw [show Tryd.prog.bytesOf 33 = 24 by kernel_rfl] at sz3
  have bk3 := bulk_open (j := 3) Tryd.underlying54 g3 hbk rfl
  obtain ⟨a4, m4, c4, rfl⟩ := okWide_slice Tryd.underlying49 (hval 4 49 v4 rfl rfl)
  obtain ⟨fu4, g4⟩ := h4
  obtain ⟨l4, ⟨A4, C4, z4, F4⟩, k4⟩ := op49 _ _ _ _ _ _ _ _ _ g4
  have z4 : [Value.slice a4 m4 c4] = [Value.slice A4 l4.length C4] := z4
  injection z4 with z4 _
  injection z4 with z4 zm4 zc4
  subst z4
  subst zm4
  subst zc4
  have sz4 := sized_open (e := 3) (j := 4) Tryd.underlying49 g4 hz rfl rfl
  rw [show Tryd.prog.bytesOf 3 = 8 by kernel_rfl] at sz4
  have bk4 := bulk_open (j := 4) Tryd.underlying49 g4 hbk rfl
  refine (cBoth (W : Base) [] hG y0 x1 l2 l3 l4 A1001 c1002 A1004 c1005 a2 c2 a3 c3 a4 c4 h1003 h1006 F2 F3 F4 true (promisesRow y0 x1 l2 l3 l4 k0 k1 k2 k3 k4 sz2 sz3 sz4 bk2 bk3 bk4) W (own_start W)).mono fun e W' ⟨v, b', hp', he, hle, ho, hv, hh⟩ => ?_
  subst he
  subst hv
  subst hh
  exact ⟨_, rfl, post_true laidK (by kernel_rfl) rfl (by kernel_rfl) Tryd.underlying4 hW' rfl (below_end hle ho)⟩
theorem guidePromises_laid (os : Os) : laidMet Tryd.prog Rows.guidePromisesUptoRow.laid ((laidWorld os).forCall (fun _ _ => 0) ⟨#[], #[.agg #[.slice none 0 0, .slice none 0 0], .int .i64 0, .slice none 0 0, .slice none 0 0, .slice none 0 0], []⟩).memory :=
  laidMet_of_run' 8 (by kernel_rfl) (by kernel_rfl)
theorem guidePromises_reads (os : Os) {H : Type} (enc : TypeId × Value → H) : ∃ places, DataW.whole enc Tryd.prog ((laidWorld os).forCall (fun _ _ => 0) ⟨#[], #[.agg #[.slice none 0 0, .slice none 0 0], .int .i64 0, .slice none 0 0, .slice none 0 0, .slice none 0 0], []⟩).memory Tryd.f5.params.toList Rows.guidePromisesSpec.vars false (#[.agg #[.slice none 0 0, .slice none 0 0], .int .i64 0, .slice none 0 0, .slice none 0 0, .slice none 0 0] : Array Value).toList 8 = some ([.agg [.nil, .nil], .lit (.int .i64 0), .nil, .nil, .nil], [], places) :=
  ⟨[], by kernel_rfl⟩
set_option maxRecDepth 100000 in
theorem guidePromises_lifted (os : Os) (started : os.Started) (H : Type) (enc : TypeId × Value → H) (F : Stop.Interp) :
    ReturnsInHanded {} Tryd.checked os 5 .any ((Rows.OpenSpec.upto Rows.guidePromisesSpec).preRow enc Tryd.prog Tryd.f5 Rows.guidePromisesUptoRow.domain false Rows.guidePromisesUptoRow.laid) (((Rows.OpenSpec.upto Rows.guidePromisesSpec).at F).post enc Tryd.prog Tryd.f5 false true false false) := by
  obtain ⟨places, hx⟩ := guidePromises_reads os enc
  refine returnsInHanded_of_row (C := Tryd.checked) (s := Rows.OpenSpec.upto Rows.guidePromisesSpec) ownK started (by kernel_rfl) Tryd.func5
    (witness_row_at (enc := enc) (C := Tryd.checked) false (laidWorld os) #[.agg #[.slice none 0 0, .slice none 0 0], .int .i64 0, .slice none 0 0, .slice none 0 0, .slice none 0 0] rfl (by kernel_rfl) (by kernel_rfl) (by kernel_rfl)
      (OpenSpec.preRow_of_cond 8 hx (by kernel_rfl) (fun k hk => by injection hk with hk; subst hk; simp [Rows.uptoSmall, Rows.uptoBulkAll, Rows.uptoBulk]) (by kernel_rfl) (guidePromises_laid os))) ?_
  intro W base args ds gs before hval hW _ hcd hz hL _ _
  exact guidePromises_walk H enc W base args ds gs before hval (gt_of (show laidMet Tryd.prog Rows.guidePromisesUptoRow.laid W from hL)) hW hz (of_decide_eq_true (hcd _ rfl))
theorem guidePromises_said : Rows.GuidePromisesUptoSaid :=
  OpenClaim.holds_of_cond 5 Tryd.f5 rfl rfl rfl rfl rfl rfl rfl ⟨rfl, rfl, rfl, rfl, rfl⟩ rfl rfl rfl rfl rfl (by kernel_rfl) Tryd.func5 (by kernel_rfl)
    (of_decide_eq_true (by kernel_rfl)) (by unfold Func.isWrapper; first | (rw [if_pos (by decide +kernel)]; kernel_rfl) | (rw [if_neg (by decide +kernel)]; exact ⟨rfl, rfl⟩))
    (fun os started H enc _ F => by rw [OpenClaim.pre_eq_preRow]; exact guidePromises_lifted os started H enc F)
theorem guidePromises_plainArgs (f : FuncId) (fn : Func) (hf : Tryd.pinned.checked.prog.funcNamed Rows.guidePromisesUptoRow.func = some f) (hfn : Tryd.pinned.checked.prog.funcs[f]? = some fn) :
    false = Tryd.pinned.checked.prog.looks [] ∧ ∀ (j : Nat) t, fn.params[j]? = some t → Tryd.pinned.checked.prog.wantsStandIn t = false := by
  obtain rfl : f = 5 := Option.some.inj ((show Tryd.prog.funcNamed Rows.guidePromisesUptoRow.func = some 5 by kernel_rfl).symm.trans hf) |>.symm
  obtain rfl : fn = Tryd.f5 := (Option.some.inj (Tryd.func5.symm.trans hfn)).symm
  refine ⟨by kernel_rfl, fun j t ht => ?_⟩
  have ht := Array.mem_of_getElem? ht
  rw [Tryd.params5] at ht
  have ht : t = 25 ∨ t = 3 ∨ t = 53 ∨ t = 54 ∨ t = 49 := by simpa using ht
  rcases ht with rfl | rfl | rfl | rfl | rfl
  · exact (show Tryd.prog.wantsStandIn 25 = false by kernel_rfl)
  · exact (show Tryd.prog.wantsStandIn 3 = false by kernel_rfl)
  · exact (show Tryd.prog.wantsStandIn 53 = false by kernel_rfl)
  · exact (show Tryd.prog.wantsStandIn 54 = false by kernel_rfl)
  · exact (show Tryd.prog.wantsStandIn 49 = false by kernel_rfl)
theorem guidePromises_holds : Rows.GuidePromisesUptoCardSaid :=
  Claim7.holds_tied_plain_at .later [] _ _ _ _ guidePromises_said (fun _ h => by cases h) (by kernel_rfl) (fun _ h => by cases h) guidePromisesUpto_row_tie rfl ⟨rfl, rfl⟩ (by kernel_rfl) rfl guidePromises_plainArgs (by kernel_rfl)

end Go.Proofs.YtckgfeglhjiflaaDoor
