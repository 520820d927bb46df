/- fare.number, which returns or panics, and the deferred closure of fare.open, which takes its panic. -/
import Derived.Test.YtglmhaihgpnogaaGreatDoorProg
import Derived.Test.YtglmhaihgpnogaaGreatDoorSh2
import Derived.Test.YtglmhaihgpnogaaGreatDoorXY
import Derived.Tactics
import Derived.Tactics2
set_option linter.unusedVariables false
set_option linter.unusedSimpArgs false
namespace Go.Proofs.YtglmhaihgpnogaaGreatDoor
open Go.RowKit Go.Fp

/-- What fare.number throws. -/
def wv : Value := .iface 72 (.agg #[])
theorem ctE : ifT Tryz.prog 103 := by unfold ifT; kernel_rfl
theorem ctA : callable Tryz.prog 53 = true := by kernel_rfl
theorem ctI : callable Tryz.prog 18 = true := by kernel_rfl
theorem st_iface {n : NT} {b : Base} {e : Env} {hp : Hp} {x : Operand} {ty : TypeId} (hx : val e x = some (.agg #[])) : Stable Tryz.prog n b (.makeInterface 72 x) ty e hp wv := fun a w hf _ d pos af g => by
  have hr : (Instr.makeInterface 72 (.agg #[])).run Tryz.prog w = .ok (.iface 72 (.agg #[])) w := by kernel_rfl
  simp [execOp, hf.eval hx, hr, wv]
set_option maxRecDepth 20000 in
theorem number_c {b : Base} {R : Hp} (hG : GOn GT b) {s : ByteArray} {q : Bool} {x : Int} (hm : numberM s = some (q, x)) :
    CallsP Tryz.prog 37 [.string s] b R (fun v b' hp' => q = true ∧ .int .i64 x = v ∧ R = hp') (fun ch b' hp' => q = false ∧ ch = thrown wv ∧ R = hp') := by
  refine fn_enterP 25 Tryz.func37 rfl Tryz.ntmps37 rfl ?_
  unfold numberM at hm
  obtain ⟨⟨y, q1⟩, ha, hm⟩ := bindS hm
  dsimp only at hm
  refine c_seq ?_
  refine c_region ?_
  refine t_st rfl (st_assign rfl) ?_
  refine t_nil ?_
  refine x_then_normal ?_
  refine c_seq ?_
  refine c_region ?_
  refine t_st rfl (st_move rfl) ?_
  refine t_callG [.string s] rfl ctA rfl (atoi_c hG ha) ?_
  rintro _ b1 _ hle1 ⟨ev, rfl, rfl, hE⟩
  refine t_st rfl (st_move rfl) ?_
  refine t_st rfl (st_extract rfl rfl) ?_
  refine t_st rfl (st_extract rfl rfl) ?_
  refine t_st rfl (st_assign rfl) ?_
  refine t_st rfl (st_assign rfl) ?_
  refine t_nil ?_
  refine x_then_normal ?_
  refine c_seq ?_
  refine c_seq ?_
  refine c_region ?_
  refine t_st rfl (st_move rfl) ?_
  refine t_st rfl (st_neqE rfl hE ctE) ?_
  cases q1 with
  | false =>
    rw [if_neg (fun h => Bool.noConfusion h.1)] at hm
    obtain ⟨rfl, rfl⟩ := some2 hm
    refine t_st rfl (st_move rfl) ?_
    refine t_no 12 rfl rfl rfl rfl rfl ?_
    refine t_no 12 rfl rfl rfl rfl rfl ?_
    refine t_st rfl (st_pick_t rfl rfl) ?_
    refine t_st rfl (st_move rfl) ?_
    refine t_no 16 rfl rfl rfl rfl rfl ?_
    refine t_no 16 rfl rfl rfl rfl rfl ?_
    refine t_no 16 rfl rfl rfl rfl rfl ?_
    refine t_no 16 rfl rfl rfl rfl rfl ?_
    refine t_st rfl (st_pick_t rfl rfl) ?_
    refine t_nil ?_
    refine x_then_normal ?_
    refine c_cond_t rfl ?_
    refine c_region ?_
    refine t_st rfl (st_build (v := .agg #[]) [] rfl (fun _ => by kernel_rfl)) ?_
    refine t_st rfl (st_iface rfl) ?_
    refine t_panic rfl ?_
    refine x_then_panic ?_
    exact panicP hle1 (.refl _) ⟨rfl, rfl, rfl⟩
  | true =>
    refine t_st rfl (st_move rfl) ?_
    refine t_yes 12 rfl rfl rfl ?_
    refine t_st rfl (st_move rfl) ?_
    refine t_yes 12 rfl rfl rfl ?_
    refine t_bool rfl (st_lss rfl rfl) (fun hc => ?_) (fun hc => ?_)
    · rw [if_neg (fun h => by have := h.2; omega)] at hm
      obtain ⟨rfl, rfl⟩ := some2 hm
      refine t_st rfl (st_pick_f rfl rfl) ?_
      refine t_st rfl (st_move rfl) ?_
      refine t_no 16 rfl rfl rfl rfl rfl ?_
      refine t_no 16 rfl rfl rfl rfl rfl ?_
      refine t_no 16 rfl rfl rfl rfl rfl ?_
      refine t_no 16 rfl rfl rfl rfl rfl ?_
      refine t_st rfl (st_pick_t rfl rfl) ?_
      refine t_nil ?_
      refine x_then_normal ?_
      refine c_cond_t rfl ?_
      refine c_region ?_
      refine t_st rfl (st_build (v := .agg #[]) [] rfl (fun _ => by kernel_rfl)) ?_
      refine t_st rfl (st_iface rfl) ?_
      refine t_panic rfl ?_
      refine x_then_panic ?_
      exact panicP hle1 (.refl _) ⟨rfl, rfl, rfl⟩
    · rw [if_pos ⟨rfl, by omega⟩] at hm
      obtain ⟨t, hi, hm⟩ := bindS hm
      obtain ⟨rfl, rfl⟩ := some2 hm
      refine t_st rfl (st_pick_f rfl rfl) ?_
      refine t_st rfl (st_move rfl) ?_
      refine t_yes 16 rfl rfl rfl ?_
      refine t_st rfl (st_move rfl) ?_
      refine t_yes 16 rfl rfl rfl ?_
      refine t_callG [.int .i64 y] rfl ctI rfl (itoa_c (hG.le hle1) hi) ?_
      rintro _ b2 _ hle2 ⟨rfl, rfl⟩
      refine t_yes 16 rfl rfl rfl ?_
      refine t_st rfl (st_move rfl) ?_
      refine t_yes 16 rfl rfl rfl ?_
      refine t_st rfl (st_sneq rfl rfl) ?_
      cases hs : sEq t s with
      | true =>
        refine t_st rfl (st_pick_f rfl rfl) ?_
        refine t_nil ?_
        refine x_then_normal ?_
        refine c_cond_f rfl ?_
        refine c_skip ?_
        refine x_then_normal ?_
        refine c_seq ?_
        refine c_region ?_
        refine t_st rfl (st_move rfl) ?_
        refine t_st rfl (st_assign rfl) ?_
        refine t_nil ?_
        refine x_then_normal ?_
        refine c_ret ?_
        exact retP (rs := [.tmp 2]) [.int .i64 y] (hle1.trans hle2) (by decide) rfl ⟨rfl, trivial⟩ rfl (.refl _) ⟨rfl, rfl, rfl⟩
      | false =>
        refine t_st rfl (st_pick_f rfl rfl) ?_
        refine t_nil ?_
        refine x_then_normal ?_
        refine c_cond_t rfl ?_
        refine c_region ?_
        refine t_st rfl (st_build (v := .agg #[]) [] rfl (fun _ => by kernel_rfl)) ?_
        refine t_st rfl (st_iface rfl) ?_
        refine t_panic rfl ?_
        refine x_then_panic ?_
        exact panicP (hle1.trans hle2) (.refl _) ⟨rfl, rfl, rfl⟩
theorem number_t {b : Base} {R : Hp} (hG : GOn GT b) {s : ByteArray} {x : Int} (hm : numberM s = some (true, x)) :
    CallsH Tryz.prog 37 [.string s] b R (fun v hp' => v = .int .i64 x ∧ hp' = R) := fun w ho =>
  (number_c hG hm w ho).mono fun e w' h => by
    cases e with
    | returned v =>
      obtain ⟨b', hp', hle, ho', _, h1, h2⟩ := h
      subst h2
      exact ⟨v, R, rfl, hle.back _ _ ho', h1.symm, rfl⟩
    | panicked ch => obtain ⟨_, _, _, _, h1, _⟩ := h; cases h1
    | outgrown => exact (show False from h).elim
theorem number_f {b : Base} {R : Hp} (hG : GOn GT b) {s : ByteArray} {x : Int} (hm : numberM s = some (false, x)) :
    ∀ w, Own b R w → Calls Tryz.prog 37 #[.string s] w fun e w' => e = .panicked (thrown wv) ∧ Own b R w' := fun w ho =>
  (number_c hG hm w ho).mono fun e w' h => by
    cases e with
    | returned v => obtain ⟨_, _, _, _, h1, _⟩ := h; cases h1
    | panicked ch =>
      obtain ⟨b', hp', hle, ho', _, h1, h2⟩ := h
      subst h2
      exact ⟨by rw [h1], hle.back _ _ ho'⟩
    | outgrown => exact (show False from h).elim
set_option maxRecDepth 100000 in
set_option maxHeartbeats 2000000 in
theorem catch_calm (g : Nat) (w : World) : CallsDIn Fence.wide 0 Tryz.prog 34 #[.pointer (some ⟨g, 0, none⟩)] .returning w fun e u' w' => e = .returned (.tuple #[]) ∧ u' = .returning ∧ w' = w := by
  have hne : ∀ (w : World), (binOp .neq 20 .nilIface .nilIface).run Tryz.prog w = .ok (.bool false) w := fun w => by kernel_rfl
  refine callsDIn_of_wpSIn Tryz.func34 rfl trivial fun c₀ cs hu => ?_
  apply wpSIn_seq
  apply wpSIn_region
  simp [wpOpsSIn, go_sem, recoverD, hu, Tryz.ntmps34, Exit.thenS]
  apply wpSIn_seq
  apply wpSIn_region
  simp [wpOpsSIn, go_sem, Exit.thenS, hne]
  refine wpSIn_cond (t := false) (by simp [Act.eval, Array.replicate]) ?_
  simp only [Bool.false_eq_true, if_false]
  refine wpSIn_of_wpIn rfl (wpIn_skip ?_)
  simp [bodyPostS, results, Tryz.results34, hu]
  rw [← hu]
set_option maxRecDepth 100000 in
set_option maxHeartbeats 2000000 in
theorem catch_take (g : Nat) (q : Value) (w : World) (h0 : w.heap[g]? = some (.cells #[q] 4)) : CallsDIn Fence.wide 0 Tryz.prog 34 #[.pointer (some ⟨g, 0, none⟩)] (.panicking (thrown wv)) w fun e u' w' => e = .returned (.tuple #[]) ∧ u' = .panicking [{ v := wv, recovered := true }] ∧ ∃ o, w' = (w.alloc o).setCell ⟨g, 0, none⟩ (.bool false) := by
  have hta : ∀ (w : World), (Instr.typeAssert (.iface 72 (.agg #[])) 20 72 true).run Tryz.prog w = .ok (.tuple #[.agg #[], .bool true]) w := fun w => by kernel_rfl
  have hnt : ∀ (w : World), (Op.unary .not (.bool true)).run Tryz.prog w = .ok (.bool false) w := fun w => rfl
  refine callsDIn_of_wpSIn Tryz.func34 rfl trivial fun c₀ cs hu => ?_
  apply wpSIn_seq
  apply wpSIn_region
  simp [wpOpsSIn, go_sem, recoverD, hu, Tryz.ntmps34, Exit.thenS, wv]
  apply wpSIn_seq
  apply wpSIn_region
  simp [wpOpsSIn, go_sem, Exit.thenS]
  refine wpSIn_cond (t := true) (by simp [Act.eval, Array.replicate]) ?_
  simp only [if_true]
  apply wpSIn_seq
  apply wpSIn_seq
  apply wpSIn_region
  simp [wpOpsSIn, go_sem, Exit.thenS, hta]
  apply wpSIn_seq
  apply wpSIn_region
  simp [wpOpsSIn, go_sem, Exit.thenS, hnt]
  refine wpSIn_cond (t := false) (by simp [Act.eval, Array.replicate]) ?_
  simp only [Bool.false_eq_true, if_false]
  refine wpSIn_of_wpIn rfl (wpIn_skip ?_)
  simp only [Exit.thenS]
  apply wpSIn_region
  have ha : g < w.heap.size := (Array.getElem?_eq_some_iff.1 h0).1
  have g0 : (w.alloc (.cells #[] 72)).heap[g]? = some (.cells #[q] 4) := (Below.heap_alloc _ _ _ ha).trans h0
  have k0 : (w.alloc (.cells #[] 72)).cell? ⟨g, 0, none⟩ = some q := by simp [World.cell?, g0]
  have f0 : ∀ i, (w.alloc (.cells #[] 72)).frozen? ⟨g, i, none⟩ = false := fun i => by simp [World.frozen?, g0]
  simp [wpOpsSIn, go_sem, bodyPostS, results, Tryz.results34, k0, f0]
  exact ⟨_, rfl⟩
theorem catch_c : Catch Tryz.prog 34 4 wv := ⟨catch_calm, catch_take, by kernel_rfl⟩

#print axioms catch_c
end Go.Proofs.YtglmhaihgpnogaaGreatDoor
