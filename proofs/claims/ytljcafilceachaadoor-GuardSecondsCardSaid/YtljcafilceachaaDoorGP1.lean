/- Contracts: the code computes its model (part 1). -/
import Derived.Test.YtljcafilceachaaDoorGT
import Derived.Test.YtljcafilceachaaDoorSh
set_option linter.unusedVariables false
set_option linter.unusedSimpArgs false
namespace Go.Proofs.YtljcafilceachaaDoor
open Go.RowKit Go.Fp

set_option maxRecDepth 20000 in
theorem cStringsliteIndexByte (b : Base) (R : Hp) (x1 : ByteArray) (x2 : Int) (x3 : Int) (hm : mStringsliteIndexByte x1 x2 = some x3) :
    CallsG Tryd.prog 141 [.string (x1), .int .u8 (x2)] b (R) (fun v b' hp' => .int .i64 (x3) = v ∧ R = hp') := by
  refine fn_enterG 8 Tryd.func141 rfl Tryd.ntmps141 rfl ?_
  unfold mStringsliteIndexByte at hm
  refine c_seq ?_
  refine c_region ?_
  refine t_st rfl (st_assign rfl) ?_
  refine t_nil ?_
  refine x_then_normal ?_
  refine c_seq ?_
  refine c_region ?_
  refine t_st rfl (st_move rfl) ?_
  refine t_st rfl (st_move rfl) ?_
  refine t_st rfl (st_extern ext151_1 ext151_2 ext151_3 ext151_4 ext151_5 rfl (run_sFirst _ _)) ?_
  refine t_st rfl (st_assign rfl) ?_
  refine t_nil ?_
  refine x_then_normal ?_
  refine c_ret ?_
  obtain rfl := some1 hm
  exact retM (rs := [.tmp 4]) [.int .i64 ((sFirst x1 x2))] (Base.Le.refl _) (by decide) rfl ⟨rfl, trivial⟩ rfl (hp' := R) (.refl _) ⟨rfl, rfl⟩

set_option maxRecDepth 20000 in
theorem cStringsliteIndex (b : Base) (R : Hp) (x1 : ByteArray) (x2 : ByteArray) (x16 : Int) (hm : mStringsliteIndex x1 x2 = some x16) :
    CallsG Tryd.prog 126 [.string (x1), .string (x2)] b (R) (fun v b' hp' => .int .i64 (x16) = v ∧ R = hp') := by
  refine fn_enterG 143 Tryd.func126 rfl Tryd.ntmps126 rfl ?_
  unfold mStringsliteIndex at hm
  refine c_seq ?_
  refine c_region ?_
  refine t_st rfl (st_assign rfl) ?_
  refine t_nil ?_
  refine x_then_normal ?_
  refine c_seq ?_
  refine c_region ?_
  refine t_st rfl (st_move rfl) ?_
  refine t_st rfl (st_slen rfl str9) ?_
  refine t_st rfl (st_assign rfl) ?_
  refine t_nil ?_
  refine x_then_normal ?_
  refine c_seq ?_
  refine c_block ?_
  obtain ⟨x20, hj21, hk21⟩ := bindS hm
  refine c_join (fun b18 e' hp' => [(0, .string (x1)), (1, .string (x2)), (5, .int .i64 ((x2.size : Int))), (16, .bool (x20))] = e' ∧ R = hp' ∧ b.Le b18) ?_ ?_
  ·
    have hm := hj21
    refine c_region ?_
    refine t_st rfl (st_move rfl) ?_
    refine t_bool rfl (st_eql rfl rfl) (fun hc22 => ?_) (fun hc22 => ?_)
    ·
      rw [if_pos hc22] at hm
      refine t_st rfl (st_move rfl) ?_
      refine t_no 19 rfl rfl rfl rfl rfl ?_
      refine t_no 19 rfl rfl rfl rfl rfl ?_
      refine t_no 19 rfl rfl rfl rfl rfl ?_
      refine t_st rfl (st_pick_t rfl rfl) ?_
      refine t_st rfl (st_assign rfl) ?_
      refine t_nil ?_
      obtain rfl := some1 hm
      exact x_join (e' := [(0, .string (x1)), (1, .string (x2)), (5, .int .i64 ((x2.size : Int))), (16, .bool (true))]) (hp' := R) ⟨rfl, rfl, rfl, rfl, trivial⟩ (.refl _) ⟨rfl, rfl, (Base.Le.refl _)⟩
    ·
      rw [if_neg hc22] at hm
      refine t_st rfl (st_move rfl) ?_
      refine t_yes 19 rfl rfl rfl ?_
      refine t_st rfl (st_move rfl) ?_
      refine t_yes 19 rfl rfl rfl ?_
      refine t_st rfl (st_move rfl) ?_
      refine t_yes 19 rfl rfl rfl ?_
      refine t_st rfl (st_seql rfl rfl) ?_
      refine t_st rfl (st_pick_f rfl rfl) ?_
      refine t_st rfl (st_assign rfl) ?_
      refine t_nil ?_
      obtain rfl := some1 hm
      exact x_join (e' := [(0, .string (x1)), (1, .string (x2)), (5, .int .i64 ((x2.size : Int))), (16, .bool (sEq x2 x1))]) (hp' := R) ⟨rfl, rfl, rfl, rfl, trivial⟩ (.refl _) ⟨rfl, rfl, (Base.Le.refl _)⟩
  ·
    rintro b18 _ _ ⟨rfl, rfl, hle19⟩
    have hm := hk21
    refine c_cond _ rfl (fun hc23 => ?_) (fun hc23 => ?_)
    ·
      rw [if_pos hc23] at hm
      refine c_seq ?_
      refine c_region ?_
      refine t_st rfl (st_assign rfl) ?_
      refine t_nil ?_
      refine x_then_normal ?_
      refine c_ret ?_
      refine x_block_ret ?_
      refine x_then_ret ?_
      obtain rfl := some1 hm
      exact retM (rs := [.tmp 4]) [.int .i64 (0)] hle19 (by decide) rfl ⟨rfl, trivial⟩ rfl (hp' := R) (.refl _) ⟨rfl, rfl⟩
    ·
      rw [if_neg (fun hh => Bool.noConfusion (hh.symm.trans hc23))] at hm
      refine c_seq ?_
      refine c_region ?_
      refine t_st rfl (st_move rfl) ?_
      refine t_st rfl (st_eql rfl rfl) ?_
      refine t_st rfl (st_assign rfl) ?_
      refine t_nil ?_
      refine x_then_normal ?_
      refine c_cond _ rfl (fun hc24 => ?_) (fun hc24 => ?_)
      ·
        rw [if_pos (of_decide_eq_true hc24)] at hm
        refine c_seq ?_
        refine c_region ?_
        refine t_st rfl (st_move rfl) ?_
        refine t_st rfl (st_move rfl) ?_
        obtain ⟨x25, h26, hm⟩ := bindS hm
        refine t_st rfl (st_sidx rfl rfl h26 str9) ?_
        obtain ⟨x27, hcl28, hm⟩ := bindS hm
        refine t_do rfl (u_callW0 _ call141 rfl (fun w ho => cStringsliteIndexByte _ [] x1 x25 x27 hcl28) (fun _ _ _ h => h.2.symm)) ?_
        rintro _ _ ⟨⟨_, rfl, _⟩, rfl⟩
        refine t_st rfl (st_assign rfl) ?_
        refine t_nil ?_
        refine x_then_normal ?_
        refine c_ret ?_
        refine x_block_ret ?_
        refine x_then_ret ?_
        obtain rfl := some1 hm
        exact retM (rs := [.tmp 4]) [.int .i64 (x27)] hle19 (by decide) rfl ⟨rfl, trivial⟩ rfl (hp' := R) (.refl _) ⟨rfl, rfl⟩
      ·
        rw [if_neg (of_decide_eq_false hc24)] at hm
        refine c_seq ?_
        refine c_region ?_
        refine t_st rfl (st_move rfl) ?_
        refine t_st rfl (st_move rfl) ?_
        refine t_st rfl (st_slen rfl str9) ?_
        refine t_st rfl (st_geq rfl rfl) ?_
        refine t_st rfl (st_assign rfl) ?_
        refine t_nil ?_
        refine x_then_normal ?_
        refine c_cond _ rfl (fun hc29 => ?_) (fun hc29 => ?_)
        ·
          rw [if_pos (of_decide_eq_true hc29)] at hm
          refine c_seq ?_
          refine c_region ?_
          refine t_st rfl (st_assign rfl) ?_
          refine t_nil ?_
          refine x_then_normal ?_
          refine c_ret ?_
          refine x_block_ret ?_
          refine x_then_ret ?_
          obtain rfl := some1 hm
          exact retM (rs := [.tmp 4]) [.int .i64 ((-1))] hle19 (by decide) rfl ⟨rfl, trivial⟩ rfl (hp' := R) (.refl _) ⟨rfl, rfl⟩
        ·
          rw [if_neg (of_decide_eq_false hc29)] at hm
          refine c_seq ?_
          refine c_region ?_
          refine t_st rfl (st_move rfl) ?_
          cases hm

set_option maxRecDepth 20000 in
theorem cStringsIndex (b : Base) (R : Hp) (x1 : ByteArray) (x2 : ByteArray) (x5 : Int) (hm : mStringsIndex x1 x2 = some x5) :
    CallsG Tryd.prog 107 [.string (x1), .string (x2)] b (R) (fun v b' hp' => .int .i64 (x5) = v ∧ R = hp') := by
  refine fn_enterG 8 Tryd.func107 rfl Tryd.ntmps107 rfl ?_
  unfold mStringsIndex at hm
  refine c_seq ?_
  refine c_region ?_
  refine t_st rfl (st_assign rfl) ?_
  refine t_nil ?_
  refine x_then_normal ?_
  refine c_seq ?_
  refine c_region ?_
  refine t_st rfl (st_move rfl) ?_
  refine t_st rfl (st_move rfl) ?_
  obtain ⟨x6, hcl7, hm⟩ := bindS hm
  refine t_do rfl (u_callW0 _ call126 rfl (fun w ho => cStringsliteIndex _ [] x1 x2 x6 hcl7) (fun _ _ _ h => h.2.symm)) ?_
  rintro _ _ ⟨⟨_, rfl, _⟩, rfl⟩
  refine t_st rfl (st_assign rfl) ?_
  refine t_nil ?_
  refine x_then_normal ?_
  refine c_ret ?_
  obtain rfl := some1 hm
  exact retM (rs := [.tmp 4]) [.int .i64 (x6)] (Base.Le.refl _) (by decide) rfl ⟨rfl, trivial⟩ rfl (hp' := R) (.refl _) ⟨rfl, rfl⟩

set_option maxRecDepth 20000 in
theorem cStringsCount (b : Base) (R : Hp) (x1 : ByteArray) (x2 : ByteArray) (x35 : Int) (hm : mStringsCount x1 x2 = some x35) :
    CallsG Tryd.prog 106 [.string (x1), .string (x2)] b (R) (fun v b' hp' => .int .i64 (x35) = v ∧ R = hp') := by
  refine fn_enterG 34 Tryd.func106 rfl Tryd.ntmps106 rfl ?_
  unfold mStringsCount at hm
  refine c_seq ?_
  refine c_region ?_
  refine t_st rfl (st_assign rfl) ?_
  refine t_nil ?_
  refine x_then_normal ?_
  refine c_seq ?_
  refine c_seq ?_
  refine c_region ?_
  refine t_st rfl (st_move rfl) ?_
  refine t_st rfl (st_slen rfl str9) ?_
  refine t_st rfl (st_eql rfl rfl) ?_
  refine t_nil ?_
  refine x_then_normal ?_
  refine c_cond _ rfl (fun hc36 => ?_) (fun hc36 => ?_)
  ·
    rw [if_pos (of_decide_eq_true hc36)] at hm
    refine c_seq ?_
    refine c_region ?_
    refine t_st rfl (st_move rfl) ?_
    cases hm
  ·
    rw [if_neg (of_decide_eq_false hc36)] at hm
    refine c_skip ?_
    refine x_then_normal ?_
    refine c_seq ?_
    refine c_seq ?_
    refine c_region ?_
    refine t_st rfl (st_move rfl) ?_
    refine t_st rfl (st_slen rfl str9) ?_
    refine t_st rfl (st_eql rfl rfl) ?_
    refine t_nil ?_
    refine x_then_normal ?_
    refine c_cond _ rfl (fun hc37 => ?_) (fun hc37 => ?_)
    ·
      rw [if_pos (of_decide_eq_true hc37)] at hm
      refine c_seq ?_
      refine c_region ?_
      refine t_st rfl (st_move rfl) ?_
      refine t_st rfl (st_move rfl) ?_
      obtain ⟨x38, h39, hm⟩ := bindS hm
      refine t_st rfl (st_sidx rfl rfl h39 str9) ?_
      refine t_st rfl (st_extern ext125_1 ext125_2 ext125_3 ext125_4 ext125_5 rfl (run_sCount _ _)) ?_
      refine t_st rfl (st_assign rfl) ?_
      refine t_nil ?_
      refine x_then_normal ?_
      refine c_ret ?_
      refine x_then_ret ?_
      obtain rfl := some1 hm
      exact retM (rs := [.tmp 4]) [.int .i64 ((sCount x1 x38))] (Base.Le.refl _) (by decide) rfl ⟨rfl, trivial⟩ rfl (hp' := R) (.refl _) ⟨rfl, rfl⟩
    ·
      rw [if_neg (of_decide_eq_false hc37)] at hm
      refine c_skip ?_
      refine x_then_normal ?_
      refine c_seq ?_
      refine c_region ?_
      refine t_st rfl (st_assign rfl) ?_
      refine t_nil ?_
      refine x_then_normal ?_
      refine c_block ?_
      refine c_loopM (unc2 fun x59 x60 => fun b57 e' hp' => [(0, .string (x59)), (1, .string (x2)), (5, .int .i64 (x60))] = e' ∧ R = hp' ∧ b.Le b57) hm (e' := [(0, .string (x1)), (1, .string (x2)), (5, .int .i64 (0))]) (hp' := R) ⟨rfl, rfl, rfl, trivial⟩ (.refl _) ⟨rfl, rfl, (Base.Le.refl _)⟩ ?_
      rintro ⟨x59, x60⟩ b57 _ _ oL40 ⟨rfl, rfl, hle58⟩ hstepL40 houtL40
      unfold mStringsCount_L40 at hstepL40
      have hm := (unc2E hstepL40)
      refine c_block ?_
      refine c_seq ?_
      refine c_region ?_
      refine t_st rfl (st_move rfl) ?_
      refine t_st rfl (st_move rfl) ?_
      obtain ⟨x61, hcl62, hm⟩ := bindS hm
      refine t_do rfl (u_callW0 _ call107 rfl (fun w ho => cStringsIndex _ [] x59 x2 x61 hcl62) (fun _ _ _ h => h.2.symm)) ?_
      rintro _ _ ⟨⟨_, rfl, _⟩, rfl⟩
      refine t_st rfl (st_assign rfl) ?_
      refine t_nil ?_
      refine x_then_normal ?_
      refine c_seq ?_
      refine c_seq ?_
      refine c_region ?_
      refine t_st rfl (st_move rfl) ?_
      refine t_st rfl (st_eql rfl rfl) ?_
      refine t_nil ?_
      refine x_then_normal ?_
      refine c_cond _ rfl (fun hc63 => ?_) (fun hc63 => ?_)
      ·
        rw [if_pos (of_decide_eq_true hc63)] at hm
        refine c_seq ?_
        refine c_region ?_
        refine t_st rfl (st_move rfl) ?_
        refine t_st rfl (st_assign rfl) ?_
        refine t_nil ?_
        refine x_then_normal ?_
        refine c_ret ?_
        refine x_then_ret ?_
        refine x_block_ret ?_
        refine x_then_ret ?_
        refine x_block_ret ?_
        have hm := congrArg some (houtL40 _ (Option.some.inj hm).symm)
        obtain rfl := some1 hm
        exact retM (rs := [.tmp 4]) [.int .i64 (x60)] hle58 (by decide) rfl ⟨rfl, trivial⟩ rfl (hp' := R) (.refl _) ⟨rfl, rfl⟩
      ·
        rw [if_neg (of_decide_eq_false hc63)] at hm
        refine c_skip ?_
        refine x_then_normal ?_
        refine c_seq ?_
        refine c_region ?_
        refine t_st rfl (st_move rfl) ?_
        obtain ⟨_, h64, hm⟩ := bindS hm
        have h64 := (chk_some h64).2
        refine t_st rfl (st_add rfl rfl h64) ?_
        refine t_st rfl (st_assign rfl) ?_
        refine t_nil ?_
        refine x_then_normal ?_
        refine c_region ?_
        refine t_st rfl (st_move rfl) ?_
        refine t_st rfl (st_move rfl) ?_
        refine t_st rfl (st_move rfl) ?_
        refine t_st rfl (st_slen rfl str9) ?_
        obtain ⟨_, h65, hm⟩ := bindS hm
        have h65 := (chk_some h65).2
        refine t_st rfl (st_add rfl rfl h65) ?_
        obtain ⟨q66, h67, hm⟩ := bindS hm
        refine t_st rfl (st_scut rfl (.inr ⟨_, _, rfl, rfl⟩) (.inl ⟨rfl, rfl⟩) h67 str9) ?_
        refine t_st rfl (st_assign rfl) ?_
        refine t_nil ?_
        refine x_block_normal ?_
        exact x_againM (q66, x60 + 1) (Option.some.inj hm).symm (e' := [(0, .string (q66)), (1, .string (x2)), (5, .int .i64 (x60 + 1))]) (hp' := R) ⟨rfl, rfl, rfl, trivial⟩ (.refl _) ⟨rfl, rfl, (hle58)⟩

set_option maxRecDepth 20000 in
theorem cStringsGenSplit (b : Base) (R : Hp) (x1 : ByteArray) (x2 : ByteArray) (x3 : Int) (x4 : Int) (l282 : (List ByteArray)) (hm : mStringsGenSplit x1 x2 x3 x4 = some l282) :
    CallsG Tryd.prog 81 [.string (x1), .string (x2), .int .i64 (x3), .int .i64 (x4)] b (R) (fun v b' hp' => ∃ (A279 : Option Addr), ∃ (c280 : Nat), ∃ (hs278 : Hp), .slice A279 (l282).length c280 = v ∧ (hs278 ++ R) = hp' ∧ OS 9 (OT.fr RT.str) b'.w (.slice A279 l282.length c280) l282 hs278) := by
  refine fn_enterG 66 Tryd.func81 rfl Tryd.ntmps81 rfl ?_
  unfold mStringsGenSplit at hm
  refine c_seq ?_
  refine c_region ?_
  refine t_st rfl (st_assign rfl) ?_
  refine t_nil ?_
  refine x_then_normal ?_
  refine c_seq ?_
  refine c_seq ?_
  refine c_region ?_
  refine t_st rfl (st_move rfl) ?_
  refine t_st rfl (st_eql rfl rfl) ?_
  refine t_nil ?_
  refine x_then_normal ?_
  refine c_cond _ rfl (fun hc283 => ?_) (fun hc283 => ?_)
  ·
    rw [if_pos (of_decide_eq_true hc283)] at hm
    refine c_seq ?_
    refine c_region ?_
    refine t_st rfl (st_assign rfl) ?_
    refine t_nil ?_
    refine x_then_normal ?_
    refine c_ret ?_
    refine x_then_ret ?_
    obtain rfl := some1 hm
    exact retM (rs := [.tmp 8]) [.slice none 0 0] (Base.Le.refl _) (by decide) rfl ⟨rfl, trivial⟩ rfl (hp' := ([] ++ R)) (.refl _) ⟨none, 0, [], rfl, rfl, OS.nil⟩
  ·
    rw [if_neg (of_decide_eq_false hc283)] at hm
    refine c_skip ?_
    refine x_then_normal ?_
    refine c_seq ?_
    refine c_seq ?_
    refine c_region ?_
    refine t_st rfl (st_move rfl) ?_
    refine t_st rfl (st_seql rfl rfl) ?_
    refine t_nil ?_
    refine x_then_normal ?_
    refine c_cond _ rfl (fun hc284 => ?_) (fun hc284 => ?_)
    ·
      rw [if_pos hc284] at hm
      refine c_seq ?_
      refine c_region ?_
      refine t_st rfl (st_move rfl) ?_
      refine t_st rfl (st_move rfl) ?_
      cases hm
    ·
      rw [if_neg (fun hh => Bool.noConfusion (hh.symm.trans hc284))] at hm
      refine c_skip ?_
      refine x_then_normal ?_
      obtain ⟨x291, hj292, hk292⟩ := bindS hm
      refine c_join (fun b289 e' hp' => [(0, .string (x1)), (1, .string (x2)), (2, .int .i64 (x3)), (3, .int .i64 (x291))] = e' ∧ R = hp' ∧ b.Le b289) ?_ ?_
      ·
        have hm := hj292
        refine c_seq ?_
        refine c_region ?_
        refine t_st rfl (st_move rfl) ?_
        refine t_st rfl (st_lss rfl rfl) ?_
        refine t_nil ?_
        refine x_then_normal ?_
        refine c_cond _ rfl (fun hc293 => ?_) (fun hc293 => ?_)
        ·
          rw [if_pos (of_decide_eq_true hc293)] at hm
          refine c_region ?_
          refine t_st rfl (st_move rfl) ?_
          refine t_st rfl (st_move rfl) ?_
          obtain ⟨x294, hcl295, hm⟩ := bindS hm
          refine t_do rfl (u_callW0 _ call106 rfl (fun w ho => cStringsCount _ [] x1 x2 x294 hcl295) (fun _ _ _ h => h.2.symm)) ?_
          rintro _ _ ⟨⟨_, rfl, _⟩, rfl⟩
          obtain ⟨_, h296, hm⟩ := bindS hm
          have h296 := (chk_some h296).2
          refine t_st rfl (st_add rfl rfl h296) ?_
          refine t_st rfl (st_assign rfl) ?_
          refine t_nil ?_
          obtain rfl := some1 hm
          exact x_join (e' := [(0, .string (x1)), (1, .string (x2)), (2, .int .i64 (x3)), (3, .int .i64 (x294 + 1))]) (hp' := R) ⟨rfl, rfl, rfl, rfl, trivial⟩ (.refl _) ⟨rfl, rfl, (Base.Le.refl _)⟩
        ·
          rw [if_neg (of_decide_eq_false hc293)] at hm
          refine c_skip ?_
          obtain rfl := some1 hm
          exact x_join (e' := [(0, .string (x1)), (1, .string (x2)), (2, .int .i64 (x3)), (3, .int .i64 (x4))]) (hp' := R) ⟨rfl, rfl, rfl, rfl, trivial⟩ (.refl _) ⟨rfl, rfl, (Base.Le.refl _)⟩
      ·
        rintro b289 _ _ ⟨rfl, rfl, hle290⟩
        have hm := hk292
        refine c_seq ?_
        refine c_region ?_
        refine t_st rfl (st_move rfl) ?_
        refine t_st rfl (st_move rfl) ?_
        refine t_st rfl (st_slen rfl str9) ?_
        obtain ⟨_, h297, hm⟩ := bindS hm
        have h297 := (chk_some h297).2
        refine t_st rfl (st_add rfl rfl h297) ?_
        refine t_st rfl (st_min rfl rfl) ?_
        refine t_st rfl (st_assign rfl) ?_
        refine t_nil ?_
        refine x_then_normal ?_
        refine c_seq ?_
        refine c_region ?_
        refine t_st rfl (st_move rfl) ?_
        obtain ⟨m298, h299, hm⟩ := bindS hm
        have h299 := mkLen_some h299
        refine t_do rfl (u_mkOS (r := RT.str) [] R [.string (ByteArray.empty)] ByteArray.empty m298 rfl h299.1 rfl rfl sl109 inf9 rfl rfl rfl (by decide) rfl h299.2.1 h299.2.2) ?_
        rintro _ _ ⟨hs300, rfl, h301⟩
        obtain ⟨A302, c303, rfl, _⟩ := h301.form
        refine t_st rfl (st_assign rfl) ?_
        refine t_nil ?_
        refine x_then_normal ?_
        refine c_seq ?_
        refine c_region ?_
        refine t_st rfl (st_move rfl) ?_
        obtain ⟨_, h304, hm⟩ := bindS hm
        have h304 := (chk_some h304).2
        refine t_st rfl (st_sub rfl rfl h304) ?_
        refine t_st rfl (st_assign rfl) ?_
        refine t_nil ?_
        refine x_then_normal ?_
        refine c_seq ?_
        refine c_region ?_
        refine t_st rfl (st_assign rfl) ?_
        refine t_nil ?_
        refine x_then_normal ?_
        obtain ⟨⟨x414, x415, l416⟩, hj418, hk418⟩ := bindS hm
        refine c_join (fun b409 e' hp' => ∃ (hs412 : Hp), [(0, .string (x414)), (9, .slice A302 (l416).length c303), (10, .int .i64 (x415))] = e' ∧ (hs412 ++ R) = hp' ∧ b289.Le b409 ∧ OS 9 (OT.fr RT.str) b409.w (.slice A302 l416.length c303) l416 hs412 ∧ l416.length = m298) ?_ ?_
        ·
          have hm := hj418
          refine c_block ?_
          refine c_loopM (unc3 fun x490 x491 l492 => fun b485 e' hp' => ∃ (hs488 : Hp), [(0, .string (x490)), (1, .string (x2)), (2, .int .i64 (x3)), (3, .int .i64 ((min x291 ((x1.size : Int) + 1)) - 1)), (9, .slice A302 (l492).length c303), (10, .int .i64 (x491))] = e' ∧ (hs488 ++ R) = hp' ∧ b289.Le b485 ∧ OS 9 (OT.fr RT.str) b485.w (.slice A302 l492.length c303) l492 hs488 ∧ l492.length = m298) hm (e' := [(0, .string (x1)), (1, .string (x2)), (2, .int .i64 (x3)), (3, .int .i64 ((min x291 ((x1.size : Int) + 1)) - 1)), (9, .slice A302 (List.replicate m298 (ByteArray.empty : ByteArray)).length c303), (10, .int .i64 (0))]) (hp' := (hs300 ++ R)) ⟨rfl, rfl, rfl, rfl, rfl, rfl, trivial⟩ (sub_app hs300 (.refl _)) ⟨hs300, rfl, rfl, (Base.Le.refl _), h301, List.length_replicate⟩ ?_
          rintro ⟨x490, x491, l492⟩ b485 _ _ oL419 ⟨hs488, rfl, rfl, hle486, h489, hln493⟩ hstepL419 houtL419
          unfold mStringsGenSplit_L419 at hstepL419
          have hm := (unc3E hstepL419)
          refine c_seq ?_
          refine c_seq ?_
          refine c_region ?_
          refine t_st rfl (st_move rfl) ?_
          refine t_st rfl (st_move rfl) ?_
          refine t_st rfl (st_lss rfl rfl) ?_
          refine t_nil ?_
          refine x_then_normal ?_
          refine c_cond _ rfl (fun hc494 => ?_) (fun hc494 => ?_)
          ·
            rw [if_pos (of_decide_eq_true hc494)] at hm
            refine c_skip ?_
            refine x_then_normal ?_
            refine c_block ?_
            refine c_seq ?_
            refine c_region ?_
            refine t_st rfl (st_move rfl) ?_
            refine t_st rfl (st_move rfl) ?_
            obtain ⟨x495, hcl496, hm⟩ := bindS hm
            refine t_do rfl (u_callW0 _ call107 rfl (fun w ho => cStringsIndex _ [] x490 x2 x495 hcl496) (fun _ _ _ h => h.2.symm)) ?_
            rintro _ _ ⟨⟨_, rfl, _⟩, rfl⟩
            refine t_st rfl (st_assign rfl) ?_
            refine t_nil ?_
            refine x_then_normal ?_
            refine c_seq ?_
            refine c_seq ?_
            refine c_region ?_
            refine t_st rfl (st_move rfl) ?_
            refine t_st rfl (st_lss rfl rfl) ?_
            refine t_nil ?_
            refine x_then_normal ?_
            refine c_cond _ rfl (fun hc497 => ?_) (fun hc497 => ?_)
            ·
              rw [if_pos (of_decide_eq_true hc497)] at hm
              refine c_exit ?_
              refine x_then_exit ?_
              refine x_block_on rfl ?_
              refine x_then_exit ?_
              refine x_block_out ?_
              have hm := congrArg some (houtL419 _ (Option.some.inj hm).symm)
              obtain ⟨rfl, rfl, rfl⟩ := some3 hm
              exact x_join (e' := [(0, .string (x490)), (9, .slice A302 (l492).length c303), (10, .int .i64 (x491))]) (hp' := (hs488 ++ R)) ⟨rfl, rfl, rfl, trivial⟩ (sub_app hs488 (.refl _)) ⟨hs488, rfl, rfl, hle486, h489, hln493⟩
            ·
              rw [if_neg (of_decide_eq_false hc497)] at hm
              refine c_skip ?_
              refine x_then_normal ?_
              refine c_seq ?_
              refine c_region ?_
              refine t_st rfl (st_move rfl) ?_
              refine t_st rfl (st_move rfl) ?_
              refine t_st rfl (st_move rfl) ?_
              refine t_st rfl (st_move rfl) ?_
              refine t_st rfl (st_move rfl) ?_
              obtain ⟨_, h498, hm⟩ := bindS hm
              have h498 := (chk_some h498).2
              refine t_st rfl (st_add rfl rfl h498) ?_
              obtain ⟨q499, h500, hm⟩ := bindS hm
              refine t_st rfl (st_scut rfl (.inl ⟨rfl, rfl⟩) (.inr ⟨_, _, rfl, rfl⟩) h500 str9) ?_
              obtain ⟨x501, h502, hm⟩ := bindS hm
              obtain ⟨j503, hj504, hx505⟩ := idx_some h502
              obtain ⟨cs506, hs511, P512, P513, hq514, hr507, hcs508, hA509, hlt510, hb515, hho516⟩ := OS.get (sz := 1) rfl (by decide) h489 hx505
              obtain ⟨rfl, rfl⟩ := hr507
              refine t_st rfl (st_index_old j503 rfl rfl hj504 hlt510 hA509 sl109) ?_
              refine t_do rfl (u_putOS hj504 (sz := 1) (a' := q499) rfl [] R 0 1 [.string (q499)] rfl h489 hx505 rfl rfl rfl siz9 rfl (by intro u hu; simp only [List.mem_cons, List.not_mem_nil, or_false] at hu; subst hu; rfl) (fun cs hsj hh => by obtain ⟨rfl, rfl⟩ := hh; exact ⟨by decide, rfl, rfl⟩)) ?_
              rintro _ _ ⟨hs517, rfl, h518⟩
              refine t_resp 9 rfl (v' := .slice A302 (put l492 x491 q499).length c303) (by simp only [put_length]) ?_
              refine t_nil ?_
              refine x_then_normal ?_
              refine c_seq ?_
              refine c_region ?_
              refine t_st rfl (st_move rfl) ?_
              refine t_st rfl (st_move rfl) ?_
              refine t_st rfl (st_move rfl) ?_
              refine t_st rfl (st_slen rfl str9) ?_
              obtain ⟨_, h519, hm⟩ := bindS hm
              have h519 := (chk_some h519).2
              refine t_st rfl (st_add rfl rfl h519) ?_
              obtain ⟨q520, h521, hm⟩ := bindS hm
              refine t_st rfl (st_scut rfl (.inr ⟨_, _, rfl, rfl⟩) (.inl ⟨rfl, rfl⟩) h521 str9) ?_
              refine t_st rfl (st_assign rfl) ?_
              refine t_nil ?_
              refine x_then_normal ?_
              refine c_region ?_
              refine t_st rfl (st_move rfl) ?_
              obtain ⟨_, h522, hm⟩ := bindS hm
              have h522 := (chk_some h522).2
              refine t_st rfl (st_add rfl rfl h522) ?_
              refine t_st rfl (st_assign rfl) ?_
              refine t_nil ?_
              refine x_block_normal ?_
              exact x_againM (q520, x491 + 1, put l492 x491 q499) (Option.some.inj hm).symm (e' := [(0, .string (q520)), (1, .string (x2)), (2, .int .i64 (x3)), (3, .int .i64 ((min x291 ((x1.size : Int) + 1)) - 1)), (9, .slice A302 (put l492 x491 q499).length c303), (10, .int .i64 (x491 + 1))]) (hp' := (hs517 ++ R)) ⟨rfl, rfl, rfl, rfl, rfl, rfl, trivial⟩ (sub_app hs517 (.refl _)) ⟨hs517, rfl, rfl, (hle486), h518, ((put_length _ _ _).trans hln493)⟩
          ·
            rw [if_neg (of_decide_eq_false hc494)] at hm
            refine c_exit ?_
            refine x_then_exit ?_
            refine x_then_exit ?_
            refine x_block_out ?_
            have hm := congrArg some (houtL419 _ (Option.some.inj hm).symm)
            obtain ⟨rfl, rfl, rfl⟩ := some3 hm
            exact x_join (e' := [(0, .string (x490)), (9, .slice A302 (l492).length c303), (10, .int .i64 (x491))]) (hp' := (hs488 ++ R)) ⟨rfl, rfl, rfl, trivial⟩ (sub_app hs488 (.refl _)) ⟨hs488, rfl, rfl, hle486, h489, hln493⟩
        ·
          rintro b409 _ _ ⟨hs412, rfl, rfl, hle410, h413, hln417⟩
          have hm := (unc3E hk418)
          refine c_seq ?_
          refine c_region ?_
          refine t_st rfl (st_move rfl) ?_
          refine t_st rfl (st_move rfl) ?_
          refine t_st rfl (st_move rfl) ?_
          obtain ⟨x523, h524, hm⟩ := bindS hm
          obtain ⟨j525, hj526, hx527⟩ := idx_some h524
          obtain ⟨cs528, hs533, P534, P535, hq536, hr529, hcs530, hA531, hlt532, hb537, hho538⟩ := OS.get (sz := 1) rfl (by decide) h413 hx527
          obtain ⟨rfl, rfl⟩ := hr529
          refine t_st rfl (st_index_old j525 rfl rfl hj526 hlt532 hA531 sl109) ?_
          refine t_do rfl (u_putOS hj526 (sz := 1) (a' := x414) rfl [] R 0 1 [.string (x414)] rfl h413 hx527 rfl rfl rfl siz9 rfl (by intro u hu; simp only [List.mem_cons, List.not_mem_nil, or_false] at hu; subst hu; rfl) (fun cs hsj hh => by obtain ⟨rfl, rfl⟩ := hh; exact ⟨by decide, rfl, rfl⟩)) ?_
          rintro _ _ ⟨hs539, rfl, h540⟩
          refine t_resp 9 rfl (v' := .slice A302 (put l416 x415 x414).length c303) (by simp only [put_length]) ?_
          refine t_nil ?_
          refine x_then_normal ?_
          refine c_seq ?_
          refine c_region ?_
          refine t_st rfl (st_move rfl) ?_
          refine t_st rfl (st_move rfl) ?_
          obtain ⟨_, h541, hm⟩ := bindS hm
          have h541 := (chk_some h541).2
          refine t_st rfl (st_add rfl rfl h541) ?_
          obtain ⟨l542, h543, hm⟩ := bindS hm
          obtain ⟨j544, j545, hj546, hj547, hj548, hj549, hx550⟩ := cutS_some h543
          have h551 := OS.lc h540
          refine t_st rfl (hx550 ▸ st_part (l := put l416 x415 x414) j544 j545 rfl (.inl ⟨rfl, by omega⟩) (.inr ⟨_, _, _, rfl, rfl, hj547⟩) hj548 hj549 h551 sl109) ?_
          obtain ⟨hs552, hq553, h554⟩ := OS.sub (sz := 1) rfl h540 hj548 hj549
          rw [← hx550] at h554
          refine t_less [] hs539 hs552 R rfl hq553 ?_
          refine t_st rfl (st_assign rfl) ?_
          refine t_nil ?_
          refine x_then_normal ?_
          refine c_ret ?_
          obtain rfl := some1 hm
          exact retM (rs := [.tmp 8]) [.slice (subA A302 c303 j544 1) (l542).length (c303 - j544)] (hle290.trans hle410) (by decide) rfl ⟨rfl, trivial⟩ rfl (hp' := (hs552 ++ R)) (sub_app hs552 (.refl _)) ⟨(subA A302 c303 j544 1), (c303 - j544), hs552, rfl, rfl, h554⟩

set_option maxRecDepth 20000 in
theorem cStringsSplit (b : Base) (R : Hp) (x1 : ByteArray) (x2 : ByteArray) (l16 : (List ByteArray)) (hm : mStringsSplit x1 x2 = some l16) :
    CallsG Tryd.prog 55 [.string (x1), .string (x2)] b (R) (fun v b' hp' => ∃ (A13 : Option Addr), ∃ (c14 : Nat), ∃ (hs12 : Hp), .slice A13 (l16).length c14 = v ∧ (hs12 ++ R) = hp' ∧ OS 9 (OT.fr RT.str) b'.w (.slice A13 l16.length c14) l16 hs12) := by
  refine fn_enterG 8 Tryd.func55 rfl Tryd.ntmps55 rfl ?_
  unfold mStringsSplit at hm
  refine c_seq ?_
  refine c_region ?_
  refine t_st rfl (st_assign rfl) ?_
  refine t_nil ?_
  refine x_then_normal ?_
  refine c_seq ?_
  refine c_region ?_
  refine t_st rfl (st_move rfl) ?_
  refine t_st rfl (st_move rfl) ?_
  obtain ⟨l17, hcl18, hm⟩ := bindS hm
  refine t_callG _ rfl call81 rfl (cStringsGenSplit _ _ x1 x2 0 (-1) l17 hcl18) ?_
  rintro _ b19 _ hle20 ⟨A21, c22, hs23, rfl, rfl, h24⟩
  refine t_in1 [] [] hs23 R rfl ?_
  refine t_st rfl (st_assign rfl) ?_
  refine t_nil ?_
  refine x_then_normal ?_
  refine c_ret ?_
  obtain rfl := some1 hm
  exact retM (rs := [.tmp 4]) [.slice A21 (l17).length c22] hle20 (by decide) rfl ⟨rfl, trivial⟩ rfl (hp' := (hs23 ++ R)) (sub_app hs23 (.refl _)) ⟨A21, c22, hs23, rfl, rfl, h24⟩

set_option maxRecDepth 20000 in
theorem cStrconvAtoi (b : Base) (R : Hp) (hG : GLo 2 3 b.w) (x1 : ByteArray) (x2 : Int) (q3 : Bool) (hm : mStrconvAtoi x1 = some (x2, q3)) :
    CallsG Tryd.prog 103 [.string (x1)] b (R) (fun v b' hp' => ∃ (v4 : Value), .tuple #[.int .i64 (x2), v4] = v ∧ R = hp' ∧ ErrV v4 q3) := by
  unfold mStrconvAtoi at hm
  exact atoi_c hG hm

set_option maxRecDepth 20000 in
theorem cLineNumber (b : Base) (R : Hp) (hG : GLo 2 3 b.w) (x1 : ByteArray) (x14 : Int) (hm : mLineNumber x1 = some x14) :
    CallsG Tryd.prog 80 [.string (x1)] b (R) (fun v b' hp' => .tuple #[.int .i64 (x14), .bool (false)] = v ∧ R = hp') := by
  refine fn_enterG 26 Tryd.func80 rfl Tryd.ntmps80 rfl ?_
  unfold mLineNumber at hm
  refine c_seq ?_
  refine c_region ?_
  refine t_st rfl (st_assign rfl) ?_
  refine t_st rfl (st_assign rfl) ?_
  refine t_nil ?_
  refine x_then_normal ?_
  refine c_seq ?_
  refine c_region ?_
  refine t_st rfl (st_move rfl) ?_
  obtain ⟨⟨x15, q16⟩, hcl17, hm⟩ := bindS hm
  have hm := (unc2E hm)
  refine t_callG _ rfl call103 rfl (cStrconvAtoi _ _ (hG.le (Base.Le.refl _)) x1 x15 q16 hcl17) ?_
  rintro _ b18 _ hle19 ⟨v20, rfl, rfl, h21⟩
  refine t_st rfl (st_move rfl) ?_
  refine t_st rfl (st_extract rfl rfl) ?_
  refine t_st rfl (st_extract rfl rfl) ?_
  refine t_st rfl (st_assign rfl) ?_
  refine t_st rfl (st_assign rfl) ?_
  refine t_nil ?_
  refine x_then_normal ?_
  obtain ⟨_, hj25, hk25⟩ := bindS hm
  refine c_join (fun b23 e' hp' => [(2, .int .i64 (x15)), (3, .bool (false))] = e' ∧ R = hp' ∧ b18.Le b23) ?_ ?_
  ·
    have hm := hj25
    refine c_region ?_
    refine t_st rfl (st_move rfl) ?_
    refine t_st rfl (st_move rfl) ?_
    refine t_st rfl (st_eqlE rfl h21 ift149) ?_
    rcases Bool.eq_false_or_eq_true q16 with hc26 | hc26
    ·
      rw [if_pos hc26] at hm
      refine t_resp 13 rfl (v' := .bool true) (by rw [hc26] <;> rfl) ?_
      refine t_st rfl (st_move rfl) ?_
      refine t_yes 14 rfl rfl rfl ?_
      refine t_st rfl (st_move rfl) ?_
      refine t_yes 14 rfl rfl rfl ?_
      cases hm
    ·
      rw [if_neg (fun hh => Bool.noConfusion (hh.symm.trans hc26))] at hm
      refine t_resp 13 rfl (v' := .bool false) (by rw [hc26] <;> rfl) ?_
      refine t_st rfl (st_move rfl) ?_
      refine t_no 14 rfl rfl rfl rfl rfl ?_
      refine t_no 14 rfl rfl rfl rfl rfl ?_
      refine t_no 14 rfl rfl rfl rfl rfl ?_
      refine t_no 14 rfl rfl rfl rfl rfl ?_
      refine t_st rfl (st_pick_f rfl rfl) ?_
      refine t_st rfl (st_move rfl) ?_
      refine t_no 20 rfl rfl rfl rfl rfl ?_
      refine t_no 20 rfl rfl rfl rfl rfl ?_
      refine t_no 20 rfl rfl rfl rfl rfl ?_
      refine t_no 20 rfl rfl rfl rfl rfl ?_
      refine t_st rfl (st_pick_f rfl rfl) ?_
      refine t_st rfl (st_assign rfl) ?_
      refine t_st rfl (st_assign rfl) ?_
      refine t_nil ?_
      clear hm
      exact x_join (e' := [(2, .int .i64 (x15)), (3, .bool (false))]) (hp' := R) ⟨rfl, rfl, trivial⟩ (.refl _) ⟨rfl, rfl, (Base.Le.refl _)⟩
  ·
    rintro b23 _ _ ⟨rfl, rfl, hle24⟩
    have hm := hk25
    refine c_ret ?_
    obtain rfl := some1 hm
    exact retM (rs := [.tmp 2, .tmp 3]) [.int .i64 (x15), .bool (false)] (hle19.trans hle24) (by decide) rfl ⟨rfl, ⟨rfl, trivial⟩⟩ rfl (hp' := R) (.refl _) ⟨rfl, rfl⟩

set_option maxRecDepth 20000 in
theorem cLineNumbers (b : Base) (R : Hp) (hG : GLo 2 3 b.w) (l4 : (List ByteArray)) (A1 : Option Addr) (c2 : Nat) (h3 : FZ RT.str b.w A1 c2 l4) (l42 : (List Int)) (x44 : Bool) (hm : mLineNumbers l4 = some (l42, x44)) :
    CallsG Tryd.prog 54 [.slice A1 (l4).length c2] b (R) (fun v b' hp' => ∃ (A39 : Option Addr), ∃ (c40 : Nat), .tuple #[.slice A39 (l42).length c40, .bool (x44)] = v ∧ R = hp' ∧ FZ (RT.int .i64) b'.w A39 c40 l42 ∧ (A39 = none ↔ l42 = [])) := by
  refine fn_enterG 28 Tryd.func54 rfl Tryd.ntmps54 rfl ?_
  unfold mLineNumbers at hm
  refine c_seq ?_
  refine c_region ?_
  refine t_st rfl (st_assign rfl) ?_
  refine t_st rfl (st_assign rfl) ?_
  refine t_nil ?_
  refine x_then_normal ?_
  refine c_seq ?_
  refine c_region ?_
  refine t_st rfl (st_assign rfl) ?_
  refine t_nil ?_
  refine x_then_normal ?_
  refine c_seq ?_
  refine c_seq ?_
  refine c_region ?_
  refine t_st rfl (st_move rfl) ?_
  refine t_st rfl (st_len rfl sl109) ?_
  refine t_st rfl (st_move rfl) ?_
  refine t_nil ?_
  refine x_then_normal ?_
  refine c_block ?_
  have hb46 := (FZ.bd h3)
  obtain ⟨t62, hl63, hk64⟩ := bindS hm
  refine c_forM (fun k61 => fun _ => fun b59 e' hp' => [(4, .slice none 0 0), (9, .slice A1 (l4).length c2), (10, .int .i64 ((l4.length : Int))), (11, .int .i64 ((k61 : Int)))] = e' ∧ R = hp' ∧ b.Le b59) hl63 (e' := [(4, .slice none 0 0), (9, .slice A1 (l4).length c2), (10, .int .i64 ((l4.length : Int))), (11, .int .i64 0)]) (hp' := R) ⟨rfl, rfl, rfl, rfl, trivial⟩ (.refl _) ⟨rfl, rfl, (Base.Le.refl _)⟩ ?_ ?_
  ·
    rintro k61 _ b59 _ _ oL45 hknL45 ⟨rfl, rfl, hle60⟩ hstepL45 houtL45
    unfold mLineNumbers_L45 at hstepL45
    have hm := hstepL45
    refine c_seq ?_
    refine c_region ?_
    refine t_st rfl (st_lss_t rfl rfl (by omega)) ?_
    refine t_nil ?_
    refine x_then_normal ?_
    refine c_seq ?_
    refine c_cond_t rfl ?_
    refine c_skip ?_
    refine x_then_normal ?_
    refine c_seq ?_
    refine c_block ?_
    refine c_seq ?_
    refine c_region ?_
    obtain ⟨x65, h66, hm⟩ := bindS hm
    obtain ⟨j67, hj68, hx69⟩ := idx_some h66
    obtain ⟨cs70, hr71, hcs72, hA73, hlt74⟩ := FZ.get (sz := 1) rfl (by decide) (h3.le hle60) hx69
    obtain rfl := hr71
    refine t_st rfl (st_index_old j67 rfl rfl hj68 hlt74 hA73 sl109) ?_
    refine t_st rfl (st_load_old rfl one9 (hcs72 0 _ rfl)) ?_
    refine t_st rfl (st_assign rfl) ?_
    refine t_nil ?_
    refine x_then_normal ?_
    refine c_seq ?_
    refine c_region ?_
    refine t_st rfl (st_move rfl) ?_
    obtain ⟨x75, hcl76, hm⟩ := bindS hm
    refine t_do rfl (u_callW0 _ call80 rfl (fun w ho => cLineNumber _ [] ((hG.le hle60).old ho) x65 x75 hcl76) (fun _ _ _ h => h.2.symm)) ?_
    rintro _ _ ⟨⟨_, rfl, _⟩, rfl⟩
    refine t_st rfl (st_move rfl) ?_
    refine t_st rfl (st_extract rfl rfl) ?_
    refine t_st rfl (st_extract rfl rfl) ?_
    refine t_st rfl (st_assign rfl) ?_
    refine t_st rfl (st_assign rfl) ?_
    refine t_nil ?_
    refine x_then_normal ?_
    refine c_seq ?_
    refine c_seq ?_
    refine c_region ?_
    refine t_st rfl (st_move rfl) ?_
    refine t_st rfl (st_not_f rfl) ?_
    refine t_nil ?_
    refine x_then_normal ?_
    refine c_cond_t rfl ?_
    refine c_seq ?_
    refine c_region ?_
    refine t_st rfl (st_assign rfl) ?_
    refine t_st rfl (st_assign rfl) ?_
    refine t_nil ?_
    refine x_then_normal ?_
    refine c_ret ?_
    refine x_then_ret ?_
    refine x_block_ret ?_
    refine x_then_ret ?_
    refine x_then_ret ?_
    refine x_block_ret ?_
    refine x_then_ret ?_
    have hq77 := houtL45 _ (Option.some.inj hm).symm
    rw [hq77] at hk64
    have hm := elimR hk64
    obtain ⟨rfl, rfl⟩ := some2 hm
    exact retM (rs := [.tmp 2, .tmp 3]) [.slice none 0 0, .bool (false)] hle60 (by decide) rfl ⟨rfl, ⟨rfl, trivial⟩⟩ rfl (hp' := R) (.refl _) ⟨none, 0, rfl, rfl, FZ.nil, ⟨fun _ => rfl, fun _ => rfl⟩⟩
  ·
    rintro _ b59 _ _ ⟨rfl, rfl, hle60⟩ hq78
    rw [hq78] at hk64
    have hm := elimL hk64
    refine c_seq ?_
    refine c_region ?_
    refine t_st rfl (st_lss_f rfl rfl (by omega)) ?_
    refine t_nil ?_
    refine x_then_normal ?_
    refine c_seq ?_
    refine c_cond_f rfl ?_
    refine c_exit ?_
    refine x_then_exit ?_
    refine x_then_exit ?_
    refine x_block_out ?_
    refine x_then_normal ?_
    refine c_seq ?_
    refine c_region ?_
    refine t_st rfl (st_move rfl) ?_
    refine t_st rfl (st_assign rfl) ?_
    refine t_st rfl (st_assign rfl) ?_
    refine t_nil ?_
    refine x_then_normal ?_
    refine c_ret ?_
    obtain ⟨rfl, rfl⟩ := some2 hm
    exact retM (rs := [.tmp 2, .tmp 3]) [.slice none 0 0, .bool (true)] hle60 (by decide) rfl ⟨rfl, ⟨rfl, trivial⟩⟩ rfl (hp' := R) (.refl _) ⟨none, 0, rfl, rfl, FZ.nil, ⟨fun _ => rfl, fun _ => rfl⟩⟩

set_option maxRecDepth 20000 in
theorem cRunName (b : Base) (R : Hp) (x1 : ByteArray) (x63 : Bool) (hm : mRunName x1 = some x63) :
    CallsG Tryd.prog 57 [.string (x1)] b (R) (fun v b' hp' => .bool (x63) = v ∧ R = hp') := by
  refine fn_enterG 27 Tryd.func57 rfl Tryd.ntmps57 rfl ?_
  unfold mRunName at hm
  refine c_seq ?_
  refine c_region ?_
  refine t_st rfl (st_assign rfl) ?_
  refine t_nil ?_
  refine x_then_normal ?_
  refine c_seq ?_
  refine c_seq ?_
  refine c_region ?_
  refine t_st rfl (st_move rfl) ?_
  obtain ⟨_, h64, hm⟩ := bindS hm
  have h64 := (chk_some h64).2.2
  refine t_do rfl (u_bytes rfl str9 sl26 int5_u8 h64) ?_
  rintro _ _ ⟨g65, c66, tl67, fr68, rfl, rfl, h69, h70⟩
  refine t_frzb 0 rfl ?_
  intro b71 hle72 hz73
  have h74 := bytes_fz hz73 h69 h70
  refine t_st rfl (st_len rfl sl26) ?_
  refine t_st rfl (st_move rfl) ?_
  refine t_nil ?_
  refine x_then_normal ?_
  refine c_block ?_
  have hb76 := (FZ.bd h74)
  obtain ⟨t97, hl98, hk99⟩ := bindS hm
  refine c_forM (fun k96 => fun _ => fun b94 e' hp' => [(0, .string (x1)), (6, .slice (some ⟨g65, 0, none⟩) (sBytes x1).length c66), (7, .int .i64 (((sBytes x1).length : Int))), (8, .int .i64 ((k96 : Int)))] = e' ∧ R = hp' ∧ b71.Le b94) hl98 (e' := [(0, .string (x1)), (6, .slice (some ⟨g65, 0, none⟩) (sBytes x1).length c66), (7, .int .i64 (((sBytes x1).length : Int))), (8, .int .i64 0)]) (hp' := R) ⟨rfl, rfl, rfl, rfl, trivial⟩ (.refl _) ⟨rfl, rfl, (Base.Le.refl _)⟩ ?_ ?_
  ·
    rintro k96 _ b94 _ _ oL75 hknL75 ⟨rfl, rfl, hle95⟩ hstepL75 houtL75
    unfold mRunName_L75 at hstepL75
    have hm := hstepL75
    refine c_seq ?_
    refine c_region ?_
    refine t_st rfl (st_lss_t rfl rfl (by omega)) ?_
    refine t_nil ?_
    refine x_then_normal ?_
    refine c_seq ?_
    refine c_cond_t rfl ?_
    refine c_skip ?_
    refine x_then_normal ?_
    refine c_seq ?_
    refine c_block ?_
    refine c_seq ?_
    refine c_region ?_
    obtain ⟨x100, h101, hm⟩ := bindS hm
    obtain ⟨j102, hj103, hx104⟩ := idx_some h101
    obtain ⟨cs105, hr106, hcs107, hA108, hlt109⟩ := FZ.get (sz := 1) rfl (by decide) (h74.le hle95) hx104
    obtain rfl := hr106
    refine t_st rfl (st_index_old j102 rfl rfl hj103 hlt109 hA108 sl26) ?_
    refine t_st rfl (st_load_old rfl one5 (hcs107 0 _ rfl)) ?_
    refine t_st rfl (st_assign rfl) ?_
    refine t_nil ?_
    refine x_then_normal ?_
    obtain ⟨x113, hj114, hk114⟩ := bindS hm
    refine c_join (fun b111 e' hp' => [(0, .string (x1)), (6, .slice (some ⟨g65, 0, none⟩) (sBytes x1).length c66), (7, .int .i64 (((sBytes x1).length : Int))), (8, .int .i64 ((k96 : Int))), (17, .bool (x113))] = e' ∧ R = hp' ∧ b94.Le b111) ?_ ?_
    ·
      have hm := hj114
      refine c_region ?_
      refine t_st rfl (st_move rfl) ?_
      refine t_bool rfl (st_lss rfl rfl) (fun hc115 => ?_) (fun hc115 => ?_)
      ·
        rw [if_pos hc115] at hm
        refine t_st rfl (st_move rfl) ?_
        refine t_no 14 rfl rfl rfl rfl rfl ?_
        refine t_no 14 rfl rfl rfl rfl rfl ?_
        refine t_st rfl (st_pick_t rfl rfl) ?_
        refine t_nil ?_
        obtain rfl := some1 hm
        exact x_join (e' := [(0, .string (x1)), (6, .slice (some ⟨g65, 0, none⟩) (sBytes x1).length c66), (7, .int .i64 (((sBytes x1).length : Int))), (8, .int .i64 ((k96 : Int))), (17, .bool (true))]) (hp' := R) ⟨rfl, rfl, rfl, rfl, rfl, trivial⟩ (.refl _) ⟨rfl, rfl, (Base.Le.refl _)⟩
      ·
        rw [if_neg hc115] at hm
        refine t_st rfl (st_move rfl) ?_
        refine t_yes 14 rfl rfl rfl ?_
        refine t_st rfl (st_move rfl) ?_
        refine t_yes 14 rfl rfl rfl ?_
        refine t_st rfl (st_gtr rfl rfl) ?_
        refine t_st rfl (st_pick_f rfl rfl) ?_
        refine t_nil ?_
        obtain rfl := some1 hm
        exact x_join (e' := [(0, .string (x1)), (6, .slice (some ⟨g65, 0, none⟩) (sBytes x1).length c66), (7, .int .i64 (((sBytes x1).length : Int))), (8, .int .i64 ((k96 : Int))), (17, .bool (decide (122 < x100)))]) (hp' := R) ⟨rfl, rfl, rfl, rfl, rfl, trivial⟩ (.refl _) ⟨rfl, rfl, (Base.Le.refl _)⟩
    ·
      rintro b111 _ _ ⟨rfl, rfl, hle112⟩
      have hm := hk114
      refine c_cond _ rfl (fun hc116 => ?_) (fun hc116 => ?_)
      ·
        rw [if_pos hc116] at hm
        refine c_seq ?_
        refine c_region ?_
        refine t_st rfl (st_assign rfl) ?_
        refine t_nil ?_
        refine x_then_normal ?_
        refine c_ret ?_
        refine x_block_ret ?_
        refine x_then_ret ?_
        refine x_then_ret ?_
        refine x_block_ret ?_
        refine x_then_ret ?_
        have hq117 := houtL75 _ (Option.some.inj hm).symm
        rw [hq117] at hk99
        have hm := elimR hk99
        obtain rfl := some1 hm
        exact retM (rs := [.tmp 2]) [.bool (false)] (hle72.trans (hle95.trans hle112)) (by decide) rfl ⟨rfl, trivial⟩ rfl (hp' := R) (.refl _) ⟨rfl, rfl⟩
      ·
        rw [if_neg (fun hh => Bool.noConfusion (hh.symm.trans hc116))] at hm
        refine c_skip ?_
        refine x_block_normal ?_
        refine x_then_normal ?_
        refine c_region ?_
        refine t_st rfl (st_add rfl rfl (by omega)) ?_
        refine t_st rfl (st_move rfl) ?_
        refine t_nil ?_
        exact x_againM () (Option.some.inj hm).symm (e' := [(0, .string (x1)), (6, .slice (some ⟨g65, 0, none⟩) (sBytes x1).length c66), (7, .int .i64 (((sBytes x1).length : Int))), (8, .int .i64 ((k96 : Int) + 1))]) (hp' := R) ⟨rfl, rfl, rfl, rfl, trivial⟩ (.refl _) ⟨rfl, rfl, ((hle95.trans hle112))⟩
  ·
    rintro _ b94 _ _ ⟨rfl, rfl, hle95⟩ hq118
    rw [hq118] at hk99
    have hm := elimL hk99
    refine c_seq ?_
    refine c_region ?_
    refine t_st rfl (st_lss_f rfl rfl (by omega)) ?_
    refine t_nil ?_
    refine x_then_normal ?_
    refine c_seq ?_
    refine c_cond_f rfl ?_
    refine c_exit ?_
    refine x_then_exit ?_
    refine x_then_exit ?_
    refine x_block_out ?_
    refine x_then_normal ?_
    obtain ⟨x122, hj123, hk123⟩ := bindS hm
    refine c_join (fun b120 e' hp' => [(2, .bool (x122))] = e' ∧ R = hp' ∧ b94.Le b120) ?_ ?_
    ·
      have hm := hj123
      refine c_region ?_
      refine t_st rfl (st_move rfl) ?_
      refine t_st rfl (st_slen rfl str9) ?_
      refine t_bool rfl (st_geq rfl rfl) (fun hc124 => ?_) (fun hc124 => ?_)
      ·
        rw [if_pos hc124] at hm
        refine t_st rfl (st_move rfl) ?_
        refine t_yes 22 rfl rfl rfl ?_
        refine t_st rfl (st_move rfl) ?_
        refine t_yes 22 rfl rfl rfl ?_
        refine t_st rfl (st_slen rfl str9) ?_
        refine t_yes 22 rfl rfl rfl ?_
        refine t_st rfl (st_leq rfl rfl) ?_
        refine t_st rfl (st_pick_t rfl rfl) ?_
        refine t_st rfl (st_assign rfl) ?_
        refine t_nil ?_
        obtain rfl := some1 hm
        exact x_join (e' := [(2, .bool (decide ((x1.size : Int) ≤ 12)))]) (hp' := R) ⟨rfl, trivial⟩ (.refl _) ⟨rfl, rfl, (Base.Le.refl _)⟩
      ·
        rw [if_neg hc124] at hm
        refine t_st rfl (st_move rfl) ?_
        refine t_no 22 rfl rfl rfl rfl rfl ?_
        refine t_no 22 rfl rfl rfl rfl rfl ?_
        refine t_no 22 rfl rfl rfl rfl rfl ?_
        refine t_st rfl (st_pick_f rfl rfl) ?_
        refine t_st rfl (st_assign rfl) ?_
        refine t_nil ?_
        obtain rfl := some1 hm
        exact x_join (e' := [(2, .bool (false))]) (hp' := R) ⟨rfl, trivial⟩ (.refl _) ⟨rfl, rfl, (Base.Le.refl _)⟩
    ·
      rintro b120 _ _ ⟨rfl, rfl, hle121⟩
      have hm := hk123
      refine c_ret ?_
      obtain rfl := some1 hm
      exact retM (rs := [.tmp 2]) [.bool (x122)] (hle72.trans (hle95.trans hle121)) (by decide) rfl ⟨rfl, trivial⟩ rfl (hp' := R) (.refl _) ⟨rfl, rfl⟩

set_option maxRecDepth 20000 in
theorem cRunNumbers (b : Base) (R : Hp) (s1 : ApiStock) (x4 : Int) (x5 : Int) (x6 : Int) (x7 : Int) (x8 : Int) (x9 : Int) (x10 : Int) (x11 : Int) (x12 : Int) (hm : mRunNumbers s1 = some (x4, x5, x6, x7, x8, x9, x10, x11, x12)) :
    CallsG Tryd.prog 58 [.agg #[.string (s1.Name), .int .i64 (s1.Length), .int .i64 (s1.Mass), .int .i64 (s1.Start), .int .i64 (s1.Power), .int .i64 (s1.Roll), .int .i64 (s1.Drag), .int .i64 (s1.Brake), .int .i64 (s1.Top), .int .i64 (s1.Seats)]] b (R) (fun v b' hp' => .agg #[.int .i64 (x4), .int .i64 (x5), .int .i64 (x6), .int .i64 (x7), .int .i64 (x8), .int .i64 (x9), .int .i64 (x10), .int .i64 (x11), .int .i64 (x12)] = v ∧ R = hp') := by
  refine fn_enterG 22 Tryd.func58 rfl Tryd.ntmps58 rfl ?_
  unfold mRunNumbers at hm
  refine c_seq ?_
  refine c_region ?_
  refine t_do rfl (u_box _ rfl rfl) ?_
  rintro _ _ ⟨g13, rfl, rfl⟩
  refine t_do rfl (u_alloc [.int .i64 0, .int .i64 0, .int .i64 0, .int .i64 0, .int .i64 0, .int .i64 0, .int .i64 0, .int .i64 0, .int .i64 0] zero122 rfl) ?_
  rintro _ _ ⟨g14, rfl, rfl⟩
  refine t_nil ?_
  refine x_then_normal ?_
  refine c_seq ?_
  refine c_region ?_
  refine t_st rfl (st_field rfl fld43_1) ?_
  refine t_st rfl (st_load 1 rfl one3 rfl rfl) ?_
  refine t_st rfl (st_field rfl fld43_2) ?_
  refine t_st rfl (st_load 1 rfl one3 rfl rfl) ?_
  refine t_st rfl (st_field rfl fld43_3) ?_
  refine t_st rfl (st_load 1 rfl one3 rfl rfl) ?_
  refine t_st rfl (st_field rfl fld43_4) ?_
  refine t_st rfl (st_load 1 rfl one3 rfl rfl) ?_
  refine t_st rfl (st_field rfl fld43_5) ?_
  refine t_st rfl (st_load 1 rfl one3 rfl rfl) ?_
  refine t_st rfl (st_field rfl fld43_6) ?_
  refine t_st rfl (st_load 1 rfl one3 rfl rfl) ?_
  refine t_st rfl (st_field rfl fld43_7) ?_
  refine t_st rfl (st_load 1 rfl one3 rfl rfl) ?_
  refine t_st rfl (st_field rfl fld43_8) ?_
  refine t_st rfl (st_load 1 rfl one3 rfl rfl) ?_
  refine t_st rfl (st_field rfl fld43_9) ?_
  refine t_st rfl (st_load 1 rfl one3 rfl rfl) ?_
  refine t_st rfl (st_build (v := .agg #[.int .i64 (s1.Length), .int .i64 (s1.Mass), .int .i64 (s1.Start), .int .i64 (s1.Power), .int .i64 (s1.Roll), .int .i64 (s1.Drag), .int .i64 (s1.Brake), .int .i64 (s1.Top), .int .i64 (s1.Seats)]) [(0, .int .i64 (s1.Length)), (1, .int .i64 (s1.Mass)), (2, .int .i64 (s1.Start)), (3, .int .i64 (s1.Power)), (4, .int .i64 (s1.Roll)), (5, .int .i64 (s1.Drag)), (6, .int .i64 (s1.Brake)), (7, .int .i64 (s1.Top)), (8, .int .i64 (s1.Seats))] rfl (fun _ => by kernel_rfl)) ?_
  refine t_do rfl (u_storeN (vs := [_, _, _, _, _, _, _, _, _]) 0 9 rfl rfl rfl siz122 rfl (by intro u hu; simp only [List.mem_cons, List.not_mem_nil, or_false] at hu; rcases hu with rfl | rfl | rfl | rfl | rfl | rfl | rfl | rfl | rfl <;> rfl) rfl (by simp)) ?_
  rintro _ _ rfl
  refine t_nil ?_
  refine x_then_normal ?_
  refine c_ret ?_
  obtain ⟨rfl, rfl, rfl, rfl, rfl, rfl, rfl, rfl, rfl⟩ := some9 hm
  exact retM (rs := [.cell 2 122]) [.agg #[.int .i64 (s1.Length), .int .i64 (s1.Mass), .int .i64 (s1.Start), .int .i64 (s1.Power), .int .i64 (s1.Roll), .int .i64 (s1.Drag), .int .i64 (s1.Brake), .int .i64 (s1.Top), .int .i64 (s1.Seats)]] (Base.Le.refl _) (by decide) rfl ⟨⟨_, rfl, fun w ho => cell_agg (vs := [_, _, _, _, _, _, _, _, _]) 0 9 agg122 rfl rfl rfl w ho⟩, trivial⟩ rfl (hp' := R) (.cons _ (.cons _ (.refl _))) ⟨rfl, rfl⟩

set_option maxRecDepth 20000 in
theorem cRunWithin (b : Base) (R : Hp) (x1 : Int) (x2 : Int) (x3 : Int) (x10 : Bool) (hm : mRunWithin x1 x2 x3 = some x10) :
    CallsG Tryd.prog 59 [.int .i64 (x1), .int .i64 (x2), .int .i64 (x3)] b (R) (fun v b' hp' => .bool (x10) = v ∧ R = hp') := by
  refine fn_enterG 15 Tryd.func59 rfl Tryd.ntmps59 rfl ?_
  unfold mRunWithin at hm
  refine c_seq ?_
  refine c_region ?_
  refine t_st rfl (st_assign rfl) ?_
  refine t_nil ?_
  refine x_then_normal ?_
  obtain ⟨x14, hj15, hk15⟩ := bindS hm
  refine c_join (fun b12 e' hp' => [(6, .bool (x14))] = e' ∧ R = hp' ∧ b.Le b12) ?_ ?_
  ·
    have hm := hj15
    refine c_region ?_
    refine t_st rfl (st_move rfl) ?_
    refine t_st rfl (st_move rfl) ?_
    refine t_bool rfl (st_geq rfl rfl) (fun hc16 => ?_) (fun hc16 => ?_)
    ·
      rw [if_pos hc16] at hm
      refine t_st rfl (st_move rfl) ?_
      refine t_yes 10 rfl rfl rfl ?_
      refine t_st rfl (st_move rfl) ?_
      refine t_yes 10 rfl rfl rfl ?_
      refine t_st rfl (st_move rfl) ?_
      refine t_yes 10 rfl rfl rfl ?_
      refine t_st rfl (st_leq rfl rfl) ?_
      refine t_st rfl (st_pick_t rfl rfl) ?_
      refine t_st rfl (st_assign rfl) ?_
      refine t_nil ?_
      obtain rfl := some1 hm
      exact x_join (e' := [(6, .bool (decide (x1 ≤ x3)))]) (hp' := R) ⟨rfl, trivial⟩ (.refl _) ⟨rfl, rfl, (Base.Le.refl _)⟩
    ·
      rw [if_neg hc16] at hm
      refine t_st rfl (st_move rfl) ?_
      refine t_no 10 rfl rfl rfl rfl rfl ?_
      refine t_no 10 rfl rfl rfl rfl rfl ?_
      refine t_no 10 rfl rfl rfl rfl rfl ?_
      refine t_st rfl (st_pick_f rfl rfl) ?_
      refine t_st rfl (st_assign rfl) ?_
      refine t_nil ?_
      obtain rfl := some1 hm
      exact x_join (e' := [(6, .bool (false))]) (hp' := R) ⟨rfl, trivial⟩ (.refl _) ⟨rfl, rfl, (Base.Le.refl _)⟩
  ·
    rintro b12 _ _ ⟨rfl, rfl, hle13⟩
    have hm := hk15
    refine c_ret ?_
    obtain rfl := some1 hm
    exact retM (rs := [.tmp 6]) [.bool (x14)] hle13 (by decide) rfl ⟨rfl, trivial⟩ rfl (hp' := R) (.refl _) ⟨rfl, rfl⟩

set_option maxRecDepth 20000 in
theorem cRunCheck (b : Base) (R : Hp) (s1 : ApiStock) (x208 : Int) (hm : mRunCheck s1 = some x208) :
    CallsG Tryd.prog 22 [.agg #[.string (s1.Name), .int .i64 (s1.Length), .int .i64 (s1.Mass), .int .i64 (s1.Start), .int .i64 (s1.Power), .int .i64 (s1.Roll), .int .i64 (s1.Drag), .int .i64 (s1.Brake), .int .i64 (s1.Top), .int .i64 (s1.Seats)]] b (R) (fun v b' hp' => .int .i64 (x208) = v ∧ R = hp') := by
  refine fn_enterG 38 Tryd.func22 rfl Tryd.ntmps22 rfl ?_
  unfold mRunCheck at hm
  refine c_seq ?_
  refine c_region ?_
  refine t_do rfl (u_box _ rfl rfl) ?_
  rintro _ _ ⟨g209, rfl, rfl⟩
  refine t_st rfl (st_assign rfl) ?_
  refine t_nil ?_
  refine x_then_normal ?_
  refine c_seq ?_
  refine c_seq ?_
  refine c_region ?_
  refine t_st rfl (st_field rfl fld43_0) ?_
  refine t_st rfl (st_load 0 rfl one9 rfl rfl) ?_
  obtain ⟨x210, hcl211, hm⟩ := bindS hm
  refine t_do rfl (u_callW0 _ call57 rfl (fun w ho => cRunName _ [] s1.Name x210 hcl211) (fun _ _ _ h => h.2.symm)) ?_
  rintro _ _ ⟨⟨_, rfl, _⟩, rfl⟩
  refine t_st rfl (st_not rfl) ?_
  refine t_nil ?_
  refine x_then_normal ?_
  refine c_cond _ rfl (fun hc212 => ?_) (fun hc212 => ?_)
  ·
    rw [if_neg (fun hh => Bool.noConfusion (hh.symm.trans (notT hc212)))] at hm
    refine c_seq ?_
    refine c_region ?_
    refine t_st rfl (st_assign rfl) ?_
    refine t_nil ?_
    refine x_then_normal ?_
    refine c_ret ?_
    refine x_then_ret ?_
    obtain rfl := some1 hm
    exact retM (rs := [.tmp 2]) [.int .i64 (1)] (Base.Le.refl _) (by decide) rfl ⟨rfl, trivial⟩ rfl (hp' := R) (.cons _ (.refl _)) ⟨rfl, rfl⟩
  ·
    rw [if_pos (notF hc212)] at hm
    refine c_skip ?_
    refine x_then_normal ?_
    refine c_seq ?_
    refine c_region ?_
    refine t_st rfl (st_build (v := .agg #[.int .i64 (10), .int .i64 (400)]) [(0, .int .i64 (10)), (1, .int .i64 (400))] rfl (fun _ => by kernel_rfl)) ?_
    refine t_st rfl (st_build (v := .agg #[.int .i64 (10), .int .i64 (2000)]) [(0, .int .i64 (10)), (1, .int .i64 (2000))] rfl (fun _ => by kernel_rfl)) ?_
    refine t_st rfl (st_build (v := .agg #[.int .i64 (60), .int .i64 (150)]) [(0, .int .i64 (60)), (1, .int .i64 (150))] rfl (fun _ => by kernel_rfl)) ?_
    refine t_st rfl (st_build (v := .agg #[.int .i64 (10000), .int .i64 (2000000)]) [(0, .int .i64 (10000)), (1, .int .i64 (2000000))] rfl (fun _ => by kernel_rfl)) ?_
    refine t_st rfl (st_build (v := .agg #[.int .i64 (0), .int .i64 (10)]) [(0, .int .i64 (0)), (1, .int .i64 (10))] rfl (fun _ => by kernel_rfl)) ?_
    refine t_st rfl (st_build (v := .agg #[.int .i64 (1000000), .int .i64 (100000000)]) [(0, .int .i64 (1000000)), (1, .int .i64 (100000000))] rfl (fun _ => by kernel_rfl)) ?_
    refine t_st rfl (st_build (v := .agg #[.int .i64 (60), .int .i64 (150)]) [(0, .int .i64 (60)), (1, .int .i64 (150))] rfl (fun _ => by kernel_rfl)) ?_
    refine t_st rfl (st_build (v := .agg #[.int .i64 (500), .int .i64 (6000)]) [(0, .int .i64 (500)), (1, .int .i64 (6000))] rfl (fun _ => by kernel_rfl)) ?_
    refine t_st rfl (st_build (v := .agg #[.int .i64 (0), .int .i64 (1000)]) [(0, .int .i64 (0)), (1, .int .i64 (1000))] rfl (fun _ => by kernel_rfl)) ?_
    refine t_st rfl (st_build (v := .agg #[.int .i64 (10), .int .i64 (400), .int .i64 (10), .int .i64 (2000), .int .i64 (60), .int .i64 (150), .int .i64 (10000), .int .i64 (2000000), .int .i64 (0), .int .i64 (10), .int .i64 (1000000), .int .i64 (100000000), .int .i64 (60), .int .i64 (150), .int .i64 (500), .int .i64 (6000), .int .i64 (0), .int .i64 (1000)]) [(0, .agg #[.int .i64 (10), .int .i64 (400)]), (1, .agg #[.int .i64 (10), .int .i64 (2000)]), (2, .agg #[.int .i64 (60), .int .i64 (150)]), (3, .agg #[.int .i64 (10000), .int .i64 (2000000)]), (4, .agg #[.int .i64 (0), .int .i64 (10)]), (5, .agg #[.int .i64 (1000000), .int .i64 (100000000)]), (6, .agg #[.int .i64 (60), .int .i64 (150)]), (7, .agg #[.int .i64 (500), .int .i64 (6000)]), (8, .agg #[.int .i64 (0), .int .i64 (1000)])] rfl (fun _ => by kernel_rfl)) ?_
    refine t_do rfl (u_alloc [.int .i64 0, .int .i64 0, .int .i64 0, .int .i64 0, .int .i64 0, .int .i64 0, .int .i64 0, .int .i64 0, .int .i64 0, .int .i64 0, .int .i64 0, .int .i64 0, .int .i64 0, .int .i64 0, .int .i64 0, .int .i64 0, .int .i64 0, .int .i64 0] zero121 rfl) ?_
    rintro _ _ ⟨g213, rfl, rfl⟩
    refine t_do rfl (u_storeN (vs := [_, _, _, _, _, _, _, _, _, _, _, _, _, _, _, _, _, _]) 0 18 rfl rfl rfl siz121 rfl (by intro u hu; simp only [List.mem_cons, List.not_mem_nil, or_false] at hu; rcases hu with rfl | rfl | rfl | rfl | rfl | rfl | rfl | rfl | rfl | rfl | rfl | rfl | rfl | rfl | rfl | rfl | rfl | rfl <;> rfl) rfl (by simp)) ?_
    rintro _ _ rfl
    refine t_nil ?_
    refine x_then_normal ?_
    refine c_seq ?_
    refine c_seq ?_
    refine c_region ?_
    refine t_st rfl (st_loadD (vs := [_, _, _, _, _, _, _, _, _, _]) 1 10 rfl agg43 rfl rfl rfl) ?_
    obtain ⟨⟨x214, x215, x216, x217, x218, x219, x220, x221, x222⟩, hcl223, hm⟩ := bindS hm
    have hm := (unc9E hm)
    refine t_callG _ rfl call58 rfl (cRunNumbers _ _ s1 x214 x215 x216 x217 x218 x219 x220 x221 x222 hcl223) ?_
    rintro _ b224 _ hle225 ⟨rfl, rfl⟩
    refine t_st rfl (st_move rfl) ?_
    refine t_nil ?_
    refine x_then_normal ?_
    refine c_block ?_
    obtain ⟨t320, hl321, hk322⟩ := bindS hm
    refine c_forM (fun k319 => fun _ => fun b317 e' hp' => [(3, .pointer (some ⟨g213, 0, none⟩)), (21, .agg #[.int .i64 (x214), .int .i64 (x215), .int .i64 (x216), .int .i64 (x217), .int .i64 (x218), .int .i64 (x219), .int .i64 (x220), .int .i64 (x221), .int .i64 (x222)]), (22, .int .i64 ((k319 : Int)))] = e' ∧ (g213, Cl 121 [.int .i64 (10), .int .i64 (400), .int .i64 (10), .int .i64 (2000), .int .i64 (60), .int .i64 (150), .int .i64 (10000), .int .i64 (2000000), .int .i64 (0), .int .i64 (10), .int .i64 (1000000), .int .i64 (100000000), .int .i64 (60), .int .i64 (150), .int .i64 (500), .int .i64 (6000), .int .i64 (0), .int .i64 (1000)]) :: R = hp' ∧ b224.Le b317) hl321 (e' := [(3, .pointer (some ⟨g213, 0, none⟩)), (21, .agg #[.int .i64 (x214), .int .i64 (x215), .int .i64 (x216), .int .i64 (x217), .int .i64 (x218), .int .i64 (x219), .int .i64 (x220), .int .i64 (x221), .int .i64 (x222)]), (22, .int .i64 0)]) (hp' := (g213, Cl 121 [.int .i64 (10), .int .i64 (400), .int .i64 (10), .int .i64 (2000), .int .i64 (60), .int .i64 (150), .int .i64 (10000), .int .i64 (2000000), .int .i64 (0), .int .i64 (10), .int .i64 (1000000), .int .i64 (100000000), .int .i64 (60), .int .i64 (150), .int .i64 (500), .int .i64 (6000), .int .i64 (0), .int .i64 (1000)]) :: R) ⟨rfl, rfl, rfl, trivial⟩ (.cons_cons _ (.cons _ (.refl _))) ⟨rfl, rfl, (Base.Le.refl _)⟩ ?_ ?_
    ·
      rintro k319 _ b317 _ _ oL226 hknL226 ⟨rfl, rfl, hle318⟩ hstepL226 houtL226
      unfold mRunCheck_L226 at hstepL226
      have hm := hstepL226
      refine c_seq ?_
      refine c_region ?_
      refine t_st rfl (st_lss_t rfl rfl (by omega)) ?_
      refine t_nil ?_
      refine x_then_normal ?_
      refine c_seq ?_
      refine c_cond_t rfl ?_
      refine c_skip ?_
      refine x_then_normal ?_
      refine c_seq ?_
      refine c_block ?_
      refine c_seq ?_
      refine c_region ?_
      refine t_st rfl (st_move rfl) ?_
      obtain ⟨x323, h324, hm⟩ := bindS hm
      obtain ⟨j325, hj326, hx327⟩ := idx_some h324
      obtain ⟨cs328, hr329, hcs330, hlt331⟩ := arr_get (r := (RT.int .i64)) (w := b317.w) (css := [[.int .i64 (x214)], [.int .i64 (x215)], [.int .i64 (x216)], [.int .i64 (x217)], [.int .i64 (x218)], [.int .i64 (x219)], [.int .i64 (x220)], [.int .i64 (x221)], [.int .i64 (x222)]]) (l := [x214, x215, x216, x217, x218, x219, x220, x221, x222]) (sz := 1) rfl ⟨rfl, ⟨rfl, ⟨rfl, ⟨rfl, ⟨rfl, ⟨rfl, ⟨rfl, ⟨rfl, ⟨rfl, trivial⟩⟩⟩⟩⟩⟩⟩⟩⟩ hx327
      obtain rfl := hr329
      refine t_st rfl (st_aidx1 (cs := ([[.int .i64 (x214)], [.int .i64 (x215)], [.int .i64 (x216)], [.int .i64 (x217)], [.int .i64 (x218)], [.int .i64 (x219)], [.int .i64 (x220)], [.int .i64 (x221)], [.int .i64 (x222)]] : List (List Value)).flatten) j325 rfl rfl hj326 hlt331 (hcs330 0 _ rfl) arr122 one3) ?_
      refine t_st rfl (st_assign rfl) ?_
      refine t_st rfl (st_assign rfl) ?_
      refine t_nil ?_
      refine x_then_normal ?_
      refine c_seq ?_
      obtain ⟨x372, h373, hm⟩ := bindS hm
      obtain ⟨x381, h382, hm⟩ := bindS hm
      obtain ⟨x391, h392, hm⟩ := bindS hm
      obtain ⟨x400, h401, hm⟩ := bindS hm
      obtain ⟨x410, hcl411, hm⟩ := bindS hm
      refine D_drawS ((g213, Cl 121 [.int .i64 (10), .int .i64 (400), .int .i64 (10), .int .i64 (2000), .int .i64 (60), .int .i64 (150), .int .i64 (10000), .int .i64 (2000000), .int .i64 (0), .int .i64 (10), .int .i64 (1000000), .int .i64 (100000000), .int .i64 (60), .int .i64 (150), .int .i64 (500), .int .i64 (6000), .int .i64 (0), .int .i64 (1000)]) :: R) mixed ?_
      refine D_st (Base.Le.refl _) 0 rfl (by kernel_rfl) (by kernel_rfl) (by kernel_rfl) rfl (st_move rfl) (.cons_cons _ (.refl _)) ?_
      refine D_st (Base.Le.refl _) 1 rfl (by kernel_rfl) (by kernel_rfl) (by kernel_rfl) rfl (st_move rfl) (.cons_cons _ (.refl _)) ?_
      obtain ⟨j374, hj375, hx376⟩ := idx_some h373
      obtain ⟨cs377, hr378, hcs379, hlt380⟩ := arr_get (r := (RT.arr 2 (RT.int .i64))) (w := b317.w) (css := [[.int .i64 (10), .int .i64 (400)], [.int .i64 (10), .int .i64 (2000)], [.int .i64 (60), .int .i64 (150)], [.int .i64 (10000), .int .i64 (2000000)], [.int .i64 (0), .int .i64 (10)], [.int .i64 (1000000), .int .i64 (100000000)], [.int .i64 (60), .int .i64 (150)], [.int .i64 (500), .int .i64 (6000)], [.int .i64 (0), .int .i64 (1000)]]) (l := [[10, 400], [10, 2000], [60, 150], [10000, 2000000], [0, 10], [1000000, 100000000], [60, 150], [500, 6000], [0, 1000]]) (sz := 2) rfl ⟨⟨rfl, [[.int .i64 (10)], [.int .i64 (400)]], rfl, ⟨rfl, ⟨rfl, trivial⟩⟩⟩, ⟨⟨rfl, [[.int .i64 (10)], [.int .i64 (2000)]], rfl, ⟨rfl, ⟨rfl, trivial⟩⟩⟩, ⟨⟨rfl, [[.int .i64 (60)], [.int .i64 (150)]], rfl, ⟨rfl, ⟨rfl, trivial⟩⟩⟩, ⟨⟨rfl, [[.int .i64 (10000)], [.int .i64 (2000000)]], rfl, ⟨rfl, ⟨rfl, trivial⟩⟩⟩, ⟨⟨rfl, [[.int .i64 (0)], [.int .i64 (10)]], rfl, ⟨rfl, ⟨rfl, trivial⟩⟩⟩, ⟨⟨rfl, [[.int .i64 (1000000)], [.int .i64 (100000000)]], rfl, ⟨rfl, ⟨rfl, trivial⟩⟩⟩, ⟨⟨rfl, [[.int .i64 (60)], [.int .i64 (150)]], rfl, ⟨rfl, ⟨rfl, trivial⟩⟩⟩, ⟨⟨rfl, [[.int .i64 (500)], [.int .i64 (6000)]], rfl, ⟨rfl, ⟨rfl, trivial⟩⟩⟩, ⟨⟨rfl, [[.int .i64 (0)], [.int .i64 (1000)]], rfl, ⟨rfl, ⟨rfl, trivial⟩⟩⟩, trivial⟩⟩⟩⟩⟩⟩⟩⟩⟩ hx376
      refine D_st (Base.Le.refl _) 2 rfl (by kernel_rfl) (by kernel_rfl) (by kernel_rfl) rfl (st_baddr j374 rfl rfl hj375 hlt380 arr121 (Nat.zero_add _)) (.cons_cons _ (.refl _)) ?_
      obtain ⟨j383, hj384, hx385⟩ := idx_some h382
      obtain ⟨cs386, hr387, hcs388, hlt389⟩ := arr_in (sz := 1) rfl hr378 hx385
      have hcs390 := fun i u hu => (Nat.add_assoc (j374 * 2) (j383 * 1) i) ▸ hcs379 _ _ (hcs388 i u hu)
      obtain rfl := hr387
      refine D_st (Base.Le.refl _) 3 rfl (by kernel_rfl) (by kernel_rfl) (by kernel_rfl) rfl (st_baddr j383 rfl rfl hj384 hlt389 arr120 rfl) (.cons_cons _ (.refl _)) ?_
      refine D_st (Base.Le.refl _) 4 rfl (by kernel_rfl) (by kernel_rfl) (by kernel_rfl) rfl (st_load 0 rfl one3 rfl (hcs390 0 _ rfl)) (.cons_cons _ (.refl _)) ?_
      refine D_st (Base.Le.refl _) 5 rfl (by kernel_rfl) (by kernel_rfl) (by kernel_rfl) rfl (st_move rfl) (.cons_cons _ (.refl _)) ?_
      obtain ⟨j393, hj394, hx395⟩ := idx_some h392
      obtain ⟨cs396, hr397, hcs398, hlt399⟩ := arr_get (r := (RT.arr 2 (RT.int .i64))) (w := b317.w) (css := [[.int .i64 (10), .int .i64 (400)], [.int .i64 (10), .int .i64 (2000)], [.int .i64 (60), .int .i64 (150)], [.int .i64 (10000), .int .i64 (2000000)], [.int .i64 (0), .int .i64 (10)], [.int .i64 (1000000), .int .i64 (100000000)], [.int .i64 (60), .int .i64 (150)], [.int .i64 (500), .int .i64 (6000)], [.int .i64 (0), .int .i64 (1000)]]) (l := [[10, 400], [10, 2000], [60, 150], [10000, 2000000], [0, 10], [1000000, 100000000], [60, 150], [500, 6000], [0, 1000]]) (sz := 2) rfl ⟨⟨rfl, [[.int .i64 (10)], [.int .i64 (400)]], rfl, ⟨rfl, ⟨rfl, trivial⟩⟩⟩, ⟨⟨rfl, [[.int .i64 (10)], [.int .i64 (2000)]], rfl, ⟨rfl, ⟨rfl, trivial⟩⟩⟩, ⟨⟨rfl, [[.int .i64 (60)], [.int .i64 (150)]], rfl, ⟨rfl, ⟨rfl, trivial⟩⟩⟩, ⟨⟨rfl, [[.int .i64 (10000)], [.int .i64 (2000000)]], rfl, ⟨rfl, ⟨rfl, trivial⟩⟩⟩, ⟨⟨rfl, [[.int .i64 (0)], [.int .i64 (10)]], rfl, ⟨rfl, ⟨rfl, trivial⟩⟩⟩, ⟨⟨rfl, [[.int .i64 (1000000)], [.int .i64 (100000000)]], rfl, ⟨rfl, ⟨rfl, trivial⟩⟩⟩, ⟨⟨rfl, [[.int .i64 (60)], [.int .i64 (150)]], rfl, ⟨rfl, ⟨rfl, trivial⟩⟩⟩, ⟨⟨rfl, [[.int .i64 (500)], [.int .i64 (6000)]], rfl, ⟨rfl, ⟨rfl, trivial⟩⟩⟩, ⟨⟨rfl, [[.int .i64 (0)], [.int .i64 (1000)]], rfl, ⟨rfl, ⟨rfl, trivial⟩⟩⟩, trivial⟩⟩⟩⟩⟩⟩⟩⟩⟩ hx395
      refine D_st (Base.Le.refl _) 6 rfl (by kernel_rfl) (by kernel_rfl) (by kernel_rfl) rfl (st_baddr j393 rfl rfl hj394 hlt399 arr121 (Nat.zero_add _)) (.cons_cons _ (.refl _)) ?_
      obtain ⟨j402, hj403, hx404⟩ := idx_some h401
      obtain ⟨cs405, hr406, hcs407, hlt408⟩ := arr_in (sz := 1) rfl hr397 hx404
      have hcs409 := fun i u hu => (Nat.add_assoc (j393 * 2) (j402 * 1) i) ▸ hcs398 _ _ (hcs407 i u hu)
      obtain rfl := hr406
      refine D_st (Base.Le.refl _) 7 rfl (by kernel_rfl) (by kernel_rfl) (by kernel_rfl) rfl (st_baddr j402 rfl rfl hj403 hlt408 arr120 rfl) (.cons_cons _ (.refl _)) ?_
      refine D_st (Base.Le.refl _) 8 rfl (by kernel_rfl) (by kernel_rfl) (by kernel_rfl) rfl (st_load 0 rfl one3 rfl (hcs409 0 _ rfl)) (.cons_cons _ (.refl _)) ?_
      refine D_all [9] (by kernel_rfl) rfl ?_
      refine R_do (Base.Le.refl _) rfl rfl (u_callW0 _ call59 rfl (fun w ho => cRunWithin _ [] x323 x381 x400 x410 hcl411) (fun _ _ _ h => h.2.symm)) ?_ ?_
      ·
        rintro _ _ ⟨⟨_, rfl, _⟩, rfl⟩
        refine ⟨.inr (.cons_cons _ (.refl _)), ?_⟩
        refine D_st (Base.Le.refl _) 10 rfl (by kernel_rfl) (by kernel_rfl) (by kernel_rfl) rfl (st_not rfl) (.cons_cons _ (.refl _)) ?_
        refine D_done (by kernel_rfl) ?_
        refine x_then_normal ?_
        refine c_cond _ rfl (fun hc412 => ?_) (fun hc412 => ?_)
        ·
          rw [if_neg (fun hh => Bool.noConfusion (hh.symm.trans (notT hc412)))] at hm
          refine c_seq ?_
          refine c_region ?_
          refine t_st rfl (st_assign rfl) ?_
          refine t_nil ?_
          refine x_then_normal ?_
          refine c_ret ?_
          refine x_block_ret ?_
          refine x_then_ret ?_
          refine x_then_ret ?_
          refine x_block_ret ?_
          refine x_then_ret ?_
          have hq413 := houtL226 _ (Option.some.inj hm).symm
          rw [hq413] at hk322
          have hm := elimR hk322
          obtain rfl := some1 hm
          exact retM (rs := [.tmp 2]) [.int .i64 (2)] (hle225.trans hle318) (by decide) rfl ⟨rfl, trivial⟩ rfl (hp' := R) (.cons _ (.refl _)) ⟨rfl, rfl⟩
        ·
          rw [if_pos (notF hc412)] at hm
          refine c_skip ?_
          refine x_block_normal ?_
          refine x_then_normal ?_
          refine c_region ?_
          refine t_st rfl (st_add rfl rfl (by omega)) ?_
          refine t_st rfl (st_move rfl) ?_
          refine t_nil ?_
          exact x_againM () (Option.some.inj hm).symm (e' := [(3, .pointer (some ⟨g213, 0, none⟩)), (21, .agg #[.int .i64 (x214), .int .i64 (x215), .int .i64 (x216), .int .i64 (x217), .int .i64 (x218), .int .i64 (x219), .int .i64 (x220), .int .i64 (x221), .int .i64 (x222)]), (22, .int .i64 ((k319 : Int) + 1))]) (hp' := (g213, Cl 121 [.int .i64 (10), .int .i64 (400), .int .i64 (10), .int .i64 (2000), .int .i64 (60), .int .i64 (150), .int .i64 (10000), .int .i64 (2000000), .int .i64 (0), .int .i64 (10), .int .i64 (1000000), .int .i64 (100000000), .int .i64 (60), .int .i64 (150), .int .i64 (500), .int .i64 (6000), .int .i64 (0), .int .i64 (1000)]) :: R) ⟨rfl, rfl, rfl, trivial⟩ (.cons_cons _ (.refl _)) ⟨rfl, rfl, (hle318)⟩
      exact R_nil
    ·
      rintro _ b317 _ _ ⟨rfl, rfl, hle318⟩ hq414
      rw [hq414] at hk322
      have hm := elimL hk322
      refine c_seq ?_
      refine c_region ?_
      refine t_st rfl (st_lss_f rfl rfl (by omega)) ?_
      refine t_nil ?_
      refine x_then_normal ?_
      refine c_seq ?_
      refine c_cond_f rfl ?_
      refine c_exit ?_
      refine x_then_exit ?_
      refine x_then_exit ?_
      refine x_block_out ?_
      refine x_then_normal ?_
      refine c_seq ?_
      refine c_region ?_
      refine t_st rfl (st_assign rfl) ?_
      refine t_nil ?_
      refine x_then_normal ?_
      refine c_ret ?_
      obtain rfl := some1 hm
      exact retM (rs := [.tmp 2]) [.int .i64 (0)] (hle225.trans hle318) (by decide) rfl ⟨rfl, trivial⟩ rfl (hp' := R) (.cons _ (.refl _)) ⟨rfl, rfl⟩

set_option maxRecDepth 20000 in
theorem cRunGone (b : Base) (R : Hp) (x1 : Int) (x2 : Int) (x7 : Int) (hm : mRunGone x1 x2 = some x7) :
    CallsG Tryd.prog 84 [.int .i64 (x1), .int .i64 (x2)] b (R) (fun v b' hp' => .int .i64 (x7) = v ∧ R = hp') := by
  refine fn_enterG 10 Tryd.func84 rfl Tryd.ntmps84 rfl ?_
  unfold mRunGone at hm
  refine c_seq ?_
  refine c_region ?_
  refine t_st rfl (st_assign rfl) ?_
  refine t_nil ?_
  refine x_then_normal ?_
  refine c_seq ?_
  refine c_region ?_
  refine t_st rfl (st_move rfl) ?_
  refine t_st rfl (st_move rfl) ?_
  obtain ⟨_, h8, hm⟩ := bindS hm
  have h8 := (chk_some h8).2
  refine t_st rfl (st_add rfl rfl h8) ?_
  obtain ⟨_, h9, hm⟩ := bindS hm
  have h9 := (chk_some h9).2
  refine t_st rfl (st_add rfl rfl h9) ?_
  obtain ⟨_, h10, hm⟩ := bindS hm
  obtain ⟨_, h11, hm⟩ := bindS hm
  have h11 := (chk_some h11).2
  refine t_st rfl (st_quo rfl rfl (ne0_some h10) h11) ?_
  refine t_st rfl (st_assign rfl) ?_
  refine t_nil ?_
  refine x_then_normal ?_
  refine c_ret ?_
  obtain rfl := some1 hm
  exact retM (rs := [.tmp 4]) [.int .i64 (Int.tdiv ((x1 + x2) + 1) 2)] (Base.Le.refl _) (by decide) rfl ⟨rfl, trivial⟩ rfl (hp' := R) (.refl _) ⟨rfl, rfl⟩

set_option maxRecDepth 20000 in
theorem cRunInto_2 (b : Base) (R : Hp) (s1 : ApiStock) (x2 : Int) (x3 : Int) (x59 : Int) (hm : mRunInto_2 s1 x2 x3 = some x59) :
    CallsG Tryd.prog 60 [.agg #[.string (s1.Name), .int .i64 (s1.Length), .int .i64 (s1.Mass), .int .i64 (s1.Start), .int .i64 (s1.Power), .int .i64 (s1.Roll), .int .i64 (s1.Drag), .int .i64 (s1.Brake), .int .i64 (s1.Top), .int .i64 (s1.Seats)], .int .i64 (x2), .int .i64 (x3)] b (R) (fun v b' hp' => .int .i64 (x59) = v ∧ R = hp') := by
  refine fn_enterG 26 Tryd.func60 rfl Tryd.ntmps60 rfl ?_
  unfold mRunInto_2 at hm
  refine c_seq ?_
  refine c_region ?_
  refine t_do rfl (u_box _ rfl rfl) ?_
  rintro _ _ ⟨g60, rfl, rfl⟩
  refine t_st rfl (st_assign rfl) ?_
  refine t_nil ?_
  refine x_then_normal ?_
  refine c_seq ?_
  refine c_region ?_
  refine t_st rfl (st_assign rfl) ?_
  refine t_nil ?_
  refine x_then_normal ?_
  obtain ⟨x88, hj89, hk89⟩ := bindS hm
  refine c_join (fun b86 e' hp' => [(7, .int .i64 (x88))] = e' ∧ R = hp' ∧ b.Le b86) ?_ ?_
  ·
    have hm := hj89
    refine c_block ?_
    refine c_loopM (unc2 fun x107 x108 => fun b105 e' hp' => [(1, .int .i64 (x107)), (2, .int .i64 (x3)), (3, .pointer (some ⟨g60, 0, none⟩)), (7, .int .i64 (x108))] = e' ∧ (g60, Cl 43 [.string (s1.Name), .int .i64 (s1.Length), .int .i64 (s1.Mass), .int .i64 (s1.Start), .int .i64 (s1.Power), .int .i64 (s1.Roll), .int .i64 (s1.Drag), .int .i64 (s1.Brake), .int .i64 (s1.Top), .int .i64 (s1.Seats)]) :: R = hp' ∧ b.Le b105) hm (e' := [(1, .int .i64 (x2)), (2, .int .i64 (x3)), (3, .pointer (some ⟨g60, 0, none⟩)), (7, .int .i64 (0))]) (hp' := (g60, Cl 43 [.string (s1.Name), .int .i64 (s1.Length), .int .i64 (s1.Mass), .int .i64 (s1.Start), .int .i64 (s1.Power), .int .i64 (s1.Roll), .int .i64 (s1.Drag), .int .i64 (s1.Brake), .int .i64 (s1.Top), .int .i64 (s1.Seats)]) :: R) ⟨rfl, rfl, rfl, rfl, trivial⟩ (.cons_cons _ (.refl _)) ⟨rfl, rfl, (Base.Le.refl _)⟩ ?_
    rintro ⟨x107, x108⟩ b105 _ _ oL90 ⟨rfl, rfl, hle106⟩ hstepL90 houtL90
    unfold mRunInto_2_L90 at hstepL90
    have hm := (unc2E hstepL90)
    refine c_seq ?_
    refine c_seq ?_
    refine c_region ?_
    refine t_st rfl (st_move rfl) ?_
    refine t_st rfl (st_move rfl) ?_
    refine t_st rfl (st_gtr rfl rfl) ?_
    refine t_nil ?_
    refine x_then_normal ?_
    refine c_cond _ rfl (fun hc109 => ?_) (fun hc109 => ?_)
    ·
      rw [if_pos (of_decide_eq_true hc109)] at hm
      refine c_skip ?_
      refine x_then_normal ?_
      refine c_block ?_
      refine c_seq ?_
      refine c_region ?_
      refine t_st rfl (st_move rfl) ?_
      refine t_st rfl (st_move rfl) ?_
      refine t_st rfl (st_field rfl fld43_7) ?_
      refine t_st rfl (st_load 0 rfl one3 rfl rfl) ?_
      obtain ⟨_, h110, hm⟩ := bindS hm
      have h110 := (chk_some h110).2
      refine t_st rfl (st_sub rfl rfl h110) ?_
      obtain ⟨_, h111, hm⟩ := bindS hm
      have h111 := (chk_some h111).2
      refine t_st rfl (st_sub rfl rfl h111) ?_
      refine t_st rfl (st_max rfl rfl) ?_
      refine t_st rfl (st_assign rfl) ?_
      refine t_nil ?_
      refine x_then_normal ?_
      refine c_seq ?_
      refine c_region ?_
      refine t_st rfl (st_move rfl) ?_
      refine t_st rfl (st_move rfl) ?_
      refine t_st rfl (st_move rfl) ?_
      obtain ⟨x112, hcl113, hm⟩ := bindS hm
      refine t_do rfl (u_callW0 _ call84 rfl (fun w ho => cRunGone _ [] x107 (max x3 (x107 - (s1.Brake - 40))) x112 hcl113) (fun _ _ _ h => h.2.symm)) ?_
      rintro _ _ ⟨⟨_, rfl, _⟩, rfl⟩
      obtain ⟨_, h114, hm⟩ := bindS hm
      have h114 := (chk_some h114).2
      refine t_st rfl (st_add rfl rfl h114) ?_
      refine t_st rfl (st_assign rfl) ?_
      refine t_nil ?_
      refine x_then_normal ?_
      refine c_region ?_
      refine t_st rfl (st_move rfl) ?_
      refine t_st rfl (st_assign rfl) ?_
      refine t_nil ?_
      refine x_block_normal ?_
      exact x_againM (max x3 (x107 - (s1.Brake - 40)), x108 + x112) (Option.some.inj hm).symm (e' := [(1, .int .i64 (max x3 (x107 - (s1.Brake - 40)))), (2, .int .i64 (x3)), (3, .pointer (some ⟨g60, 0, none⟩)), (7, .int .i64 (x108 + x112))]) (hp' := (g60, Cl 43 [.string (s1.Name), .int .i64 (s1.Length), .int .i64 (s1.Mass), .int .i64 (s1.Start), .int .i64 (s1.Power), .int .i64 (s1.Roll), .int .i64 (s1.Drag), .int .i64 (s1.Brake), .int .i64 (s1.Top), .int .i64 (s1.Seats)]) :: R) ⟨rfl, rfl, rfl, rfl, trivial⟩ (.cons_cons _ (.refl _)) ⟨rfl, rfl, (hle106)⟩
    ·
      rw [if_neg (of_decide_eq_false hc109)] at hm
      refine c_exit ?_
      refine x_then_exit ?_
      refine x_then_exit ?_
      refine x_block_out ?_
      have hm := congrArg some (houtL90 _ (Option.some.inj hm).symm)
      obtain rfl := some1 hm
      exact x_join (e' := [(7, .int .i64 (x108))]) (hp' := R) ⟨rfl, trivial⟩ (.cons _ (.refl _)) ⟨rfl, rfl, hle106⟩
  ·
    rintro b86 _ _ ⟨rfl, rfl, hle87⟩
    have hm := hk89
    refine c_seq ?_
    refine c_region ?_
    refine t_st rfl (st_move rfl) ?_
    refine t_st rfl (st_assign rfl) ?_
    refine t_nil ?_
    refine x_then_normal ?_
    refine c_ret ?_
    obtain rfl := some1 hm
    exact retM (rs := [.tmp 6]) [.int .i64 (x88)] hle87 (by decide) rfl ⟨rfl, trivial⟩ rfl (hp' := R) (.refl _) ⟨rfl, rfl⟩

set_option maxRecDepth 20000 in
theorem cRunInto (b : Base) (R : Hp) (s1 : ApiStock) (x2 : Int) (x3 : Int) (x25 : Int) (x26 : Int) (hm : mRunInto s1 x2 x3 = some (x25, x26)) :
    CallsG Tryd.prog 24 [.agg #[.string (s1.Name), .int .i64 (s1.Length), .int .i64 (s1.Mass), .int .i64 (s1.Start), .int .i64 (s1.Power), .int .i64 (s1.Roll), .int .i64 (s1.Drag), .int .i64 (s1.Brake), .int .i64 (s1.Top), .int .i64 (s1.Seats)], .int .i64 (x2), .int .i64 (x3)] b (R) (fun v b' hp' => .tuple #[.int .i64 (x25), .int .i64 (x26)] = v ∧ R = hp') := by
  refine fn_enterG 26 Tryd.func24 rfl Tryd.ntmps24 rfl ?_
  unfold mRunInto at hm
  refine c_seq ?_
  refine c_region ?_
  refine t_do rfl (u_box _ rfl rfl) ?_
  rintro _ _ ⟨g27, rfl, rfl⟩
  refine t_st rfl (st_assign rfl) ?_
  refine t_st rfl (st_assign rfl) ?_
  refine t_nil ?_
  refine x_then_normal ?_
  refine c_seq ?_
  refine c_seq ?_
  refine c_region ?_
  refine t_st rfl (st_loadD (vs := [_, _, _, _, _, _, _, _, _, _]) 0 10 rfl agg43 rfl rfl rfl) ?_
  obtain ⟨x28, hcl29, hm⟩ := bindS hm
  refine t_do rfl (u_callW0 _ call22 rfl (fun w ho => cRunCheck _ [] s1 x28 hcl29) (fun _ _ _ h => h.2.symm)) ?_
  rintro _ _ ⟨⟨_, rfl, _⟩, rfl⟩
  refine t_st rfl (st_assign rfl) ?_
  refine t_nil ?_
  refine x_then_normal ?_
  refine c_seq ?_
  refine c_region ?_
  refine t_st rfl (st_move rfl) ?_
  refine t_st rfl (st_neq rfl rfl) ?_
  refine t_nil ?_
  refine x_then_normal ?_
  refine c_cond _ rfl (fun hc30 => ?_) (fun hc30 => ?_)
  ·
    rw [if_pos (of_decide_eq_true hc30)] at hm
    refine c_seq ?_
    refine c_region ?_
    refine t_st rfl (st_move rfl) ?_
    refine t_st rfl (st_assign rfl) ?_
    refine t_st rfl (st_assign rfl) ?_
    refine t_nil ?_
    refine x_then_normal ?_
    refine c_ret ?_
    refine x_then_ret ?_
    obtain ⟨rfl, rfl⟩ := some2 hm
    exact retM (rs := [.tmp 6, .tmp 7]) [.int .i64 (0), .int .i64 (x28)] (Base.Le.refl _) (by decide) rfl ⟨rfl, ⟨rfl, trivial⟩⟩ rfl (hp' := R) (.cons _ (.refl _)) ⟨rfl, rfl⟩
  ·
    rw [if_neg (of_decide_eq_false hc30)] at hm
    refine c_skip ?_
    refine x_then_normal ?_
    refine c_seq ?_
    obtain ⟨x38, hj39, hk39⟩ := bindS hm
    refine c_join (fun b36 e' hp' => [(1, .int .i64 (x2)), (2, .int .i64 (x3)), (3, .pointer (some ⟨g27, 0, none⟩)), (21, .bool (x38))] = e' ∧ (g27, Cl 43 [.string (s1.Name), .int .i64 (s1.Length), .int .i64 (s1.Mass), .int .i64 (s1.Start), .int .i64 (s1.Power), .int .i64 (s1.Roll), .int .i64 (s1.Drag), .int .i64 (s1.Brake), .int .i64 (s1.Top), .int .i64 (s1.Seats)]) :: R = hp' ∧ b.Le b36) ?_ ?_
    ·
      have hm := hj39
      refine c_region ?_
      refine t_st rfl (st_move rfl) ?_
      obtain ⟨x40, hcl41, hm⟩ := bindS hm
      refine t_do rfl (u_callW0 _ call59 rfl (fun w ho => cRunWithin _ [] x2 0 6000 x40 hcl41) (fun _ _ _ h => h.2.symm)) ?_
      rintro _ _ ⟨⟨_, rfl, _⟩, rfl⟩
      rcases Bool.eq_false_or_eq_true x40 with hc42 | hc42
      ·
        rw [if_pos hc42] at hm
        refine t_resp 15 rfl (v' := .bool true) (by rw [hc42] <;> rfl) ?_
        refine t_st rfl (st_not_t rfl) ?_
        refine t_st rfl (st_move rfl) ?_
        refine t_yes 17 rfl rfl rfl ?_
        refine t_st rfl (st_move rfl) ?_
        refine t_yes 17 rfl rfl rfl ?_
        obtain ⟨x43, hcl44, hm⟩ := bindS hm
        refine t_do rfl (u_callW0 _ call59 rfl (fun w ho => cRunWithin _ [] x3 0 6000 x43 hcl44) (fun _ _ _ h => h.2.symm)) ?_
        rintro _ _ ⟨⟨_, rfl, _⟩, rfl⟩
        refine t_yes 17 rfl rfl rfl ?_
        refine t_st rfl (st_not rfl) ?_
        refine t_st rfl (st_pick_f rfl rfl) ?_
        refine t_nil ?_
        obtain rfl := some1 hm
        exact x_join (e' := [(1, .int .i64 (x2)), (2, .int .i64 (x3)), (3, .pointer (some ⟨g27, 0, none⟩)), (21, .bool (!x43))]) (hp' := (g27, Cl 43 [.string (s1.Name), .int .i64 (s1.Length), .int .i64 (s1.Mass), .int .i64 (s1.Start), .int .i64 (s1.Power), .int .i64 (s1.Roll), .int .i64 (s1.Drag), .int .i64 (s1.Brake), .int .i64 (s1.Top), .int .i64 (s1.Seats)]) :: R) ⟨rfl, rfl, rfl, rfl, trivial⟩ (.cons_cons _ (.refl _)) ⟨rfl, rfl, (Base.Le.refl _)⟩
      ·
        rw [if_neg (fun hh => Bool.noConfusion (hh.symm.trans hc42))] at hm
        refine t_resp 15 rfl (v' := .bool false) (by rw [hc42] <;> rfl) ?_
        refine t_st rfl (st_not_f rfl) ?_
        refine t_st rfl (st_move rfl) ?_
        refine t_no 17 rfl rfl rfl rfl rfl ?_
        refine t_no 17 rfl rfl rfl rfl rfl ?_
        refine t_no 17 rfl rfl rfl rfl rfl ?_
        refine t_st rfl (st_pick_t rfl rfl) ?_
        refine t_nil ?_
        obtain rfl := some1 hm
        exact x_join (e' := [(1, .int .i64 (x2)), (2, .int .i64 (x3)), (3, .pointer (some ⟨g27, 0, none⟩)), (21, .bool (true))]) (hp' := (g27, Cl 43 [.string (s1.Name), .int .i64 (s1.Length), .int .i64 (s1.Mass), .int .i64 (s1.Start), .int .i64 (s1.Power), .int .i64 (s1.Roll), .int .i64 (s1.Drag), .int .i64 (s1.Brake), .int .i64 (s1.Top), .int .i64 (s1.Seats)]) :: R) ⟨rfl, rfl, rfl, rfl, trivial⟩ (.cons_cons _ (.refl _)) ⟨rfl, rfl, (Base.Le.refl _)⟩
    ·
      rintro b36 _ _ ⟨rfl, rfl, hle37⟩
      have hm := hk39
      refine c_cond _ rfl (fun hc45 => ?_) (fun hc45 => ?_)
      ·
        rw [if_pos hc45] at hm
        refine c_seq ?_
        refine c_region ?_
        refine t_st rfl (st_assign rfl) ?_
        refine t_st rfl (st_assign rfl) ?_
        refine t_nil ?_
        refine x_then_normal ?_
        refine c_ret ?_
        refine x_then_ret ?_
        obtain ⟨rfl, rfl⟩ := some2 hm
        exact retM (rs := [.tmp 6, .tmp 7]) [.int .i64 (0), .int .i64 (2)] hle37 (by decide) rfl ⟨rfl, ⟨rfl, trivial⟩⟩ rfl (hp' := R) (.cons _ (.refl _)) ⟨rfl, rfl⟩
      ·
        rw [if_neg (fun hh => Bool.noConfusion (hh.symm.trans hc45))] at hm
        refine c_skip ?_
        refine x_then_normal ?_
        refine c_seq ?_
        refine c_region ?_
        refine t_st rfl (st_loadD (vs := [_, _, _, _, _, _, _, _, _, _]) 0 10 rfl agg43 rfl rfl rfl) ?_
        refine t_st rfl (st_move rfl) ?_
        refine t_st rfl (st_move rfl) ?_
        obtain ⟨x46, hcl47, hm⟩ := bindS hm
        refine t_do rfl (u_callW0 _ call60 rfl (fun w ho => cRunInto_2 _ [] s1 x2 x3 x46 hcl47) (fun _ _ _ h => h.2.symm)) ?_
        rintro _ _ ⟨⟨_, rfl, _⟩, rfl⟩
        refine t_st rfl (st_assign rfl) ?_
        refine t_st rfl (st_assign rfl) ?_
        refine t_nil ?_
        refine x_then_normal ?_
        refine c_ret ?_
        obtain ⟨rfl, rfl⟩ := some2 hm
        exact retM (rs := [.tmp 6, .tmp 7]) [.int .i64 (x46), .int .i64 (0)] hle37 (by decide) rfl ⟨rfl, ⟨rfl, trivial⟩⟩ rfl (hp' := R) (.cons _ (.refl _)) ⟨rfl, rfl⟩

set_option maxRecDepth 20000 in
theorem cRunStop (b : Base) (R : Hp) (s1 : ApiStock) (x2 : Int) (x7 : Int) (x8 : Int) (hm : mRunStop s1 x2 = some (x7, x8)) :
    CallsG Tryd.prog 23 [.agg #[.string (s1.Name), .int .i64 (s1.Length), .int .i64 (s1.Mass), .int .i64 (s1.Start), .int .i64 (s1.Power), .int .i64 (s1.Roll), .int .i64 (s1.Drag), .int .i64 (s1.Brake), .int .i64 (s1.Top), .int .i64 (s1.Seats)], .int .i64 (x2)] b (R) (fun v b' hp' => .tuple #[.int .i64 (x7), .int .i64 (x8)] = v ∧ R = hp') := by
  refine fn_enterG 11 Tryd.func23 rfl Tryd.ntmps23 rfl ?_
  unfold mRunStop at hm
  refine c_seq ?_
  refine c_region ?_
  refine t_do rfl (u_box _ rfl rfl) ?_
  rintro _ _ ⟨g9, rfl, rfl⟩
  refine t_st rfl (st_assign rfl) ?_
  refine t_st rfl (st_assign rfl) ?_
  refine t_nil ?_
  refine x_then_normal ?_
  refine c_seq ?_
  refine c_region ?_
  refine t_st rfl (st_loadD (vs := [_, _, _, _, _, _, _, _, _, _]) 0 10 rfl agg43 rfl rfl rfl) ?_
  refine t_st rfl (st_move rfl) ?_
  obtain ⟨⟨x10, x11⟩, hcl12, hm⟩ := bindS hm
  have hm := (unc2E hm)
  refine t_do rfl (u_callW0 _ call24 rfl (fun w ho => cRunInto _ [] s1 x2 0 x10 x11 hcl12) (fun _ _ _ h => h.2.symm)) ?_
  rintro _ _ ⟨⟨_, rfl, _⟩, rfl⟩
  refine t_st rfl (st_extract rfl rfl) ?_
  refine t_st rfl (st_extract rfl rfl) ?_
  refine t_st rfl (st_assign rfl) ?_
  refine t_st rfl (st_assign rfl) ?_
  refine t_nil ?_
  refine x_then_normal ?_
  refine c_ret ?_
  obtain ⟨rfl, rfl⟩ := some2 hm
  exact retM (rs := [.tmp 4, .tmp 5]) [.int .i64 (x10), .int .i64 (x11)] (Base.Le.refl _) (by decide) rfl ⟨rfl, ⟨rfl, trivial⟩⟩ rfl (hp' := R) (.cons _ (.refl _)) ⟨rfl, rfl⟩

set_option maxRecDepth 20000 in
theorem cRunCheck_2 (b : Base) (R : Hp) (s1 : ApiStock) (l5 : (List ApiPiece)) (s6 : ApiState) (x7 : Int) (A2 : Option Addr) (c3 : Nat) (h4 : FZ rApiPiece b.w A2 c3 l5) (x153 : Int) (hm : mRunCheck_2 s1 l5 s6 x7 = some x153) :
    CallsG Tryd.prog 69 [.agg #[.string (s1.Name), .int .i64 (s1.Length), .int .i64 (s1.Mass), .int .i64 (s1.Start), .int .i64 (s1.Power), .int .i64 (s1.Roll), .int .i64 (s1.Drag), .int .i64 (s1.Brake), .int .i64 (s1.Top), .int .i64 (s1.Seats)], .slice A2 (l5).length c3, .agg #[.int .i64 (s6.At), .int .i64 (s6.Speed), .int .i64 (s6.Work)], .int .i64 (x7)] b (R) (fun v b' hp' => .int .i64 (x153) = v ∧ R = hp') := by
  refine fn_enterG 78 Tryd.func69 rfl Tryd.ntmps69 rfl ?_
  unfold mRunCheck_2 at hm
  refine c_seq ?_
  refine c_region ?_
  refine t_do rfl (u_box _ rfl rfl) ?_
  rintro _ _ ⟨g154, rfl, rfl⟩
  refine t_do rfl (u_box _ rfl rfl) ?_
  rintro _ _ ⟨g155, rfl, rfl⟩
  refine t_st rfl (st_assign rfl) ?_
  refine t_nil ?_
  refine x_then_normal ?_
  refine c_seq ?_
  refine c_seq ?_
  refine c_region ?_
  refine t_st rfl (st_loadD (vs := [_, _, _, _, _, _, _, _, _, _]) 1 10 rfl agg43 rfl rfl rfl) ?_
  obtain ⟨x156, hcl157, hm⟩ := bindS hm
  refine t_do rfl (u_callW0 _ call22 rfl (fun w ho => cRunCheck _ [] s1 x156 hcl157) (fun _ _ _ h => h.2.symm)) ?_
  rintro _ _ ⟨⟨_, rfl, _⟩, rfl⟩
  refine t_st rfl (st_assign rfl) ?_
  refine t_nil ?_
  refine x_then_normal ?_
  refine c_seq ?_
  refine c_region ?_
  refine t_st rfl (st_move rfl) ?_
  refine t_st rfl (st_neq rfl rfl) ?_
  refine t_nil ?_
  refine x_then_normal ?_
  refine c_cond _ rfl (fun hc158 => ?_) (fun hc158 => ?_)
  ·
    rw [if_pos (of_decide_eq_true hc158)] at hm
    refine c_seq ?_
    refine c_region ?_
    refine t_st rfl (st_move rfl) ?_
    refine t_st rfl (st_assign rfl) ?_
    refine t_nil ?_
    refine x_then_normal ?_
    refine c_ret ?_
    refine x_then_ret ?_
    obtain rfl := some1 hm
    exact retM (rs := [.tmp 8]) [.int .i64 (x156)] (Base.Le.refl _) (by decide) rfl ⟨rfl, trivial⟩ rfl (hp' := R) (.cons _ (.cons _ (.refl _))) ⟨rfl, rfl⟩
  ·
    rw [if_neg (of_decide_eq_false hc158)] at hm
    refine c_skip ?_
    refine x_then_normal ?_
    refine c_seq ?_
    refine c_block ?_
    refine c_seq ?_
    refine c_region ?_
    refine t_st rfl (st_move rfl) ?_
    refine t_st rfl (st_len rfl sl80) ?_
    refine t_st rfl (st_eql rfl rfl) ?_
    refine t_st rfl (st_assign rfl) ?_
    refine t_nil ?_
    refine x_then_normal ?_
    refine c_cond _ rfl (fun hc159 => ?_) (fun hc159 => ?_)
    ·
      rw [if_pos (of_decide_eq_true hc159)] at hm
      refine c_seq ?_
      refine c_region ?_
      refine t_st rfl (st_assign rfl) ?_
      refine t_nil ?_
      refine x_then_normal ?_
      refine c_ret ?_
      refine x_block_ret ?_
      refine x_then_ret ?_
      obtain rfl := some1 hm
      exact retM (rs := [.tmp 8]) [.int .i64 (1)] (Base.Le.refl _) (by decide) rfl ⟨rfl, trivial⟩ rfl (hp' := R) (.cons _ (.cons _ (.refl _))) ⟨rfl, rfl⟩
    ·
      rw [if_neg (of_decide_eq_false hc159)] at hm
      refine c_seq ?_
      refine c_region ?_
      refine t_st rfl (st_move rfl) ?_
      refine t_st rfl (st_len rfl sl80) ?_
      refine t_st rfl (st_gtr rfl rfl) ?_
      refine t_st rfl (st_assign rfl) ?_
      refine t_nil ?_
      refine x_then_normal ?_
      refine c_cond _ rfl (fun hc160 => ?_) (fun hc160 => ?_)
      ·
        rw [if_pos (of_decide_eq_true hc160)] at hm
        refine c_seq ?_
        refine c_region ?_
        refine t_st rfl (st_assign rfl) ?_
        refine t_nil ?_
        refine x_then_normal ?_
        refine c_ret ?_
        refine x_block_ret ?_
        refine x_then_ret ?_
        obtain rfl := some1 hm
        exact retM (rs := [.tmp 8]) [.int .i64 (4)] (Base.Le.refl _) (by decide) rfl ⟨rfl, trivial⟩ rfl (hp' := R) (.cons _ (.cons _ (.refl _))) ⟨rfl, rfl⟩
      ·
        rw [if_neg (of_decide_eq_false hc160)] at hm
        refine c_skip ?_
        refine x_block_normal ?_
        refine x_then_normal ?_
        refine c_seq ?_
        refine c_region ?_
        refine t_st rfl (st_assign rfl) ?_
        refine t_nil ?_
        refine x_then_normal ?_
        refine c_seq ?_
        refine c_seq ?_
        refine c_region ?_
        refine t_st rfl (st_move rfl) ?_
        refine t_st rfl (st_len rfl sl80) ?_
        refine t_st rfl (st_move rfl) ?_
        refine t_nil ?_
        refine x_then_normal ?_
        refine c_block ?_
        have hb162 := (FZ.bd h4)
        refine c_pullb 1 rfl ?_
        obtain ⟨t234, hl235, hk236⟩ := bindS hm
        refine c_forM (fun k233 => fun x232 => fun b230 e' hp' => [(3, .int .i64 (x7)), (4, .pointer (some ⟨g154, 0, none⟩)), (6, .pointer (some ⟨g155, 0, none⟩)), (10, .int .i64 (x232)), (26, .slice A2 (l5).length c3), (27, .int .i64 ((l5.length : Int))), (28, .int .i64 ((k233 : Int)))] = e' ∧ (g154, Cl 43 [.string (s1.Name), .int .i64 (s1.Length), .int .i64 (s1.Mass), .int .i64 (s1.Start), .int .i64 (s1.Power), .int .i64 (s1.Roll), .int .i64 (s1.Drag), .int .i64 (s1.Brake), .int .i64 (s1.Top), .int .i64 (s1.Seats)]) :: (g155, Cl 82 [.int .i64 (s6.At), .int .i64 (s6.Speed), .int .i64 (s6.Work)]) :: R = hp' ∧ b.Le b230) hl235 (e' := [(3, .int .i64 (x7)), (4, .pointer (some ⟨g154, 0, none⟩)), (6, .pointer (some ⟨g155, 0, none⟩)), (10, .int .i64 (0)), (26, .slice A2 (l5).length c3), (27, .int .i64 ((l5.length : Int))), (28, .int .i64 0)]) (hp' := (g154, Cl 43 [.string (s1.Name), .int .i64 (s1.Length), .int .i64 (s1.Mass), .int .i64 (s1.Start), .int .i64 (s1.Power), .int .i64 (s1.Roll), .int .i64 (s1.Drag), .int .i64 (s1.Brake), .int .i64 (s1.Top), .int .i64 (s1.Seats)]) :: (g155, Cl 82 [.int .i64 (s6.At), .int .i64 (s6.Speed), .int .i64 (s6.Work)]) :: R) ⟨rfl, rfl, rfl, rfl, rfl, rfl, rfl, trivial⟩ (.cons_cons _ (.cons_cons _ (.refl _))) ⟨rfl, rfl, (Base.Le.refl _)⟩ ?_ ?_
        ·
          rintro k233 x232 b230 _ _ oL161 hknL161 ⟨rfl, rfl, hle231⟩ hstepL161 houtL161
          unfold mRunCheck_2_L161 at hstepL161
          have hm := hstepL161
          refine c_seq ?_
          refine c_region ?_
          refine t_st rfl (st_lss_t rfl rfl (by omega)) ?_
          refine t_nil ?_
          refine x_then_normal ?_
          refine c_seq ?_
          refine c_cond_t rfl ?_
          refine c_skip ?_
          refine x_then_normal ?_
          refine c_seq ?_
          refine c_block ?_
          refine c_seq ?_
          refine c_region ?_
          obtain ⟨x237, h238, hm⟩ := bindS hm
          obtain ⟨j239, hj240, hx241⟩ := idx_some h238
          obtain ⟨cs242, hr243, hcs244, hA245, hlt246⟩ := FZ.get (sz := 3) rfl (by decide) (h4.le hle231) hx241
          obtain ⟨_, _, rfl, rfl, ⟨_, _, rfl, rfl, rfl⟩⟩ := hr243
          refine t_st rfl (st_index_old j239 rfl rfl hj240 hlt246 hA245 sl80) ?_
          refine t_st rfl (st_loadN_old (vs := [.int .i64 (x237.Length), .int .i64 (x237.Grade), .int .i64 (x237.Speed)]) 3 rfl agg97 hA245 rfl (fun j u hu => hcs244 j u hu)) ?_
          refine t_do rfl (u_alloc [.int .i64 0, .int .i64 0, .int .i64 0] zero97 rfl) ?_
          rintro _ _ ⟨g247, rfl, rfl⟩
          refine t_do rfl (u_storeN (vs := [_, _, _]) 0 3 rfl rfl rfl siz97 rfl (by intro u hu; simp only [List.mem_cons, List.not_mem_nil, or_false] at hu; rcases hu with rfl | rfl | rfl <;> rfl) rfl (by simp)) ?_
          rintro _ _ rfl
          refine t_nil ?_
          refine x_then_normal ?_
          refine c_seq ?_
          obtain ⟨x258, hj259, hk259⟩ := bindS hm
          refine c_join (fun b256 e' hp' => [(3, .int .i64 (x7)), (4, .pointer (some ⟨g154, 0, none⟩)), (6, .pointer (some ⟨g155, 0, none⟩)), (10, .int .i64 (x232)), (12, .pointer (some ⟨g247, 0, none⟩)), (26, .slice A2 (l5).length c3), (27, .int .i64 ((l5.length : Int))), (28, .int .i64 ((k233 : Int))), (47, .bool (x258))] = e' ∧ (g154, Cl 43 [.string (s1.Name), .int .i64 (s1.Length), .int .i64 (s1.Mass), .int .i64 (s1.Start), .int .i64 (s1.Power), .int .i64 (s1.Roll), .int .i64 (s1.Drag), .int .i64 (s1.Brake), .int .i64 (s1.Top), .int .i64 (s1.Seats)]) :: (g155, Cl 82 [.int .i64 (s6.At), .int .i64 (s6.Speed), .int .i64 (s6.Work)]) :: (g247, Cl 97 [.int .i64 (x237.Length), .int .i64 (x237.Grade), .int .i64 (x237.Speed)]) :: R = hp' ∧ b230.Le b256) ?_ ?_
          ·
            have hm := hj259
            refine c_region ?_
            refine t_st rfl (st_field rfl fld97_0) ?_
            refine t_st rfl (st_load 0 rfl one3 rfl rfl) ?_
            obtain ⟨x260, hcl261, hm⟩ := bindS hm
            refine t_do rfl (u_callW0 _ call59 rfl (fun w ho => cRunWithin _ [] x237.Length 1 300000 x260 hcl261) (fun _ _ _ h => h.2.symm)) ?_
            rintro _ _ ⟨⟨_, rfl, _⟩, rfl⟩
            rcases Bool.eq_false_or_eq_true x260 with hc262 | hc262
            ·
              rw [if_pos hc262] at hm
              refine t_resp 34 rfl (v' := .bool true) (by rw [hc262] <;> rfl) ?_
              refine t_st rfl (st_not_t rfl) ?_
              refine t_st rfl (st_move rfl) ?_
              refine t_yes 36 rfl rfl rfl ?_
              refine t_st rfl (st_field rfl fld97_1) ?_
              refine t_yes 36 rfl rfl rfl ?_
              refine t_st rfl (st_load 0 rfl one3 rfl rfl) ?_
              refine t_yes 36 rfl rfl rfl ?_
              obtain ⟨x263, hcl264, hm⟩ := bindS hm
              refine t_do rfl (u_callW0 _ call59 rfl (fun w ho => cRunWithin _ [] x237.Grade (-40) 40 x263 hcl264) (fun _ _ _ h => h.2.symm)) ?_
              rintro _ _ ⟨⟨_, rfl, _⟩, rfl⟩
              rcases Bool.eq_false_or_eq_true x263 with hc265 | hc265
              ·
                rw [if_pos hc265] at hm
                refine t_resp 39 rfl (v' := .bool true) (by rw [hc265] <;> rfl) ?_
                refine t_yes 36 rfl rfl rfl ?_
                refine t_st rfl (st_not_t rfl) ?_
                refine t_st rfl (st_pick_f rfl rfl) ?_
                refine t_st rfl (st_move rfl) ?_
                refine t_yes 42 rfl rfl rfl ?_
                refine t_st rfl (st_field rfl fld97_2) ?_
                refine t_yes 42 rfl rfl rfl ?_
                refine t_st rfl (st_load 0 rfl one3 rfl rfl) ?_
                refine t_yes 42 rfl rfl rfl ?_
                obtain ⟨x266, hcl267, hm⟩ := bindS hm
                refine t_do rfl (u_callW0 _ call59 rfl (fun w ho => cRunWithin _ [] x237.Speed 1 6000 x266 hcl267) (fun _ _ _ h => h.2.symm)) ?_
                rintro _ _ ⟨⟨_, rfl, _⟩, rfl⟩
                refine t_yes 42 rfl rfl rfl ?_
                refine t_st rfl (st_not rfl) ?_
                refine t_st rfl (st_pick_f rfl rfl) ?_
                refine t_nil ?_
                obtain rfl := some1 hm
                refine x_pullb 2 rfl ?_
                refine x_pullb 2 rfl ?_
                exact x_join (e' := [(3, .int .i64 (x7)), (4, .pointer (some ⟨g154, 0, none⟩)), (6, .pointer (some ⟨g155, 0, none⟩)), (10, .int .i64 (x232)), (12, .pointer (some ⟨g247, 0, none⟩)), (26, .slice A2 (l5).length c3), (27, .int .i64 ((l5.length : Int))), (28, .int .i64 ((k233 : Int))), (47, .bool (!x266))]) (hp' := (g154, Cl 43 [.string (s1.Name), .int .i64 (s1.Length), .int .i64 (s1.Mass), .int .i64 (s1.Start), .int .i64 (s1.Power), .int .i64 (s1.Roll), .int .i64 (s1.Drag), .int .i64 (s1.Brake), .int .i64 (s1.Top), .int .i64 (s1.Seats)]) :: (g155, Cl 82 [.int .i64 (s6.At), .int .i64 (s6.Speed), .int .i64 (s6.Work)]) :: (g247, Cl 97 [.int .i64 (x237.Length), .int .i64 (x237.Grade), .int .i64 (x237.Speed)]) :: R) ⟨rfl, rfl, rfl, rfl, rfl, rfl, rfl, rfl, rfl, trivial⟩ (.cons_cons _ (.cons_cons _ (.cons_cons _ (.refl _)))) ⟨rfl, rfl, (Base.Le.refl _)⟩
              ·
                rw [if_neg (fun hh => Bool.noConfusion (hh.symm.trans hc265))] at hm
                refine t_resp 39 rfl (v' := .bool false) (by rw [hc265] <;> rfl) ?_
                refine t_yes 36 rfl rfl rfl ?_
                refine t_st rfl (st_not_f rfl) ?_
                refine t_st rfl (st_pick_f rfl rfl) ?_
                refine t_st rfl (st_move rfl) ?_
                refine t_no 42 rfl rfl rfl rfl rfl ?_
                refine t_no 42 rfl rfl rfl rfl rfl ?_
                refine t_no 42 rfl rfl rfl rfl rfl ?_
                refine t_no 42 rfl rfl rfl rfl rfl ?_
                refine t_st rfl (st_pick_t rfl rfl) ?_
                refine t_nil ?_
                obtain rfl := some1 hm
                refine x_pullb 2 rfl ?_
                refine x_pullb 2 rfl ?_
                exact x_join (e' := [(3, .int .i64 (x7)), (4, .pointer (some ⟨g154, 0, none⟩)), (6, .pointer (some ⟨g155, 0, none⟩)), (10, .int .i64 (x232)), (12, .pointer (some ⟨g247, 0, none⟩)), (26, .slice A2 (l5).length c3), (27, .int .i64 ((l5.length : Int))), (28, .int .i64 ((k233 : Int))), (47, .bool (true))]) (hp' := (g154, Cl 43 [.string (s1.Name), .int .i64 (s1.Length), .int .i64 (s1.Mass), .int .i64 (s1.Start), .int .i64 (s1.Power), .int .i64 (s1.Roll), .int .i64 (s1.Drag), .int .i64 (s1.Brake), .int .i64 (s1.Top), .int .i64 (s1.Seats)]) :: (g155, Cl 82 [.int .i64 (s6.At), .int .i64 (s6.Speed), .int .i64 (s6.Work)]) :: (g247, Cl 97 [.int .i64 (x237.Length), .int .i64 (x237.Grade), .int .i64 (x237.Speed)]) :: R) ⟨rfl, rfl, rfl, rfl, rfl, rfl, rfl, rfl, rfl, trivial⟩ (.cons_cons _ (.cons_cons _ (.cons_cons _ (.refl _)))) ⟨rfl, rfl, (Base.Le.refl _)⟩
            ·
              rw [if_neg (fun hh => Bool.noConfusion (hh.symm.trans hc262))] at hm
              refine t_resp 34 rfl (v' := .bool false) (by rw [hc262] <;> rfl) ?_
              refine t_st rfl (st_not_f rfl) ?_
              refine t_st rfl (st_move rfl) ?_
              refine t_no 36 rfl rfl rfl rfl rfl ?_
              refine t_no 36 rfl rfl rfl rfl rfl ?_
              refine t_no 36 rfl rfl rfl rfl rfl ?_
              refine t_no 36 rfl rfl rfl rfl rfl ?_
              refine t_st rfl (st_pick_t rfl rfl) ?_
              refine t_st rfl (st_move rfl) ?_
              refine t_no 42 rfl rfl rfl rfl rfl ?_
              refine t_no 42 rfl rfl rfl rfl rfl ?_
              refine t_no 42 rfl rfl rfl rfl rfl ?_
              refine t_no 42 rfl rfl rfl rfl rfl ?_
              refine t_st rfl (st_pick_t rfl rfl) ?_
              refine t_nil ?_
              obtain rfl := some1 hm
              refine x_pullb 2 rfl ?_
              refine x_pullb 2 rfl ?_
              exact x_join (e' := [(3, .int .i64 (x7)), (4, .pointer (some ⟨g154, 0, none⟩)), (6, .pointer (some ⟨g155, 0, none⟩)), (10, .int .i64 (x232)), (12, .pointer (some ⟨g247, 0, none⟩)), (26, .slice A2 (l5).length c3), (27, .int .i64 ((l5.length : Int))), (28, .int .i64 ((k233 : Int))), (47, .bool (true))]) (hp' := (g154, Cl 43 [.string (s1.Name), .int .i64 (s1.Length), .int .i64 (s1.Mass), .int .i64 (s1.Start), .int .i64 (s1.Power), .int .i64 (s1.Roll), .int .i64 (s1.Drag), .int .i64 (s1.Brake), .int .i64 (s1.Top), .int .i64 (s1.Seats)]) :: (g155, Cl 82 [.int .i64 (s6.At), .int .i64 (s6.Speed), .int .i64 (s6.Work)]) :: (g247, Cl 97 [.int .i64 (x237.Length), .int .i64 (x237.Grade), .int .i64 (x237.Speed)]) :: R) ⟨rfl, rfl, rfl, rfl, rfl, rfl, rfl, rfl, rfl, trivial⟩ (.cons_cons _ (.cons_cons _ (.cons_cons _ (.refl _)))) ⟨rfl, rfl, (Base.Le.refl _)⟩
          ·
            rintro b256 _ _ ⟨rfl, rfl, hle257⟩
            have hm := hk259
            refine c_cond _ rfl (fun hc268 => ?_) (fun hc268 => ?_)
            ·
              rw [if_pos hc268] at hm
              refine c_seq ?_
              refine c_region ?_
              refine t_st rfl (st_assign rfl) ?_
              refine t_nil ?_
              refine x_then_normal ?_
              refine c_ret ?_
              refine x_then_ret ?_
              refine x_block_ret ?_
              refine x_then_ret ?_
              refine x_then_ret ?_
              refine x_block_ret ?_
              refine x_then_ret ?_
              have hq269 := houtL161 _ (Option.some.inj hm).symm
              rw [hq269] at hk236
              have hm := elimR hk236
              obtain rfl := some1 hm
              exact retM (rs := [.tmp 8]) [.int .i64 (2)] (hle231.trans hle257) (by decide) rfl ⟨rfl, trivial⟩ rfl (hp' := R) (.cons _ (.cons _ (.cons _ (.refl _)))) ⟨rfl, rfl⟩
            ·
              rw [if_neg (fun hh => Bool.noConfusion (hh.symm.trans hc268))] at hm
              refine c_skip ?_
              refine x_then_normal ?_
              refine c_region ?_
              refine t_st rfl (st_move rfl) ?_
              refine t_st rfl (st_field rfl fld97_0) ?_
              refine t_st rfl (st_load 2 rfl one3 rfl rfl) ?_
              obtain ⟨_, h270, hm⟩ := bindS hm
              have h270 := (chk_some h270).2
              refine t_st rfl (st_add rfl rfl h270) ?_
              refine t_st rfl (st_assign rfl) ?_
              refine t_nil ?_
              refine x_block_normal ?_
              refine x_then_normal ?_
              refine c_region ?_
              refine t_st rfl (st_add rfl rfl (by omega)) ?_
              refine t_st rfl (st_move rfl) ?_
              refine t_nil ?_
              refine x_pullb 1 rfl ?_
              refine x_pullb 1 rfl ?_
              exact x_againM (x232 + x237.Length) (Option.some.inj hm).symm (e' := [(3, .int .i64 (x7)), (4, .pointer (some ⟨g154, 0, none⟩)), (6, .pointer (some ⟨g155, 0, none⟩)), (10, .int .i64 (x232 + x237.Length)), (26, .slice A2 (l5).length c3), (27, .int .i64 ((l5.length : Int))), (28, .int .i64 ((k233 : Int) + 1))]) (hp' := (g154, Cl 43 [.string (s1.Name), .int .i64 (s1.Length), .int .i64 (s1.Mass), .int .i64 (s1.Start), .int .i64 (s1.Power), .int .i64 (s1.Roll), .int .i64 (s1.Drag), .int .i64 (s1.Brake), .int .i64 (s1.Top), .int .i64 (s1.Seats)]) :: (g155, Cl 82 [.int .i64 (s6.At), .int .i64 (s6.Speed), .int .i64 (s6.Work)]) :: R) ⟨rfl, rfl, rfl, rfl, rfl, rfl, rfl, trivial⟩ (.cons_cons _ (.cons_cons _ (.cons _ (.refl _)))) ⟨rfl, rfl, ((hle231.trans hle257))⟩
        ·
          rintro x232 b230 _ _ ⟨rfl, rfl, hle231⟩ hq271
          rw [hq271] at hk236
          have hm := elimL hk236
          refine c_seq ?_
          refine c_region ?_
          refine t_st rfl (st_lss_f rfl rfl (by omega)) ?_
          refine t_nil ?_
          refine x_then_normal ?_
          refine c_seq ?_
          refine c_cond_f rfl ?_
          refine c_exit ?_
          refine x_then_exit ?_
          refine x_then_exit ?_
          refine x_block_out ?_
          refine x_then_normal ?_
          refine c_seq ?_
          obtain ⟨x285, hj286, hk286⟩ := bindS hm
          refine c_join (fun b283 e' hp' => [(77, .bool (x285))] = e' ∧ R = hp' ∧ b230.Le b283) ?_ ?_
          ·
            have hm := hj286
            refine c_region ?_
            refine t_st rfl (st_move rfl) ?_
            refine t_st rfl (st_move rfl) ?_
            obtain ⟨x287, hcl288, hm⟩ := bindS hm
            refine t_do rfl (u_callW0 _ call59 rfl (fun w ho => cRunWithin _ [] x7 0 x232 x287 hcl288) (fun _ _ _ h => h.2.symm)) ?_
            rintro _ _ ⟨⟨_, rfl, _⟩, rfl⟩
            rcases Bool.eq_false_or_eq_true x287 with hc289 | hc289
            ·
              rw [if_pos hc289] at hm
              refine t_resp 55 rfl (v' := .bool true) (by rw [hc289] <;> rfl) ?_
              refine t_st rfl (st_not_t rfl) ?_
              refine t_st rfl (st_move rfl) ?_
              refine t_yes 57 rfl rfl rfl ?_
              refine t_st rfl (st_field rfl fld82_0) ?_
              refine t_yes 57 rfl rfl rfl ?_
              refine t_st rfl (st_load 1 rfl one3 rfl rfl) ?_
              refine t_yes 57 rfl rfl rfl ?_
              refine t_st rfl (st_move rfl) ?_
              refine t_yes 57 rfl rfl rfl ?_
              obtain ⟨x290, hcl291, hm⟩ := bindS hm
              refine t_do rfl (u_callW0 _ call59 rfl (fun w ho => cRunWithin _ [] s6.At 0 x7 x290 hcl291) (fun _ _ _ h => h.2.symm)) ?_
              rintro _ _ ⟨⟨_, rfl, _⟩, rfl⟩
              rcases Bool.eq_false_or_eq_true x290 with hc292 | hc292
              ·
                rw [if_pos hc292] at hm
                refine t_resp 61 rfl (v' := .bool true) (by rw [hc292] <;> rfl) ?_
                refine t_yes 57 rfl rfl rfl ?_
                refine t_st rfl (st_not_t rfl) ?_
                refine t_st rfl (st_pick_f rfl rfl) ?_
                refine t_st rfl (st_move rfl) ?_
                refine t_yes 64 rfl rfl rfl ?_
                refine t_st rfl (st_field rfl fld82_1) ?_
                refine t_yes 64 rfl rfl rfl ?_
                refine t_st rfl (st_load 1 rfl one3 rfl rfl) ?_
                refine t_yes 64 rfl rfl rfl ?_
                refine t_st rfl (st_field rfl fld43_8) ?_
                refine t_yes 64 rfl rfl rfl ?_
                refine t_st rfl (st_load 0 rfl one3 rfl rfl) ?_
                refine t_yes 64 rfl rfl rfl ?_
                obtain ⟨x293, hcl294, hm⟩ := bindS hm
                refine t_do rfl (u_callW0 _ call59 rfl (fun w ho => cRunWithin _ [] s6.Speed 0 s1.Top x293 hcl294) (fun _ _ _ h => h.2.symm)) ?_
                rintro _ _ ⟨⟨_, rfl, _⟩, rfl⟩
                rcases Bool.eq_false_or_eq_true x293 with hc295 | hc295
                ·
                  rw [if_pos hc295] at hm
                  refine t_resp 69 rfl (v' := .bool true) (by rw [hc295] <;> rfl) ?_
                  refine t_yes 64 rfl rfl rfl ?_
                  refine t_st rfl (st_not_t rfl) ?_
                  refine t_st rfl (st_pick_f rfl rfl) ?_
                  refine t_st rfl (st_move rfl) ?_
                  refine t_yes 72 rfl rfl rfl ?_
                  refine t_st rfl (st_field rfl fld82_2) ?_
                  refine t_yes 72 rfl rfl rfl ?_
                  refine t_st rfl (st_load 1 rfl one3 rfl rfl) ?_
                  refine t_yes 72 rfl rfl rfl ?_
                  obtain ⟨x296, hcl297, hm⟩ := bindS hm
                  refine t_do rfl (u_callW0 _ call59 rfl (fun w ho => cRunWithin _ [] s6.Work 0 1152921504606846976 x296 hcl297) (fun _ _ _ h => h.2.symm)) ?_
                  rintro _ _ ⟨⟨_, rfl, _⟩, rfl⟩
                  refine t_yes 72 rfl rfl rfl ?_
                  refine t_st rfl (st_not rfl) ?_
                  refine t_st rfl (st_pick_f rfl rfl) ?_
                  refine t_nil ?_
                  obtain rfl := some1 hm
                  exact x_join (e' := [(77, .bool (!x296))]) (hp' := R) ⟨rfl, trivial⟩ (.cons _ (.cons _ (.refl _))) ⟨rfl, rfl, (Base.Le.refl _)⟩
                ·
                  rw [if_neg (fun hh => Bool.noConfusion (hh.symm.trans hc295))] at hm
                  refine t_resp 69 rfl (v' := .bool false) (by rw [hc295] <;> rfl) ?_
                  refine t_yes 64 rfl rfl rfl ?_
                  refine t_st rfl (st_not_f rfl) ?_
                  refine t_st rfl (st_pick_f rfl rfl) ?_
                  refine t_st rfl (st_move rfl) ?_
                  refine t_no 72 rfl rfl rfl rfl rfl ?_
                  refine t_no 72 rfl rfl rfl rfl rfl ?_
                  refine t_no 72 rfl rfl rfl rfl rfl ?_
                  refine t_no 72 rfl rfl rfl rfl rfl ?_
                  refine t_st rfl (st_pick_t rfl rfl) ?_
                  refine t_nil ?_
                  obtain rfl := some1 hm
                  exact x_join (e' := [(77, .bool (true))]) (hp' := R) ⟨rfl, trivial⟩ (.cons _ (.cons _ (.refl _))) ⟨rfl, rfl, (Base.Le.refl _)⟩
              ·
                rw [if_neg (fun hh => Bool.noConfusion (hh.symm.trans hc292))] at hm
                refine t_resp 61 rfl (v' := .bool false) (by rw [hc292] <;> rfl) ?_
                refine t_yes 57 rfl rfl rfl ?_
                refine t_st rfl (st_not_f rfl) ?_
                refine t_st rfl (st_pick_f rfl rfl) ?_
                refine t_st rfl (st_move rfl) ?_
                refine t_no 64 rfl rfl rfl rfl rfl ?_
                refine t_no 64 rfl rfl rfl rfl rfl ?_
                refine t_no 64 rfl rfl rfl rfl rfl ?_
                refine t_no 64 rfl rfl rfl rfl rfl ?_
                refine t_no 64 rfl rfl rfl rfl rfl ?_
                refine t_no 64 rfl rfl rfl rfl rfl ?_
                refine t_st rfl (st_pick_t rfl rfl) ?_
                refine t_st rfl (st_move rfl) ?_
                refine t_no 72 rfl rfl rfl rfl rfl ?_
                refine t_no 72 rfl rfl rfl rfl rfl ?_
                refine t_no 72 rfl rfl rfl rfl rfl ?_
                refine t_no 72 rfl rfl rfl rfl rfl ?_
                refine t_st rfl (st_pick_t rfl rfl) ?_
                refine t_nil ?_
                obtain rfl := some1 hm
                exact x_join (e' := [(77, .bool (true))]) (hp' := R) ⟨rfl, trivial⟩ (.cons _ (.cons _ (.refl _))) ⟨rfl, rfl, (Base.Le.refl _)⟩
            ·
              rw [if_neg (fun hh => Bool.noConfusion (hh.symm.trans hc289))] at hm
              refine t_resp 55 rfl (v' := .bool false) (by rw [hc289] <;> rfl) ?_
              refine t_st rfl (st_not_f rfl) ?_
              refine t_st rfl (st_move rfl) ?_
              refine t_no 57 rfl rfl rfl rfl rfl ?_
              refine t_no 57 rfl rfl rfl rfl rfl ?_
              refine t_no 57 rfl rfl rfl rfl rfl ?_
              refine t_no 57 rfl rfl rfl rfl rfl ?_
              refine t_no 57 rfl rfl rfl rfl rfl ?_
              refine t_st rfl (st_pick_t rfl rfl) ?_
              refine t_st rfl (st_move rfl) ?_
              refine t_no 64 rfl rfl rfl rfl rfl ?_
              refine t_no 64 rfl rfl rfl rfl rfl ?_
              refine t_no 64 rfl rfl rfl rfl rfl ?_
              refine t_no 64 rfl rfl rfl rfl rfl ?_
              refine t_no 64 rfl rfl rfl rfl rfl ?_
              refine t_no 64 rfl rfl rfl rfl rfl ?_
              refine t_st rfl (st_pick_t rfl rfl) ?_
              refine t_st rfl (st_move rfl) ?_
              refine t_no 72 rfl rfl rfl rfl rfl ?_
              refine t_no 72 rfl rfl rfl rfl rfl ?_
              refine t_no 72 rfl rfl rfl rfl rfl ?_
              refine t_no 72 rfl rfl rfl rfl rfl ?_
              refine t_st rfl (st_pick_t rfl rfl) ?_
              refine t_nil ?_
              obtain rfl := some1 hm
              exact x_join (e' := [(77, .bool (true))]) (hp' := R) ⟨rfl, trivial⟩ (.cons _ (.cons _ (.refl _))) ⟨rfl, rfl, (Base.Le.refl _)⟩
          ·
            rintro b283 _ _ ⟨rfl, rfl, hle284⟩
            have hm := hk286
            refine c_cond _ rfl (fun hc298 => ?_) (fun hc298 => ?_)
            ·
              rw [if_pos hc298] at hm
              refine c_seq ?_
              refine c_region ?_
              refine t_st rfl (st_assign rfl) ?_
              refine t_nil ?_
              refine x_then_normal ?_
              refine c_ret ?_
              refine x_then_ret ?_
              obtain rfl := some1 hm
              exact retM (rs := [.tmp 8]) [.int .i64 (2)] (hle231.trans hle284) (by decide) rfl ⟨rfl, trivial⟩ rfl (hp' := R) (.refl _) ⟨rfl, rfl⟩
            ·
              rw [if_neg (fun hh => Bool.noConfusion (hh.symm.trans hc298))] at hm
              refine c_skip ?_
              refine x_then_normal ?_
              refine c_seq ?_
              refine c_region ?_
              refine t_st rfl (st_assign rfl) ?_
              refine t_nil ?_
              refine x_then_normal ?_
              refine c_ret ?_
              obtain rfl := some1 hm
              exact retM (rs := [.tmp 8]) [.int .i64 (0)] (hle231.trans hle284) (by decide) rfl ⟨rfl, trivial⟩ rfl (hp' := R) (.refl _) ⟨rfl, rfl⟩

set_option maxRecDepth 20000 in
theorem cRunNewRunner (b : Base) (R : Hp) (s1 : ApiStock) (l5 : (List ApiPiece)) (x6 : Int) (x7 : Int) (A2 : Option Addr) (c3 : Nat) (h4 : FZ rApiPiece b.w A2 c3 l5) (x216 : ByteArray) (x217 : Int) (x218 : Int) (x219 : Int) (x220 : Int) (x221 : Int) (x222 : Int) (x223 : Int) (x224 : Int) (x225 : Int) (l229 : (List ApiPiece)) (x230 : Int) (x231 : Int) (l232 : (List Int)) (l233 : (List (Int × (List Int)))) (hm : mRunNewRunner s1 l5 x6 x7 = some (x216, x217, x218, x219, x220, x221, x222, x223, x224, x225, l229, x230, x231, l232, l233)) :
    CallsG Tryd.prog 70 [.agg #[.string (s1.Name), .int .i64 (s1.Length), .int .i64 (s1.Mass), .int .i64 (s1.Start), .int .i64 (s1.Power), .int .i64 (s1.Roll), .int .i64 (s1.Drag), .int .i64 (s1.Brake), .int .i64 (s1.Top), .int .i64 (s1.Seats)], .slice A2 (l5).length c3, .int .i64 (x6), .int .i64 (x7)] b (R) (fun v b' hp' => ∃ (g215 : Nat), ∃ (A226 : Option Addr), ∃ (c227 : Nat), ∃ (A208 : Option Addr), ∃ (c209 : Nat), ∃ (hs207 : Hp), ∃ (g213 : Nat), ∃ (hs212 : Hp), .pointer (some ⟨g215, 0, none⟩) = v ∧ (g215, Cl 170 [.string (x216), .int .i64 (x217), .int .i64 (x218), .int .i64 (x219), .int .i64 (x220), .int .i64 (x221), .int .i64 (x222), .int .i64 (x223), .int .i64 (x224), .int .i64 (x225), .slice A226 (l229).length c227, .slice A208 (l232).length c209, .int .i64 (x230), .int .i64 (x231), .map (some g213)]) :: (hs207 ++ (hs212 ++ R)) = hp' ∧ FZ rApiPiece b'.w A226 c227 l229 ∧ OS 3 (OT.fr (RT.int .i64)) b'.w (.slice A208 l232.length c209) l232 hs207 ∧ OM (RT.int .i64) (OT.list 3 (OT.fr (RT.int .i64))) false false b'.w g213 l233 hs212) := by
  refine fn_enterG 48 Tryd.func70 rfl Tryd.ntmps70 rfl ?_
  unfold mRunNewRunner at hm
  refine c_seq ?_
  refine c_region ?_
  refine t_do rfl (u_box _ rfl rfl) ?_
  rintro _ _ ⟨g234, rfl, rfl⟩
  refine t_st rfl (st_assign rfl) ?_
  refine t_nil ?_
  refine x_then_normal ?_
  refine c_seq ?_
  refine c_region ?_
  refine t_st rfl (st_loadD (vs := [_, _, _, _, _, _, _, _, _, _]) 0 10 rfl agg43 rfl rfl rfl) ?_
  refine t_st rfl (st_move rfl) ?_
  refine t_do rfl (u_bslice (el := 3) [(0, .int .i64 (0))] [.int .i64 (0)] rfl (fun _ => by kernel_rfl)) ?_
  rintro _ _ ⟨g235, rfl, rfl⟩
  refine t_st rfl (st_move rfl) ?_
  refine t_st rfl (st_move rfl) ?_
  refine t_do rfl (u_mmap (RT.int .i64) (OT.list 3 (OT.fr (RT.int .i64))) false false [_, _] R rfl) ?_
  rintro _ _ ⟨g236, hs237, rfl, rfl, h238⟩
  refine t_st rfl (st_build (v := .agg #[.string (s1.Name), .int .i64 (s1.Length), .int .i64 (s1.Mass), .int .i64 (s1.Start), .int .i64 (s1.Power), .int .i64 (s1.Roll), .int .i64 (s1.Drag), .int .i64 (s1.Brake), .int .i64 (s1.Top), .int .i64 (s1.Seats), .slice A2 (l5).length c3, .slice (some ⟨g235, 0, none⟩) 1 1, .int .i64 (x6), .int .i64 (x7), .map (some g236)]) [(0, .agg #[.string (s1.Name), .int .i64 (s1.Length), .int .i64 (s1.Mass), .int .i64 (s1.Start), .int .i64 (s1.Power), .int .i64 (s1.Roll), .int .i64 (s1.Drag), .int .i64 (s1.Brake), .int .i64 (s1.Top), .int .i64 (s1.Seats)]), (1, .slice A2 (l5).length c3), (2, .slice (some ⟨g235, 0, none⟩) 1 1), (3, .int .i64 (x6)), (4, .int .i64 (x7)), (5, .map (some g236))] rfl (fun _ => by kernel_rfl)) ?_
  refine t_do rfl (u_box _ rfl rfl) ?_
  rintro _ _ ⟨g239, rfl, rfl⟩
  refine t_st rfl (st_assign rfl) ?_
  refine t_nil ?_
  refine x_then_normal ?_
  refine c_seq ?_
  refine c_seq ?_
  refine c_region ?_
  refine t_st rfl (st_move rfl) ?_
  refine t_st rfl (st_len rfl sl80) ?_
  refine t_st rfl (st_move rfl) ?_
  refine t_nil ?_
  refine x_then_normal ?_
  refine c_block ?_
  have hb241 := (FZ.bd h4)
  refine c_seg 1 [_, _] (hs237 ++ R) rfl rfl ?_
  have h243 : OS 3 (OT.fr (RT.int .i64)) b.w (.slice (some ⟨g235, 0, none⟩) 1 1) [0] [(g235, Cl 3 [.int .i64 (0)])] := OS.lit [[.int .i64 (0)]] rfl ⟨rfl, trivial⟩ rfl (by decide)
  refine c_front2 [_, _] [(g235, Cl 3 [.int .i64 (0)])] hs237 R rfl ?_
  refine c_front2 [_, _] hs237 [(g235, Cl 3 [.int .i64 (0)])] R rfl ?_
  obtain ⟨l371, hl373, hk374⟩ := bindS hm
  refine c_forS (fun k372 => fun l371 => fun b364 e' hp' => ∃ (A368 : Option Addr), ∃ (c369 : Nat), ∃ (hs367 : Hp), [(9, .pointer (some ⟨g239, 0, none⟩)), (20, .slice A2 (l5).length c3), (21, .int .i64 ((l5.length : Int))), (22, .int .i64 ((k372 : Int)))] = e' ∧ (g239, Cl 170 [.string (s1.Name), .int .i64 (s1.Length), .int .i64 (s1.Mass), .int .i64 (s1.Start), .int .i64 (s1.Power), .int .i64 (s1.Roll), .int .i64 (s1.Drag), .int .i64 (s1.Brake), .int .i64 (s1.Top), .int .i64 (s1.Seats), .slice A2 (l5).length c3, .slice A368 (l371).length c369, .int .i64 (x6), .int .i64 (x7), .map (some g236)]) :: (hs367 ++ (hs237 ++ R)) = hp' ∧ b.Le b364 ∧ OS 3 (OT.fr (RT.int .i64)) b364.w (.slice A368 l371.length c369) l371 hs367) hl373 (e' := [(9, .pointer (some ⟨g239, 0, none⟩)), (20, .slice A2 (l5).length c3), (21, .int .i64 ((l5.length : Int))), (22, .int .i64 0)]) (hp' := (g239, Cl 170 [.string (s1.Name), .int .i64 (s1.Length), .int .i64 (s1.Mass), .int .i64 (s1.Start), .int .i64 (s1.Power), .int .i64 (s1.Roll), .int .i64 (s1.Drag), .int .i64 (s1.Brake), .int .i64 (s1.Top), .int .i64 (s1.Seats), .slice A2 (l5).length c3, .slice (some ⟨g235, 0, none⟩) ([0]).length 1, .int .i64 (x6), .int .i64 (x7), .map (some g236)]) :: ([(g235, Cl 3 [.int .i64 (0)])] ++ (hs237 ++ R))) ⟨rfl, rfl, rfl, rfl, trivial⟩ (.cons_cons _ (.cons _ (sub_app [(g235, Cl 3 [.int .i64 (0)])] (sub_app hs237 (.refl _))))) ⟨(some ⟨g235, 0, none⟩), 1, [(g235, Cl 3 [.int .i64 (0)])], rfl, rfl, (Base.Le.refl _), h243⟩ ?_ ?_
  ·
    rintro k372 l371 b364 _ _ oL240 hknL240 ⟨A368, c369, hs367, rfl, rfl, hle365, h370⟩ hstepL240
    unfold mRunNewRunner_L240 at hstepL240
    have hm := hstepL240
    refine c_seq ?_
    refine c_region ?_
    refine t_st rfl (st_lss_t rfl rfl (by omega)) ?_
    refine t_nil ?_
    refine x_then_normal ?_
    refine c_seq ?_
    refine c_cond_t rfl ?_
    refine c_skip ?_
    refine x_then_normal ?_
    refine c_seq ?_
    refine c_block ?_
    refine c_seq ?_
    refine c_region ?_
    refine t_st rfl (st_move rfl) ?_
    obtain ⟨x375, h376, hm⟩ := bindS hm
    obtain ⟨j377, hj378, hx379⟩ := idx_some h376
    obtain ⟨cs380, hr381, hcs382, hA383, hlt384⟩ := FZ.get (sz := 3) rfl (by decide) (h4.le hle365) hx379
    obtain ⟨_, _, rfl, rfl, ⟨_, _, rfl, rfl, rfl⟩⟩ := hr381
    refine t_st rfl (st_index_old j377 rfl rfl hj378 hlt384 hA383 sl80) ?_
    refine t_st rfl (st_loadN_old (vs := [.int .i64 (x375.Length), .int .i64 (x375.Grade), .int .i64 (x375.Speed)]) 3 rfl agg97 hA383 rfl (fun j u hu => hcs382 j u hu)) ?_
    refine t_do rfl (u_alloc [.int .i64 0, .int .i64 0, .int .i64 0] zero97 rfl) ?_
    rintro _ _ ⟨g385, rfl, rfl⟩
    refine t_st rfl (st_assign rfl) ?_
    refine t_do rfl (u_storeN (vs := [_, _, _]) 0 3 rfl rfl rfl siz97 rfl (by intro u hu; simp only [List.mem_cons, List.not_mem_nil, or_false] at hu; rcases hu with rfl | rfl | rfl <;> rfl) rfl (by simp)) ?_
    rintro _ _ rfl
    refine t_nil ?_
    refine x_then_normal ?_
    obtain ⟨x409, h410, hm⟩ := bindS hm
    obtain ⟨_, h425, hm⟩ := bindS hm
    obtain ⟨_, h427, hm⟩ := bindS hm
    refine D_drawS ((g385, Cl 97 [.int .i64 (x375.Length), .int .i64 (x375.Grade), .int .i64 (x375.Speed)]) :: (hs237 ++ R)) mixed ?_
    refine D_st (Base.Le.refl _) 0 rfl (by kernel_rfl) (by kernel_rfl) (by kernel_rfl) rfl (st_move rfl) (.cons_cons _ (.cons _ (sub_skip hs367 (sub_app hs237 (.refl _))))) ?_
    refine D_st (Base.Le.refl _) 1 rfl (by kernel_rfl) (by kernel_rfl) (by kernel_rfl) rfl (st_move rfl) (.cons_cons _ (.cons _ (sub_skip hs367 (sub_app hs237 (.refl _))))) ?_
    refine D_st (Base.Le.refl _) 2 rfl (by kernel_rfl) (by kernel_rfl) (by kernel_rfl) rfl (st_nil rfl) (.cons_cons _ (.cons _ (sub_skip hs367 (sub_app hs237 (.refl _))))) ?_
    refine D_st (Base.Le.refl _) 3 rfl (by kernel_rfl) (by kernel_rfl) (by kernel_rfl) rfl (st_field rfl fld170_2) (.cons_cons _ (.cons _ (sub_skip hs367 (sub_app hs237 (.refl _))))) ?_
    refine D_st (Base.Le.refl _) 5 rfl (by kernel_rfl) (by kernel_rfl) (by kernel_rfl) rfl (st_move rfl) (.cons_cons _ (.cons _ (sub_skip hs367 (sub_app hs237 (.refl _))))) ?_
    refine D_st (Base.Le.refl _) 6 rfl (by kernel_rfl) (by kernel_rfl) (by kernel_rfl) rfl (st_nil rfl) (.cons_cons _ (.cons _ (sub_skip hs367 (sub_app hs237 (.refl _))))) ?_
    refine D_st (Base.Le.refl _) 7 rfl (by kernel_rfl) (by kernel_rfl) (by kernel_rfl) rfl (st_field rfl fld170_2) (.cons_cons _ (.cons _ (sub_skip hs367 (sub_app hs237 (.refl _))))) ?_
    refine D_st (Base.Le.refl _) 9 rfl (by kernel_rfl) (by kernel_rfl) (by kernel_rfl) rfl (st_move rfl) (.cons_cons _ (.cons _ (sub_skip hs367 (sub_app hs237 (.refl _))))) ?_
    refine D_st (Base.Le.refl _) 12 rfl (by kernel_rfl) (by kernel_rfl) (by kernel_rfl) rfl (st_field rfl fld97_0) (.cons_cons _ (.cons _ (sub_skip hs367 (sub_app hs237 (.refl _))))) ?_
    refine D_st (Base.Le.refl _) 13 rfl (by kernel_rfl) (by kernel_rfl) (by kernel_rfl) rfl (st_load 0 rfl one3 rfl rfl) (.cons_cons _ (.cons _ (sub_skip hs367 (sub_app hs237 (.refl _))))) ?_
    refine D_all [4, 8] (by kernel_rfl) rfl ?_
    refine R_do (Base.Le.refl _) rfl rfl (Stable.does (st_load 1 rfl one24 rfl rfl)) ?_ ?_
    ·
      rintro _ _ ⟨rfl, rfl⟩
      refine ⟨.inr (.cons_cons _ (.cons _ (sub_skip hs367 (sub_app hs237 (.refl _))))), ?_⟩
      refine D_all [8] (by kernel_rfl) rfl ?_
      refine R_do (Base.Le.refl _) rfl rfl (Stable.does (st_load 1 rfl one24 rfl rfl)) ?_ ?_
      ·
        rintro _ _ ⟨rfl, rfl⟩
        refine ⟨.inr (.cons_cons _ (.cons _ (sub_skip hs367 (sub_app hs237 (.refl _))))), ?_⟩
        obtain ⟨j411, hj412, hx413⟩ := idx_some h410
        obtain ⟨cs414, hs419, P420, P421, hq422, hr415, hcs416, hA417, hlt418, hb423, hho424⟩ := OS.get (sz := 1) rfl (by decide) h370 hx413
        obtain ⟨rfl, rfl⟩ := hr415
        refine D_st (Base.Le.refl _) 10 rfl (by kernel_rfl) (by kernel_rfl) (by kernel_rfl) rfl (st_index_old j411 rfl rfl hj412 hlt418 hA417 sl24) (.cons_cons _ (.cons _ (sub_skip hs367 (sub_app hs237 (.refl _))))) ?_
        refine D_all [11] (by kernel_rfl) rfl ?_
        refine R_do (Base.Le.refl _) rfl rfl (Stable.does (st_load_rd rfl one3 (fun w ho => hcs416 w _ ho (.cons _ (.cons _ (List.sublist_append_left _ _))) 0 _ rfl))) ?_ ?_
        ·
          rintro _ _ ⟨rfl, rfl⟩
          refine ⟨.inr (.cons_cons _ (.cons _ (sub_skip hs367 (sub_app hs237 (.refl _))))), ?_⟩
          have h425 := (chk_some h425).2
          refine D_st (Base.Le.refl _) 14 rfl (by kernel_rfl) (by kernel_rfl) (by kernel_rfl) rfl (st_add rfl rfl h425) (.cons_cons _ (.cons _ (sub_skip hs367 (sub_app hs237 (.refl _))))) ?_
          refine D_all [15] (by kernel_rfl) rfl ?_
          refine R_do (Base.Le.refl _) rfl rfl (u_bslice (el := 3) [(0, .int .i64 (x409 + x375.Length))] [.int .i64 (x409 + x375.Length)] rfl (fun _ => by kernel_rfl)) ?_ ?_
          ·
            rintro _ _ ⟨g426, rfl, rfl⟩
            refine ⟨.inr (.cons _ (.cons_cons _ (.cons _ (sub_skip hs367 (sub_app hs237 (.refl _)))))), ?_⟩
            have h427 := room_some h427
            refine D_all [16] (by kernel_rfl) rfl ?_
            refine R_do (Base.Le.refl _) rfl rfl (u_appOS (r := (RT.int .i64)) (l := l371) [_, _, _] (hs237 ++ R) [[.int .i64 (x409 + x375.Length)]] [x409 + x375.Length] rfl (by decide) sl24 inf3 rfl rfl rfl rfl h370 rfl (fun w ho => Rd.own (i := 0) ho rfl) ⟨rfl, trivial⟩ h427) ?_ ?_
            ·
              rintro _ _ ⟨hs428, rfl, h429⟩
              obtain ⟨A430, c431, rfl, _⟩ := h429.form
              refine ⟨.inr (.cons _ (.cons_cons _ (.cons _ (sub_skip hs428 (sub_app hs237 (.refl _)))))), ?_⟩
              refine D_st (Base.Le.refl _) 17 rfl (by kernel_rfl) (by kernel_rfl) (by kernel_rfl) rfl (st_nil rfl) (.cons _ (.cons_cons _ (.cons _ (sub_skip hs428 (sub_app hs237 (.refl _)))))) ?_
              refine D_st (Base.Le.refl _) 18 rfl (by kernel_rfl) (by kernel_rfl) (by kernel_rfl) rfl (st_field rfl fld170_2) (.cons _ (.cons_cons _ (.cons _ (sub_skip hs428 (sub_app hs237 (.refl _)))))) ?_
              refine D_all [19] (by kernel_rfl) rfl ?_
              refine R_do (Base.Le.refl _) rfl rfl (u_store 2 rfl rfl siz24 rfl rfl (by simp)) ?_ ?_
              ·
                rintro _ _ rfl
                refine ⟨.inr (.cons _ (.cons_cons _ (.cons _ (sub_skip hs428 (sub_app hs237 (.refl _)))))), ?_⟩
                refine D_done (by kernel_rfl) ?_
                refine x_block_normal ?_
                refine x_then_normal ?_
                refine c_region ?_
                refine t_st rfl (st_add rfl rfl (by omega)) ?_
                refine t_st rfl (st_move rfl) ?_
                refine t_nil ?_
                refine x_pullb 2 rfl ?_
                refine x_front2 [_, _, _] hs428 hs237 R rfl ?_
                refine x_front2 [_, _, _] hs237 hs428 R rfl ?_
                obtain rfl := some1 hm
                exact x_againS (e' := [(9, .pointer (some ⟨g239, 0, none⟩)), (20, .slice A2 (l5).length c3), (21, .int .i64 ((l5.length : Int))), (22, .int .i64 ((k372 : Int) + 1))]) (hp' := (g239, Cl 170 [.string (s1.Name), .int .i64 (s1.Length), .int .i64 (s1.Mass), .int .i64 (s1.Start), .int .i64 (s1.Power), .int .i64 (s1.Roll), .int .i64 (s1.Drag), .int .i64 (s1.Brake), .int .i64 (s1.Top), .int .i64 (s1.Seats), .slice A2 (l5).length c3, .slice A430 (l371 ++ [x409 + x375.Length]).length c431, .int .i64 (x6), .int .i64 (x7), .map (some g236)]) :: (hs428 ++ (hs237 ++ R))) ⟨rfl, rfl, rfl, rfl, trivial⟩ (.cons_cons _ (.cons _ (.cons _ (sub_app hs428 (sub_app hs237 (.refl _)))))) ⟨A430, c431, hs428, rfl, rfl, (hle365), h429⟩
              exact R_nil
            exact R_nil
          exact R_nil
        exact R_nil
      exact R_nil
    refine R_do (Base.Le.refl _) rfl rfl (Stable.does (st_load 1 rfl one24 rfl rfl)) ?_ ?_
    ·
      rintro _ _ ⟨rfl, rfl⟩
      refine ⟨.inr (.cons_cons _ (.cons _ (sub_skip hs367 (sub_app hs237 (.refl _))))), ?_⟩
      obtain ⟨j411, hj412, hx413⟩ := idx_some h410
      obtain ⟨cs414, hs419, P420, P421, hq422, hr415, hcs416, hA417, hlt418, hb423, hho424⟩ := OS.get (sz := 1) rfl (by decide) h370 hx413
      obtain ⟨rfl, rfl⟩ := hr415
      refine D_st (Base.Le.refl _) 10 rfl (by kernel_rfl) (by kernel_rfl) (by kernel_rfl) rfl (st_index_old j411 rfl rfl hj412 hlt418 hA417 sl24) (.cons_cons _ (.cons _ (sub_skip hs367 (sub_app hs237 (.refl _))))) ?_
      refine D_all [4, 11] (by kernel_rfl) rfl ?_
      refine R_do (Base.Le.refl _) rfl rfl (Stable.does (st_load 1 rfl one24 rfl rfl)) ?_ ?_
      ·
        rintro _ _ ⟨rfl, rfl⟩
        refine ⟨.inr (.cons_cons _ (.cons _ (sub_skip hs367 (sub_app hs237 (.refl _))))), ?_⟩
        refine D_all [11] (by kernel_rfl) rfl ?_
        refine R_do (Base.Le.refl _) rfl rfl (Stable.does (st_load_rd rfl one3 (fun w ho => hcs416 w _ ho (.cons _ (.cons _ (List.sublist_append_left _ _))) 0 _ rfl))) ?_ ?_
        ·
          rintro _ _ ⟨rfl, rfl⟩
          refine ⟨.inr (.cons_cons _ (.cons _ (sub_skip hs367 (sub_app hs237 (.refl _))))), ?_⟩
          have h425 := (chk_some h425).2
          refine D_st (Base.Le.refl _) 14 rfl (by kernel_rfl) (by kernel_rfl) (by kernel_rfl) rfl (st_add rfl rfl h425) (.cons_cons _ (.cons _ (sub_skip hs367 (sub_app hs237 (.refl _))))) ?_
          refine D_all [15] (by kernel_rfl) rfl ?_
          refine R_do (Base.Le.refl _) rfl rfl (u_bslice (el := 3) [(0, .int .i64 (x409 + x375.Length))] [.int .i64 (x409 + x375.Length)] rfl (fun _ => by kernel_rfl)) ?_ ?_
          ·
            rintro _ _ ⟨g426, rfl, rfl⟩
            refine ⟨.inr (.cons _ (.cons_cons _ (.cons _ (sub_skip hs367 (sub_app hs237 (.refl _)))))), ?_⟩
            have h427 := room_some h427
            refine D_all [16] (by kernel_rfl) rfl ?_
            refine R_do (Base.Le.refl _) rfl rfl (u_appOS (r := (RT.int .i64)) (l := l371) [_, _, _] (hs237 ++ R) [[.int .i64 (x409 + x375.Length)]] [x409 + x375.Length] rfl (by decide) sl24 inf3 rfl rfl rfl rfl h370 rfl (fun w ho => Rd.own (i := 0) ho rfl) ⟨rfl, trivial⟩ h427) ?_ ?_
            ·
              rintro _ _ ⟨hs428, rfl, h429⟩
              obtain ⟨A430, c431, rfl, _⟩ := h429.form
              refine ⟨.inr (.cons _ (.cons_cons _ (.cons _ (sub_skip hs428 (sub_app hs237 (.refl _)))))), ?_⟩
              refine D_st (Base.Le.refl _) 17 rfl (by kernel_rfl) (by kernel_rfl) (by kernel_rfl) rfl (st_nil rfl) (.cons _ (.cons_cons _ (.cons _ (sub_skip hs428 (sub_app hs237 (.refl _)))))) ?_
              refine D_st (Base.Le.refl _) 18 rfl (by kernel_rfl) (by kernel_rfl) (by kernel_rfl) rfl (st_field rfl fld170_2) (.cons _ (.cons_cons _ (.cons _ (sub_skip hs428 (sub_app hs237 (.refl _)))))) ?_
              refine D_all [19] (by kernel_rfl) rfl ?_
              refine R_do (Base.Le.refl _) rfl rfl (u_store 2 rfl rfl siz24 rfl rfl (by simp)) ?_ ?_
              ·
                rintro _ _ rfl
                refine ⟨.inr (.cons _ (.cons_cons _ (.cons _ (sub_skip hs428 (sub_app hs237 (.refl _)))))), ?_⟩
                refine D_done (by kernel_rfl) ?_
                refine x_block_normal ?_
                refine x_then_normal ?_
                refine c_region ?_
                refine t_st rfl (st_add rfl rfl (by omega)) ?_
                refine t_st rfl (st_move rfl) ?_
                refine t_nil ?_
                refine x_pullb 2 rfl ?_
                refine x_front2 [_, _, _] hs428 hs237 R rfl ?_
                refine x_front2 [_, _, _] hs237 hs428 R rfl ?_
                obtain rfl := some1 hm
                exact x_againS (e' := [(9, .pointer (some ⟨g239, 0, none⟩)), (20, .slice A2 (l5).length c3), (21, .int .i64 ((l5.length : Int))), (22, .int .i64 ((k372 : Int) + 1))]) (hp' := (g239, Cl 170 [.string (s1.Name), .int .i64 (s1.Length), .int .i64 (s1.Mass), .int .i64 (s1.Start), .int .i64 (s1.Power), .int .i64 (s1.Roll), .int .i64 (s1.Drag), .int .i64 (s1.Brake), .int .i64 (s1.Top), .int .i64 (s1.Seats), .slice A2 (l5).length c3, .slice A430 (l371 ++ [x409 + x375.Length]).length c431, .int .i64 (x6), .int .i64 (x7), .map (some g236)]) :: (hs428 ++ (hs237 ++ R))) ⟨rfl, rfl, rfl, rfl, trivial⟩ (.cons_cons _ (.cons _ (.cons _ (sub_app hs428 (sub_app hs237 (.refl _)))))) ⟨A430, c431, hs428, rfl, rfl, (hle365), h429⟩
              exact R_nil
            exact R_nil
          exact R_nil
        exact R_nil
      refine R_do (Base.Le.refl _) rfl rfl (Stable.does (st_load_rd rfl one3 (fun w ho => hcs416 w _ ho (.cons _ (.cons _ (List.sublist_append_left _ _))) 0 _ rfl))) ?_ ?_
      ·
        rintro _ _ ⟨rfl, rfl⟩
        refine ⟨.inr (.cons_cons _ (.cons _ (sub_skip hs367 (sub_app hs237 (.refl _))))), ?_⟩
        have h425 := (chk_some h425).2
        refine D_st (Base.Le.refl _) 14 rfl (by kernel_rfl) (by kernel_rfl) (by kernel_rfl) rfl (st_add rfl rfl h425) (.cons_cons _ (.cons _ (sub_skip hs367 (sub_app hs237 (.refl _))))) ?_
        refine D_all [4, 15] (by kernel_rfl) rfl ?_
        refine R_do (Base.Le.refl _) rfl rfl (Stable.does (st_load 1 rfl one24 rfl rfl)) ?_ ?_
        ·
          rintro _ _ ⟨rfl, rfl⟩
          refine ⟨.inr (.cons_cons _ (.cons _ (sub_skip hs367 (sub_app hs237 (.refl _))))), ?_⟩
          refine D_all [15] (by kernel_rfl) rfl ?_
          refine R_do (Base.Le.refl _) rfl rfl (u_bslice (el := 3) [(0, .int .i64 (x409 + x375.Length))] [.int .i64 (x409 + x375.Length)] rfl (fun _ => by kernel_rfl)) ?_ ?_
          ·
            rintro _ _ ⟨g426, rfl, rfl⟩
            refine ⟨.inr (.cons _ (.cons_cons _ (.cons _ (sub_skip hs367 (sub_app hs237 (.refl _)))))), ?_⟩
            have h427 := room_some h427
            refine D_all [16] (by kernel_rfl) rfl ?_
            refine R_do (Base.Le.refl _) rfl rfl (u_appOS (r := (RT.int .i64)) (l := l371) [_, _, _] (hs237 ++ R) [[.int .i64 (x409 + x375.Length)]] [x409 + x375.Length] rfl (by decide) sl24 inf3 rfl rfl rfl rfl h370 rfl (fun w ho => Rd.own (i := 0) ho rfl) ⟨rfl, trivial⟩ h427) ?_ ?_
            ·
              rintro _ _ ⟨hs428, rfl, h429⟩
              obtain ⟨A430, c431, rfl, _⟩ := h429.form
              refine ⟨.inr (.cons _ (.cons_cons _ (.cons _ (sub_skip hs428 (sub_app hs237 (.refl _)))))), ?_⟩
              refine D_st (Base.Le.refl _) 17 rfl (by kernel_rfl) (by kernel_rfl) (by kernel_rfl) rfl (st_nil rfl) (.cons _ (.cons_cons _ (.cons _ (sub_skip hs428 (sub_app hs237 (.refl _)))))) ?_
              refine D_st (Base.Le.refl _) 18 rfl (by kernel_rfl) (by kernel_rfl) (by kernel_rfl) rfl (st_field rfl fld170_2) (.cons _ (.cons_cons _ (.cons _ (sub_skip hs428 (sub_app hs237 (.refl _)))))) ?_
              refine D_all [19] (by kernel_rfl) rfl ?_
              refine R_do (Base.Le.refl _) rfl rfl (u_store 2 rfl rfl siz24 rfl rfl (by simp)) ?_ ?_
              ·
                rintro _ _ rfl
                refine ⟨.inr (.cons _ (.cons_cons _ (.cons _ (sub_skip hs428 (sub_app hs237 (.refl _)))))), ?_⟩
                refine D_done (by kernel_rfl) ?_
                refine x_block_normal ?_
                refine x_then_normal ?_
                refine c_region ?_
                refine t_st rfl (st_add rfl rfl (by omega)) ?_
                refine t_st rfl (st_move rfl) ?_
                refine t_nil ?_
                refine x_pullb 2 rfl ?_
                refine x_front2 [_, _, _] hs428 hs237 R rfl ?_
                refine x_front2 [_, _, _] hs237 hs428 R rfl ?_
                obtain rfl := some1 hm
                exact x_againS (e' := [(9, .pointer (some ⟨g239, 0, none⟩)), (20, .slice A2 (l5).length c3), (21, .int .i64 ((l5.length : Int))), (22, .int .i64 ((k372 : Int) + 1))]) (hp' := (g239, Cl 170 [.string (s1.Name), .int .i64 (s1.Length), .int .i64 (s1.Mass), .int .i64 (s1.Start), .int .i64 (s1.Power), .int .i64 (s1.Roll), .int .i64 (s1.Drag), .int .i64 (s1.Brake), .int .i64 (s1.Top), .int .i64 (s1.Seats), .slice A2 (l5).length c3, .slice A430 (l371 ++ [x409 + x375.Length]).length c431, .int .i64 (x6), .int .i64 (x7), .map (some g236)]) :: (hs428 ++ (hs237 ++ R))) ⟨rfl, rfl, rfl, rfl, trivial⟩ (.cons_cons _ (.cons _ (.cons _ (sub_app hs428 (sub_app hs237 (.refl _)))))) ⟨A430, c431, hs428, rfl, rfl, (hle365), h429⟩
              exact R_nil
            exact R_nil
          exact R_nil
        refine R_do (Base.Le.refl _) rfl rfl (u_bslice (el := 3) [(0, .int .i64 (x409 + x375.Length))] [.int .i64 (x409 + x375.Length)] rfl (fun _ => by kernel_rfl)) ?_ ?_
        ·
          rintro _ _ ⟨g426, rfl, rfl⟩
          refine ⟨.inr (.cons _ (.cons_cons _ (.cons _ (sub_skip hs367 (sub_app hs237 (.refl _)))))), ?_⟩
          refine D_all [4] (by kernel_rfl) rfl ?_
          refine R_do (Base.Le.refl _) rfl rfl (Stable.does (st_load 2 rfl one24 rfl rfl)) ?_ ?_
          ·
            rintro _ _ ⟨rfl, rfl⟩
            refine ⟨.inr (.cons _ (.cons_cons _ (.cons _ (sub_skip hs367 (sub_app hs237 (.refl _)))))), ?_⟩
            have h427 := room_some h427
            refine D_all [16] (by kernel_rfl) rfl ?_
            refine R_do (Base.Le.refl _) rfl rfl (u_appOS (r := (RT.int .i64)) (l := l371) [_, _, _] (hs237 ++ R) [[.int .i64 (x409 + x375.Length)]] [x409 + x375.Length] rfl (by decide) sl24 inf3 rfl rfl rfl rfl h370 rfl (fun w ho => Rd.own (i := 0) ho rfl) ⟨rfl, trivial⟩ h427) ?_ ?_
            ·
              rintro _ _ ⟨hs428, rfl, h429⟩
              obtain ⟨A430, c431, rfl, _⟩ := h429.form
              refine ⟨.inr (.cons _ (.cons_cons _ (.cons _ (sub_skip hs428 (sub_app hs237 (.refl _)))))), ?_⟩
              refine D_st (Base.Le.refl _) 17 rfl (by kernel_rfl) (by kernel_rfl) (by kernel_rfl) rfl (st_nil rfl) (.cons _ (.cons_cons _ (.cons _ (sub_skip hs428 (sub_app hs237 (.refl _)))))) ?_
              refine D_st (Base.Le.refl _) 18 rfl (by kernel_rfl) (by kernel_rfl) (by kernel_rfl) rfl (st_field rfl fld170_2) (.cons _ (.cons_cons _ (.cons _ (sub_skip hs428 (sub_app hs237 (.refl _)))))) ?_
              refine D_all [19] (by kernel_rfl) rfl ?_
              refine R_do (Base.Le.refl _) rfl rfl (u_store 2 rfl rfl siz24 rfl rfl (by simp)) ?_ ?_
              ·
                rintro _ _ rfl
                refine ⟨.inr (.cons _ (.cons_cons _ (.cons _ (sub_skip hs428 (sub_app hs237 (.refl _)))))), ?_⟩
                refine D_done (by kernel_rfl) ?_
                refine x_block_normal ?_
                refine x_then_normal ?_
                refine c_region ?_
                refine t_st rfl (st_add rfl rfl (by omega)) ?_
                refine t_st rfl (st_move rfl) ?_
                refine t_nil ?_
                refine x_pullb 2 rfl ?_
                refine x_front2 [_, _, _] hs428 hs237 R rfl ?_
                refine x_front2 [_, _, _] hs237 hs428 R rfl ?_
                obtain rfl := some1 hm
                exact x_againS (e' := [(9, .pointer (some ⟨g239, 0, none⟩)), (20, .slice A2 (l5).length c3), (21, .int .i64 ((l5.length : Int))), (22, .int .i64 ((k372 : Int) + 1))]) (hp' := (g239, Cl 170 [.string (s1.Name), .int .i64 (s1.Length), .int .i64 (s1.Mass), .int .i64 (s1.Start), .int .i64 (s1.Power), .int .i64 (s1.Roll), .int .i64 (s1.Drag), .int .i64 (s1.Brake), .int .i64 (s1.Top), .int .i64 (s1.Seats), .slice A2 (l5).length c3, .slice A430 (l371 ++ [x409 + x375.Length]).length c431, .int .i64 (x6), .int .i64 (x7), .map (some g236)]) :: (hs428 ++ (hs237 ++ R))) ⟨rfl, rfl, rfl, rfl, trivial⟩ (.cons_cons _ (.cons _ (.cons _ (sub_app hs428 (sub_app hs237 (.refl _)))))) ⟨A430, c431, hs428, rfl, rfl, (hle365), h429⟩
              exact R_nil
            exact R_nil
          exact R_nil
        exact R_nil
      exact R_nil
    exact R_nil
  ·
    rintro b364 _ _ ⟨A368, c369, hs367, rfl, rfl, hle365, h370⟩
    have hm := hk374
    refine c_seq ?_
    refine c_region ?_
    refine t_st rfl (st_lss_f rfl rfl (by omega)) ?_
    refine t_nil ?_
    refine x_then_normal ?_
    refine c_seq ?_
    refine c_cond_f rfl ?_
    refine c_exit ?_
    refine x_then_exit ?_
    refine x_then_exit ?_
    refine x_block_out ?_
    refine x_then_normal ?_
    refine c_seq ?_
    refine c_region ?_
    refine t_st rfl (st_move rfl) ?_
    refine t_st rfl (st_assign rfl) ?_
    refine t_nil ?_
    refine x_then_normal ?_
    refine c_ret ?_
    obtain ⟨rfl, rfl, rfl, rfl, rfl, rfl, rfl, rfl, rfl, rfl, rfl, rfl, rfl, rfl, rfl⟩ := some15 hm
    refine x_front2 [_] hs367 hs237 R rfl ?_
    refine x_front2 [_] hs237 hs367 R rfl ?_
    exact retM (rs := [.tmp 8]) [.pointer (some ⟨g239, 0, none⟩)] hle365 (by decide) rfl ⟨rfl, trivial⟩ rfl (hp' := (g239, Cl 170 [.string (s1.Name), .int .i64 (s1.Length), .int .i64 (s1.Mass), .int .i64 (s1.Start), .int .i64 (s1.Power), .int .i64 (s1.Roll), .int .i64 (s1.Drag), .int .i64 (s1.Brake), .int .i64 (s1.Top), .int .i64 (s1.Seats), .slice A2 (l5).length c3, .slice A368 (l371).length c369, .int .i64 (x6), .int .i64 (x7), .map (some g236)]) :: (hs367 ++ (hs237 ++ R))) (.cons_cons _ (sub_app hs367 (sub_app hs237 (.refl _)))) ⟨g239, A2, c3, A368, c369, hs367, g236, hs237, rfl, rfl, (h4.le hle365), h370, (h238.le hle365)⟩

set_option maxRecDepth 20000 in
theorem cRunRunnerGrade (b : Base) (R : Hp) (x11 : Int) (x12 : ByteArray) (x13 : Int) (x14 : Int) (x15 : Int) (x16 : Int) (x17 : Int) (x18 : Int) (x19 : Int) (x20 : Int) (x21 : Int) (l25 : (List ApiPiece)) (x26 : Int) (x27 : Int) (l28 : (List Int)) (l29 : (List (Int × (List Int)))) (g10 : Nat) (A22 : Option Addr) (c23 : Nat) (A3 : Option Addr) (c4 : Nat) (hs2 : Hp) (g8 : Nat) (hs7 : Hp) (h24 : FZ rApiPiece b.w A22 c23 l25) (h5 : OS 3 (OT.fr (RT.int .i64)) b.w (.slice A3 l28.length c4) l28 hs2) (h9 : OM (RT.int .i64) (OT.list 3 (OT.fr (RT.int .i64))) false false b.w g8 l29 hs7) (x318 : Int) (hm : mRunRunnerGrade x11 x12 x13 x14 x15 x16 x17 x18 x19 x20 x21 l25 x26 x27 l28 l29 = some x318) :
    CallsG Tryd.prog 95 [.pointer (some ⟨g10, 0, none⟩), .int .i64 (x11)] b ((g10, Cl 170 [.string (x12), .int .i64 (x13), .int .i64 (x14), .int .i64 (x15), .int .i64 (x16), .int .i64 (x17), .int .i64 (x18), .int .i64 (x19), .int .i64 (x20), .int .i64 (x21), .slice A22 (l25).length c23, .slice A3 (l28).length c4, .int .i64 (x26), .int .i64 (x27), .map (some g8)]) :: (hs2 ++ (hs7 ++ R))) (fun v b' hp' => .int .i64 (x318) = v ∧ (g10, Cl 170 [.string (x12), .int .i64 (x13), .int .i64 (x14), .int .i64 (x15), .int .i64 (x16), .int .i64 (x17), .int .i64 (x18), .int .i64 (x19), .int .i64 (x20), .int .i64 (x21), .slice A22 (l25).length c23, .slice A3 (l28).length c4, .int .i64 (x26), .int .i64 (x27), .map (some g8)]) :: (hs2 ++ (hs7 ++ R)) = hp') := by
  refine fn_enterG 36 Tryd.func95 rfl Tryd.ntmps95 rfl ?_
  unfold mRunRunnerGrade at hm
  refine c_seq ?_
  refine c_region ?_
  refine t_st rfl (st_assign rfl) ?_
  refine t_nil ?_
  refine x_then_normal ?_
  refine c_seq ?_
  refine c_region ?_
  refine t_st rfl (st_assign rfl) ?_
  refine t_nil ?_
  refine x_then_normal ?_
  obtain ⟨x458, hj459, hk459⟩ := bindS hm
  refine c_join (fun b456 e' hp' => [(0, .pointer (some ⟨g10, 0, none⟩)), (5, .int .i64 (x458))] = e' ∧ (g10, Cl 170 [.string (x12), .int .i64 (x13), .int .i64 (x14), .int .i64 (x15), .int .i64 (x16), .int .i64 (x17), .int .i64 (x18), .int .i64 (x19), .int .i64 (x20), .int .i64 (x21), .slice A22 (l25).length c23, .slice A3 (l28).length c4, .int .i64 (x26), .int .i64 (x27), .map (some g8)]) :: (hs2 ++ (hs7 ++ R)) = hp' ∧ b.Le b456) ?_ ?_
  ·
    have hm := hj459
    refine c_block ?_
    refine c_front2 [_] hs2 hs7 R rfl ?_
    refine c_front2 [_] hs7 hs2 R rfl ?_
    refine c_loopM (fun x552 => fun b550 e' hp' => [(0, .pointer (some ⟨g10, 0, none⟩)), (1, .int .i64 (x11)), (5, .int .i64 (x552))] = e' ∧ (g10, Cl 170 [.string (x12), .int .i64 (x13), .int .i64 (x14), .int .i64 (x15), .int .i64 (x16), .int .i64 (x17), .int .i64 (x18), .int .i64 (x19), .int .i64 (x20), .int .i64 (x21), .slice A22 (l25).length c23, .slice A3 (l28).length c4, .int .i64 (x26), .int .i64 (x27), .map (some g8)]) :: (hs2 ++ (hs7 ++ R)) = hp' ∧ b.Le b550) hm (e' := [(0, .pointer (some ⟨g10, 0, none⟩)), (1, .int .i64 (x11)), (5, .int .i64 (0))]) (hp' := (g10, Cl 170 [.string (x12), .int .i64 (x13), .int .i64 (x14), .int .i64 (x15), .int .i64 (x16), .int .i64 (x17), .int .i64 (x18), .int .i64 (x19), .int .i64 (x20), .int .i64 (x21), .slice A22 (l25).length c23, .slice A3 (l28).length c4, .int .i64 (x26), .int .i64 (x27), .map (some g8)]) :: (hs2 ++ (hs7 ++ R))) ⟨rfl, rfl, rfl, trivial⟩ (.cons_cons _ (sub_app hs2 (sub_app hs7 (.refl _)))) ⟨rfl, rfl, (Base.Le.refl _)⟩ ?_
    rintro x552 b550 _ _ oL460 ⟨rfl, rfl, hle551⟩ hstepL460 houtL460
    unfold mRunRunnerGrade_L460 at hstepL460
    have hm := hstepL460
    refine c_seq ?_
    obtain ⟨x574, hj575, hk575⟩ := bindS hm
    refine c_join (fun b572 e' hp' => [(0, .pointer (some ⟨g10, 0, none⟩)), (1, .int .i64 (x11)), (5, .int .i64 (x552)), (25, .bool (x574))] = e' ∧ (g10, Cl 170 [.string (x12), .int .i64 (x13), .int .i64 (x14), .int .i64 (x15), .int .i64 (x16), .int .i64 (x17), .int .i64 (x18), .int .i64 (x19), .int .i64 (x20), .int .i64 (x21), .slice A22 (l25).length c23, .slice A3 (l28).length c4, .int .i64 (x26), .int .i64 (x27), .map (some g8)]) :: (hs2 ++ (hs7 ++ R)) = hp' ∧ b550.Le b572) ?_ ?_
    ·
      have hm := hj575
      refine c_region ?_
      refine t_st rfl (st_move rfl) ?_
      obtain ⟨_, h576, hm⟩ := bindS hm
      have h576 := (chk_some h576).2
      refine t_st rfl (st_add rfl rfl h576) ?_
      refine t_st rfl (st_move rfl) ?_
      refine t_st rfl (st_nil rfl) ?_
      refine t_st rfl (st_field rfl fld170_1) ?_
      refine t_st rfl (st_load 0 rfl one80 rfl rfl) ?_
      refine t_st rfl (st_len rfl sl80) ?_
      refine t_bool rfl (st_lss rfl rfl) (fun hc577 => ?_) (fun hc577 => ?_)
      ·
        rw [if_pos hc577] at hm
        refine t_st rfl (st_move rfl) ?_
        refine t_yes 14 rfl rfl rfl ?_
        refine t_st rfl (st_move rfl) ?_
        refine t_yes 14 rfl rfl rfl ?_
        refine t_st rfl (st_nil rfl) ?_
        refine t_yes 14 rfl rfl rfl ?_
        refine t_st rfl (st_field rfl fld170_2) ?_
        refine t_yes 14 rfl rfl rfl ?_
        refine t_st rfl (st_load 0 rfl one24 rfl rfl) ?_
        refine t_yes 14 rfl rfl rfl ?_
        refine t_st rfl (st_move rfl) ?_
        refine t_yes 14 rfl rfl rfl ?_
        obtain ⟨_, h578, hm⟩ := bindS hm
        have h578 := (chk_some h578).2
        refine t_st rfl (st_add rfl rfl h578) ?_
        refine t_yes 14 rfl rfl rfl ?_
        obtain ⟨x579, h580, hm⟩ := bindS hm
        obtain ⟨j581, hj582, hx583⟩ := idx_some h580
        obtain ⟨cs584, hs589, P590, P591, hq592, hr585, hcs586, hA587, hlt588, hb593, hho594⟩ := OS.get (sz := 1) rfl (by decide) (h5.le hle551) hx583
        obtain ⟨rfl, rfl⟩ := hr585
        refine t_st rfl (st_index_old j581 rfl rfl hj582 hlt588 hA587 sl24) ?_
        refine t_yes 14 rfl rfl rfl ?_
        refine t_st rfl (st_load_rd rfl one3 (fun w ho => hcs586 w _ ho (.cons _ (List.sublist_append_left _ _)) 0 _ rfl)) ?_
        refine t_yes 14 rfl rfl rfl ?_
        refine t_st rfl (st_move rfl) ?_
        refine t_yes 14 rfl rfl rfl ?_
        refine t_st rfl (st_leq rfl rfl) ?_
        refine t_st rfl (st_pick_t rfl rfl) ?_
        refine t_nil ?_
        obtain rfl := some1 hm
        refine x_front2 [_] hs2 hs7 R rfl ?_
        refine x_front2 [_] hs7 hs2 R rfl ?_
        exact x_join (e' := [(0, .pointer (some ⟨g10, 0, none⟩)), (1, .int .i64 (x11)), (5, .int .i64 (x552)), (25, .bool (decide (x579 ≤ x11)))]) (hp' := (g10, Cl 170 [.string (x12), .int .i64 (x13), .int .i64 (x14), .int .i64 (x15), .int .i64 (x16), .int .i64 (x17), .int .i64 (x18), .int .i64 (x19), .int .i64 (x20), .int .i64 (x21), .slice A22 (l25).length c23, .slice A3 (l28).length c4, .int .i64 (x26), .int .i64 (x27), .map (some g8)]) :: (hs2 ++ (hs7 ++ R))) ⟨rfl, rfl, rfl, rfl, trivial⟩ (.cons_cons _ (sub_app hs2 (sub_app hs7 (.refl _)))) ⟨rfl, rfl, (Base.Le.refl _)⟩
      ·
        rw [if_neg hc577] at hm
        refine t_st rfl (st_move rfl) ?_
        refine t_no 14 rfl rfl rfl rfl rfl ?_
        refine t_no 14 rfl rfl rfl rfl rfl ?_
        refine t_no 14 rfl rfl rfl rfl rfl ?_
        refine t_no 14 rfl rfl rfl rfl rfl ?_
        refine t_no 14 rfl rfl rfl rfl rfl ?_
        refine t_no 14 rfl rfl rfl rfl rfl ?_
        refine t_no 14 rfl rfl rfl rfl rfl ?_
        refine t_no 14 rfl rfl rfl rfl rfl ?_
        refine t_no 14 rfl rfl rfl rfl rfl ?_
        refine t_no 14 rfl rfl rfl rfl rfl ?_
        refine t_st rfl (st_pick_f rfl rfl) ?_
        refine t_nil ?_
        obtain rfl := some1 hm
        refine x_front2 [_] hs2 hs7 R rfl ?_
        refine x_front2 [_] hs7 hs2 R rfl ?_
        exact x_join (e' := [(0, .pointer (some ⟨g10, 0, none⟩)), (1, .int .i64 (x11)), (5, .int .i64 (x552)), (25, .bool (false))]) (hp' := (g10, Cl 170 [.string (x12), .int .i64 (x13), .int .i64 (x14), .int .i64 (x15), .int .i64 (x16), .int .i64 (x17), .int .i64 (x18), .int .i64 (x19), .int .i64 (x20), .int .i64 (x21), .slice A22 (l25).length c23, .slice A3 (l28).length c4, .int .i64 (x26), .int .i64 (x27), .map (some g8)]) :: (hs2 ++ (hs7 ++ R))) ⟨rfl, rfl, rfl, rfl, trivial⟩ (.cons_cons _ (sub_app hs2 (sub_app hs7 (.refl _)))) ⟨rfl, rfl, (Base.Le.refl _)⟩
    ·
      rintro b572 _ _ ⟨rfl, rfl, hle573⟩
      have hm := hk575
      refine c_cond _ rfl (fun hc595 => ?_) (fun hc595 => ?_)
      ·
        rw [if_pos hc595] at hm
        refine c_skip ?_
        refine x_then_normal ?_
        refine c_block ?_
        refine c_region ?_
        refine t_st rfl (st_move rfl) ?_
        obtain ⟨_, h596, hm⟩ := bindS hm
        have h596 := (chk_some h596).2
        refine t_st rfl (st_add rfl rfl h596) ?_
        refine t_st rfl (st_assign rfl) ?_
        refine t_nil ?_
        refine x_block_normal ?_
        refine x_front2 [_] hs2 hs7 R rfl ?_
        refine x_front2 [_] hs7 hs2 R rfl ?_
        exact x_againM (x552 + 1) (Option.some.inj hm).symm (e' := [(0, .pointer (some ⟨g10, 0, none⟩)), (1, .int .i64 (x11)), (5, .int .i64 (x552 + 1))]) (hp' := (g10, Cl 170 [.string (x12), .int .i64 (x13), .int .i64 (x14), .int .i64 (x15), .int .i64 (x16), .int .i64 (x17), .int .i64 (x18), .int .i64 (x19), .int .i64 (x20), .int .i64 (x21), .slice A22 (l25).length c23, .slice A3 (l28).length c4, .int .i64 (x26), .int .i64 (x27), .map (some g8)]) :: (hs2 ++ (hs7 ++ R))) ⟨rfl, rfl, rfl, trivial⟩ (.cons_cons _ (sub_app hs2 (sub_app hs7 (.refl _)))) ⟨rfl, rfl, ((hle551.trans hle573))⟩
      ·
        rw [if_neg (fun hh => Bool.noConfusion (hh.symm.trans hc595))] at hm
        refine c_exit ?_
        refine x_then_exit ?_
        refine x_then_exit ?_
        refine x_block_out ?_
        have hm := congrArg some (houtL460 _ (Option.some.inj hm).symm)
        obtain rfl := some1 hm
        refine x_front2 [_] hs2 hs7 R rfl ?_
        refine x_front2 [_] hs7 hs2 R rfl ?_
        exact x_join (e' := [(0, .pointer (some ⟨g10, 0, none⟩)), (5, .int .i64 (x552))]) (hp' := (g10, Cl 170 [.string (x12), .int .i64 (x13), .int .i64 (x14), .int .i64 (x15), .int .i64 (x16), .int .i64 (x17), .int .i64 (x18), .int .i64 (x19), .int .i64 (x20), .int .i64 (x21), .slice A22 (l25).length c23, .slice A3 (l28).length c4, .int .i64 (x26), .int .i64 (x27), .map (some g8)]) :: (hs2 ++ (hs7 ++ R))) ⟨rfl, rfl, trivial⟩ (.cons_cons _ (sub_app hs2 (sub_app hs7 (.refl _)))) ⟨rfl, rfl, (hle551.trans hle573)⟩
  ·
    rintro b456 _ _ ⟨rfl, rfl, hle457⟩
    have hm := hk459
    refine c_seq ?_
    refine c_region ?_
    refine t_st rfl (st_move rfl) ?_
    refine t_st rfl (st_nil rfl) ?_
    refine t_st rfl (st_field rfl fld170_1) ?_
    refine t_st rfl (st_load 0 rfl one80 rfl rfl) ?_
    refine t_st rfl (st_move rfl) ?_
    obtain ⟨x597, h598, hm⟩ := bindS hm
    obtain ⟨j599, hj600, hx601⟩ := idx_some h598
    obtain ⟨cs602, hr603, hcs604, hA605, hlt606⟩ := FZ.get (sz := 3) rfl (by decide) (h24.le hle457) hx601
    obtain ⟨_, _, rfl, rfl, ⟨_, _, rfl, rfl, rfl⟩⟩ := hr603
    refine t_st rfl (st_index_old j599 rfl rfl hj600 hlt606 hA605 sl80) ?_
    refine t_st rfl (st_field_old rfl hA605 fld97_1) ?_
    refine t_st rfl (st_load_old rfl one3 (hcs604 1 _ rfl)) ?_
    refine t_st rfl (st_assign rfl) ?_
    refine t_nil ?_
    refine x_then_normal ?_
    refine c_ret ?_
    obtain rfl := some1 hm
    refine x_front2 [_] hs2 hs7 R rfl ?_
    refine x_front2 [_] hs7 hs2 R rfl ?_
    exact retM (rs := [.tmp 4]) [.int .i64 (x597.Grade)] hle457 (by decide) rfl ⟨rfl, trivial⟩ rfl (hp' := (g10, Cl 170 [.string (x12), .int .i64 (x13), .int .i64 (x14), .int .i64 (x15), .int .i64 (x16), .int .i64 (x17), .int .i64 (x18), .int .i64 (x19), .int .i64 (x20), .int .i64 (x21), .slice A22 (l25).length c23, .slice A3 (l28).length c4, .int .i64 (x26), .int .i64 (x27), .map (some g8)]) :: (hs2 ++ (hs7 ++ R))) (.cons_cons _ (sub_app hs2 (sub_app hs7 (.refl _)))) ⟨rfl, rfl⟩

end Go.Proofs.YtljcafilceachaaDoor
