/- Contracts: the code computes its model (part 1). -/
import Derived.Test.YtljcafilceachaaDoorFT
import Derived.Test.YtljcafilceachaaDoorSh
set_option linter.unusedVariables false
set_option linter.unusedSimpArgs false
namespace Go.Proofs.YtljcafilceachaaDoor
open Go.RowKit Go.Fp

set_option maxRecDepth 20000 in
theorem cStringsliteIndexByte (b : Base) (R : Hp) (x1 : ByteArray) (x2 : Int) (x3 : Int) (hm : mStringsliteIndexByte x1 x2 = some x3) :
    CallsG Tryd.prog 141 [.string (x1), .int .u8 (x2)] b (R) (fun v b' hp' => .int .i64 (x3) = v ∧ R = hp') := by
  refine fn_enterG 8 Tryd.func141 rfl Tryd.ntmps141 rfl ?_
  unfold mStringsliteIndexByte at hm
  refine c_seq ?_
  refine c_region ?_
  refine t_st rfl (st_assign rfl) ?_
  refine t_nil ?_
  refine x_then_normal ?_
  refine c_seq ?_
  refine c_region ?_
  refine t_st rfl (st_move rfl) ?_
  refine t_st rfl (st_move rfl) ?_
  refine t_st rfl (st_extern ext151_1 ext151_2 ext151_3 ext151_4 ext151_5 rfl (run_sFirst _ _)) ?_
  refine t_st rfl (st_assign rfl) ?_
  refine t_nil ?_
  refine x_then_normal ?_
  refine c_ret ?_
  obtain rfl := some1 hm
  exact retM (rs := [.tmp 4]) [.int .i64 ((sFirst x1 x2))] (Base.Le.refl _) (by decide) rfl ⟨rfl, trivial⟩ rfl (hp' := R) (.refl _) ⟨rfl, rfl⟩

set_option maxRecDepth 20000 in
theorem cStringsliteIndex (b : Base) (R : Hp) (x1 : ByteArray) (x2 : ByteArray) (x16 : Int) (hm : mStringsliteIndex x1 x2 = some x16) :
    CallsG Tryd.prog 126 [.string (x1), .string (x2)] b (R) (fun v b' hp' => .int .i64 (x16) = v ∧ R = hp') := by
  refine fn_enterG 143 Tryd.func126 rfl Tryd.ntmps126 rfl ?_
  unfold mStringsliteIndex at hm
  refine c_seq ?_
  refine c_region ?_
  refine t_st rfl (st_assign rfl) ?_
  refine t_nil ?_
  refine x_then_normal ?_
  refine c_seq ?_
  refine c_region ?_
  refine t_st rfl (st_move rfl) ?_
  refine t_st rfl (st_slen rfl str9) ?_
  refine t_st rfl (st_assign rfl) ?_
  refine t_nil ?_
  refine x_then_normal ?_
  refine c_seq ?_
  refine c_block ?_
  obtain ⟨x20, hj21, hk21⟩ := bindS hm
  refine c_join (fun b18 e' hp' => [(0, .string (x1)), (1, .string (x2)), (5, .int .i64 ((x2.size : Int))), (16, .bool (x20))] = e' ∧ R = hp' ∧ b.Le b18) ?_ ?_
  ·
    have hm := hj21
    refine c_region ?_
    refine t_st rfl (st_move rfl) ?_
    refine t_bool rfl (st_eql rfl rfl) (fun hc22 => ?_) (fun hc22 => ?_)
    ·
      rw [if_pos hc22] at hm
      refine t_st rfl (st_move rfl) ?_
      refine t_no 19 rfl rfl rfl rfl rfl ?_
      refine t_no 19 rfl rfl rfl rfl rfl ?_
      refine t_no 19 rfl rfl rfl rfl rfl ?_
      refine t_st rfl (st_pick_t rfl rfl) ?_
      refine t_st rfl (st_assign rfl) ?_
      refine t_nil ?_
      obtain rfl := some1 hm
      exact x_join (e' := [(0, .string (x1)), (1, .string (x2)), (5, .int .i64 ((x2.size : Int))), (16, .bool (true))]) (hp' := R) ⟨rfl, rfl, rfl, rfl, trivial⟩ (.refl _) ⟨rfl, rfl, (Base.Le.refl _)⟩
    ·
      rw [if_neg hc22] at hm
      refine t_st rfl (st_move rfl) ?_
      refine t_yes 19 rfl rfl rfl ?_
      refine t_st rfl (st_move rfl) ?_
      refine t_yes 19 rfl rfl rfl ?_
      refine t_st rfl (st_move rfl) ?_
      refine t_yes 19 rfl rfl rfl ?_
      refine t_st rfl (st_seql rfl rfl) ?_
      refine t_st rfl (st_pick_f rfl rfl) ?_
      refine t_st rfl (st_assign rfl) ?_
      refine t_nil ?_
      obtain rfl := some1 hm
      exact x_join (e' := [(0, .string (x1)), (1, .string (x2)), (5, .int .i64 ((x2.size : Int))), (16, .bool (sEq x2 x1))]) (hp' := R) ⟨rfl, rfl, rfl, rfl, trivial⟩ (.refl _) ⟨rfl, rfl, (Base.Le.refl _)⟩
  ·
    rintro b18 _ _ ⟨rfl, rfl, hle19⟩
    have hm := hk21
    refine c_cond _ rfl (fun hc23 => ?_) (fun hc23 => ?_)
    ·
      rw [if_pos hc23] at hm
      refine c_seq ?_
      refine c_region ?_
      refine t_st rfl (st_assign rfl) ?_
      refine t_nil ?_
      refine x_then_normal ?_
      refine c_ret ?_
      refine x_block_ret ?_
      refine x_then_ret ?_
      obtain rfl := some1 hm
      exact retM (rs := [.tmp 4]) [.int .i64 (0)] hle19 (by decide) rfl ⟨rfl, trivial⟩ rfl (hp' := R) (.refl _) ⟨rfl, rfl⟩
    ·
      rw [if_neg (fun hh => Bool.noConfusion (hh.symm.trans hc23))] at hm
      refine c_seq ?_
      refine c_region ?_
      refine t_st rfl (st_move rfl) ?_
      refine t_st rfl (st_eql rfl rfl) ?_
      refine t_st rfl (st_assign rfl) ?_
      refine t_nil ?_
      refine x_then_normal ?_
      refine c_cond _ rfl (fun hc24 => ?_) (fun hc24 => ?_)
      ·
        rw [if_pos (of_decide_eq_true hc24)] at hm
        refine c_seq ?_
        refine c_region ?_
        refine t_st rfl (st_move rfl) ?_
        refine t_st rfl (st_move rfl) ?_
        obtain ⟨x25, h26, hm⟩ := bindS hm
        refine t_st rfl (st_sidx rfl rfl h26 str9) ?_
        obtain ⟨x27, hcl28, hm⟩ := bindS hm
        refine t_do rfl (u_callW0 _ call141 rfl (fun w ho => cStringsliteIndexByte _ [] x1 x25 x27 hcl28) (fun _ _ _ h => h.2.symm)) ?_
        rintro _ _ ⟨⟨_, rfl, _⟩, rfl⟩
        refine t_st rfl (st_assign rfl) ?_
        refine t_nil ?_
        refine x_then_normal ?_
        refine c_ret ?_
        refine x_block_ret ?_
        refine x_then_ret ?_
        obtain rfl := some1 hm
        exact retM (rs := [.tmp 4]) [.int .i64 (x27)] hle19 (by decide) rfl ⟨rfl, trivial⟩ rfl (hp' := R) (.refl _) ⟨rfl, rfl⟩
      ·
        rw [if_neg (of_decide_eq_false hc24)] at hm
        refine c_seq ?_
        refine c_region ?_
        refine t_st rfl (st_move rfl) ?_
        refine t_st rfl (st_move rfl) ?_
        refine t_st rfl (st_slen rfl str9) ?_
        refine t_st rfl (st_geq rfl rfl) ?_
        refine t_st rfl (st_assign rfl) ?_
        refine t_nil ?_
        refine x_then_normal ?_
        refine c_cond _ rfl (fun hc29 => ?_) (fun hc29 => ?_)
        ·
          rw [if_pos (of_decide_eq_true hc29)] at hm
          refine c_seq ?_
          refine c_region ?_
          refine t_st rfl (st_assign rfl) ?_
          refine t_nil ?_
          refine x_then_normal ?_
          refine c_ret ?_
          refine x_block_ret ?_
          refine x_then_ret ?_
          obtain rfl := some1 hm
          exact retM (rs := [.tmp 4]) [.int .i64 ((-1))] hle19 (by decide) rfl ⟨rfl, trivial⟩ rfl (hp' := R) (.refl _) ⟨rfl, rfl⟩
        ·
          rw [if_neg (of_decide_eq_false hc29)] at hm
          refine c_seq ?_
          refine c_region ?_
          refine t_st rfl (st_move rfl) ?_
          cases hm

set_option maxRecDepth 20000 in
theorem cStringsIndex (b : Base) (R : Hp) (x1 : ByteArray) (x2 : ByteArray) (x5 : Int) (hm : mStringsIndex x1 x2 = some x5) :
    CallsG Tryd.prog 107 [.string (x1), .string (x2)] b (R) (fun v b' hp' => .int .i64 (x5) = v ∧ R = hp') := by
  refine fn_enterG 8 Tryd.func107 rfl Tryd.ntmps107 rfl ?_
  unfold mStringsIndex at hm
  refine c_seq ?_
  refine c_region ?_
  refine t_st rfl (st_assign rfl) ?_
  refine t_nil ?_
  refine x_then_normal ?_
  refine c_seq ?_
  refine c_region ?_
  refine t_st rfl (st_move rfl) ?_
  refine t_st rfl (st_move rfl) ?_
  obtain ⟨x6, hcl7, hm⟩ := bindS hm
  refine t_do rfl (u_callW0 _ call126 rfl (fun w ho => cStringsliteIndex _ [] x1 x2 x6 hcl7) (fun _ _ _ h => h.2.symm)) ?_
  rintro _ _ ⟨⟨_, rfl, _⟩, rfl⟩
  refine t_st rfl (st_assign rfl) ?_
  refine t_nil ?_
  refine x_then_normal ?_
  refine c_ret ?_
  obtain rfl := some1 hm
  exact retM (rs := [.tmp 4]) [.int .i64 (x6)] (Base.Le.refl _) (by decide) rfl ⟨rfl, trivial⟩ rfl (hp' := R) (.refl _) ⟨rfl, rfl⟩

set_option maxRecDepth 20000 in
theorem cStringsCount (b : Base) (R : Hp) (x1 : ByteArray) (x2 : ByteArray) (x35 : Int) (hm : mStringsCount x1 x2 = some x35) :
    CallsG Tryd.prog 106 [.string (x1), .string (x2)] b (R) (fun v b' hp' => .int .i64 (x35) = v ∧ R = hp') := by
  refine fn_enterG 34 Tryd.func106 rfl Tryd.ntmps106 rfl ?_
  unfold mStringsCount at hm
  refine c_seq ?_
  refine c_region ?_
  refine t_st rfl (st_assign rfl) ?_
  refine t_nil ?_
  refine x_then_normal ?_
  refine c_seq ?_
  refine c_seq ?_
  refine c_region ?_
  refine t_st rfl (st_move rfl) ?_
  refine t_st rfl (st_slen rfl str9) ?_
  refine t_st rfl (st_eql rfl rfl) ?_
  refine t_nil ?_
  refine x_then_normal ?_
  refine c_cond _ rfl (fun hc36 => ?_) (fun hc36 => ?_)
  ·
    rw [if_pos (of_decide_eq_true hc36)] at hm
    refine c_seq ?_
    refine c_region ?_
    refine t_st rfl (st_move rfl) ?_
    cases hm
  ·
    rw [if_neg (of_decide_eq_false hc36)] at hm
    refine c_skip ?_
    refine x_then_normal ?_
    refine c_seq ?_
    refine c_seq ?_
    refine c_region ?_
    refine t_st rfl (st_move rfl) ?_
    refine t_st rfl (st_slen rfl str9) ?_
    refine t_st rfl (st_eql rfl rfl) ?_
    refine t_nil ?_
    refine x_then_normal ?_
    refine c_cond _ rfl (fun hc37 => ?_) (fun hc37 => ?_)
    ·
      rw [if_pos (of_decide_eq_true hc37)] at hm
      refine c_seq ?_
      refine c_region ?_
      refine t_st rfl (st_move rfl) ?_
      refine t_st rfl (st_move rfl) ?_
      obtain ⟨x38, h39, hm⟩ := bindS hm
      refine t_st rfl (st_sidx rfl rfl h39 str9) ?_
      refine t_st rfl (st_extern ext125_1 ext125_2 ext125_3 ext125_4 ext125_5 rfl (run_sCount _ _)) ?_
      refine t_st rfl (st_assign rfl) ?_
      refine t_nil ?_
      refine x_then_normal ?_
      refine c_ret ?_
      refine x_then_ret ?_
      obtain rfl := some1 hm
      exact retM (rs := [.tmp 4]) [.int .i64 ((sCount x1 x38))] (Base.Le.refl _) (by decide) rfl ⟨rfl, trivial⟩ rfl (hp' := R) (.refl _) ⟨rfl, rfl⟩
    ·
      rw [if_neg (of_decide_eq_false hc37)] at hm
      refine c_skip ?_
      refine x_then_normal ?_
      refine c_seq ?_
      refine c_region ?_
      refine t_st rfl (st_assign rfl) ?_
      refine t_nil ?_
      refine x_then_normal ?_
      refine c_block ?_
      refine c_loopM (unc2 fun x59 x60 => fun b57 e' hp' => [(0, .string (x59)), (1, .string (x2)), (5, .int .i64 (x60))] = e' ∧ R = hp' ∧ b.Le b57) hm (e' := [(0, .string (x1)), (1, .string (x2)), (5, .int .i64 (0))]) (hp' := R) ⟨rfl, rfl, rfl, trivial⟩ (.refl _) ⟨rfl, rfl, (Base.Le.refl _)⟩ ?_
      rintro ⟨x59, x60⟩ b57 _ _ oL40 ⟨rfl, rfl, hle58⟩ hstepL40 houtL40
      unfold mStringsCount_L40 at hstepL40
      have hm := (unc2E hstepL40)
      refine c_block ?_
      refine c_seq ?_
      refine c_region ?_
      refine t_st rfl (st_move rfl) ?_
      refine t_st rfl (st_move rfl) ?_
      obtain ⟨x61, hcl62, hm⟩ := bindS hm
      refine t_do rfl (u_callW0 _ call107 rfl (fun w ho => cStringsIndex _ [] x59 x2 x61 hcl62) (fun _ _ _ h => h.2.symm)) ?_
      rintro _ _ ⟨⟨_, rfl, _⟩, rfl⟩
      refine t_st rfl (st_assign rfl) ?_
      refine t_nil ?_
      refine x_then_normal ?_
      refine c_seq ?_
      refine c_seq ?_
      refine c_region ?_
      refine t_st rfl (st_move rfl) ?_
      refine t_st rfl (st_eql rfl rfl) ?_
      refine t_nil ?_
      refine x_then_normal ?_
      refine c_cond _ rfl (fun hc63 => ?_) (fun hc63 => ?_)
      ·
        rw [if_pos (of_decide_eq_true hc63)] at hm
        refine c_seq ?_
        refine c_region ?_
        refine t_st rfl (st_move rfl) ?_
        refine t_st rfl (st_assign rfl) ?_
        refine t_nil ?_
        refine x_then_normal ?_
        refine c_ret ?_
        refine x_then_ret ?_
        refine x_block_ret ?_
        refine x_then_ret ?_
        refine x_block_ret ?_
        have hm := congrArg some (houtL40 _ (Option.some.inj hm).symm)
        obtain rfl := some1 hm
        exact retM (rs := [.tmp 4]) [.int .i64 (x60)] hle58 (by decide) rfl ⟨rfl, trivial⟩ rfl (hp' := R) (.refl _) ⟨rfl, rfl⟩
      ·
        rw [if_neg (of_decide_eq_false hc63)] at hm
        refine c_skip ?_
        refine x_then_normal ?_
        refine c_seq ?_
        refine c_region ?_
        refine t_st rfl (st_move rfl) ?_
        obtain ⟨_, h64, hm⟩ := bindS hm
        have h64 := (chk_some h64).2
        refine t_st rfl (st_add rfl rfl h64) ?_
        refine t_st rfl (st_assign rfl) ?_
        refine t_nil ?_
        refine x_then_normal ?_
        refine c_region ?_
        refine t_st rfl (st_move rfl) ?_
        refine t_st rfl (st_move rfl) ?_
        refine t_st rfl (st_move rfl) ?_
        refine t_st rfl (st_slen rfl str9) ?_
        obtain ⟨_, h65, hm⟩ := bindS hm
        have h65 := (chk_some h65).2
        refine t_st rfl (st_add rfl rfl h65) ?_
        obtain ⟨q66, h67, hm⟩ := bindS hm
        refine t_st rfl (st_scut rfl (.inr ⟨_, _, rfl, rfl⟩) (.inl ⟨rfl, rfl⟩) h67 str9) ?_
        refine t_st rfl (st_assign rfl) ?_
        refine t_nil ?_
        refine x_block_normal ?_
        exact x_againM (q66, x60 + 1) (Option.some.inj hm).symm (e' := [(0, .string (q66)), (1, .string (x2)), (5, .int .i64 (x60 + 1))]) (hp' := R) ⟨rfl, rfl, rfl, trivial⟩ (.refl _) ⟨rfl, rfl, (hle58)⟩

set_option maxRecDepth 20000 in
theorem cStringsGenSplit (b : Base) (R : Hp) (x1 : ByteArray) (x2 : ByteArray) (x3 : Int) (x4 : Int) (l282 : (List ByteArray)) (hm : mStringsGenSplit x1 x2 x3 x4 = some l282) :
    CallsG Tryd.prog 81 [.string (x1), .string (x2), .int .i64 (x3), .int .i64 (x4)] b (R) (fun v b' hp' => ∃ (A279 : Option Addr), ∃ (c280 : Nat), ∃ (hs278 : Hp), .slice A279 (l282).length c280 = v ∧ (hs278 ++ R) = hp' ∧ OS 9 (OT.fr RT.str) b'.w (.slice A279 l282.length c280) l282 hs278) := by
  refine fn_enterG 66 Tryd.func81 rfl Tryd.ntmps81 rfl ?_
  unfold mStringsGenSplit at hm
  refine c_seq ?_
  refine c_region ?_
  refine t_st rfl (st_assign rfl) ?_
  refine t_nil ?_
  refine x_then_normal ?_
  refine c_seq ?_
  refine c_seq ?_
  refine c_region ?_
  refine t_st rfl (st_move rfl) ?_
  refine t_st rfl (st_eql rfl rfl) ?_
  refine t_nil ?_
  refine x_then_normal ?_
  refine c_cond _ rfl (fun hc283 => ?_) (fun hc283 => ?_)
  ·
    rw [if_pos (of_decide_eq_true hc283)] at hm
    refine c_seq ?_
    refine c_region ?_
    refine t_st rfl (st_assign rfl) ?_
    refine t_nil ?_
    refine x_then_normal ?_
    refine c_ret ?_
    refine x_then_ret ?_
    obtain rfl := some1 hm
    exact retM (rs := [.tmp 8]) [.slice none 0 0] (Base.Le.refl _) (by decide) rfl ⟨rfl, trivial⟩ rfl (hp' := ([] ++ R)) (.refl _) ⟨none, 0, [], rfl, rfl, OS.nil⟩
  ·
    rw [if_neg (of_decide_eq_false hc283)] at hm
    refine c_skip ?_
    refine x_then_normal ?_
    refine c_seq ?_
    refine c_seq ?_
    refine c_region ?_
    refine t_st rfl (st_move rfl) ?_
    refine t_st rfl (st_seql rfl rfl) ?_
    refine t_nil ?_
    refine x_then_normal ?_
    refine c_cond _ rfl (fun hc284 => ?_) (fun hc284 => ?_)
    ·
      rw [if_pos hc284] at hm
      refine c_seq ?_
      refine c_region ?_
      refine t_st rfl (st_move rfl) ?_
      refine t_st rfl (st_move rfl) ?_
      cases hm
    ·
      rw [if_neg (fun hh => Bool.noConfusion (hh.symm.trans hc284))] at hm
      refine c_skip ?_
      refine x_then_normal ?_
      obtain ⟨x291, hj292, hk292⟩ := bindS hm
      refine c_join (fun b289 e' hp' => [(0, .string (x1)), (1, .string (x2)), (2, .int .i64 (x3)), (3, .int .i64 (x291))] = e' ∧ R = hp' ∧ b.Le b289) ?_ ?_
      ·
        have hm := hj292
        refine c_seq ?_
        refine c_region ?_
        refine t_st rfl (st_move rfl) ?_
        refine t_st rfl (st_lss rfl rfl) ?_
        refine t_nil ?_
        refine x_then_normal ?_
        refine c_cond _ rfl (fun hc293 => ?_) (fun hc293 => ?_)
        ·
          rw [if_pos (of_decide_eq_true hc293)] at hm
          refine c_region ?_
          refine t_st rfl (st_move rfl) ?_
          refine t_st rfl (st_move rfl) ?_
          obtain ⟨x294, hcl295, hm⟩ := bindS hm
          refine t_do rfl (u_callW0 _ call106 rfl (fun w ho => cStringsCount _ [] x1 x2 x294 hcl295) (fun _ _ _ h => h.2.symm)) ?_
          rintro _ _ ⟨⟨_, rfl, _⟩, rfl⟩
          obtain ⟨_, h296, hm⟩ := bindS hm
          have h296 := (chk_some h296).2
          refine t_st rfl (st_add rfl rfl h296) ?_
          refine t_st rfl (st_assign rfl) ?_
          refine t_nil ?_
          obtain rfl := some1 hm
          exact x_join (e' := [(0, .string (x1)), (1, .string (x2)), (2, .int .i64 (x3)), (3, .int .i64 (x294 + 1))]) (hp' := R) ⟨rfl, rfl, rfl, rfl, trivial⟩ (.refl _) ⟨rfl, rfl, (Base.Le.refl _)⟩
        ·
          rw [if_neg (of_decide_eq_false hc293)] at hm
          refine c_skip ?_
          obtain rfl := some1 hm
          exact x_join (e' := [(0, .string (x1)), (1, .string (x2)), (2, .int .i64 (x3)), (3, .int .i64 (x4))]) (hp' := R) ⟨rfl, rfl, rfl, rfl, trivial⟩ (.refl _) ⟨rfl, rfl, (Base.Le.refl _)⟩
      ·
        rintro b289 _ _ ⟨rfl, rfl, hle290⟩
        have hm := hk292
        refine c_seq ?_
        refine c_region ?_
        refine t_st rfl (st_move rfl) ?_
        refine t_st rfl (st_move rfl) ?_
        refine t_st rfl (st_slen rfl str9) ?_
        obtain ⟨_, h297, hm⟩ := bindS hm
        have h297 := (chk_some h297).2
        refine t_st rfl (st_add rfl rfl h297) ?_
        refine t_st rfl (st_min rfl rfl) ?_
        refine t_st rfl (st_assign rfl) ?_
        refine t_nil ?_
        refine x_then_normal ?_
        refine c_seq ?_
        refine c_region ?_
        refine t_st rfl (st_move rfl) ?_
        obtain ⟨m298, h299, hm⟩ := bindS hm
        have h299 := mkLen_some h299
        refine t_do rfl (u_mkOS (r := RT.str) [] R [.string (ByteArray.empty)] ByteArray.empty m298 rfl h299.1 rfl rfl sl109 inf9 rfl rfl rfl (by decide) rfl h299.2.1 h299.2.2) ?_
        rintro _ _ ⟨hs300, rfl, h301⟩
        obtain ⟨A302, c303, rfl, _⟩ := h301.form
        refine t_st rfl (st_assign rfl) ?_
        refine t_nil ?_
        refine x_then_normal ?_
        refine c_seq ?_
        refine c_region ?_
        refine t_st rfl (st_move rfl) ?_
        obtain ⟨_, h304, hm⟩ := bindS hm
        have h304 := (chk_some h304).2
        refine t_st rfl (st_sub rfl rfl h304) ?_
        refine t_st rfl (st_assign rfl) ?_
        refine t_nil ?_
        refine x_then_normal ?_
        refine c_seq ?_
        refine c_region ?_
        refine t_st rfl (st_assign rfl) ?_
        refine t_nil ?_
        refine x_then_normal ?_
        obtain ⟨⟨x414, x415, l416⟩, hj418, hk418⟩ := bindS hm
        refine c_join (fun b409 e' hp' => ∃ (hs412 : Hp), [(0, .string (x414)), (9, .slice A302 (l416).length c303), (10, .int .i64 (x415))] = e' ∧ (hs412 ++ R) = hp' ∧ b289.Le b409 ∧ OS 9 (OT.fr RT.str) b409.w (.slice A302 l416.length c303) l416 hs412 ∧ l416.length = m298) ?_ ?_
        ·
          have hm := hj418
          refine c_block ?_
          refine c_loopM (unc3 fun x490 x491 l492 => fun b485 e' hp' => ∃ (hs488 : Hp), [(0, .string (x490)), (1, .string (x2)), (2, .int .i64 (x3)), (3, .int .i64 ((min x291 ((x1.size : Int) + 1)) - 1)), (9, .slice A302 (l492).length c303), (10, .int .i64 (x491))] = e' ∧ (hs488 ++ R) = hp' ∧ b289.Le b485 ∧ OS 9 (OT.fr RT.str) b485.w (.slice A302 l492.length c303) l492 hs488 ∧ l492.length = m298) hm (e' := [(0, .string (x1)), (1, .string (x2)), (2, .int .i64 (x3)), (3, .int .i64 ((min x291 ((x1.size : Int) + 1)) - 1)), (9, .slice A302 (List.replicate m298 (ByteArray.empty : ByteArray)).length c303), (10, .int .i64 (0))]) (hp' := (hs300 ++ R)) ⟨rfl, rfl, rfl, rfl, rfl, rfl, trivial⟩ (sub_app hs300 (.refl _)) ⟨hs300, rfl, rfl, (Base.Le.refl _), h301, List.length_replicate⟩ ?_
          rintro ⟨x490, x491, l492⟩ b485 _ _ oL419 ⟨hs488, rfl, rfl, hle486, h489, hln493⟩ hstepL419 houtL419
          unfold mStringsGenSplit_L419 at hstepL419
          have hm := (unc3E hstepL419)
          refine c_seq ?_
          refine c_seq ?_
          refine c_region ?_
          refine t_st rfl (st_move rfl) ?_
          refine t_st rfl (st_move rfl) ?_
          refine t_st rfl (st_lss rfl rfl) ?_
          refine t_nil ?_
          refine x_then_normal ?_
          refine c_cond _ rfl (fun hc494 => ?_) (fun hc494 => ?_)
          ·
            rw [if_pos (of_decide_eq_true hc494)] at hm
            refine c_skip ?_
            refine x_then_normal ?_
            refine c_block ?_
            refine c_seq ?_
            refine c_region ?_
            refine t_st rfl (st_move rfl) ?_
            refine t_st rfl (st_move rfl) ?_
            obtain ⟨x495, hcl496, hm⟩ := bindS hm
            refine t_do rfl (u_callW0 _ call107 rfl (fun w ho => cStringsIndex _ [] x490 x2 x495 hcl496) (fun _ _ _ h => h.2.symm)) ?_
            rintro _ _ ⟨⟨_, rfl, _⟩, rfl⟩
            refine t_st rfl (st_assign rfl) ?_
            refine t_nil ?_
            refine x_then_normal ?_
            refine c_seq ?_
            refine c_seq ?_
            refine c_region ?_
            refine t_st rfl (st_move rfl) ?_
            refine t_st rfl (st_lss rfl rfl) ?_
            refine t_nil ?_
            refine x_then_normal ?_
            refine c_cond _ rfl (fun hc497 => ?_) (fun hc497 => ?_)
            ·
              rw [if_pos (of_decide_eq_true hc497)] at hm
              refine c_exit ?_
              refine x_then_exit ?_
              refine x_block_on rfl ?_
              refine x_then_exit ?_
              refine x_block_out ?_
              have hm := congrArg some (houtL419 _ (Option.some.inj hm).symm)
              obtain ⟨rfl, rfl, rfl⟩ := some3 hm
              exact x_join (e' := [(0, .string (x490)), (9, .slice A302 (l492).length c303), (10, .int .i64 (x491))]) (hp' := (hs488 ++ R)) ⟨rfl, rfl, rfl, trivial⟩ (sub_app hs488 (.refl _)) ⟨hs488, rfl, rfl, hle486, h489, hln493⟩
            ·
              rw [if_neg (of_decide_eq_false hc497)] at hm
              refine c_skip ?_
              refine x_then_normal ?_
              refine c_seq ?_
              refine c_region ?_
              refine t_st rfl (st_move rfl) ?_
              refine t_st rfl (st_move rfl) ?_
              refine t_st rfl (st_move rfl) ?_
              refine t_st rfl (st_move rfl) ?_
              refine t_st rfl (st_move rfl) ?_
              obtain ⟨_, h498, hm⟩ := bindS hm
              have h498 := (chk_some h498).2
              refine t_st rfl (st_add rfl rfl h498) ?_
              obtain ⟨q499, h500, hm⟩ := bindS hm
              refine t_st rfl (st_scut rfl (.inl ⟨rfl, rfl⟩) (.inr ⟨_, _, rfl, rfl⟩) h500 str9) ?_
              obtain ⟨x501, h502, hm⟩ := bindS hm
              obtain ⟨j503, hj504, hx505⟩ := idx_some h502
              obtain ⟨cs506, hs511, P512, P513, hq514, hr507, hcs508, hA509, hlt510, hb515, hho516⟩ := OS.get (sz := 1) rfl (by decide) h489 hx505
              obtain ⟨rfl, rfl⟩ := hr507
              refine t_st rfl (st_index_old j503 rfl rfl hj504 hlt510 hA509 sl109) ?_
              refine t_do rfl (u_putOS hj504 (sz := 1) (a' := q499) rfl [] R 0 1 [.string (q499)] rfl h489 hx505 rfl rfl rfl siz9 rfl (by intro u hu; simp only [List.mem_cons, List.not_mem_nil, or_false] at hu; subst hu; rfl) (fun cs hsj hh => by obtain ⟨rfl, rfl⟩ := hh; exact ⟨by decide, rfl, rfl⟩)) ?_
              rintro _ _ ⟨hs517, rfl, h518⟩
              refine t_resp 9 rfl (v' := .slice A302 (put l492 x491 q499).length c303) (by simp only [put_length]) ?_
              refine t_nil ?_
              refine x_then_normal ?_
              refine c_seq ?_
              refine c_region ?_
              refine t_st rfl (st_move rfl) ?_
              refine t_st rfl (st_move rfl) ?_
              refine t_st rfl (st_move rfl) ?_
              refine t_st rfl (st_slen rfl str9) ?_
              obtain ⟨_, h519, hm⟩ := bindS hm
              have h519 := (chk_some h519).2
              refine t_st rfl (st_add rfl rfl h519) ?_
              obtain ⟨q520, h521, hm⟩ := bindS hm
              refine t_st rfl (st_scut rfl (.inr ⟨_, _, rfl, rfl⟩) (.inl ⟨rfl, rfl⟩) h521 str9) ?_
              refine t_st rfl (st_assign rfl) ?_
              refine t_nil ?_
              refine x_then_normal ?_
              refine c_region ?_
              refine t_st rfl (st_move rfl) ?_
              obtain ⟨_, h522, hm⟩ := bindS hm
              have h522 := (chk_some h522).2
              refine t_st rfl (st_add rfl rfl h522) ?_
              refine t_st rfl (st_assign rfl) ?_
              refine t_nil ?_
              refine x_block_normal ?_
              exact x_againM (q520, x491 + 1, put l492 x491 q499) (Option.some.inj hm).symm (e' := [(0, .string (q520)), (1, .string (x2)), (2, .int .i64 (x3)), (3, .int .i64 ((min x291 ((x1.size : Int) + 1)) - 1)), (9, .slice A302 (put l492 x491 q499).length c303), (10, .int .i64 (x491 + 1))]) (hp' := (hs517 ++ R)) ⟨rfl, rfl, rfl, rfl, rfl, rfl, trivial⟩ (sub_app hs517 (.refl _)) ⟨hs517, rfl, rfl, (hle486), h518, ((put_length _ _ _).trans hln493)⟩
          ·
            rw [if_neg (of_decide_eq_false hc494)] at hm
            refine c_exit ?_
            refine x_then_exit ?_
            refine x_then_exit ?_
            refine x_block_out ?_
            have hm := congrArg some (houtL419 _ (Option.some.inj hm).symm)
            obtain ⟨rfl, rfl, rfl⟩ := some3 hm
            exact x_join (e' := [(0, .string (x490)), (9, .slice A302 (l492).length c303), (10, .int .i64 (x491))]) (hp' := (hs488 ++ R)) ⟨rfl, rfl, rfl, trivial⟩ (sub_app hs488 (.refl _)) ⟨hs488, rfl, rfl, hle486, h489, hln493⟩
        ·
          rintro b409 _ _ ⟨hs412, rfl, rfl, hle410, h413, hln417⟩
          have hm := (unc3E hk418)
          refine c_seq ?_
          refine c_region ?_
          refine t_st rfl (st_move rfl) ?_
          refine t_st rfl (st_move rfl) ?_
          refine t_st rfl (st_move rfl) ?_
          obtain ⟨x523, h524, hm⟩ := bindS hm
          obtain ⟨j525, hj526, hx527⟩ := idx_some h524
          obtain ⟨cs528, hs533, P534, P535, hq536, hr529, hcs530, hA531, hlt532, hb537, hho538⟩ := OS.get (sz := 1) rfl (by decide) h413 hx527
          obtain ⟨rfl, rfl⟩ := hr529
          refine t_st rfl (st_index_old j525 rfl rfl hj526 hlt532 hA531 sl109) ?_
          refine t_do rfl (u_putOS hj526 (sz := 1) (a' := x414) rfl [] R 0 1 [.string (x414)] rfl h413 hx527 rfl rfl rfl siz9 rfl (by intro u hu; simp only [List.mem_cons, List.not_mem_nil, or_false] at hu; subst hu; rfl) (fun cs hsj hh => by obtain ⟨rfl, rfl⟩ := hh; exact ⟨by decide, rfl, rfl⟩)) ?_
          rintro _ _ ⟨hs539, rfl, h540⟩
          refine t_resp 9 rfl (v' := .slice A302 (put l416 x415 x414).length c303) (by simp only [put_length]) ?_
          refine t_nil ?_
          refine x_then_normal ?_
          refine c_seq ?_
          refine c_region ?_
          refine t_st rfl (st_move rfl) ?_
          refine t_st rfl (st_move rfl) ?_
          obtain ⟨_, h541, hm⟩ := bindS hm
          have h541 := (chk_some h541).2
          refine t_st rfl (st_add rfl rfl h541) ?_
          obtain ⟨l542, h543, hm⟩ := bindS hm
          obtain ⟨j544, j545, hj546, hj547, hj548, hj549, hx550⟩ := cutS_some h543
          have h551 := OS.lc h540
          refine t_st rfl (hx550 ▸ st_part (l := put l416 x415 x414) j544 j545 rfl (.inl ⟨rfl, by omega⟩) (.inr ⟨_, _, _, rfl, rfl, hj547⟩) hj548 hj549 h551 sl109) ?_
          obtain ⟨hs552, hq553, h554⟩ := OS.sub (sz := 1) rfl h540 hj548 hj549
          rw [← hx550] at h554
          refine t_less [] hs539 hs552 R rfl hq553 ?_
          refine t_st rfl (st_assign rfl) ?_
          refine t_nil ?_
          refine x_then_normal ?_
          refine c_ret ?_
          obtain rfl := some1 hm
          exact retM (rs := [.tmp 8]) [.slice (subA A302 c303 j544 1) (l542).length (c303 - j544)] (hle290.trans hle410) (by decide) rfl ⟨rfl, trivial⟩ rfl (hp' := (hs552 ++ R)) (sub_app hs552 (.refl _)) ⟨(subA A302 c303 j544 1), (c303 - j544), hs552, rfl, rfl, h554⟩

set_option maxRecDepth 20000 in
theorem cStringsSplit (b : Base) (R : Hp) (x1 : ByteArray) (x2 : ByteArray) (l16 : (List ByteArray)) (hm : mStringsSplit x1 x2 = some l16) :
    CallsG Tryd.prog 55 [.string (x1), .string (x2)] b (R) (fun v b' hp' => ∃ (A13 : Option Addr), ∃ (c14 : Nat), ∃ (hs12 : Hp), .slice A13 (l16).length c14 = v ∧ (hs12 ++ R) = hp' ∧ OS 9 (OT.fr RT.str) b'.w (.slice A13 l16.length c14) l16 hs12) := by
  refine fn_enterG 8 Tryd.func55 rfl Tryd.ntmps55 rfl ?_
  unfold mStringsSplit at hm
  refine c_seq ?_
  refine c_region ?_
  refine t_st rfl (st_assign rfl) ?_
  refine t_nil ?_
  refine x_then_normal ?_
  refine c_seq ?_
  refine c_region ?_
  refine t_st rfl (st_move rfl) ?_
  refine t_st rfl (st_move rfl) ?_
  obtain ⟨l17, hcl18, hm⟩ := bindS hm
  refine t_callG _ rfl call81 rfl (cStringsGenSplit _ _ x1 x2 0 (-1) l17 hcl18) ?_
  rintro _ b19 _ hle20 ⟨A21, c22, hs23, rfl, rfl, h24⟩
  refine t_in1 [] [] hs23 R rfl ?_
  refine t_st rfl (st_assign rfl) ?_
  refine t_nil ?_
  refine x_then_normal ?_
  refine c_ret ?_
  obtain rfl := some1 hm
  exact retM (rs := [.tmp 4]) [.slice A21 (l17).length c22] hle20 (by decide) rfl ⟨rfl, trivial⟩ rfl (hp' := (hs23 ++ R)) (sub_app hs23 (.refl _)) ⟨A21, c22, hs23, rfl, rfl, h24⟩

set_option maxRecDepth 20000 in
theorem cStrconvAtoi (b : Base) (R : Hp) (hG : GLo 2 3 b.w) (x1 : ByteArray) (x2 : Int) (q3 : Bool) (hm : mStrconvAtoi x1 = some (x2, q3)) :
    CallsG Tryd.prog 103 [.string (x1)] b (R) (fun v b' hp' => ∃ (v4 : Value), .tuple #[.int .i64 (x2), v4] = v ∧ R = hp' ∧ ErrV v4 q3) := by
  unfold mStrconvAtoi at hm
  exact atoi_c hG hm

set_option maxRecDepth 20000 in
theorem cLineNumber (b : Base) (R : Hp) (hG : GLo 2 3 b.w) (x1 : ByteArray) (x14 : Int) (hm : mLineNumber x1 = some x14) :
    CallsG Tryd.prog 80 [.string (x1)] b (R) (fun v b' hp' => .tuple #[.int .i64 (x14), .bool (false)] = v ∧ R = hp') := by
  refine fn_enterG 26 Tryd.func80 rfl Tryd.ntmps80 rfl ?_
  unfold mLineNumber at hm
  refine c_seq ?_
  refine c_region ?_
  refine t_st rfl (st_assign rfl) ?_
  refine t_st rfl (st_assign rfl) ?_
  refine t_nil ?_
  refine x_then_normal ?_
  refine c_seq ?_
  refine c_region ?_
  refine t_st rfl (st_move rfl) ?_
  obtain ⟨⟨x15, q16⟩, hcl17, hm⟩ := bindS hm
  have hm := (unc2E hm)
  refine t_callG _ rfl call103 rfl (cStrconvAtoi _ _ (hG.le (Base.Le.refl _)) x1 x15 q16 hcl17) ?_
  rintro _ b18 _ hle19 ⟨v20, rfl, rfl, h21⟩
  refine t_st rfl (st_move rfl) ?_
  refine t_st rfl (st_extract rfl rfl) ?_
  refine t_st rfl (st_extract rfl rfl) ?_
  refine t_st rfl (st_assign rfl) ?_
  refine t_st rfl (st_assign rfl) ?_
  refine t_nil ?_
  refine x_then_normal ?_
  obtain ⟨_, hj25, hk25⟩ := bindS hm
  refine c_join (fun b23 e' hp' => [(2, .int .i64 (x15)), (3, .bool (false))] = e' ∧ R = hp' ∧ b18.Le b23) ?_ ?_
  ·
    have hm := hj25
    refine c_region ?_
    refine t_st rfl (st_move rfl) ?_
    refine t_st rfl (st_move rfl) ?_
    refine t_st rfl (st_eqlE rfl h21 ift149) ?_
    rcases Bool.eq_false_or_eq_true q16 with hc26 | hc26
    ·
      rw [if_pos hc26] at hm
      refine t_resp 13 rfl (v' := .bool true) (by rw [hc26] <;> rfl) ?_
      refine t_st rfl (st_move rfl) ?_
      refine t_yes 14 rfl rfl rfl ?_
      refine t_st rfl (st_move rfl) ?_
      refine t_yes 14 rfl rfl rfl ?_
      cases hm
    ·
      rw [if_neg (fun hh => Bool.noConfusion (hh.symm.trans hc26))] at hm
      refine t_resp 13 rfl (v' := .bool false) (by rw [hc26] <;> rfl) ?_
      refine t_st rfl (st_move rfl) ?_
      refine t_no 14 rfl rfl rfl rfl rfl ?_
      refine t_no 14 rfl rfl rfl rfl rfl ?_
      refine t_no 14 rfl rfl rfl rfl rfl ?_
      refine t_no 14 rfl rfl rfl rfl rfl ?_
      refine t_st rfl (st_pick_f rfl rfl) ?_
      refine t_st rfl (st_move rfl) ?_
      refine t_no 20 rfl rfl rfl rfl rfl ?_
      refine t_no 20 rfl rfl rfl rfl rfl ?_
      refine t_no 20 rfl rfl rfl rfl rfl ?_
      refine t_no 20 rfl rfl rfl rfl rfl ?_
      refine t_st rfl (st_pick_f rfl rfl) ?_
      refine t_st rfl (st_assign rfl) ?_
      refine t_st rfl (st_assign rfl) ?_
      refine t_nil ?_
      clear hm
      exact x_join (e' := [(2, .int .i64 (x15)), (3, .bool (false))]) (hp' := R) ⟨rfl, rfl, trivial⟩ (.refl _) ⟨rfl, rfl, (Base.Le.refl _)⟩
  ·
    rintro b23 _ _ ⟨rfl, rfl, hle24⟩
    have hm := hk25
    refine c_ret ?_
    obtain rfl := some1 hm
    exact retM (rs := [.tmp 2, .tmp 3]) [.int .i64 (x15), .bool (false)] (hle19.trans hle24) (by decide) rfl ⟨rfl, ⟨rfl, trivial⟩⟩ rfl (hp' := R) (.refl _) ⟨rfl, rfl⟩

set_option maxRecDepth 20000 in
theorem cLineNumbers (b : Base) (R : Hp) (hG : GLo 2 3 b.w) (l4 : (List ByteArray)) (A1 : Option Addr) (c2 : Nat) (h3 : FZ RT.str b.w A1 c2 l4) (l42 : (List Int)) (x44 : Bool) (hm : mLineNumbers l4 = some (l42, x44)) :
    CallsG Tryd.prog 54 [.slice A1 (l4).length c2] b (R) (fun v b' hp' => ∃ (A39 : Option Addr), ∃ (c40 : Nat), .tuple #[.slice A39 (l42).length c40, .bool (x44)] = v ∧ R = hp' ∧ FZ (RT.int .i64) b'.w A39 c40 l42 ∧ (A39 = none ↔ l42 = [])) := by
  refine fn_enterG 28 Tryd.func54 rfl Tryd.ntmps54 rfl ?_
  unfold mLineNumbers at hm
  refine c_seq ?_
  refine c_region ?_
  refine t_st rfl (st_assign rfl) ?_
  refine t_st rfl (st_assign rfl) ?_
  refine t_nil ?_
  refine x_then_normal ?_
  refine c_seq ?_
  refine c_region ?_
  refine t_st rfl (st_assign rfl) ?_
  refine t_nil ?_
  refine x_then_normal ?_
  refine c_seq ?_
  refine c_seq ?_
  refine c_region ?_
  refine t_st rfl (st_move rfl) ?_
  refine t_st rfl (st_len rfl sl109) ?_
  refine t_st rfl (st_move rfl) ?_
  refine t_nil ?_
  refine x_then_normal ?_
  refine c_block ?_
  have hb46 := (FZ.bd h3)
  obtain ⟨t62, hl63, hk64⟩ := bindS hm
  refine c_forM (fun k61 => fun _ => fun b59 e' hp' => [(4, .slice none 0 0), (9, .slice A1 (l4).length c2), (10, .int .i64 ((l4.length : Int))), (11, .int .i64 ((k61 : Int)))] = e' ∧ R = hp' ∧ b.Le b59) hl63 (e' := [(4, .slice none 0 0), (9, .slice A1 (l4).length c2), (10, .int .i64 ((l4.length : Int))), (11, .int .i64 0)]) (hp' := R) ⟨rfl, rfl, rfl, rfl, trivial⟩ (.refl _) ⟨rfl, rfl, (Base.Le.refl _)⟩ ?_ ?_
  ·
    rintro k61 _ b59 _ _ oL45 hknL45 ⟨rfl, rfl, hle60⟩ hstepL45 houtL45
    unfold mLineNumbers_L45 at hstepL45
    have hm := hstepL45
    refine c_seq ?_
    refine c_region ?_
    refine t_st rfl (st_lss_t rfl rfl (by omega)) ?_
    refine t_nil ?_
    refine x_then_normal ?_
    refine c_seq ?_
    refine c_cond_t rfl ?_
    refine c_skip ?_
    refine x_then_normal ?_
    refine c_seq ?_
    refine c_block ?_
    refine c_seq ?_
    refine c_region ?_
    obtain ⟨x65, h66, hm⟩ := bindS hm
    obtain ⟨j67, hj68, hx69⟩ := idx_some h66
    obtain ⟨cs70, hr71, hcs72, hA73, hlt74⟩ := FZ.get (sz := 1) rfl (by decide) (h3.le hle60) hx69
    obtain rfl := hr71
    refine t_st rfl (st_index_old j67 rfl rfl hj68 hlt74 hA73 sl109) ?_
    refine t_st rfl (st_load_old rfl one9 (hcs72 0 _ rfl)) ?_
    refine t_st rfl (st_assign rfl) ?_
    refine t_nil ?_
    refine x_then_normal ?_
    refine c_seq ?_
    refine c_region ?_
    refine t_st rfl (st_move rfl) ?_
    obtain ⟨x75, hcl76, hm⟩ := bindS hm
    refine t_do rfl (u_callW0 _ call80 rfl (fun w ho => cLineNumber _ [] ((hG.le hle60).old ho) x65 x75 hcl76) (fun _ _ _ h => h.2.symm)) ?_
    rintro _ _ ⟨⟨_, rfl, _⟩, rfl⟩
    refine t_st rfl (st_move rfl) ?_
    refine t_st rfl (st_extract rfl rfl) ?_
    refine t_st rfl (st_extract rfl rfl) ?_
    refine t_st rfl (st_assign rfl) ?_
    refine t_st rfl (st_assign rfl) ?_
    refine t_nil ?_
    refine x_then_normal ?_
    refine c_seq ?_
    refine c_seq ?_
    refine c_region ?_
    refine t_st rfl (st_move rfl) ?_
    refine t_st rfl (st_not_f rfl) ?_
    refine t_nil ?_
    refine x_then_normal ?_
    refine c_cond_t rfl ?_
    refine c_seq ?_
    refine c_region ?_
    refine t_st rfl (st_assign rfl) ?_
    refine t_st rfl (st_assign rfl) ?_
    refine t_nil ?_
    refine x_then_normal ?_
    refine c_ret ?_
    refine x_then_ret ?_
    refine x_block_ret ?_
    refine x_then_ret ?_
    refine x_then_ret ?_
    refine x_block_ret ?_
    refine x_then_ret ?_
    have hq77 := houtL45 _ (Option.some.inj hm).symm
    rw [hq77] at hk64
    have hm := elimR hk64
    obtain ⟨rfl, rfl⟩ := some2 hm
    exact retM (rs := [.tmp 2, .tmp 3]) [.slice none 0 0, .bool (false)] hle60 (by decide) rfl ⟨rfl, ⟨rfl, trivial⟩⟩ rfl (hp' := R) (.refl _) ⟨none, 0, rfl, rfl, FZ.nil, ⟨fun _ => rfl, fun _ => rfl⟩⟩
  ·
    rintro _ b59 _ _ ⟨rfl, rfl, hle60⟩ hq78
    rw [hq78] at hk64
    have hm := elimL hk64
    refine c_seq ?_
    refine c_region ?_
    refine t_st rfl (st_lss_f rfl rfl (by omega)) ?_
    refine t_nil ?_
    refine x_then_normal ?_
    refine c_seq ?_
    refine c_cond_f rfl ?_
    refine c_exit ?_
    refine x_then_exit ?_
    refine x_then_exit ?_
    refine x_block_out ?_
    refine x_then_normal ?_
    refine c_seq ?_
    refine c_region ?_
    refine t_st rfl (st_move rfl) ?_
    refine t_st rfl (st_assign rfl) ?_
    refine t_st rfl (st_assign rfl) ?_
    refine t_nil ?_
    refine x_then_normal ?_
    refine c_ret ?_
    obtain ⟨rfl, rfl⟩ := some2 hm
    exact retM (rs := [.tmp 2, .tmp 3]) [.slice none 0 0, .bool (true)] hle60 (by decide) rfl ⟨rfl, ⟨rfl, trivial⟩⟩ rfl (hp' := R) (.refl _) ⟨none, 0, rfl, rfl, FZ.nil, ⟨fun _ => rfl, fun _ => rfl⟩⟩

set_option maxRecDepth 20000 in
theorem cGuardWithin (b : Base) (R : Hp) (x1 : Int) (x2 : Int) (x3 : Int) (x10 : Bool) (hm : mGuardWithin x1 x2 x3 = some x10) :
    CallsG Tryd.prog 63 [.int .i64 (x1), .int .i64 (x2), .int .i64 (x3)] b (R) (fun v b' hp' => .bool (x10) = v ∧ R = hp') := by
  refine fn_enterG 15 Tryd.func63 rfl Tryd.ntmps63 rfl ?_
  unfold mGuardWithin at hm
  refine c_seq ?_
  refine c_region ?_
  refine t_st rfl (st_assign rfl) ?_
  refine t_nil ?_
  refine x_then_normal ?_
  obtain ⟨x14, hj15, hk15⟩ := bindS hm
  refine c_join (fun b12 e' hp' => [(6, .bool (x14))] = e' ∧ R = hp' ∧ b.Le b12) ?_ ?_
  ·
    have hm := hj15
    refine c_region ?_
    refine t_st rfl (st_move rfl) ?_
    refine t_st rfl (st_move rfl) ?_
    refine t_bool rfl (st_geq rfl rfl) (fun hc16 => ?_) (fun hc16 => ?_)
    ·
      rw [if_pos hc16] at hm
      refine t_st rfl (st_move rfl) ?_
      refine t_yes 10 rfl rfl rfl ?_
      refine t_st rfl (st_move rfl) ?_
      refine t_yes 10 rfl rfl rfl ?_
      refine t_st rfl (st_move rfl) ?_
      refine t_yes 10 rfl rfl rfl ?_
      refine t_st rfl (st_leq rfl rfl) ?_
      refine t_st rfl (st_pick_t rfl rfl) ?_
      refine t_st rfl (st_assign rfl) ?_
      refine t_nil ?_
      obtain rfl := some1 hm
      exact x_join (e' := [(6, .bool (decide (x1 ≤ x3)))]) (hp' := R) ⟨rfl, trivial⟩ (.refl _) ⟨rfl, rfl, (Base.Le.refl _)⟩
    ·
      rw [if_neg hc16] at hm
      refine t_st rfl (st_move rfl) ?_
      refine t_no 10 rfl rfl rfl rfl rfl ?_
      refine t_no 10 rfl rfl rfl rfl rfl ?_
      refine t_no 10 rfl rfl rfl rfl rfl ?_
      refine t_st rfl (st_pick_f rfl rfl) ?_
      refine t_st rfl (st_assign rfl) ?_
      refine t_nil ?_
      obtain rfl := some1 hm
      exact x_join (e' := [(6, .bool (false))]) (hp' := R) ⟨rfl, trivial⟩ (.refl _) ⟨rfl, rfl, (Base.Le.refl _)⟩
  ·
    rintro b12 _ _ ⟨rfl, rfl, hle13⟩
    have hm := hk15
    refine c_ret ?_
    obtain rfl := some1 hm
    exact retM (rs := [.tmp 6]) [.bool (x14)] hle13 (by decide) rfl ⟨rfl, trivial⟩ rfl (hp' := R) (.refl _) ⟨rfl, rfl⟩

set_option maxRecDepth 20000 in
theorem cGuardPacketUsed (b : Base) (R : Hp) (s1 : GuardPacket) (x34 : Int) (x35 : Int) (x36 : Int) (x37 : Int) (x38 : Int) (x39 : Int) (x40 : Int) (x41 : Int) (hm : mGuardPacketUsed s1 = some (x34, x35, x36, x37, x38, x39, x40, x41)) :
    CallsG Tryd.prog 75 [.agg #[.int .i64 (s1.Kind), .int .i64 (s1.Session), .int .i64 (s1.No), .int .i64 (s1.Of), .int .i64 (s1.End), .int .i64 (s1.At), .int .i64 (s1.Speed), .int .i64 (s1.Sent)]] b (R) (fun v b' hp' => .agg #[.int .i64 (x34), .int .i64 (x35), .int .i64 (x36), .int .i64 (x37), .int .i64 (x38), .int .i64 (x39), .int .i64 (x40), .int .i64 (x41)] = v ∧ R = hp') := by
  refine fn_enterG 51 Tryd.func75 rfl Tryd.ntmps75 rfl ?_
  unfold mGuardPacketUsed at hm
  refine c_seq ?_
  refine c_region ?_
  refine t_do rfl (u_box _ rfl rfl) ?_
  rintro _ _ ⟨g42, rfl, rfl⟩
  refine t_do rfl (u_alloc [.int .i64 0, .int .i64 0, .int .i64 0, .int .i64 0, .int .i64 0, .int .i64 0, .int .i64 0, .int .i64 0] zero36 rfl) ?_
  rintro _ _ ⟨g43, rfl, rfl⟩
  refine t_nil ?_
  refine x_then_normal ?_
  refine c_seq ?_
  refine c_region ?_
  refine t_st rfl (st_field rfl fld36_0) ?_
  refine t_st rfl (st_load 1 rfl one3 rfl rfl) ?_
  refine t_st rfl (st_field rfl fld36_1) ?_
  refine t_st rfl (st_load 1 rfl one3 rfl rfl) ?_
  refine t_st rfl (st_field rfl fld36_2) ?_
  refine t_st rfl (st_load 1 rfl one3 rfl rfl) ?_
  refine t_st rfl (st_field rfl fld36_7) ?_
  refine t_st rfl (st_load 1 rfl one3 rfl rfl) ?_
  refine t_st rfl (st_build (v := .agg #[.int .i64 (s1.Kind), .int .i64 (s1.Session), .int .i64 (s1.No), .int .i64 (0), .int .i64 (0), .int .i64 (0), .int .i64 (0), .int .i64 (s1.Sent)]) [(0, .int .i64 (s1.Kind)), (1, .int .i64 (s1.Session)), (2, .int .i64 (s1.No)), (7, .int .i64 (s1.Sent))] rfl (fun _ => by kernel_rfl)) ?_
  refine t_do rfl (u_alloc [.int .i64 0, .int .i64 0, .int .i64 0, .int .i64 0, .int .i64 0, .int .i64 0, .int .i64 0, .int .i64 0] zero36 rfl) ?_
  rintro _ _ ⟨g44, rfl, rfl⟩
  refine t_do rfl (u_storeN (vs := [_, _, _, _, _, _, _, _]) 0 8 rfl rfl rfl siz36 rfl (by intro u hu; simp only [List.mem_cons, List.not_mem_nil, or_false] at hu; rcases hu with rfl | rfl | rfl | rfl | rfl | rfl | rfl | rfl <;> rfl) rfl (by simp)) ?_
  rintro _ _ rfl
  refine t_nil ?_
  refine x_then_normal ?_
  obtain ⟨⟨x58, x59, x60, x61⟩, hj62, hk62⟩ := bindS hm
  refine c_join (fun b56 e' hp' => [(2, .pointer (some ⟨g43, 0, none⟩)), (3, .pointer (some ⟨g44, 0, none⟩))] = e' ∧ (g43, Cl 36 [.int .i64 (0), .int .i64 (0), .int .i64 (0), .int .i64 (0), .int .i64 (0), .int .i64 (0), .int .i64 (0), .int .i64 (0)]) :: (g44, Cl 36 [.int .i64 (s1.Kind), .int .i64 (s1.Session), .int .i64 (s1.No), .int .i64 (x58), .int .i64 (x59), .int .i64 (x60), .int .i64 (x61), .int .i64 (s1.Sent)]) :: R = hp' ∧ b.Le b56) ?_ ?_
  ·
    have hm := hj62
    refine c_seq ?_
    refine c_region ?_
    refine t_st rfl (st_field rfl fld36_0) ?_
    refine t_st rfl (st_load 2 rfl one3 rfl rfl) ?_
    refine t_nil ?_
    refine x_then_normal ?_
    refine c_block ?_
    refine c_seq ?_
    refine c_region ?_
    refine t_st rfl (st_eql rfl rfl) ?_
    refine t_st rfl (st_assign rfl) ?_
    refine t_nil ?_
    refine x_then_normal ?_
    refine c_cond _ rfl (fun hc63 => ?_) (fun hc63 => ?_)
    ·
      rw [if_pos (of_decide_eq_true hc63)] at hm
      refine c_region ?_
      refine t_st rfl (st_field rfl fld36_5) ?_
      refine t_st rfl (st_load 2 rfl one3 rfl rfl) ?_
      refine t_st rfl (st_field rfl fld36_5) ?_
      refine t_do rfl (u_store 0 rfl rfl siz3 rfl rfl (by simp)) ?_
      rintro _ _ rfl
      refine t_nil ?_
      refine x_block_normal ?_
      obtain ⟨rfl, rfl, rfl, rfl⟩ := some4 hm
      refine x_pullb 1 rfl ?_
      exact x_join (e' := [(2, .pointer (some ⟨g43, 0, none⟩)), (3, .pointer (some ⟨g44, 0, none⟩))]) (hp' := (g43, Cl 36 [.int .i64 (0), .int .i64 (0), .int .i64 (0), .int .i64 (0), .int .i64 (0), .int .i64 (0), .int .i64 (0), .int .i64 (0)]) :: (g44, Cl 36 [.int .i64 (s1.Kind), .int .i64 (s1.Session), .int .i64 (s1.No), .int .i64 (0), .int .i64 (0), .int .i64 (s1.At), .int .i64 (0), .int .i64 (s1.Sent)]) :: R) ⟨rfl, rfl, trivial⟩ (.cons_cons _ (.cons_cons _ (.cons _ (.refl _)))) ⟨rfl, rfl, (Base.Le.refl _)⟩
    ·
      rw [if_neg (of_decide_eq_false hc63)] at hm
      refine c_seq ?_
      refine c_region ?_
      refine t_st rfl (st_eql rfl rfl) ?_
      refine t_st rfl (st_assign rfl) ?_
      refine t_nil ?_
      refine x_then_normal ?_
      refine c_cond _ rfl (fun hc64 => ?_) (fun hc64 => ?_)
      ·
        rw [if_pos (of_decide_eq_true hc64)] at hm
        refine D_drawS ((g43, Cl 36 [.int .i64 (0), .int .i64 (0), .int .i64 (0), .int .i64 (0), .int .i64 (0), .int .i64 (0), .int .i64 (0), .int .i64 (0)]) :: (g42, Cl 36 [.int .i64 (s1.Kind), .int .i64 (s1.Session), .int .i64 (s1.No), .int .i64 (s1.Of), .int .i64 (s1.End), .int .i64 (s1.At), .int .i64 (s1.Speed), .int .i64 (s1.Sent)]) :: R) mixed ?_
        refine D_st (Base.Le.refl _) 0 rfl (by kernel_rfl) (by kernel_rfl) (by kernel_rfl) rfl (st_field rfl fld36_4) (.cons _ (.cons_cons _ (.cons_cons _ (.refl _)))) ?_
        refine D_st (Base.Le.refl _) 1 rfl (by kernel_rfl) (by kernel_rfl) (by kernel_rfl) rfl (st_load 1 rfl one3 rfl rfl) (.cons _ (.cons_cons _ (.cons_cons _ (.refl _)))) ?_
        refine D_st (Base.Le.refl _) 2 rfl (by kernel_rfl) (by kernel_rfl) (by kernel_rfl) rfl (st_field rfl fld36_5) (.cons _ (.cons_cons _ (.cons_cons _ (.refl _)))) ?_
        refine D_st (Base.Le.refl _) 3 rfl (by kernel_rfl) (by kernel_rfl) (by kernel_rfl) rfl (st_load 1 rfl one3 rfl rfl) (.cons _ (.cons_cons _ (.cons_cons _ (.refl _)))) ?_
        refine D_st (Base.Le.refl _) 4 rfl (by kernel_rfl) (by kernel_rfl) (by kernel_rfl) rfl (st_field rfl fld36_6) (.cons _ (.cons_cons _ (.cons_cons _ (.refl _)))) ?_
        refine D_st (Base.Le.refl _) 5 rfl (by kernel_rfl) (by kernel_rfl) (by kernel_rfl) rfl (st_load 1 rfl one3 rfl rfl) (.cons _ (.cons_cons _ (.cons_cons _ (.refl _)))) ?_
        refine D_st (Base.Le.refl _) 6 rfl (by kernel_rfl) (by kernel_rfl) (by kernel_rfl) rfl (st_field rfl fld36_4) (.cons _ (.cons_cons _ (.cons_cons _ (.refl _)))) ?_
        refine D_all [7] (by kernel_rfl) rfl ?_
        refine R_do (Base.Le.refl _) rfl rfl (u_store 0 rfl rfl siz3 rfl rfl (by simp)) ?_ ?_
        ·
          rintro _ _ rfl
          refine ⟨.inr (.cons _ (.cons_cons _ (.cons_cons _ (.refl _)))), ?_⟩
          refine D_st (Base.Le.refl _) 8 rfl (by kernel_rfl) (by kernel_rfl) (by kernel_rfl) rfl (st_field rfl fld36_5) (.cons _ (.cons_cons _ (.cons_cons _ (.refl _)))) ?_
          refine D_all [9] (by kernel_rfl) rfl ?_
          refine R_do (Base.Le.refl _) rfl rfl (u_store 0 rfl rfl siz3 rfl rfl (by simp)) ?_ ?_
          ·
            rintro _ _ rfl
            refine ⟨.inr (.cons _ (.cons_cons _ (.cons_cons _ (.refl _)))), ?_⟩
            refine D_st (Base.Le.refl _) 10 rfl (by kernel_rfl) (by kernel_rfl) (by kernel_rfl) rfl (st_field rfl fld36_6) (.cons _ (.cons_cons _ (.cons_cons _ (.refl _)))) ?_
            refine D_all [11] (by kernel_rfl) rfl ?_
            refine R_do (Base.Le.refl _) rfl rfl (u_store 0 rfl rfl siz3 rfl rfl (by simp)) ?_ ?_
            ·
              rintro _ _ rfl
              refine ⟨.inl (by kernel_rfl), ?_⟩
              refine D_done (by kernel_rfl) ?_
              refine x_block_normal ?_
              obtain ⟨rfl, rfl, rfl, rfl⟩ := some4 hm
              refine x_pullb 1 rfl ?_
              exact x_join (e' := [(2, .pointer (some ⟨g43, 0, none⟩)), (3, .pointer (some ⟨g44, 0, none⟩))]) (hp' := (g43, Cl 36 [.int .i64 (0), .int .i64 (0), .int .i64 (0), .int .i64 (0), .int .i64 (0), .int .i64 (0), .int .i64 (0), .int .i64 (0)]) :: (g44, Cl 36 [.int .i64 (s1.Kind), .int .i64 (s1.Session), .int .i64 (s1.No), .int .i64 (0), .int .i64 (s1.End), .int .i64 (s1.At), .int .i64 (s1.Speed), .int .i64 (s1.Sent)]) :: R) ⟨rfl, rfl, trivial⟩ (.cons_cons _ (.cons_cons _ (.cons _ (.refl _)))) ⟨rfl, rfl, (Base.Le.refl _)⟩
            exact R_nil
          exact R_nil
        exact R_nil
      ·
        rw [if_neg (of_decide_eq_false hc64)] at hm
        obtain ⟨x68, hj69, hk69⟩ := bindS hm
        refine c_join (fun b66 e' hp' => [(1, .pointer (some ⟨g42, 0, none⟩)), (2, .pointer (some ⟨g43, 0, none⟩)), (3, .pointer (some ⟨g44, 0, none⟩)), (14, .int .i64 (s1.Kind)), (31, .bool (x68))] = e' ∧ (g42, Cl 36 [.int .i64 (s1.Kind), .int .i64 (s1.Session), .int .i64 (s1.No), .int .i64 (s1.Of), .int .i64 (s1.End), .int .i64 (s1.At), .int .i64 (s1.Speed), .int .i64 (s1.Sent)]) :: (g43, Cl 36 [.int .i64 (0), .int .i64 (0), .int .i64 (0), .int .i64 (0), .int .i64 (0), .int .i64 (0), .int .i64 (0), .int .i64 (0)]) :: (g44, Cl 36 [.int .i64 (s1.Kind), .int .i64 (s1.Session), .int .i64 (s1.No), .int .i64 (0), .int .i64 (0), .int .i64 (0), .int .i64 (0), .int .i64 (s1.Sent)]) :: R = hp' ∧ b.Le b66) ?_ ?_
        ·
          have hm := hj69
          refine c_seq ?_
          refine c_region ?_
          refine t_st rfl (st_eql rfl rfl) ?_
          refine t_st rfl (st_assign rfl) ?_
          refine t_nil ?_
          refine x_then_normal ?_
          refine c_cond _ rfl (fun hc70 => ?_) (fun hc70 => ?_)
          ·
            rw [if_pos (of_decide_eq_true hc70)] at hm
            refine c_skip ?_
            obtain rfl := some1 hm
            refine x_pullb 1 rfl ?_
            refine x_pullb 2 rfl ?_
            exact x_join (e' := [(1, .pointer (some ⟨g42, 0, none⟩)), (2, .pointer (some ⟨g43, 0, none⟩)), (3, .pointer (some ⟨g44, 0, none⟩)), (14, .int .i64 (s1.Kind)), (31, .bool (decide (s1.Kind = 4)))]) (hp' := (g42, Cl 36 [.int .i64 (s1.Kind), .int .i64 (s1.Session), .int .i64 (s1.No), .int .i64 (s1.Of), .int .i64 (s1.End), .int .i64 (s1.At), .int .i64 (s1.Speed), .int .i64 (s1.Sent)]) :: (g43, Cl 36 [.int .i64 (0), .int .i64 (0), .int .i64 (0), .int .i64 (0), .int .i64 (0), .int .i64 (0), .int .i64 (0), .int .i64 (0)]) :: (g44, Cl 36 [.int .i64 (s1.Kind), .int .i64 (s1.Session), .int .i64 (s1.No), .int .i64 (0), .int .i64 (0), .int .i64 (0), .int .i64 (0), .int .i64 (s1.Sent)]) :: R) ⟨rfl, rfl, rfl, rfl, rfl, trivial⟩ (.cons_cons _ (.cons_cons _ (.cons_cons _ (.refl _)))) ⟨rfl, rfl, (Base.Le.refl _)⟩
          ·
            rw [if_neg (of_decide_eq_false hc70)] at hm
            refine c_region ?_
            refine t_st rfl (st_eql rfl rfl) ?_
            refine t_st rfl (st_assign rfl) ?_
            refine t_nil ?_
            obtain rfl := some1 hm
            refine x_pullb 1 rfl ?_
            refine x_pullb 2 rfl ?_
            exact x_join (e' := [(1, .pointer (some ⟨g42, 0, none⟩)), (2, .pointer (some ⟨g43, 0, none⟩)), (3, .pointer (some ⟨g44, 0, none⟩)), (14, .int .i64 (s1.Kind)), (31, .bool (decide (s1.Kind = 5)))]) (hp' := (g42, Cl 36 [.int .i64 (s1.Kind), .int .i64 (s1.Session), .int .i64 (s1.No), .int .i64 (s1.Of), .int .i64 (s1.End), .int .i64 (s1.At), .int .i64 (s1.Speed), .int .i64 (s1.Sent)]) :: (g43, Cl 36 [.int .i64 (0), .int .i64 (0), .int .i64 (0), .int .i64 (0), .int .i64 (0), .int .i64 (0), .int .i64 (0), .int .i64 (0)]) :: (g44, Cl 36 [.int .i64 (s1.Kind), .int .i64 (s1.Session), .int .i64 (s1.No), .int .i64 (0), .int .i64 (0), .int .i64 (0), .int .i64 (0), .int .i64 (s1.Sent)]) :: R) ⟨rfl, rfl, rfl, rfl, rfl, trivial⟩ (.cons_cons _ (.cons_cons _ (.cons_cons _ (.refl _)))) ⟨rfl, rfl, (Base.Le.refl _)⟩
        ·
          rintro b66 _ _ ⟨rfl, rfl, hle67⟩
          have hm := hk69
          refine c_cond _ rfl (fun hc71 => ?_) (fun hc71 => ?_)
          ·
            rw [if_pos hc71] at hm
            refine c_region ?_
            refine t_st rfl (st_field rfl fld36_4) ?_
            refine t_st rfl (st_load 0 rfl one3 rfl rfl) ?_
            refine t_st rfl (st_field rfl fld36_4) ?_
            refine t_do rfl (u_store 2 rfl rfl siz3 rfl rfl (by simp)) ?_
            rintro _ _ rfl
            refine t_nil ?_
            refine x_block_normal ?_
            obtain ⟨rfl, rfl, rfl, rfl⟩ := some4 hm
            refine x_pullb 2 rfl ?_
            refine x_pullb 2 rfl ?_
            exact x_join (e' := [(2, .pointer (some ⟨g43, 0, none⟩)), (3, .pointer (some ⟨g44, 0, none⟩))]) (hp' := (g43, Cl 36 [.int .i64 (0), .int .i64 (0), .int .i64 (0), .int .i64 (0), .int .i64 (0), .int .i64 (0), .int .i64 (0), .int .i64 (0)]) :: (g44, Cl 36 [.int .i64 (s1.Kind), .int .i64 (s1.Session), .int .i64 (s1.No), .int .i64 (0), .int .i64 (s1.End), .int .i64 (0), .int .i64 (0), .int .i64 (s1.Sent)]) :: R) ⟨rfl, rfl, trivial⟩ (.cons_cons _ (.cons_cons _ (.cons _ (.refl _)))) ⟨rfl, rfl, hle67⟩
          ·
            rw [if_neg (fun hh => Bool.noConfusion (hh.symm.trans hc71))] at hm
            refine c_seq ?_
            refine c_region ?_
            refine t_st rfl (st_eql rfl rfl) ?_
            refine t_st rfl (st_assign rfl) ?_
            refine t_nil ?_
            refine x_then_normal ?_
            refine c_cond _ rfl (fun hc72 => ?_) (fun hc72 => ?_)
            ·
              rw [if_pos (of_decide_eq_true hc72)] at hm
              refine D_drawS ((g42, Cl 36 [.int .i64 (s1.Kind), .int .i64 (s1.Session), .int .i64 (s1.No), .int .i64 (s1.Of), .int .i64 (s1.End), .int .i64 (s1.At), .int .i64 (s1.Speed), .int .i64 (s1.Sent)]) :: (g43, Cl 36 [.int .i64 (0), .int .i64 (0), .int .i64 (0), .int .i64 (0), .int .i64 (0), .int .i64 (0), .int .i64 (0), .int .i64 (0)]) :: R) mixed ?_
              refine D_st (Base.Le.refl _) 0 rfl (by kernel_rfl) (by kernel_rfl) (by kernel_rfl) rfl (st_field rfl fld36_3) (.cons_cons _ (.cons_cons _ (.cons _ (.refl _)))) ?_
              refine D_st (Base.Le.refl _) 1 rfl (by kernel_rfl) (by kernel_rfl) (by kernel_rfl) rfl (st_load 0 rfl one3 rfl rfl) (.cons_cons _ (.cons_cons _ (.cons _ (.refl _)))) ?_
              refine D_st (Base.Le.refl _) 2 rfl (by kernel_rfl) (by kernel_rfl) (by kernel_rfl) rfl (st_field rfl fld36_4) (.cons_cons _ (.cons_cons _ (.cons _ (.refl _)))) ?_
              refine D_st (Base.Le.refl _) 3 rfl (by kernel_rfl) (by kernel_rfl) (by kernel_rfl) rfl (st_load 0 rfl one3 rfl rfl) (.cons_cons _ (.cons_cons _ (.cons _ (.refl _)))) ?_
              refine D_st (Base.Le.refl _) 4 rfl (by kernel_rfl) (by kernel_rfl) (by kernel_rfl) rfl (st_field rfl fld36_3) (.cons_cons _ (.cons_cons _ (.cons _ (.refl _)))) ?_
              refine D_all [5] (by kernel_rfl) rfl ?_
              refine R_do (Base.Le.refl _) rfl rfl (u_store 2 rfl rfl siz3 rfl rfl (by simp)) ?_ ?_
              ·
                rintro _ _ rfl
                refine ⟨.inr (.cons_cons _ (.cons_cons _ (.cons _ (.refl _)))), ?_⟩
                refine D_st (Base.Le.refl _) 6 rfl (by kernel_rfl) (by kernel_rfl) (by kernel_rfl) rfl (st_field rfl fld36_4) (.cons_cons _ (.cons_cons _ (.cons _ (.refl _)))) ?_
                refine D_all [7] (by kernel_rfl) rfl ?_
                refine R_do (Base.Le.refl _) rfl rfl (u_store 2 rfl rfl siz3 rfl rfl (by simp)) ?_ ?_
                ·
                  rintro _ _ rfl
                  refine ⟨.inl (by kernel_rfl), ?_⟩
                  refine D_done (by kernel_rfl) ?_
                  refine x_block_normal ?_
                  obtain ⟨rfl, rfl, rfl, rfl⟩ := some4 hm
                  refine x_pullb 2 rfl ?_
                  refine x_pullb 2 rfl ?_
                  exact x_join (e' := [(2, .pointer (some ⟨g43, 0, none⟩)), (3, .pointer (some ⟨g44, 0, none⟩))]) (hp' := (g43, Cl 36 [.int .i64 (0), .int .i64 (0), .int .i64 (0), .int .i64 (0), .int .i64 (0), .int .i64 (0), .int .i64 (0), .int .i64 (0)]) :: (g44, Cl 36 [.int .i64 (s1.Kind), .int .i64 (s1.Session), .int .i64 (s1.No), .int .i64 (s1.Of), .int .i64 (s1.End), .int .i64 (0), .int .i64 (0), .int .i64 (s1.Sent)]) :: R) ⟨rfl, rfl, trivial⟩ (.cons_cons _ (.cons_cons _ (.cons _ (.refl _)))) ⟨rfl, rfl, hle67⟩
                exact R_nil
              exact R_nil
            ·
              rw [if_neg (of_decide_eq_false hc72)] at hm
              refine c_seq ?_
              refine c_region ?_
              refine t_st rfl (st_eql rfl rfl) ?_
              refine t_st rfl (st_assign rfl) ?_
              refine t_nil ?_
              refine x_then_normal ?_
              refine c_cond _ rfl (fun hc73 => ?_) (fun hc73 => ?_)
              ·
                rw [if_pos (of_decide_eq_true hc73)] at hm
                refine c_region ?_
                refine t_st rfl (st_field rfl fld36_3) ?_
                refine t_st rfl (st_load 0 rfl one3 rfl rfl) ?_
                refine t_st rfl (st_field rfl fld36_3) ?_
                refine t_do rfl (u_store 2 rfl rfl siz3 rfl rfl (by simp)) ?_
                rintro _ _ rfl
                refine t_nil ?_
                refine x_block_normal ?_
                obtain ⟨rfl, rfl, rfl, rfl⟩ := some4 hm
                refine x_pullb 2 rfl ?_
                refine x_pullb 2 rfl ?_
                exact x_join (e' := [(2, .pointer (some ⟨g43, 0, none⟩)), (3, .pointer (some ⟨g44, 0, none⟩))]) (hp' := (g43, Cl 36 [.int .i64 (0), .int .i64 (0), .int .i64 (0), .int .i64 (0), .int .i64 (0), .int .i64 (0), .int .i64 (0), .int .i64 (0)]) :: (g44, Cl 36 [.int .i64 (s1.Kind), .int .i64 (s1.Session), .int .i64 (s1.No), .int .i64 (s1.Of), .int .i64 (0), .int .i64 (0), .int .i64 (0), .int .i64 (s1.Sent)]) :: R) ⟨rfl, rfl, trivial⟩ (.cons_cons _ (.cons_cons _ (.cons _ (.refl _)))) ⟨rfl, rfl, hle67⟩
              ·
                rw [if_neg (of_decide_eq_false hc73)] at hm
                refine c_skip ?_
                refine x_block_normal ?_
                obtain ⟨rfl, rfl, rfl, rfl⟩ := some4 hm
                refine x_pullb 2 rfl ?_
                refine x_pullb 2 rfl ?_
                exact x_join (e' := [(2, .pointer (some ⟨g43, 0, none⟩)), (3, .pointer (some ⟨g44, 0, none⟩))]) (hp' := (g43, Cl 36 [.int .i64 (0), .int .i64 (0), .int .i64 (0), .int .i64 (0), .int .i64 (0), .int .i64 (0), .int .i64 (0), .int .i64 (0)]) :: (g44, Cl 36 [.int .i64 (s1.Kind), .int .i64 (s1.Session), .int .i64 (s1.No), .int .i64 (0), .int .i64 (0), .int .i64 (0), .int .i64 (0), .int .i64 (s1.Sent)]) :: R) ⟨rfl, rfl, trivial⟩ (.cons_cons _ (.cons_cons _ (.cons _ (.refl _)))) ⟨rfl, rfl, hle67⟩
  ·
    rintro b56 _ _ ⟨rfl, rfl, hle57⟩
    have hm := (unc4E hk62)
    refine c_seq ?_
    refine c_region ?_
    refine t_st rfl (st_loadD (vs := [_, _, _, _, _, _, _, _]) 1 8 rfl agg36 rfl rfl rfl) ?_
    refine t_do rfl (u_storeN (vs := [_, _, _, _, _, _, _, _]) 0 8 rfl rfl rfl siz36 rfl (by intro u hu; simp only [List.mem_cons, List.not_mem_nil, or_false] at hu; rcases hu with rfl | rfl | rfl | rfl | rfl | rfl | rfl | rfl <;> rfl) rfl (by simp)) ?_
    rintro _ _ rfl
    refine t_nil ?_
    refine x_then_normal ?_
    refine c_ret ?_
    obtain ⟨rfl, rfl, rfl, rfl, rfl, rfl, rfl, rfl⟩ := some8 hm
    exact retM (rs := [.cell 2 36]) [.agg #[.int .i64 (s1.Kind), .int .i64 (s1.Session), .int .i64 (s1.No), .int .i64 (x58), .int .i64 (x59), .int .i64 (x60), .int .i64 (x61), .int .i64 (s1.Sent)]] hle57 (by decide) rfl ⟨⟨_, rfl, fun w ho => cell_agg (vs := [_, _, _, _, _, _, _, _]) 0 8 agg36 rfl rfl rfl w ho⟩, trivial⟩ rfl (hp' := R) (.cons _ (.cons _ (.refl _))) ⟨rfl, rfl⟩

set_option maxRecDepth 20000 in
theorem cGuardPacketCheck (b : Base) (R : Hp) (s1 : GuardPacket) (x108 : Int) (hm : mGuardPacketCheck s1 = some x108) :
    CallsG Tryd.prog 51 [.agg #[.int .i64 (s1.Kind), .int .i64 (s1.Session), .int .i64 (s1.No), .int .i64 (s1.Of), .int .i64 (s1.End), .int .i64 (s1.At), .int .i64 (s1.Speed), .int .i64 (s1.Sent)]] b (R) (fun v b' hp' => .int .i64 (x108) = v ∧ R = hp') := by
  refine fn_enterG 64 Tryd.func51 rfl Tryd.ntmps51 rfl ?_
  unfold mGuardPacketCheck at hm
  refine c_seq ?_
  refine c_region ?_
  refine t_do rfl (u_box _ rfl rfl) ?_
  rintro _ _ ⟨g109, rfl, rfl⟩
  refine t_st rfl (st_assign rfl) ?_
  refine t_nil ?_
  refine x_then_normal ?_
  refine c_seq ?_
  refine c_block ?_
  refine c_seq ?_
  refine c_region ?_
  refine t_st rfl (st_field rfl fld36_0) ?_
  refine t_st rfl (st_load 0 rfl one3 rfl rfl) ?_
  obtain ⟨x110, hcl111, hm⟩ := bindS hm
  refine t_do rfl (u_callW0 _ call63 rfl (fun w ho => cGuardWithin _ [] s1.Kind 1 8 x110 hcl111) (fun _ _ _ h => h.2.symm)) ?_
  rintro _ _ ⟨⟨_, rfl, _⟩, rfl⟩
  refine t_st rfl (st_not rfl) ?_
  refine t_st rfl (st_assign rfl) ?_
  refine t_nil ?_
  refine x_then_normal ?_
  refine c_cond _ rfl (fun hc112 => ?_) (fun hc112 => ?_)
  ·
    rw [if_neg (fun hh => Bool.noConfusion (hh.symm.trans (notT hc112)))] at hm
    refine c_seq ?_
    refine c_region ?_
    refine t_st rfl (st_assign rfl) ?_
    refine t_nil ?_
    refine x_then_normal ?_
    refine c_ret ?_
    refine x_block_ret ?_
    refine x_then_ret ?_
    obtain rfl := some1 hm
    exact retM (rs := [.tmp 2]) [.int .i64 (15)] (Base.Le.refl _) (by decide) rfl ⟨rfl, trivial⟩ rfl (hp' := R) (.cons _ (.refl _)) ⟨rfl, rfl⟩
  ·
    rw [if_pos (notF hc112)] at hm
    obtain ⟨x135, hj136, hk136⟩ := bindS hm
    refine c_join (fun b133 e' hp' => [(1, .pointer (some ⟨g109, 0, none⟩)), (8, .bool (x135))] = e' ∧ (g109, Cl 36 [.int .i64 (s1.Kind), .int .i64 (s1.Session), .int .i64 (s1.No), .int .i64 (s1.Of), .int .i64 (s1.End), .int .i64 (s1.At), .int .i64 (s1.Speed), .int .i64 (s1.Sent)]) :: R = hp' ∧ b.Le b133) ?_ ?_
    ·
      have hm := hj136
      refine c_region ?_
      refine t_st rfl (st_field rfl fld36_1) ?_
      refine t_st rfl (st_load 0 rfl one3 rfl rfl) ?_
      obtain ⟨x137, hcl138, hm⟩ := bindS hm
      refine t_do rfl (u_callW0 _ call63 rfl (fun w ho => cGuardWithin _ [] s1.Session 1 1000000 x137 hcl138) (fun _ _ _ h => h.2.symm)) ?_
      rintro _ _ ⟨⟨_, rfl, _⟩, rfl⟩
      rcases Bool.eq_false_or_eq_true x137 with hc139 | hc139
      ·
        rw [if_pos hc139] at hm
        refine t_resp 11 rfl (v' := .bool true) (by rw [hc139] <;> rfl) ?_
        refine t_st rfl (st_not_t rfl) ?_
        refine t_st rfl (st_move rfl) ?_
        refine t_yes 13 rfl rfl rfl ?_
        refine t_st rfl (st_field rfl fld36_2) ?_
        refine t_yes 13 rfl rfl rfl ?_
        refine t_st rfl (st_load 0 rfl one3 rfl rfl) ?_
        refine t_yes 13 rfl rfl rfl ?_
        obtain ⟨x140, hcl141, hm⟩ := bindS hm
        refine t_do rfl (u_callW0 _ call63 rfl (fun w ho => cGuardWithin _ [] s1.No 1 1000000 x140 hcl141) (fun _ _ _ h => h.2.symm)) ?_
        rintro _ _ ⟨⟨_, rfl, _⟩, rfl⟩
        rcases Bool.eq_false_or_eq_true x140 with hc142 | hc142
        ·
          rw [if_pos hc142] at hm
          refine t_resp 16 rfl (v' := .bool true) (by rw [hc142] <;> rfl) ?_
          refine t_yes 13 rfl rfl rfl ?_
          refine t_st rfl (st_not_t rfl) ?_
          refine t_st rfl (st_pick_f rfl rfl) ?_
          refine t_st rfl (st_move rfl) ?_
          refine t_yes 19 rfl rfl rfl ?_
          refine t_st rfl (st_field rfl fld36_3) ?_
          refine t_yes 19 rfl rfl rfl ?_
          refine t_st rfl (st_load 0 rfl one3 rfl rfl) ?_
          refine t_yes 19 rfl rfl rfl ?_
          obtain ⟨x143, hcl144, hm⟩ := bindS hm
          refine t_do rfl (u_callW0 _ call63 rfl (fun w ho => cGuardWithin _ [] s1.Of 0 1000000 x143 hcl144) (fun _ _ _ h => h.2.symm)) ?_
          rintro _ _ ⟨⟨_, rfl, _⟩, rfl⟩
          rcases Bool.eq_false_or_eq_true x143 with hc145 | hc145
          ·
            rw [if_pos hc145] at hm
            refine t_resp 22 rfl (v' := .bool true) (by rw [hc145] <;> rfl) ?_
            refine t_yes 19 rfl rfl rfl ?_
            refine t_st rfl (st_not_t rfl) ?_
            refine t_st rfl (st_pick_f rfl rfl) ?_
            refine t_st rfl (st_move rfl) ?_
            refine t_yes 25 rfl rfl rfl ?_
            refine t_st rfl (st_field rfl fld36_4) ?_
            refine t_yes 25 rfl rfl rfl ?_
            refine t_st rfl (st_load 0 rfl one3 rfl rfl) ?_
            refine t_yes 25 rfl rfl rfl ?_
            obtain ⟨x146, hcl147, hm⟩ := bindS hm
            refine t_do rfl (u_callW0 _ call63 rfl (fun w ho => cGuardWithin _ [] s1.End 0 20000000 x146 hcl147) (fun _ _ _ h => h.2.symm)) ?_
            rintro _ _ ⟨⟨_, rfl, _⟩, rfl⟩
            rcases Bool.eq_false_or_eq_true x146 with hc148 | hc148
            ·
              rw [if_pos hc148] at hm
              refine t_resp 28 rfl (v' := .bool true) (by rw [hc148] <;> rfl) ?_
              refine t_yes 25 rfl rfl rfl ?_
              refine t_st rfl (st_not_t rfl) ?_
              refine t_st rfl (st_pick_f rfl rfl) ?_
              refine t_st rfl (st_move rfl) ?_
              refine t_yes 31 rfl rfl rfl ?_
              refine t_st rfl (st_field rfl fld36_5) ?_
              refine t_yes 31 rfl rfl rfl ?_
              refine t_st rfl (st_load 0 rfl one3 rfl rfl) ?_
              refine t_yes 31 rfl rfl rfl ?_
              obtain ⟨x149, hcl150, hm⟩ := bindS hm
              refine t_do rfl (u_callW0 _ call63 rfl (fun w ho => cGuardWithin _ [] s1.At 0 20000000 x149 hcl150) (fun _ _ _ h => h.2.symm)) ?_
              rintro _ _ ⟨⟨_, rfl, _⟩, rfl⟩
              rcases Bool.eq_false_or_eq_true x149 with hc151 | hc151
              ·
                rw [if_pos hc151] at hm
                refine t_resp 34 rfl (v' := .bool true) (by rw [hc151] <;> rfl) ?_
                refine t_yes 31 rfl rfl rfl ?_
                refine t_st rfl (st_not_t rfl) ?_
                refine t_st rfl (st_pick_f rfl rfl) ?_
                refine t_st rfl (st_move rfl) ?_
                refine t_yes 37 rfl rfl rfl ?_
                refine t_st rfl (st_field rfl fld36_6) ?_
                refine t_yes 37 rfl rfl rfl ?_
                refine t_st rfl (st_load 0 rfl one3 rfl rfl) ?_
                refine t_yes 37 rfl rfl rfl ?_
                obtain ⟨x152, hcl153, hm⟩ := bindS hm
                refine t_do rfl (u_callW0 _ call63 rfl (fun w ho => cGuardWithin _ [] s1.Speed 0 6000 x152 hcl153) (fun _ _ _ h => h.2.symm)) ?_
                rintro _ _ ⟨⟨_, rfl, _⟩, rfl⟩
                rcases Bool.eq_false_or_eq_true x152 with hc154 | hc154
                ·
                  rw [if_pos hc154] at hm
                  refine t_resp 40 rfl (v' := .bool true) (by rw [hc154] <;> rfl) ?_
                  refine t_yes 37 rfl rfl rfl ?_
                  refine t_st rfl (st_not_t rfl) ?_
                  refine t_st rfl (st_pick_f rfl rfl) ?_
                  refine t_st rfl (st_move rfl) ?_
                  refine t_yes 43 rfl rfl rfl ?_
                  refine t_st rfl (st_field rfl fld36_7) ?_
                  refine t_yes 43 rfl rfl rfl ?_
                  refine t_st rfl (st_load 0 rfl one3 rfl rfl) ?_
                  refine t_yes 43 rfl rfl rfl ?_
                  obtain ⟨x155, hcl156, hm⟩ := bindS hm
                  refine t_do rfl (u_callW0 _ call63 rfl (fun w ho => cGuardWithin _ [] s1.Sent 0 28800 x155 hcl156) (fun _ _ _ h => h.2.symm)) ?_
                  rintro _ _ ⟨⟨_, rfl, _⟩, rfl⟩
                  refine t_yes 43 rfl rfl rfl ?_
                  refine t_st rfl (st_not rfl) ?_
                  refine t_st rfl (st_pick_f rfl rfl) ?_
                  refine t_st rfl (st_assign rfl) ?_
                  refine t_nil ?_
                  obtain rfl := some1 hm
                  exact x_join (e' := [(1, .pointer (some ⟨g109, 0, none⟩)), (8, .bool (!x155))]) (hp' := (g109, Cl 36 [.int .i64 (s1.Kind), .int .i64 (s1.Session), .int .i64 (s1.No), .int .i64 (s1.Of), .int .i64 (s1.End), .int .i64 (s1.At), .int .i64 (s1.Speed), .int .i64 (s1.Sent)]) :: R) ⟨rfl, rfl, trivial⟩ (.cons_cons _ (.refl _)) ⟨rfl, rfl, (Base.Le.refl _)⟩
                ·
                  rw [if_neg (fun hh => Bool.noConfusion (hh.symm.trans hc154))] at hm
                  refine t_resp 40 rfl (v' := .bool false) (by rw [hc154] <;> rfl) ?_
                  refine t_yes 37 rfl rfl rfl ?_
                  refine t_st rfl (st_not_f rfl) ?_
                  refine t_st rfl (st_pick_f rfl rfl) ?_
                  refine t_st rfl (st_move rfl) ?_
                  refine t_no 43 rfl rfl rfl rfl rfl ?_
                  refine t_no 43 rfl rfl rfl rfl rfl ?_
                  refine t_no 43 rfl rfl rfl rfl rfl ?_
                  refine t_no 43 rfl rfl rfl rfl rfl ?_
                  refine t_st rfl (st_pick_t rfl rfl) ?_
                  refine t_st rfl (st_assign rfl) ?_
                  refine t_nil ?_
                  obtain rfl := some1 hm
                  exact x_join (e' := [(1, .pointer (some ⟨g109, 0, none⟩)), (8, .bool (true))]) (hp' := (g109, Cl 36 [.int .i64 (s1.Kind), .int .i64 (s1.Session), .int .i64 (s1.No), .int .i64 (s1.Of), .int .i64 (s1.End), .int .i64 (s1.At), .int .i64 (s1.Speed), .int .i64 (s1.Sent)]) :: R) ⟨rfl, rfl, trivial⟩ (.cons_cons _ (.refl _)) ⟨rfl, rfl, (Base.Le.refl _)⟩
              ·
                rw [if_neg (fun hh => Bool.noConfusion (hh.symm.trans hc151))] at hm
                refine t_resp 34 rfl (v' := .bool false) (by rw [hc151] <;> rfl) ?_
                refine t_yes 31 rfl rfl rfl ?_
                refine t_st rfl (st_not_f rfl) ?_
                refine t_st rfl (st_pick_f rfl rfl) ?_
                refine t_st rfl (st_move rfl) ?_
                refine t_no 37 rfl rfl rfl rfl rfl ?_
                refine t_no 37 rfl rfl rfl rfl rfl ?_
                refine t_no 37 rfl rfl rfl rfl rfl ?_
                refine t_no 37 rfl rfl rfl rfl rfl ?_
                refine t_st rfl (st_pick_t rfl rfl) ?_
                refine t_st rfl (st_move rfl) ?_
                refine t_no 43 rfl rfl rfl rfl rfl ?_
                refine t_no 43 rfl rfl rfl rfl rfl ?_
                refine t_no 43 rfl rfl rfl rfl rfl ?_
                refine t_no 43 rfl rfl rfl rfl rfl ?_
                refine t_st rfl (st_pick_t rfl rfl) ?_
                refine t_st rfl (st_assign rfl) ?_
                refine t_nil ?_
                obtain rfl := some1 hm
                exact x_join (e' := [(1, .pointer (some ⟨g109, 0, none⟩)), (8, .bool (true))]) (hp' := (g109, Cl 36 [.int .i64 (s1.Kind), .int .i64 (s1.Session), .int .i64 (s1.No), .int .i64 (s1.Of), .int .i64 (s1.End), .int .i64 (s1.At), .int .i64 (s1.Speed), .int .i64 (s1.Sent)]) :: R) ⟨rfl, rfl, trivial⟩ (.cons_cons _ (.refl _)) ⟨rfl, rfl, (Base.Le.refl _)⟩
            ·
              rw [if_neg (fun hh => Bool.noConfusion (hh.symm.trans hc148))] at hm
              refine t_resp 28 rfl (v' := .bool false) (by rw [hc148] <;> rfl) ?_
              refine t_yes 25 rfl rfl rfl ?_
              refine t_st rfl (st_not_f rfl) ?_
              refine t_st rfl (st_pick_f rfl rfl) ?_
              refine t_st rfl (st_move rfl) ?_
              refine t_no 31 rfl rfl rfl rfl rfl ?_
              refine t_no 31 rfl rfl rfl rfl rfl ?_
              refine t_no 31 rfl rfl rfl rfl rfl ?_
              refine t_no 31 rfl rfl rfl rfl rfl ?_
              refine t_st rfl (st_pick_t rfl rfl) ?_
              refine t_st rfl (st_move rfl) ?_
              refine t_no 37 rfl rfl rfl rfl rfl ?_
              refine t_no 37 rfl rfl rfl rfl rfl ?_
              refine t_no 37 rfl rfl rfl rfl rfl ?_
              refine t_no 37 rfl rfl rfl rfl rfl ?_
              refine t_st rfl (st_pick_t rfl rfl) ?_
              refine t_st rfl (st_move rfl) ?_
              refine t_no 43 rfl rfl rfl rfl rfl ?_
              refine t_no 43 rfl rfl rfl rfl rfl ?_
              refine t_no 43 rfl rfl rfl rfl rfl ?_
              refine t_no 43 rfl rfl rfl rfl rfl ?_
              refine t_st rfl (st_pick_t rfl rfl) ?_
              refine t_st rfl (st_assign rfl) ?_
              refine t_nil ?_
              obtain rfl := some1 hm
              exact x_join (e' := [(1, .pointer (some ⟨g109, 0, none⟩)), (8, .bool (true))]) (hp' := (g109, Cl 36 [.int .i64 (s1.Kind), .int .i64 (s1.Session), .int .i64 (s1.No), .int .i64 (s1.Of), .int .i64 (s1.End), .int .i64 (s1.At), .int .i64 (s1.Speed), .int .i64 (s1.Sent)]) :: R) ⟨rfl, rfl, trivial⟩ (.cons_cons _ (.refl _)) ⟨rfl, rfl, (Base.Le.refl _)⟩
          ·
            rw [if_neg (fun hh => Bool.noConfusion (hh.symm.trans hc145))] at hm
            refine t_resp 22 rfl (v' := .bool false) (by rw [hc145] <;> rfl) ?_
            refine t_yes 19 rfl rfl rfl ?_
            refine t_st rfl (st_not_f rfl) ?_
            refine t_st rfl (st_pick_f rfl rfl) ?_
            refine t_st rfl (st_move rfl) ?_
            refine t_no 25 rfl rfl rfl rfl rfl ?_
            refine t_no 25 rfl rfl rfl rfl rfl ?_
            refine t_no 25 rfl rfl rfl rfl rfl ?_
            refine t_no 25 rfl rfl rfl rfl rfl ?_
            refine t_st rfl (st_pick_t rfl rfl) ?_
            refine t_st rfl (st_move rfl) ?_
            refine t_no 31 rfl rfl rfl rfl rfl ?_
            refine t_no 31 rfl rfl rfl rfl rfl ?_
            refine t_no 31 rfl rfl rfl rfl rfl ?_
            refine t_no 31 rfl rfl rfl rfl rfl ?_
            refine t_st rfl (st_pick_t rfl rfl) ?_
            refine t_st rfl (st_move rfl) ?_
            refine t_no 37 rfl rfl rfl rfl rfl ?_
            refine t_no 37 rfl rfl rfl rfl rfl ?_
            refine t_no 37 rfl rfl rfl rfl rfl ?_
            refine t_no 37 rfl rfl rfl rfl rfl ?_
            refine t_st rfl (st_pick_t rfl rfl) ?_
            refine t_st rfl (st_move rfl) ?_
            refine t_no 43 rfl rfl rfl rfl rfl ?_
            refine t_no 43 rfl rfl rfl rfl rfl ?_
            refine t_no 43 rfl rfl rfl rfl rfl ?_
            refine t_no 43 rfl rfl rfl rfl rfl ?_
            refine t_st rfl (st_pick_t rfl rfl) ?_
            refine t_st rfl (st_assign rfl) ?_
            refine t_nil ?_
            obtain rfl := some1 hm
            exact x_join (e' := [(1, .pointer (some ⟨g109, 0, none⟩)), (8, .bool (true))]) (hp' := (g109, Cl 36 [.int .i64 (s1.Kind), .int .i64 (s1.Session), .int .i64 (s1.No), .int .i64 (s1.Of), .int .i64 (s1.End), .int .i64 (s1.At), .int .i64 (s1.Speed), .int .i64 (s1.Sent)]) :: R) ⟨rfl, rfl, trivial⟩ (.cons_cons _ (.refl _)) ⟨rfl, rfl, (Base.Le.refl _)⟩
        ·
          rw [if_neg (fun hh => Bool.noConfusion (hh.symm.trans hc142))] at hm
          refine t_resp 16 rfl (v' := .bool false) (by rw [hc142] <;> rfl) ?_
          refine t_yes 13 rfl rfl rfl ?_
          refine t_st rfl (st_not_f rfl) ?_
          refine t_st rfl (st_pick_f rfl rfl) ?_
          refine t_st rfl (st_move rfl) ?_
          refine t_no 19 rfl rfl rfl rfl rfl ?_
          refine t_no 19 rfl rfl rfl rfl rfl ?_
          refine t_no 19 rfl rfl rfl rfl rfl ?_
          refine t_no 19 rfl rfl rfl rfl rfl ?_
          refine t_st rfl (st_pick_t rfl rfl) ?_
          refine t_st rfl (st_move rfl) ?_
          refine t_no 25 rfl rfl rfl rfl rfl ?_
          refine t_no 25 rfl rfl rfl rfl rfl ?_
          refine t_no 25 rfl rfl rfl rfl rfl ?_
          refine t_no 25 rfl rfl rfl rfl rfl ?_
          refine t_st rfl (st_pick_t rfl rfl) ?_
          refine t_st rfl (st_move rfl) ?_
          refine t_no 31 rfl rfl rfl rfl rfl ?_
          refine t_no 31 rfl rfl rfl rfl rfl ?_
          refine t_no 31 rfl rfl rfl rfl rfl ?_
          refine t_no 31 rfl rfl rfl rfl rfl ?_
          refine t_st rfl (st_pick_t rfl rfl) ?_
          refine t_st rfl (st_move rfl) ?_
          refine t_no 37 rfl rfl rfl rfl rfl ?_
          refine t_no 37 rfl rfl rfl rfl rfl ?_
          refine t_no 37 rfl rfl rfl rfl rfl ?_
          refine t_no 37 rfl rfl rfl rfl rfl ?_
          refine t_st rfl (st_pick_t rfl rfl) ?_
          refine t_st rfl (st_move rfl) ?_
          refine t_no 43 rfl rfl rfl rfl rfl ?_
          refine t_no 43 rfl rfl rfl rfl rfl ?_
          refine t_no 43 rfl rfl rfl rfl rfl ?_
          refine t_no 43 rfl rfl rfl rfl rfl ?_
          refine t_st rfl (st_pick_t rfl rfl) ?_
          refine t_st rfl (st_assign rfl) ?_
          refine t_nil ?_
          obtain rfl := some1 hm
          exact x_join (e' := [(1, .pointer (some ⟨g109, 0, none⟩)), (8, .bool (true))]) (hp' := (g109, Cl 36 [.int .i64 (s1.Kind), .int .i64 (s1.Session), .int .i64 (s1.No), .int .i64 (s1.Of), .int .i64 (s1.End), .int .i64 (s1.At), .int .i64 (s1.Speed), .int .i64 (s1.Sent)]) :: R) ⟨rfl, rfl, trivial⟩ (.cons_cons _ (.refl _)) ⟨rfl, rfl, (Base.Le.refl _)⟩
      ·
        rw [if_neg (fun hh => Bool.noConfusion (hh.symm.trans hc139))] at hm
        refine t_resp 11 rfl (v' := .bool false) (by rw [hc139] <;> rfl) ?_
        refine t_st rfl (st_not_f rfl) ?_
        refine t_st rfl (st_move rfl) ?_
        refine t_no 13 rfl rfl rfl rfl rfl ?_
        refine t_no 13 rfl rfl rfl rfl rfl ?_
        refine t_no 13 rfl rfl rfl rfl rfl ?_
        refine t_no 13 rfl rfl rfl rfl rfl ?_
        refine t_st rfl (st_pick_t rfl rfl) ?_
        refine t_st rfl (st_move rfl) ?_
        refine t_no 19 rfl rfl rfl rfl rfl ?_
        refine t_no 19 rfl rfl rfl rfl rfl ?_
        refine t_no 19 rfl rfl rfl rfl rfl ?_
        refine t_no 19 rfl rfl rfl rfl rfl ?_
        refine t_st rfl (st_pick_t rfl rfl) ?_
        refine t_st rfl (st_move rfl) ?_
        refine t_no 25 rfl rfl rfl rfl rfl ?_
        refine t_no 25 rfl rfl rfl rfl rfl ?_
        refine t_no 25 rfl rfl rfl rfl rfl ?_
        refine t_no 25 rfl rfl rfl rfl rfl ?_
        refine t_st rfl (st_pick_t rfl rfl) ?_
        refine t_st rfl (st_move rfl) ?_
        refine t_no 31 rfl rfl rfl rfl rfl ?_
        refine t_no 31 rfl rfl rfl rfl rfl ?_
        refine t_no 31 rfl rfl rfl rfl rfl ?_
        refine t_no 31 rfl rfl rfl rfl rfl ?_
        refine t_st rfl (st_pick_t rfl rfl) ?_
        refine t_st rfl (st_move rfl) ?_
        refine t_no 37 rfl rfl rfl rfl rfl ?_
        refine t_no 37 rfl rfl rfl rfl rfl ?_
        refine t_no 37 rfl rfl rfl rfl rfl ?_
        refine t_no 37 rfl rfl rfl rfl rfl ?_
        refine t_st rfl (st_pick_t rfl rfl) ?_
        refine t_st rfl (st_move rfl) ?_
        refine t_no 43 rfl rfl rfl rfl rfl ?_
        refine t_no 43 rfl rfl rfl rfl rfl ?_
        refine t_no 43 rfl rfl rfl rfl rfl ?_
        refine t_no 43 rfl rfl rfl rfl rfl ?_
        refine t_st rfl (st_pick_t rfl rfl) ?_
        refine t_st rfl (st_assign rfl) ?_
        refine t_nil ?_
        obtain rfl := some1 hm
        exact x_join (e' := [(1, .pointer (some ⟨g109, 0, none⟩)), (8, .bool (true))]) (hp' := (g109, Cl 36 [.int .i64 (s1.Kind), .int .i64 (s1.Session), .int .i64 (s1.No), .int .i64 (s1.Of), .int .i64 (s1.End), .int .i64 (s1.At), .int .i64 (s1.Speed), .int .i64 (s1.Sent)]) :: R) ⟨rfl, rfl, trivial⟩ (.cons_cons _ (.refl _)) ⟨rfl, rfl, (Base.Le.refl _)⟩
    ·
      rintro b133 _ _ ⟨rfl, rfl, hle134⟩
      have hm := hk136
      refine c_cond _ rfl (fun hc157 => ?_) (fun hc157 => ?_)
      ·
        rw [if_pos hc157] at hm
        refine c_seq ?_
        refine c_region ?_
        refine t_st rfl (st_assign rfl) ?_
        refine t_nil ?_
        refine x_then_normal ?_
        refine c_ret ?_
        refine x_block_ret ?_
        refine x_then_ret ?_
        obtain rfl := some1 hm
        exact retM (rs := [.tmp 2]) [.int .i64 (2)] hle134 (by decide) rfl ⟨rfl, trivial⟩ rfl (hp' := R) (.cons _ (.refl _)) ⟨rfl, rfl⟩
      ·
        rw [if_neg (fun hh => Bool.noConfusion (hh.symm.trans hc157))] at hm
        obtain ⟨x186, hj187, hk187⟩ := bindS hm
        refine c_join (fun b184 e' hp' => [(49, .bool (x186))] = e' ∧ R = hp' ∧ b133.Le b184) ?_ ?_
        ·
          have hm := hj187
          obtain ⟨⟨x201, x202, x203, x204, x205, x206, x207, x208⟩, hcl209, hm⟩ := bindS hm
          have hm := (unc8E hm)
          rcases Bool.eq_false_or_eq_true (!(decide (s1.Kind = x201 ∧ s1.Session = x202 ∧ s1.No = x203 ∧ s1.Of = x204 ∧ s1.End = x205 ∧ s1.At = x206 ∧ s1.Speed = x207 ∧ s1.Sent = x208))) with hc212 | hc212
          ·
            rw [if_neg (of_decide_eq_false (notT hc212))] at hm
            refine D_drawS ((g109, Cl 36 [.int .i64 (s1.Kind), .int .i64 (s1.Session), .int .i64 (s1.No), .int .i64 (s1.Of), .int .i64 (s1.End), .int .i64 (s1.At), .int .i64 (s1.Speed), .int .i64 (s1.Sent)]) :: R) mixed ?_
            refine D_st (Base.Le.refl _) 0 rfl (by kernel_rfl) (by kernel_rfl) (by kernel_rfl) rfl (st_loadD (vs := [_, _, _, _, _, _, _, _]) 0 8 rfl agg36 rfl rfl rfl) (.cons_cons _ (.refl _)) ?_
            refine D_st (Base.Le.refl _) 1 rfl (by kernel_rfl) (by kernel_rfl) (by kernel_rfl) rfl (st_loadD (vs := [_, _, _, _, _, _, _, _]) 0 8 rfl agg36 rfl rfl rfl) (.cons_cons _ (.refl _)) ?_
            refine D_all [2] (by kernel_rfl) rfl ?_
            refine R_callGl (Base.Le.refl _) rfl rfl _ call75 rfl (cGuardPacketUsed _ _ s1 x201 x202 x203 x204 x205 x206 x207 x208 hcl209) ?_ ?_
            ·
              rintro _ b210 _ hle211 ⟨rfl, rfl⟩
              refine ⟨.inr (.cons_cons _ (.refl _)), ?_⟩
              refine D_st hle211 3 rfl (by kernel_rfl) (by kernel_rfl) (by kernel_rfl) rfl (stB (st_neqA (xs := [.int .i64 (s1.Kind), .int .i64 (s1.Session), .int .i64 (s1.No), .int .i64 (s1.Of), .int .i64 (s1.End), .int .i64 (s1.At), .int .i64 (s1.Speed), .int .i64 (s1.Sent)]) (ys := [.int .i64 (x201), .int .i64 (x202), .int .i64 (x203), .int .i64 (x204), .int .i64 (x205), .int .i64 (x206), .int .i64 (x207), .int .i64 (x208)]) (p := s1.Kind = x201 ∧ s1.Session = x202 ∧ s1.No = x203 ∧ s1.Of = x204 ∧ s1.End = x205 ∧ s1.At = x206 ∧ s1.Speed = x207 ∧ s1.Sent = x208) rfl rfl eqt36 ⟨⟨_, rfl⟩, ⟨⟨_, rfl⟩, ⟨⟨_, rfl⟩, ⟨⟨_, rfl⟩, ⟨⟨_, rfl⟩, ⟨⟨_, rfl⟩, ⟨⟨_, rfl⟩, ⟨⟨_, rfl⟩, trivial⟩⟩⟩⟩⟩⟩⟩⟩ ⟨⟨_, rfl⟩, ⟨⟨_, rfl⟩, ⟨⟨_, rfl⟩, ⟨⟨_, rfl⟩, ⟨⟨_, rfl⟩, ⟨⟨_, rfl⟩, ⟨⟨_, rfl⟩, ⟨⟨_, rfl⟩, trivial⟩⟩⟩⟩⟩⟩⟩⟩ (by simp [eqCells, eqCell, Bool.decide_and, beq_dec])) hc212) (.cons_cons _ (.refl _)) ?_
              refine D_st hle211 4 rfl (by kernel_rfl) (by kernel_rfl) (by kernel_rfl) rfl (st_move rfl) (.cons_cons _ (.refl _)) ?_
              refine D_no hle211 5 54 rfl (by kernel_rfl) (by kernel_rfl) (by kernel_rfl) rfl rfl rfl rfl rfl (.cons_cons _ (.refl _)) ?_
              refine D_no hle211 6 54 rfl (by kernel_rfl) (by kernel_rfl) (by kernel_rfl) rfl rfl rfl rfl rfl (.cons_cons _ (.refl _)) ?_
              refine D_no hle211 7 54 rfl (by kernel_rfl) (by kernel_rfl) (by kernel_rfl) rfl rfl rfl rfl rfl (.cons_cons _ (.refl _)) ?_
              refine D_no hle211 8 54 rfl (by kernel_rfl) (by kernel_rfl) (by kernel_rfl) rfl rfl rfl rfl rfl (.cons_cons _ (.refl _)) ?_
              refine D_no hle211 9 58 rfl (by kernel_rfl) (by kernel_rfl) (by kernel_rfl) rfl rfl rfl rfl rfl (.cons_cons _ (.refl _)) ?_
              refine D_no hle211 10 58 rfl (by kernel_rfl) (by kernel_rfl) (by kernel_rfl) rfl rfl rfl rfl rfl (.cons_cons _ (.refl _)) ?_
              refine D_no hle211 11 58 rfl (by kernel_rfl) (by kernel_rfl) (by kernel_rfl) rfl rfl rfl rfl rfl (.cons_cons _ (.refl _)) ?_
              refine D_no hle211 12 54 rfl (by kernel_rfl) (by kernel_rfl) (by kernel_rfl) rfl rfl rfl rfl rfl (.cons_cons _ (.refl _)) ?_
              refine D_st hle211 13 rfl (by kernel_rfl) (by kernel_rfl) (by kernel_rfl) rfl (st_pick_t rfl rfl) (.cons_cons _ (.refl _)) ?_
              refine D_st hle211 14 rfl (by kernel_rfl) (by kernel_rfl) (by kernel_rfl) rfl (st_assign rfl) (.cons_cons _ (.refl _)) ?_
              refine D_done (by kernel_rfl) ?_
              obtain rfl := some1 hm
              exact x_join (e' := [(49, .bool (true))]) (hp' := R) ⟨rfl, trivial⟩ (.cons _ (.refl _)) ⟨rfl, rfl, hle211⟩
            exact R_nil
          ·
            rw [if_pos (of_decide_eq_true (notF hc212))] at hm
            by_cases hc213 : s1.Of = 0
            ·
              rw [if_pos hc213] at hm
              refine D_drawS ((g109, Cl 36 [.int .i64 (s1.Kind), .int .i64 (s1.Session), .int .i64 (s1.No), .int .i64 (s1.Of), .int .i64 (s1.End), .int .i64 (s1.At), .int .i64 (s1.Speed), .int .i64 (s1.Sent)]) :: R) mixed ?_
              refine D_st (Base.Le.refl _) 0 rfl (by kernel_rfl) (by kernel_rfl) (by kernel_rfl) rfl (st_loadD (vs := [_, _, _, _, _, _, _, _]) 0 8 rfl agg36 rfl rfl rfl) (.cons_cons _ (.refl _)) ?_
              refine D_st (Base.Le.refl _) 1 rfl (by kernel_rfl) (by kernel_rfl) (by kernel_rfl) rfl (st_loadD (vs := [_, _, _, _, _, _, _, _]) 0 8 rfl agg36 rfl rfl rfl) (.cons_cons _ (.refl _)) ?_
              refine D_all [2] (by kernel_rfl) rfl ?_
              refine R_callGl (Base.Le.refl _) rfl rfl _ call75 rfl (cGuardPacketUsed _ _ s1 x201 x202 x203 x204 x205 x206 x207 x208 hcl209) ?_ ?_
              ·
                rintro _ b210 _ hle211 ⟨rfl, rfl⟩
                refine ⟨.inr (.cons_cons _ (.refl _)), ?_⟩
                refine D_st hle211 3 rfl (by kernel_rfl) (by kernel_rfl) (by kernel_rfl) rfl (stB (st_neqA (xs := [.int .i64 (s1.Kind), .int .i64 (s1.Session), .int .i64 (s1.No), .int .i64 (s1.Of), .int .i64 (s1.End), .int .i64 (s1.At), .int .i64 (s1.Speed), .int .i64 (s1.Sent)]) (ys := [.int .i64 (x201), .int .i64 (x202), .int .i64 (x203), .int .i64 (x204), .int .i64 (x205), .int .i64 (x206), .int .i64 (x207), .int .i64 (x208)]) (p := s1.Kind = x201 ∧ s1.Session = x202 ∧ s1.No = x203 ∧ s1.Of = x204 ∧ s1.End = x205 ∧ s1.At = x206 ∧ s1.Speed = x207 ∧ s1.Sent = x208) rfl rfl eqt36 ⟨⟨_, rfl⟩, ⟨⟨_, rfl⟩, ⟨⟨_, rfl⟩, ⟨⟨_, rfl⟩, ⟨⟨_, rfl⟩, ⟨⟨_, rfl⟩, ⟨⟨_, rfl⟩, ⟨⟨_, rfl⟩, trivial⟩⟩⟩⟩⟩⟩⟩⟩ ⟨⟨_, rfl⟩, ⟨⟨_, rfl⟩, ⟨⟨_, rfl⟩, ⟨⟨_, rfl⟩, ⟨⟨_, rfl⟩, ⟨⟨_, rfl⟩, ⟨⟨_, rfl⟩, ⟨⟨_, rfl⟩, trivial⟩⟩⟩⟩⟩⟩⟩⟩ (by simp [eqCells, eqCell, Bool.decide_and, beq_dec])) hc212) (.cons_cons _ (.refl _)) ?_
                refine D_st hle211 4 rfl (by kernel_rfl) (by kernel_rfl) (by kernel_rfl) rfl (st_move rfl) (.cons_cons _ (.refl _)) ?_
                refine D_yes hle211 5 54 rfl (by kernel_rfl) (by kernel_rfl) (by kernel_rfl) rfl rfl rfl rfl (st_field rfl fld36_3) (.cons_cons _ (.refl _)) ?_
                refine D_yes hle211 6 54 rfl (by kernel_rfl) (by kernel_rfl) (by kernel_rfl) rfl rfl rfl rfl (st_load 0 rfl one3 rfl rfl) (.cons_cons _ (.refl _)) ?_
                refine D_yes hle211 7 54 rfl (by kernel_rfl) (by kernel_rfl) (by kernel_rfl) rfl rfl rfl rfl (st_eql_t rfl rfl hc213) (.cons_cons _ (.refl _)) ?_
                refine D_yes hle211 8 54 rfl (by kernel_rfl) (by kernel_rfl) (by kernel_rfl) rfl rfl rfl rfl (st_move rfl) (.cons_cons _ (.refl _)) ?_
                refine D_yes hle211 9 58 rfl (by kernel_rfl) (by kernel_rfl) (by kernel_rfl) rfl rfl rfl rfl (st_field rfl fld36_0) (.cons_cons _ (.refl _)) ?_
                refine D_yes hle211 10 58 rfl (by kernel_rfl) (by kernel_rfl) (by kernel_rfl) rfl rfl rfl rfl (st_load 0 rfl one3 rfl rfl) (.cons_cons _ (.refl _)) ?_
                refine D_yes hle211 11 58 rfl (by kernel_rfl) (by kernel_rfl) (by kernel_rfl) rfl rfl rfl rfl (st_geq rfl rfl) (.cons_cons _ (.refl _)) ?_
                refine D_yes hle211 12 54 rfl (by kernel_rfl) (by kernel_rfl) (by kernel_rfl) rfl rfl rfl rfl (st_pick_t rfl rfl) (.cons_cons _ (.refl _)) ?_
                refine D_st hle211 13 rfl (by kernel_rfl) (by kernel_rfl) (by kernel_rfl) rfl (st_pick_f rfl rfl) (.cons_cons _ (.refl _)) ?_
                refine D_st hle211 14 rfl (by kernel_rfl) (by kernel_rfl) (by kernel_rfl) rfl (st_assign rfl) (.cons_cons _ (.refl _)) ?_
                refine D_done (by kernel_rfl) ?_
                obtain rfl := some1 hm
                exact x_join (e' := [(49, .bool (decide (7 ≤ s1.Kind)))]) (hp' := R) ⟨rfl, trivial⟩ (.cons _ (.refl _)) ⟨rfl, rfl, hle211⟩
              exact R_nil
            ·
              rw [if_neg hc213] at hm
              refine D_drawS ((g109, Cl 36 [.int .i64 (s1.Kind), .int .i64 (s1.Session), .int .i64 (s1.No), .int .i64 (s1.Of), .int .i64 (s1.End), .int .i64 (s1.At), .int .i64 (s1.Speed), .int .i64 (s1.Sent)]) :: R) mixed ?_
              refine D_st (Base.Le.refl _) 0 rfl (by kernel_rfl) (by kernel_rfl) (by kernel_rfl) rfl (st_loadD (vs := [_, _, _, _, _, _, _, _]) 0 8 rfl agg36 rfl rfl rfl) (.cons_cons _ (.refl _)) ?_
              refine D_st (Base.Le.refl _) 1 rfl (by kernel_rfl) (by kernel_rfl) (by kernel_rfl) rfl (st_loadD (vs := [_, _, _, _, _, _, _, _]) 0 8 rfl agg36 rfl rfl rfl) (.cons_cons _ (.refl _)) ?_
              refine D_all [2] (by kernel_rfl) rfl ?_
              refine R_callGl (Base.Le.refl _) rfl rfl _ call75 rfl (cGuardPacketUsed _ _ s1 x201 x202 x203 x204 x205 x206 x207 x208 hcl209) ?_ ?_
              ·
                rintro _ b210 _ hle211 ⟨rfl, rfl⟩
                refine ⟨.inr (.cons_cons _ (.refl _)), ?_⟩
                refine D_st hle211 3 rfl (by kernel_rfl) (by kernel_rfl) (by kernel_rfl) rfl (stB (st_neqA (xs := [.int .i64 (s1.Kind), .int .i64 (s1.Session), .int .i64 (s1.No), .int .i64 (s1.Of), .int .i64 (s1.End), .int .i64 (s1.At), .int .i64 (s1.Speed), .int .i64 (s1.Sent)]) (ys := [.int .i64 (x201), .int .i64 (x202), .int .i64 (x203), .int .i64 (x204), .int .i64 (x205), .int .i64 (x206), .int .i64 (x207), .int .i64 (x208)]) (p := s1.Kind = x201 ∧ s1.Session = x202 ∧ s1.No = x203 ∧ s1.Of = x204 ∧ s1.End = x205 ∧ s1.At = x206 ∧ s1.Speed = x207 ∧ s1.Sent = x208) rfl rfl eqt36 ⟨⟨_, rfl⟩, ⟨⟨_, rfl⟩, ⟨⟨_, rfl⟩, ⟨⟨_, rfl⟩, ⟨⟨_, rfl⟩, ⟨⟨_, rfl⟩, ⟨⟨_, rfl⟩, ⟨⟨_, rfl⟩, trivial⟩⟩⟩⟩⟩⟩⟩⟩ ⟨⟨_, rfl⟩, ⟨⟨_, rfl⟩, ⟨⟨_, rfl⟩, ⟨⟨_, rfl⟩, ⟨⟨_, rfl⟩, ⟨⟨_, rfl⟩, ⟨⟨_, rfl⟩, ⟨⟨_, rfl⟩, trivial⟩⟩⟩⟩⟩⟩⟩⟩ (by simp [eqCells, eqCell, Bool.decide_and, beq_dec])) hc212) (.cons_cons _ (.refl _)) ?_
                refine D_st hle211 4 rfl (by kernel_rfl) (by kernel_rfl) (by kernel_rfl) rfl (st_move rfl) (.cons_cons _ (.refl _)) ?_
                refine D_yes hle211 5 54 rfl (by kernel_rfl) (by kernel_rfl) (by kernel_rfl) rfl rfl rfl rfl (st_field rfl fld36_3) (.cons_cons _ (.refl _)) ?_
                refine D_yes hle211 6 54 rfl (by kernel_rfl) (by kernel_rfl) (by kernel_rfl) rfl rfl rfl rfl (st_load 0 rfl one3 rfl rfl) (.cons_cons _ (.refl _)) ?_
                refine D_yes hle211 7 54 rfl (by kernel_rfl) (by kernel_rfl) (by kernel_rfl) rfl rfl rfl rfl (st_eql_f rfl rfl hc213) (.cons_cons _ (.refl _)) ?_
                refine D_yes hle211 8 54 rfl (by kernel_rfl) (by kernel_rfl) (by kernel_rfl) rfl rfl rfl rfl (st_move rfl) (.cons_cons _ (.refl _)) ?_
                refine D_no hle211 9 58 rfl (by kernel_rfl) (by kernel_rfl) (by kernel_rfl) rfl rfl rfl rfl rfl (.cons_cons _ (.refl _)) ?_
                refine D_no hle211 10 58 rfl (by kernel_rfl) (by kernel_rfl) (by kernel_rfl) rfl rfl rfl rfl rfl (.cons_cons _ (.refl _)) ?_
                refine D_no hle211 11 58 rfl (by kernel_rfl) (by kernel_rfl) (by kernel_rfl) rfl rfl rfl rfl rfl (.cons_cons _ (.refl _)) ?_
                refine D_yes hle211 12 54 rfl (by kernel_rfl) (by kernel_rfl) (by kernel_rfl) rfl rfl rfl rfl (st_pick_f rfl rfl) (.cons_cons _ (.refl _)) ?_
                refine D_st hle211 13 rfl (by kernel_rfl) (by kernel_rfl) (by kernel_rfl) rfl (st_pick_f rfl rfl) (.cons_cons _ (.refl _)) ?_
                refine D_st hle211 14 rfl (by kernel_rfl) (by kernel_rfl) (by kernel_rfl) rfl (st_assign rfl) (.cons_cons _ (.refl _)) ?_
                refine D_done (by kernel_rfl) ?_
                obtain rfl := some1 hm
                exact x_join (e' := [(49, .bool (false))]) (hp' := R) ⟨rfl, trivial⟩ (.cons _ (.refl _)) ⟨rfl, rfl, hle211⟩
              exact R_nil
        ·
          rintro b184 _ _ ⟨rfl, rfl, hle185⟩
          have hm := hk187
          refine c_cond _ rfl (fun hc214 => ?_) (fun hc214 => ?_)
          ·
            rw [if_pos hc214] at hm
            refine c_seq ?_
            refine c_region ?_
            refine t_st rfl (st_assign rfl) ?_
            refine t_nil ?_
            refine x_then_normal ?_
            refine c_ret ?_
            refine x_block_ret ?_
            refine x_then_ret ?_
            obtain rfl := some1 hm
            exact retM (rs := [.tmp 2]) [.int .i64 (1)] (hle134.trans hle185) (by decide) rfl ⟨rfl, trivial⟩ rfl (hp' := R) (.refl _) ⟨rfl, rfl⟩
          ·
            rw [if_neg (fun hh => Bool.noConfusion (hh.symm.trans hc214))] at hm
            refine c_skip ?_
            refine x_block_normal ?_
            refine x_then_normal ?_
            refine c_seq ?_
            refine c_region ?_
            refine t_st rfl (st_assign rfl) ?_
            refine t_nil ?_
            refine x_then_normal ?_
            refine c_ret ?_
            obtain rfl := some1 hm
            exact retM (rs := [.tmp 2]) [.int .i64 (0)] (hle134.trans hle185) (by decide) rfl ⟨rfl, trivial⟩ rfl (hp' := R) (.refl _) ⟨rfl, rfl⟩

set_option maxRecDepth 20000 in
theorem cGuardUnpack (b : Base) (R : Hp) (hG : GLo 2 3 b.w) (x1 : ByteArray) (x370 : Int) (x371 : Int) (x372 : Int) (x373 : Int) (x374 : Int) (x375 : Int) (x376 : Int) (x377 : Int) (x378 : Int) (hm : mGuardUnpack x1 = some (x370, x371, x372, x373, x374, x375, x376, x377, x378)) :
    CallsG Tryd.prog 20 [.string (x1)] b (R) (fun v b' hp' => .tuple #[.agg #[.int .i64 (x370), .int .i64 (x371), .int .i64 (x372), .int .i64 (x373), .int .i64 (x374), .int .i64 (x375), .int .i64 (x376), .int .i64 (x377)], .int .i64 (x378)] = v ∧ R = hp') := by
  refine fn_enterG 54 Tryd.func20 rfl Tryd.ntmps20 rfl ?_
  unfold mGuardUnpack at hm
  refine c_seq ?_
  refine c_region ?_
  refine t_do rfl (u_alloc [.int .i64 0, .int .i64 0, .int .i64 0, .int .i64 0, .int .i64 0, .int .i64 0, .int .i64 0, .int .i64 0] zero36 rfl) ?_
  rintro _ _ ⟨g379, rfl, rfl⟩
  refine t_st rfl (st_assign rfl) ?_
  refine t_nil ?_
  refine x_then_normal ?_
  refine c_seq ?_
  refine c_region ?_
  refine t_st rfl (st_move rfl) ?_
  obtain ⟨l380, hcl381, hm⟩ := bindS hm
  refine t_callG _ rfl call55 rfl (cStringsSplit _ _ x1 (ByteArray.mk #[32]) l380 hcl381) ?_
  rintro _ b382 _ hle383 ⟨A384, c385, hs386, rfl, rfl, h387⟩
  refine t_in1 [] [_] hs386 R rfl ?_
  refine t_frz [_] hs386 R rfl ?_
  intro b388 hle389 hz390
  have h391 := OS.frz (l := l380) h387 hle389.cells hz390
  obtain ⟨⟨l392, x393⟩, hcl394, hm⟩ := bindS hm
  have hm := (unc2E hm)
  refine t_callG _ rfl call54 rfl (cLineNumbers _ _ (hG.le (hle383.trans hle389)) l380 A384 c385 h391 l392 x393 hcl394) ?_
  rintro _ b395 _ hle396 ⟨A397, c398, rfl, rfl, h399, h400⟩
  refine t_st rfl (st_move rfl) ?_
  refine t_st rfl (st_extract rfl rfl) ?_
  refine t_st rfl (st_extract rfl rfl) ?_
  refine t_st rfl (st_assign rfl) ?_
  refine t_st rfl (st_assign rfl) ?_
  refine t_nil ?_
  refine x_then_normal ?_
  refine c_seq ?_
  obtain ⟨x404, hj405, hk405⟩ := bindS hm
  refine c_join (fun b402 e' hp' => [(2, .pointer (some ⟨g379, 0, none⟩)), (4, .slice A397 (l392).length c398), (20, .bool (x404))] = e' ∧ (g379, Cl 36 [.int .i64 (0), .int .i64 (0), .int .i64 (0), .int .i64 (0), .int .i64 (0), .int .i64 (0), .int .i64 (0), .int .i64 (0)]) :: R = hp' ∧ b395.Le b402) ?_ ?_
  ·
    have hm := hj405
    refine c_region ?_
    refine t_st rfl (st_move rfl) ?_
    rcases Bool.eq_false_or_eq_true x393 with hc406 | hc406
    ·
      rw [if_pos hc406] at hm
      refine t_resp 14 rfl (v' := .bool true) (by rw [hc406] <;> rfl) ?_
      refine t_st rfl (st_not_t rfl) ?_
      refine t_st rfl (st_move rfl) ?_
      refine t_yes 16 rfl rfl rfl ?_
      refine t_st rfl (st_move rfl) ?_
      refine t_yes 16 rfl rfl rfl ?_
      refine t_st rfl (st_len rfl sl24) ?_
      refine t_yes 16 rfl rfl rfl ?_
      refine t_st rfl (st_neq rfl rfl) ?_
      refine t_st rfl (st_pick_f rfl rfl) ?_
      refine t_nil ?_
      obtain rfl := some1 hm
      exact x_join (e' := [(2, .pointer (some ⟨g379, 0, none⟩)), (4, .slice A397 (l392).length c398), (20, .bool (decide ((l392.length : Int) ≠ 8)))]) (hp' := (g379, Cl 36 [.int .i64 (0), .int .i64 (0), .int .i64 (0), .int .i64 (0), .int .i64 (0), .int .i64 (0), .int .i64 (0), .int .i64 (0)]) :: R) ⟨rfl, rfl, rfl, trivial⟩ (.cons_cons _ (.refl _)) ⟨rfl, rfl, (Base.Le.refl _)⟩
    ·
      rw [if_neg (fun hh => Bool.noConfusion (hh.symm.trans hc406))] at hm
      refine t_resp 14 rfl (v' := .bool false) (by rw [hc406] <;> rfl) ?_
      refine t_st rfl (st_not_f rfl) ?_
      refine t_st rfl (st_move rfl) ?_
      refine t_no 16 rfl rfl rfl rfl rfl ?_
      refine t_no 16 rfl rfl rfl rfl rfl ?_
      refine t_no 16 rfl rfl rfl rfl rfl ?_
      refine t_st rfl (st_pick_t rfl rfl) ?_
      refine t_nil ?_
      obtain rfl := some1 hm
      exact x_join (e' := [(2, .pointer (some ⟨g379, 0, none⟩)), (4, .slice A397 (l392).length c398), (20, .bool (true))]) (hp' := (g379, Cl 36 [.int .i64 (0), .int .i64 (0), .int .i64 (0), .int .i64 (0), .int .i64 (0), .int .i64 (0), .int .i64 (0), .int .i64 (0)]) :: R) ⟨rfl, rfl, rfl, trivial⟩ (.cons_cons _ (.refl _)) ⟨rfl, rfl, (Base.Le.refl _)⟩
  ·
    rintro b402 _ _ ⟨rfl, rfl, hle403⟩
    have hm := hk405
    refine c_cond _ rfl (fun hc407 => ?_) (fun hc407 => ?_)
    ·
      rw [if_pos hc407] at hm
      refine c_seq ?_
      refine c_region ?_
      refine t_st rfl (st_build (v := .agg #[.int .i64 (0), .int .i64 (0), .int .i64 (0), .int .i64 (0), .int .i64 (0), .int .i64 (0), .int .i64 (0), .int .i64 (0)]) [] rfl (fun _ => by kernel_rfl)) ?_
      refine t_do rfl (u_storeN (vs := [_, _, _, _, _, _, _, _]) 0 8 rfl rfl rfl siz36 rfl (by intro u hu; simp only [List.mem_cons, List.not_mem_nil, or_false] at hu; rcases hu with rfl | rfl | rfl | rfl | rfl | rfl | rfl | rfl <;> rfl) rfl (by simp)) ?_
      rintro _ _ rfl
      refine t_st rfl (st_assign rfl) ?_
      refine t_nil ?_
      refine x_then_normal ?_
      refine c_ret ?_
      refine x_then_ret ?_
      obtain ⟨rfl, rfl, rfl, rfl, rfl, rfl, rfl, rfl, rfl⟩ := some9 hm
      exact retM (rs := [.cell 2 36, .tmp 3]) [.agg #[.int .i64 (0), .int .i64 (0), .int .i64 (0), .int .i64 (0), .int .i64 (0), .int .i64 (0), .int .i64 (0), .int .i64 (0)], .int .i64 (10)] (hle383.trans (hle389.trans (hle396.trans hle403))) (by decide) rfl ⟨⟨_, rfl, fun w ho => cell_agg (vs := [_, _, _, _, _, _, _, _]) 0 8 agg36 rfl rfl rfl w ho⟩, ⟨rfl, trivial⟩⟩ rfl (hp' := R) (.cons _ (.refl _)) ⟨rfl, rfl⟩
    ·
      rw [if_neg (fun hh => Bool.noConfusion (hh.symm.trans hc407))] at hm
      refine c_skip ?_
      refine x_then_normal ?_
      obtain ⟨⟨x573, x574, x575, x576, x577, x578, x579, x580⟩, hj581, hk581⟩ := bindS hm
      refine c_join (fun b570 e' hp' => ∃ (g572 : Nat), [(2, .pointer (some ⟨g379, 0, none⟩)), (6, .pointer (some ⟨g572, 0, none⟩))] = e' ∧ (g379, Cl 36 [.int .i64 (0), .int .i64 (0), .int .i64 (0), .int .i64 (0), .int .i64 (0), .int .i64 (0), .int .i64 (0), .int .i64 (0)]) :: (g572, Cl 36 [.int .i64 (x573), .int .i64 (x574), .int .i64 (x575), .int .i64 (x576), .int .i64 (x577), .int .i64 (x578), .int .i64 (x579), .int .i64 (x580)]) :: R = hp' ∧ b402.Le b570) ?_ ?_
      ·
        have hm := hj581
        obtain ⟨x663, h664, hm⟩ := bindS hm
        obtain ⟨x673, h674, hm⟩ := bindS hm
        obtain ⟨x683, h684, hm⟩ := bindS hm
        obtain ⟨x693, h694, hm⟩ := bindS hm
        obtain ⟨x703, h704, hm⟩ := bindS hm
        obtain ⟨x713, h714, hm⟩ := bindS hm
        obtain ⟨x723, h724, hm⟩ := bindS hm
        obtain ⟨x733, h734, hm⟩ := bindS hm
        refine D_drawS ((g379, Cl 36 [.int .i64 (0), .int .i64 (0), .int .i64 (0), .int .i64 (0), .int .i64 (0), .int .i64 (0), .int .i64 (0), .int .i64 (0)]) :: R) mixed ?_
        refine D_st (Base.Le.refl _) 0 rfl (by kernel_rfl) (by kernel_rfl) (by kernel_rfl) rfl (st_move rfl) (.cons_cons _ (.refl _)) ?_
        obtain ⟨j665, hj666, hx667⟩ := idx_some h664
        obtain ⟨cs668, hr669, hcs670, hA671, hlt672⟩ := FZ.get (sz := 1) rfl (by decide) (h399.le hle403) hx667
        obtain rfl := hr669
        refine D_st (Base.Le.refl _) 1 rfl (by kernel_rfl) (by kernel_rfl) (by kernel_rfl) rfl (st_index_old j665 rfl rfl hj666 hlt672 hA671 sl24) (.cons_cons _ (.refl _)) ?_
        refine D_st (Base.Le.refl _) 2 rfl (by kernel_rfl) (by kernel_rfl) (by kernel_rfl) rfl (st_load_old rfl one3 (hcs670 0 _ rfl)) (.cons_cons _ (.refl _)) ?_
        refine D_st (Base.Le.refl _) 3 rfl (by kernel_rfl) (by kernel_rfl) (by kernel_rfl) rfl (st_move rfl) (.cons_cons _ (.refl _)) ?_
        obtain ⟨j675, hj676, hx677⟩ := idx_some h674
        obtain ⟨cs678, hr679, hcs680, hA681, hlt682⟩ := FZ.get (sz := 1) rfl (by decide) (h399.le hle403) hx677
        obtain rfl := hr679
        refine D_st (Base.Le.refl _) 4 rfl (by kernel_rfl) (by kernel_rfl) (by kernel_rfl) rfl (st_index_old j675 rfl rfl hj676 hlt682 hA681 sl24) (.cons_cons _ (.refl _)) ?_
        refine D_st (Base.Le.refl _) 5 rfl (by kernel_rfl) (by kernel_rfl) (by kernel_rfl) rfl (st_load_old rfl one3 (hcs680 0 _ rfl)) (.cons_cons _ (.refl _)) ?_
        refine D_st (Base.Le.refl _) 6 rfl (by kernel_rfl) (by kernel_rfl) (by kernel_rfl) rfl (st_move rfl) (.cons_cons _ (.refl _)) ?_
        obtain ⟨j685, hj686, hx687⟩ := idx_some h684
        obtain ⟨cs688, hr689, hcs690, hA691, hlt692⟩ := FZ.get (sz := 1) rfl (by decide) (h399.le hle403) hx687
        obtain rfl := hr689
        refine D_st (Base.Le.refl _) 7 rfl (by kernel_rfl) (by kernel_rfl) (by kernel_rfl) rfl (st_index_old j685 rfl rfl hj686 hlt692 hA691 sl24) (.cons_cons _ (.refl _)) ?_
        refine D_st (Base.Le.refl _) 8 rfl (by kernel_rfl) (by kernel_rfl) (by kernel_rfl) rfl (st_load_old rfl one3 (hcs690 0 _ rfl)) (.cons_cons _ (.refl _)) ?_
        refine D_st (Base.Le.refl _) 9 rfl (by kernel_rfl) (by kernel_rfl) (by kernel_rfl) rfl (st_move rfl) (.cons_cons _ (.refl _)) ?_
        obtain ⟨j695, hj696, hx697⟩ := idx_some h694
        obtain ⟨cs698, hr699, hcs700, hA701, hlt702⟩ := FZ.get (sz := 1) rfl (by decide) (h399.le hle403) hx697
        obtain rfl := hr699
        refine D_st (Base.Le.refl _) 10 rfl (by kernel_rfl) (by kernel_rfl) (by kernel_rfl) rfl (st_index_old j695 rfl rfl hj696 hlt702 hA701 sl24) (.cons_cons _ (.refl _)) ?_
        refine D_st (Base.Le.refl _) 11 rfl (by kernel_rfl) (by kernel_rfl) (by kernel_rfl) rfl (st_load_old rfl one3 (hcs700 0 _ rfl)) (.cons_cons _ (.refl _)) ?_
        refine D_st (Base.Le.refl _) 12 rfl (by kernel_rfl) (by kernel_rfl) (by kernel_rfl) rfl (st_move rfl) (.cons_cons _ (.refl _)) ?_
        obtain ⟨j705, hj706, hx707⟩ := idx_some h704
        obtain ⟨cs708, hr709, hcs710, hA711, hlt712⟩ := FZ.get (sz := 1) rfl (by decide) (h399.le hle403) hx707
        obtain rfl := hr709
        refine D_st (Base.Le.refl _) 13 rfl (by kernel_rfl) (by kernel_rfl) (by kernel_rfl) rfl (st_index_old j705 rfl rfl hj706 hlt712 hA711 sl24) (.cons_cons _ (.refl _)) ?_
        refine D_st (Base.Le.refl _) 14 rfl (by kernel_rfl) (by kernel_rfl) (by kernel_rfl) rfl (st_load_old rfl one3 (hcs710 0 _ rfl)) (.cons_cons _ (.refl _)) ?_
        refine D_st (Base.Le.refl _) 15 rfl (by kernel_rfl) (by kernel_rfl) (by kernel_rfl) rfl (st_move rfl) (.cons_cons _ (.refl _)) ?_
        obtain ⟨j715, hj716, hx717⟩ := idx_some h714
        obtain ⟨cs718, hr719, hcs720, hA721, hlt722⟩ := FZ.get (sz := 1) rfl (by decide) (h399.le hle403) hx717
        obtain rfl := hr719
        refine D_st (Base.Le.refl _) 16 rfl (by kernel_rfl) (by kernel_rfl) (by kernel_rfl) rfl (st_index_old j715 rfl rfl hj716 hlt722 hA721 sl24) (.cons_cons _ (.refl _)) ?_
        refine D_st (Base.Le.refl _) 17 rfl (by kernel_rfl) (by kernel_rfl) (by kernel_rfl) rfl (st_load_old rfl one3 (hcs720 0 _ rfl)) (.cons_cons _ (.refl _)) ?_
        refine D_st (Base.Le.refl _) 18 rfl (by kernel_rfl) (by kernel_rfl) (by kernel_rfl) rfl (st_move rfl) (.cons_cons _ (.refl _)) ?_
        obtain ⟨j725, hj726, hx727⟩ := idx_some h724
        obtain ⟨cs728, hr729, hcs730, hA731, hlt732⟩ := FZ.get (sz := 1) rfl (by decide) (h399.le hle403) hx727
        obtain rfl := hr729
        refine D_st (Base.Le.refl _) 19 rfl (by kernel_rfl) (by kernel_rfl) (by kernel_rfl) rfl (st_index_old j725 rfl rfl hj726 hlt732 hA731 sl24) (.cons_cons _ (.refl _)) ?_
        refine D_st (Base.Le.refl _) 20 rfl (by kernel_rfl) (by kernel_rfl) (by kernel_rfl) rfl (st_load_old rfl one3 (hcs730 0 _ rfl)) (.cons_cons _ (.refl _)) ?_
        refine D_st (Base.Le.refl _) 21 rfl (by kernel_rfl) (by kernel_rfl) (by kernel_rfl) rfl (st_move rfl) (.cons_cons _ (.refl _)) ?_
        obtain ⟨j735, hj736, hx737⟩ := idx_some h734
        obtain ⟨cs738, hr739, hcs740, hA741, hlt742⟩ := FZ.get (sz := 1) rfl (by decide) (h399.le hle403) hx737
        obtain rfl := hr739
        refine D_st (Base.Le.refl _) 22 rfl (by kernel_rfl) (by kernel_rfl) (by kernel_rfl) rfl (st_index_old j735 rfl rfl hj736 hlt742 hA741 sl24) (.cons_cons _ (.refl _)) ?_
        refine D_st (Base.Le.refl _) 23 rfl (by kernel_rfl) (by kernel_rfl) (by kernel_rfl) rfl (st_load_old rfl one3 (hcs740 0 _ rfl)) (.cons_cons _ (.refl _)) ?_
        refine D_st (Base.Le.refl _) 24 rfl (by kernel_rfl) (by kernel_rfl) (by kernel_rfl) rfl (st_build (v := .agg #[.int .i64 (x663), .int .i64 (x673), .int .i64 (x683), .int .i64 (x693), .int .i64 (x703), .int .i64 (x713), .int .i64 (x723), .int .i64 (x733)]) [(0, .int .i64 (x663)), (1, .int .i64 (x673)), (2, .int .i64 (x683)), (3, .int .i64 (x693)), (4, .int .i64 (x703)), (5, .int .i64 (x713)), (6, .int .i64 (x723)), (7, .int .i64 (x733))] rfl (fun _ => by kernel_rfl)) (.cons_cons _ (.refl _)) ?_
        refine D_all [25] (by kernel_rfl) rfl ?_
        refine R_do (Base.Le.refl _) rfl rfl (u_alloc [.int .i64 0, .int .i64 0, .int .i64 0, .int .i64 0, .int .i64 0, .int .i64 0, .int .i64 0, .int .i64 0] zero36 rfl) ?_ ?_
        ·
          rintro _ _ ⟨g743, rfl, rfl⟩
          refine ⟨.inr (.cons _ (.cons_cons _ (.refl _))), ?_⟩
          refine D_all [26] (by kernel_rfl) rfl ?_
          refine R_do (Base.Le.refl _) rfl rfl (u_storeN (vs := [_, _, _, _, _, _, _, _]) 0 8 rfl rfl rfl siz36 rfl (by intro u hu; simp only [List.mem_cons, List.not_mem_nil, or_false] at hu; rcases hu with rfl | rfl | rfl | rfl | rfl | rfl | rfl | rfl <;> rfl) rfl (by simp)) ?_ ?_
          ·
            rintro _ _ rfl
            refine ⟨.inl (by kernel_rfl), ?_⟩
            refine D_done (by kernel_rfl) ?_
            obtain ⟨rfl, rfl, rfl, rfl, rfl, rfl, rfl, rfl⟩ := some8 hm
            refine x_pullb 1 rfl ?_
            exact x_join (e' := [(2, .pointer (some ⟨g379, 0, none⟩)), (6, .pointer (some ⟨g743, 0, none⟩))]) (hp' := (g379, Cl 36 [.int .i64 (0), .int .i64 (0), .int .i64 (0), .int .i64 (0), .int .i64 (0), .int .i64 (0), .int .i64 (0), .int .i64 (0)]) :: (g743, Cl 36 [.int .i64 (x663), .int .i64 (x673), .int .i64 (x683), .int .i64 (x693), .int .i64 (x703), .int .i64 (x713), .int .i64 (x723), .int .i64 (x733)]) :: R) ⟨rfl, rfl, trivial⟩ (.cons_cons _ (.cons_cons _ (.refl _))) ⟨g743, rfl, rfl, (Base.Le.refl _)⟩
          exact R_nil
        exact R_nil
      ·
        rintro b570 _ _ ⟨g572, rfl, rfl, hle571⟩
        have hm := (unc8E hk581)
        refine c_seq ?_
        refine c_seq ?_
        refine c_region ?_
        refine t_st rfl (st_loadD (vs := [_, _, _, _, _, _, _, _]) 1 8 rfl agg36 rfl rfl rfl) ?_
        obtain ⟨x744, hcl745, hm⟩ := bindS hm
        refine t_do rfl (u_callW0 _ call51 rfl (fun w ho => cGuardPacketCheck _ [] (⟨x573, x574, x575, x576, x577, x578, x579, x580⟩ : GuardPacket) x744 hcl745) (fun _ _ _ h => h.2.symm)) ?_
        rintro _ _ ⟨⟨_, rfl, _⟩, rfl⟩
        refine t_st rfl (st_assign rfl) ?_
        refine t_nil ?_
        refine x_then_normal ?_
        refine c_seq ?_
        refine c_region ?_
        refine t_st rfl (st_move rfl) ?_
        refine t_st rfl (st_neq rfl rfl) ?_
        refine t_nil ?_
        refine x_then_normal ?_
        refine c_cond _ rfl (fun hc746 => ?_) (fun hc746 => ?_)
        ·
          rw [if_pos (of_decide_eq_true hc746)] at hm
          refine c_seq ?_
          refine c_region ?_
          refine t_st rfl (st_build (v := .agg #[.int .i64 (0), .int .i64 (0), .int .i64 (0), .int .i64 (0), .int .i64 (0), .int .i64 (0), .int .i64 (0), .int .i64 (0)]) [] rfl (fun _ => by kernel_rfl)) ?_
          refine t_st rfl (st_move rfl) ?_
          refine t_do rfl (u_storeN (vs := [_, _, _, _, _, _, _, _]) 0 8 rfl rfl rfl siz36 rfl (by intro u hu; simp only [List.mem_cons, List.not_mem_nil, or_false] at hu; rcases hu with rfl | rfl | rfl | rfl | rfl | rfl | rfl | rfl <;> rfl) rfl (by simp)) ?_
          rintro _ _ rfl
          refine t_st rfl (st_assign rfl) ?_
          refine t_nil ?_
          refine x_then_normal ?_
          refine c_ret ?_
          refine x_then_ret ?_
          obtain ⟨rfl, rfl, rfl, rfl, rfl, rfl, rfl, rfl, rfl⟩ := some9 hm
          exact retM (rs := [.cell 2 36, .tmp 3]) [.agg #[.int .i64 (0), .int .i64 (0), .int .i64 (0), .int .i64 (0), .int .i64 (0), .int .i64 (0), .int .i64 (0), .int .i64 (0)], .int .i64 (x744)] (hle383.trans (hle389.trans (hle396.trans (hle403.trans hle571)))) (by decide) rfl ⟨⟨_, rfl, fun w ho => cell_agg (vs := [_, _, _, _, _, _, _, _]) 0 8 agg36 rfl rfl rfl w ho⟩, ⟨rfl, trivial⟩⟩ rfl (hp' := R) (.cons _ (.cons _ (.refl _))) ⟨rfl, rfl⟩
        ·
          rw [if_neg (of_decide_eq_false hc746)] at hm
          refine c_skip ?_
          refine x_then_normal ?_
          refine c_seq ?_
          refine c_region ?_
          refine t_st rfl (st_loadD (vs := [_, _, _, _, _, _, _, _]) 1 8 rfl agg36 rfl rfl rfl) ?_
          refine t_do rfl (u_storeN (vs := [_, _, _, _, _, _, _, _]) 0 8 rfl rfl rfl siz36 rfl (by intro u hu; simp only [List.mem_cons, List.not_mem_nil, or_false] at hu; rcases hu with rfl | rfl | rfl | rfl | rfl | rfl | rfl | rfl <;> rfl) rfl (by simp)) ?_
          rintro _ _ rfl
          refine t_st rfl (st_assign rfl) ?_
          refine t_nil ?_
          refine x_then_normal ?_
          refine c_ret ?_
          obtain ⟨rfl, rfl, rfl, rfl, rfl, rfl, rfl, rfl, rfl⟩ := some9 hm
          exact retM (rs := [.cell 2 36, .tmp 3]) [.agg #[.int .i64 (x573), .int .i64 (x574), .int .i64 (x575), .int .i64 (x576), .int .i64 (x577), .int .i64 (x578), .int .i64 (x579), .int .i64 (x580)], .int .i64 (0)] (hle383.trans (hle389.trans (hle396.trans (hle403.trans hle571)))) (by decide) rfl ⟨⟨_, rfl, fun w ho => cell_agg (vs := [_, _, _, _, _, _, _, _]) 0 8 agg36 rfl rfl rfl w ho⟩, ⟨rfl, trivial⟩⟩ rfl (hp' := R) (.cons _ (.cons _ (.refl _))) ⟨rfl, rfl⟩

set_option maxRecDepth 20000 in
theorem cFishkeep1AwakeGuard (b : Base) (R : Hp) (hG : GLo 2 3 b.w) (x14 : Bool) (hm : mFishkeep1AwakeGuard = some x14) :
    CallsG Tryd.prog 14 [] b (R) (fun v b' hp' => .bool (x14) = v ∧ R = hp') := by
  refine fn_enterG 9 Tryd.func14 rfl Tryd.ntmps14 rfl ?_
  unfold mFishkeep1AwakeGuard at hm
  refine c_seq ?_
  refine c_region ?_
  refine t_st rfl (st_assign rfl) ?_
  refine t_nil ?_
  refine x_then_normal ?_
  refine c_seq ?_
  refine c_region ?_
  obtain ⟨⟨x15, x16, x17, x18, x19, x20, x21, x22, x23⟩, hcl24, hm⟩ := bindS hm
  have hm := (unc9E hm)
  refine t_callG _ rfl call20 rfl (cGuardUnpack _ _ (hG.le (Base.Le.refl _)) (ByteArray.mk #[]) x15 x16 x17 x18 x19 x20 x21 x22 x23 hcl24) ?_
  rintro _ b25 _ hle26 ⟨rfl, rfl⟩
  refine t_st rfl (st_move rfl) ?_
  refine t_st rfl (st_extract rfl rfl) ?_
  refine t_st rfl (st_extract rfl rfl) ?_
  refine t_do rfl (u_alloc [.int .i64 0, .int .i64 0, .int .i64 0, .int .i64 0, .int .i64 0, .int .i64 0, .int .i64 0, .int .i64 0] zero36 rfl) ?_
  rintro _ _ ⟨g27, rfl, rfl⟩
  refine t_do rfl (u_storeN (vs := [_, _, _, _, _, _, _, _]) 0 8 rfl rfl rfl siz36 rfl (by intro u hu; simp only [List.mem_cons, List.not_mem_nil, or_false] at hu; rcases hu with rfl | rfl | rfl | rfl | rfl | rfl | rfl | rfl <;> rfl) rfl (by simp)) ?_
  rintro _ _ rfl
  refine t_st rfl (st_assign rfl) ?_
  refine t_nil ?_
  refine x_then_normal ?_
  refine c_seq ?_
  refine c_region ?_
  refine t_st rfl (st_move rfl) ?_
  refine t_st rfl (st_neq rfl rfl) ?_
  refine t_st rfl (st_assign rfl) ?_
  refine t_nil ?_
  refine x_then_normal ?_
  refine c_ret ?_
  obtain rfl := some1 hm
  exact retM (rs := [.tmp 0]) [.bool (decide (x23 ≠ 0))] hle26 (by decide) rfl ⟨rfl, trivial⟩ rfl (hp' := R) (.cons _ (.refl _)) ⟨rfl, rfl⟩

set_option maxRecDepth 20000 in
theorem cGuardTelegramCheck (b : Base) (R : Hp) (s1 : GuardTelegram) (x24 : Int) (hm : mGuardTelegramCheck s1 = some x24) :
    CallsG Tryd.prog 48 [.agg #[.int .i64 (s1.Link), .int .i64 (s1.Section), .int .i64 (s1.Away)]] b (R) (fun v b' hp' => .int .i64 (x24) = v ∧ R = hp') := by
  refine fn_enterG 19 Tryd.func48 rfl Tryd.ntmps48 rfl ?_
  unfold mGuardTelegramCheck at hm
  refine c_seq ?_
  refine c_region ?_
  refine t_do rfl (u_box _ rfl rfl) ?_
  rintro _ _ ⟨g25, rfl, rfl⟩
  refine t_st rfl (st_assign rfl) ?_
  refine t_nil ?_
  refine x_then_normal ?_
  refine c_seq ?_
  obtain ⟨x36, hj37, hk37⟩ := bindS hm
  refine c_join (fun b34 e' hp' => [(18, .bool (x36))] = e' ∧ R = hp' ∧ b.Le b34) ?_ ?_
  ·
    have hm := hj37
    refine c_region ?_
    refine t_st rfl (st_field rfl fld23_0) ?_
    refine t_st rfl (st_load 0 rfl one3 rfl rfl) ?_
    obtain ⟨x38, hcl39, hm⟩ := bindS hm
    refine t_do rfl (u_callW0 _ call63 rfl (fun w ho => cGuardWithin _ [] s1.Link 0 89 x38 hcl39) (fun _ _ _ h => h.2.symm)) ?_
    rintro _ _ ⟨⟨_, rfl, _⟩, rfl⟩
    rcases Bool.eq_false_or_eq_true x38 with hc40 | hc40
    ·
      rw [if_pos hc40] at hm
      refine t_resp 5 rfl (v' := .bool true) (by rw [hc40] <;> rfl) ?_
      refine t_st rfl (st_not_t rfl) ?_
      refine t_st rfl (st_move rfl) ?_
      refine t_yes 7 rfl rfl rfl ?_
      refine t_st rfl (st_field rfl fld23_1) ?_
      refine t_yes 7 rfl rfl rfl ?_
      refine t_st rfl (st_load 0 rfl one3 rfl rfl) ?_
      refine t_yes 7 rfl rfl rfl ?_
      obtain ⟨x41, hcl42, hm⟩ := bindS hm
      refine t_do rfl (u_callW0 _ call63 rfl (fun w ho => cGuardWithin _ [] s1.Section 0 59 x41 hcl42) (fun _ _ _ h => h.2.symm)) ?_
      rintro _ _ ⟨⟨_, rfl, _⟩, rfl⟩
      rcases Bool.eq_false_or_eq_true x41 with hc43 | hc43
      ·
        rw [if_pos hc43] at hm
        refine t_resp 10 rfl (v' := .bool true) (by rw [hc43] <;> rfl) ?_
        refine t_yes 7 rfl rfl rfl ?_
        refine t_st rfl (st_not_t rfl) ?_
        refine t_st rfl (st_pick_f rfl rfl) ?_
        refine t_st rfl (st_move rfl) ?_
        refine t_yes 13 rfl rfl rfl ?_
        refine t_st rfl (st_field rfl fld23_2) ?_
        refine t_yes 13 rfl rfl rfl ?_
        refine t_st rfl (st_load 0 rfl one3 rfl rfl) ?_
        refine t_yes 13 rfl rfl rfl ?_
        obtain ⟨x44, hcl45, hm⟩ := bindS hm
        refine t_do rfl (u_callW0 _ call63 rfl (fun w ho => cGuardWithin _ [] s1.Away 0 60000 x44 hcl45) (fun _ _ _ h => h.2.symm)) ?_
        rintro _ _ ⟨⟨_, rfl, _⟩, rfl⟩
        refine t_yes 13 rfl rfl rfl ?_
        refine t_st rfl (st_not rfl) ?_
        refine t_st rfl (st_pick_f rfl rfl) ?_
        refine t_nil ?_
        obtain rfl := some1 hm
        exact x_join (e' := [(18, .bool (!x44))]) (hp' := R) ⟨rfl, trivial⟩ (.cons _ (.refl _)) ⟨rfl, rfl, (Base.Le.refl _)⟩
      ·
        rw [if_neg (fun hh => Bool.noConfusion (hh.symm.trans hc43))] at hm
        refine t_resp 10 rfl (v' := .bool false) (by rw [hc43] <;> rfl) ?_
        refine t_yes 7 rfl rfl rfl ?_
        refine t_st rfl (st_not_f rfl) ?_
        refine t_st rfl (st_pick_f rfl rfl) ?_
        refine t_st rfl (st_move rfl) ?_
        refine t_no 13 rfl rfl rfl rfl rfl ?_
        refine t_no 13 rfl rfl rfl rfl rfl ?_
        refine t_no 13 rfl rfl rfl rfl rfl ?_
        refine t_no 13 rfl rfl rfl rfl rfl ?_
        refine t_st rfl (st_pick_t rfl rfl) ?_
        refine t_nil ?_
        obtain rfl := some1 hm
        exact x_join (e' := [(18, .bool (true))]) (hp' := R) ⟨rfl, trivial⟩ (.cons _ (.refl _)) ⟨rfl, rfl, (Base.Le.refl _)⟩
    ·
      rw [if_neg (fun hh => Bool.noConfusion (hh.symm.trans hc40))] at hm
      refine t_resp 5 rfl (v' := .bool false) (by rw [hc40] <;> rfl) ?_
      refine t_st rfl (st_not_f rfl) ?_
      refine t_st rfl (st_move rfl) ?_
      refine t_no 7 rfl rfl rfl rfl rfl ?_
      refine t_no 7 rfl rfl rfl rfl rfl ?_
      refine t_no 7 rfl rfl rfl rfl rfl ?_
      refine t_no 7 rfl rfl rfl rfl rfl ?_
      refine t_st rfl (st_pick_t rfl rfl) ?_
      refine t_st rfl (st_move rfl) ?_
      refine t_no 13 rfl rfl rfl rfl rfl ?_
      refine t_no 13 rfl rfl rfl rfl rfl ?_
      refine t_no 13 rfl rfl rfl rfl rfl ?_
      refine t_no 13 rfl rfl rfl rfl rfl ?_
      refine t_st rfl (st_pick_t rfl rfl) ?_
      refine t_nil ?_
      obtain rfl := some1 hm
      exact x_join (e' := [(18, .bool (true))]) (hp' := R) ⟨rfl, trivial⟩ (.cons _ (.refl _)) ⟨rfl, rfl, (Base.Le.refl _)⟩
  ·
    rintro b34 _ _ ⟨rfl, rfl, hle35⟩
    have hm := hk37
    refine c_cond _ rfl (fun hc46 => ?_) (fun hc46 => ?_)
    ·
      rw [if_pos hc46] at hm
      refine c_seq ?_
      refine c_region ?_
      refine t_st rfl (st_assign rfl) ?_
      refine t_nil ?_
      refine x_then_normal ?_
      refine c_ret ?_
      refine x_then_ret ?_
      obtain rfl := some1 hm
      exact retM (rs := [.tmp 2]) [.int .i64 (2)] hle35 (by decide) rfl ⟨rfl, trivial⟩ rfl (hp' := R) (.refl _) ⟨rfl, rfl⟩
    ·
      rw [if_neg (fun hh => Bool.noConfusion (hh.symm.trans hc46))] at hm
      refine c_skip ?_
      refine x_then_normal ?_
      refine c_seq ?_
      refine c_region ?_
      refine t_st rfl (st_assign rfl) ?_
      refine t_nil ?_
      refine x_then_normal ?_
      refine c_ret ?_
      obtain rfl := some1 hm
      exact retM (rs := [.tmp 2]) [.int .i64 (0)] hle35 (by decide) rfl ⟨rfl, trivial⟩ rfl (hp' := R) (.refl _) ⟨rfl, rfl⟩

set_option maxRecDepth 20000 in
theorem cGuardSum (b : Base) (R : Hp) (l4 : (List Int)) (A1 : Option Addr) (c2 : Nat) (h3 : FZ (RT.int .u8) b.w A1 c2 l4) (x89 : Int) (hm : mGuardSum l4 = some x89) :
    CallsG Tryd.prog 49 [.slice A1 (l4).length c2] b (R) (fun v b' hp' => .int .i64 (x89) = v ∧ R = hp') := by
  refine fn_enterG 32 Tryd.func49 rfl Tryd.ntmps49 rfl ?_
  unfold mGuardSum at hm
  refine c_seq ?_
  refine c_region ?_
  refine t_st rfl (st_assign rfl) ?_
  refine t_nil ?_
  refine x_then_normal ?_
  refine c_seq ?_
  refine c_region ?_
  refine t_st rfl (st_assign rfl) ?_
  refine t_nil ?_
  refine x_then_normal ?_
  refine c_seq ?_
  refine c_seq ?_
  refine c_region ?_
  refine t_st rfl (st_move rfl) ?_
  refine t_st rfl (st_len rfl sl26) ?_
  refine t_st rfl (st_move rfl) ?_
  refine t_nil ?_
  refine x_then_normal ?_
  refine c_block ?_
  have hb91 := (FZ.bd h3)
  obtain ⟨x145, hl147, hk148⟩ := bindS hm
  refine c_forS (fun k146 => fun x145 => fun b143 e' hp' => [(3, .int .u16 (x145)), (7, .slice A1 (l4).length c2), (8, .int .i64 ((l4.length : Int))), (9, .int .i64 ((k146 : Int)))] = e' ∧ R = hp' ∧ b.Le b143) hl147 (e' := [(3, .int .u16 (65535)), (7, .slice A1 (l4).length c2), (8, .int .i64 ((l4.length : Int))), (9, .int .i64 0)]) (hp' := R) ⟨rfl, rfl, rfl, rfl, trivial⟩ (.refl _) ⟨rfl, rfl, (Base.Le.refl _)⟩ ?_ ?_
  ·
    rintro k146 x145 b143 _ _ oL90 hknL90 ⟨rfl, rfl, hle144⟩ hstepL90
    unfold mGuardSum_L90 at hstepL90
    have hm := hstepL90
    refine c_seq ?_
    refine c_region ?_
    refine t_st rfl (st_lss_t rfl rfl (by omega)) ?_
    refine t_nil ?_
    refine x_then_normal ?_
    refine c_seq ?_
    refine c_cond_t rfl ?_
    refine c_skip ?_
    refine x_then_normal ?_
    refine c_seq ?_
    refine c_block ?_
    refine c_seq ?_
    refine c_region ?_
    obtain ⟨x149, h150, hm⟩ := bindS hm
    obtain ⟨j151, hj152, hx153⟩ := idx_some h150
    obtain ⟨cs154, hr155, hcs156, hA157, hlt158⟩ := FZ.get (sz := 1) rfl (by decide) (h3.le hle144) hx153
    obtain rfl := hr155
    refine t_st rfl (st_index_old j151 rfl rfl hj152 hlt158 hA157 sl26) ?_
    refine t_st rfl (st_load_old rfl one5 (hcs156 0 _ rfl)) ?_
    refine t_st rfl (st_assign rfl) ?_
    refine t_nil ?_
    refine x_then_normal ?_
    refine c_seq ?_
    refine c_region ?_
    refine t_st rfl (st_move rfl) ?_
    refine t_st rfl (st_move rfl) ?_
    refine t_st rfl (st_conv rfl int5_u8 int142_u16) ?_
    obtain ⟨_, h159, hm⟩ := bindS hm
    have h159 := shN_some h159
    refine t_st rfl (st_shl rfl rfl h159) ?_
    refine t_st rfl (st_xor rfl rfl) ?_
    refine t_st rfl (st_assign rfl) ?_
    refine t_nil ?_
    refine x_then_normal ?_
    refine c_seq ?_
    refine c_region ?_
    refine t_st rfl (st_move rfl) ?_
    refine t_nil ?_
    refine x_then_normal ?_
    refine c_block ?_
    obtain ⟨x168, hl170, hk171⟩ := bindS hm
    refine c_forS (fun k169 => fun x168 => fun b166 e' hp' => [(3, .int .u16 (x168)), (7, .slice A1 (l4).length c2), (8, .int .i64 ((l4.length : Int))), (9, .int .i64 ((k146 : Int))), (18, .int .i64 ((k169 : Int)))] = e' ∧ R = hp' ∧ b143.Le b166) hl170 (e' := [(3, .int .u16 (xorI .u16 x145 (shlI .u16 (IntKind.wrap .u16 x149) 8))), (7, .slice A1 (l4).length c2), (8, .int .i64 ((l4.length : Int))), (9, .int .i64 ((k146 : Int))), (18, .int .i64 0)]) (hp' := R) ⟨rfl, rfl, rfl, rfl, rfl, trivial⟩ (.refl _) ⟨rfl, rfl, (Base.Le.refl _)⟩ ?_ ?_
    ·
      rintro k169 x168 b166 _ _ oL160 hknL160 ⟨rfl, rfl, hle167⟩ hstepL160
      unfold mGuardSum_L160 at hstepL160
      have hm := hstepL160
      refine c_seq ?_
      refine c_region ?_
      refine t_st rfl (st_lss_t rfl rfl (by omega)) ?_
      refine t_nil ?_
      refine x_then_normal ?_
      refine c_seq ?_
      refine c_cond_t rfl ?_
      refine c_skip ?_
      refine x_then_normal ?_
      refine c_seq ?_
      refine c_block ?_
      refine c_seq ?_
      refine c_region ?_
      refine t_st rfl (st_move rfl) ?_
      refine t_st rfl (st_and rfl rfl) ?_
      refine t_st rfl (st_neq rfl rfl) ?_
      refine t_st rfl (st_assign rfl) ?_
      refine t_nil ?_
      refine x_then_normal ?_
      refine c_seq ?_
      refine c_region ?_
      refine t_st rfl (st_move rfl) ?_
      obtain ⟨_, h172, hm⟩ := bindS hm
      have h172 := shN_some h172
      refine t_st rfl (st_shl rfl rfl h172) ?_
      refine t_st rfl (st_assign rfl) ?_
      refine t_nil ?_
      refine x_then_normal ?_
      refine c_seq ?_
      refine c_region ?_
      refine t_st rfl (st_move rfl) ?_
      refine t_nil ?_
      refine x_then_normal ?_
      refine c_cond _ rfl (fun hc173 => ?_) (fun hc173 => ?_)
      ·
        rw [if_pos (of_decide_eq_true hc173)] at hm
        refine c_region ?_
        refine t_st rfl (st_move rfl) ?_
        refine t_st rfl (st_xor rfl rfl) ?_
        refine t_st rfl (st_assign rfl) ?_
        refine t_nil ?_
        refine x_block_normal ?_
        refine x_then_normal ?_
        refine c_region ?_
        refine t_st rfl (st_add rfl rfl (by omega)) ?_
        refine t_st rfl (st_move rfl) ?_
        refine t_nil ?_
        obtain rfl := some1 hm
        exact x_againS (e' := [(3, .int .u16 (xorI .u16 (shlI .u16 x168 1) 4129)), (7, .slice A1 (l4).length c2), (8, .int .i64 ((l4.length : Int))), (9, .int .i64 ((k146 : Int))), (18, .int .i64 ((k169 : Int) + 1))]) (hp' := R) ⟨rfl, rfl, rfl, rfl, rfl, trivial⟩ (.refl _) ⟨rfl, rfl, (hle167)⟩
      ·
        rw [if_neg (of_decide_eq_false hc173)] at hm
        refine c_skip ?_
        refine x_block_normal ?_
        refine x_then_normal ?_
        refine c_region ?_
        refine t_st rfl (st_add rfl rfl (by omega)) ?_
        refine t_st rfl (st_move rfl) ?_
        refine t_nil ?_
        obtain rfl := some1 hm
        exact x_againS (e' := [(3, .int .u16 (shlI .u16 x168 1)), (7, .slice A1 (l4).length c2), (8, .int .i64 ((l4.length : Int))), (9, .int .i64 ((k146 : Int))), (18, .int .i64 ((k169 : Int) + 1))]) (hp' := R) ⟨rfl, rfl, rfl, rfl, rfl, trivial⟩ (.refl _) ⟨rfl, rfl, (hle167)⟩
    ·
      rintro b166 _ _ ⟨rfl, rfl, hle167⟩
      have hm := hk171
      refine c_seq ?_
      refine c_region ?_
      refine t_st rfl (st_lss_f rfl rfl (by omega)) ?_
      refine t_nil ?_
      refine x_then_normal ?_
      refine c_seq ?_
      refine c_cond_f rfl ?_
      refine c_exit ?_
      refine x_then_exit ?_
      refine x_then_exit ?_
      refine x_block_out ?_
      refine x_block_normal ?_
      refine x_then_normal ?_
      refine c_region ?_
      refine t_st rfl (st_add rfl rfl (by omega)) ?_
      refine t_st rfl (st_move rfl) ?_
      refine t_nil ?_
      obtain rfl := some1 hm
      exact x_againS (e' := [(3, .int .u16 (x168)), (7, .slice A1 (l4).length c2), (8, .int .i64 ((l4.length : Int))), (9, .int .i64 ((k146 : Int) + 1))]) (hp' := R) ⟨rfl, rfl, rfl, rfl, trivial⟩ (.refl _) ⟨rfl, rfl, ((hle144.trans hle167))⟩
  ·
    rintro b143 _ _ ⟨rfl, rfl, hle144⟩
    have hm := hk148
    refine c_seq ?_
    refine c_region ?_
    refine t_st rfl (st_lss_f rfl rfl (by omega)) ?_
    refine t_nil ?_
    refine x_then_normal ?_
    refine c_seq ?_
    refine c_cond_f rfl ?_
    refine c_exit ?_
    refine x_then_exit ?_
    refine x_then_exit ?_
    refine x_block_out ?_
    refine x_then_normal ?_
    refine c_seq ?_
    refine c_region ?_
    refine t_st rfl (st_move rfl) ?_
    refine t_st rfl (st_conv rfl int142_u16 int3_i64) ?_
    refine t_st rfl (st_assign rfl) ?_
    refine t_nil ?_
    refine x_then_normal ?_
    refine c_ret ?_
    obtain rfl := some1 hm
    exact retM (rs := [.tmp 2]) [.int .i64 (IntKind.wrap .i64 x145)] hle144 (by decide) rfl ⟨rfl, trivial⟩ rfl (hp' := R) (.refl _) ⟨rfl, rfl⟩

set_option maxRecDepth 20000 in
theorem cGuardWrite (b : Base) (R : Hp) (s1 : GuardTelegram) (x25 : Int) (l26 : (List Int)) (hm : mGuardWrite s1 = some (x25, l26)) :
    CallsG Tryd.prog 15 [.agg #[.int .i64 (s1.Link), .int .i64 (s1.Section), .int .i64 (s1.Away)]] b (R) (fun v b' hp' => ∃ (A22 : Option Addr), ∃ (c23 : Nat), ∃ (hs21 : Hp), .tuple #[.slice A22 (l26).length c23, .int .i64 (x25)] = v ∧ (hs21 ++ R) = hp' ∧ OS 5 (OT.fr (RT.int .u8)) b'.w (.slice A22 l26.length c23) l26 hs21) := by
  refine fn_enterG 42 Tryd.func15 rfl Tryd.ntmps15 rfl ?_
  unfold mGuardWrite at hm
  refine c_seq ?_
  refine c_region ?_
  refine t_do rfl (u_box _ rfl rfl) ?_
  rintro _ _ ⟨g27, rfl, rfl⟩
  refine t_st rfl (st_assign rfl) ?_
  refine t_st rfl (st_assign rfl) ?_
  refine t_nil ?_
  refine x_then_normal ?_
  refine c_seq ?_
  refine c_seq ?_
  refine c_region ?_
  refine t_st rfl (st_loadD (vs := [_, _, _]) 0 3 rfl agg23 rfl rfl rfl) ?_
  obtain ⟨x28, hcl29, hm⟩ := bindS hm
  refine t_do rfl (u_callW0 _ call48 rfl (fun w ho => cGuardTelegramCheck _ [] s1 x28 hcl29) (fun _ _ _ h => h.2.symm)) ?_
  rintro _ _ ⟨⟨_, rfl, _⟩, rfl⟩
  refine t_st rfl (st_assign rfl) ?_
  refine t_nil ?_
  refine x_then_normal ?_
  refine c_seq ?_
  refine c_region ?_
  refine t_st rfl (st_move rfl) ?_
  refine t_st rfl (st_neq rfl rfl) ?_
  refine t_nil ?_
  refine x_then_normal ?_
  refine c_cond _ rfl (fun hc30 => ?_) (fun hc30 => ?_)
  ·
    rw [if_pos (of_decide_eq_true hc30)] at hm
    refine c_seq ?_
    refine c_region ?_
    refine t_st rfl (st_move rfl) ?_
    refine t_st rfl (st_assign rfl) ?_
    refine t_st rfl (st_assign rfl) ?_
    refine t_nil ?_
    refine x_then_normal ?_
    refine c_ret ?_
    refine x_then_ret ?_
    obtain ⟨rfl, rfl⟩ := some2 hm
    exact retM (rs := [.tmp 2, .tmp 3]) [.slice none 0 0, .int .i64 (x28)] (Base.Le.refl _) (by decide) rfl ⟨rfl, ⟨rfl, trivial⟩⟩ rfl (hp' := ([] ++ R)) (.cons _ (.refl _)) ⟨none, 0, [], rfl, rfl, OS.nil⟩
  ·
    rw [if_neg (of_decide_eq_false hc30)] at hm
    refine c_skip ?_
    refine x_then_normal ?_
    refine c_seq ?_
    refine c_region ?_
    refine t_st rfl (st_field rfl fld23_0) ?_
    refine t_st rfl (st_load 0 rfl one3 rfl rfl) ?_
    obtain ⟨_, h31, hm⟩ := bindS hm
    have h31 := shN_some h31
    refine t_st rfl (st_shr rfl rfl h31) ?_
    refine t_st rfl (st_conv rfl int3_i64 int5_u8) ?_
    refine t_st rfl (st_field rfl fld23_0) ?_
    refine t_st rfl (st_load 0 rfl one3 rfl rfl) ?_
    refine t_st rfl (st_conv rfl int3_i64 int5_u8) ?_
    refine t_st rfl (st_field rfl fld23_1) ?_
    refine t_st rfl (st_load 0 rfl one3 rfl rfl) ?_
    refine t_st rfl (st_conv rfl int3_i64 int5_u8) ?_
    refine t_st rfl (st_field rfl fld23_2) ?_
    refine t_st rfl (st_load 0 rfl one3 rfl rfl) ?_
    obtain ⟨_, h32, hm⟩ := bindS hm
    have h32 := shN_some h32
    refine t_st rfl (st_shr rfl rfl h32) ?_
    refine t_st rfl (st_conv rfl int3_i64 int5_u8) ?_
    refine t_st rfl (st_field rfl fld23_2) ?_
    refine t_st rfl (st_load 0 rfl one3 rfl rfl) ?_
    refine t_st rfl (st_conv rfl int3_i64 int5_u8) ?_
    refine t_st rfl (st_build (v := .agg #[.int .u8 (82), .int .u8 (IntKind.wrap .u8 (shrI .i64 s1.Link 8)), .int .u8 (IntKind.wrap .u8 s1.Link), .int .u8 (IntKind.wrap .u8 s1.Section), .int .u8 (IntKind.wrap .u8 (shrI .i64 s1.Away 8)), .int .u8 (IntKind.wrap .u8 s1.Away), .int .u8 (0), .int .u8 (0)]) [(0, .int .u8 (82)), (1, .int .u8 (IntKind.wrap .u8 (shrI .i64 s1.Link 8))), (2, .int .u8 (IntKind.wrap .u8 s1.Link)), (3, .int .u8 (IntKind.wrap .u8 s1.Section)), (4, .int .u8 (IntKind.wrap .u8 (shrI .i64 s1.Away 8))), (5, .int .u8 (IntKind.wrap .u8 s1.Away))] rfl (fun _ => by kernel_rfl)) ?_
    refine t_do rfl (u_alloc [.int .u8 0, .int .u8 0, .int .u8 0, .int .u8 0, .int .u8 0, .int .u8 0, .int .u8 0, .int .u8 0] zero106 rfl) ?_
    rintro _ _ ⟨g33, rfl, rfl⟩
    refine t_do rfl (u_storeN (vs := [_, _, _, _, _, _, _, _]) 0 8 rfl rfl rfl siz106 rfl (by intro u hu; simp only [List.mem_cons, List.not_mem_nil, or_false] at hu; rcases hu with rfl | rfl | rfl | rfl | rfl | rfl | rfl | rfl <;> rfl) rfl (by simp)) ?_
    rintro _ _ rfl
    refine t_nil ?_
    refine x_then_normal ?_
    refine c_seq ?_
    refine c_region ?_
    refine t_st rfl (st_slcarr 6 rfl (.inr ⟨_, _, _, rfl, rfl, rfl⟩) (by decide) (by decide) arr106) ?_
    obtain ⟨x34, hcl35, hm⟩ := bindS hm
    refine t_do rfl (u_callW0 _ call49 rfl (fun w ho => cGuardSum _ [] [82, IntKind.wrap .u8 (shrI .i64 s1.Link 8), IntKind.wrap .u8 s1.Link, IntKind.wrap .u8 s1.Section, IntKind.wrap .u8 (shrI .i64 s1.Away 8), IntKind.wrap .u8 s1.Away] (some ⟨g33, 0, none⟩) 8 (FZ.arr (i := 0) (css := [[.int .u8 (82)], [.int .u8 (IntKind.wrap .u8 (shrI .i64 s1.Link 8))], [.int .u8 (IntKind.wrap .u8 s1.Link)], [.int .u8 (IntKind.wrap .u8 s1.Section)], [.int .u8 (IntKind.wrap .u8 (shrI .i64 s1.Away 8))], [.int .u8 (IntKind.wrap .u8 s1.Away)]]) (rest := [.int .u8 (0), .int .u8 (0)]) ho rfl rfl ⟨rfl, ⟨rfl, ⟨rfl, ⟨rfl, ⟨rfl, ⟨rfl, trivial⟩⟩⟩⟩⟩⟩ ⟨Nat.le_of_ble_eq_true rfl, Nat.le_of_ble_eq_true rfl⟩) x34 hcl35) (fun _ _ _ h => h.2.symm)) ?_
    rintro _ _ ⟨⟨_, rfl, _⟩, rfl⟩
    refine t_st rfl (st_assign rfl) ?_
    refine t_nil ?_
    refine x_then_normal ?_
    refine c_seq ?_
    refine c_region ?_
    refine t_st rfl (st_move rfl) ?_
    obtain ⟨_, h36, hm⟩ := bindS hm
    have h36 := shN_some h36
    refine t_st rfl (st_shr rfl rfl h36) ?_
    refine t_st rfl (st_conv rfl int3_i64 int5_u8) ?_
    refine t_st rfl (st_move rfl) ?_
    refine t_st rfl (st_conv rfl int3_i64 int5_u8) ?_
    refine t_st rfl (st_baddr 6 rfl rfl rfl (by decide) arr106 rfl) ?_
    refine t_do rfl (u_store 0 rfl rfl siz5 rfl rfl (by simp)) ?_
    rintro _ _ rfl
    refine t_st rfl (st_baddr 7 rfl rfl rfl (by decide) arr106 rfl) ?_
    refine t_do rfl (u_store 0 rfl rfl siz5 rfl rfl (by simp)) ?_
    rintro _ _ rfl
    refine t_nil ?_
    refine x_then_normal ?_
    refine c_seq ?_
    refine c_region ?_
    refine t_do rfl (u_bslice (el := 5) [] [] rfl (fun _ => by kernel_rfl)) ?_
    rintro _ _ ⟨g37, rfl, rfl⟩
    refine t_st rfl (st_slcarr 8 rfl (.inl ⟨rfl, rfl⟩) (by decide) (by decide) arr106) ?_
    refine t_seg 0 [_, _] R rfl rfl ?_
    have h39 : OS 5 (OT.fr (RT.int .u8)) b.w (.slice (some ⟨g37, 0, none⟩) 0 0) [] [(g37, Cl 5 [])] := OS.lit [] rfl trivial rfl (by decide)
    obtain ⟨_, h40, hm⟩ := bindS hm
    have h40 := room_some h40
    refine t_do rfl (u_appOS (r := (RT.int .u8)) (l := []) [_, _] R [[.int .u8 (82)], [.int .u8 (IntKind.wrap .u8 (shrI .i64 s1.Link 8))], [.int .u8 (IntKind.wrap .u8 s1.Link)], [.int .u8 (IntKind.wrap .u8 s1.Section)], [.int .u8 (IntKind.wrap .u8 (shrI .i64 s1.Away 8))], [.int .u8 (IntKind.wrap .u8 s1.Away)], [.int .u8 (IntKind.wrap .u8 (shrI .i64 x34 8))], [.int .u8 (IntKind.wrap .u8 x34)]] [82, IntKind.wrap .u8 (shrI .i64 s1.Link 8), IntKind.wrap .u8 s1.Link, IntKind.wrap .u8 s1.Section, IntKind.wrap .u8 (shrI .i64 s1.Away 8), IntKind.wrap .u8 s1.Away, IntKind.wrap .u8 (shrI .i64 x34 8), IntKind.wrap .u8 x34] rfl (by decide) sl26 inf5 rfl rfl rfl rfl h39 rfl (fun w ho => Rd.own (i := 0) ho rfl) ⟨rfl, ⟨rfl, ⟨rfl, ⟨rfl, ⟨rfl, ⟨rfl, ⟨rfl, ⟨rfl, trivial⟩⟩⟩⟩⟩⟩⟩⟩ h40) ?_
    rintro _ _ ⟨hs41, rfl, h42⟩
    obtain ⟨A43, c44, rfl, _⟩ := h42.form
    refine t_st rfl (st_assign rfl) ?_
    refine t_st rfl (st_assign rfl) ?_
    refine t_nil ?_
    refine x_then_normal ?_
    refine c_ret ?_
    obtain ⟨rfl, rfl⟩ := some2 hm
    exact retM (rs := [.tmp 2, .tmp 3]) [.slice A43 ([82, IntKind.wrap .u8 (shrI .i64 s1.Link 8), IntKind.wrap .u8 s1.Link, IntKind.wrap .u8 s1.Section, IntKind.wrap .u8 (shrI .i64 s1.Away 8), IntKind.wrap .u8 s1.Away, IntKind.wrap .u8 (shrI .i64 x34 8), IntKind.wrap .u8 x34]).length c44, .int .i64 (0)] (Base.Le.refl _) (by decide) rfl ⟨rfl, ⟨rfl, trivial⟩⟩ rfl (hp' := (hs41 ++ R)) (.cons _ (.cons _ (sub_app hs41 (.refl _)))) ⟨A43, c44, hs41, rfl, rfl, h42⟩

end Go.Proofs.YtljcafilceachaaDoor
