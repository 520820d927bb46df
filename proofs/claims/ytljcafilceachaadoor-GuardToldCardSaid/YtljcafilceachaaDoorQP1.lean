/- Contracts: the code computes its model (part 1). -/
import Derived.Test.YtljcafilceachaaDoorQT
import Derived.Test.YtljcafilceachaaDoorSh2
set_option linter.unusedVariables false
set_option linter.unusedSimpArgs false
namespace Go.Proofs.YtljcafilceachaaDoor
open Go.RowKit Go.Fp

set_option maxRecDepth 20000 in
theorem cStringsliteIndexByte (b : Base) (R : Hp) (x1 : ByteArray) (x2 : Int) (x3 : Int) (hm : mStringsliteIndexByte x1 x2 = some x3) :
    CallsG Tryd.prog 141 [.string (x1), .int .u8 (x2)] b (R) (fun v b' hp' => .int .i64 (x3) = v ∧ R = hp') := by
  refine fn_enterG 8 Tryd.func141 rfl Tryd.ntmps141 rfl ?_
  unfold mStringsliteIndexByte at hm
  refine c_seq ?_
  refine c_region ?_
  refine t_st rfl (st_assign rfl) ?_
  refine t_nil ?_
  refine x_then_normal ?_
  refine c_seq ?_
  refine c_region ?_
  refine t_st rfl (st_move rfl) ?_
  refine t_st rfl (st_move rfl) ?_
  refine t_st rfl (st_extern ext151_1 ext151_2 ext151_3 ext151_4 ext151_5 rfl (run_sFirst _ _)) ?_
  refine t_st rfl (st_assign rfl) ?_
  refine t_nil ?_
  refine x_then_normal ?_
  refine c_ret ?_
  obtain rfl := some1 hm
  exact retM (rs := [.tmp 4]) [.int .i64 ((sFirst x1 x2))] (Base.Le.refl _) (by decide) rfl ⟨rfl, trivial⟩ rfl (hp' := R) (.refl _) ⟨rfl, rfl⟩

set_option maxRecDepth 20000 in
theorem cStringsliteIndex (b : Base) (R : Hp) (x1 : ByteArray) (x2 : ByteArray) (x16 : Int) (hm : mStringsliteIndex x1 x2 = some x16) :
    CallsG Tryd.prog 126 [.string (x1), .string (x2)] b (R) (fun v b' hp' => .int .i64 (x16) = v ∧ R = hp') := by
  refine fn_enterG 143 Tryd.func126 rfl Tryd.ntmps126 rfl ?_
  unfold mStringsliteIndex at hm
  refine c_seq ?_
  refine c_region ?_
  refine t_st rfl (st_assign rfl) ?_
  refine t_nil ?_
  refine x_then_normal ?_
  refine c_seq ?_
  refine c_region ?_
  refine t_st rfl (st_move rfl) ?_
  refine t_st rfl (st_slen rfl str9) ?_
  refine t_st rfl (st_assign rfl) ?_
  refine t_nil ?_
  refine x_then_normal ?_
  refine c_seq ?_
  refine c_block ?_
  obtain ⟨x20, hj21, hk21⟩ := bindS hm
  refine c_join (fun b18 e' hp' => [(0, .string (x1)), (1, .string (x2)), (5, .int .i64 ((x2.size : Int))), (16, .bool (x20))] = e' ∧ R = hp' ∧ b.Le b18) ?_ ?_
  ·
    have hm := hj21
    refine c_region ?_
    refine t_st rfl (st_move rfl) ?_
    refine t_bool rfl (st_eql rfl rfl) (fun hc22 => ?_) (fun hc22 => ?_)
    ·
      rw [if_pos hc22] at hm
      refine t_st rfl (st_move rfl) ?_
      refine t_no 19 rfl rfl rfl rfl rfl ?_
      refine t_no 19 rfl rfl rfl rfl rfl ?_
      refine t_no 19 rfl rfl rfl rfl rfl ?_
      refine t_st rfl (st_pick_t rfl rfl) ?_
      refine t_st rfl (st_assign rfl) ?_
      refine t_nil ?_
      obtain rfl := some1 hm
      exact x_join (e' := [(0, .string (x1)), (1, .string (x2)), (5, .int .i64 ((x2.size : Int))), (16, .bool (true))]) (hp' := R) ⟨rfl, rfl, rfl, rfl, trivial⟩ (.refl _) ⟨rfl, rfl, (Base.Le.refl _)⟩
    ·
      rw [if_neg hc22] at hm
      refine t_st rfl (st_move rfl) ?_
      refine t_yes 19 rfl rfl rfl ?_
      refine t_st rfl (st_move rfl) ?_
      refine t_yes 19 rfl rfl rfl ?_
      refine t_st rfl (st_move rfl) ?_
      refine t_yes 19 rfl rfl rfl ?_
      refine t_st rfl (st_seql rfl rfl) ?_
      refine t_st rfl (st_pick_f rfl rfl) ?_
      refine t_st rfl (st_assign rfl) ?_
      refine t_nil ?_
      obtain rfl := some1 hm
      exact x_join (e' := [(0, .string (x1)), (1, .string (x2)), (5, .int .i64 ((x2.size : Int))), (16, .bool (sEq x2 x1))]) (hp' := R) ⟨rfl, rfl, rfl, rfl, trivial⟩ (.refl _) ⟨rfl, rfl, (Base.Le.refl _)⟩
  ·
    rintro b18 _ _ ⟨rfl, rfl, hle19⟩
    have hm := hk21
    refine c_cond _ rfl (fun hc23 => ?_) (fun hc23 => ?_)
    ·
      rw [if_pos hc23] at hm
      refine c_seq ?_
      refine c_region ?_
      refine t_st rfl (st_assign rfl) ?_
      refine t_nil ?_
      refine x_then_normal ?_
      refine c_ret ?_
      refine x_block_ret ?_
      refine x_then_ret ?_
      obtain rfl := some1 hm
      exact retM (rs := [.tmp 4]) [.int .i64 (0)] hle19 (by decide) rfl ⟨rfl, trivial⟩ rfl (hp' := R) (.refl _) ⟨rfl, rfl⟩
    ·
      rw [if_neg (fun hh => Bool.noConfusion (hh.symm.trans hc23))] at hm
      refine c_seq ?_
      refine c_region ?_
      refine t_st rfl (st_move rfl) ?_
      refine t_st rfl (st_eql rfl rfl) ?_
      refine t_st rfl (st_assign rfl) ?_
      refine t_nil ?_
      refine x_then_normal ?_
      refine c_cond _ rfl (fun hc24 => ?_) (fun hc24 => ?_)
      ·
        rw [if_pos (of_decide_eq_true hc24)] at hm
        refine c_seq ?_
        refine c_region ?_
        refine t_st rfl (st_move rfl) ?_
        refine t_st rfl (st_move rfl) ?_
        obtain ⟨x25, h26, hm⟩ := bindS hm
        refine t_st rfl (st_sidx rfl rfl h26 str9) ?_
        obtain ⟨x27, hcl28, hm⟩ := bindS hm
        refine t_do rfl (u_callW0 _ call141 rfl (fun w ho => cStringsliteIndexByte _ [] x1 x25 x27 hcl28) (fun _ _ _ h => h.2.symm)) ?_
        rintro _ _ ⟨⟨_, rfl, _⟩, rfl⟩
        refine t_st rfl (st_assign rfl) ?_
        refine t_nil ?_
        refine x_then_normal ?_
        refine c_ret ?_
        refine x_block_ret ?_
        refine x_then_ret ?_
        obtain rfl := some1 hm
        exact retM (rs := [.tmp 4]) [.int .i64 (x27)] hle19 (by decide) rfl ⟨rfl, trivial⟩ rfl (hp' := R) (.refl _) ⟨rfl, rfl⟩
      ·
        rw [if_neg (of_decide_eq_false hc24)] at hm
        refine c_seq ?_
        refine c_region ?_
        refine t_st rfl (st_move rfl) ?_
        refine t_st rfl (st_move rfl) ?_
        refine t_st rfl (st_slen rfl str9) ?_
        refine t_st rfl (st_geq rfl rfl) ?_
        refine t_st rfl (st_assign rfl) ?_
        refine t_nil ?_
        refine x_then_normal ?_
        refine c_cond _ rfl (fun hc29 => ?_) (fun hc29 => ?_)
        ·
          rw [if_pos (of_decide_eq_true hc29)] at hm
          refine c_seq ?_
          refine c_region ?_
          refine t_st rfl (st_assign rfl) ?_
          refine t_nil ?_
          refine x_then_normal ?_
          refine c_ret ?_
          refine x_block_ret ?_
          refine x_then_ret ?_
          obtain rfl := some1 hm
          exact retM (rs := [.tmp 4]) [.int .i64 ((-1))] hle19 (by decide) rfl ⟨rfl, trivial⟩ rfl (hp' := R) (.refl _) ⟨rfl, rfl⟩
        ·
          rw [if_neg (of_decide_eq_false hc29)] at hm
          refine c_seq ?_
          refine c_region ?_
          refine t_st rfl (st_move rfl) ?_
          cases hm

set_option maxRecDepth 20000 in
theorem cStringsIndex (b : Base) (R : Hp) (x1 : ByteArray) (x2 : ByteArray) (x5 : Int) (hm : mStringsIndex x1 x2 = some x5) :
    CallsG Tryd.prog 107 [.string (x1), .string (x2)] b (R) (fun v b' hp' => .int .i64 (x5) = v ∧ R = hp') := by
  refine fn_enterG 8 Tryd.func107 rfl Tryd.ntmps107 rfl ?_
  unfold mStringsIndex at hm
  refine c_seq ?_
  refine c_region ?_
  refine t_st rfl (st_assign rfl) ?_
  refine t_nil ?_
  refine x_then_normal ?_
  refine c_seq ?_
  refine c_region ?_
  refine t_st rfl (st_move rfl) ?_
  refine t_st rfl (st_move rfl) ?_
  obtain ⟨x6, hcl7, hm⟩ := bindS hm
  refine t_do rfl (u_callW0 _ call126 rfl (fun w ho => cStringsliteIndex _ [] x1 x2 x6 hcl7) (fun _ _ _ h => h.2.symm)) ?_
  rintro _ _ ⟨⟨_, rfl, _⟩, rfl⟩
  refine t_st rfl (st_assign rfl) ?_
  refine t_nil ?_
  refine x_then_normal ?_
  refine c_ret ?_
  obtain rfl := some1 hm
  exact retM (rs := [.tmp 4]) [.int .i64 (x6)] (Base.Le.refl _) (by decide) rfl ⟨rfl, trivial⟩ rfl (hp' := R) (.refl _) ⟨rfl, rfl⟩

set_option maxRecDepth 20000 in
theorem cStringsCount (b : Base) (R : Hp) (x1 : ByteArray) (x2 : ByteArray) (x35 : Int) (hm : mStringsCount x1 x2 = some x35) :
    CallsG Tryd.prog 106 [.string (x1), .string (x2)] b (R) (fun v b' hp' => .int .i64 (x35) = v ∧ R = hp') := by
  refine fn_enterG 34 Tryd.func106 rfl Tryd.ntmps106 rfl ?_
  unfold mStringsCount at hm
  refine c_seq ?_
  refine c_region ?_
  refine t_st rfl (st_assign rfl) ?_
  refine t_nil ?_
  refine x_then_normal ?_
  refine c_seq ?_
  refine c_seq ?_
  refine c_region ?_
  refine t_st rfl (st_move rfl) ?_
  refine t_st rfl (st_slen rfl str9) ?_
  refine t_st rfl (st_eql rfl rfl) ?_
  refine t_nil ?_
  refine x_then_normal ?_
  refine c_cond _ rfl (fun hc36 => ?_) (fun hc36 => ?_)
  ·
    rw [if_pos (of_decide_eq_true hc36)] at hm
    refine c_seq ?_
    refine c_region ?_
    refine t_st rfl (st_move rfl) ?_
    cases hm
  ·
    rw [if_neg (of_decide_eq_false hc36)] at hm
    refine c_skip ?_
    refine x_then_normal ?_
    refine c_seq ?_
    refine c_seq ?_
    refine c_region ?_
    refine t_st rfl (st_move rfl) ?_
    refine t_st rfl (st_slen rfl str9) ?_
    refine t_st rfl (st_eql rfl rfl) ?_
    refine t_nil ?_
    refine x_then_normal ?_
    refine c_cond _ rfl (fun hc37 => ?_) (fun hc37 => ?_)
    ·
      rw [if_pos (of_decide_eq_true hc37)] at hm
      refine c_seq ?_
      refine c_region ?_
      refine t_st rfl (st_move rfl) ?_
      refine t_st rfl (st_move rfl) ?_
      obtain ⟨x38, h39, hm⟩ := bindS hm
      refine t_st rfl (st_sidx rfl rfl h39 str9) ?_
      refine t_st rfl (st_extern ext125_1 ext125_2 ext125_3 ext125_4 ext125_5 rfl (run_sCount _ _)) ?_
      refine t_st rfl (st_assign rfl) ?_
      refine t_nil ?_
      refine x_then_normal ?_
      refine c_ret ?_
      refine x_then_ret ?_
      obtain rfl := some1 hm
      exact retM (rs := [.tmp 4]) [.int .i64 ((sCount x1 x38))] (Base.Le.refl _) (by decide) rfl ⟨rfl, trivial⟩ rfl (hp' := R) (.refl _) ⟨rfl, rfl⟩
    ·
      rw [if_neg (of_decide_eq_false hc37)] at hm
      refine c_skip ?_
      refine x_then_normal ?_
      refine c_seq ?_
      refine c_region ?_
      refine t_st rfl (st_assign rfl) ?_
      refine t_nil ?_
      refine x_then_normal ?_
      refine c_block ?_
      refine c_loopM (unc2 fun x59 x60 => fun b57 e' hp' => [(0, .string (x59)), (1, .string (x2)), (5, .int .i64 (x60))] = e' ∧ R = hp' ∧ b.Le b57) hm (e' := [(0, .string (x1)), (1, .string (x2)), (5, .int .i64 (0))]) (hp' := R) ⟨rfl, rfl, rfl, trivial⟩ (.refl _) ⟨rfl, rfl, (Base.Le.refl _)⟩ ?_
      rintro ⟨x59, x60⟩ b57 _ _ oL40 ⟨rfl, rfl, hle58⟩ hstepL40 houtL40
      unfold mStringsCount_L40 at hstepL40
      have hm := (unc2E hstepL40)
      refine c_block ?_
      refine c_seq ?_
      refine c_region ?_
      refine t_st rfl (st_move rfl) ?_
      refine t_st rfl (st_move rfl) ?_
      obtain ⟨x61, hcl62, hm⟩ := bindS hm
      refine t_do rfl (u_callW0 _ call107 rfl (fun w ho => cStringsIndex _ [] x59 x2 x61 hcl62) (fun _ _ _ h => h.2.symm)) ?_
      rintro _ _ ⟨⟨_, rfl, _⟩, rfl⟩
      refine t_st rfl (st_assign rfl) ?_
      refine t_nil ?_
      refine x_then_normal ?_
      refine c_seq ?_
      refine c_seq ?_
      refine c_region ?_
      refine t_st rfl (st_move rfl) ?_
      refine t_st rfl (st_eql rfl rfl) ?_
      refine t_nil ?_
      refine x_then_normal ?_
      refine c_cond _ rfl (fun hc63 => ?_) (fun hc63 => ?_)
      ·
        rw [if_pos (of_decide_eq_true hc63)] at hm
        refine c_seq ?_
        refine c_region ?_
        refine t_st rfl (st_move rfl) ?_
        refine t_st rfl (st_assign rfl) ?_
        refine t_nil ?_
        refine x_then_normal ?_
        refine c_ret ?_
        refine x_then_ret ?_
        refine x_block_ret ?_
        refine x_then_ret ?_
        refine x_block_ret ?_
        have hm := congrArg some (houtL40 _ (Option.some.inj hm).symm)
        obtain rfl := some1 hm
        exact retM (rs := [.tmp 4]) [.int .i64 (x60)] hle58 (by decide) rfl ⟨rfl, trivial⟩ rfl (hp' := R) (.refl _) ⟨rfl, rfl⟩
      ·
        rw [if_neg (of_decide_eq_false hc63)] at hm
        refine c_skip ?_
        refine x_then_normal ?_
        refine c_seq ?_
        refine c_region ?_
        refine t_st rfl (st_move rfl) ?_
        obtain ⟨_, h64, hm⟩ := bindS hm
        have h64 := (chk_some h64).2
        refine t_st rfl (st_add rfl rfl h64) ?_
        refine t_st rfl (st_assign rfl) ?_
        refine t_nil ?_
        refine x_then_normal ?_
        refine c_region ?_
        refine t_st rfl (st_move rfl) ?_
        refine t_st rfl (st_move rfl) ?_
        refine t_st rfl (st_move rfl) ?_
        refine t_st rfl (st_slen rfl str9) ?_
        obtain ⟨_, h65, hm⟩ := bindS hm
        have h65 := (chk_some h65).2
        refine t_st rfl (st_add rfl rfl h65) ?_
        obtain ⟨q66, h67, hm⟩ := bindS hm
        refine t_st rfl (st_scut rfl (.inr ⟨_, _, rfl, rfl⟩) (.inl ⟨rfl, rfl⟩) h67 str9) ?_
        refine t_st rfl (st_assign rfl) ?_
        refine t_nil ?_
        refine x_block_normal ?_
        exact x_againM (q66, x60 + 1) (Option.some.inj hm).symm (e' := [(0, .string (q66)), (1, .string (x2)), (5, .int .i64 (x60 + 1))]) (hp' := R) ⟨rfl, rfl, rfl, trivial⟩ (.refl _) ⟨rfl, rfl, (hle58)⟩

set_option maxRecDepth 20000 in
theorem cStringsGenSplit (b : Base) (R : Hp) (x1 : ByteArray) (x2 : ByteArray) (x3 : Int) (x4 : Int) (l282 : (List ByteArray)) (hm : mStringsGenSplit x1 x2 x3 x4 = some l282) :
    CallsG Tryd.prog 81 [.string (x1), .string (x2), .int .i64 (x3), .int .i64 (x4)] b (R) (fun v b' hp' => ∃ (A279 : Option Addr), ∃ (c280 : Nat), ∃ (hs278 : Hp), .slice A279 (l282).length c280 = v ∧ (hs278 ++ R) = hp' ∧ OS 9 (OT.fr RT.str) b'.w (.slice A279 l282.length c280) l282 hs278) := by
  refine fn_enterG 66 Tryd.func81 rfl Tryd.ntmps81 rfl ?_
  unfold mStringsGenSplit at hm
  refine c_seq ?_
  refine c_region ?_
  refine t_st rfl (st_assign rfl) ?_
  refine t_nil ?_
  refine x_then_normal ?_
  refine c_seq ?_
  refine c_seq ?_
  refine c_region ?_
  refine t_st rfl (st_move rfl) ?_
  refine t_st rfl (st_eql rfl rfl) ?_
  refine t_nil ?_
  refine x_then_normal ?_
  refine c_cond _ rfl (fun hc283 => ?_) (fun hc283 => ?_)
  ·
    rw [if_pos (of_decide_eq_true hc283)] at hm
    refine c_seq ?_
    refine c_region ?_
    refine t_st rfl (st_assign rfl) ?_
    refine t_nil ?_
    refine x_then_normal ?_
    refine c_ret ?_
    refine x_then_ret ?_
    obtain rfl := some1 hm
    exact retM (rs := [.tmp 8]) [.slice none 0 0] (Base.Le.refl _) (by decide) rfl ⟨rfl, trivial⟩ rfl (hp' := ([] ++ R)) (.refl _) ⟨none, 0, [], rfl, rfl, OS.nil⟩
  ·
    rw [if_neg (of_decide_eq_false hc283)] at hm
    refine c_skip ?_
    refine x_then_normal ?_
    refine c_seq ?_
    refine c_seq ?_
    refine c_region ?_
    refine t_st rfl (st_move rfl) ?_
    refine t_st rfl (st_seql rfl rfl) ?_
    refine t_nil ?_
    refine x_then_normal ?_
    refine c_cond _ rfl (fun hc284 => ?_) (fun hc284 => ?_)
    ·
      rw [if_pos hc284] at hm
      refine c_seq ?_
      refine c_region ?_
      refine t_st rfl (st_move rfl) ?_
      refine t_st rfl (st_move rfl) ?_
      cases hm
    ·
      rw [if_neg (fun hh => Bool.noConfusion (hh.symm.trans hc284))] at hm
      refine c_skip ?_
      refine x_then_normal ?_
      obtain ⟨x291, hj292, hk292⟩ := bindS hm
      refine c_join (fun b289 e' hp' => [(0, .string (x1)), (1, .string (x2)), (2, .int .i64 (x3)), (3, .int .i64 (x291))] = e' ∧ R = hp' ∧ b.Le b289) ?_ ?_
      ·
        have hm := hj292
        refine c_seq ?_
        refine c_region ?_
        refine t_st rfl (st_move rfl) ?_
        refine t_st rfl (st_lss rfl rfl) ?_
        refine t_nil ?_
        refine x_then_normal ?_
        refine c_cond _ rfl (fun hc293 => ?_) (fun hc293 => ?_)
        ·
          rw [if_pos (of_decide_eq_true hc293)] at hm
          refine c_region ?_
          refine t_st rfl (st_move rfl) ?_
          refine t_st rfl (st_move rfl) ?_
          obtain ⟨x294, hcl295, hm⟩ := bindS hm
          refine t_do rfl (u_callW0 _ call106 rfl (fun w ho => cStringsCount _ [] x1 x2 x294 hcl295) (fun _ _ _ h => h.2.symm)) ?_
          rintro _ _ ⟨⟨_, rfl, _⟩, rfl⟩
          obtain ⟨_, h296, hm⟩ := bindS hm
          have h296 := (chk_some h296).2
          refine t_st rfl (st_add rfl rfl h296) ?_
          refine t_st rfl (st_assign rfl) ?_
          refine t_nil ?_
          obtain rfl := some1 hm
          exact x_join (e' := [(0, .string (x1)), (1, .string (x2)), (2, .int .i64 (x3)), (3, .int .i64 (x294 + 1))]) (hp' := R) ⟨rfl, rfl, rfl, rfl, trivial⟩ (.refl _) ⟨rfl, rfl, (Base.Le.refl _)⟩
        ·
          rw [if_neg (of_decide_eq_false hc293)] at hm
          refine c_skip ?_
          obtain rfl := some1 hm
          exact x_join (e' := [(0, .string (x1)), (1, .string (x2)), (2, .int .i64 (x3)), (3, .int .i64 (x4))]) (hp' := R) ⟨rfl, rfl, rfl, rfl, trivial⟩ (.refl _) ⟨rfl, rfl, (Base.Le.refl _)⟩
      ·
        rintro b289 _ _ ⟨rfl, rfl, hle290⟩
        have hm := hk292
        refine c_seq ?_
        refine c_region ?_
        refine t_st rfl (st_move rfl) ?_
        refine t_st rfl (st_move rfl) ?_
        refine t_st rfl (st_slen rfl str9) ?_
        obtain ⟨_, h297, hm⟩ := bindS hm
        have h297 := (chk_some h297).2
        refine t_st rfl (st_add rfl rfl h297) ?_
        refine t_st rfl (st_min rfl rfl) ?_
        refine t_st rfl (st_assign rfl) ?_
        refine t_nil ?_
        refine x_then_normal ?_
        refine c_seq ?_
        refine c_region ?_
        refine t_st rfl (st_move rfl) ?_
        obtain ⟨m298, h299, hm⟩ := bindS hm
        have h299 := mkLen_some h299
        refine t_do rfl (u_mkOS (r := RT.str) [] R [.string (ByteArray.empty)] ByteArray.empty m298 rfl h299.1 rfl rfl sl109 inf9 rfl rfl rfl (by decide) rfl h299.2.1 h299.2.2) ?_
        rintro _ _ ⟨hs300, rfl, h301⟩
        obtain ⟨A302, c303, rfl, _⟩ := h301.form
        refine t_st rfl (st_assign rfl) ?_
        refine t_nil ?_
        refine x_then_normal ?_
        refine c_seq ?_
        refine c_region ?_
        refine t_st rfl (st_move rfl) ?_
        obtain ⟨_, h304, hm⟩ := bindS hm
        have h304 := (chk_some h304).2
        refine t_st rfl (st_sub rfl rfl h304) ?_
        refine t_st rfl (st_assign rfl) ?_
        refine t_nil ?_
        refine x_then_normal ?_
        refine c_seq ?_
        refine c_region ?_
        refine t_st rfl (st_assign rfl) ?_
        refine t_nil ?_
        refine x_then_normal ?_
        obtain ⟨⟨x414, x415, l416⟩, hj418, hk418⟩ := bindS hm
        refine c_join (fun b409 e' hp' => ∃ (hs412 : Hp), [(0, .string (x414)), (9, .slice A302 (l416).length c303), (10, .int .i64 (x415))] = e' ∧ (hs412 ++ R) = hp' ∧ b289.Le b409 ∧ OS 9 (OT.fr RT.str) b409.w (.slice A302 l416.length c303) l416 hs412 ∧ l416.length = m298) ?_ ?_
        ·
          have hm := hj418
          refine c_block ?_
          refine c_loopM (unc3 fun x490 x491 l492 => fun b485 e' hp' => ∃ (hs488 : Hp), [(0, .string (x490)), (1, .string (x2)), (2, .int .i64 (x3)), (3, .int .i64 ((min x291 ((x1.size : Int) + 1)) - 1)), (9, .slice A302 (l492).length c303), (10, .int .i64 (x491))] = e' ∧ (hs488 ++ R) = hp' ∧ b289.Le b485 ∧ OS 9 (OT.fr RT.str) b485.w (.slice A302 l492.length c303) l492 hs488 ∧ l492.length = m298) hm (e' := [(0, .string (x1)), (1, .string (x2)), (2, .int .i64 (x3)), (3, .int .i64 ((min x291 ((x1.size : Int) + 1)) - 1)), (9, .slice A302 (List.replicate m298 (ByteArray.empty : ByteArray)).length c303), (10, .int .i64 (0))]) (hp' := (hs300 ++ R)) ⟨rfl, rfl, rfl, rfl, rfl, rfl, trivial⟩ (sub_app hs300 (.refl _)) ⟨hs300, rfl, rfl, (Base.Le.refl _), h301, List.length_replicate⟩ ?_
          rintro ⟨x490, x491, l492⟩ b485 _ _ oL419 ⟨hs488, rfl, rfl, hle486, h489, hln493⟩ hstepL419 houtL419
          unfold mStringsGenSplit_L419 at hstepL419
          have hm := (unc3E hstepL419)
          refine c_seq ?_
          refine c_seq ?_
          refine c_region ?_
          refine t_st rfl (st_move rfl) ?_
          refine t_st rfl (st_move rfl) ?_
          refine t_st rfl (st_lss rfl rfl) ?_
          refine t_nil ?_
          refine x_then_normal ?_
          refine c_cond _ rfl (fun hc494 => ?_) (fun hc494 => ?_)
          ·
            rw [if_pos (of_decide_eq_true hc494)] at hm
            refine c_skip ?_
            refine x_then_normal ?_
            refine c_block ?_
            refine c_seq ?_
            refine c_region ?_
            refine t_st rfl (st_move rfl) ?_
            refine t_st rfl (st_move rfl) ?_
            obtain ⟨x495, hcl496, hm⟩ := bindS hm
            refine t_do rfl (u_callW0 _ call107 rfl (fun w ho => cStringsIndex _ [] x490 x2 x495 hcl496) (fun _ _ _ h => h.2.symm)) ?_
            rintro _ _ ⟨⟨_, rfl, _⟩, rfl⟩
            refine t_st rfl (st_assign rfl) ?_
            refine t_nil ?_
            refine x_then_normal ?_
            refine c_seq ?_
            refine c_seq ?_
            refine c_region ?_
            refine t_st rfl (st_move rfl) ?_
            refine t_st rfl (st_lss rfl rfl) ?_
            refine t_nil ?_
            refine x_then_normal ?_
            refine c_cond _ rfl (fun hc497 => ?_) (fun hc497 => ?_)
            ·
              rw [if_pos (of_decide_eq_true hc497)] at hm
              refine c_exit ?_
              refine x_then_exit ?_
              refine x_block_on rfl ?_
              refine x_then_exit ?_
              refine x_block_out ?_
              have hm := congrArg some (houtL419 _ (Option.some.inj hm).symm)
              obtain ⟨rfl, rfl, rfl⟩ := some3 hm
              exact x_join (e' := [(0, .string (x490)), (9, .slice A302 (l492).length c303), (10, .int .i64 (x491))]) (hp' := (hs488 ++ R)) ⟨rfl, rfl, rfl, trivial⟩ (sub_app hs488 (.refl _)) ⟨hs488, rfl, rfl, hle486, h489, hln493⟩
            ·
              rw [if_neg (of_decide_eq_false hc497)] at hm
              refine c_skip ?_
              refine x_then_normal ?_
              refine c_seq ?_
              refine c_region ?_
              refine t_st rfl (st_move rfl) ?_
              refine t_st rfl (st_move rfl) ?_
              refine t_st rfl (st_move rfl) ?_
              refine t_st rfl (st_move rfl) ?_
              refine t_st rfl (st_move rfl) ?_
              obtain ⟨_, h498, hm⟩ := bindS hm
              have h498 := (chk_some h498).2
              refine t_st rfl (st_add rfl rfl h498) ?_
              obtain ⟨q499, h500, hm⟩ := bindS hm
              refine t_st rfl (st_scut rfl (.inl ⟨rfl, rfl⟩) (.inr ⟨_, _, rfl, rfl⟩) h500 str9) ?_
              obtain ⟨x501, h502, hm⟩ := bindS hm
              obtain ⟨j503, hj504, hx505⟩ := idx_some h502
              obtain ⟨cs506, hs511, P512, P513, hq514, hr507, hcs508, hA509, hlt510, hb515, hho516⟩ := OS.get (sz := 1) rfl (by decide) h489 hx505
              obtain ⟨rfl, rfl⟩ := hr507
              refine t_st rfl (st_index_old j503 rfl rfl hj504 hlt510 hA509 sl109) ?_
              refine t_do rfl (u_putOS hj504 (sz := 1) (a' := q499) rfl [] R 0 1 [.string (q499)] rfl h489 hx505 rfl rfl rfl siz9 rfl (by intro u hu; simp only [List.mem_cons, List.not_mem_nil, or_false] at hu; subst hu; rfl) (fun cs hsj hh => by obtain ⟨rfl, rfl⟩ := hh; exact ⟨by decide, rfl, rfl⟩)) ?_
              rintro _ _ ⟨hs517, rfl, h518⟩
              refine t_resp 9 rfl (v' := .slice A302 (put l492 x491 q499).length c303) (by simp only [put_length]) ?_
              refine t_nil ?_
              refine x_then_normal ?_
              refine c_seq ?_
              refine c_region ?_
              refine t_st rfl (st_move rfl) ?_
              refine t_st rfl (st_move rfl) ?_
              refine t_st rfl (st_move rfl) ?_
              refine t_st rfl (st_slen rfl str9) ?_
              obtain ⟨_, h519, hm⟩ := bindS hm
              have h519 := (chk_some h519).2
              refine t_st rfl (st_add rfl rfl h519) ?_
              obtain ⟨q520, h521, hm⟩ := bindS hm
              refine t_st rfl (st_scut rfl (.inr ⟨_, _, rfl, rfl⟩) (.inl ⟨rfl, rfl⟩) h521 str9) ?_
              refine t_st rfl (st_assign rfl) ?_
              refine t_nil ?_
              refine x_then_normal ?_
              refine c_region ?_
              refine t_st rfl (st_move rfl) ?_
              obtain ⟨_, h522, hm⟩ := bindS hm
              have h522 := (chk_some h522).2
              refine t_st rfl (st_add rfl rfl h522) ?_
              refine t_st rfl (st_assign rfl) ?_
              refine t_nil ?_
              refine x_block_normal ?_
              exact x_againM (q520, x491 + 1, put l492 x491 q499) (Option.some.inj hm).symm (e' := [(0, .string (q520)), (1, .string (x2)), (2, .int .i64 (x3)), (3, .int .i64 ((min x291 ((x1.size : Int) + 1)) - 1)), (9, .slice A302 (put l492 x491 q499).length c303), (10, .int .i64 (x491 + 1))]) (hp' := (hs517 ++ R)) ⟨rfl, rfl, rfl, rfl, rfl, rfl, trivial⟩ (sub_app hs517 (.refl _)) ⟨hs517, rfl, rfl, (hle486), h518, ((put_length _ _ _).trans hln493)⟩
          ·
            rw [if_neg (of_decide_eq_false hc494)] at hm
            refine c_exit ?_
            refine x_then_exit ?_
            refine x_then_exit ?_
            refine x_block_out ?_
            have hm := congrArg some (houtL419 _ (Option.some.inj hm).symm)
            obtain ⟨rfl, rfl, rfl⟩ := some3 hm
            exact x_join (e' := [(0, .string (x490)), (9, .slice A302 (l492).length c303), (10, .int .i64 (x491))]) (hp' := (hs488 ++ R)) ⟨rfl, rfl, rfl, trivial⟩ (sub_app hs488 (.refl _)) ⟨hs488, rfl, rfl, hle486, h489, hln493⟩
        ·
          rintro b409 _ _ ⟨hs412, rfl, rfl, hle410, h413, hln417⟩
          have hm := (unc3E hk418)
          refine c_seq ?_
          refine c_region ?_
          refine t_st rfl (st_move rfl) ?_
          refine t_st rfl (st_move rfl) ?_
          refine t_st rfl (st_move rfl) ?_
          obtain ⟨x523, h524, hm⟩ := bindS hm
          obtain ⟨j525, hj526, hx527⟩ := idx_some h524
          obtain ⟨cs528, hs533, P534, P535, hq536, hr529, hcs530, hA531, hlt532, hb537, hho538⟩ := OS.get (sz := 1) rfl (by decide) h413 hx527
          obtain ⟨rfl, rfl⟩ := hr529
          refine t_st rfl (st_index_old j525 rfl rfl hj526 hlt532 hA531 sl109) ?_
          refine t_do rfl (u_putOS hj526 (sz := 1) (a' := x414) rfl [] R 0 1 [.string (x414)] rfl h413 hx527 rfl rfl rfl siz9 rfl (by intro u hu; simp only [List.mem_cons, List.not_mem_nil, or_false] at hu; subst hu; rfl) (fun cs hsj hh => by obtain ⟨rfl, rfl⟩ := hh; exact ⟨by decide, rfl, rfl⟩)) ?_
          rintro _ _ ⟨hs539, rfl, h540⟩
          refine t_resp 9 rfl (v' := .slice A302 (put l416 x415 x414).length c303) (by simp only [put_length]) ?_
          refine t_nil ?_
          refine x_then_normal ?_
          refine c_seq ?_
          refine c_region ?_
          refine t_st rfl (st_move rfl) ?_
          refine t_st rfl (st_move rfl) ?_
          obtain ⟨_, h541, hm⟩ := bindS hm
          have h541 := (chk_some h541).2
          refine t_st rfl (st_add rfl rfl h541) ?_
          obtain ⟨l542, h543, hm⟩ := bindS hm
          obtain ⟨j544, j545, hj546, hj547, hj548, hj549, hx550⟩ := cutS_some h543
          have h551 := OS.lc h540
          refine t_st rfl (hx550 ▸ st_part (l := put l416 x415 x414) j544 j545 rfl (.inl ⟨rfl, by omega⟩) (.inr ⟨_, _, _, rfl, rfl, hj547⟩) hj548 hj549 h551 sl109) ?_
          obtain ⟨hs552, hq553, h554⟩ := OS.sub (sz := 1) rfl h540 hj548 hj549
          rw [← hx550] at h554
          refine t_less [] hs539 hs552 R rfl hq553 ?_
          refine t_st rfl (st_assign rfl) ?_
          refine t_nil ?_
          refine x_then_normal ?_
          refine c_ret ?_
          obtain rfl := some1 hm
          exact retM (rs := [.tmp 8]) [.slice (subA A302 c303 j544 1) (l542).length (c303 - j544)] (hle290.trans hle410) (by decide) rfl ⟨rfl, trivial⟩ rfl (hp' := (hs552 ++ R)) (sub_app hs552 (.refl _)) ⟨(subA A302 c303 j544 1), (c303 - j544), hs552, rfl, rfl, h554⟩

set_option maxRecDepth 20000 in
theorem cStringsSplit (b : Base) (R : Hp) (x1 : ByteArray) (x2 : ByteArray) (l16 : (List ByteArray)) (hm : mStringsSplit x1 x2 = some l16) :
    CallsG Tryd.prog 55 [.string (x1), .string (x2)] b (R) (fun v b' hp' => ∃ (A13 : Option Addr), ∃ (c14 : Nat), ∃ (hs12 : Hp), .slice A13 (l16).length c14 = v ∧ (hs12 ++ R) = hp' ∧ OS 9 (OT.fr RT.str) b'.w (.slice A13 l16.length c14) l16 hs12) := by
  refine fn_enterG 8 Tryd.func55 rfl Tryd.ntmps55 rfl ?_
  unfold mStringsSplit at hm
  refine c_seq ?_
  refine c_region ?_
  refine t_st rfl (st_assign rfl) ?_
  refine t_nil ?_
  refine x_then_normal ?_
  refine c_seq ?_
  refine c_region ?_
  refine t_st rfl (st_move rfl) ?_
  refine t_st rfl (st_move rfl) ?_
  obtain ⟨l17, hcl18, hm⟩ := bindS hm
  refine t_callG _ rfl call81 rfl (cStringsGenSplit _ _ x1 x2 0 (-1) l17 hcl18) ?_
  rintro _ b19 _ hle20 ⟨A21, c22, hs23, rfl, rfl, h24⟩
  refine t_in1 [] [] hs23 R rfl ?_
  refine t_st rfl (st_assign rfl) ?_
  refine t_nil ?_
  refine x_then_normal ?_
  refine c_ret ?_
  obtain rfl := some1 hm
  exact retM (rs := [.tmp 4]) [.slice A21 (l17).length c22] hle20 (by decide) rfl ⟨rfl, trivial⟩ rfl (hp' := (hs23 ++ R)) (sub_app hs23 (.refl _)) ⟨A21, c22, hs23, rfl, rfl, h24⟩

set_option maxRecDepth 20000 in
theorem cStrconvAtoi (b : Base) (R : Hp) (hG : GOn GT b) (x1 : ByteArray) (x2 : Int) (q3 : Bool) (hm : mStrconvAtoi x1 = some (x2, q3)) :
    CallsG Tryd.prog 103 [.string (x1)] b (R) (fun v b' hp' => ∃ (v4 : Value), .tuple #[.int .i64 (x2), v4] = v ∧ R = hp' ∧ ErrV v4 q3) := by
  unfold mStrconvAtoi at hm
  exact atoi_c hG hm

set_option maxRecDepth 20000 in
theorem cStrconvItoa (b : Base) (R : Hp) (hG : GOn GT b) (x1 : Int) (x2 : ByteArray) (hm : mStrconvItoa x1 = some x2) :
    CallsG Tryd.prog 52 [.int .i64 (x1)] b (R) (fun v b' hp' => .string (x2) = v ∧ R = hp') := by
  unfold mStrconvItoa at hm
  exact itoa_c hG hm

set_option maxRecDepth 20000 in
theorem cStringsliteHasPrefix (b : Base) (R : Hp) (x1 : ByteArray) (x2 : ByteArray) (x13 : Bool) (hm : mStringsliteHasPrefix x1 x2 = some x13) :
    CallsG Tryd.prog 139 [.string (x1), .string (x2)] b (R) (fun v b' hp' => .bool (x13) = v ∧ R = hp') := by
  refine fn_enterG 18 Tryd.func139 rfl Tryd.ntmps139 rfl ?_
  unfold mStringsliteHasPrefix at hm
  refine c_seq ?_
  refine c_region ?_
  refine t_st rfl (st_assign rfl) ?_
  refine t_nil ?_
  refine x_then_normal ?_
  obtain ⟨x19, hj20, hk20⟩ := bindS hm
  refine c_join (fun b17 e' hp' => [(4, .bool (x19))] = e' ∧ R = hp' ∧ b.Le b17) ?_ ?_
  ·
    have hm := hj20
    refine c_region ?_
    refine t_st rfl (st_move rfl) ?_
    refine t_st rfl (st_slen rfl str9) ?_
    refine t_st rfl (st_move rfl) ?_
    refine t_st rfl (st_slen rfl str9) ?_
    refine t_bool rfl (st_geq rfl rfl) (fun hc21 => ?_) (fun hc21 => ?_)
    ·
      rw [if_pos hc21] at hm
      refine t_st rfl (st_move rfl) ?_
      refine t_yes 10 rfl rfl rfl ?_
      refine t_st rfl (st_move rfl) ?_
      refine t_yes 10 rfl rfl rfl ?_
      refine t_st rfl (st_move rfl) ?_
      refine t_yes 10 rfl rfl rfl ?_
      refine t_st rfl (st_slen rfl str9) ?_
      refine t_yes 10 rfl rfl rfl ?_
      obtain ⟨q22, h23, hm⟩ := bindS hm
      refine t_st rfl (st_scut rfl (.inl ⟨rfl, rfl⟩) (.inr ⟨_, _, rfl, rfl⟩) h23 str9) ?_
      refine t_yes 10 rfl rfl rfl ?_
      refine t_st rfl (st_move rfl) ?_
      refine t_yes 10 rfl rfl rfl ?_
      refine t_st rfl (st_seql rfl rfl) ?_
      refine t_st rfl (st_pick_t rfl rfl) ?_
      refine t_st rfl (st_assign rfl) ?_
      refine t_nil ?_
      obtain rfl := some1 hm
      exact x_join (e' := [(4, .bool (sEq q22 x2))]) (hp' := R) ⟨rfl, trivial⟩ (.refl _) ⟨rfl, rfl, (Base.Le.refl _)⟩
    ·
      rw [if_neg hc21] at hm
      refine t_st rfl (st_move rfl) ?_
      refine t_no 10 rfl rfl rfl rfl rfl ?_
      refine t_no 10 rfl rfl rfl rfl rfl ?_
      refine t_no 10 rfl rfl rfl rfl rfl ?_
      refine t_no 10 rfl rfl rfl rfl rfl ?_
      refine t_no 10 rfl rfl rfl rfl rfl ?_
      refine t_no 10 rfl rfl rfl rfl rfl ?_
      refine t_st rfl (st_pick_f rfl rfl) ?_
      refine t_st rfl (st_assign rfl) ?_
      refine t_nil ?_
      obtain rfl := some1 hm
      exact x_join (e' := [(4, .bool (false))]) (hp' := R) ⟨rfl, trivial⟩ (.refl _) ⟨rfl, rfl, (Base.Le.refl _)⟩
  ·
    rintro b17 _ _ ⟨rfl, rfl, hle18⟩
    have hm := hk20
    refine c_ret ?_
    obtain rfl := some1 hm
    exact retM (rs := [.tmp 4]) [.bool (x19)] hle18 (by decide) rfl ⟨rfl, trivial⟩ rfl (hp' := R) (.refl _) ⟨rfl, rfl⟩

set_option maxRecDepth 20000 in
theorem cStringsliteTrimPrefix (b : Base) (R : Hp) (x1 : ByteArray) (x2 : ByteArray) (x8 : ByteArray) (hm : mStringsliteTrimPrefix x1 x2 = some x8) :
    CallsG Tryd.prog 122 [.string (x1), .string (x2)] b (R) (fun v b' hp' => .string (x8) = v ∧ R = hp') := by
  refine fn_enterG 13 Tryd.func122 rfl Tryd.ntmps122 rfl ?_
  unfold mStringsliteTrimPrefix at hm
  refine c_seq ?_
  refine c_region ?_
  refine t_st rfl (st_assign rfl) ?_
  refine t_nil ?_
  refine x_then_normal ?_
  refine c_seq ?_
  refine c_seq ?_
  refine c_region ?_
  refine t_st rfl (st_move rfl) ?_
  refine t_st rfl (st_move rfl) ?_
  obtain ⟨x9, hcl10, hm⟩ := bindS hm
  refine t_do rfl (u_callW0 _ call139 rfl (fun w ho => cStringsliteHasPrefix _ [] x1 x2 x9 hcl10) (fun _ _ _ h => h.2.symm)) ?_
  rintro _ _ ⟨⟨_, rfl, _⟩, rfl⟩
  refine t_nil ?_
  refine x_then_normal ?_
  refine c_cond _ rfl (fun hc11 => ?_) (fun hc11 => ?_)
  ·
    rw [if_pos hc11] at hm
    refine c_seq ?_
    refine c_region ?_
    refine t_st rfl (st_move rfl) ?_
    refine t_st rfl (st_move rfl) ?_
    refine t_st rfl (st_slen rfl str9) ?_
    obtain ⟨q12, h13, hm⟩ := bindS hm
    refine t_st rfl (st_scut rfl (.inr ⟨_, _, rfl, rfl⟩) (.inl ⟨rfl, rfl⟩) h13 str9) ?_
    refine t_st rfl (st_assign rfl) ?_
    refine t_nil ?_
    refine x_then_normal ?_
    refine c_ret ?_
    refine x_then_ret ?_
    obtain rfl := some1 hm
    exact retM (rs := [.tmp 4]) [.string (q12)] (Base.Le.refl _) (by decide) rfl ⟨rfl, trivial⟩ rfl (hp' := R) (.refl _) ⟨rfl, rfl⟩
  ·
    rw [if_neg (fun hh => Bool.noConfusion (hh.symm.trans hc11))] at hm
    refine c_skip ?_
    refine x_then_normal ?_
    refine c_seq ?_
    refine c_region ?_
    refine t_st rfl (st_move rfl) ?_
    refine t_st rfl (st_assign rfl) ?_
    refine t_nil ?_
    refine x_then_normal ?_
    refine c_ret ?_
    obtain rfl := some1 hm
    exact retM (rs := [.tmp 4]) [.string (x1)] (Base.Le.refl _) (by decide) rfl ⟨rfl, trivial⟩ rfl (hp' := R) (.refl _) ⟨rfl, rfl⟩

set_option maxRecDepth 20000 in
theorem cStringsTrimPrefix (b : Base) (R : Hp) (x1 : ByteArray) (x2 : ByteArray) (x5 : ByteArray) (hm : mStringsTrimPrefix x1 x2 = some x5) :
    CallsG Tryd.prog 104 [.string (x1), .string (x2)] b (R) (fun v b' hp' => .string (x5) = v ∧ R = hp') := by
  refine fn_enterG 8 Tryd.func104 rfl Tryd.ntmps104 rfl ?_
  unfold mStringsTrimPrefix at hm
  refine c_seq ?_
  refine c_region ?_
  refine t_st rfl (st_assign rfl) ?_
  refine t_nil ?_
  refine x_then_normal ?_
  refine c_seq ?_
  refine c_region ?_
  refine t_st rfl (st_move rfl) ?_
  refine t_st rfl (st_move rfl) ?_
  obtain ⟨x6, hcl7, hm⟩ := bindS hm
  refine t_do rfl (u_callW0 _ call122 rfl (fun w ho => cStringsliteTrimPrefix _ [] x1 x2 x6 hcl7) (fun _ _ _ h => h.2.symm)) ?_
  rintro _ _ ⟨⟨_, rfl, _⟩, rfl⟩
  refine t_st rfl (st_assign rfl) ?_
  refine t_nil ?_
  refine x_then_normal ?_
  refine c_ret ?_
  obtain rfl := some1 hm
  exact retM (rs := [.tmp 4]) [.string (x6)] (Base.Le.refl _) (by decide) rfl ⟨rfl, trivial⟩ rfl (hp' := R) (.refl _) ⟨rfl, rfl⟩

set_option maxRecDepth 20000 in
theorem cLineNumber (b : Base) (R : Hp) (hG : GOn GT b) (x1 : ByteArray) (x25 : Int) (x26 : Bool) (hm : mLineNumber x1 = some (x25, x26)) :
    CallsG Tryd.prog 80 [.string (x1)] b (R) (fun v b' hp' => .tuple #[.int .i64 (x25), .bool (x26)] = v ∧ R = hp') := by
  refine fn_enterG 26 Tryd.func80 rfl Tryd.ntmps80 rfl ?_
  unfold mLineNumber at hm
  refine c_seq ?_
  refine c_region ?_
  refine t_st rfl (st_assign rfl) ?_
  refine t_st rfl (st_assign rfl) ?_
  refine t_nil ?_
  refine x_then_normal ?_
  refine c_seq ?_
  refine c_region ?_
  refine t_st rfl (st_move rfl) ?_
  obtain ⟨⟨x27, q28⟩, hcl29, hm⟩ := bindS hm
  have hm := (unc2E hm)
  refine t_callG _ rfl call103 rfl (cStrconvAtoi _ _ (hG.le (Base.Le.refl _)) x1 x27 q28 hcl29) ?_
  rintro _ b30 _ hle31 ⟨v32, rfl, rfl, h33⟩
  refine t_st rfl (st_move rfl) ?_
  refine t_st rfl (st_extract rfl rfl) ?_
  refine t_st rfl (st_extract rfl rfl) ?_
  refine t_st rfl (st_assign rfl) ?_
  refine t_st rfl (st_assign rfl) ?_
  refine t_nil ?_
  refine x_then_normal ?_
  obtain ⟨x42, hj43, hk43⟩ := bindS hm
  refine c_join (fun b40 e' hp' => [(2, .int .i64 (x27)), (3, .bool (x42))] = e' ∧ R = hp' ∧ b30.Le b40) ?_ ?_
  ·
    have hm := hj43
    refine c_region ?_
    refine t_st rfl (st_move rfl) ?_
    refine t_st rfl (st_move rfl) ?_
    refine t_st rfl (st_eqlE rfl h33 ift149) ?_
    rcases Bool.eq_false_or_eq_true q28 with hc44 | hc44
    ·
      rw [if_pos hc44] at hm
      refine t_resp 13 rfl (v' := .bool true) (by rw [hc44] <;> rfl) ?_
      refine t_st rfl (st_move rfl) ?_
      refine t_yes 14 rfl rfl rfl ?_
      refine t_st rfl (st_move rfl) ?_
      refine t_yes 14 rfl rfl rfl ?_
      obtain ⟨x45, hcl46, hm⟩ := bindS hm
      refine t_do rfl (u_callW0 _ call52 rfl (fun w ho => cStrconvItoa _ [] ((hG.le hle31).old ho) x27 x45 hcl46) (fun _ _ _ h => h.2.symm)) ?_
      rintro _ _ ⟨⟨_, rfl, _⟩, rfl⟩
      refine t_yes 14 rfl rfl rfl ?_
      refine t_st rfl (st_move rfl) ?_
      refine t_yes 14 rfl rfl rfl ?_
      refine t_st rfl (st_seql rfl rfl) ?_
      rcases Bool.eq_false_or_eq_true (sEq x45 x1) with hc47 | hc47
      ·
        rw [if_pos hc47] at hm
        refine t_resp 18 rfl (v' := .bool true) (by rw [hc47] <;> rfl) ?_
        refine t_st rfl (st_pick_t rfl rfl) ?_
        refine t_st rfl (st_move rfl) ?_
        refine t_yes 20 rfl rfl rfl ?_
        refine t_st rfl (st_move rfl) ?_
        refine t_yes 20 rfl rfl rfl ?_
        obtain ⟨x48, hcl49, hm⟩ := bindS hm
        refine t_do rfl (u_callW0 _ call104 rfl (fun w ho => cStringsTrimPrefix _ [] x1 (ByteArray.mk #[45]) x48 hcl49) (fun _ _ _ h => h.2.symm)) ?_
        rintro _ _ ⟨⟨_, rfl, _⟩, rfl⟩
        refine t_yes 20 rfl rfl rfl ?_
        refine t_st rfl (st_slen rfl str9) ?_
        refine t_yes 20 rfl rfl rfl ?_
        refine t_st rfl (st_leq rfl rfl) ?_
        refine t_st rfl (st_pick_t rfl rfl) ?_
        refine t_st rfl (st_assign rfl) ?_
        refine t_st rfl (st_assign rfl) ?_
        refine t_nil ?_
        obtain rfl := some1 hm
        exact x_join (e' := [(2, .int .i64 (x27)), (3, .bool (decide ((x48.size : Int) ≤ 9)))]) (hp' := R) ⟨rfl, rfl, trivial⟩ (.refl _) ⟨rfl, rfl, (Base.Le.refl _)⟩
      ·
        rw [if_neg (fun hh => Bool.noConfusion (hh.symm.trans hc47))] at hm
        refine t_resp 18 rfl (v' := .bool false) (by rw [hc47] <;> rfl) ?_
        refine t_st rfl (st_pick_t rfl rfl) ?_
        refine t_st rfl (st_move rfl) ?_
        refine t_no 20 rfl rfl rfl rfl rfl ?_
        refine t_no 20 rfl rfl rfl rfl rfl ?_
        refine t_no 20 rfl rfl rfl rfl rfl ?_
        refine t_no 20 rfl rfl rfl rfl rfl ?_
        refine t_st rfl (st_pick_f rfl rfl) ?_
        refine t_st rfl (st_assign rfl) ?_
        refine t_st rfl (st_assign rfl) ?_
        refine t_nil ?_
        obtain rfl := some1 hm
        exact x_join (e' := [(2, .int .i64 (x27)), (3, .bool (false))]) (hp' := R) ⟨rfl, rfl, trivial⟩ (.refl _) ⟨rfl, rfl, (Base.Le.refl _)⟩
    ·
      rw [if_neg (fun hh => Bool.noConfusion (hh.symm.trans hc44))] at hm
      refine t_resp 13 rfl (v' := .bool false) (by rw [hc44] <;> rfl) ?_
      refine t_st rfl (st_move rfl) ?_
      refine t_no 14 rfl rfl rfl rfl rfl ?_
      refine t_no 14 rfl rfl rfl rfl rfl ?_
      refine t_no 14 rfl rfl rfl rfl rfl ?_
      refine t_no 14 rfl rfl rfl rfl rfl ?_
      refine t_st rfl (st_pick_f rfl rfl) ?_
      refine t_st rfl (st_move rfl) ?_
      refine t_no 20 rfl rfl rfl rfl rfl ?_
      refine t_no 20 rfl rfl rfl rfl rfl ?_
      refine t_no 20 rfl rfl rfl rfl rfl ?_
      refine t_no 20 rfl rfl rfl rfl rfl ?_
      refine t_st rfl (st_pick_f rfl rfl) ?_
      refine t_st rfl (st_assign rfl) ?_
      refine t_st rfl (st_assign rfl) ?_
      refine t_nil ?_
      obtain rfl := some1 hm
      exact x_join (e' := [(2, .int .i64 (x27)), (3, .bool (false))]) (hp' := R) ⟨rfl, rfl, trivial⟩ (.refl _) ⟨rfl, rfl, (Base.Le.refl _)⟩
  ·
    rintro b40 _ _ ⟨rfl, rfl, hle41⟩
    have hm := hk43
    refine c_ret ?_
    obtain ⟨rfl, rfl⟩ := some2 hm
    exact retM (rs := [.tmp 2, .tmp 3]) [.int .i64 (x27), .bool (x42)] (hle31.trans hle41) (by decide) rfl ⟨rfl, ⟨rfl, trivial⟩⟩ rfl (hp' := R) (.refl _) ⟨rfl, rfl⟩

set_option maxRecDepth 20000 in
theorem cLineNumbers (b : Base) (R : Hp) (hG : GOn GT b) (l4 : (List ByteArray)) (A1 : Option Addr) (c2 : Nat) (h3 : FZ RT.str b.w A1 c2 l4) (x93 : Bool) (l94 : (List Int)) (hm : mLineNumbers l4 = some (x93, l94)) :
    CallsG Tryd.prog 54 [.slice A1 (l4).length c2] b (R) (fun v b' hp' => ∃ (A90 : Option Addr), ∃ (c91 : Nat), ∃ (hs89 : Hp), .tuple #[.slice A90 (l94).length c91, .bool (x93)] = v ∧ (hs89 ++ R) = hp' ∧ OS 3 (OT.fr (RT.int .i64)) b'.w (.slice A90 l94.length c91) l94 hs89) := by
  refine fn_enterG 28 Tryd.func54 rfl Tryd.ntmps54 rfl ?_
  unfold mLineNumbers at hm
  refine c_seq ?_
  refine c_region ?_
  refine t_st rfl (st_assign rfl) ?_
  refine t_st rfl (st_assign rfl) ?_
  refine t_nil ?_
  refine x_then_normal ?_
  refine c_seq ?_
  refine c_region ?_
  refine t_st rfl (st_assign rfl) ?_
  refine t_nil ?_
  refine x_then_normal ?_
  refine c_seq ?_
  refine c_seq ?_
  refine c_region ?_
  refine t_st rfl (st_move rfl) ?_
  refine t_st rfl (st_len rfl sl109) ?_
  refine t_st rfl (st_move rfl) ?_
  refine t_nil ?_
  refine x_then_normal ?_
  refine c_block ?_
  have hb96 := (FZ.bd h3)
  obtain ⟨t153, hl154, hk155⟩ := bindS hm
  refine c_forM (fun k152 => fun l151 => fun b144 e' hp' => ∃ (A148 : Option Addr), ∃ (c149 : Nat), ∃ (hs147 : Hp), [(4, .slice A148 (l151).length c149), (9, .slice A1 (l4).length c2), (10, .int .i64 ((l4.length : Int))), (11, .int .i64 ((k152 : Int)))] = e' ∧ (hs147 ++ R) = hp' ∧ b.Le b144 ∧ OS 3 (OT.fr (RT.int .i64)) b144.w (.slice A148 l151.length c149) l151 hs147) hl154 (e' := [(4, .slice none 0 0), (9, .slice A1 (l4).length c2), (10, .int .i64 ((l4.length : Int))), (11, .int .i64 0)]) (hp' := ([] ++ R)) ⟨rfl, rfl, rfl, rfl, trivial⟩ (.refl _) ⟨none, 0, [], rfl, rfl, (Base.Le.refl _), OS.nil⟩ ?_ ?_
  ·
    rintro k152 l151 b144 _ _ oL95 hknL95 ⟨A148, c149, hs147, rfl, rfl, hle145, h150⟩ hstepL95 houtL95
    unfold mLineNumbers_L95 at hstepL95
    have hm := hstepL95
    refine c_seq ?_
    refine c_region ?_
    refine t_st rfl (st_lss_t rfl rfl (by omega)) ?_
    refine t_nil ?_
    refine x_then_normal ?_
    refine c_seq ?_
    refine c_cond_t rfl ?_
    refine c_skip ?_
    refine x_then_normal ?_
    refine c_seq ?_
    refine c_block ?_
    refine c_seq ?_
    refine c_region ?_
    obtain ⟨x156, h157, hm⟩ := bindS hm
    obtain ⟨j158, hj159, hx160⟩ := idx_some h157
    obtain ⟨cs161, hr162, hcs163, hA164, hlt165⟩ := FZ.get (sz := 1) rfl (by decide) (h3.le hle145) hx160
    obtain rfl := hr162
    refine t_st rfl (st_index_old j158 rfl rfl hj159 hlt165 hA164 sl109) ?_
    refine t_st rfl (st_load_old rfl one9 (hcs163 0 _ rfl)) ?_
    refine t_st rfl (st_assign rfl) ?_
    refine t_nil ?_
    refine x_then_normal ?_
    refine c_seq ?_
    refine c_region ?_
    refine t_st rfl (st_move rfl) ?_
    obtain ⟨⟨x166, x167⟩, hcl168, hm⟩ := bindS hm
    have hm := (unc2E hm)
    refine t_do rfl (u_callW0 _ call80 rfl (fun w ho => cLineNumber _ [] ((hG.le hle145).old ho) x156 x166 x167 hcl168) (fun _ _ _ h => h.2.symm)) ?_
    rintro _ _ ⟨⟨_, rfl, _⟩, rfl⟩
    refine t_st rfl (st_move rfl) ?_
    refine t_st rfl (st_extract rfl rfl) ?_
    refine t_st rfl (st_extract rfl rfl) ?_
    refine t_st rfl (st_assign rfl) ?_
    refine t_st rfl (st_assign rfl) ?_
    refine t_nil ?_
    refine x_then_normal ?_
    refine c_seq ?_
    refine c_seq ?_
    refine c_region ?_
    refine t_st rfl (st_move rfl) ?_
    refine t_st rfl (st_not rfl) ?_
    refine t_nil ?_
    refine x_then_normal ?_
    refine c_cond _ rfl (fun hc169 => ?_) (fun hc169 => ?_)
    ·
      rw [if_neg (fun hh => Bool.noConfusion (hh.symm.trans (notT hc169)))] at hm
      refine c_seq ?_
      refine c_region ?_
      refine t_st rfl (st_assign rfl) ?_
      refine t_st rfl (st_assign rfl) ?_
      refine t_nil ?_
      refine x_then_normal ?_
      refine c_ret ?_
      refine x_then_ret ?_
      refine x_block_ret ?_
      refine x_then_ret ?_
      refine x_then_ret ?_
      refine x_block_ret ?_
      refine x_then_ret ?_
      have hq170 := houtL95 _ (Option.some.inj hm).symm
      rw [hq170] at hk155
      have hm := elimR hk155
      obtain ⟨rfl, rfl⟩ := some2 hm
      exact retM (rs := [.tmp 2, .tmp 3]) [.slice none 0 0, .bool (false)] hle145 (by decide) rfl ⟨rfl, ⟨rfl, trivial⟩⟩ rfl (hp' := ([] ++ R)) (sub_skip hs147 (.refl _)) ⟨none, 0, [], rfl, rfl, OS.nil⟩
    ·
      rw [if_pos (notF hc169)] at hm
      refine c_skip ?_
      refine x_then_normal ?_
      refine c_region ?_
      refine t_st rfl (st_move rfl) ?_
      refine t_st rfl (st_move rfl) ?_
      refine t_do rfl (u_bslice (el := 3) [(0, .int .i64 (x166))] [.int .i64 (x166)] rfl (fun _ => by kernel_rfl)) ?_
      rintro _ _ ⟨g171, rfl, rfl⟩
      obtain ⟨_, h172, hm⟩ := bindS hm
      have h172 := room_some h172
      refine t_do rfl (u_appOS (r := (RT.int .i64)) (l := l151) [_] R [[.int .i64 (x166)]] [x166] rfl (by decide) sl24 inf3 rfl rfl rfl rfl h150 rfl (fun w ho => Rd.own (i := 0) ho rfl) ⟨rfl, trivial⟩ h172) ?_
      rintro _ _ ⟨hs173, rfl, h174⟩
      obtain ⟨A175, c176, rfl, _⟩ := h174.form
      refine t_st rfl (st_assign rfl) ?_
      refine t_nil ?_
      refine x_block_normal ?_
      refine x_then_normal ?_
      refine c_region ?_
      refine t_st rfl (st_add rfl rfl (by omega)) ?_
      refine t_st rfl (st_move rfl) ?_
      refine t_nil ?_
      exact x_againM (l151 ++ [x166]) (Option.some.inj hm).symm (e' := [(4, .slice A175 (l151 ++ [x166]).length c176), (9, .slice A1 (l4).length c2), (10, .int .i64 ((l4.length : Int))), (11, .int .i64 ((k152 : Int) + 1))]) (hp' := (hs173 ++ R)) ⟨rfl, rfl, rfl, rfl, trivial⟩ (.cons _ (sub_app hs173 (.refl _))) ⟨A175, c176, hs173, rfl, rfl, (hle145), h174⟩
  ·
    rintro l151 b144 _ _ ⟨A148, c149, hs147, rfl, rfl, hle145, h150⟩ hq177
    rw [hq177] at hk155
    have hm := elimL hk155
    refine c_seq ?_
    refine c_region ?_
    refine t_st rfl (st_lss_f rfl rfl (by omega)) ?_
    refine t_nil ?_
    refine x_then_normal ?_
    refine c_seq ?_
    refine c_cond_f rfl ?_
    refine c_exit ?_
    refine x_then_exit ?_
    refine x_then_exit ?_
    refine x_block_out ?_
    refine x_then_normal ?_
    refine c_seq ?_
    refine c_region ?_
    refine t_st rfl (st_move rfl) ?_
    refine t_st rfl (st_assign rfl) ?_
    refine t_st rfl (st_assign rfl) ?_
    refine t_nil ?_
    refine x_then_normal ?_
    refine c_ret ?_
    obtain ⟨rfl, rfl⟩ := some2 hm
    exact retM (rs := [.tmp 2, .tmp 3]) [.slice A148 (l151).length c149, .bool (true)] hle145 (by decide) rfl ⟨rfl, ⟨rfl, trivial⟩⟩ rfl (hp' := (hs147 ++ R)) (sub_app hs147 (.refl _)) ⟨A148, c149, hs147, rfl, rfl, h150⟩

set_option maxRecDepth 20000 in
theorem cGuardWithin (b : Base) (R : Hp) (x1 : Int) (x2 : Int) (x3 : Int) (x10 : Bool) (hm : mGuardWithin x1 x2 x3 = some x10) :
    CallsG Tryd.prog 63 [.int .i64 (x1), .int .i64 (x2), .int .i64 (x3)] b (R) (fun v b' hp' => .bool (x10) = v ∧ R = hp') := by
  refine fn_enterG 15 Tryd.func63 rfl Tryd.ntmps63 rfl ?_
  unfold mGuardWithin at hm
  refine c_seq ?_
  refine c_region ?_
  refine t_st rfl (st_assign rfl) ?_
  refine t_nil ?_
  refine x_then_normal ?_
  obtain ⟨x14, hj15, hk15⟩ := bindS hm
  refine c_join (fun b12 e' hp' => [(6, .bool (x14))] = e' ∧ R = hp' ∧ b.Le b12) ?_ ?_
  ·
    have hm := hj15
    refine c_region ?_
    refine t_st rfl (st_move rfl) ?_
    refine t_st rfl (st_move rfl) ?_
    refine t_bool rfl (st_geq rfl rfl) (fun hc16 => ?_) (fun hc16 => ?_)
    ·
      rw [if_pos hc16] at hm
      refine t_st rfl (st_move rfl) ?_
      refine t_yes 10 rfl rfl rfl ?_
      refine t_st rfl (st_move rfl) ?_
      refine t_yes 10 rfl rfl rfl ?_
      refine t_st rfl (st_move rfl) ?_
      refine t_yes 10 rfl rfl rfl ?_
      refine t_st rfl (st_leq rfl rfl) ?_
      refine t_st rfl (st_pick_t rfl rfl) ?_
      refine t_st rfl (st_assign rfl) ?_
      refine t_nil ?_
      obtain rfl := some1 hm
      exact x_join (e' := [(6, .bool (decide (x1 ≤ x3)))]) (hp' := R) ⟨rfl, trivial⟩ (.refl _) ⟨rfl, rfl, (Base.Le.refl _)⟩
    ·
      rw [if_neg hc16] at hm
      refine t_st rfl (st_move rfl) ?_
      refine t_no 10 rfl rfl rfl rfl rfl ?_
      refine t_no 10 rfl rfl rfl rfl rfl ?_
      refine t_no 10 rfl rfl rfl rfl rfl ?_
      refine t_st rfl (st_pick_f rfl rfl) ?_
      refine t_st rfl (st_assign rfl) ?_
      refine t_nil ?_
      obtain rfl := some1 hm
      exact x_join (e' := [(6, .bool (false))]) (hp' := R) ⟨rfl, trivial⟩ (.refl _) ⟨rfl, rfl, (Base.Le.refl _)⟩
  ·
    rintro b12 _ _ ⟨rfl, rfl, hle13⟩
    have hm := hk15
    refine c_ret ?_
    obtain rfl := some1 hm
    exact retM (rs := [.tmp 6]) [.bool (x14)] hle13 (by decide) rfl ⟨rfl, trivial⟩ rfl (hp' := R) (.refl _) ⟨rfl, rfl⟩

set_option maxRecDepth 20000 in
theorem cGuardPacketUsed (b : Base) (R : Hp) (s1 : GuardPacket) (x34 : Int) (x35 : Int) (x36 : Int) (x37 : Int) (x38 : Int) (x39 : Int) (x40 : Int) (x41 : Int) (hm : mGuardPacketUsed s1 = some (x34, x35, x36, x37, x38, x39, x40, x41)) :
    CallsG Tryd.prog 75 [.agg #[.int .i64 (s1.Kind), .int .i64 (s1.Session), .int .i64 (s1.No), .int .i64 (s1.Of), .int .i64 (s1.End), .int .i64 (s1.At), .int .i64 (s1.Speed), .int .i64 (s1.Sent)]] b (R) (fun v b' hp' => .agg #[.int .i64 (x34), .int .i64 (x35), .int .i64 (x36), .int .i64 (x37), .int .i64 (x38), .int .i64 (x39), .int .i64 (x40), .int .i64 (x41)] = v ∧ R = hp') := by
  refine fn_enterG 51 Tryd.func75 rfl Tryd.ntmps75 rfl ?_
  unfold mGuardPacketUsed at hm
  refine c_seq ?_
  refine c_region ?_
  refine t_do rfl (u_box _ rfl rfl) ?_
  rintro _ _ ⟨g42, rfl, rfl⟩
  refine t_do rfl (u_alloc [.int .i64 0, .int .i64 0, .int .i64 0, .int .i64 0, .int .i64 0, .int .i64 0, .int .i64 0, .int .i64 0] zero36 rfl) ?_
  rintro _ _ ⟨g43, rfl, rfl⟩
  refine t_nil ?_
  refine x_then_normal ?_
  refine c_seq ?_
  refine c_region ?_
  refine t_st rfl (st_field rfl fld36_0) ?_
  refine t_st rfl (st_load 1 rfl one3 rfl rfl) ?_
  refine t_st rfl (st_field rfl fld36_1) ?_
  refine t_st rfl (st_load 1 rfl one3 rfl rfl) ?_
  refine t_st rfl (st_field rfl fld36_2) ?_
  refine t_st rfl (st_load 1 rfl one3 rfl rfl) ?_
  refine t_st rfl (st_field rfl fld36_7) ?_
  refine t_st rfl (st_load 1 rfl one3 rfl rfl) ?_
  refine t_st rfl (st_build (v := .agg #[.int .i64 (s1.Kind), .int .i64 (s1.Session), .int .i64 (s1.No), .int .i64 (0), .int .i64 (0), .int .i64 (0), .int .i64 (0), .int .i64 (s1.Sent)]) [(0, .int .i64 (s1.Kind)), (1, .int .i64 (s1.Session)), (2, .int .i64 (s1.No)), (7, .int .i64 (s1.Sent))] rfl (fun _ => by kernel_rfl)) ?_
  refine t_do rfl (u_alloc [.int .i64 0, .int .i64 0, .int .i64 0, .int .i64 0, .int .i64 0, .int .i64 0, .int .i64 0, .int .i64 0] zero36 rfl) ?_
  rintro _ _ ⟨g44, rfl, rfl⟩
  refine t_do rfl (u_storeN (vs := [_, _, _, _, _, _, _, _]) 0 8 rfl rfl rfl siz36 rfl (by intro u hu; simp only [List.mem_cons, List.not_mem_nil, or_false] at hu; rcases hu with rfl | rfl | rfl | rfl | rfl | rfl | rfl | rfl <;> rfl) rfl (by simp)) ?_
  rintro _ _ rfl
  refine t_nil ?_
  refine x_then_normal ?_
  obtain ⟨⟨x58, x59, x60, x61⟩, hj62, hk62⟩ := bindS hm
  refine c_join (fun b56 e' hp' => [(2, .pointer (some ⟨g43, 0, none⟩)), (3, .pointer (some ⟨g44, 0, none⟩))] = e' ∧ (g43, Cl 36 [.int .i64 (0), .int .i64 (0), .int .i64 (0), .int .i64 (0), .int .i64 (0), .int .i64 (0), .int .i64 (0), .int .i64 (0)]) :: (g44, Cl 36 [.int .i64 (s1.Kind), .int .i64 (s1.Session), .int .i64 (s1.No), .int .i64 (x58), .int .i64 (x59), .int .i64 (x60), .int .i64 (x61), .int .i64 (s1.Sent)]) :: R = hp' ∧ b.Le b56) ?_ ?_
  ·
    have hm := hj62
    refine c_seq ?_
    refine c_region ?_
    refine t_st rfl (st_field rfl fld36_0) ?_
    refine t_st rfl (st_load 2 rfl one3 rfl rfl) ?_
    refine t_nil ?_
    refine x_then_normal ?_
    refine c_block ?_
    refine c_seq ?_
    refine c_region ?_
    refine t_st rfl (st_eql rfl rfl) ?_
    refine t_st rfl (st_assign rfl) ?_
    refine t_nil ?_
    refine x_then_normal ?_
    refine c_cond _ rfl (fun hc63 => ?_) (fun hc63 => ?_)
    ·
      rw [if_pos (of_decide_eq_true hc63)] at hm
      refine c_region ?_
      refine t_st rfl (st_field rfl fld36_5) ?_
      refine t_st rfl (st_load 2 rfl one3 rfl rfl) ?_
      refine t_st rfl (st_field rfl fld36_5) ?_
      refine t_do rfl (u_store 0 rfl rfl siz3 rfl rfl (by simp)) ?_
      rintro _ _ rfl
      refine t_nil ?_
      refine x_block_normal ?_
      obtain ⟨rfl, rfl, rfl, rfl⟩ := some4 hm
      refine x_pullb 1 rfl ?_
      exact x_join (e' := [(2, .pointer (some ⟨g43, 0, none⟩)), (3, .pointer (some ⟨g44, 0, none⟩))]) (hp' := (g43, Cl 36 [.int .i64 (0), .int .i64 (0), .int .i64 (0), .int .i64 (0), .int .i64 (0), .int .i64 (0), .int .i64 (0), .int .i64 (0)]) :: (g44, Cl 36 [.int .i64 (s1.Kind), .int .i64 (s1.Session), .int .i64 (s1.No), .int .i64 (0), .int .i64 (0), .int .i64 (s1.At), .int .i64 (0), .int .i64 (s1.Sent)]) :: R) ⟨rfl, rfl, trivial⟩ (.cons_cons _ (.cons_cons _ (.cons _ (.refl _)))) ⟨rfl, rfl, (Base.Le.refl _)⟩
    ·
      rw [if_neg (of_decide_eq_false hc63)] at hm
      refine c_seq ?_
      refine c_region ?_
      refine t_st rfl (st_eql rfl rfl) ?_
      refine t_st rfl (st_assign rfl) ?_
      refine t_nil ?_
      refine x_then_normal ?_
      refine c_cond _ rfl (fun hc64 => ?_) (fun hc64 => ?_)
      ·
        rw [if_pos (of_decide_eq_true hc64)] at hm
        refine D_drawS ((g43, Cl 36 [.int .i64 (0), .int .i64 (0), .int .i64 (0), .int .i64 (0), .int .i64 (0), .int .i64 (0), .int .i64 (0), .int .i64 (0)]) :: (g42, Cl 36 [.int .i64 (s1.Kind), .int .i64 (s1.Session), .int .i64 (s1.No), .int .i64 (s1.Of), .int .i64 (s1.End), .int .i64 (s1.At), .int .i64 (s1.Speed), .int .i64 (s1.Sent)]) :: R) mixed ?_
        refine D_st (Base.Le.refl _) 0 rfl (by kernel_rfl) (by kernel_rfl) (by kernel_rfl) rfl (st_field rfl fld36_4) (.cons _ (.cons_cons _ (.cons_cons _ (.refl _)))) ?_
        refine D_st (Base.Le.refl _) 1 rfl (by kernel_rfl) (by kernel_rfl) (by kernel_rfl) rfl (st_load 1 rfl one3 rfl rfl) (.cons _ (.cons_cons _ (.cons_cons _ (.refl _)))) ?_
        refine D_st (Base.Le.refl _) 2 rfl (by kernel_rfl) (by kernel_rfl) (by kernel_rfl) rfl (st_field rfl fld36_5) (.cons _ (.cons_cons _ (.cons_cons _ (.refl _)))) ?_
        refine D_st (Base.Le.refl _) 3 rfl (by kernel_rfl) (by kernel_rfl) (by kernel_rfl) rfl (st_load 1 rfl one3 rfl rfl) (.cons _ (.cons_cons _ (.cons_cons _ (.refl _)))) ?_
        refine D_st (Base.Le.refl _) 4 rfl (by kernel_rfl) (by kernel_rfl) (by kernel_rfl) rfl (st_field rfl fld36_6) (.cons _ (.cons_cons _ (.cons_cons _ (.refl _)))) ?_
        refine D_st (Base.Le.refl _) 5 rfl (by kernel_rfl) (by kernel_rfl) (by kernel_rfl) rfl (st_load 1 rfl one3 rfl rfl) (.cons _ (.cons_cons _ (.cons_cons _ (.refl _)))) ?_
        refine D_st (Base.Le.refl _) 6 rfl (by kernel_rfl) (by kernel_rfl) (by kernel_rfl) rfl (st_field rfl fld36_4) (.cons _ (.cons_cons _ (.cons_cons _ (.refl _)))) ?_
        refine D_all [7] (by kernel_rfl) rfl ?_
        refine R_do (Base.Le.refl _) rfl rfl (u_store 0 rfl rfl siz3 rfl rfl (by simp)) ?_ ?_
        ·
          rintro _ _ rfl
          refine ⟨.inr (.cons _ (.cons_cons _ (.cons_cons _ (.refl _)))), ?_⟩
          refine D_st (Base.Le.refl _) 8 rfl (by kernel_rfl) (by kernel_rfl) (by kernel_rfl) rfl (st_field rfl fld36_5) (.cons _ (.cons_cons _ (.cons_cons _ (.refl _)))) ?_
          refine D_all [9] (by kernel_rfl) rfl ?_
          refine R_do (Base.Le.refl _) rfl rfl (u_store 0 rfl rfl siz3 rfl rfl (by simp)) ?_ ?_
          ·
            rintro _ _ rfl
            refine ⟨.inr (.cons _ (.cons_cons _ (.cons_cons _ (.refl _)))), ?_⟩
            refine D_st (Base.Le.refl _) 10 rfl (by kernel_rfl) (by kernel_rfl) (by kernel_rfl) rfl (st_field rfl fld36_6) (.cons _ (.cons_cons _ (.cons_cons _ (.refl _)))) ?_
            refine D_all [11] (by kernel_rfl) rfl ?_
            refine R_do (Base.Le.refl _) rfl rfl (u_store 0 rfl rfl siz3 rfl rfl (by simp)) ?_ ?_
            ·
              rintro _ _ rfl
              refine ⟨.inl (by kernel_rfl), ?_⟩
              refine D_done (by kernel_rfl) ?_
              refine x_block_normal ?_
              obtain ⟨rfl, rfl, rfl, rfl⟩ := some4 hm
              refine x_pullb 1 rfl ?_
              exact x_join (e' := [(2, .pointer (some ⟨g43, 0, none⟩)), (3, .pointer (some ⟨g44, 0, none⟩))]) (hp' := (g43, Cl 36 [.int .i64 (0), .int .i64 (0), .int .i64 (0), .int .i64 (0), .int .i64 (0), .int .i64 (0), .int .i64 (0), .int .i64 (0)]) :: (g44, Cl 36 [.int .i64 (s1.Kind), .int .i64 (s1.Session), .int .i64 (s1.No), .int .i64 (0), .int .i64 (s1.End), .int .i64 (s1.At), .int .i64 (s1.Speed), .int .i64 (s1.Sent)]) :: R) ⟨rfl, rfl, trivial⟩ (.cons_cons _ (.cons_cons _ (.cons _ (.refl _)))) ⟨rfl, rfl, (Base.Le.refl _)⟩
            exact R_nil
          exact R_nil
        exact R_nil
      ·
        rw [if_neg (of_decide_eq_false hc64)] at hm
        obtain ⟨x68, hj69, hk69⟩ := bindS hm
        refine c_join (fun b66 e' hp' => [(1, .pointer (some ⟨g42, 0, none⟩)), (2, .pointer (some ⟨g43, 0, none⟩)), (3, .pointer (some ⟨g44, 0, none⟩)), (14, .int .i64 (s1.Kind)), (31, .bool (x68))] = e' ∧ (g42, Cl 36 [.int .i64 (s1.Kind), .int .i64 (s1.Session), .int .i64 (s1.No), .int .i64 (s1.Of), .int .i64 (s1.End), .int .i64 (s1.At), .int .i64 (s1.Speed), .int .i64 (s1.Sent)]) :: (g43, Cl 36 [.int .i64 (0), .int .i64 (0), .int .i64 (0), .int .i64 (0), .int .i64 (0), .int .i64 (0), .int .i64 (0), .int .i64 (0)]) :: (g44, Cl 36 [.int .i64 (s1.Kind), .int .i64 (s1.Session), .int .i64 (s1.No), .int .i64 (0), .int .i64 (0), .int .i64 (0), .int .i64 (0), .int .i64 (s1.Sent)]) :: R = hp' ∧ b.Le b66) ?_ ?_
        ·
          have hm := hj69
          refine c_seq ?_
          refine c_region ?_
          refine t_st rfl (st_eql rfl rfl) ?_
          refine t_st rfl (st_assign rfl) ?_
          refine t_nil ?_
          refine x_then_normal ?_
          refine c_cond _ rfl (fun hc70 => ?_) (fun hc70 => ?_)
          ·
            rw [if_pos (of_decide_eq_true hc70)] at hm
            refine c_skip ?_
            obtain rfl := some1 hm
            refine x_pullb 1 rfl ?_
            refine x_pullb 2 rfl ?_
            exact x_join (e' := [(1, .pointer (some ⟨g42, 0, none⟩)), (2, .pointer (some ⟨g43, 0, none⟩)), (3, .pointer (some ⟨g44, 0, none⟩)), (14, .int .i64 (s1.Kind)), (31, .bool (decide (s1.Kind = 4)))]) (hp' := (g42, Cl 36 [.int .i64 (s1.Kind), .int .i64 (s1.Session), .int .i64 (s1.No), .int .i64 (s1.Of), .int .i64 (s1.End), .int .i64 (s1.At), .int .i64 (s1.Speed), .int .i64 (s1.Sent)]) :: (g43, Cl 36 [.int .i64 (0), .int .i64 (0), .int .i64 (0), .int .i64 (0), .int .i64 (0), .int .i64 (0), .int .i64 (0), .int .i64 (0)]) :: (g44, Cl 36 [.int .i64 (s1.Kind), .int .i64 (s1.Session), .int .i64 (s1.No), .int .i64 (0), .int .i64 (0), .int .i64 (0), .int .i64 (0), .int .i64 (s1.Sent)]) :: R) ⟨rfl, rfl, rfl, rfl, rfl, trivial⟩ (.cons_cons _ (.cons_cons _ (.cons_cons _ (.refl _)))) ⟨rfl, rfl, (Base.Le.refl _)⟩
          ·
            rw [if_neg (of_decide_eq_false hc70)] at hm
            refine c_region ?_
            refine t_st rfl (st_eql rfl rfl) ?_
            refine t_st rfl (st_assign rfl) ?_
            refine t_nil ?_
            obtain rfl := some1 hm
            refine x_pullb 1 rfl ?_
            refine x_pullb 2 rfl ?_
            exact x_join (e' := [(1, .pointer (some ⟨g42, 0, none⟩)), (2, .pointer (some ⟨g43, 0, none⟩)), (3, .pointer (some ⟨g44, 0, none⟩)), (14, .int .i64 (s1.Kind)), (31, .bool (decide (s1.Kind = 5)))]) (hp' := (g42, Cl 36 [.int .i64 (s1.Kind), .int .i64 (s1.Session), .int .i64 (s1.No), .int .i64 (s1.Of), .int .i64 (s1.End), .int .i64 (s1.At), .int .i64 (s1.Speed), .int .i64 (s1.Sent)]) :: (g43, Cl 36 [.int .i64 (0), .int .i64 (0), .int .i64 (0), .int .i64 (0), .int .i64 (0), .int .i64 (0), .int .i64 (0), .int .i64 (0)]) :: (g44, Cl 36 [.int .i64 (s1.Kind), .int .i64 (s1.Session), .int .i64 (s1.No), .int .i64 (0), .int .i64 (0), .int .i64 (0), .int .i64 (0), .int .i64 (s1.Sent)]) :: R) ⟨rfl, rfl, rfl, rfl, rfl, trivial⟩ (.cons_cons _ (.cons_cons _ (.cons_cons _ (.refl _)))) ⟨rfl, rfl, (Base.Le.refl _)⟩
        ·
          rintro b66 _ _ ⟨rfl, rfl, hle67⟩
          have hm := hk69
          refine c_cond _ rfl (fun hc71 => ?_) (fun hc71 => ?_)
          ·
            rw [if_pos hc71] at hm
            refine c_region ?_
            refine t_st rfl (st_field rfl fld36_4) ?_
            refine t_st rfl (st_load 0 rfl one3 rfl rfl) ?_
            refine t_st rfl (st_field rfl fld36_4) ?_
            refine t_do rfl (u_store 2 rfl rfl siz3 rfl rfl (by simp)) ?_
            rintro _ _ rfl
            refine t_nil ?_
            refine x_block_normal ?_
            obtain ⟨rfl, rfl, rfl, rfl⟩ := some4 hm
            refine x_pullb 2 rfl ?_
            refine x_pullb 2 rfl ?_
            exact x_join (e' := [(2, .pointer (some ⟨g43, 0, none⟩)), (3, .pointer (some ⟨g44, 0, none⟩))]) (hp' := (g43, Cl 36 [.int .i64 (0), .int .i64 (0), .int .i64 (0), .int .i64 (0), .int .i64 (0), .int .i64 (0), .int .i64 (0), .int .i64 (0)]) :: (g44, Cl 36 [.int .i64 (s1.Kind), .int .i64 (s1.Session), .int .i64 (s1.No), .int .i64 (0), .int .i64 (s1.End), .int .i64 (0), .int .i64 (0), .int .i64 (s1.Sent)]) :: R) ⟨rfl, rfl, trivial⟩ (.cons_cons _ (.cons_cons _ (.cons _ (.refl _)))) ⟨rfl, rfl, hle67⟩
          ·
            rw [if_neg (fun hh => Bool.noConfusion (hh.symm.trans hc71))] at hm
            refine c_seq ?_
            refine c_region ?_
            refine t_st rfl (st_eql rfl rfl) ?_
            refine t_st rfl (st_assign rfl) ?_
            refine t_nil ?_
            refine x_then_normal ?_
            refine c_cond _ rfl (fun hc72 => ?_) (fun hc72 => ?_)
            ·
              rw [if_pos (of_decide_eq_true hc72)] at hm
              refine D_drawS ((g42, Cl 36 [.int .i64 (s1.Kind), .int .i64 (s1.Session), .int .i64 (s1.No), .int .i64 (s1.Of), .int .i64 (s1.End), .int .i64 (s1.At), .int .i64 (s1.Speed), .int .i64 (s1.Sent)]) :: (g43, Cl 36 [.int .i64 (0), .int .i64 (0), .int .i64 (0), .int .i64 (0), .int .i64 (0), .int .i64 (0), .int .i64 (0), .int .i64 (0)]) :: R) mixed ?_
              refine D_st (Base.Le.refl _) 0 rfl (by kernel_rfl) (by kernel_rfl) (by kernel_rfl) rfl (st_field rfl fld36_3) (.cons_cons _ (.cons_cons _ (.cons _ (.refl _)))) ?_
              refine D_st (Base.Le.refl _) 1 rfl (by kernel_rfl) (by kernel_rfl) (by kernel_rfl) rfl (st_load 0 rfl one3 rfl rfl) (.cons_cons _ (.cons_cons _ (.cons _ (.refl _)))) ?_
              refine D_st (Base.Le.refl _) 2 rfl (by kernel_rfl) (by kernel_rfl) (by kernel_rfl) rfl (st_field rfl fld36_4) (.cons_cons _ (.cons_cons _ (.cons _ (.refl _)))) ?_
              refine D_st (Base.Le.refl _) 3 rfl (by kernel_rfl) (by kernel_rfl) (by kernel_rfl) rfl (st_load 0 rfl one3 rfl rfl) (.cons_cons _ (.cons_cons _ (.cons _ (.refl _)))) ?_
              refine D_st (Base.Le.refl _) 4 rfl (by kernel_rfl) (by kernel_rfl) (by kernel_rfl) rfl (st_field rfl fld36_3) (.cons_cons _ (.cons_cons _ (.cons _ (.refl _)))) ?_
              refine D_all [5] (by kernel_rfl) rfl ?_
              refine R_do (Base.Le.refl _) rfl rfl (u_store 2 rfl rfl siz3 rfl rfl (by simp)) ?_ ?_
              ·
                rintro _ _ rfl
                refine ⟨.inr (.cons_cons _ (.cons_cons _ (.cons _ (.refl _)))), ?_⟩
                refine D_st (Base.Le.refl _) 6 rfl (by kernel_rfl) (by kernel_rfl) (by kernel_rfl) rfl (st_field rfl fld36_4) (.cons_cons _ (.cons_cons _ (.cons _ (.refl _)))) ?_
                refine D_all [7] (by kernel_rfl) rfl ?_
                refine R_do (Base.Le.refl _) rfl rfl (u_store 2 rfl rfl siz3 rfl rfl (by simp)) ?_ ?_
                ·
                  rintro _ _ rfl
                  refine ⟨.inl (by kernel_rfl), ?_⟩
                  refine D_done (by kernel_rfl) ?_
                  refine x_block_normal ?_
                  obtain ⟨rfl, rfl, rfl, rfl⟩ := some4 hm
                  refine x_pullb 2 rfl ?_
                  refine x_pullb 2 rfl ?_
                  exact x_join (e' := [(2, .pointer (some ⟨g43, 0, none⟩)), (3, .pointer (some ⟨g44, 0, none⟩))]) (hp' := (g43, Cl 36 [.int .i64 (0), .int .i64 (0), .int .i64 (0), .int .i64 (0), .int .i64 (0), .int .i64 (0), .int .i64 (0), .int .i64 (0)]) :: (g44, Cl 36 [.int .i64 (s1.Kind), .int .i64 (s1.Session), .int .i64 (s1.No), .int .i64 (s1.Of), .int .i64 (s1.End), .int .i64 (0), .int .i64 (0), .int .i64 (s1.Sent)]) :: R) ⟨rfl, rfl, trivial⟩ (.cons_cons _ (.cons_cons _ (.cons _ (.refl _)))) ⟨rfl, rfl, hle67⟩
                exact R_nil
              exact R_nil
            ·
              rw [if_neg (of_decide_eq_false hc72)] at hm
              refine c_seq ?_
              refine c_region ?_
              refine t_st rfl (st_eql rfl rfl) ?_
              refine t_st rfl (st_assign rfl) ?_
              refine t_nil ?_
              refine x_then_normal ?_
              refine c_cond _ rfl (fun hc73 => ?_) (fun hc73 => ?_)
              ·
                rw [if_pos (of_decide_eq_true hc73)] at hm
                refine c_region ?_
                refine t_st rfl (st_field rfl fld36_3) ?_
                refine t_st rfl (st_load 0 rfl one3 rfl rfl) ?_
                refine t_st rfl (st_field rfl fld36_3) ?_
                refine t_do rfl (u_store 2 rfl rfl siz3 rfl rfl (by simp)) ?_
                rintro _ _ rfl
                refine t_nil ?_
                refine x_block_normal ?_
                obtain ⟨rfl, rfl, rfl, rfl⟩ := some4 hm
                refine x_pullb 2 rfl ?_
                refine x_pullb 2 rfl ?_
                exact x_join (e' := [(2, .pointer (some ⟨g43, 0, none⟩)), (3, .pointer (some ⟨g44, 0, none⟩))]) (hp' := (g43, Cl 36 [.int .i64 (0), .int .i64 (0), .int .i64 (0), .int .i64 (0), .int .i64 (0), .int .i64 (0), .int .i64 (0), .int .i64 (0)]) :: (g44, Cl 36 [.int .i64 (s1.Kind), .int .i64 (s1.Session), .int .i64 (s1.No), .int .i64 (s1.Of), .int .i64 (0), .int .i64 (0), .int .i64 (0), .int .i64 (s1.Sent)]) :: R) ⟨rfl, rfl, trivial⟩ (.cons_cons _ (.cons_cons _ (.cons _ (.refl _)))) ⟨rfl, rfl, hle67⟩
              ·
                rw [if_neg (of_decide_eq_false hc73)] at hm
                refine c_skip ?_
                refine x_block_normal ?_
                obtain ⟨rfl, rfl, rfl, rfl⟩ := some4 hm
                refine x_pullb 2 rfl ?_
                refine x_pullb 2 rfl ?_
                exact x_join (e' := [(2, .pointer (some ⟨g43, 0, none⟩)), (3, .pointer (some ⟨g44, 0, none⟩))]) (hp' := (g43, Cl 36 [.int .i64 (0), .int .i64 (0), .int .i64 (0), .int .i64 (0), .int .i64 (0), .int .i64 (0), .int .i64 (0), .int .i64 (0)]) :: (g44, Cl 36 [.int .i64 (s1.Kind), .int .i64 (s1.Session), .int .i64 (s1.No), .int .i64 (0), .int .i64 (0), .int .i64 (0), .int .i64 (0), .int .i64 (s1.Sent)]) :: R) ⟨rfl, rfl, trivial⟩ (.cons_cons _ (.cons_cons _ (.cons _ (.refl _)))) ⟨rfl, rfl, hle67⟩
  ·
    rintro b56 _ _ ⟨rfl, rfl, hle57⟩
    have hm := (unc4E hk62)
    refine c_seq ?_
    refine c_region ?_
    refine t_st rfl (st_loadD (vs := [_, _, _, _, _, _, _, _]) 1 8 rfl agg36 rfl rfl rfl) ?_
    refine t_do rfl (u_storeN (vs := [_, _, _, _, _, _, _, _]) 0 8 rfl rfl rfl siz36 rfl (by intro u hu; simp only [List.mem_cons, List.not_mem_nil, or_false] at hu; rcases hu with rfl | rfl | rfl | rfl | rfl | rfl | rfl | rfl <;> rfl) rfl (by simp)) ?_
    rintro _ _ rfl
    refine t_nil ?_
    refine x_then_normal ?_
    refine c_ret ?_
    obtain ⟨rfl, rfl, rfl, rfl, rfl, rfl, rfl, rfl⟩ := some8 hm
    exact retM (rs := [.cell 2 36]) [.agg #[.int .i64 (s1.Kind), .int .i64 (s1.Session), .int .i64 (s1.No), .int .i64 (x58), .int .i64 (x59), .int .i64 (x60), .int .i64 (x61), .int .i64 (s1.Sent)]] hle57 (by decide) rfl ⟨⟨_, rfl, fun w ho => cell_agg (vs := [_, _, _, _, _, _, _, _]) 0 8 agg36 rfl rfl rfl w ho⟩, trivial⟩ rfl (hp' := R) (.cons _ (.cons _ (.refl _))) ⟨rfl, rfl⟩

set_option maxRecDepth 20000 in
theorem cGuardPacketCheck (b : Base) (R : Hp) (s1 : GuardPacket) (x108 : Int) (hm : mGuardPacketCheck s1 = some x108) :
    CallsG Tryd.prog 51 [.agg #[.int .i64 (s1.Kind), .int .i64 (s1.Session), .int .i64 (s1.No), .int .i64 (s1.Of), .int .i64 (s1.End), .int .i64 (s1.At), .int .i64 (s1.Speed), .int .i64 (s1.Sent)]] b (R) (fun v b' hp' => .int .i64 (x108) = v ∧ R = hp') := by
  refine fn_enterG 64 Tryd.func51 rfl Tryd.ntmps51 rfl ?_
  unfold mGuardPacketCheck at hm
  refine c_seq ?_
  refine c_region ?_
  refine t_do rfl (u_box _ rfl rfl) ?_
  rintro _ _ ⟨g109, rfl, rfl⟩
  refine t_st rfl (st_assign rfl) ?_
  refine t_nil ?_
  refine x_then_normal ?_
  refine c_seq ?_
  refine c_block ?_
  refine c_seq ?_
  refine c_region ?_
  refine t_st rfl (st_field rfl fld36_0) ?_
  refine t_st rfl (st_load 0 rfl one3 rfl rfl) ?_
  obtain ⟨x110, hcl111, hm⟩ := bindS hm
  refine t_do rfl (u_callW0 _ call63 rfl (fun w ho => cGuardWithin _ [] s1.Kind 1 8 x110 hcl111) (fun _ _ _ h => h.2.symm)) ?_
  rintro _ _ ⟨⟨_, rfl, _⟩, rfl⟩
  refine t_st rfl (st_not rfl) ?_
  refine t_st rfl (st_assign rfl) ?_
  refine t_nil ?_
  refine x_then_normal ?_
  refine c_cond _ rfl (fun hc112 => ?_) (fun hc112 => ?_)
  ·
    rw [if_neg (fun hh => Bool.noConfusion (hh.symm.trans (notT hc112)))] at hm
    refine c_seq ?_
    refine c_region ?_
    refine t_st rfl (st_assign rfl) ?_
    refine t_nil ?_
    refine x_then_normal ?_
    refine c_ret ?_
    refine x_block_ret ?_
    refine x_then_ret ?_
    obtain rfl := some1 hm
    exact retM (rs := [.tmp 2]) [.int .i64 (15)] (Base.Le.refl _) (by decide) rfl ⟨rfl, trivial⟩ rfl (hp' := R) (.cons _ (.refl _)) ⟨rfl, rfl⟩
  ·
    rw [if_pos (notF hc112)] at hm
    obtain ⟨x135, hj136, hk136⟩ := bindS hm
    refine c_join (fun b133 e' hp' => [(1, .pointer (some ⟨g109, 0, none⟩)), (8, .bool (x135))] = e' ∧ (g109, Cl 36 [.int .i64 (s1.Kind), .int .i64 (s1.Session), .int .i64 (s1.No), .int .i64 (s1.Of), .int .i64 (s1.End), .int .i64 (s1.At), .int .i64 (s1.Speed), .int .i64 (s1.Sent)]) :: R = hp' ∧ b.Le b133) ?_ ?_
    ·
      have hm := hj136
      refine c_region ?_
      refine t_st rfl (st_field rfl fld36_1) ?_
      refine t_st rfl (st_load 0 rfl one3 rfl rfl) ?_
      obtain ⟨x137, hcl138, hm⟩ := bindS hm
      refine t_do rfl (u_callW0 _ call63 rfl (fun w ho => cGuardWithin _ [] s1.Session 1 1000000 x137 hcl138) (fun _ _ _ h => h.2.symm)) ?_
      rintro _ _ ⟨⟨_, rfl, _⟩, rfl⟩
      rcases Bool.eq_false_or_eq_true x137 with hc139 | hc139
      ·
        rw [if_pos hc139] at hm
        refine t_resp 11 rfl (v' := .bool true) (by rw [hc139] <;> rfl) ?_
        refine t_st rfl (st_not_t rfl) ?_
        refine t_st rfl (st_move rfl) ?_
        refine t_yes 13 rfl rfl rfl ?_
        refine t_st rfl (st_field rfl fld36_2) ?_
        refine t_yes 13 rfl rfl rfl ?_
        refine t_st rfl (st_load 0 rfl one3 rfl rfl) ?_
        refine t_yes 13 rfl rfl rfl ?_
        obtain ⟨x140, hcl141, hm⟩ := bindS hm
        refine t_do rfl (u_callW0 _ call63 rfl (fun w ho => cGuardWithin _ [] s1.No 1 1000000 x140 hcl141) (fun _ _ _ h => h.2.symm)) ?_
        rintro _ _ ⟨⟨_, rfl, _⟩, rfl⟩
        rcases Bool.eq_false_or_eq_true x140 with hc142 | hc142
        ·
          rw [if_pos hc142] at hm
          refine t_resp 16 rfl (v' := .bool true) (by rw [hc142] <;> rfl) ?_
          refine t_yes 13 rfl rfl rfl ?_
          refine t_st rfl (st_not_t rfl) ?_
          refine t_st rfl (st_pick_f rfl rfl) ?_
          refine t_st rfl (st_move rfl) ?_
          refine t_yes 19 rfl rfl rfl ?_
          refine t_st rfl (st_field rfl fld36_3) ?_
          refine t_yes 19 rfl rfl rfl ?_
          refine t_st rfl (st_load 0 rfl one3 rfl rfl) ?_
          refine t_yes 19 rfl rfl rfl ?_
          obtain ⟨x143, hcl144, hm⟩ := bindS hm
          refine t_do rfl (u_callW0 _ call63 rfl (fun w ho => cGuardWithin _ [] s1.Of 0 1000000 x143 hcl144) (fun _ _ _ h => h.2.symm)) ?_
          rintro _ _ ⟨⟨_, rfl, _⟩, rfl⟩
          rcases Bool.eq_false_or_eq_true x143 with hc145 | hc145
          ·
            rw [if_pos hc145] at hm
            refine t_resp 22 rfl (v' := .bool true) (by rw [hc145] <;> rfl) ?_
            refine t_yes 19 rfl rfl rfl ?_
            refine t_st rfl (st_not_t rfl) ?_
            refine t_st rfl (st_pick_f rfl rfl) ?_
            refine t_st rfl (st_move rfl) ?_
            refine t_yes 25 rfl rfl rfl ?_
            refine t_st rfl (st_field rfl fld36_4) ?_
            refine t_yes 25 rfl rfl rfl ?_
            refine t_st rfl (st_load 0 rfl one3 rfl rfl) ?_
            refine t_yes 25 rfl rfl rfl ?_
            obtain ⟨x146, hcl147, hm⟩ := bindS hm
            refine t_do rfl (u_callW0 _ call63 rfl (fun w ho => cGuardWithin _ [] s1.End 0 20000000 x146 hcl147) (fun _ _ _ h => h.2.symm)) ?_
            rintro _ _ ⟨⟨_, rfl, _⟩, rfl⟩
            rcases Bool.eq_false_or_eq_true x146 with hc148 | hc148
            ·
              rw [if_pos hc148] at hm
              refine t_resp 28 rfl (v' := .bool true) (by rw [hc148] <;> rfl) ?_
              refine t_yes 25 rfl rfl rfl ?_
              refine t_st rfl (st_not_t rfl) ?_
              refine t_st rfl (st_pick_f rfl rfl) ?_
              refine t_st rfl (st_move rfl) ?_
              refine t_yes 31 rfl rfl rfl ?_
              refine t_st rfl (st_field rfl fld36_5) ?_
              refine t_yes 31 rfl rfl rfl ?_
              refine t_st rfl (st_load 0 rfl one3 rfl rfl) ?_
              refine t_yes 31 rfl rfl rfl ?_
              obtain ⟨x149, hcl150, hm⟩ := bindS hm
              refine t_do rfl (u_callW0 _ call63 rfl (fun w ho => cGuardWithin _ [] s1.At 0 20000000 x149 hcl150) (fun _ _ _ h => h.2.symm)) ?_
              rintro _ _ ⟨⟨_, rfl, _⟩, rfl⟩
              rcases Bool.eq_false_or_eq_true x149 with hc151 | hc151
              ·
                rw [if_pos hc151] at hm
                refine t_resp 34 rfl (v' := .bool true) (by rw [hc151] <;> rfl) ?_
                refine t_yes 31 rfl rfl rfl ?_
                refine t_st rfl (st_not_t rfl) ?_
                refine t_st rfl (st_pick_f rfl rfl) ?_
                refine t_st rfl (st_move rfl) ?_
                refine t_yes 37 rfl rfl rfl ?_
                refine t_st rfl (st_field rfl fld36_6) ?_
                refine t_yes 37 rfl rfl rfl ?_
                refine t_st rfl (st_load 0 rfl one3 rfl rfl) ?_
                refine t_yes 37 rfl rfl rfl ?_
                obtain ⟨x152, hcl153, hm⟩ := bindS hm
                refine t_do rfl (u_callW0 _ call63 rfl (fun w ho => cGuardWithin _ [] s1.Speed 0 6000 x152 hcl153) (fun _ _ _ h => h.2.symm)) ?_
                rintro _ _ ⟨⟨_, rfl, _⟩, rfl⟩
                rcases Bool.eq_false_or_eq_true x152 with hc154 | hc154
                ·
                  rw [if_pos hc154] at hm
                  refine t_resp 40 rfl (v' := .bool true) (by rw [hc154] <;> rfl) ?_
                  refine t_yes 37 rfl rfl rfl ?_
                  refine t_st rfl (st_not_t rfl) ?_
                  refine t_st rfl (st_pick_f rfl rfl) ?_
                  refine t_st rfl (st_move rfl) ?_
                  refine t_yes 43 rfl rfl rfl ?_
                  refine t_st rfl (st_field rfl fld36_7) ?_
                  refine t_yes 43 rfl rfl rfl ?_
                  refine t_st rfl (st_load 0 rfl one3 rfl rfl) ?_
                  refine t_yes 43 rfl rfl rfl ?_
                  obtain ⟨x155, hcl156, hm⟩ := bindS hm
                  refine t_do rfl (u_callW0 _ call63 rfl (fun w ho => cGuardWithin _ [] s1.Sent 0 28800 x155 hcl156) (fun _ _ _ h => h.2.symm)) ?_
                  rintro _ _ ⟨⟨_, rfl, _⟩, rfl⟩
                  refine t_yes 43 rfl rfl rfl ?_
                  refine t_st rfl (st_not rfl) ?_
                  refine t_st rfl (st_pick_f rfl rfl) ?_
                  refine t_st rfl (st_assign rfl) ?_
                  refine t_nil ?_
                  obtain rfl := some1 hm
                  exact x_join (e' := [(1, .pointer (some ⟨g109, 0, none⟩)), (8, .bool (!x155))]) (hp' := (g109, Cl 36 [.int .i64 (s1.Kind), .int .i64 (s1.Session), .int .i64 (s1.No), .int .i64 (s1.Of), .int .i64 (s1.End), .int .i64 (s1.At), .int .i64 (s1.Speed), .int .i64 (s1.Sent)]) :: R) ⟨rfl, rfl, trivial⟩ (.cons_cons _ (.refl _)) ⟨rfl, rfl, (Base.Le.refl _)⟩
                ·
                  rw [if_neg (fun hh => Bool.noConfusion (hh.symm.trans hc154))] at hm
                  refine t_resp 40 rfl (v' := .bool false) (by rw [hc154] <;> rfl) ?_
                  refine t_yes 37 rfl rfl rfl ?_
                  refine t_st rfl (st_not_f rfl) ?_
                  refine t_st rfl (st_pick_f rfl rfl) ?_
                  refine t_st rfl (st_move rfl) ?_
                  refine t_no 43 rfl rfl rfl rfl rfl ?_
                  refine t_no 43 rfl rfl rfl rfl rfl ?_
                  refine t_no 43 rfl rfl rfl rfl rfl ?_
                  refine t_no 43 rfl rfl rfl rfl rfl ?_
                  refine t_st rfl (st_pick_t rfl rfl) ?_
                  refine t_st rfl (st_assign rfl) ?_
                  refine t_nil ?_
                  obtain rfl := some1 hm
                  exact x_join (e' := [(1, .pointer (some ⟨g109, 0, none⟩)), (8, .bool (true))]) (hp' := (g109, Cl 36 [.int .i64 (s1.Kind), .int .i64 (s1.Session), .int .i64 (s1.No), .int .i64 (s1.Of), .int .i64 (s1.End), .int .i64 (s1.At), .int .i64 (s1.Speed), .int .i64 (s1.Sent)]) :: R) ⟨rfl, rfl, trivial⟩ (.cons_cons _ (.refl _)) ⟨rfl, rfl, (Base.Le.refl _)⟩
              ·
                rw [if_neg (fun hh => Bool.noConfusion (hh.symm.trans hc151))] at hm
                refine t_resp 34 rfl (v' := .bool false) (by rw [hc151] <;> rfl) ?_
                refine t_yes 31 rfl rfl rfl ?_
                refine t_st rfl (st_not_f rfl) ?_
                refine t_st rfl (st_pick_f rfl rfl) ?_
                refine t_st rfl (st_move rfl) ?_
                refine t_no 37 rfl rfl rfl rfl rfl ?_
                refine t_no 37 rfl rfl rfl rfl rfl ?_
                refine t_no 37 rfl rfl rfl rfl rfl ?_
                refine t_no 37 rfl rfl rfl rfl rfl ?_
                refine t_st rfl (st_pick_t rfl rfl) ?_
                refine t_st rfl (st_move rfl) ?_
                refine t_no 43 rfl rfl rfl rfl rfl ?_
                refine t_no 43 rfl rfl rfl rfl rfl ?_
                refine t_no 43 rfl rfl rfl rfl rfl ?_
                refine t_no 43 rfl rfl rfl rfl rfl ?_
                refine t_st rfl (st_pick_t rfl rfl) ?_
                refine t_st rfl (st_assign rfl) ?_
                refine t_nil ?_
                obtain rfl := some1 hm
                exact x_join (e' := [(1, .pointer (some ⟨g109, 0, none⟩)), (8, .bool (true))]) (hp' := (g109, Cl 36 [.int .i64 (s1.Kind), .int .i64 (s1.Session), .int .i64 (s1.No), .int .i64 (s1.Of), .int .i64 (s1.End), .int .i64 (s1.At), .int .i64 (s1.Speed), .int .i64 (s1.Sent)]) :: R) ⟨rfl, rfl, trivial⟩ (.cons_cons _ (.refl _)) ⟨rfl, rfl, (Base.Le.refl _)⟩
            ·
              rw [if_neg (fun hh => Bool.noConfusion (hh.symm.trans hc148))] at hm
              refine t_resp 28 rfl (v' := .bool false) (by rw [hc148] <;> rfl) ?_
              refine t_yes 25 rfl rfl rfl ?_
              refine t_st rfl (st_not_f rfl) ?_
              refine t_st rfl (st_pick_f rfl rfl) ?_
              refine t_st rfl (st_move rfl) ?_
              refine t_no 31 rfl rfl rfl rfl rfl ?_
              refine t_no 31 rfl rfl rfl rfl rfl ?_
              refine t_no 31 rfl rfl rfl rfl rfl ?_
              refine t_no 31 rfl rfl rfl rfl rfl ?_
              refine t_st rfl (st_pick_t rfl rfl) ?_
              refine t_st rfl (st_move rfl) ?_
              refine t_no 37 rfl rfl rfl rfl rfl ?_
              refine t_no 37 rfl rfl rfl rfl rfl ?_
              refine t_no 37 rfl rfl rfl rfl rfl ?_
              refine t_no 37 rfl rfl rfl rfl rfl ?_
              refine t_st rfl (st_pick_t rfl rfl) ?_
              refine t_st rfl (st_move rfl) ?_
              refine t_no 43 rfl rfl rfl rfl rfl ?_
              refine t_no 43 rfl rfl rfl rfl rfl ?_
              refine t_no 43 rfl rfl rfl rfl rfl ?_
              refine t_no 43 rfl rfl rfl rfl rfl ?_
              refine t_st rfl (st_pick_t rfl rfl) ?_
              refine t_st rfl (st_assign rfl) ?_
              refine t_nil ?_
              obtain rfl := some1 hm
              exact x_join (e' := [(1, .pointer (some ⟨g109, 0, none⟩)), (8, .bool (true))]) (hp' := (g109, Cl 36 [.int .i64 (s1.Kind), .int .i64 (s1.Session), .int .i64 (s1.No), .int .i64 (s1.Of), .int .i64 (s1.End), .int .i64 (s1.At), .int .i64 (s1.Speed), .int .i64 (s1.Sent)]) :: R) ⟨rfl, rfl, trivial⟩ (.cons_cons _ (.refl _)) ⟨rfl, rfl, (Base.Le.refl _)⟩
          ·
            rw [if_neg (fun hh => Bool.noConfusion (hh.symm.trans hc145))] at hm
            refine t_resp 22 rfl (v' := .bool false) (by rw [hc145] <;> rfl) ?_
            refine t_yes 19 rfl rfl rfl ?_
            refine t_st rfl (st_not_f rfl) ?_
            refine t_st rfl (st_pick_f rfl rfl) ?_
            refine t_st rfl (st_move rfl) ?_
            refine t_no 25 rfl rfl rfl rfl rfl ?_
            refine t_no 25 rfl rfl rfl rfl rfl ?_
            refine t_no 25 rfl rfl rfl rfl rfl ?_
            refine t_no 25 rfl rfl rfl rfl rfl ?_
            refine t_st rfl (st_pick_t rfl rfl) ?_
            refine t_st rfl (st_move rfl) ?_
            refine t_no 31 rfl rfl rfl rfl rfl ?_
            refine t_no 31 rfl rfl rfl rfl rfl ?_
            refine t_no 31 rfl rfl rfl rfl rfl ?_
            refine t_no 31 rfl rfl rfl rfl rfl ?_
            refine t_st rfl (st_pick_t rfl rfl) ?_
            refine t_st rfl (st_move rfl) ?_
            refine t_no 37 rfl rfl rfl rfl rfl ?_
            refine t_no 37 rfl rfl rfl rfl rfl ?_
            refine t_no 37 rfl rfl rfl rfl rfl ?_
            refine t_no 37 rfl rfl rfl rfl rfl ?_
            refine t_st rfl (st_pick_t rfl rfl) ?_
            refine t_st rfl (st_move rfl) ?_
            refine t_no 43 rfl rfl rfl rfl rfl ?_
            refine t_no 43 rfl rfl rfl rfl rfl ?_
            refine t_no 43 rfl rfl rfl rfl rfl ?_
            refine t_no 43 rfl rfl rfl rfl rfl ?_
            refine t_st rfl (st_pick_t rfl rfl) ?_
            refine t_st rfl (st_assign rfl) ?_
            refine t_nil ?_
            obtain rfl := some1 hm
            exact x_join (e' := [(1, .pointer (some ⟨g109, 0, none⟩)), (8, .bool (true))]) (hp' := (g109, Cl 36 [.int .i64 (s1.Kind), .int .i64 (s1.Session), .int .i64 (s1.No), .int .i64 (s1.Of), .int .i64 (s1.End), .int .i64 (s1.At), .int .i64 (s1.Speed), .int .i64 (s1.Sent)]) :: R) ⟨rfl, rfl, trivial⟩ (.cons_cons _ (.refl _)) ⟨rfl, rfl, (Base.Le.refl _)⟩
        ·
          rw [if_neg (fun hh => Bool.noConfusion (hh.symm.trans hc142))] at hm
          refine t_resp 16 rfl (v' := .bool false) (by rw [hc142] <;> rfl) ?_
          refine t_yes 13 rfl rfl rfl ?_
          refine t_st rfl (st_not_f rfl) ?_
          refine t_st rfl (st_pick_f rfl rfl) ?_
          refine t_st rfl (st_move rfl) ?_
          refine t_no 19 rfl rfl rfl rfl rfl ?_
          refine t_no 19 rfl rfl rfl rfl rfl ?_
          refine t_no 19 rfl rfl rfl rfl rfl ?_
          refine t_no 19 rfl rfl rfl rfl rfl ?_
          refine t_st rfl (st_pick_t rfl rfl) ?_
          refine t_st rfl (st_move rfl) ?_
          refine t_no 25 rfl rfl rfl rfl rfl ?_
          refine t_no 25 rfl rfl rfl rfl rfl ?_
          refine t_no 25 rfl rfl rfl rfl rfl ?_
          refine t_no 25 rfl rfl rfl rfl rfl ?_
          refine t_st rfl (st_pick_t rfl rfl) ?_
          refine t_st rfl (st_move rfl) ?_
          refine t_no 31 rfl rfl rfl rfl rfl ?_
          refine t_no 31 rfl rfl rfl rfl rfl ?_
          refine t_no 31 rfl rfl rfl rfl rfl ?_
          refine t_no 31 rfl rfl rfl rfl rfl ?_
          refine t_st rfl (st_pick_t rfl rfl) ?_
          refine t_st rfl (st_move rfl) ?_
          refine t_no 37 rfl rfl rfl rfl rfl ?_
          refine t_no 37 rfl rfl rfl rfl rfl ?_
          refine t_no 37 rfl rfl rfl rfl rfl ?_
          refine t_no 37 rfl rfl rfl rfl rfl ?_
          refine t_st rfl (st_pick_t rfl rfl) ?_
          refine t_st rfl (st_move rfl) ?_
          refine t_no 43 rfl rfl rfl rfl rfl ?_
          refine t_no 43 rfl rfl rfl rfl rfl ?_
          refine t_no 43 rfl rfl rfl rfl rfl ?_
          refine t_no 43 rfl rfl rfl rfl rfl ?_
          refine t_st rfl (st_pick_t rfl rfl) ?_
          refine t_st rfl (st_assign rfl) ?_
          refine t_nil ?_
          obtain rfl := some1 hm
          exact x_join (e' := [(1, .pointer (some ⟨g109, 0, none⟩)), (8, .bool (true))]) (hp' := (g109, Cl 36 [.int .i64 (s1.Kind), .int .i64 (s1.Session), .int .i64 (s1.No), .int .i64 (s1.Of), .int .i64 (s1.End), .int .i64 (s1.At), .int .i64 (s1.Speed), .int .i64 (s1.Sent)]) :: R) ⟨rfl, rfl, trivial⟩ (.cons_cons _ (.refl _)) ⟨rfl, rfl, (Base.Le.refl _)⟩
      ·
        rw [if_neg (fun hh => Bool.noConfusion (hh.symm.trans hc139))] at hm
        refine t_resp 11 rfl (v' := .bool false) (by rw [hc139] <;> rfl) ?_
        refine t_st rfl (st_not_f rfl) ?_
        refine t_st rfl (st_move rfl) ?_
        refine t_no 13 rfl rfl rfl rfl rfl ?_
        refine t_no 13 rfl rfl rfl rfl rfl ?_
        refine t_no 13 rfl rfl rfl rfl rfl ?_
        refine t_no 13 rfl rfl rfl rfl rfl ?_
        refine t_st rfl (st_pick_t rfl rfl) ?_
        refine t_st rfl (st_move rfl) ?_
        refine t_no 19 rfl rfl rfl rfl rfl ?_
        refine t_no 19 rfl rfl rfl rfl rfl ?_
        refine t_no 19 rfl rfl rfl rfl rfl ?_
        refine t_no 19 rfl rfl rfl rfl rfl ?_
        refine t_st rfl (st_pick_t rfl rfl) ?_
        refine t_st rfl (st_move rfl) ?_
        refine t_no 25 rfl rfl rfl rfl rfl ?_
        refine t_no 25 rfl rfl rfl rfl rfl ?_
        refine t_no 25 rfl rfl rfl rfl rfl ?_
        refine t_no 25 rfl rfl rfl rfl rfl ?_
        refine t_st rfl (st_pick_t rfl rfl) ?_
        refine t_st rfl (st_move rfl) ?_
        refine t_no 31 rfl rfl rfl rfl rfl ?_
        refine t_no 31 rfl rfl rfl rfl rfl ?_
        refine t_no 31 rfl rfl rfl rfl rfl ?_
        refine t_no 31 rfl rfl rfl rfl rfl ?_
        refine t_st rfl (st_pick_t rfl rfl) ?_
        refine t_st rfl (st_move rfl) ?_
        refine t_no 37 rfl rfl rfl rfl rfl ?_
        refine t_no 37 rfl rfl rfl rfl rfl ?_
        refine t_no 37 rfl rfl rfl rfl rfl ?_
        refine t_no 37 rfl rfl rfl rfl rfl ?_
        refine t_st rfl (st_pick_t rfl rfl) ?_
        refine t_st rfl (st_move rfl) ?_
        refine t_no 43 rfl rfl rfl rfl rfl ?_
        refine t_no 43 rfl rfl rfl rfl rfl ?_
        refine t_no 43 rfl rfl rfl rfl rfl ?_
        refine t_no 43 rfl rfl rfl rfl rfl ?_
        refine t_st rfl (st_pick_t rfl rfl) ?_
        refine t_st rfl (st_assign rfl) ?_
        refine t_nil ?_
        obtain rfl := some1 hm
        exact x_join (e' := [(1, .pointer (some ⟨g109, 0, none⟩)), (8, .bool (true))]) (hp' := (g109, Cl 36 [.int .i64 (s1.Kind), .int .i64 (s1.Session), .int .i64 (s1.No), .int .i64 (s1.Of), .int .i64 (s1.End), .int .i64 (s1.At), .int .i64 (s1.Speed), .int .i64 (s1.Sent)]) :: R) ⟨rfl, rfl, trivial⟩ (.cons_cons _ (.refl _)) ⟨rfl, rfl, (Base.Le.refl _)⟩
    ·
      rintro b133 _ _ ⟨rfl, rfl, hle134⟩
      have hm := hk136
      refine c_cond _ rfl (fun hc157 => ?_) (fun hc157 => ?_)
      ·
        rw [if_pos hc157] at hm
        refine c_seq ?_
        refine c_region ?_
        refine t_st rfl (st_assign rfl) ?_
        refine t_nil ?_
        refine x_then_normal ?_
        refine c_ret ?_
        refine x_block_ret ?_
        refine x_then_ret ?_
        obtain rfl := some1 hm
        exact retM (rs := [.tmp 2]) [.int .i64 (2)] hle134 (by decide) rfl ⟨rfl, trivial⟩ rfl (hp' := R) (.cons _ (.refl _)) ⟨rfl, rfl⟩
      ·
        rw [if_neg (fun hh => Bool.noConfusion (hh.symm.trans hc157))] at hm
        obtain ⟨x186, hj187, hk187⟩ := bindS hm
        refine c_join (fun b184 e' hp' => [(49, .bool (x186))] = e' ∧ R = hp' ∧ b133.Le b184) ?_ ?_
        ·
          have hm := hj187
          obtain ⟨⟨x201, x202, x203, x204, x205, x206, x207, x208⟩, hcl209, hm⟩ := bindS hm
          have hm := (unc8E hm)
          rcases Bool.eq_false_or_eq_true (!(decide (s1.Kind = x201 ∧ s1.Session = x202 ∧ s1.No = x203 ∧ s1.Of = x204 ∧ s1.End = x205 ∧ s1.At = x206 ∧ s1.Speed = x207 ∧ s1.Sent = x208))) with hc212 | hc212
          ·
            rw [if_neg (of_decide_eq_false (notT hc212))] at hm
            refine D_drawS ((g109, Cl 36 [.int .i64 (s1.Kind), .int .i64 (s1.Session), .int .i64 (s1.No), .int .i64 (s1.Of), .int .i64 (s1.End), .int .i64 (s1.At), .int .i64 (s1.Speed), .int .i64 (s1.Sent)]) :: R) mixed ?_
            refine D_st (Base.Le.refl _) 0 rfl (by kernel_rfl) (by kernel_rfl) (by kernel_rfl) rfl (st_loadD (vs := [_, _, _, _, _, _, _, _]) 0 8 rfl agg36 rfl rfl rfl) (.cons_cons _ (.refl _)) ?_
            refine D_st (Base.Le.refl _) 1 rfl (by kernel_rfl) (by kernel_rfl) (by kernel_rfl) rfl (st_loadD (vs := [_, _, _, _, _, _, _, _]) 0 8 rfl agg36 rfl rfl rfl) (.cons_cons _ (.refl _)) ?_
            refine D_all [2] (by kernel_rfl) rfl ?_
            refine R_callGl (Base.Le.refl _) rfl rfl _ call75 rfl (cGuardPacketUsed _ _ s1 x201 x202 x203 x204 x205 x206 x207 x208 hcl209) ?_ ?_
            ·
              rintro _ b210 _ hle211 ⟨rfl, rfl⟩
              refine ⟨.inr (.cons_cons _ (.refl _)), ?_⟩
              refine D_st hle211 3 rfl (by kernel_rfl) (by kernel_rfl) (by kernel_rfl) rfl (stB (st_neqA (xs := [.int .i64 (s1.Kind), .int .i64 (s1.Session), .int .i64 (s1.No), .int .i64 (s1.Of), .int .i64 (s1.End), .int .i64 (s1.At), .int .i64 (s1.Speed), .int .i64 (s1.Sent)]) (ys := [.int .i64 (x201), .int .i64 (x202), .int .i64 (x203), .int .i64 (x204), .int .i64 (x205), .int .i64 (x206), .int .i64 (x207), .int .i64 (x208)]) (p := s1.Kind = x201 ∧ s1.Session = x202 ∧ s1.No = x203 ∧ s1.Of = x204 ∧ s1.End = x205 ∧ s1.At = x206 ∧ s1.Speed = x207 ∧ s1.Sent = x208) rfl rfl eqt36 ⟨⟨_, rfl⟩, ⟨⟨_, rfl⟩, ⟨⟨_, rfl⟩, ⟨⟨_, rfl⟩, ⟨⟨_, rfl⟩, ⟨⟨_, rfl⟩, ⟨⟨_, rfl⟩, ⟨⟨_, rfl⟩, trivial⟩⟩⟩⟩⟩⟩⟩⟩ ⟨⟨_, rfl⟩, ⟨⟨_, rfl⟩, ⟨⟨_, rfl⟩, ⟨⟨_, rfl⟩, ⟨⟨_, rfl⟩, ⟨⟨_, rfl⟩, ⟨⟨_, rfl⟩, ⟨⟨_, rfl⟩, trivial⟩⟩⟩⟩⟩⟩⟩⟩ (by simp [eqCells, eqCell, Bool.decide_and, beq_dec])) hc212) (.cons_cons _ (.refl _)) ?_
              refine D_st hle211 4 rfl (by kernel_rfl) (by kernel_rfl) (by kernel_rfl) rfl (st_move rfl) (.cons_cons _ (.refl _)) ?_
              refine D_no hle211 5 54 rfl (by kernel_rfl) (by kernel_rfl) (by kernel_rfl) rfl rfl rfl rfl rfl (.cons_cons _ (.refl _)) ?_
              refine D_no hle211 6 54 rfl (by kernel_rfl) (by kernel_rfl) (by kernel_rfl) rfl rfl rfl rfl rfl (.cons_cons _ (.refl _)) ?_
              refine D_no hle211 7 54 rfl (by kernel_rfl) (by kernel_rfl) (by kernel_rfl) rfl rfl rfl rfl rfl (.cons_cons _ (.refl _)) ?_
              refine D_no hle211 8 54 rfl (by kernel_rfl) (by kernel_rfl) (by kernel_rfl) rfl rfl rfl rfl rfl (.cons_cons _ (.refl _)) ?_
              refine D_no hle211 9 58 rfl (by kernel_rfl) (by kernel_rfl) (by kernel_rfl) rfl rfl rfl rfl rfl (.cons_cons _ (.refl _)) ?_
              refine D_no hle211 10 58 rfl (by kernel_rfl) (by kernel_rfl) (by kernel_rfl) rfl rfl rfl rfl rfl (.cons_cons _ (.refl _)) ?_
              refine D_no hle211 11 58 rfl (by kernel_rfl) (by kernel_rfl) (by kernel_rfl) rfl rfl rfl rfl rfl (.cons_cons _ (.refl _)) ?_
              refine D_no hle211 12 54 rfl (by kernel_rfl) (by kernel_rfl) (by kernel_rfl) rfl rfl rfl rfl rfl (.cons_cons _ (.refl _)) ?_
              refine D_st hle211 13 rfl (by kernel_rfl) (by kernel_rfl) (by kernel_rfl) rfl (st_pick_t rfl rfl) (.cons_cons _ (.refl _)) ?_
              refine D_st hle211 14 rfl (by kernel_rfl) (by kernel_rfl) (by kernel_rfl) rfl (st_assign rfl) (.cons_cons _ (.refl _)) ?_
              refine D_done (by kernel_rfl) ?_
              obtain rfl := some1 hm
              exact x_join (e' := [(49, .bool (true))]) (hp' := R) ⟨rfl, trivial⟩ (.cons _ (.refl _)) ⟨rfl, rfl, hle211⟩
            exact R_nil
          ·
            rw [if_pos (of_decide_eq_true (notF hc212))] at hm
            by_cases hc213 : s1.Of = 0
            ·
              rw [if_pos hc213] at hm
              refine D_drawS ((g109, Cl 36 [.int .i64 (s1.Kind), .int .i64 (s1.Session), .int .i64 (s1.No), .int .i64 (s1.Of), .int .i64 (s1.End), .int .i64 (s1.At), .int .i64 (s1.Speed), .int .i64 (s1.Sent)]) :: R) mixed ?_
              refine D_st (Base.Le.refl _) 0 rfl (by kernel_rfl) (by kernel_rfl) (by kernel_rfl) rfl (st_loadD (vs := [_, _, _, _, _, _, _, _]) 0 8 rfl agg36 rfl rfl rfl) (.cons_cons _ (.refl _)) ?_
              refine D_st (Base.Le.refl _) 1 rfl (by kernel_rfl) (by kernel_rfl) (by kernel_rfl) rfl (st_loadD (vs := [_, _, _, _, _, _, _, _]) 0 8 rfl agg36 rfl rfl rfl) (.cons_cons _ (.refl _)) ?_
              refine D_all [2] (by kernel_rfl) rfl ?_
              refine R_callGl (Base.Le.refl _) rfl rfl _ call75 rfl (cGuardPacketUsed _ _ s1 x201 x202 x203 x204 x205 x206 x207 x208 hcl209) ?_ ?_
              ·
                rintro _ b210 _ hle211 ⟨rfl, rfl⟩
                refine ⟨.inr (.cons_cons _ (.refl _)), ?_⟩
                refine D_st hle211 3 rfl (by kernel_rfl) (by kernel_rfl) (by kernel_rfl) rfl (stB (st_neqA (xs := [.int .i64 (s1.Kind), .int .i64 (s1.Session), .int .i64 (s1.No), .int .i64 (s1.Of), .int .i64 (s1.End), .int .i64 (s1.At), .int .i64 (s1.Speed), .int .i64 (s1.Sent)]) (ys := [.int .i64 (x201), .int .i64 (x202), .int .i64 (x203), .int .i64 (x204), .int .i64 (x205), .int .i64 (x206), .int .i64 (x207), .int .i64 (x208)]) (p := s1.Kind = x201 ∧ s1.Session = x202 ∧ s1.No = x203 ∧ s1.Of = x204 ∧ s1.End = x205 ∧ s1.At = x206 ∧ s1.Speed = x207 ∧ s1.Sent = x208) rfl rfl eqt36 ⟨⟨_, rfl⟩, ⟨⟨_, rfl⟩, ⟨⟨_, rfl⟩, ⟨⟨_, rfl⟩, ⟨⟨_, rfl⟩, ⟨⟨_, rfl⟩, ⟨⟨_, rfl⟩, ⟨⟨_, rfl⟩, trivial⟩⟩⟩⟩⟩⟩⟩⟩ ⟨⟨_, rfl⟩, ⟨⟨_, rfl⟩, ⟨⟨_, rfl⟩, ⟨⟨_, rfl⟩, ⟨⟨_, rfl⟩, ⟨⟨_, rfl⟩, ⟨⟨_, rfl⟩, ⟨⟨_, rfl⟩, trivial⟩⟩⟩⟩⟩⟩⟩⟩ (by simp [eqCells, eqCell, Bool.decide_and, beq_dec])) hc212) (.cons_cons _ (.refl _)) ?_
                refine D_st hle211 4 rfl (by kernel_rfl) (by kernel_rfl) (by kernel_rfl) rfl (st_move rfl) (.cons_cons _ (.refl _)) ?_
                refine D_yes hle211 5 54 rfl (by kernel_rfl) (by kernel_rfl) (by kernel_rfl) rfl rfl rfl rfl (st_field rfl fld36_3) (.cons_cons _ (.refl _)) ?_
                refine D_yes hle211 6 54 rfl (by kernel_rfl) (by kernel_rfl) (by kernel_rfl) rfl rfl rfl rfl (st_load 0 rfl one3 rfl rfl) (.cons_cons _ (.refl _)) ?_
                refine D_yes hle211 7 54 rfl (by kernel_rfl) (by kernel_rfl) (by kernel_rfl) rfl rfl rfl rfl (st_eql_t rfl rfl hc213) (.cons_cons _ (.refl _)) ?_
                refine D_yes hle211 8 54 rfl (by kernel_rfl) (by kernel_rfl) (by kernel_rfl) rfl rfl rfl rfl (st_move rfl) (.cons_cons _ (.refl _)) ?_
                refine D_yes hle211 9 58 rfl (by kernel_rfl) (by kernel_rfl) (by kernel_rfl) rfl rfl rfl rfl (st_field rfl fld36_0) (.cons_cons _ (.refl _)) ?_
                refine D_yes hle211 10 58 rfl (by kernel_rfl) (by kernel_rfl) (by kernel_rfl) rfl rfl rfl rfl (st_load 0 rfl one3 rfl rfl) (.cons_cons _ (.refl _)) ?_
                refine D_yes hle211 11 58 rfl (by kernel_rfl) (by kernel_rfl) (by kernel_rfl) rfl rfl rfl rfl (st_geq rfl rfl) (.cons_cons _ (.refl _)) ?_
                refine D_yes hle211 12 54 rfl (by kernel_rfl) (by kernel_rfl) (by kernel_rfl) rfl rfl rfl rfl (st_pick_t rfl rfl) (.cons_cons _ (.refl _)) ?_
                refine D_st hle211 13 rfl (by kernel_rfl) (by kernel_rfl) (by kernel_rfl) rfl (st_pick_f rfl rfl) (.cons_cons _ (.refl _)) ?_
                refine D_st hle211 14 rfl (by kernel_rfl) (by kernel_rfl) (by kernel_rfl) rfl (st_assign rfl) (.cons_cons _ (.refl _)) ?_
                refine D_done (by kernel_rfl) ?_
                obtain rfl := some1 hm
                exact x_join (e' := [(49, .bool (decide (7 ≤ s1.Kind)))]) (hp' := R) ⟨rfl, trivial⟩ (.cons _ (.refl _)) ⟨rfl, rfl, hle211⟩
              exact R_nil
            ·
              rw [if_neg hc213] at hm
              refine D_drawS ((g109, Cl 36 [.int .i64 (s1.Kind), .int .i64 (s1.Session), .int .i64 (s1.No), .int .i64 (s1.Of), .int .i64 (s1.End), .int .i64 (s1.At), .int .i64 (s1.Speed), .int .i64 (s1.Sent)]) :: R) mixed ?_
              refine D_st (Base.Le.refl _) 0 rfl (by kernel_rfl) (by kernel_rfl) (by kernel_rfl) rfl (st_loadD (vs := [_, _, _, _, _, _, _, _]) 0 8 rfl agg36 rfl rfl rfl) (.cons_cons _ (.refl _)) ?_
              refine D_st (Base.Le.refl _) 1 rfl (by kernel_rfl) (by kernel_rfl) (by kernel_rfl) rfl (st_loadD (vs := [_, _, _, _, _, _, _, _]) 0 8 rfl agg36 rfl rfl rfl) (.cons_cons _ (.refl _)) ?_
              refine D_all [2] (by kernel_rfl) rfl ?_
              refine R_callGl (Base.Le.refl _) rfl rfl _ call75 rfl (cGuardPacketUsed _ _ s1 x201 x202 x203 x204 x205 x206 x207 x208 hcl209) ?_ ?_
              ·
                rintro _ b210 _ hle211 ⟨rfl, rfl⟩
                refine ⟨.inr (.cons_cons _ (.refl _)), ?_⟩
                refine D_st hle211 3 rfl (by kernel_rfl) (by kernel_rfl) (by kernel_rfl) rfl (stB (st_neqA (xs := [.int .i64 (s1.Kind), .int .i64 (s1.Session), .int .i64 (s1.No), .int .i64 (s1.Of), .int .i64 (s1.End), .int .i64 (s1.At), .int .i64 (s1.Speed), .int .i64 (s1.Sent)]) (ys := [.int .i64 (x201), .int .i64 (x202), .int .i64 (x203), .int .i64 (x204), .int .i64 (x205), .int .i64 (x206), .int .i64 (x207), .int .i64 (x208)]) (p := s1.Kind = x201 ∧ s1.Session = x202 ∧ s1.No = x203 ∧ s1.Of = x204 ∧ s1.End = x205 ∧ s1.At = x206 ∧ s1.Speed = x207 ∧ s1.Sent = x208) rfl rfl eqt36 ⟨⟨_, rfl⟩, ⟨⟨_, rfl⟩, ⟨⟨_, rfl⟩, ⟨⟨_, rfl⟩, ⟨⟨_, rfl⟩, ⟨⟨_, rfl⟩, ⟨⟨_, rfl⟩, ⟨⟨_, rfl⟩, trivial⟩⟩⟩⟩⟩⟩⟩⟩ ⟨⟨_, rfl⟩, ⟨⟨_, rfl⟩, ⟨⟨_, rfl⟩, ⟨⟨_, rfl⟩, ⟨⟨_, rfl⟩, ⟨⟨_, rfl⟩, ⟨⟨_, rfl⟩, ⟨⟨_, rfl⟩, trivial⟩⟩⟩⟩⟩⟩⟩⟩ (by simp [eqCells, eqCell, Bool.decide_and, beq_dec])) hc212) (.cons_cons _ (.refl _)) ?_
                refine D_st hle211 4 rfl (by kernel_rfl) (by kernel_rfl) (by kernel_rfl) rfl (st_move rfl) (.cons_cons _ (.refl _)) ?_
                refine D_yes hle211 5 54 rfl (by kernel_rfl) (by kernel_rfl) (by kernel_rfl) rfl rfl rfl rfl (st_field rfl fld36_3) (.cons_cons _ (.refl _)) ?_
                refine D_yes hle211 6 54 rfl (by kernel_rfl) (by kernel_rfl) (by kernel_rfl) rfl rfl rfl rfl (st_load 0 rfl one3 rfl rfl) (.cons_cons _ (.refl _)) ?_
                refine D_yes hle211 7 54 rfl (by kernel_rfl) (by kernel_rfl) (by kernel_rfl) rfl rfl rfl rfl (st_eql_f rfl rfl hc213) (.cons_cons _ (.refl _)) ?_
                refine D_yes hle211 8 54 rfl (by kernel_rfl) (by kernel_rfl) (by kernel_rfl) rfl rfl rfl rfl (st_move rfl) (.cons_cons _ (.refl _)) ?_
                refine D_no hle211 9 58 rfl (by kernel_rfl) (by kernel_rfl) (by kernel_rfl) rfl rfl rfl rfl rfl (.cons_cons _ (.refl _)) ?_
                refine D_no hle211 10 58 rfl (by kernel_rfl) (by kernel_rfl) (by kernel_rfl) rfl rfl rfl rfl rfl (.cons_cons _ (.refl _)) ?_
                refine D_no hle211 11 58 rfl (by kernel_rfl) (by kernel_rfl) (by kernel_rfl) rfl rfl rfl rfl rfl (.cons_cons _ (.refl _)) ?_
                refine D_yes hle211 12 54 rfl (by kernel_rfl) (by kernel_rfl) (by kernel_rfl) rfl rfl rfl rfl (st_pick_f rfl rfl) (.cons_cons _ (.refl _)) ?_
                refine D_st hle211 13 rfl (by kernel_rfl) (by kernel_rfl) (by kernel_rfl) rfl (st_pick_f rfl rfl) (.cons_cons _ (.refl _)) ?_
                refine D_st hle211 14 rfl (by kernel_rfl) (by kernel_rfl) (by kernel_rfl) rfl (st_assign rfl) (.cons_cons _ (.refl _)) ?_
                refine D_done (by kernel_rfl) ?_
                obtain rfl := some1 hm
                exact x_join (e' := [(49, .bool (false))]) (hp' := R) ⟨rfl, trivial⟩ (.cons _ (.refl _)) ⟨rfl, rfl, hle211⟩
              exact R_nil
        ·
          rintro b184 _ _ ⟨rfl, rfl, hle185⟩
          have hm := hk187
          refine c_cond _ rfl (fun hc214 => ?_) (fun hc214 => ?_)
          ·
            rw [if_pos hc214] at hm
            refine c_seq ?_
            refine c_region ?_
            refine t_st rfl (st_assign rfl) ?_
            refine t_nil ?_
            refine x_then_normal ?_
            refine c_ret ?_
            refine x_block_ret ?_
            refine x_then_ret ?_
            obtain rfl := some1 hm
            exact retM (rs := [.tmp 2]) [.int .i64 (1)] (hle134.trans hle185) (by decide) rfl ⟨rfl, trivial⟩ rfl (hp' := R) (.refl _) ⟨rfl, rfl⟩
          ·
            rw [if_neg (fun hh => Bool.noConfusion (hh.symm.trans hc214))] at hm
            refine c_skip ?_
            refine x_block_normal ?_
            refine x_then_normal ?_
            refine c_seq ?_
            refine c_region ?_
            refine t_st rfl (st_assign rfl) ?_
            refine t_nil ?_
            refine x_then_normal ?_
            refine c_ret ?_
            obtain rfl := some1 hm
            exact retM (rs := [.tmp 2]) [.int .i64 (0)] (hle134.trans hle185) (by decide) rfl ⟨rfl, trivial⟩ rfl (hp' := R) (.refl _) ⟨rfl, rfl⟩

set_option maxRecDepth 20000 in
theorem cGuardUnpack (b : Base) (R : Hp) (hG : GOn GT b) (x1 : ByteArray) (x558 : Int) (x559 : Int) (x560 : Int) (x561 : Int) (x562 : Int) (x563 : Int) (x564 : Int) (x565 : Int) (x566 : Int) (hm : mGuardUnpack x1 = some (x558, x559, x560, x561, x562, x563, x564, x565, x566)) :
    CallsG Tryd.prog 20 [.string (x1)] b (R) (fun v b' hp' => .tuple #[.agg #[.int .i64 (x558), .int .i64 (x559), .int .i64 (x560), .int .i64 (x561), .int .i64 (x562), .int .i64 (x563), .int .i64 (x564), .int .i64 (x565)], .int .i64 (x566)] = v ∧ R = hp') := by
  refine fn_enterG 54 Tryd.func20 rfl Tryd.ntmps20 rfl ?_
  unfold mGuardUnpack at hm
  refine c_seq ?_
  refine c_region ?_
  refine t_do rfl (u_alloc [.int .i64 0, .int .i64 0, .int .i64 0, .int .i64 0, .int .i64 0, .int .i64 0, .int .i64 0, .int .i64 0] zero36 rfl) ?_
  rintro _ _ ⟨g567, rfl, rfl⟩
  refine t_st rfl (st_assign rfl) ?_
  refine t_nil ?_
  refine x_then_normal ?_
  refine c_seq ?_
  refine c_region ?_
  refine t_st rfl (st_move rfl) ?_
  obtain ⟨l568, hcl569, hm⟩ := bindS hm
  refine t_callG _ rfl call55 rfl (cStringsSplit _ _ x1 (ByteArray.mk #[32]) l568 hcl569) ?_
  rintro _ b570 _ hle571 ⟨A572, c573, hs574, rfl, rfl, h575⟩
  refine t_in1 [] [_] hs574 R rfl ?_
  obtain ⟨⟨x576, l577⟩, hcl578, hm⟩ := bindS hm
  have hm := (unc2E hm)
  refine t_do rfl (u_callWF [_] (hs574 ++ R) _ rfl call54 rfl (fun w ho => cLineNumbers _ [] ((hG.le hle571).old ho) l568 A572 c573 (OS.now (o := (OT.fr RT.str)) (l := l568) (hs := hs574) h575 ho (.cons _ (List.sublist_append_left _ _))) x576 l577 hcl578)) ?_
  rintro _ _ ⟨_, _, rfl, A579, c580, hs581, rfl, hq584, h582⟩
  obtain rfl := List.append_cancel_right hq584
  have h583 := flat_fz (w' := b570.w) (fun _ _ _ _ h => h) h582
  refine t_st rfl (st_move rfl) ?_
  refine t_st rfl (st_extract rfl rfl) ?_
  refine t_st rfl (st_extract rfl rfl) ?_
  refine t_st rfl (st_assign rfl) ?_
  refine t_st rfl (st_assign rfl) ?_
  refine t_nil ?_
  refine x_then_normal ?_
  refine c_seq ?_
  obtain ⟨x588, hj589, hk589⟩ := bindS hm
  refine c_join (fun b586 e' hp' => [(2, .pointer (some ⟨g567, 0, none⟩)), (4, .slice A579 (l577).length c580), (20, .bool (x588))] = e' ∧ (g567, Cl 36 [.int .i64 (0), .int .i64 (0), .int .i64 (0), .int .i64 (0), .int .i64 (0), .int .i64 (0), .int .i64 (0), .int .i64 (0)]) :: (hs581 ++ R) = hp' ∧ b570.Le b586) ?_ ?_
  ·
    have hm := hj589
    refine c_region ?_
    refine t_st rfl (st_move rfl) ?_
    rcases Bool.eq_false_or_eq_true x576 with hc590 | hc590
    ·
      rw [if_pos hc590] at hm
      refine t_resp 14 rfl (v' := .bool true) (by rw [hc590] <;> rfl) ?_
      refine t_st rfl (st_not_t rfl) ?_
      refine t_st rfl (st_move rfl) ?_
      refine t_yes 16 rfl rfl rfl ?_
      refine t_st rfl (st_move rfl) ?_
      refine t_yes 16 rfl rfl rfl ?_
      refine t_st rfl (st_len rfl sl24) ?_
      refine t_yes 16 rfl rfl rfl ?_
      refine t_st rfl (st_neq rfl rfl) ?_
      refine t_st rfl (st_pick_f rfl rfl) ?_
      refine t_nil ?_
      obtain rfl := some1 hm
      exact x_join (e' := [(2, .pointer (some ⟨g567, 0, none⟩)), (4, .slice A579 (l577).length c580), (20, .bool (decide ((l577.length : Int) ≠ 8)))]) (hp' := (g567, Cl 36 [.int .i64 (0), .int .i64 (0), .int .i64 (0), .int .i64 (0), .int .i64 (0), .int .i64 (0), .int .i64 (0), .int .i64 (0)]) :: (hs581 ++ R)) ⟨rfl, rfl, rfl, trivial⟩ (.cons_cons _ (sub_app hs581 (sub_skip hs574 (.refl _)))) ⟨rfl, rfl, (Base.Le.refl _)⟩
    ·
      rw [if_neg (fun hh => Bool.noConfusion (hh.symm.trans hc590))] at hm
      refine t_resp 14 rfl (v' := .bool false) (by rw [hc590] <;> rfl) ?_
      refine t_st rfl (st_not_f rfl) ?_
      refine t_st rfl (st_move rfl) ?_
      refine t_no 16 rfl rfl rfl rfl rfl ?_
      refine t_no 16 rfl rfl rfl rfl rfl ?_
      refine t_no 16 rfl rfl rfl rfl rfl ?_
      refine t_st rfl (st_pick_t rfl rfl) ?_
      refine t_nil ?_
      obtain rfl := some1 hm
      exact x_join (e' := [(2, .pointer (some ⟨g567, 0, none⟩)), (4, .slice A579 (l577).length c580), (20, .bool (true))]) (hp' := (g567, Cl 36 [.int .i64 (0), .int .i64 (0), .int .i64 (0), .int .i64 (0), .int .i64 (0), .int .i64 (0), .int .i64 (0), .int .i64 (0)]) :: (hs581 ++ R)) ⟨rfl, rfl, rfl, trivial⟩ (.cons_cons _ (sub_app hs581 (sub_skip hs574 (.refl _)))) ⟨rfl, rfl, (Base.Le.refl _)⟩
  ·
    rintro b586 _ _ ⟨rfl, rfl, hle587⟩
    have hm := hk589
    refine c_cond _ rfl (fun hc591 => ?_) (fun hc591 => ?_)
    ·
      rw [if_pos hc591] at hm
      refine c_seq ?_
      refine c_region ?_
      refine t_st rfl (st_build (v := .agg #[.int .i64 (0), .int .i64 (0), .int .i64 (0), .int .i64 (0), .int .i64 (0), .int .i64 (0), .int .i64 (0), .int .i64 (0)]) [] rfl (fun _ => by kernel_rfl)) ?_
      refine t_do rfl (u_storeN (vs := [_, _, _, _, _, _, _, _]) 0 8 rfl rfl rfl siz36 rfl (by intro u hu; simp only [List.mem_cons, List.not_mem_nil, or_false] at hu; rcases hu with rfl | rfl | rfl | rfl | rfl | rfl | rfl | rfl <;> rfl) rfl (by simp)) ?_
      rintro _ _ rfl
      refine t_st rfl (st_assign rfl) ?_
      refine t_nil ?_
      refine x_then_normal ?_
      refine c_ret ?_
      refine x_then_ret ?_
      obtain ⟨rfl, rfl, rfl, rfl, rfl, rfl, rfl, rfl, rfl⟩ := some9 hm
      exact retM (rs := [.cell 2 36, .tmp 3]) [.agg #[.int .i64 (0), .int .i64 (0), .int .i64 (0), .int .i64 (0), .int .i64 (0), .int .i64 (0), .int .i64 (0), .int .i64 (0)], .int .i64 (10)] (hle571.trans hle587) (by decide) rfl ⟨⟨_, rfl, fun w ho => cell_agg (vs := [_, _, _, _, _, _, _, _]) 0 8 agg36 rfl rfl rfl w ho⟩, ⟨rfl, trivial⟩⟩ rfl (hp' := R) (.cons _ (sub_skip hs581 (.refl _))) ⟨rfl, rfl⟩
    ·
      rw [if_neg (fun hh => Bool.noConfusion (hh.symm.trans hc591))] at hm
      refine c_skip ?_
      refine x_then_normal ?_
      obtain ⟨⟨x853, x854, x855, x856, x857, x858, x859, x860⟩, hj861, hk861⟩ := bindS hm
      refine c_join (fun b850 e' hp' => ∃ (g852 : Nat), [(2, .pointer (some ⟨g567, 0, none⟩)), (6, .pointer (some ⟨g852, 0, none⟩))] = e' ∧ (g567, Cl 36 [.int .i64 (0), .int .i64 (0), .int .i64 (0), .int .i64 (0), .int .i64 (0), .int .i64 (0), .int .i64 (0), .int .i64 (0)]) :: (g852, Cl 36 [.int .i64 (x853), .int .i64 (x854), .int .i64 (x855), .int .i64 (x856), .int .i64 (x857), .int .i64 (x858), .int .i64 (x859), .int .i64 (x860)]) :: R = hp' ∧ b586.Le b850) ?_ ?_
      ·
        have hm := hj861
        obtain ⟨x991, h992, hm⟩ := bindS hm
        obtain ⟨x1007, h1008, hm⟩ := bindS hm
        obtain ⟨x1023, h1024, hm⟩ := bindS hm
        obtain ⟨x1039, h1040, hm⟩ := bindS hm
        obtain ⟨x1055, h1056, hm⟩ := bindS hm
        obtain ⟨x1071, h1072, hm⟩ := bindS hm
        obtain ⟨x1087, h1088, hm⟩ := bindS hm
        obtain ⟨x1103, h1104, hm⟩ := bindS hm
        refine D_drawS ((g567, Cl 36 [.int .i64 (0), .int .i64 (0), .int .i64 (0), .int .i64 (0), .int .i64 (0), .int .i64 (0), .int .i64 (0), .int .i64 (0)]) :: (hs581 ++ R)) mixed ?_
        refine D_st (Base.Le.refl _) 0 rfl (by kernel_rfl) (by kernel_rfl) (by kernel_rfl) rfl (st_move rfl) (.cons_cons _ (sub_app hs581 (.refl _))) ?_
        obtain ⟨j993, hj994, hx995⟩ := idx_some h992
        obtain ⟨cs996, hs1001, P1002, P1003, hq1004, hr997, hcs998, hA999, hlt1000, hb1005, hho1006⟩ := OS.get (sz := 1) rfl (by decide) (h583.le hle587) hx995
        obtain ⟨rfl, rfl⟩ := hr997
        refine D_st (Base.Le.refl _) 1 rfl (by kernel_rfl) (by kernel_rfl) (by kernel_rfl) rfl (st_index_old j993 rfl rfl hj994 hlt1000 hA999 sl24) (.cons_cons _ (sub_app hs581 (.refl _))) ?_
        refine D_st (Base.Le.refl _) 2 rfl (by kernel_rfl) (by kernel_rfl) (by kernel_rfl) rfl (st_load_rd rfl one3 (fun w ho => hcs998 w _ ho (.cons _ (List.sublist_append_left _ _)) 0 _ rfl)) (.cons_cons _ (sub_app hs581 (.refl _))) ?_
        refine D_st (Base.Le.refl _) 3 rfl (by kernel_rfl) (by kernel_rfl) (by kernel_rfl) rfl (st_move rfl) (.cons_cons _ (sub_app hs581 (.refl _))) ?_
        obtain ⟨j1009, hj1010, hx1011⟩ := idx_some h1008
        obtain ⟨cs1012, hs1017, P1018, P1019, hq1020, hr1013, hcs1014, hA1015, hlt1016, hb1021, hho1022⟩ := OS.get (sz := 1) rfl (by decide) (h583.le hle587) hx1011
        obtain ⟨rfl, rfl⟩ := hr1013
        refine D_st (Base.Le.refl _) 4 rfl (by kernel_rfl) (by kernel_rfl) (by kernel_rfl) rfl (st_index_old j1009 rfl rfl hj1010 hlt1016 hA1015 sl24) (.cons_cons _ (sub_app hs581 (.refl _))) ?_
        refine D_st (Base.Le.refl _) 5 rfl (by kernel_rfl) (by kernel_rfl) (by kernel_rfl) rfl (st_load_rd rfl one3 (fun w ho => hcs1014 w _ ho (.cons _ (List.sublist_append_left _ _)) 0 _ rfl)) (.cons_cons _ (sub_app hs581 (.refl _))) ?_
        refine D_st (Base.Le.refl _) 6 rfl (by kernel_rfl) (by kernel_rfl) (by kernel_rfl) rfl (st_move rfl) (.cons_cons _ (sub_app hs581 (.refl _))) ?_
        obtain ⟨j1025, hj1026, hx1027⟩ := idx_some h1024
        obtain ⟨cs1028, hs1033, P1034, P1035, hq1036, hr1029, hcs1030, hA1031, hlt1032, hb1037, hho1038⟩ := OS.get (sz := 1) rfl (by decide) (h583.le hle587) hx1027
        obtain ⟨rfl, rfl⟩ := hr1029
        refine D_st (Base.Le.refl _) 7 rfl (by kernel_rfl) (by kernel_rfl) (by kernel_rfl) rfl (st_index_old j1025 rfl rfl hj1026 hlt1032 hA1031 sl24) (.cons_cons _ (sub_app hs581 (.refl _))) ?_
        refine D_st (Base.Le.refl _) 8 rfl (by kernel_rfl) (by kernel_rfl) (by kernel_rfl) rfl (st_load_rd rfl one3 (fun w ho => hcs1030 w _ ho (.cons _ (List.sublist_append_left _ _)) 0 _ rfl)) (.cons_cons _ (sub_app hs581 (.refl _))) ?_
        refine D_st (Base.Le.refl _) 9 rfl (by kernel_rfl) (by kernel_rfl) (by kernel_rfl) rfl (st_move rfl) (.cons_cons _ (sub_app hs581 (.refl _))) ?_
        obtain ⟨j1041, hj1042, hx1043⟩ := idx_some h1040
        obtain ⟨cs1044, hs1049, P1050, P1051, hq1052, hr1045, hcs1046, hA1047, hlt1048, hb1053, hho1054⟩ := OS.get (sz := 1) rfl (by decide) (h583.le hle587) hx1043
        obtain ⟨rfl, rfl⟩ := hr1045
        refine D_st (Base.Le.refl _) 10 rfl (by kernel_rfl) (by kernel_rfl) (by kernel_rfl) rfl (st_index_old j1041 rfl rfl hj1042 hlt1048 hA1047 sl24) (.cons_cons _ (sub_app hs581 (.refl _))) ?_
        refine D_st (Base.Le.refl _) 11 rfl (by kernel_rfl) (by kernel_rfl) (by kernel_rfl) rfl (st_load_rd rfl one3 (fun w ho => hcs1046 w _ ho (.cons _ (List.sublist_append_left _ _)) 0 _ rfl)) (.cons_cons _ (sub_app hs581 (.refl _))) ?_
        refine D_st (Base.Le.refl _) 12 rfl (by kernel_rfl) (by kernel_rfl) (by kernel_rfl) rfl (st_move rfl) (.cons_cons _ (sub_app hs581 (.refl _))) ?_
        obtain ⟨j1057, hj1058, hx1059⟩ := idx_some h1056
        obtain ⟨cs1060, hs1065, P1066, P1067, hq1068, hr1061, hcs1062, hA1063, hlt1064, hb1069, hho1070⟩ := OS.get (sz := 1) rfl (by decide) (h583.le hle587) hx1059
        obtain ⟨rfl, rfl⟩ := hr1061
        refine D_st (Base.Le.refl _) 13 rfl (by kernel_rfl) (by kernel_rfl) (by kernel_rfl) rfl (st_index_old j1057 rfl rfl hj1058 hlt1064 hA1063 sl24) (.cons_cons _ (sub_app hs581 (.refl _))) ?_
        refine D_st (Base.Le.refl _) 14 rfl (by kernel_rfl) (by kernel_rfl) (by kernel_rfl) rfl (st_load_rd rfl one3 (fun w ho => hcs1062 w _ ho (.cons _ (List.sublist_append_left _ _)) 0 _ rfl)) (.cons_cons _ (sub_app hs581 (.refl _))) ?_
        refine D_st (Base.Le.refl _) 15 rfl (by kernel_rfl) (by kernel_rfl) (by kernel_rfl) rfl (st_move rfl) (.cons_cons _ (sub_app hs581 (.refl _))) ?_
        obtain ⟨j1073, hj1074, hx1075⟩ := idx_some h1072
        obtain ⟨cs1076, hs1081, P1082, P1083, hq1084, hr1077, hcs1078, hA1079, hlt1080, hb1085, hho1086⟩ := OS.get (sz := 1) rfl (by decide) (h583.le hle587) hx1075
        obtain ⟨rfl, rfl⟩ := hr1077
        refine D_st (Base.Le.refl _) 16 rfl (by kernel_rfl) (by kernel_rfl) (by kernel_rfl) rfl (st_index_old j1073 rfl rfl hj1074 hlt1080 hA1079 sl24) (.cons_cons _ (sub_app hs581 (.refl _))) ?_
        refine D_st (Base.Le.refl _) 17 rfl (by kernel_rfl) (by kernel_rfl) (by kernel_rfl) rfl (st_load_rd rfl one3 (fun w ho => hcs1078 w _ ho (.cons _ (List.sublist_append_left _ _)) 0 _ rfl)) (.cons_cons _ (sub_app hs581 (.refl _))) ?_
        refine D_st (Base.Le.refl _) 18 rfl (by kernel_rfl) (by kernel_rfl) (by kernel_rfl) rfl (st_move rfl) (.cons_cons _ (sub_app hs581 (.refl _))) ?_
        obtain ⟨j1089, hj1090, hx1091⟩ := idx_some h1088
        obtain ⟨cs1092, hs1097, P1098, P1099, hq1100, hr1093, hcs1094, hA1095, hlt1096, hb1101, hho1102⟩ := OS.get (sz := 1) rfl (by decide) (h583.le hle587) hx1091
        obtain ⟨rfl, rfl⟩ := hr1093
        refine D_st (Base.Le.refl _) 19 rfl (by kernel_rfl) (by kernel_rfl) (by kernel_rfl) rfl (st_index_old j1089 rfl rfl hj1090 hlt1096 hA1095 sl24) (.cons_cons _ (sub_app hs581 (.refl _))) ?_
        refine D_st (Base.Le.refl _) 20 rfl (by kernel_rfl) (by kernel_rfl) (by kernel_rfl) rfl (st_load_rd rfl one3 (fun w ho => hcs1094 w _ ho (.cons _ (List.sublist_append_left _ _)) 0 _ rfl)) (.cons_cons _ (sub_app hs581 (.refl _))) ?_
        refine D_st (Base.Le.refl _) 21 rfl (by kernel_rfl) (by kernel_rfl) (by kernel_rfl) rfl (st_move rfl) (.cons_cons _ (sub_app hs581 (.refl _))) ?_
        obtain ⟨j1105, hj1106, hx1107⟩ := idx_some h1104
        obtain ⟨cs1108, hs1113, P1114, P1115, hq1116, hr1109, hcs1110, hA1111, hlt1112, hb1117, hho1118⟩ := OS.get (sz := 1) rfl (by decide) (h583.le hle587) hx1107
        obtain ⟨rfl, rfl⟩ := hr1109
        refine D_st (Base.Le.refl _) 22 rfl (by kernel_rfl) (by kernel_rfl) (by kernel_rfl) rfl (st_index_old j1105 rfl rfl hj1106 hlt1112 hA1111 sl24) (.cons_cons _ (sub_app hs581 (.refl _))) ?_
        refine D_st (Base.Le.refl _) 23 rfl (by kernel_rfl) (by kernel_rfl) (by kernel_rfl) rfl (st_load_rd rfl one3 (fun w ho => hcs1110 w _ ho (.cons _ (List.sublist_append_left _ _)) 0 _ rfl)) (.cons_cons _ (sub_app hs581 (.refl _))) ?_
        refine D_st (Base.Le.refl _) 24 rfl (by kernel_rfl) (by kernel_rfl) (by kernel_rfl) rfl (st_build (v := .agg #[.int .i64 (x991), .int .i64 (x1007), .int .i64 (x1023), .int .i64 (x1039), .int .i64 (x1055), .int .i64 (x1071), .int .i64 (x1087), .int .i64 (x1103)]) [(0, .int .i64 (x991)), (1, .int .i64 (x1007)), (2, .int .i64 (x1023)), (3, .int .i64 (x1039)), (4, .int .i64 (x1055)), (5, .int .i64 (x1071)), (6, .int .i64 (x1087)), (7, .int .i64 (x1103))] rfl (fun _ => by kernel_rfl)) (.cons_cons _ (sub_app hs581 (.refl _))) ?_
        refine D_all [25] (by kernel_rfl) rfl ?_
        refine R_do (Base.Le.refl _) rfl rfl (u_alloc [.int .i64 0, .int .i64 0, .int .i64 0, .int .i64 0, .int .i64 0, .int .i64 0, .int .i64 0, .int .i64 0] zero36 rfl) ?_ ?_
        ·
          rintro _ _ ⟨g1119, rfl, rfl⟩
          refine ⟨.inr (.cons _ (.cons_cons _ (sub_app hs581 (.refl _)))), ?_⟩
          refine D_all [26] (by kernel_rfl) rfl ?_
          refine R_do (Base.Le.refl _) rfl rfl (u_storeN (vs := [_, _, _, _, _, _, _, _]) 0 8 rfl rfl rfl siz36 rfl (by intro u hu; simp only [List.mem_cons, List.not_mem_nil, or_false] at hu; rcases hu with rfl | rfl | rfl | rfl | rfl | rfl | rfl | rfl <;> rfl) rfl (by simp)) ?_ ?_
          ·
            rintro _ _ rfl
            refine ⟨.inl (by kernel_rfl), ?_⟩
            refine D_done (by kernel_rfl) ?_
            obtain ⟨rfl, rfl, rfl, rfl, rfl, rfl, rfl, rfl⟩ := some8 hm
            refine x_pullb 1 rfl ?_
            exact x_join (e' := [(2, .pointer (some ⟨g567, 0, none⟩)), (6, .pointer (some ⟨g1119, 0, none⟩))]) (hp' := (g567, Cl 36 [.int .i64 (0), .int .i64 (0), .int .i64 (0), .int .i64 (0), .int .i64 (0), .int .i64 (0), .int .i64 (0), .int .i64 (0)]) :: (g1119, Cl 36 [.int .i64 (x991), .int .i64 (x1007), .int .i64 (x1023), .int .i64 (x1039), .int .i64 (x1055), .int .i64 (x1071), .int .i64 (x1087), .int .i64 (x1103)]) :: R) ⟨rfl, rfl, trivial⟩ (.cons_cons _ (.cons_cons _ (sub_skip hs581 (.refl _)))) ⟨g1119, rfl, rfl, (Base.Le.refl _)⟩
          exact R_nil
        exact R_nil
      ·
        rintro b850 _ _ ⟨g852, rfl, rfl, hle851⟩
        have hm := (unc8E hk861)
        refine c_seq ?_
        refine c_seq ?_
        refine c_region ?_
        refine t_st rfl (st_loadD (vs := [_, _, _, _, _, _, _, _]) 1 8 rfl agg36 rfl rfl rfl) ?_
        obtain ⟨x1120, hcl1121, hm⟩ := bindS hm
        refine t_do rfl (u_callW0 _ call51 rfl (fun w ho => cGuardPacketCheck _ [] (⟨x853, x854, x855, x856, x857, x858, x859, x860⟩ : GuardPacket) x1120 hcl1121) (fun _ _ _ h => h.2.symm)) ?_
        rintro _ _ ⟨⟨_, rfl, _⟩, rfl⟩
        refine t_st rfl (st_assign rfl) ?_
        refine t_nil ?_
        refine x_then_normal ?_
        refine c_seq ?_
        refine c_region ?_
        refine t_st rfl (st_move rfl) ?_
        refine t_st rfl (st_neq rfl rfl) ?_
        refine t_nil ?_
        refine x_then_normal ?_
        refine c_cond _ rfl (fun hc1122 => ?_) (fun hc1122 => ?_)
        ·
          rw [if_pos (of_decide_eq_true hc1122)] at hm
          refine c_seq ?_
          refine c_region ?_
          refine t_st rfl (st_build (v := .agg #[.int .i64 (0), .int .i64 (0), .int .i64 (0), .int .i64 (0), .int .i64 (0), .int .i64 (0), .int .i64 (0), .int .i64 (0)]) [] rfl (fun _ => by kernel_rfl)) ?_
          refine t_st rfl (st_move rfl) ?_
          refine t_do rfl (u_storeN (vs := [_, _, _, _, _, _, _, _]) 0 8 rfl rfl rfl siz36 rfl (by intro u hu; simp only [List.mem_cons, List.not_mem_nil, or_false] at hu; rcases hu with rfl | rfl | rfl | rfl | rfl | rfl | rfl | rfl <;> rfl) rfl (by simp)) ?_
          rintro _ _ rfl
          refine t_st rfl (st_assign rfl) ?_
          refine t_nil ?_
          refine x_then_normal ?_
          refine c_ret ?_
          refine x_then_ret ?_
          obtain ⟨rfl, rfl, rfl, rfl, rfl, rfl, rfl, rfl, rfl⟩ := some9 hm
          exact retM (rs := [.cell 2 36, .tmp 3]) [.agg #[.int .i64 (0), .int .i64 (0), .int .i64 (0), .int .i64 (0), .int .i64 (0), .int .i64 (0), .int .i64 (0), .int .i64 (0)], .int .i64 (x1120)] (hle571.trans (hle587.trans hle851)) (by decide) rfl ⟨⟨_, rfl, fun w ho => cell_agg (vs := [_, _, _, _, _, _, _, _]) 0 8 agg36 rfl rfl rfl w ho⟩, ⟨rfl, trivial⟩⟩ rfl (hp' := R) (.cons _ (.cons _ (.refl _))) ⟨rfl, rfl⟩
        ·
          rw [if_neg (of_decide_eq_false hc1122)] at hm
          refine c_skip ?_
          refine x_then_normal ?_
          refine c_seq ?_
          refine c_region ?_
          refine t_st rfl (st_loadD (vs := [_, _, _, _, _, _, _, _]) 1 8 rfl agg36 rfl rfl rfl) ?_
          refine t_do rfl (u_storeN (vs := [_, _, _, _, _, _, _, _]) 0 8 rfl rfl rfl siz36 rfl (by intro u hu; simp only [List.mem_cons, List.not_mem_nil, or_false] at hu; rcases hu with rfl | rfl | rfl | rfl | rfl | rfl | rfl | rfl <;> rfl) rfl (by simp)) ?_
          rintro _ _ rfl
          refine t_st rfl (st_assign rfl) ?_
          refine t_nil ?_
          refine x_then_normal ?_
          refine c_ret ?_
          obtain ⟨rfl, rfl, rfl, rfl, rfl, rfl, rfl, rfl, rfl⟩ := some9 hm
          exact retM (rs := [.cell 2 36, .tmp 3]) [.agg #[.int .i64 (x853), .int .i64 (x854), .int .i64 (x855), .int .i64 (x856), .int .i64 (x857), .int .i64 (x858), .int .i64 (x859), .int .i64 (x860)], .int .i64 (0)] (hle571.trans (hle587.trans hle851)) (by decide) rfl ⟨⟨_, rfl, fun w ho => cell_agg (vs := [_, _, _, _, _, _, _, _]) 0 8 agg36 rfl rfl rfl w ho⟩, ⟨rfl, trivial⟩⟩ rfl (hp' := R) (.cons _ (.cons _ (.refl _))) ⟨rfl, rfl⟩

set_option maxRecDepth 20000 in
theorem cFishkeep1AwakeGuard (b : Base) (R : Hp) (hG : GOn GT b) (x14 : Bool) (hm : mFishkeep1AwakeGuard = some x14) :
    CallsG Tryd.prog 14 [] b (R) (fun v b' hp' => .bool (x14) = v ∧ R = hp') := by
  refine fn_enterG 9 Tryd.func14 rfl Tryd.ntmps14 rfl ?_
  unfold mFishkeep1AwakeGuard at hm
  refine c_seq ?_
  refine c_region ?_
  refine t_st rfl (st_assign rfl) ?_
  refine t_nil ?_
  refine x_then_normal ?_
  refine c_seq ?_
  refine c_region ?_
  obtain ⟨⟨x15, x16, x17, x18, x19, x20, x21, x22, x23⟩, hcl24, hm⟩ := bindS hm
  have hm := (unc9E hm)
  refine t_callG _ rfl call20 rfl (cGuardUnpack _ _ (hG.le (Base.Le.refl _)) (ByteArray.mk #[]) x15 x16 x17 x18 x19 x20 x21 x22 x23 hcl24) ?_
  rintro _ b25 _ hle26 ⟨rfl, rfl⟩
  refine t_st rfl (st_move rfl) ?_
  refine t_st rfl (st_extract rfl rfl) ?_
  refine t_st rfl (st_extract rfl rfl) ?_
  refine t_do rfl (u_alloc [.int .i64 0, .int .i64 0, .int .i64 0, .int .i64 0, .int .i64 0, .int .i64 0, .int .i64 0, .int .i64 0] zero36 rfl) ?_
  rintro _ _ ⟨g27, rfl, rfl⟩
  refine t_do rfl (u_storeN (vs := [_, _, _, _, _, _, _, _]) 0 8 rfl rfl rfl siz36 rfl (by intro u hu; simp only [List.mem_cons, List.not_mem_nil, or_false] at hu; rcases hu with rfl | rfl | rfl | rfl | rfl | rfl | rfl | rfl <;> rfl) rfl (by simp)) ?_
  rintro _ _ rfl
  refine t_st rfl (st_assign rfl) ?_
  refine t_nil ?_
  refine x_then_normal ?_
  refine c_seq ?_
  refine c_region ?_
  refine t_st rfl (st_move rfl) ?_
  refine t_st rfl (st_neq rfl rfl) ?_
  refine t_st rfl (st_assign rfl) ?_
  refine t_nil ?_
  refine x_then_normal ?_
  refine c_ret ?_
  obtain rfl := some1 hm
  exact retM (rs := [.tmp 0]) [.bool (decide (x23 ≠ 0))] hle26 (by decide) rfl ⟨rfl, trivial⟩ rfl (hp' := R) (.cons _ (.refl _)) ⟨rfl, rfl⟩

set_option maxRecDepth 20000 in
theorem cStringsJoin (b : Base) (R : Hp) (l4 : (List ByteArray)) (x5 : ByteArray) (A1 : Option Addr) (c2 : Nat) (h3 : FZ RT.str b.w A1 c2 l4) (x6 : ByteArray) (hm : mStringsJoin l4 x5 = some x6) :
    CallsG Tryd.prog 53 [.slice A1 (l4).length c2, .string (x5)] b (R) (fun v b' hp' => .string (x6) = v ∧ R = hp') := by
  unfold mStringsJoin at hm
  exact join_c h3 hm

set_option maxRecDepth 20000 in
theorem cGuardPack (b : Base) (R : Hp) (hG : GOn GT b) (s1 : GuardPacket) (x78 : ByteArray) (x79 : Int) (hm : mGuardPack s1 = some (x78, x79)) :
    CallsG Tryd.prog 19 [.agg #[.int .i64 (s1.Kind), .int .i64 (s1.Session), .int .i64 (s1.No), .int .i64 (s1.Of), .int .i64 (s1.End), .int .i64 (s1.At), .int .i64 (s1.Speed), .int .i64 (s1.Sent)]] b (R) (fun v b' hp' => .tuple #[.string (x78), .int .i64 (x79)] = v ∧ R = hp') := by
  refine fn_enterG 41 Tryd.func19 rfl Tryd.ntmps19 rfl ?_
  unfold mGuardPack at hm
  refine c_seq ?_
  refine c_region ?_
  refine t_do rfl (u_box _ rfl rfl) ?_
  rintro _ _ ⟨g80, rfl, rfl⟩
  refine t_st rfl (st_assign rfl) ?_
  refine t_st rfl (st_assign rfl) ?_
  refine t_nil ?_
  refine x_then_normal ?_
  refine c_seq ?_
  refine c_seq ?_
  refine c_region ?_
  refine t_st rfl (st_loadD (vs := [_, _, _, _, _, _, _, _]) 0 8 rfl agg36 rfl rfl rfl) ?_
  obtain ⟨x81, hcl82, hm⟩ := bindS hm
  refine t_do rfl (u_callW0 _ call51 rfl (fun w ho => cGuardPacketCheck _ [] s1 x81 hcl82) (fun _ _ _ h => h.2.symm)) ?_
  rintro _ _ ⟨⟨_, rfl, _⟩, rfl⟩
  refine t_st rfl (st_assign rfl) ?_
  refine t_nil ?_
  refine x_then_normal ?_
  refine c_seq ?_
  refine c_region ?_
  refine t_st rfl (st_move rfl) ?_
  refine t_st rfl (st_neq rfl rfl) ?_
  refine t_nil ?_
  refine x_then_normal ?_
  refine c_cond _ rfl (fun hc83 => ?_) (fun hc83 => ?_)
  ·
    rw [if_pos (of_decide_eq_true hc83)] at hm
    refine c_seq ?_
    refine c_region ?_
    refine t_st rfl (st_move rfl) ?_
    refine t_st rfl (st_assign rfl) ?_
    refine t_st rfl (st_assign rfl) ?_
    refine t_nil ?_
    refine x_then_normal ?_
    refine c_ret ?_
    refine x_then_ret ?_
    obtain ⟨rfl, rfl⟩ := some2 hm
    exact retM (rs := [.tmp 2, .tmp 3]) [.string ((ByteArray.mk #[])), .int .i64 (x81)] (Base.Le.refl _) (by decide) rfl ⟨rfl, ⟨rfl, trivial⟩⟩ rfl (hp' := R) (.cons _ (.refl _)) ⟨rfl, rfl⟩
  ·
    rw [if_neg (of_decide_eq_false hc83)] at hm
    refine c_skip ?_
    refine x_then_normal ?_
    refine c_seq ?_
    refine c_region ?_
    refine t_st rfl (st_assign rfl) ?_
    refine t_nil ?_
    refine x_then_normal ?_
    refine c_seq ?_
    refine c_seq ?_
    refine c_region ?_
    refine t_st rfl (st_field rfl fld36_0) ?_
    refine t_st rfl (st_load 0 rfl one3 rfl rfl) ?_
    refine t_st rfl (st_field rfl fld36_1) ?_
    refine t_st rfl (st_load 0 rfl one3 rfl rfl) ?_
    refine t_st rfl (st_field rfl fld36_2) ?_
    refine t_st rfl (st_load 0 rfl one3 rfl rfl) ?_
    refine t_st rfl (st_field rfl fld36_3) ?_
    refine t_st rfl (st_load 0 rfl one3 rfl rfl) ?_
    refine t_st rfl (st_field rfl fld36_4) ?_
    refine t_st rfl (st_load 0 rfl one3 rfl rfl) ?_
    refine t_st rfl (st_field rfl fld36_5) ?_
    refine t_st rfl (st_load 0 rfl one3 rfl rfl) ?_
    refine t_st rfl (st_field rfl fld36_6) ?_
    refine t_st rfl (st_load 0 rfl one3 rfl rfl) ?_
    refine t_st rfl (st_field rfl fld36_7) ?_
    refine t_st rfl (st_load 0 rfl one3 rfl rfl) ?_
    refine t_st rfl (st_build (v := .agg #[.int .i64 (s1.Kind), .int .i64 (s1.Session), .int .i64 (s1.No), .int .i64 (s1.Of), .int .i64 (s1.End), .int .i64 (s1.At), .int .i64 (s1.Speed), .int .i64 (s1.Sent)]) [(0, .int .i64 (s1.Kind)), (1, .int .i64 (s1.Session)), (2, .int .i64 (s1.No)), (3, .int .i64 (s1.Of)), (4, .int .i64 (s1.End)), (5, .int .i64 (s1.At)), (6, .int .i64 (s1.Speed)), (7, .int .i64 (s1.Sent))] rfl (fun _ => by kernel_rfl)) ?_
    refine t_st rfl (st_move rfl) ?_
    refine t_nil ?_
    refine x_then_normal ?_
    refine c_block ?_
    obtain ⟨l133, hl135, hk136⟩ := bindS hm
    refine c_forS (fun k134 => fun l133 => fun b126 e' hp' => ∃ (A130 : Option Addr), ∃ (c131 : Nat), ∃ (hs129 : Hp), [(5, .slice A130 (l133).length c131), (29, .agg #[.int .i64 (s1.Kind), .int .i64 (s1.Session), .int .i64 (s1.No), .int .i64 (s1.Of), .int .i64 (s1.End), .int .i64 (s1.At), .int .i64 (s1.Speed), .int .i64 (s1.Sent)]), (30, .int .i64 ((k134 : Int)))] = e' ∧ (hs129 ++ R) = hp' ∧ b.Le b126 ∧ OS 9 (OT.fr RT.str) b126.w (.slice A130 l133.length c131) l133 hs129) hl135 (e' := [(5, .slice none 0 0), (29, .agg #[.int .i64 (s1.Kind), .int .i64 (s1.Session), .int .i64 (s1.No), .int .i64 (s1.Of), .int .i64 (s1.End), .int .i64 (s1.At), .int .i64 (s1.Speed), .int .i64 (s1.Sent)]), (30, .int .i64 0)]) (hp' := ([] ++ R)) ⟨rfl, rfl, rfl, trivial⟩ (.cons _ (.refl _)) ⟨none, 0, [], rfl, rfl, (Base.Le.refl _), OS.nil⟩ ?_ ?_
    ·
      rintro k134 l133 b126 _ _ oL84 hknL84 ⟨A130, c131, hs129, rfl, rfl, hle127, h132⟩ hstepL84
      unfold mGuardPack_L84 at hstepL84
      have hm := hstepL84
      refine c_seq ?_
      refine c_region ?_
      refine t_st rfl (st_lss_t rfl rfl (by omega)) ?_
      refine t_nil ?_
      refine x_then_normal ?_
      refine c_seq ?_
      refine c_cond_t rfl ?_
      refine c_skip ?_
      refine x_then_normal ?_
      refine c_seq ?_
      refine c_block ?_
      refine c_seq ?_
      refine c_region ?_
      obtain ⟨x137, h138, hm⟩ := bindS hm
      obtain ⟨j139, hj140, hx141⟩ := idx_some h138
      obtain ⟨cs142, hr143, hcs144, hlt145⟩ := arr_get (r := (RT.int .i64)) (w := b126.w) (css := [[.int .i64 (s1.Kind)], [.int .i64 (s1.Session)], [.int .i64 (s1.No)], [.int .i64 (s1.Of)], [.int .i64 (s1.End)], [.int .i64 (s1.At)], [.int .i64 (s1.Speed)], [.int .i64 (s1.Sent)]]) (l := [s1.Kind, s1.Session, s1.No, s1.Of, s1.End, s1.At, s1.Speed, s1.Sent]) (sz := 1) rfl ⟨rfl, ⟨rfl, ⟨rfl, ⟨rfl, ⟨rfl, ⟨rfl, ⟨rfl, ⟨rfl, trivial⟩⟩⟩⟩⟩⟩⟩⟩ hx141
      obtain rfl := hr143
      refine t_st rfl (st_aidx1 (cs := ([[.int .i64 (s1.Kind)], [.int .i64 (s1.Session)], [.int .i64 (s1.No)], [.int .i64 (s1.Of)], [.int .i64 (s1.End)], [.int .i64 (s1.At)], [.int .i64 (s1.Speed)], [.int .i64 (s1.Sent)]] : List (List Value)).flatten) j139 rfl rfl hj140 hlt145 (hcs144 0 _ rfl) arr110 one3) ?_
      refine t_st rfl (st_assign rfl) ?_
      refine t_nil ?_
      refine x_then_normal ?_
      refine c_region ?_
      refine t_st rfl (st_move rfl) ?_
      refine t_st rfl (st_move rfl) ?_
      obtain ⟨x146, hcl147, hm⟩ := bindS hm
      refine t_do rfl (u_callW0 _ call52 rfl (fun w ho => cStrconvItoa _ [] ((hG.le hle127).old ho) x137 x146 hcl147) (fun _ _ _ h => h.2.symm)) ?_
      rintro _ _ ⟨⟨_, rfl, _⟩, rfl⟩
      refine t_do rfl (u_bslice (el := 9) [(0, .string (x146))] [.string (x146)] rfl (fun _ => by kernel_rfl)) ?_
      rintro _ _ ⟨g148, rfl, rfl⟩
      obtain ⟨_, h149, hm⟩ := bindS hm
      have h149 := room_some h149
      refine t_do rfl (u_appOS (r := RT.str) (l := l133) [_] R [[.string (x146)]] [x146] rfl (by decide) sl109 inf9 rfl rfl rfl rfl h132 rfl (fun w ho => Rd.own (i := 0) ho rfl) ⟨rfl, trivial⟩ h149) ?_
      rintro _ _ ⟨hs150, rfl, h151⟩
      obtain ⟨A152, c153, rfl, _⟩ := h151.form
      refine t_st rfl (st_assign rfl) ?_
      refine t_nil ?_
      refine x_block_normal ?_
      refine x_then_normal ?_
      refine c_region ?_
      refine t_st rfl (st_add rfl rfl (by omega)) ?_
      refine t_st rfl (st_move rfl) ?_
      refine t_nil ?_
      obtain rfl := some1 hm
      exact x_againS (e' := [(5, .slice A152 (l133 ++ [x146]).length c153), (29, .agg #[.int .i64 (s1.Kind), .int .i64 (s1.Session), .int .i64 (s1.No), .int .i64 (s1.Of), .int .i64 (s1.End), .int .i64 (s1.At), .int .i64 (s1.Speed), .int .i64 (s1.Sent)]), (30, .int .i64 ((k134 : Int) + 1))]) (hp' := (hs150 ++ R)) ⟨rfl, rfl, rfl, trivial⟩ (.cons _ (sub_app hs150 (.refl _))) ⟨A152, c153, hs150, rfl, rfl, (hle127), h151⟩
    ·
      rintro b126 _ _ ⟨A130, c131, hs129, rfl, rfl, hle127, h132⟩
      have hm := hk136
      refine c_seq ?_
      refine c_region ?_
      refine t_st rfl (st_lss_f rfl rfl (by omega)) ?_
      refine t_nil ?_
      refine x_then_normal ?_
      refine c_seq ?_
      refine c_cond_f rfl ?_
      refine c_exit ?_
      refine x_then_exit ?_
      refine x_then_exit ?_
      refine x_block_out ?_
      refine x_then_normal ?_
      refine c_seq ?_
      refine c_region ?_
      refine t_st rfl (st_move rfl) ?_
      obtain ⟨x154, hcl155, hm⟩ := bindS hm
      refine t_do rfl (u_callW0 _ call53 rfl (fun w ho => cStringsJoin _ [] l133 (ByteArray.mk #[32]) A130 c131 (OS.now (o := (OT.fr RT.str)) (l := l133) (hs := hs129) h132 ho (List.sublist_append_left _ _)) x154 hcl155) (fun _ _ _ h => h.2.symm)) ?_
      rintro _ _ ⟨⟨_, rfl, _⟩, rfl⟩
      refine t_st rfl (st_assign rfl) ?_
      refine t_st rfl (st_assign rfl) ?_
      refine t_nil ?_
      refine x_then_normal ?_
      refine c_ret ?_
      obtain ⟨rfl, rfl⟩ := some2 hm
      exact retM (rs := [.tmp 2, .tmp 3]) [.string (x154), .int .i64 (0)] hle127 (by decide) rfl ⟨rfl, ⟨rfl, trivial⟩⟩ rfl (hp' := R) (sub_skip hs129 (.refl _)) ⟨rfl, rfl⟩

set_option maxRecDepth 20000 in
theorem cFishkeep1GuardTold (b : Base) (R : Hp) (hG : GOn GT b) (s1 : GuardPacket) (x29 : Bool) (hm : mFishkeep1GuardTold s1 = some x29) :
    CallsG Tryd.prog 4 [.agg #[.int .i64 (s1.Kind), .int .i64 (s1.Session), .int .i64 (s1.No), .int .i64 (s1.Of), .int .i64 (s1.End), .int .i64 (s1.At), .int .i64 (s1.Speed), .int .i64 (s1.Sent)]] b (R) (fun v b' hp' => .bool (x29) = v ∧ R = hp') := by
  refine fn_enterG 29 Tryd.func4 rfl Tryd.ntmps4 rfl ?_
  unfold mFishkeep1GuardTold at hm
  refine c_seq ?_
  refine c_region ?_
  refine t_do rfl (u_box _ rfl rfl) ?_
  rintro _ _ ⟨g30, rfl, rfl⟩
  refine t_st rfl (st_assign rfl) ?_
  refine t_nil ?_
  refine x_then_normal ?_
  refine c_seq ?_
  refine c_seq ?_
  refine c_region ?_
  obtain ⟨x31, hcl32, hm⟩ := bindS hm
  refine t_do rfl (u_callW0 _ call14 rfl (fun w ho => cFishkeep1AwakeGuard _ [] ((hG.le (Base.Le.refl _)).old ho) x31 hcl32) (fun _ _ _ h => h.2.symm)) ?_
  rintro _ _ ⟨⟨_, rfl, _⟩, rfl⟩
  refine t_st rfl (st_not rfl) ?_
  refine t_nil ?_
  refine x_then_normal ?_
  refine c_cond _ rfl (fun hc33 => ?_) (fun hc33 => ?_)
  ·
    rw [if_neg (fun hh => Bool.noConfusion (hh.symm.trans (notT hc33)))] at hm
    refine c_seq ?_
    refine c_region ?_
    refine t_st rfl (st_assign rfl) ?_
    refine t_nil ?_
    refine x_then_normal ?_
    refine c_ret ?_
    refine x_then_ret ?_
    obtain rfl := some1 hm
    exact retM (rs := [.tmp 2]) [.bool (false)] (Base.Le.refl _) (by decide) rfl ⟨rfl, trivial⟩ rfl (hp' := R) (.cons _ (.refl _)) ⟨rfl, rfl⟩
  ·
    rw [if_pos (notF hc33)] at hm
    refine c_skip ?_
    refine x_then_normal ?_
    refine c_seq ?_
    refine c_region ?_
    refine t_st rfl (st_loadD (vs := [_, _, _, _, _, _, _, _]) 0 8 rfl agg36 rfl rfl rfl) ?_
    obtain ⟨⟨x34, x35⟩, hcl36, hm⟩ := bindS hm
    have hm := (unc2E hm)
    refine t_do rfl (u_callW0 _ call19 rfl (fun w ho => cGuardPack _ [] ((hG.le (Base.Le.refl _)).old ho) s1 x34 x35 hcl36) (fun _ _ _ h => h.2.symm)) ?_
    rintro _ _ ⟨⟨_, rfl, _⟩, rfl⟩
    refine t_st rfl (st_move rfl) ?_
    refine t_st rfl (st_extract rfl rfl) ?_
    refine t_st rfl (st_extract rfl rfl) ?_
    refine t_st rfl (st_assign rfl) ?_
    refine t_st rfl (st_assign rfl) ?_
    refine t_nil ?_
    refine x_then_normal ?_
    refine c_seq ?_
    refine c_seq ?_
    refine c_region ?_
    refine t_st rfl (st_move rfl) ?_
    refine t_st rfl (st_neq rfl rfl) ?_
    refine t_nil ?_
    refine x_then_normal ?_
    refine c_cond _ rfl (fun hc37 => ?_) (fun hc37 => ?_)
    ·
      rw [if_pos (of_decide_eq_true hc37)] at hm
      refine c_seq ?_
      refine c_region ?_
      refine t_st rfl (st_move rfl) ?_
      refine t_st rfl (st_seql rfl rfl) ?_
      refine t_st rfl (st_assign rfl) ?_
      refine t_nil ?_
      refine x_then_normal ?_
      refine c_ret ?_
      refine x_then_ret ?_
      obtain rfl := some1 hm
      exact retM (rs := [.tmp 2]) [.bool (sEq x34 (ByteArray.mk #[]))] (Base.Le.refl _) (by decide) rfl ⟨rfl, trivial⟩ rfl (hp' := R) (.cons _ (.refl _)) ⟨rfl, rfl⟩
    ·
      rw [if_neg (of_decide_eq_false hc37)] at hm
      refine c_skip ?_
      refine x_then_normal ?_
      refine c_seq ?_
      refine c_region ?_
      refine t_st rfl (st_move rfl) ?_
      obtain ⟨⟨x38, x39, x40, x41, x42, x43, x44, x45, x46⟩, hcl47, hm⟩ := bindS hm
      have hm := (unc9E hm)
      refine t_callG _ rfl call20 rfl (cGuardUnpack _ _ (hG.le (Base.Le.refl _)) x34 x38 x39 x40 x41 x42 x43 x44 x45 x46 hcl47) ?_
      rintro _ b48 _ hle49 ⟨rfl, rfl⟩
      refine t_st rfl (st_move rfl) ?_
      refine t_st rfl (st_extract rfl rfl) ?_
      refine t_st rfl (st_extract rfl rfl) ?_
      refine t_do rfl (u_alloc [.int .i64 0, .int .i64 0, .int .i64 0, .int .i64 0, .int .i64 0, .int .i64 0, .int .i64 0, .int .i64 0] zero36 rfl) ?_
      rintro _ _ ⟨g50, rfl, rfl⟩
      refine t_do rfl (u_storeN (vs := [_, _, _, _, _, _, _, _]) 0 8 rfl rfl rfl siz36 rfl (by intro u hu; simp only [List.mem_cons, List.not_mem_nil, or_false] at hu; rcases hu with rfl | rfl | rfl | rfl | rfl | rfl | rfl | rfl <;> rfl) rfl (by simp)) ?_
      rintro _ _ rfl
      refine t_st rfl (st_assign rfl) ?_
      refine t_nil ?_
      refine x_then_normal ?_
      obtain ⟨x54, hj55, hk55⟩ := bindS hm
      refine c_join (fun b52 e' hp' => [(2, .bool (x54))] = e' ∧ R = hp' ∧ b48.Le b52) ?_ ?_
      ·
        have hm := hj55
        refine c_region ?_
        refine t_st rfl (st_move rfl) ?_
        refine t_bool rfl (st_eql rfl rfl) (fun hc56 => ?_) (fun hc56 => ?_)
        ·
          rw [if_pos hc56] at hm
          refine t_st rfl (st_move rfl) ?_
          refine t_yes 24 rfl rfl rfl ?_
          refine t_st rfl (st_loadD (vs := [_, _, _, _, _, _, _, _]) 0 8 rfl agg36 rfl rfl rfl) ?_
          refine t_yes 24 rfl rfl rfl ?_
          refine t_st rfl (st_loadD (vs := [_, _, _, _, _, _, _, _]) 1 8 rfl agg36 rfl rfl rfl) ?_
          refine t_yes 24 rfl rfl rfl ?_
          refine t_st rfl (st_eqlA (xs := [.int .i64 (x38), .int .i64 (x39), .int .i64 (x40), .int .i64 (x41), .int .i64 (x42), .int .i64 (x43), .int .i64 (x44), .int .i64 (x45)]) (ys := [.int .i64 (s1.Kind), .int .i64 (s1.Session), .int .i64 (s1.No), .int .i64 (s1.Of), .int .i64 (s1.End), .int .i64 (s1.At), .int .i64 (s1.Speed), .int .i64 (s1.Sent)]) (p := x38 = s1.Kind ∧ x39 = s1.Session ∧ x40 = s1.No ∧ x41 = s1.Of ∧ x42 = s1.End ∧ x43 = s1.At ∧ x44 = s1.Speed ∧ x45 = s1.Sent) rfl rfl eqt36 ⟨⟨_, rfl⟩, ⟨⟨_, rfl⟩, ⟨⟨_, rfl⟩, ⟨⟨_, rfl⟩, ⟨⟨_, rfl⟩, ⟨⟨_, rfl⟩, ⟨⟨_, rfl⟩, ⟨⟨_, rfl⟩, trivial⟩⟩⟩⟩⟩⟩⟩⟩ ⟨⟨_, rfl⟩, ⟨⟨_, rfl⟩, ⟨⟨_, rfl⟩, ⟨⟨_, rfl⟩, ⟨⟨_, rfl⟩, ⟨⟨_, rfl⟩, ⟨⟨_, rfl⟩, ⟨⟨_, rfl⟩, trivial⟩⟩⟩⟩⟩⟩⟩⟩ (by simp [eqCells, eqCell, Bool.decide_and, beq_dec])) ?_
          refine t_st rfl (st_pick_t rfl rfl) ?_
          refine t_st rfl (st_assign rfl) ?_
          refine t_nil ?_
          obtain rfl := some1 hm
          exact x_join (e' := [(2, .bool (decide (x38 = s1.Kind ∧ x39 = s1.Session ∧ x40 = s1.No ∧ x41 = s1.Of ∧ x42 = s1.End ∧ x43 = s1.At ∧ x44 = s1.Speed ∧ x45 = s1.Sent)))]) (hp' := R) ⟨rfl, trivial⟩ (.cons _ (.cons _ (.refl _))) ⟨rfl, rfl, (Base.Le.refl _)⟩
        ·
          rw [if_neg hc56] at hm
          refine t_st rfl (st_move rfl) ?_
          refine t_no 24 rfl rfl rfl rfl rfl ?_
          refine t_no 24 rfl rfl rfl rfl rfl ?_
          refine t_no 24 rfl rfl rfl rfl rfl ?_
          refine t_st rfl (st_pick_f rfl rfl) ?_
          refine t_st rfl (st_assign rfl) ?_
          refine t_nil ?_
          obtain rfl := some1 hm
          exact x_join (e' := [(2, .bool (false))]) (hp' := R) ⟨rfl, trivial⟩ (.cons _ (.cons _ (.refl _))) ⟨rfl, rfl, (Base.Le.refl _)⟩
      ·
        rintro b52 _ _ ⟨rfl, rfl, hle53⟩
        have hm := hk55
        refine c_ret ?_
        obtain rfl := some1 hm
        exact retM (rs := [.tmp 2]) [.bool (x54)] (hle49.trans hle53) (by decide) rfl ⟨rfl, trivial⟩ rfl (hp' := R) (.refl _) ⟨rfl, rfl⟩

end Go.Proofs.YtljcafilceachaaDoor
