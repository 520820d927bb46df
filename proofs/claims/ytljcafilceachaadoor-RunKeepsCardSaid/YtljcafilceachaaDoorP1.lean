/- Contracts: the code computes its model (part 1). -/
import Derived.Test.YtljcafilceachaaDoorT
set_option linter.unusedVariables false
set_option linter.unusedSimpArgs false
namespace Go.Proofs.YtljcafilceachaaDoor
open Go.RowKit Go.Fp

set_option maxRecDepth 20000 in
theorem cStringsliteHasSuffix (b : Base) (R : Hp) (x1 : ByteArray) (x2 : ByteArray) (x15 : Bool) (hm : mStringsliteHasSuffix x1 x2 = some x15) :
    CallsG Tryd.prog 145 [.string (x1), .string (x2)] b (R) (fun v b' hp' => .bool (x15) = v ∧ R = hp') := by
  refine fn_enterG 21 Tryd.func145 rfl Tryd.ntmps145 rfl ?_
  unfold mStringsliteHasSuffix at hm
  refine c_seq ?_
  refine c_region ?_
  refine t_st rfl (st_assign rfl) ?_
  refine t_nil ?_
  refine x_then_normal ?_
  obtain ⟨x22, hj23, hk23⟩ := bindS hm
  refine c_join (fun b20 e' hp' => [(4, .bool (x22))] = e' ∧ R = hp' ∧ b.Le b20) ?_ ?_
  ·
    have hm := hj23
    refine c_region ?_
    refine t_st rfl (st_move rfl) ?_
    refine t_st rfl (st_slen rfl str9) ?_
    refine t_st rfl (st_move rfl) ?_
    refine t_st rfl (st_slen rfl str9) ?_
    refine t_bool rfl (st_geq rfl rfl) (fun hc24 => ?_) (fun hc24 => ?_)
    ·
      rw [if_pos hc24] at hm
      refine t_st rfl (st_move rfl) ?_
      refine t_yes 10 rfl rfl rfl ?_
      refine t_st rfl (st_move rfl) ?_
      refine t_yes 10 rfl rfl rfl ?_
      refine t_st rfl (st_move rfl) ?_
      refine t_yes 10 rfl rfl rfl ?_
      refine t_st rfl (st_slen rfl str9) ?_
      refine t_yes 10 rfl rfl rfl ?_
      refine t_st rfl (st_move rfl) ?_
      refine t_yes 10 rfl rfl rfl ?_
      refine t_st rfl (st_slen rfl str9) ?_
      refine t_yes 10 rfl rfl rfl ?_
      obtain ⟨_, h25, hm⟩ := bindS hm
      have h25 := (chk_some h25).2
      refine t_st rfl (st_sub rfl rfl h25) ?_
      refine t_yes 10 rfl rfl rfl ?_
      obtain ⟨q26, h27, hm⟩ := bindS hm
      refine t_st rfl (st_scut rfl (.inr ⟨_, _, rfl, rfl⟩) (.inl ⟨rfl, rfl⟩) h27 str9) ?_
      refine t_yes 10 rfl rfl rfl ?_
      refine t_st rfl (st_move rfl) ?_
      refine t_yes 10 rfl rfl rfl ?_
      refine t_st rfl (st_seql rfl rfl) ?_
      refine t_st rfl (st_pick_t rfl rfl) ?_
      refine t_st rfl (st_assign rfl) ?_
      refine t_nil ?_
      obtain rfl := some1 hm
      exact x_join (e' := [(4, .bool (sEq q26 x2))]) (hp' := R) ⟨rfl, trivial⟩ (.refl _) ⟨rfl, rfl, (Base.Le.refl _)⟩
    ·
      rw [if_neg hc24] at hm
      refine t_st rfl (st_move rfl) ?_
      refine t_no 10 rfl rfl rfl rfl rfl ?_
      refine t_no 10 rfl rfl rfl rfl rfl ?_
      refine t_no 10 rfl rfl rfl rfl rfl ?_
      refine t_no 10 rfl rfl rfl rfl rfl ?_
      refine t_no 10 rfl rfl rfl rfl rfl ?_
      refine t_no 10 rfl rfl rfl rfl rfl ?_
      refine t_no 10 rfl rfl rfl rfl rfl ?_
      refine t_no 10 rfl rfl rfl rfl rfl ?_
      refine t_no 10 rfl rfl rfl rfl rfl ?_
      refine t_st rfl (st_pick_f rfl rfl) ?_
      refine t_st rfl (st_assign rfl) ?_
      refine t_nil ?_
      obtain rfl := some1 hm
      exact x_join (e' := [(4, .bool (false))]) (hp' := R) ⟨rfl, trivial⟩ (.refl _) ⟨rfl, rfl, (Base.Le.refl _)⟩
  ·
    rintro b20 _ _ ⟨rfl, rfl, hle21⟩
    have hm := hk23
    refine c_ret ?_
    obtain rfl := some1 hm
    exact retM (rs := [.tmp 4]) [.bool (x22)] hle21 (by decide) rfl ⟨rfl, trivial⟩ rfl (hp' := R) (.refl _) ⟨rfl, rfl⟩

set_option maxRecDepth 20000 in
theorem cStringsliteCutSuffix (b : Base) (R : Hp) (x1 : ByteArray) (x2 : ByteArray) (x9 : ByteArray) (x10 : Bool) (hm : mStringsliteCutSuffix x1 x2 = some (x9, x10)) :
    CallsG Tryd.prog 127 [.string (x1), .string (x2)] b (R) (fun v b' hp' => .tuple #[.string (x9), .bool (x10)] = v ∧ R = hp') := by
  refine fn_enterG 18 Tryd.func127 rfl Tryd.ntmps127 rfl ?_
  unfold mStringsliteCutSuffix at hm
  refine c_seq ?_
  refine c_region ?_
  refine t_st rfl (st_assign rfl) ?_
  refine t_st rfl (st_assign rfl) ?_
  refine t_nil ?_
  refine x_then_normal ?_
  refine c_seq ?_
  refine c_seq ?_
  refine c_region ?_
  refine t_st rfl (st_move rfl) ?_
  refine t_st rfl (st_move rfl) ?_
  obtain ⟨x11, hcl12, hm⟩ := bindS hm
  refine t_do rfl (u_callW0 _ call145 rfl (fun w ho => cStringsliteHasSuffix _ [] x1 x2 x11 hcl12) (fun _ _ _ h => h.2.symm)) ?_
  rintro _ _ ⟨⟨_, rfl, _⟩, rfl⟩
  refine t_st rfl (st_not rfl) ?_
  refine t_nil ?_
  refine x_then_normal ?_
  refine c_cond _ rfl (fun hc13 => ?_) (fun hc13 => ?_)
  ·
    rw [if_neg (fun hh => Bool.noConfusion (hh.symm.trans (notT hc13)))] at hm
    refine c_seq ?_
    refine c_region ?_
    refine t_st rfl (st_move rfl) ?_
    refine t_st rfl (st_assign rfl) ?_
    refine t_st rfl (st_assign rfl) ?_
    refine t_nil ?_
    refine x_then_normal ?_
    refine c_ret ?_
    refine x_then_ret ?_
    obtain ⟨rfl, rfl⟩ := some2 hm
    exact retM (rs := [.tmp 4, .tmp 5]) [.string (x1), .bool (false)] (Base.Le.refl _) (by decide) rfl ⟨rfl, ⟨rfl, trivial⟩⟩ rfl (hp' := R) (.refl _) ⟨rfl, rfl⟩
  ·
    rw [if_pos (notF hc13)] at hm
    refine c_skip ?_
    refine x_then_normal ?_
    refine c_seq ?_
    refine c_region ?_
    refine t_st rfl (st_move rfl) ?_
    refine t_st rfl (st_move rfl) ?_
    refine t_st rfl (st_slen rfl str9) ?_
    refine t_st rfl (st_move rfl) ?_
    refine t_st rfl (st_slen rfl str9) ?_
    obtain ⟨_, h14, hm⟩ := bindS hm
    have h14 := (chk_some h14).2
    refine t_st rfl (st_sub rfl rfl h14) ?_
    obtain ⟨q15, h16, hm⟩ := bindS hm
    refine t_st rfl (st_scut rfl (.inl ⟨rfl, rfl⟩) (.inr ⟨_, _, rfl, rfl⟩) h16 str9) ?_
    refine t_st rfl (st_assign rfl) ?_
    refine t_st rfl (st_assign rfl) ?_
    refine t_nil ?_
    refine x_then_normal ?_
    refine c_ret ?_
    obtain ⟨rfl, rfl⟩ := some2 hm
    exact retM (rs := [.tmp 4, .tmp 5]) [.string (q15), .bool (true)] (Base.Le.refl _) (by decide) rfl ⟨rfl, ⟨rfl, trivial⟩⟩ rfl (hp' := R) (.refl _) ⟨rfl, rfl⟩

set_option maxRecDepth 20000 in
theorem cStringsCutSuffix (b : Base) (R : Hp) (x1 : ByteArray) (x2 : ByteArray) (x6 : ByteArray) (x7 : Bool) (hm : mStringsCutSuffix x1 x2 = some (x6, x7)) :
    CallsG Tryd.prog 108 [.string (x1), .string (x2)] b (R) (fun v b' hp' => .tuple #[.string (x6), .bool (x7)] = v ∧ R = hp') := by
  refine fn_enterG 11 Tryd.func108 rfl Tryd.ntmps108 rfl ?_
  unfold mStringsCutSuffix at hm
  refine c_seq ?_
  refine c_region ?_
  refine t_st rfl (st_assign rfl) ?_
  refine t_st rfl (st_assign rfl) ?_
  refine t_nil ?_
  refine x_then_normal ?_
  refine c_seq ?_
  refine c_region ?_
  refine t_st rfl (st_move rfl) ?_
  refine t_st rfl (st_move rfl) ?_
  obtain ⟨⟨x8, x9⟩, hcl10, hm⟩ := bindS hm
  have hm := (unc2E hm)
  refine t_do rfl (u_callW0 _ call127 rfl (fun w ho => cStringsliteCutSuffix _ [] x1 x2 x8 x9 hcl10) (fun _ _ _ h => h.2.symm)) ?_
  rintro _ _ ⟨⟨_, rfl, _⟩, rfl⟩
  refine t_st rfl (st_extract rfl rfl) ?_
  refine t_st rfl (st_extract rfl rfl) ?_
  refine t_st rfl (st_assign rfl) ?_
  refine t_st rfl (st_assign rfl) ?_
  refine t_nil ?_
  refine x_then_normal ?_
  refine c_ret ?_
  obtain ⟨rfl, rfl⟩ := some2 hm
  exact retM (rs := [.tmp 4, .tmp 5]) [.string (x8), .bool (x9)] (Base.Le.refl _) (by decide) rfl ⟨rfl, ⟨rfl, trivial⟩⟩ rfl (hp' := R) (.refl _) ⟨rfl, rfl⟩

set_option maxRecDepth 20000 in
theorem cStringsliteIndexByte (b : Base) (R : Hp) (x1 : ByteArray) (x2 : Int) (x3 : Int) (hm : mStringsliteIndexByte x1 x2 = some x3) :
    CallsG Tryd.prog 141 [.string (x1), .int .u8 (x2)] b (R) (fun v b' hp' => .int .i64 (x3) = v ∧ R = hp') := by
  refine fn_enterG 8 Tryd.func141 rfl Tryd.ntmps141 rfl ?_
  unfold mStringsliteIndexByte at hm
  refine c_seq ?_
  refine c_region ?_
  refine t_st rfl (st_assign rfl) ?_
  refine t_nil ?_
  refine x_then_normal ?_
  refine c_seq ?_
  refine c_region ?_
  refine t_st rfl (st_move rfl) ?_
  refine t_st rfl (st_move rfl) ?_
  refine t_st rfl (st_extern ext151_1 ext151_2 ext151_3 ext151_4 ext151_5 rfl (run_sFirst _ _)) ?_
  refine t_st rfl (st_assign rfl) ?_
  refine t_nil ?_
  refine x_then_normal ?_
  refine c_ret ?_
  obtain rfl := some1 hm
  exact retM (rs := [.tmp 4]) [.int .i64 ((sFirst x1 x2))] (Base.Le.refl _) (by decide) rfl ⟨rfl, trivial⟩ rfl (hp' := R) (.refl _) ⟨rfl, rfl⟩

set_option maxRecDepth 20000 in
theorem cStringsliteIndex (b : Base) (R : Hp) (x1 : ByteArray) (x2 : ByteArray) (x16 : Int) (hm : mStringsliteIndex x1 x2 = some x16) :
    CallsG Tryd.prog 126 [.string (x1), .string (x2)] b (R) (fun v b' hp' => .int .i64 (x16) = v ∧ R = hp') := by
  refine fn_enterG 143 Tryd.func126 rfl Tryd.ntmps126 rfl ?_
  unfold mStringsliteIndex at hm
  refine c_seq ?_
  refine c_region ?_
  refine t_st rfl (st_assign rfl) ?_
  refine t_nil ?_
  refine x_then_normal ?_
  refine c_seq ?_
  refine c_region ?_
  refine t_st rfl (st_move rfl) ?_
  refine t_st rfl (st_slen rfl str9) ?_
  refine t_st rfl (st_assign rfl) ?_
  refine t_nil ?_
  refine x_then_normal ?_
  refine c_seq ?_
  refine c_block ?_
  obtain ⟨x20, hj21, hk21⟩ := bindS hm
  refine c_join (fun b18 e' hp' => [(0, .string (x1)), (1, .string (x2)), (5, .int .i64 ((x2.size : Int))), (16, .bool (x20))] = e' ∧ R = hp' ∧ b.Le b18) ?_ ?_
  ·
    have hm := hj21
    refine c_region ?_
    refine t_st rfl (st_move rfl) ?_
    refine t_bool rfl (st_eql rfl rfl) (fun hc22 => ?_) (fun hc22 => ?_)
    ·
      rw [if_pos hc22] at hm
      refine t_st rfl (st_move rfl) ?_
      refine t_no 19 rfl rfl rfl rfl rfl ?_
      refine t_no 19 rfl rfl rfl rfl rfl ?_
      refine t_no 19 rfl rfl rfl rfl rfl ?_
      refine t_st rfl (st_pick_t rfl rfl) ?_
      refine t_st rfl (st_assign rfl) ?_
      refine t_nil ?_
      obtain rfl := some1 hm
      exact x_join (e' := [(0, .string (x1)), (1, .string (x2)), (5, .int .i64 ((x2.size : Int))), (16, .bool (true))]) (hp' := R) ⟨rfl, rfl, rfl, rfl, trivial⟩ (.refl _) ⟨rfl, rfl, (Base.Le.refl _)⟩
    ·
      rw [if_neg hc22] at hm
      refine t_st rfl (st_move rfl) ?_
      refine t_yes 19 rfl rfl rfl ?_
      refine t_st rfl (st_move rfl) ?_
      refine t_yes 19 rfl rfl rfl ?_
      refine t_st rfl (st_move rfl) ?_
      refine t_yes 19 rfl rfl rfl ?_
      refine t_st rfl (st_seql rfl rfl) ?_
      refine t_st rfl (st_pick_f rfl rfl) ?_
      refine t_st rfl (st_assign rfl) ?_
      refine t_nil ?_
      obtain rfl := some1 hm
      exact x_join (e' := [(0, .string (x1)), (1, .string (x2)), (5, .int .i64 ((x2.size : Int))), (16, .bool (sEq x2 x1))]) (hp' := R) ⟨rfl, rfl, rfl, rfl, trivial⟩ (.refl _) ⟨rfl, rfl, (Base.Le.refl _)⟩
  ·
    rintro b18 _ _ ⟨rfl, rfl, hle19⟩
    have hm := hk21
    refine c_cond _ rfl (fun hc23 => ?_) (fun hc23 => ?_)
    ·
      rw [if_pos hc23] at hm
      refine c_seq ?_
      refine c_region ?_
      refine t_st rfl (st_assign rfl) ?_
      refine t_nil ?_
      refine x_then_normal ?_
      refine c_ret ?_
      refine x_block_ret ?_
      refine x_then_ret ?_
      obtain rfl := some1 hm
      exact retM (rs := [.tmp 4]) [.int .i64 (0)] hle19 (by decide) rfl ⟨rfl, trivial⟩ rfl (hp' := R) (.refl _) ⟨rfl, rfl⟩
    ·
      rw [if_neg (fun hh => Bool.noConfusion (hh.symm.trans hc23))] at hm
      refine c_seq ?_
      refine c_region ?_
      refine t_st rfl (st_move rfl) ?_
      refine t_st rfl (st_eql rfl rfl) ?_
      refine t_st rfl (st_assign rfl) ?_
      refine t_nil ?_
      refine x_then_normal ?_
      refine c_cond _ rfl (fun hc24 => ?_) (fun hc24 => ?_)
      ·
        rw [if_pos (of_decide_eq_true hc24)] at hm
        refine c_seq ?_
        refine c_region ?_
        refine t_st rfl (st_move rfl) ?_
        refine t_st rfl (st_move rfl) ?_
        obtain ⟨x25, h26, hm⟩ := bindS hm
        refine t_st rfl (st_sidx rfl rfl h26 str9) ?_
        obtain ⟨x27, hcl28, hm⟩ := bindS hm
        refine t_do rfl (u_callW0 _ call141 rfl (fun w ho => cStringsliteIndexByte _ [] x1 x25 x27 hcl28) (fun _ _ _ h => h.2.symm)) ?_
        rintro _ _ ⟨⟨_, rfl, _⟩, rfl⟩
        refine t_st rfl (st_assign rfl) ?_
        refine t_nil ?_
        refine x_then_normal ?_
        refine c_ret ?_
        refine x_block_ret ?_
        refine x_then_ret ?_
        obtain rfl := some1 hm
        exact retM (rs := [.tmp 4]) [.int .i64 (x27)] hle19 (by decide) rfl ⟨rfl, trivial⟩ rfl (hp' := R) (.refl _) ⟨rfl, rfl⟩
      ·
        rw [if_neg (of_decide_eq_false hc24)] at hm
        refine c_seq ?_
        refine c_region ?_
        refine t_st rfl (st_move rfl) ?_
        refine t_st rfl (st_move rfl) ?_
        refine t_st rfl (st_slen rfl str9) ?_
        refine t_st rfl (st_geq rfl rfl) ?_
        refine t_st rfl (st_assign rfl) ?_
        refine t_nil ?_
        refine x_then_normal ?_
        refine c_cond _ rfl (fun hc29 => ?_) (fun hc29 => ?_)
        ·
          rw [if_pos (of_decide_eq_true hc29)] at hm
          refine c_seq ?_
          refine c_region ?_
          refine t_st rfl (st_assign rfl) ?_
          refine t_nil ?_
          refine x_then_normal ?_
          refine c_ret ?_
          refine x_block_ret ?_
          refine x_then_ret ?_
          obtain rfl := some1 hm
          exact retM (rs := [.tmp 4]) [.int .i64 ((-1))] hle19 (by decide) rfl ⟨rfl, trivial⟩ rfl (hp' := R) (.refl _) ⟨rfl, rfl⟩
        ·
          rw [if_neg (of_decide_eq_false hc29)] at hm
          refine c_seq ?_
          refine c_region ?_
          refine t_st rfl (st_move rfl) ?_
          cases hm

set_option maxRecDepth 20000 in
theorem cStringsIndex (b : Base) (R : Hp) (x1 : ByteArray) (x2 : ByteArray) (x5 : Int) (hm : mStringsIndex x1 x2 = some x5) :
    CallsG Tryd.prog 107 [.string (x1), .string (x2)] b (R) (fun v b' hp' => .int .i64 (x5) = v ∧ R = hp') := by
  refine fn_enterG 8 Tryd.func107 rfl Tryd.ntmps107 rfl ?_
  unfold mStringsIndex at hm
  refine c_seq ?_
  refine c_region ?_
  refine t_st rfl (st_assign rfl) ?_
  refine t_nil ?_
  refine x_then_normal ?_
  refine c_seq ?_
  refine c_region ?_
  refine t_st rfl (st_move rfl) ?_
  refine t_st rfl (st_move rfl) ?_
  obtain ⟨x6, hcl7, hm⟩ := bindS hm
  refine t_do rfl (u_callW0 _ call126 rfl (fun w ho => cStringsliteIndex _ [] x1 x2 x6 hcl7) (fun _ _ _ h => h.2.symm)) ?_
  rintro _ _ ⟨⟨_, rfl, _⟩, rfl⟩
  refine t_st rfl (st_assign rfl) ?_
  refine t_nil ?_
  refine x_then_normal ?_
  refine c_ret ?_
  obtain rfl := some1 hm
  exact retM (rs := [.tmp 4]) [.int .i64 (x6)] (Base.Le.refl _) (by decide) rfl ⟨rfl, trivial⟩ rfl (hp' := R) (.refl _) ⟨rfl, rfl⟩

set_option maxRecDepth 20000 in
theorem cStringsCount (b : Base) (R : Hp) (x1 : ByteArray) (x2 : ByteArray) (x35 : Int) (hm : mStringsCount x1 x2 = some x35) :
    CallsG Tryd.prog 106 [.string (x1), .string (x2)] b (R) (fun v b' hp' => .int .i64 (x35) = v ∧ R = hp') := by
  refine fn_enterG 34 Tryd.func106 rfl Tryd.ntmps106 rfl ?_
  unfold mStringsCount at hm
  refine c_seq ?_
  refine c_region ?_
  refine t_st rfl (st_assign rfl) ?_
  refine t_nil ?_
  refine x_then_normal ?_
  refine c_seq ?_
  refine c_seq ?_
  refine c_region ?_
  refine t_st rfl (st_move rfl) ?_
  refine t_st rfl (st_slen rfl str9) ?_
  refine t_st rfl (st_eql rfl rfl) ?_
  refine t_nil ?_
  refine x_then_normal ?_
  refine c_cond _ rfl (fun hc36 => ?_) (fun hc36 => ?_)
  ·
    rw [if_pos (of_decide_eq_true hc36)] at hm
    refine c_seq ?_
    refine c_region ?_
    refine t_st rfl (st_move rfl) ?_
    cases hm
  ·
    rw [if_neg (of_decide_eq_false hc36)] at hm
    refine c_skip ?_
    refine x_then_normal ?_
    refine c_seq ?_
    refine c_seq ?_
    refine c_region ?_
    refine t_st rfl (st_move rfl) ?_
    refine t_st rfl (st_slen rfl str9) ?_
    refine t_st rfl (st_eql rfl rfl) ?_
    refine t_nil ?_
    refine x_then_normal ?_
    refine c_cond _ rfl (fun hc37 => ?_) (fun hc37 => ?_)
    ·
      rw [if_pos (of_decide_eq_true hc37)] at hm
      refine c_seq ?_
      refine c_region ?_
      refine t_st rfl (st_move rfl) ?_
      refine t_st rfl (st_move rfl) ?_
      obtain ⟨x38, h39, hm⟩ := bindS hm
      refine t_st rfl (st_sidx rfl rfl h39 str9) ?_
      refine t_st rfl (st_extern ext125_1 ext125_2 ext125_3 ext125_4 ext125_5 rfl (run_sCount _ _)) ?_
      refine t_st rfl (st_assign rfl) ?_
      refine t_nil ?_
      refine x_then_normal ?_
      refine c_ret ?_
      refine x_then_ret ?_
      obtain rfl := some1 hm
      exact retM (rs := [.tmp 4]) [.int .i64 ((sCount x1 x38))] (Base.Le.refl _) (by decide) rfl ⟨rfl, trivial⟩ rfl (hp' := R) (.refl _) ⟨rfl, rfl⟩
    ·
      rw [if_neg (of_decide_eq_false hc37)] at hm
      refine c_skip ?_
      refine x_then_normal ?_
      refine c_seq ?_
      refine c_region ?_
      refine t_st rfl (st_assign rfl) ?_
      refine t_nil ?_
      refine x_then_normal ?_
      refine c_block ?_
      refine c_loopM (unc2 fun x59 x60 => fun b57 e' hp' => [(0, .string (x59)), (1, .string (x2)), (5, .int .i64 (x60))] = e' ∧ R = hp' ∧ b.Le b57) hm (e' := [(0, .string (x1)), (1, .string (x2)), (5, .int .i64 (0))]) (hp' := R) ⟨rfl, rfl, rfl, trivial⟩ (.refl _) ⟨rfl, rfl, (Base.Le.refl _)⟩ ?_
      rintro ⟨x59, x60⟩ b57 _ _ oL40 ⟨rfl, rfl, hle58⟩ hstepL40 houtL40
      unfold mStringsCount_L40 at hstepL40
      have hm := (unc2E hstepL40)
      refine c_block ?_
      refine c_seq ?_
      refine c_region ?_
      refine t_st rfl (st_move rfl) ?_
      refine t_st rfl (st_move rfl) ?_
      obtain ⟨x61, hcl62, hm⟩ := bindS hm
      refine t_do rfl (u_callW0 _ call107 rfl (fun w ho => cStringsIndex _ [] x59 x2 x61 hcl62) (fun _ _ _ h => h.2.symm)) ?_
      rintro _ _ ⟨⟨_, rfl, _⟩, rfl⟩
      refine t_st rfl (st_assign rfl) ?_
      refine t_nil ?_
      refine x_then_normal ?_
      refine c_seq ?_
      refine c_seq ?_
      refine c_region ?_
      refine t_st rfl (st_move rfl) ?_
      refine t_st rfl (st_eql rfl rfl) ?_
      refine t_nil ?_
      refine x_then_normal ?_
      refine c_cond _ rfl (fun hc63 => ?_) (fun hc63 => ?_)
      ·
        rw [if_pos (of_decide_eq_true hc63)] at hm
        refine c_seq ?_
        refine c_region ?_
        refine t_st rfl (st_move rfl) ?_
        refine t_st rfl (st_assign rfl) ?_
        refine t_nil ?_
        refine x_then_normal ?_
        refine c_ret ?_
        refine x_then_ret ?_
        refine x_block_ret ?_
        refine x_then_ret ?_
        refine x_block_ret ?_
        have hm := congrArg some (houtL40 _ (Option.some.inj hm).symm)
        obtain rfl := some1 hm
        exact retM (rs := [.tmp 4]) [.int .i64 (x60)] hle58 (by decide) rfl ⟨rfl, trivial⟩ rfl (hp' := R) (.refl _) ⟨rfl, rfl⟩
      ·
        rw [if_neg (of_decide_eq_false hc63)] at hm
        refine c_skip ?_
        refine x_then_normal ?_
        refine c_seq ?_
        refine c_region ?_
        refine t_st rfl (st_move rfl) ?_
        obtain ⟨_, h64, hm⟩ := bindS hm
        have h64 := (chk_some h64).2
        refine t_st rfl (st_add rfl rfl h64) ?_
        refine t_st rfl (st_assign rfl) ?_
        refine t_nil ?_
        refine x_then_normal ?_
        refine c_region ?_
        refine t_st rfl (st_move rfl) ?_
        refine t_st rfl (st_move rfl) ?_
        refine t_st rfl (st_move rfl) ?_
        refine t_st rfl (st_slen rfl str9) ?_
        obtain ⟨_, h65, hm⟩ := bindS hm
        have h65 := (chk_some h65).2
        refine t_st rfl (st_add rfl rfl h65) ?_
        obtain ⟨q66, h67, hm⟩ := bindS hm
        refine t_st rfl (st_scut rfl (.inr ⟨_, _, rfl, rfl⟩) (.inl ⟨rfl, rfl⟩) h67 str9) ?_
        refine t_st rfl (st_assign rfl) ?_
        refine t_nil ?_
        refine x_block_normal ?_
        exact x_againM (q66, x60 + 1) (Option.some.inj hm).symm (e' := [(0, .string (q66)), (1, .string (x2)), (5, .int .i64 (x60 + 1))]) (hp' := R) ⟨rfl, rfl, rfl, trivial⟩ (.refl _) ⟨rfl, rfl, (hle58)⟩

set_option maxRecDepth 20000 in
theorem cStringsGenSplit (b : Base) (R : Hp) (x1 : ByteArray) (x2 : ByteArray) (x3 : Int) (x4 : Int) (l282 : (List ByteArray)) (hm : mStringsGenSplit x1 x2 x3 x4 = some l282) :
    CallsG Tryd.prog 81 [.string (x1), .string (x2), .int .i64 (x3), .int .i64 (x4)] b (R) (fun v b' hp' => ∃ (A279 : Option Addr), ∃ (c280 : Nat), ∃ (hs278 : Hp), .slice A279 (l282).length c280 = v ∧ (hs278 ++ R) = hp' ∧ OS 9 (OT.fr RT.str) b'.w (.slice A279 l282.length c280) l282 hs278) := by
  refine fn_enterG 66 Tryd.func81 rfl Tryd.ntmps81 rfl ?_
  unfold mStringsGenSplit at hm
  refine c_seq ?_
  refine c_region ?_
  refine t_st rfl (st_assign rfl) ?_
  refine t_nil ?_
  refine x_then_normal ?_
  refine c_seq ?_
  refine c_seq ?_
  refine c_region ?_
  refine t_st rfl (st_move rfl) ?_
  refine t_st rfl (st_eql rfl rfl) ?_
  refine t_nil ?_
  refine x_then_normal ?_
  refine c_cond _ rfl (fun hc283 => ?_) (fun hc283 => ?_)
  ·
    rw [if_pos (of_decide_eq_true hc283)] at hm
    refine c_seq ?_
    refine c_region ?_
    refine t_st rfl (st_assign rfl) ?_
    refine t_nil ?_
    refine x_then_normal ?_
    refine c_ret ?_
    refine x_then_ret ?_
    obtain rfl := some1 hm
    exact retM (rs := [.tmp 8]) [.slice none 0 0] (Base.Le.refl _) (by decide) rfl ⟨rfl, trivial⟩ rfl (hp' := ([] ++ R)) (.refl _) ⟨none, 0, [], rfl, rfl, OS.nil⟩
  ·
    rw [if_neg (of_decide_eq_false hc283)] at hm
    refine c_skip ?_
    refine x_then_normal ?_
    refine c_seq ?_
    refine c_seq ?_
    refine c_region ?_
    refine t_st rfl (st_move rfl) ?_
    refine t_st rfl (st_seql rfl rfl) ?_
    refine t_nil ?_
    refine x_then_normal ?_
    refine c_cond _ rfl (fun hc284 => ?_) (fun hc284 => ?_)
    ·
      rw [if_pos hc284] at hm
      refine c_seq ?_
      refine c_region ?_
      refine t_st rfl (st_move rfl) ?_
      refine t_st rfl (st_move rfl) ?_
      cases hm
    ·
      rw [if_neg (fun hh => Bool.noConfusion (hh.symm.trans hc284))] at hm
      refine c_skip ?_
      refine x_then_normal ?_
      obtain ⟨x291, hj292, hk292⟩ := bindS hm
      refine c_join (fun b289 e' hp' => [(0, .string (x1)), (1, .string (x2)), (2, .int .i64 (x3)), (3, .int .i64 (x291))] = e' ∧ R = hp' ∧ b.Le b289) ?_ ?_
      ·
        have hm := hj292
        refine c_seq ?_
        refine c_region ?_
        refine t_st rfl (st_move rfl) ?_
        refine t_st rfl (st_lss rfl rfl) ?_
        refine t_nil ?_
        refine x_then_normal ?_
        refine c_cond _ rfl (fun hc293 => ?_) (fun hc293 => ?_)
        ·
          rw [if_pos (of_decide_eq_true hc293)] at hm
          refine c_region ?_
          refine t_st rfl (st_move rfl) ?_
          refine t_st rfl (st_move rfl) ?_
          obtain ⟨x294, hcl295, hm⟩ := bindS hm
          refine t_do rfl (u_callW0 _ call106 rfl (fun w ho => cStringsCount _ [] x1 x2 x294 hcl295) (fun _ _ _ h => h.2.symm)) ?_
          rintro _ _ ⟨⟨_, rfl, _⟩, rfl⟩
          obtain ⟨_, h296, hm⟩ := bindS hm
          have h296 := (chk_some h296).2
          refine t_st rfl (st_add rfl rfl h296) ?_
          refine t_st rfl (st_assign rfl) ?_
          refine t_nil ?_
          obtain rfl := some1 hm
          exact x_join (e' := [(0, .string (x1)), (1, .string (x2)), (2, .int .i64 (x3)), (3, .int .i64 (x294 + 1))]) (hp' := R) ⟨rfl, rfl, rfl, rfl, trivial⟩ (.refl _) ⟨rfl, rfl, (Base.Le.refl _)⟩
        ·
          rw [if_neg (of_decide_eq_false hc293)] at hm
          refine c_skip ?_
          obtain rfl := some1 hm
          exact x_join (e' := [(0, .string (x1)), (1, .string (x2)), (2, .int .i64 (x3)), (3, .int .i64 (x4))]) (hp' := R) ⟨rfl, rfl, rfl, rfl, trivial⟩ (.refl _) ⟨rfl, rfl, (Base.Le.refl _)⟩
      ·
        rintro b289 _ _ ⟨rfl, rfl, hle290⟩
        have hm := hk292
        refine c_seq ?_
        refine c_region ?_
        refine t_st rfl (st_move rfl) ?_
        refine t_st rfl (st_move rfl) ?_
        refine t_st rfl (st_slen rfl str9) ?_
        obtain ⟨_, h297, hm⟩ := bindS hm
        have h297 := (chk_some h297).2
        refine t_st rfl (st_add rfl rfl h297) ?_
        refine t_st rfl (st_min rfl rfl) ?_
        refine t_st rfl (st_assign rfl) ?_
        refine t_nil ?_
        refine x_then_normal ?_
        refine c_seq ?_
        refine c_region ?_
        refine t_st rfl (st_move rfl) ?_
        obtain ⟨m298, h299, hm⟩ := bindS hm
        have h299 := mkLen_some h299
        refine t_do rfl (u_mkOS (r := RT.str) [] R [.string (ByteArray.empty)] ByteArray.empty m298 rfl h299.1 rfl rfl sl109 inf9 rfl rfl rfl (by decide) rfl h299.2.1 h299.2.2) ?_
        rintro _ _ ⟨hs300, rfl, h301⟩
        obtain ⟨A302, c303, rfl, _⟩ := h301.form
        refine t_st rfl (st_assign rfl) ?_
        refine t_nil ?_
        refine x_then_normal ?_
        refine c_seq ?_
        refine c_region ?_
        refine t_st rfl (st_move rfl) ?_
        obtain ⟨_, h304, hm⟩ := bindS hm
        have h304 := (chk_some h304).2
        refine t_st rfl (st_sub rfl rfl h304) ?_
        refine t_st rfl (st_assign rfl) ?_
        refine t_nil ?_
        refine x_then_normal ?_
        refine c_seq ?_
        refine c_region ?_
        refine t_st rfl (st_assign rfl) ?_
        refine t_nil ?_
        refine x_then_normal ?_
        obtain ⟨⟨x414, x415, l416⟩, hj418, hk418⟩ := bindS hm
        refine c_join (fun b409 e' hp' => ∃ (hs412 : Hp), [(0, .string (x414)), (9, .slice A302 (l416).length c303), (10, .int .i64 (x415))] = e' ∧ (hs412 ++ R) = hp' ∧ b289.Le b409 ∧ OS 9 (OT.fr RT.str) b409.w (.slice A302 l416.length c303) l416 hs412 ∧ l416.length = m298) ?_ ?_
        ·
          have hm := hj418
          refine c_block ?_
          refine c_loopM (unc3 fun x490 x491 l492 => fun b485 e' hp' => ∃ (hs488 : Hp), [(0, .string (x490)), (1, .string (x2)), (2, .int .i64 (x3)), (3, .int .i64 ((min x291 ((x1.size : Int) + 1)) - 1)), (9, .slice A302 (l492).length c303), (10, .int .i64 (x491))] = e' ∧ (hs488 ++ R) = hp' ∧ b289.Le b485 ∧ OS 9 (OT.fr RT.str) b485.w (.slice A302 l492.length c303) l492 hs488 ∧ l492.length = m298) hm (e' := [(0, .string (x1)), (1, .string (x2)), (2, .int .i64 (x3)), (3, .int .i64 ((min x291 ((x1.size : Int) + 1)) - 1)), (9, .slice A302 (List.replicate m298 (ByteArray.empty : ByteArray)).length c303), (10, .int .i64 (0))]) (hp' := (hs300 ++ R)) ⟨rfl, rfl, rfl, rfl, rfl, rfl, trivial⟩ (sub_app hs300 (.refl _)) ⟨hs300, rfl, rfl, (Base.Le.refl _), h301, List.length_replicate⟩ ?_
          rintro ⟨x490, x491, l492⟩ b485 _ _ oL419 ⟨hs488, rfl, rfl, hle486, h489, hln493⟩ hstepL419 houtL419
          unfold mStringsGenSplit_L419 at hstepL419
          have hm := (unc3E hstepL419)
          refine c_seq ?_
          refine c_seq ?_
          refine c_region ?_
          refine t_st rfl (st_move rfl) ?_
          refine t_st rfl (st_move rfl) ?_
          refine t_st rfl (st_lss rfl rfl) ?_
          refine t_nil ?_
          refine x_then_normal ?_
          refine c_cond _ rfl (fun hc494 => ?_) (fun hc494 => ?_)
          ·
            rw [if_pos (of_decide_eq_true hc494)] at hm
            refine c_skip ?_
            refine x_then_normal ?_
            refine c_block ?_
            refine c_seq ?_
            refine c_region ?_
            refine t_st rfl (st_move rfl) ?_
            refine t_st rfl (st_move rfl) ?_
            obtain ⟨x495, hcl496, hm⟩ := bindS hm
            refine t_do rfl (u_callW0 _ call107 rfl (fun w ho => cStringsIndex _ [] x490 x2 x495 hcl496) (fun _ _ _ h => h.2.symm)) ?_
            rintro _ _ ⟨⟨_, rfl, _⟩, rfl⟩
            refine t_st rfl (st_assign rfl) ?_
            refine t_nil ?_
            refine x_then_normal ?_
            refine c_seq ?_
            refine c_seq ?_
            refine c_region ?_
            refine t_st rfl (st_move rfl) ?_
            refine t_st rfl (st_lss rfl rfl) ?_
            refine t_nil ?_
            refine x_then_normal ?_
            refine c_cond _ rfl (fun hc497 => ?_) (fun hc497 => ?_)
            ·
              rw [if_pos (of_decide_eq_true hc497)] at hm
              refine c_exit ?_
              refine x_then_exit ?_
              refine x_block_on rfl ?_
              refine x_then_exit ?_
              refine x_block_out ?_
              have hm := congrArg some (houtL419 _ (Option.some.inj hm).symm)
              obtain ⟨rfl, rfl, rfl⟩ := some3 hm
              exact x_join (e' := [(0, .string (x490)), (9, .slice A302 (l492).length c303), (10, .int .i64 (x491))]) (hp' := (hs488 ++ R)) ⟨rfl, rfl, rfl, trivial⟩ (sub_app hs488 (.refl _)) ⟨hs488, rfl, rfl, hle486, h489, hln493⟩
            ·
              rw [if_neg (of_decide_eq_false hc497)] at hm
              refine c_skip ?_
              refine x_then_normal ?_
              refine c_seq ?_
              refine c_region ?_
              refine t_st rfl (st_move rfl) ?_
              refine t_st rfl (st_move rfl) ?_
              refine t_st rfl (st_move rfl) ?_
              refine t_st rfl (st_move rfl) ?_
              refine t_st rfl (st_move rfl) ?_
              obtain ⟨_, h498, hm⟩ := bindS hm
              have h498 := (chk_some h498).2
              refine t_st rfl (st_add rfl rfl h498) ?_
              obtain ⟨q499, h500, hm⟩ := bindS hm
              refine t_st rfl (st_scut rfl (.inl ⟨rfl, rfl⟩) (.inr ⟨_, _, rfl, rfl⟩) h500 str9) ?_
              obtain ⟨x501, h502, hm⟩ := bindS hm
              obtain ⟨j503, hj504, hx505⟩ := idx_some h502
              obtain ⟨cs506, hs511, P512, P513, hq514, hr507, hcs508, hA509, hlt510, hb515, hho516⟩ := OS.get (sz := 1) rfl (by decide) h489 hx505
              obtain ⟨rfl, rfl⟩ := hr507
              refine t_st rfl (st_index_old j503 rfl rfl hj504 hlt510 hA509 sl109) ?_
              refine t_do rfl (u_putOS hj504 (sz := 1) (a' := q499) rfl [] R 0 1 [.string (q499)] rfl h489 hx505 rfl rfl rfl siz9 rfl (by intro u hu; simp only [List.mem_cons, List.not_mem_nil, or_false] at hu; subst hu; rfl) (fun cs hsj hh => by obtain ⟨rfl, rfl⟩ := hh; exact ⟨by decide, rfl, rfl⟩)) ?_
              rintro _ _ ⟨hs517, rfl, h518⟩
              refine t_resp 9 rfl (v' := .slice A302 (put l492 x491 q499).length c303) (by simp only [put_length]) ?_
              refine t_nil ?_
              refine x_then_normal ?_
              refine c_seq ?_
              refine c_region ?_
              refine t_st rfl (st_move rfl) ?_
              refine t_st rfl (st_move rfl) ?_
              refine t_st rfl (st_move rfl) ?_
              refine t_st rfl (st_slen rfl str9) ?_
              obtain ⟨_, h519, hm⟩ := bindS hm
              have h519 := (chk_some h519).2
              refine t_st rfl (st_add rfl rfl h519) ?_
              obtain ⟨q520, h521, hm⟩ := bindS hm
              refine t_st rfl (st_scut rfl (.inr ⟨_, _, rfl, rfl⟩) (.inl ⟨rfl, rfl⟩) h521 str9) ?_
              refine t_st rfl (st_assign rfl) ?_
              refine t_nil ?_
              refine x_then_normal ?_
              refine c_region ?_
              refine t_st rfl (st_move rfl) ?_
              obtain ⟨_, h522, hm⟩ := bindS hm
              have h522 := (chk_some h522).2
              refine t_st rfl (st_add rfl rfl h522) ?_
              refine t_st rfl (st_assign rfl) ?_
              refine t_nil ?_
              refine x_block_normal ?_
              exact x_againM (q520, x491 + 1, put l492 x491 q499) (Option.some.inj hm).symm (e' := [(0, .string (q520)), (1, .string (x2)), (2, .int .i64 (x3)), (3, .int .i64 ((min x291 ((x1.size : Int) + 1)) - 1)), (9, .slice A302 (put l492 x491 q499).length c303), (10, .int .i64 (x491 + 1))]) (hp' := (hs517 ++ R)) ⟨rfl, rfl, rfl, rfl, rfl, rfl, trivial⟩ (sub_app hs517 (.refl _)) ⟨hs517, rfl, rfl, (hle486), h518, ((put_length _ _ _).trans hln493)⟩
          ·
            rw [if_neg (of_decide_eq_false hc494)] at hm
            refine c_exit ?_
            refine x_then_exit ?_
            refine x_then_exit ?_
            refine x_block_out ?_
            have hm := congrArg some (houtL419 _ (Option.some.inj hm).symm)
            obtain ⟨rfl, rfl, rfl⟩ := some3 hm
            exact x_join (e' := [(0, .string (x490)), (9, .slice A302 (l492).length c303), (10, .int .i64 (x491))]) (hp' := (hs488 ++ R)) ⟨rfl, rfl, rfl, trivial⟩ (sub_app hs488 (.refl _)) ⟨hs488, rfl, rfl, hle486, h489, hln493⟩
        ·
          rintro b409 _ _ ⟨hs412, rfl, rfl, hle410, h413, hln417⟩
          have hm := (unc3E hk418)
          refine c_seq ?_
          refine c_region ?_
          refine t_st rfl (st_move rfl) ?_
          refine t_st rfl (st_move rfl) ?_
          refine t_st rfl (st_move rfl) ?_
          obtain ⟨x523, h524, hm⟩ := bindS hm
          obtain ⟨j525, hj526, hx527⟩ := idx_some h524
          obtain ⟨cs528, hs533, P534, P535, hq536, hr529, hcs530, hA531, hlt532, hb537, hho538⟩ := OS.get (sz := 1) rfl (by decide) h413 hx527
          obtain ⟨rfl, rfl⟩ := hr529
          refine t_st rfl (st_index_old j525 rfl rfl hj526 hlt532 hA531 sl109) ?_
          refine t_do rfl (u_putOS hj526 (sz := 1) (a' := x414) rfl [] R 0 1 [.string (x414)] rfl h413 hx527 rfl rfl rfl siz9 rfl (by intro u hu; simp only [List.mem_cons, List.not_mem_nil, or_false] at hu; subst hu; rfl) (fun cs hsj hh => by obtain ⟨rfl, rfl⟩ := hh; exact ⟨by decide, rfl, rfl⟩)) ?_
          rintro _ _ ⟨hs539, rfl, h540⟩
          refine t_resp 9 rfl (v' := .slice A302 (put l416 x415 x414).length c303) (by simp only [put_length]) ?_
          refine t_nil ?_
          refine x_then_normal ?_
          refine c_seq ?_
          refine c_region ?_
          refine t_st rfl (st_move rfl) ?_
          refine t_st rfl (st_move rfl) ?_
          obtain ⟨_, h541, hm⟩ := bindS hm
          have h541 := (chk_some h541).2
          refine t_st rfl (st_add rfl rfl h541) ?_
          obtain ⟨l542, h543, hm⟩ := bindS hm
          obtain ⟨j544, j545, hj546, hj547, hj548, hj549, hx550⟩ := cutS_some h543
          have h551 := OS.lc h540
          refine t_st rfl (hx550 ▸ st_part (l := put l416 x415 x414) j544 j545 rfl (.inl ⟨rfl, by omega⟩) (.inr ⟨_, _, _, rfl, rfl, hj547⟩) hj548 hj549 h551 sl109) ?_
          obtain ⟨hs552, hq553, h554⟩ := OS.sub (sz := 1) rfl h540 hj548 hj549
          rw [← hx550] at h554
          refine t_less [] hs539 hs552 R rfl hq553 ?_
          refine t_st rfl (st_assign rfl) ?_
          refine t_nil ?_
          refine x_then_normal ?_
          refine c_ret ?_
          obtain rfl := some1 hm
          exact retM (rs := [.tmp 8]) [.slice (subA A302 c303 j544 1) (l542).length (c303 - j544)] (hle290.trans hle410) (by decide) rfl ⟨rfl, trivial⟩ rfl (hp' := (hs552 ++ R)) (sub_app hs552 (.refl _)) ⟨(subA A302 c303 j544 1), (c303 - j544), hs552, rfl, rfl, h554⟩

set_option maxRecDepth 20000 in
theorem cStringsSplit (b : Base) (R : Hp) (x1 : ByteArray) (x2 : ByteArray) (l16 : (List ByteArray)) (hm : mStringsSplit x1 x2 = some l16) :
    CallsG Tryd.prog 55 [.string (x1), .string (x2)] b (R) (fun v b' hp' => ∃ (A13 : Option Addr), ∃ (c14 : Nat), ∃ (hs12 : Hp), .slice A13 (l16).length c14 = v ∧ (hs12 ++ R) = hp' ∧ OS 9 (OT.fr RT.str) b'.w (.slice A13 l16.length c14) l16 hs12) := by
  refine fn_enterG 8 Tryd.func55 rfl Tryd.ntmps55 rfl ?_
  unfold mStringsSplit at hm
  refine c_seq ?_
  refine c_region ?_
  refine t_st rfl (st_assign rfl) ?_
  refine t_nil ?_
  refine x_then_normal ?_
  refine c_seq ?_
  refine c_region ?_
  refine t_st rfl (st_move rfl) ?_
  refine t_st rfl (st_move rfl) ?_
  obtain ⟨l17, hcl18, hm⟩ := bindS hm
  refine t_callG _ rfl call81 rfl (cStringsGenSplit _ _ x1 x2 0 (-1) l17 hcl18) ?_
  rintro _ b19 _ hle20 ⟨A21, c22, hs23, rfl, rfl, h24⟩
  refine t_in1 [] [] hs23 R rfl ?_
  refine t_st rfl (st_assign rfl) ?_
  refine t_nil ?_
  refine x_then_normal ?_
  refine c_ret ?_
  obtain rfl := some1 hm
  exact retM (rs := [.tmp 4]) [.slice A21 (l17).length c22] hle20 (by decide) rfl ⟨rfl, trivial⟩ rfl (hp' := (hs23 ++ R)) (sub_app hs23 (.refl _)) ⟨A21, c22, hs23, rfl, rfl, h24⟩

set_option maxRecDepth 20000 in
theorem cLineLines (b : Base) (R : Hp) (x1 : ByteArray) (x141 : Bool) (l142 : (List (List ByteArray))) (hm : mLineLines x1 = some (x141, l142)) :
    CallsG Tryd.prog 82 [.string (x1)] b (R) (fun v b' hp' => ∃ (A138 : Option Addr), ∃ (c139 : Nat), ∃ (hs137 : Hp), .tuple #[.slice A138 (l142).length c139, .bool (x141)] = v ∧ (hs137 ++ R) = hp' ∧ OS 109 (OT.fr (RT.list RT.str)) b'.w (.slice A138 l142.length c139) l142 hs137) := by
  refine fn_enterG 31 Tryd.func82 rfl Tryd.ntmps82 rfl ?_
  unfold mLineLines at hm
  refine c_seq ?_
  refine c_region ?_
  refine t_st rfl (st_assign rfl) ?_
  refine t_st rfl (st_assign rfl) ?_
  refine t_nil ?_
  refine x_then_normal ?_
  refine c_seq ?_
  refine c_seq ?_
  refine c_region ?_
  refine t_st rfl (st_move rfl) ?_
  refine t_st rfl (st_seql rfl rfl) ?_
  refine t_nil ?_
  refine x_then_normal ?_
  refine c_cond _ rfl (fun hc143 => ?_) (fun hc143 => ?_)
  ·
    rw [if_pos hc143] at hm
    refine c_seq ?_
    refine c_region ?_
    refine t_st rfl (st_assign rfl) ?_
    refine t_st rfl (st_assign rfl) ?_
    refine t_nil ?_
    refine x_then_normal ?_
    refine c_ret ?_
    refine x_then_ret ?_
    obtain ⟨rfl, rfl⟩ := some2 hm
    exact retM (rs := [.tmp 2, .tmp 3]) [.slice none 0 0, .bool (true)] (Base.Le.refl _) (by decide) rfl ⟨rfl, ⟨rfl, trivial⟩⟩ rfl (hp' := ([] ++ R)) (.refl _) ⟨none, 0, [], rfl, rfl, OS.nil⟩
  ·
    rw [if_neg (fun hh => Bool.noConfusion (hh.symm.trans hc143))] at hm
    refine c_skip ?_
    refine x_then_normal ?_
    refine c_seq ?_
    refine c_region ?_
    refine t_st rfl (st_move rfl) ?_
    obtain ⟨⟨x144, x145⟩, hcl146, hm⟩ := bindS hm
    have hm := (unc2E hm)
    refine t_do rfl (u_callW0 _ call108 rfl (fun w ho => cStringsCutSuffix _ [] x1 (ByteArray.mk #[10]) x144 x145 hcl146) (fun _ _ _ h => h.2.symm)) ?_
    rintro _ _ ⟨⟨_, rfl, _⟩, rfl⟩
    refine t_st rfl (st_move rfl) ?_
    refine t_st rfl (st_extract rfl rfl) ?_
    refine t_st rfl (st_extract rfl rfl) ?_
    refine t_st rfl (st_assign rfl) ?_
    refine t_st rfl (st_assign rfl) ?_
    refine t_nil ?_
    refine x_then_normal ?_
    refine c_seq ?_
    refine c_region ?_
    refine t_st rfl (st_assign rfl) ?_
    refine t_nil ?_
    refine x_then_normal ?_
    refine c_seq ?_
    refine c_seq ?_
    refine c_region ?_
    refine t_st rfl (st_move rfl) ?_
    obtain ⟨l147, hcl148, hm⟩ := bindS hm
    refine t_callG _ rfl call55 rfl (cStringsSplit _ _ x144 (ByteArray.mk #[10]) l147 hcl148) ?_
    rintro _ b149 _ hle150 ⟨A151, c152, hs153, rfl, rfl, h154⟩
    refine t_in1 [] [] hs153 R rfl ?_
    refine t_st rfl (st_len rfl sl109) ?_
    refine t_st rfl (st_move rfl) ?_
    refine t_nil ?_
    refine x_then_normal ?_
    refine c_block ?_
    have hb156 := (OS.len h154)
    obtain ⟨l239, hl241, hk242⟩ := bindS hm
    refine c_forS (fun k240 => fun l239 => fun b232 e' hp' => ∃ (A236 : Option Addr), ∃ (c237 : Nat), ∃ (hs235 : Hp), [(5, .bool (x145)), (6, .slice A236 (l239).length c237), (17, .slice A151 (l147).length c152), (18, .int .i64 ((l147.length : Int))), (19, .int .i64 ((k240 : Int)))] = e' ∧ (hs235 ++ (hs153 ++ R)) = hp' ∧ b149.Le b232 ∧ OS 109 (OT.fr (RT.list RT.str)) b232.w (.slice A236 l239.length c237) l239 hs235) hl241 (e' := [(5, .bool (x145)), (6, .slice none 0 0), (17, .slice A151 (l147).length c152), (18, .int .i64 ((l147.length : Int))), (19, .int .i64 0)]) (hp' := ([] ++ (hs153 ++ R))) ⟨rfl, rfl, rfl, rfl, rfl, trivial⟩ (sub_app hs153 (.refl _)) ⟨none, 0, [], rfl, rfl, (Base.Le.refl _), OS.nil⟩ ?_ ?_
    ·
      rintro k240 l239 b232 _ _ oL155 hknL155 ⟨A236, c237, hs235, rfl, rfl, hle233, h238⟩ hstepL155
      unfold mLineLines_L155 at hstepL155
      have hm := hstepL155
      refine c_seq ?_
      refine c_region ?_
      refine t_st rfl (st_lss_t rfl rfl (by omega)) ?_
      refine t_nil ?_
      refine x_then_normal ?_
      refine c_seq ?_
      refine c_cond_t rfl ?_
      refine c_skip ?_
      refine x_then_normal ?_
      refine c_seq ?_
      refine c_block ?_
      refine c_seq ?_
      refine c_region ?_
      obtain ⟨x243, h244, hm⟩ := bindS hm
      obtain ⟨j245, hj246, hx247⟩ := idx_some h244
      obtain ⟨cs248, hs253, P254, P255, hq256, hr249, hcs250, hA251, hlt252, hb257, hho258⟩ := OS.get (sz := 1) rfl (by decide) (h154.le hle233) hx247
      obtain ⟨rfl, rfl⟩ := hr249
      refine t_st rfl (st_index_old j245 rfl rfl hj246 hlt252 hA251 sl109) ?_
      refine t_st rfl (st_load_rd rfl one9 (fun w ho => hcs250 w _ ho (sub_skip hs235 (List.sublist_append_left _ _)) 0 _ rfl)) ?_
      refine t_st rfl (st_assign rfl) ?_
      refine t_nil ?_
      refine x_then_normal ?_
      refine c_region ?_
      refine t_st rfl (st_move rfl) ?_
      refine t_st rfl (st_move rfl) ?_
      obtain ⟨l259, hcl260, hm⟩ := bindS hm
      refine t_callG _ rfl call55 rfl (cStringsSplit _ _ x243 (ByteArray.mk #[32]) l259 hcl260) ?_
      rintro _ b261 _ hle262 ⟨A263, c264, hs265, rfl, rfl, h266⟩
      refine t_in1 [] [] hs265 (hs235 ++ (hs153 ++ R)) rfl ?_
      refine t_do rfl (u_bslice (el := 109) [(0, .slice A263 (l259).length c264)] [.slice A263 (l259).length c264] rfl (fun _ => by kernel_rfl)) ?_
      rintro _ _ ⟨g267, rfl, rfl⟩
      refine t_frz [_] hs265 (hs235 ++ (hs153 ++ R)) rfl ?_
      intro b268 hle269 hz270
      have h271 := OS.frz (l := l259) h266 hle269.cells hz270
      obtain ⟨_, h272, hm⟩ := bindS hm
      have h272 := room_some h272
      refine t_do rfl (u_appOS (r := (RT.list RT.str)) (l := l239) [_] (hs153 ++ R) [[.slice A263 (l259).length c264]] [l259] rfl (by decide) sl156 inf109 rfl rfl rfl rfl (h238.le (hle262.trans hle269)) rfl (fun w ho => Rd.own (i := 0) ho rfl) ⟨(RT.list_mk h271), trivial⟩ h272) ?_
      rintro _ _ ⟨hs273, rfl, h274⟩
      obtain ⟨A275, c276, rfl, _⟩ := h274.form
      refine t_st rfl (st_assign rfl) ?_
      refine t_nil ?_
      refine x_block_normal ?_
      refine x_then_normal ?_
      refine c_region ?_
      refine t_st rfl (st_add rfl rfl (by omega)) ?_
      refine t_st rfl (st_move rfl) ?_
      refine t_nil ?_
      refine x_front2 [_] hs273 hs153 R rfl ?_
      refine x_front2 [_] hs153 hs273 R rfl ?_
      obtain rfl := some1 hm
      exact x_againS (e' := [(5, .bool (x145)), (6, .slice A275 (l239 ++ [l259]).length c276), (17, .slice A151 (l147).length c152), (18, .int .i64 ((l147.length : Int))), (19, .int .i64 ((k240 : Int) + 1))]) (hp' := (hs273 ++ (hs153 ++ R))) ⟨rfl, rfl, rfl, rfl, rfl, trivial⟩ (.cons _ (sub_app hs273 (sub_app hs153 (.refl _)))) ⟨A275, c276, hs273, rfl, rfl, ((hle233.trans (hle262.trans hle269))), h274⟩
    ·
      rintro b232 _ _ ⟨A236, c237, hs235, rfl, rfl, hle233, h238⟩
      have hm := hk242
      refine c_seq ?_
      refine c_region ?_
      refine t_st rfl (st_lss_f rfl rfl (by omega)) ?_
      refine t_nil ?_
      refine x_then_normal ?_
      refine c_seq ?_
      refine c_cond_f rfl ?_
      refine c_exit ?_
      refine x_then_exit ?_
      refine x_then_exit ?_
      refine x_block_out ?_
      refine x_then_normal ?_
      refine c_seq ?_
      refine c_region ?_
      refine t_st rfl (st_move rfl) ?_
      refine t_st rfl (st_move rfl) ?_
      refine t_st rfl (st_assign rfl) ?_
      refine t_st rfl (st_assign rfl) ?_
      refine t_nil ?_
      refine x_then_normal ?_
      refine c_ret ?_
      obtain ⟨rfl, rfl⟩ := some2 hm
      exact retM (rs := [.tmp 2, .tmp 3]) [.slice A236 (l239).length c237, .bool (x145)] (hle150.trans hle233) (by decide) rfl ⟨rfl, ⟨rfl, trivial⟩⟩ rfl (hp' := (hs235 ++ R)) (sub_app hs235 (sub_skip hs153 (.refl _))) ⟨A236, c237, hs235, rfl, rfl, h238⟩

set_option maxRecDepth 20000 in
theorem cLineNumbers (b : Base) (R : Hp) (l4 : (List ByteArray)) (A1 : Option Addr) (c2 : Nat) (h3 : FZ RT.str b.w A1 c2 l4) (l37 : (List Int)) (hm : mLineNumbers l4 = some l37) :
    CallsG Tryd.prog 54 [.slice A1 (l4).length c2] b (R) (fun v b' hp' => ∃ (A34 : Option Addr), ∃ (c35 : Nat), .tuple #[.slice A34 (l37).length c35, .bool (true)] = v ∧ R = hp' ∧ FZ (RT.int .i64) b'.w A34 c35 l37 ∧ (A34 = none ↔ l37 = [])) := by
  refine fn_enterG 28 Tryd.func54 rfl Tryd.ntmps54 rfl ?_
  unfold mLineNumbers at hm
  refine c_seq ?_
  refine c_region ?_
  refine t_st rfl (st_assign rfl) ?_
  refine t_st rfl (st_assign rfl) ?_
  refine t_nil ?_
  refine x_then_normal ?_
  refine c_seq ?_
  refine c_region ?_
  refine t_st rfl (st_assign rfl) ?_
  refine t_nil ?_
  refine x_then_normal ?_
  refine c_seq ?_
  refine c_seq ?_
  refine c_region ?_
  refine t_st rfl (st_move rfl) ?_
  refine t_st rfl (st_len rfl sl109) ?_
  refine t_st rfl (st_move rfl) ?_
  refine t_nil ?_
  refine x_then_normal ?_
  refine c_block ?_
  have hb40 := (FZ.bd h3)
  obtain ⟨t54, hl55, hk56⟩ := bindS hm
  refine c_forM (fun k53 => fun _ => fun b51 e' hp' => [(4, .slice none 0 0), (9, .slice A1 (l4).length c2), (10, .int .i64 ((l4.length : Int))), (11, .int .i64 ((k53 : Int)))] = e' ∧ R = hp' ∧ b.Le b51) hl55 (e' := [(4, .slice none 0 0), (9, .slice A1 (l4).length c2), (10, .int .i64 ((l4.length : Int))), (11, .int .i64 0)]) (hp' := R) ⟨rfl, rfl, rfl, rfl, trivial⟩ (.refl _) ⟨rfl, rfl, (Base.Le.refl _)⟩ ?_ ?_
  ·
    rintro k53 _ b51 _ _ oL39 hknL39 ⟨rfl, rfl, hle52⟩ hstepL39 houtL39
    unfold mLineNumbers_L39 at hstepL39
    have hm := hstepL39
    refine c_seq ?_
    refine c_region ?_
    refine t_st rfl (st_lss_t rfl rfl (by omega)) ?_
    refine t_nil ?_
    refine x_then_normal ?_
    refine c_seq ?_
    refine c_cond_t rfl ?_
    refine c_skip ?_
    refine x_then_normal ?_
    refine c_seq ?_
    refine c_block ?_
    refine c_seq ?_
    refine c_region ?_
    obtain ⟨x57, h58, hm⟩ := bindS hm
    obtain ⟨j59, hj60, hx61⟩ := idx_some h58
    obtain ⟨cs62, hr63, hcs64, hA65, hlt66⟩ := FZ.get (sz := 1) rfl (by decide) (h3.le hle52) hx61
    obtain rfl := hr63
    refine t_st rfl (st_index_old j59 rfl rfl hj60 hlt66 hA65 sl109) ?_
    refine t_st rfl (st_load_old rfl one9 (hcs64 0 _ rfl)) ?_
    refine t_st rfl (st_assign rfl) ?_
    refine t_nil ?_
    refine x_then_normal ?_
    refine c_seq ?_
    refine c_region ?_
    refine t_st rfl (st_move rfl) ?_
    cases hm
  ·
    rintro _ b51 _ _ ⟨rfl, rfl, hle52⟩ hq67
    rw [hq67] at hk56
    have hm := elimL hk56
    refine c_seq ?_
    refine c_region ?_
    refine t_st rfl (st_lss_f rfl rfl (by omega)) ?_
    refine t_nil ?_
    refine x_then_normal ?_
    refine c_seq ?_
    refine c_cond_f rfl ?_
    refine c_exit ?_
    refine x_then_exit ?_
    refine x_then_exit ?_
    refine x_block_out ?_
    refine x_then_normal ?_
    refine c_seq ?_
    refine c_region ?_
    refine t_st rfl (st_move rfl) ?_
    refine t_st rfl (st_assign rfl) ?_
    refine t_st rfl (st_assign rfl) ?_
    refine t_nil ?_
    refine x_then_normal ?_
    refine c_ret ?_
    obtain rfl := some1 hm
    exact retM (rs := [.tmp 2, .tmp 3]) [.slice none 0 0, .bool (true)] hle52 (by decide) rfl ⟨rfl, ⟨rfl, trivial⟩⟩ rfl (hp' := R) (.refl _) ⟨none, 0, rfl, rfl, FZ.nil, ⟨fun _ => rfl, fun _ => rfl⟩⟩

set_option maxRecDepth 20000 in
theorem cRunName (b : Base) (R : Hp) (x1 : ByteArray) (x63 : Bool) (hm : mRunName x1 = some x63) :
    CallsG Tryd.prog 57 [.string (x1)] b (R) (fun v b' hp' => .bool (x63) = v ∧ R = hp') := by
  refine fn_enterG 27 Tryd.func57 rfl Tryd.ntmps57 rfl ?_
  unfold mRunName at hm
  refine c_seq ?_
  refine c_region ?_
  refine t_st rfl (st_assign rfl) ?_
  refine t_nil ?_
  refine x_then_normal ?_
  refine c_seq ?_
  refine c_seq ?_
  refine c_region ?_
  refine t_st rfl (st_move rfl) ?_
  obtain ⟨_, h64, hm⟩ := bindS hm
  have h64 := (chk_some h64).2.2
  refine t_do rfl (u_bytes rfl str9 sl26 int5_u8 h64) ?_
  rintro _ _ ⟨g65, c66, tl67, fr68, rfl, rfl, h69, h70⟩
  refine t_frzb 0 rfl ?_
  intro b71 hle72 hz73
  have h74 := bytes_fz hz73 h69 h70
  refine t_st rfl (st_len rfl sl26) ?_
  refine t_st rfl (st_move rfl) ?_
  refine t_nil ?_
  refine x_then_normal ?_
  refine c_block ?_
  have hb76 := (FZ.bd h74)
  obtain ⟨t97, hl98, hk99⟩ := bindS hm
  refine c_forM (fun k96 => fun _ => fun b94 e' hp' => [(0, .string (x1)), (6, .slice (some ⟨g65, 0, none⟩) (sBytes x1).length c66), (7, .int .i64 (((sBytes x1).length : Int))), (8, .int .i64 ((k96 : Int)))] = e' ∧ R = hp' ∧ b71.Le b94) hl98 (e' := [(0, .string (x1)), (6, .slice (some ⟨g65, 0, none⟩) (sBytes x1).length c66), (7, .int .i64 (((sBytes x1).length : Int))), (8, .int .i64 0)]) (hp' := R) ⟨rfl, rfl, rfl, rfl, trivial⟩ (.refl _) ⟨rfl, rfl, (Base.Le.refl _)⟩ ?_ ?_
  ·
    rintro k96 _ b94 _ _ oL75 hknL75 ⟨rfl, rfl, hle95⟩ hstepL75 houtL75
    unfold mRunName_L75 at hstepL75
    have hm := hstepL75
    refine c_seq ?_
    refine c_region ?_
    refine t_st rfl (st_lss_t rfl rfl (by omega)) ?_
    refine t_nil ?_
    refine x_then_normal ?_
    refine c_seq ?_
    refine c_cond_t rfl ?_
    refine c_skip ?_
    refine x_then_normal ?_
    refine c_seq ?_
    refine c_block ?_
    refine c_seq ?_
    refine c_region ?_
    obtain ⟨x100, h101, hm⟩ := bindS hm
    obtain ⟨j102, hj103, hx104⟩ := idx_some h101
    obtain ⟨cs105, hr106, hcs107, hA108, hlt109⟩ := FZ.get (sz := 1) rfl (by decide) (h74.le hle95) hx104
    obtain rfl := hr106
    refine t_st rfl (st_index_old j102 rfl rfl hj103 hlt109 hA108 sl26) ?_
    refine t_st rfl (st_load_old rfl one5 (hcs107 0 _ rfl)) ?_
    refine t_st rfl (st_assign rfl) ?_
    refine t_nil ?_
    refine x_then_normal ?_
    obtain ⟨x113, hj114, hk114⟩ := bindS hm
    refine c_join (fun b111 e' hp' => [(0, .string (x1)), (6, .slice (some ⟨g65, 0, none⟩) (sBytes x1).length c66), (7, .int .i64 (((sBytes x1).length : Int))), (8, .int .i64 ((k96 : Int))), (17, .bool (x113))] = e' ∧ R = hp' ∧ b94.Le b111) ?_ ?_
    ·
      have hm := hj114
      refine c_region ?_
      refine t_st rfl (st_move rfl) ?_
      refine t_bool rfl (st_lss rfl rfl) (fun hc115 => ?_) (fun hc115 => ?_)
      ·
        rw [if_pos hc115] at hm
        refine t_st rfl (st_move rfl) ?_
        refine t_no 14 rfl rfl rfl rfl rfl ?_
        refine t_no 14 rfl rfl rfl rfl rfl ?_
        refine t_st rfl (st_pick_t rfl rfl) ?_
        refine t_nil ?_
        obtain rfl := some1 hm
        exact x_join (e' := [(0, .string (x1)), (6, .slice (some ⟨g65, 0, none⟩) (sBytes x1).length c66), (7, .int .i64 (((sBytes x1).length : Int))), (8, .int .i64 ((k96 : Int))), (17, .bool (true))]) (hp' := R) ⟨rfl, rfl, rfl, rfl, rfl, trivial⟩ (.refl _) ⟨rfl, rfl, (Base.Le.refl _)⟩
      ·
        rw [if_neg hc115] at hm
        refine t_st rfl (st_move rfl) ?_
        refine t_yes 14 rfl rfl rfl ?_
        refine t_st rfl (st_move rfl) ?_
        refine t_yes 14 rfl rfl rfl ?_
        refine t_st rfl (st_gtr rfl rfl) ?_
        refine t_st rfl (st_pick_f rfl rfl) ?_
        refine t_nil ?_
        obtain rfl := some1 hm
        exact x_join (e' := [(0, .string (x1)), (6, .slice (some ⟨g65, 0, none⟩) (sBytes x1).length c66), (7, .int .i64 (((sBytes x1).length : Int))), (8, .int .i64 ((k96 : Int))), (17, .bool (decide (122 < x100)))]) (hp' := R) ⟨rfl, rfl, rfl, rfl, rfl, trivial⟩ (.refl _) ⟨rfl, rfl, (Base.Le.refl _)⟩
    ·
      rintro b111 _ _ ⟨rfl, rfl, hle112⟩
      have hm := hk114
      refine c_cond _ rfl (fun hc116 => ?_) (fun hc116 => ?_)
      ·
        rw [if_pos hc116] at hm
        refine c_seq ?_
        refine c_region ?_
        refine t_st rfl (st_assign rfl) ?_
        refine t_nil ?_
        refine x_then_normal ?_
        refine c_ret ?_
        refine x_block_ret ?_
        refine x_then_ret ?_
        refine x_then_ret ?_
        refine x_block_ret ?_
        refine x_then_ret ?_
        have hq117 := houtL75 _ (Option.some.inj hm).symm
        rw [hq117] at hk99
        have hm := elimR hk99
        obtain rfl := some1 hm
        exact retM (rs := [.tmp 2]) [.bool (false)] (hle72.trans (hle95.trans hle112)) (by decide) rfl ⟨rfl, trivial⟩ rfl (hp' := R) (.refl _) ⟨rfl, rfl⟩
      ·
        rw [if_neg (fun hh => Bool.noConfusion (hh.symm.trans hc116))] at hm
        refine c_skip ?_
        refine x_block_normal ?_
        refine x_then_normal ?_
        refine c_region ?_
        refine t_st rfl (st_add rfl rfl (by omega)) ?_
        refine t_st rfl (st_move rfl) ?_
        refine t_nil ?_
        exact x_againM () (Option.some.inj hm).symm (e' := [(0, .string (x1)), (6, .slice (some ⟨g65, 0, none⟩) (sBytes x1).length c66), (7, .int .i64 (((sBytes x1).length : Int))), (8, .int .i64 ((k96 : Int) + 1))]) (hp' := R) ⟨rfl, rfl, rfl, rfl, trivial⟩ (.refl _) ⟨rfl, rfl, ((hle95.trans hle112))⟩
  ·
    rintro _ b94 _ _ ⟨rfl, rfl, hle95⟩ hq118
    rw [hq118] at hk99
    have hm := elimL hk99
    refine c_seq ?_
    refine c_region ?_
    refine t_st rfl (st_lss_f rfl rfl (by omega)) ?_
    refine t_nil ?_
    refine x_then_normal ?_
    refine c_seq ?_
    refine c_cond_f rfl ?_
    refine c_exit ?_
    refine x_then_exit ?_
    refine x_then_exit ?_
    refine x_block_out ?_
    refine x_then_normal ?_
    obtain ⟨x122, hj123, hk123⟩ := bindS hm
    refine c_join (fun b120 e' hp' => [(2, .bool (x122))] = e' ∧ R = hp' ∧ b94.Le b120) ?_ ?_
    ·
      have hm := hj123
      refine c_region ?_
      refine t_st rfl (st_move rfl) ?_
      refine t_st rfl (st_slen rfl str9) ?_
      refine t_bool rfl (st_geq rfl rfl) (fun hc124 => ?_) (fun hc124 => ?_)
      ·
        rw [if_pos hc124] at hm
        refine t_st rfl (st_move rfl) ?_
        refine t_yes 22 rfl rfl rfl ?_
        refine t_st rfl (st_move rfl) ?_
        refine t_yes 22 rfl rfl rfl ?_
        refine t_st rfl (st_slen rfl str9) ?_
        refine t_yes 22 rfl rfl rfl ?_
        refine t_st rfl (st_leq rfl rfl) ?_
        refine t_st rfl (st_pick_t rfl rfl) ?_
        refine t_st rfl (st_assign rfl) ?_
        refine t_nil ?_
        obtain rfl := some1 hm
        exact x_join (e' := [(2, .bool (decide ((x1.size : Int) ≤ 12)))]) (hp' := R) ⟨rfl, trivial⟩ (.refl _) ⟨rfl, rfl, (Base.Le.refl _)⟩
      ·
        rw [if_neg hc124] at hm
        refine t_st rfl (st_move rfl) ?_
        refine t_no 22 rfl rfl rfl rfl rfl ?_
        refine t_no 22 rfl rfl rfl rfl rfl ?_
        refine t_no 22 rfl rfl rfl rfl rfl ?_
        refine t_st rfl (st_pick_f rfl rfl) ?_
        refine t_st rfl (st_assign rfl) ?_
        refine t_nil ?_
        obtain rfl := some1 hm
        exact x_join (e' := [(2, .bool (false))]) (hp' := R) ⟨rfl, trivial⟩ (.refl _) ⟨rfl, rfl, (Base.Le.refl _)⟩
    ·
      rintro b120 _ _ ⟨rfl, rfl, hle121⟩
      have hm := hk123
      refine c_ret ?_
      obtain rfl := some1 hm
      exact retM (rs := [.tmp 2]) [.bool (x122)] (hle72.trans (hle95.trans hle121)) (by decide) rfl ⟨rfl, trivial⟩ rfl (hp' := R) (.refl _) ⟨rfl, rfl⟩

set_option maxRecDepth 20000 in
theorem cRunNumbers (b : Base) (R : Hp) (s1 : ApiStock) (x4 : Int) (x5 : Int) (x6 : Int) (x7 : Int) (x8 : Int) (x9 : Int) (x10 : Int) (x11 : Int) (x12 : Int) (hm : mRunNumbers s1 = some (x4, x5, x6, x7, x8, x9, x10, x11, x12)) :
    CallsG Tryd.prog 58 [.agg #[.string (s1.Name), .int .i64 (s1.Length), .int .i64 (s1.Mass), .int .i64 (s1.Start), .int .i64 (s1.Power), .int .i64 (s1.Roll), .int .i64 (s1.Drag), .int .i64 (s1.Brake), .int .i64 (s1.Top), .int .i64 (s1.Seats)]] b (R) (fun v b' hp' => .agg #[.int .i64 (x4), .int .i64 (x5), .int .i64 (x6), .int .i64 (x7), .int .i64 (x8), .int .i64 (x9), .int .i64 (x10), .int .i64 (x11), .int .i64 (x12)] = v ∧ R = hp') := by
  refine fn_enterG 22 Tryd.func58 rfl Tryd.ntmps58 rfl ?_
  unfold mRunNumbers at hm
  refine c_seq ?_
  refine c_region ?_
  refine t_do rfl (u_box _ rfl rfl) ?_
  rintro _ _ ⟨g13, rfl, rfl⟩
  refine t_do rfl (u_alloc [.int .i64 0, .int .i64 0, .int .i64 0, .int .i64 0, .int .i64 0, .int .i64 0, .int .i64 0, .int .i64 0, .int .i64 0] zero122 rfl) ?_
  rintro _ _ ⟨g14, rfl, rfl⟩
  refine t_nil ?_
  refine x_then_normal ?_
  refine c_seq ?_
  refine c_region ?_
  refine t_st rfl (st_field rfl fld43_1) ?_
  refine t_st rfl (st_load 1 rfl one3 rfl rfl) ?_
  refine t_st rfl (st_field rfl fld43_2) ?_
  refine t_st rfl (st_load 1 rfl one3 rfl rfl) ?_
  refine t_st rfl (st_field rfl fld43_3) ?_
  refine t_st rfl (st_load 1 rfl one3 rfl rfl) ?_
  refine t_st rfl (st_field rfl fld43_4) ?_
  refine t_st rfl (st_load 1 rfl one3 rfl rfl) ?_
  refine t_st rfl (st_field rfl fld43_5) ?_
  refine t_st rfl (st_load 1 rfl one3 rfl rfl) ?_
  refine t_st rfl (st_field rfl fld43_6) ?_
  refine t_st rfl (st_load 1 rfl one3 rfl rfl) ?_
  refine t_st rfl (st_field rfl fld43_7) ?_
  refine t_st rfl (st_load 1 rfl one3 rfl rfl) ?_
  refine t_st rfl (st_field rfl fld43_8) ?_
  refine t_st rfl (st_load 1 rfl one3 rfl rfl) ?_
  refine t_st rfl (st_field rfl fld43_9) ?_
  refine t_st rfl (st_load 1 rfl one3 rfl rfl) ?_
  refine t_st rfl (st_build (v := .agg #[.int .i64 (s1.Length), .int .i64 (s1.Mass), .int .i64 (s1.Start), .int .i64 (s1.Power), .int .i64 (s1.Roll), .int .i64 (s1.Drag), .int .i64 (s1.Brake), .int .i64 (s1.Top), .int .i64 (s1.Seats)]) [(0, .int .i64 (s1.Length)), (1, .int .i64 (s1.Mass)), (2, .int .i64 (s1.Start)), (3, .int .i64 (s1.Power)), (4, .int .i64 (s1.Roll)), (5, .int .i64 (s1.Drag)), (6, .int .i64 (s1.Brake)), (7, .int .i64 (s1.Top)), (8, .int .i64 (s1.Seats))] rfl (fun _ => by kernel_rfl)) ?_
  refine t_do rfl (u_storeN (vs := [_, _, _, _, _, _, _, _, _]) 0 9 rfl rfl rfl siz122 rfl (by intro u hu; simp only [List.mem_cons, List.not_mem_nil, or_false] at hu; rcases hu with rfl | rfl | rfl | rfl | rfl | rfl | rfl | rfl | rfl <;> rfl) rfl (by simp)) ?_
  rintro _ _ rfl
  refine t_nil ?_
  refine x_then_normal ?_
  refine c_ret ?_
  obtain ⟨rfl, rfl, rfl, rfl, rfl, rfl, rfl, rfl, rfl⟩ := some9 hm
  exact retM (rs := [.cell 2 122]) [.agg #[.int .i64 (s1.Length), .int .i64 (s1.Mass), .int .i64 (s1.Start), .int .i64 (s1.Power), .int .i64 (s1.Roll), .int .i64 (s1.Drag), .int .i64 (s1.Brake), .int .i64 (s1.Top), .int .i64 (s1.Seats)]] (Base.Le.refl _) (by decide) rfl ⟨⟨_, rfl, fun w ho => cell_agg (vs := [_, _, _, _, _, _, _, _, _]) 0 9 agg122 rfl rfl rfl w ho⟩, trivial⟩ rfl (hp' := R) (.cons _ (.cons _ (.refl _))) ⟨rfl, rfl⟩

set_option maxRecDepth 20000 in
theorem cRunWithin (b : Base) (R : Hp) (x1 : Int) (x2 : Int) (x3 : Int) (x10 : Bool) (hm : mRunWithin x1 x2 x3 = some x10) :
    CallsG Tryd.prog 59 [.int .i64 (x1), .int .i64 (x2), .int .i64 (x3)] b (R) (fun v b' hp' => .bool (x10) = v ∧ R = hp') := by
  refine fn_enterG 15 Tryd.func59 rfl Tryd.ntmps59 rfl ?_
  unfold mRunWithin at hm
  refine c_seq ?_
  refine c_region ?_
  refine t_st rfl (st_assign rfl) ?_
  refine t_nil ?_
  refine x_then_normal ?_
  obtain ⟨x14, hj15, hk15⟩ := bindS hm
  refine c_join (fun b12 e' hp' => [(6, .bool (x14))] = e' ∧ R = hp' ∧ b.Le b12) ?_ ?_
  ·
    have hm := hj15
    refine c_region ?_
    refine t_st rfl (st_move rfl) ?_
    refine t_st rfl (st_move rfl) ?_
    refine t_bool rfl (st_geq rfl rfl) (fun hc16 => ?_) (fun hc16 => ?_)
    ·
      rw [if_pos hc16] at hm
      refine t_st rfl (st_move rfl) ?_
      refine t_yes 10 rfl rfl rfl ?_
      refine t_st rfl (st_move rfl) ?_
      refine t_yes 10 rfl rfl rfl ?_
      refine t_st rfl (st_move rfl) ?_
      refine t_yes 10 rfl rfl rfl ?_
      refine t_st rfl (st_leq rfl rfl) ?_
      refine t_st rfl (st_pick_t rfl rfl) ?_
      refine t_st rfl (st_assign rfl) ?_
      refine t_nil ?_
      obtain rfl := some1 hm
      exact x_join (e' := [(6, .bool (decide (x1 ≤ x3)))]) (hp' := R) ⟨rfl, trivial⟩ (.refl _) ⟨rfl, rfl, (Base.Le.refl _)⟩
    ·
      rw [if_neg hc16] at hm
      refine t_st rfl (st_move rfl) ?_
      refine t_no 10 rfl rfl rfl rfl rfl ?_
      refine t_no 10 rfl rfl rfl rfl rfl ?_
      refine t_no 10 rfl rfl rfl rfl rfl ?_
      refine t_st rfl (st_pick_f rfl rfl) ?_
      refine t_st rfl (st_assign rfl) ?_
      refine t_nil ?_
      obtain rfl := some1 hm
      exact x_join (e' := [(6, .bool (false))]) (hp' := R) ⟨rfl, trivial⟩ (.refl _) ⟨rfl, rfl, (Base.Le.refl _)⟩
  ·
    rintro b12 _ _ ⟨rfl, rfl, hle13⟩
    have hm := hk15
    refine c_ret ?_
    obtain rfl := some1 hm
    exact retM (rs := [.tmp 6]) [.bool (x14)] hle13 (by decide) rfl ⟨rfl, trivial⟩ rfl (hp' := R) (.refl _) ⟨rfl, rfl⟩

set_option maxRecDepth 20000 in
theorem cRunCheck (b : Base) (R : Hp) (s1 : ApiStock) (x208 : Int) (hm : mRunCheck s1 = some x208) :
    CallsG Tryd.prog 22 [.agg #[.string (s1.Name), .int .i64 (s1.Length), .int .i64 (s1.Mass), .int .i64 (s1.Start), .int .i64 (s1.Power), .int .i64 (s1.Roll), .int .i64 (s1.Drag), .int .i64 (s1.Brake), .int .i64 (s1.Top), .int .i64 (s1.Seats)]] b (R) (fun v b' hp' => .int .i64 (x208) = v ∧ R = hp') := by
  refine fn_enterG 38 Tryd.func22 rfl Tryd.ntmps22 rfl ?_
  unfold mRunCheck at hm
  refine c_seq ?_
  refine c_region ?_
  refine t_do rfl (u_box _ rfl rfl) ?_
  rintro _ _ ⟨g209, rfl, rfl⟩
  refine t_st rfl (st_assign rfl) ?_
  refine t_nil ?_
  refine x_then_normal ?_
  refine c_seq ?_
  refine c_seq ?_
  refine c_region ?_
  refine t_st rfl (st_field rfl fld43_0) ?_
  refine t_st rfl (st_load 0 rfl one9 rfl rfl) ?_
  obtain ⟨x210, hcl211, hm⟩ := bindS hm
  refine t_do rfl (u_callW0 _ call57 rfl (fun w ho => cRunName _ [] s1.Name x210 hcl211) (fun _ _ _ h => h.2.symm)) ?_
  rintro _ _ ⟨⟨_, rfl, _⟩, rfl⟩
  refine t_st rfl (st_not rfl) ?_
  refine t_nil ?_
  refine x_then_normal ?_
  refine c_cond _ rfl (fun hc212 => ?_) (fun hc212 => ?_)
  ·
    rw [if_neg (fun hh => Bool.noConfusion (hh.symm.trans (notT hc212)))] at hm
    refine c_seq ?_
    refine c_region ?_
    refine t_st rfl (st_assign rfl) ?_
    refine t_nil ?_
    refine x_then_normal ?_
    refine c_ret ?_
    refine x_then_ret ?_
    obtain rfl := some1 hm
    exact retM (rs := [.tmp 2]) [.int .i64 (1)] (Base.Le.refl _) (by decide) rfl ⟨rfl, trivial⟩ rfl (hp' := R) (.cons _ (.refl _)) ⟨rfl, rfl⟩
  ·
    rw [if_pos (notF hc212)] at hm
    refine c_skip ?_
    refine x_then_normal ?_
    refine c_seq ?_
    refine c_region ?_
    refine t_st rfl (st_build (v := .agg #[.int .i64 (10), .int .i64 (400)]) [(0, .int .i64 (10)), (1, .int .i64 (400))] rfl (fun _ => by kernel_rfl)) ?_
    refine t_st rfl (st_build (v := .agg #[.int .i64 (10), .int .i64 (2000)]) [(0, .int .i64 (10)), (1, .int .i64 (2000))] rfl (fun _ => by kernel_rfl)) ?_
    refine t_st rfl (st_build (v := .agg #[.int .i64 (60), .int .i64 (150)]) [(0, .int .i64 (60)), (1, .int .i64 (150))] rfl (fun _ => by kernel_rfl)) ?_
    refine t_st rfl (st_build (v := .agg #[.int .i64 (10000), .int .i64 (2000000)]) [(0, .int .i64 (10000)), (1, .int .i64 (2000000))] rfl (fun _ => by kernel_rfl)) ?_
    refine t_st rfl (st_build (v := .agg #[.int .i64 (0), .int .i64 (10)]) [(0, .int .i64 (0)), (1, .int .i64 (10))] rfl (fun _ => by kernel_rfl)) ?_
    refine t_st rfl (st_build (v := .agg #[.int .i64 (1000000), .int .i64 (100000000)]) [(0, .int .i64 (1000000)), (1, .int .i64 (100000000))] rfl (fun _ => by kernel_rfl)) ?_
    refine t_st rfl (st_build (v := .agg #[.int .i64 (60), .int .i64 (150)]) [(0, .int .i64 (60)), (1, .int .i64 (150))] rfl (fun _ => by kernel_rfl)) ?_
    refine t_st rfl (st_build (v := .agg #[.int .i64 (500), .int .i64 (6000)]) [(0, .int .i64 (500)), (1, .int .i64 (6000))] rfl (fun _ => by kernel_rfl)) ?_
    refine t_st rfl (st_build (v := .agg #[.int .i64 (0), .int .i64 (1000)]) [(0, .int .i64 (0)), (1, .int .i64 (1000))] rfl (fun _ => by kernel_rfl)) ?_
    refine t_st rfl (st_build (v := .agg #[.int .i64 (10), .int .i64 (400), .int .i64 (10), .int .i64 (2000), .int .i64 (60), .int .i64 (150), .int .i64 (10000), .int .i64 (2000000), .int .i64 (0), .int .i64 (10), .int .i64 (1000000), .int .i64 (100000000), .int .i64 (60), .int .i64 (150), .int .i64 (500), .int .i64 (6000), .int .i64 (0), .int .i64 (1000)]) [(0, .agg #[.int .i64 (10), .int .i64 (400)]), (1, .agg #[.int .i64 (10), .int .i64 (2000)]), (2, .agg #[.int .i64 (60), .int .i64 (150)]), (3, .agg #[.int .i64 (10000), .int .i64 (2000000)]), (4, .agg #[.int .i64 (0), .int .i64 (10)]), (5, .agg #[.int .i64 (1000000), .int .i64 (100000000)]), (6, .agg #[.int .i64 (60), .int .i64 (150)]), (7, .agg #[.int .i64 (500), .int .i64 (6000)]), (8, .agg #[.int .i64 (0), .int .i64 (1000)])] rfl (fun _ => by kernel_rfl)) ?_
    refine t_do rfl (u_alloc [.int .i64 0, .int .i64 0, .int .i64 0, .int .i64 0, .int .i64 0, .int .i64 0, .int .i64 0, .int .i64 0, .int .i64 0, .int .i64 0, .int .i64 0, .int .i64 0, .int .i64 0, .int .i64 0, .int .i64 0, .int .i64 0, .int .i64 0, .int .i64 0] zero121 rfl) ?_
    rintro _ _ ⟨g213, rfl, rfl⟩
    refine t_do rfl (u_storeN (vs := [_, _, _, _, _, _, _, _, _, _, _, _, _, _, _, _, _, _]) 0 18 rfl rfl rfl siz121 rfl (by intro u hu; simp only [List.mem_cons, List.not_mem_nil, or_false] at hu; rcases hu with rfl | rfl | rfl | rfl | rfl | rfl | rfl | rfl | rfl | rfl | rfl | rfl | rfl | rfl | rfl | rfl | rfl | rfl <;> rfl) rfl (by simp)) ?_
    rintro _ _ rfl
    refine t_nil ?_
    refine x_then_normal ?_
    refine c_seq ?_
    refine c_seq ?_
    refine c_region ?_
    refine t_st rfl (st_loadD (vs := [_, _, _, _, _, _, _, _, _, _]) 1 10 rfl agg43 rfl rfl rfl) ?_
    obtain ⟨⟨x214, x215, x216, x217, x218, x219, x220, x221, x222⟩, hcl223, hm⟩ := bindS hm
    have hm := (unc9E hm)
    refine t_callG _ rfl call58 rfl (cRunNumbers _ _ s1 x214 x215 x216 x217 x218 x219 x220 x221 x222 hcl223) ?_
    rintro _ b224 _ hle225 ⟨rfl, rfl⟩
    refine t_st rfl (st_move rfl) ?_
    refine t_nil ?_
    refine x_then_normal ?_
    refine c_block ?_
    obtain ⟨t320, hl321, hk322⟩ := bindS hm
    refine c_forM (fun k319 => fun _ => fun b317 e' hp' => [(3, .pointer (some ⟨g213, 0, none⟩)), (21, .agg #[.int .i64 (x214), .int .i64 (x215), .int .i64 (x216), .int .i64 (x217), .int .i64 (x218), .int .i64 (x219), .int .i64 (x220), .int .i64 (x221), .int .i64 (x222)]), (22, .int .i64 ((k319 : Int)))] = e' ∧ (g213, Cl 121 [.int .i64 (10), .int .i64 (400), .int .i64 (10), .int .i64 (2000), .int .i64 (60), .int .i64 (150), .int .i64 (10000), .int .i64 (2000000), .int .i64 (0), .int .i64 (10), .int .i64 (1000000), .int .i64 (100000000), .int .i64 (60), .int .i64 (150), .int .i64 (500), .int .i64 (6000), .int .i64 (0), .int .i64 (1000)]) :: R = hp' ∧ b224.Le b317) hl321 (e' := [(3, .pointer (some ⟨g213, 0, none⟩)), (21, .agg #[.int .i64 (x214), .int .i64 (x215), .int .i64 (x216), .int .i64 (x217), .int .i64 (x218), .int .i64 (x219), .int .i64 (x220), .int .i64 (x221), .int .i64 (x222)]), (22, .int .i64 0)]) (hp' := (g213, Cl 121 [.int .i64 (10), .int .i64 (400), .int .i64 (10), .int .i64 (2000), .int .i64 (60), .int .i64 (150), .int .i64 (10000), .int .i64 (2000000), .int .i64 (0), .int .i64 (10), .int .i64 (1000000), .int .i64 (100000000), .int .i64 (60), .int .i64 (150), .int .i64 (500), .int .i64 (6000), .int .i64 (0), .int .i64 (1000)]) :: R) ⟨rfl, rfl, rfl, trivial⟩ (.cons_cons _ (.cons _ (.refl _))) ⟨rfl, rfl, (Base.Le.refl _)⟩ ?_ ?_
    ·
      rintro k319 _ b317 _ _ oL226 hknL226 ⟨rfl, rfl, hle318⟩ hstepL226 houtL226
      unfold mRunCheck_L226 at hstepL226
      have hm := hstepL226
      refine c_seq ?_
      refine c_region ?_
      refine t_st rfl (st_lss_t rfl rfl (by omega)) ?_
      refine t_nil ?_
      refine x_then_normal ?_
      refine c_seq ?_
      refine c_cond_t rfl ?_
      refine c_skip ?_
      refine x_then_normal ?_
      refine c_seq ?_
      refine c_block ?_
      refine c_seq ?_
      refine c_region ?_
      refine t_st rfl (st_move rfl) ?_
      obtain ⟨x323, h324, hm⟩ := bindS hm
      obtain ⟨j325, hj326, hx327⟩ := idx_some h324
      obtain ⟨cs328, hr329, hcs330, hlt331⟩ := arr_get (r := (RT.int .i64)) (w := b317.w) (css := [[.int .i64 (x214)], [.int .i64 (x215)], [.int .i64 (x216)], [.int .i64 (x217)], [.int .i64 (x218)], [.int .i64 (x219)], [.int .i64 (x220)], [.int .i64 (x221)], [.int .i64 (x222)]]) (l := [x214, x215, x216, x217, x218, x219, x220, x221, x222]) (sz := 1) rfl ⟨rfl, ⟨rfl, ⟨rfl, ⟨rfl, ⟨rfl, ⟨rfl, ⟨rfl, ⟨rfl, ⟨rfl, trivial⟩⟩⟩⟩⟩⟩⟩⟩⟩ hx327
      obtain rfl := hr329
      refine t_st rfl (st_aidx1 (cs := ([[.int .i64 (x214)], [.int .i64 (x215)], [.int .i64 (x216)], [.int .i64 (x217)], [.int .i64 (x218)], [.int .i64 (x219)], [.int .i64 (x220)], [.int .i64 (x221)], [.int .i64 (x222)]] : List (List Value)).flatten) j325 rfl rfl hj326 hlt331 (hcs330 0 _ rfl) arr122 one3) ?_
      refine t_st rfl (st_assign rfl) ?_
      refine t_st rfl (st_assign rfl) ?_
      refine t_nil ?_
      refine x_then_normal ?_
      refine c_seq ?_
      obtain ⟨x372, h373, hm⟩ := bindS hm
      obtain ⟨x381, h382, hm⟩ := bindS hm
      obtain ⟨x391, h392, hm⟩ := bindS hm
      obtain ⟨x400, h401, hm⟩ := bindS hm
      obtain ⟨x410, hcl411, hm⟩ := bindS hm
      refine D_drawS ((g213, Cl 121 [.int .i64 (10), .int .i64 (400), .int .i64 (10), .int .i64 (2000), .int .i64 (60), .int .i64 (150), .int .i64 (10000), .int .i64 (2000000), .int .i64 (0), .int .i64 (10), .int .i64 (1000000), .int .i64 (100000000), .int .i64 (60), .int .i64 (150), .int .i64 (500), .int .i64 (6000), .int .i64 (0), .int .i64 (1000)]) :: R) mixed ?_
      refine D_st (Base.Le.refl _) 0 rfl (by kernel_rfl) (by kernel_rfl) (by kernel_rfl) rfl (st_move rfl) (.cons_cons _ (.refl _)) ?_
      refine D_st (Base.Le.refl _) 1 rfl (by kernel_rfl) (by kernel_rfl) (by kernel_rfl) rfl (st_move rfl) (.cons_cons _ (.refl _)) ?_
      obtain ⟨j374, hj375, hx376⟩ := idx_some h373
      obtain ⟨cs377, hr378, hcs379, hlt380⟩ := arr_get (r := (RT.arr 2 (RT.int .i64))) (w := b317.w) (css := [[.int .i64 (10), .int .i64 (400)], [.int .i64 (10), .int .i64 (2000)], [.int .i64 (60), .int .i64 (150)], [.int .i64 (10000), .int .i64 (2000000)], [.int .i64 (0), .int .i64 (10)], [.int .i64 (1000000), .int .i64 (100000000)], [.int .i64 (60), .int .i64 (150)], [.int .i64 (500), .int .i64 (6000)], [.int .i64 (0), .int .i64 (1000)]]) (l := [[10, 400], [10, 2000], [60, 150], [10000, 2000000], [0, 10], [1000000, 100000000], [60, 150], [500, 6000], [0, 1000]]) (sz := 2) rfl ⟨⟨rfl, [[.int .i64 (10)], [.int .i64 (400)]], rfl, ⟨rfl, ⟨rfl, trivial⟩⟩⟩, ⟨⟨rfl, [[.int .i64 (10)], [.int .i64 (2000)]], rfl, ⟨rfl, ⟨rfl, trivial⟩⟩⟩, ⟨⟨rfl, [[.int .i64 (60)], [.int .i64 (150)]], rfl, ⟨rfl, ⟨rfl, trivial⟩⟩⟩, ⟨⟨rfl, [[.int .i64 (10000)], [.int .i64 (2000000)]], rfl, ⟨rfl, ⟨rfl, trivial⟩⟩⟩, ⟨⟨rfl, [[.int .i64 (0)], [.int .i64 (10)]], rfl, ⟨rfl, ⟨rfl, trivial⟩⟩⟩, ⟨⟨rfl, [[.int .i64 (1000000)], [.int .i64 (100000000)]], rfl, ⟨rfl, ⟨rfl, trivial⟩⟩⟩, ⟨⟨rfl, [[.int .i64 (60)], [.int .i64 (150)]], rfl, ⟨rfl, ⟨rfl, trivial⟩⟩⟩, ⟨⟨rfl, [[.int .i64 (500)], [.int .i64 (6000)]], rfl, ⟨rfl, ⟨rfl, trivial⟩⟩⟩, ⟨⟨rfl, [[.int .i64 (0)], [.int .i64 (1000)]], rfl, ⟨rfl, ⟨rfl, trivial⟩⟩⟩, trivial⟩⟩⟩⟩⟩⟩⟩⟩⟩ hx376
      refine D_st (Base.Le.refl _) 2 rfl (by kernel_rfl) (by kernel_rfl) (by kernel_rfl) rfl (st_baddr j374 rfl rfl hj375 hlt380 arr121 (Nat.zero_add _)) (.cons_cons _ (.refl _)) ?_
      obtain ⟨j383, hj384, hx385⟩ := idx_some h382
      obtain ⟨cs386, hr387, hcs388, hlt389⟩ := arr_in (sz := 1) rfl hr378 hx385
      have hcs390 := fun i u hu => (Nat.add_assoc (j374 * 2) (j383 * 1) i) ▸ hcs379 _ _ (hcs388 i u hu)
      obtain rfl := hr387
      refine D_st (Base.Le.refl _) 3 rfl (by kernel_rfl) (by kernel_rfl) (by kernel_rfl) rfl (st_baddr j383 rfl rfl hj384 hlt389 arr120 rfl) (.cons_cons _ (.refl _)) ?_
      refine D_st (Base.Le.refl _) 4 rfl (by kernel_rfl) (by kernel_rfl) (by kernel_rfl) rfl (st_load 0 rfl one3 rfl (hcs390 0 _ rfl)) (.cons_cons _ (.refl _)) ?_
      refine D_st (Base.Le.refl _) 5 rfl (by kernel_rfl) (by kernel_rfl) (by kernel_rfl) rfl (st_move rfl) (.cons_cons _ (.refl _)) ?_
      obtain ⟨j393, hj394, hx395⟩ := idx_some h392
      obtain ⟨cs396, hr397, hcs398, hlt399⟩ := arr_get (r := (RT.arr 2 (RT.int .i64))) (w := b317.w) (css := [[.int .i64 (10), .int .i64 (400)], [.int .i64 (10), .int .i64 (2000)], [.int .i64 (60), .int .i64 (150)], [.int .i64 (10000), .int .i64 (2000000)], [.int .i64 (0), .int .i64 (10)], [.int .i64 (1000000), .int .i64 (100000000)], [.int .i64 (60), .int .i64 (150)], [.int .i64 (500), .int .i64 (6000)], [.int .i64 (0), .int .i64 (1000)]]) (l := [[10, 400], [10, 2000], [60, 150], [10000, 2000000], [0, 10], [1000000, 100000000], [60, 150], [500, 6000], [0, 1000]]) (sz := 2) rfl ⟨⟨rfl, [[.int .i64 (10)], [.int .i64 (400)]], rfl, ⟨rfl, ⟨rfl, trivial⟩⟩⟩, ⟨⟨rfl, [[.int .i64 (10)], [.int .i64 (2000)]], rfl, ⟨rfl, ⟨rfl, trivial⟩⟩⟩, ⟨⟨rfl, [[.int .i64 (60)], [.int .i64 (150)]], rfl, ⟨rfl, ⟨rfl, trivial⟩⟩⟩, ⟨⟨rfl, [[.int .i64 (10000)], [.int .i64 (2000000)]], rfl, ⟨rfl, ⟨rfl, trivial⟩⟩⟩, ⟨⟨rfl, [[.int .i64 (0)], [.int .i64 (10)]], rfl, ⟨rfl, ⟨rfl, trivial⟩⟩⟩, ⟨⟨rfl, [[.int .i64 (1000000)], [.int .i64 (100000000)]], rfl, ⟨rfl, ⟨rfl, trivial⟩⟩⟩, ⟨⟨rfl, [[.int .i64 (60)], [.int .i64 (150)]], rfl, ⟨rfl, ⟨rfl, trivial⟩⟩⟩, ⟨⟨rfl, [[.int .i64 (500)], [.int .i64 (6000)]], rfl, ⟨rfl, ⟨rfl, trivial⟩⟩⟩, ⟨⟨rfl, [[.int .i64 (0)], [.int .i64 (1000)]], rfl, ⟨rfl, ⟨rfl, trivial⟩⟩⟩, trivial⟩⟩⟩⟩⟩⟩⟩⟩⟩ hx395
      refine D_st (Base.Le.refl _) 6 rfl (by kernel_rfl) (by kernel_rfl) (by kernel_rfl) rfl (st_baddr j393 rfl rfl hj394 hlt399 arr121 (Nat.zero_add _)) (.cons_cons _ (.refl _)) ?_
      obtain ⟨j402, hj403, hx404⟩ := idx_some h401
      obtain ⟨cs405, hr406, hcs407, hlt408⟩ := arr_in (sz := 1) rfl hr397 hx404
      have hcs409 := fun i u hu => (Nat.add_assoc (j393 * 2) (j402 * 1) i) ▸ hcs398 _ _ (hcs407 i u hu)
      obtain rfl := hr406
      refine D_st (Base.Le.refl _) 7 rfl (by kernel_rfl) (by kernel_rfl) (by kernel_rfl) rfl (st_baddr j402 rfl rfl hj403 hlt408 arr120 rfl) (.cons_cons _ (.refl _)) ?_
      refine D_st (Base.Le.refl _) 8 rfl (by kernel_rfl) (by kernel_rfl) (by kernel_rfl) rfl (st_load 0 rfl one3 rfl (hcs409 0 _ rfl)) (.cons_cons _ (.refl _)) ?_
      refine D_all [9] (by kernel_rfl) rfl ?_
      refine R_do (Base.Le.refl _) rfl rfl (u_callW0 _ call59 rfl (fun w ho => cRunWithin _ [] x323 x381 x400 x410 hcl411) (fun _ _ _ h => h.2.symm)) ?_ ?_
      ·
        rintro _ _ ⟨⟨_, rfl, _⟩, rfl⟩
        refine ⟨.inr (.cons_cons _ (.refl _)), ?_⟩
        refine D_st (Base.Le.refl _) 10 rfl (by kernel_rfl) (by kernel_rfl) (by kernel_rfl) rfl (st_not rfl) (.cons_cons _ (.refl _)) ?_
        refine D_done (by kernel_rfl) ?_
        refine x_then_normal ?_
        refine c_cond _ rfl (fun hc412 => ?_) (fun hc412 => ?_)
        ·
          rw [if_neg (fun hh => Bool.noConfusion (hh.symm.trans (notT hc412)))] at hm
          refine c_seq ?_
          refine c_region ?_
          refine t_st rfl (st_assign rfl) ?_
          refine t_nil ?_
          refine x_then_normal ?_
          refine c_ret ?_
          refine x_block_ret ?_
          refine x_then_ret ?_
          refine x_then_ret ?_
          refine x_block_ret ?_
          refine x_then_ret ?_
          have hq413 := houtL226 _ (Option.some.inj hm).symm
          rw [hq413] at hk322
          have hm := elimR hk322
          obtain rfl := some1 hm
          exact retM (rs := [.tmp 2]) [.int .i64 (2)] (hle225.trans hle318) (by decide) rfl ⟨rfl, trivial⟩ rfl (hp' := R) (.cons _ (.refl _)) ⟨rfl, rfl⟩
        ·
          rw [if_pos (notF hc412)] at hm
          refine c_skip ?_
          refine x_block_normal ?_
          refine x_then_normal ?_
          refine c_region ?_
          refine t_st rfl (st_add rfl rfl (by omega)) ?_
          refine t_st rfl (st_move rfl) ?_
          refine t_nil ?_
          exact x_againM () (Option.some.inj hm).symm (e' := [(3, .pointer (some ⟨g213, 0, none⟩)), (21, .agg #[.int .i64 (x214), .int .i64 (x215), .int .i64 (x216), .int .i64 (x217), .int .i64 (x218), .int .i64 (x219), .int .i64 (x220), .int .i64 (x221), .int .i64 (x222)]), (22, .int .i64 ((k319 : Int) + 1))]) (hp' := (g213, Cl 121 [.int .i64 (10), .int .i64 (400), .int .i64 (10), .int .i64 (2000), .int .i64 (60), .int .i64 (150), .int .i64 (10000), .int .i64 (2000000), .int .i64 (0), .int .i64 (10), .int .i64 (1000000), .int .i64 (100000000), .int .i64 (60), .int .i64 (150), .int .i64 (500), .int .i64 (6000), .int .i64 (0), .int .i64 (1000)]) :: R) ⟨rfl, rfl, rfl, trivial⟩ (.cons_cons _ (.refl _)) ⟨rfl, rfl, (hle318)⟩
      exact R_nil
    ·
      rintro _ b317 _ _ ⟨rfl, rfl, hle318⟩ hq414
      rw [hq414] at hk322
      have hm := elimL hk322
      refine c_seq ?_
      refine c_region ?_
      refine t_st rfl (st_lss_f rfl rfl (by omega)) ?_
      refine t_nil ?_
      refine x_then_normal ?_
      refine c_seq ?_
      refine c_cond_f rfl ?_
      refine c_exit ?_
      refine x_then_exit ?_
      refine x_then_exit ?_
      refine x_block_out ?_
      refine x_then_normal ?_
      refine c_seq ?_
      refine c_region ?_
      refine t_st rfl (st_assign rfl) ?_
      refine t_nil ?_
      refine x_then_normal ?_
      refine c_ret ?_
      obtain rfl := some1 hm
      exact retM (rs := [.tmp 2]) [.int .i64 (0)] (hle225.trans hle318) (by decide) rfl ⟨rfl, trivial⟩ rfl (hp' := R) (.cons _ (.refl _)) ⟨rfl, rfl⟩

set_option maxRecDepth 20000 in
theorem cRunText_1 (b : Base) (R : Hp) (s2 : ApiStock) (x3 : ByteArray) (x4 : Int) (x5 : Int) (x6 : Int) (x7 : Int) (x8 : Int) (x9 : Int) (x10 : Int) (x11 : Int) (x12 : Int) (g1 : Nat) (x14 : Bool) (hm : mRunText_1 s2 x3 x4 x5 x6 x7 x8 x9 x10 x11 x12 = some x14) :
    CallsG Tryd.prog 110 [.agg #[.string (s2.Name), .int .i64 (s2.Length), .int .i64 (s2.Mass), .int .i64 (s2.Start), .int .i64 (s2.Power), .int .i64 (s2.Roll), .int .i64 (s2.Drag), .int .i64 (s2.Brake), .int .i64 (s2.Top), .int .i64 (s2.Seats)], .pointer (some ⟨g1, 0, none⟩)] b ((g1, Cl 43 [.string (x3), .int .i64 (x4), .int .i64 (x5), .int .i64 (x6), .int .i64 (x7), .int .i64 (x8), .int .i64 (x9), .int .i64 (x10), .int .i64 (x11), .int .i64 (x12)]) :: R) (fun v b' hp' => .bool (x14) = v ∧ (g1, Cl 43 [.string (x3), .int .i64 (x4), .int .i64 (x5), .int .i64 (x6), .int .i64 (x7), .int .i64 (x8), .int .i64 (x9), .int .i64 (x10), .int .i64 (x11), .int .i64 (x12)]) :: R = hp') := by
  refine fn_enterG 9 Tryd.func110 rfl Tryd.ntmps110 rfl ?_
  unfold mRunText_1 at hm
  refine c_seq ?_
  refine c_region ?_
  refine t_do rfl (u_box _ rfl rfl) ?_
  rintro _ _ ⟨g15, rfl, rfl⟩
  refine t_st rfl (st_assign rfl) ?_
  refine t_nil ?_
  refine x_then_normal ?_
  refine c_seq ?_
  refine c_region ?_
  refine t_st rfl (st_field rfl fld43_0) ?_
  refine t_st rfl (st_load 0 rfl one9 rfl rfl) ?_
  refine t_st rfl (st_field rfl fld43_0) ?_
  refine t_st rfl (st_load 1 rfl one9 rfl rfl) ?_
  refine t_st rfl (st_seql rfl rfl) ?_
  refine t_st rfl (st_assign rfl) ?_
  refine t_nil ?_
  refine x_then_normal ?_
  refine c_ret ?_
  obtain rfl := some1 hm
  refine x_pullb 1 rfl ?_
  exact retM (rs := [.tmp 3]) [.bool (sEq s2.Name x3)] (Base.Le.refl _) (by decide) rfl ⟨rfl, trivial⟩ rfl (hp' := (g1, Cl 43 [.string (x3), .int .i64 (x4), .int .i64 (x5), .int .i64 (x6), .int .i64 (x7), .int .i64 (x8), .int .i64 (x9), .int .i64 (x10), .int .i64 (x11), .int .i64 (x12)]) :: R) (.cons_cons _ (.cons _ (.refl _))) ⟨rfl, rfl⟩

set_option maxRecDepth 20000 in
theorem cSlicesIndexFunc (b : Base) (R : Hp) (l5 : (List ApiStock)) (x6 : ByteArray) (x7 : Int) (x8 : Int) (x9 : Int) (x10 : Int) (x11 : Int) (x12 : Int) (x13 : Int) (x14 : Int) (x15 : Int) (g1 : Nat) (A2 : Option Addr) (c3 : Nat) (h4 : FZ rApiStock b.w A2 c3 l5) (x56 : Int) (hm : mSlicesIndexFunc l5 x6 x7 x8 x9 x10 x11 x12 x13 x14 x15 = some x56) :
    CallsG Tryd.prog 128 [.slice A2 (l5).length c3, .func (.func 110) #[] #[.pointer (some ⟨g1, 0, none⟩)]] b ((g1, Cl 43 [.string (x6), .int .i64 (x7), .int .i64 (x8), .int .i64 (x9), .int .i64 (x10), .int .i64 (x11), .int .i64 (x12), .int .i64 (x13), .int .i64 (x14), .int .i64 (x15)]) :: R) (fun v b' hp' => .int .i64 (x56) = v ∧ (g1, Cl 43 [.string (x6), .int .i64 (x7), .int .i64 (x8), .int .i64 (x9), .int .i64 (x10), .int .i64 (x11), .int .i64 (x12), .int .i64 (x13), .int .i64 (x14), .int .i64 (x15)]) :: R = hp') := by
  refine fn_enterG 19 Tryd.func128 rfl Tryd.ntmps128 rfl ?_
  unfold mSlicesIndexFunc at hm
  refine c_seq ?_
  refine c_region ?_
  refine t_st rfl (st_assign rfl) ?_
  refine t_nil ?_
  refine x_then_normal ?_
  refine c_seq ?_
  refine c_seq ?_
  refine c_region ?_
  refine t_st rfl (st_move rfl) ?_
  refine t_st rfl (st_len rfl sl116) ?_
  refine t_st rfl (st_move rfl) ?_
  refine t_nil ?_
  refine x_then_normal ?_
  refine c_block ?_
  have hb58 := (FZ.bd h4)
  obtain ⟨t77, hl78, hk79⟩ := bindS hm
  refine c_forM (fun k76 => fun _ => fun b74 e' hp' => [(0, .slice A2 (l5).length c3), (1, .func (.func 110) #[] #[.pointer (some ⟨g1, 0, none⟩)]), (7, .int .i64 ((l5.length : Int))), (8, .int .i64 ((k76 : Int)))] = e' ∧ (g1, Cl 43 [.string (x6), .int .i64 (x7), .int .i64 (x8), .int .i64 (x9), .int .i64 (x10), .int .i64 (x11), .int .i64 (x12), .int .i64 (x13), .int .i64 (x14), .int .i64 (x15)]) :: R = hp' ∧ b.Le b74) hl78 (e' := [(0, .slice A2 (l5).length c3), (1, .func (.func 110) #[] #[.pointer (some ⟨g1, 0, none⟩)]), (7, .int .i64 ((l5.length : Int))), (8, .int .i64 0)]) (hp' := (g1, Cl 43 [.string (x6), .int .i64 (x7), .int .i64 (x8), .int .i64 (x9), .int .i64 (x10), .int .i64 (x11), .int .i64 (x12), .int .i64 (x13), .int .i64 (x14), .int .i64 (x15)]) :: R) ⟨rfl, rfl, rfl, rfl, trivial⟩ (.cons_cons _ (.refl _)) ⟨rfl, rfl, (Base.Le.refl _)⟩ ?_ ?_
  ·
    rintro k76 _ b74 _ _ oL57 hknL57 ⟨rfl, rfl, hle75⟩ hstepL57 houtL57
    unfold mSlicesIndexFunc_L57 at hstepL57
    have hm := hstepL57
    refine c_seq ?_
    refine c_region ?_
    refine t_st rfl (st_lss_t rfl rfl (by omega)) ?_
    refine t_nil ?_
    refine x_then_normal ?_
    refine c_seq ?_
    refine c_cond_t rfl ?_
    refine c_skip ?_
    refine x_then_normal ?_
    refine c_seq ?_
    refine c_block ?_
    refine c_seq ?_
    refine c_region ?_
    refine t_st rfl (st_move rfl) ?_
    refine t_st rfl (st_assign rfl) ?_
    refine t_nil ?_
    refine x_then_normal ?_
    refine c_seq ?_
    refine c_region ?_
    refine t_st rfl (st_move rfl) ?_
    refine t_st rfl (st_move rfl) ?_
    refine t_st rfl (st_move rfl) ?_
    obtain ⟨x80, h81, hm⟩ := bindS hm
    obtain ⟨j82, hj83, hx84⟩ := idx_some h81
    obtain ⟨cs85, hr86, hcs87, hA88, hlt89⟩ := FZ.get (sz := 10) rfl (by decide) (h4.le hle75) hx84
    obtain ⟨_, _, rfl, rfl, ⟨_, _, rfl, rfl, ⟨_, _, rfl, rfl, ⟨_, _, rfl, rfl, ⟨_, _, rfl, rfl, ⟨_, _, rfl, rfl, ⟨_, _, rfl, rfl, ⟨_, _, rfl, rfl, ⟨_, _, rfl, rfl, rfl⟩⟩⟩⟩⟩⟩⟩⟩⟩ := hr86
    refine t_st rfl (st_index_old j82 rfl rfl hj83 hlt89 hA88 sl116) ?_
    refine t_st rfl (st_loadN_old (vs := [.string (x80.Name), .int .i64 (x80.Length), .int .i64 (x80.Mass), .int .i64 (x80.Start), .int .i64 (x80.Power), .int .i64 (x80.Roll), .int .i64 (x80.Drag), .int .i64 (x80.Brake), .int .i64 (x80.Top), .int .i64 (x80.Seats)]) 10 rfl agg43 hA88 rfl (fun j u hu => hcs87 j u hu)) ?_
    obtain ⟨x90, hcl91, hm⟩ := bindS hm
    refine t_callvG #[] #[.pointer (some ⟨g1, 0, none⟩)] [.agg #[.string (x80.Name), .int .i64 (x80.Length), .int .i64 (x80.Mass), .int .i64 (x80.Start), .int .i64 (x80.Power), .int .i64 (x80.Roll), .int .i64 (x80.Drag), .int .i64 (x80.Brake), .int .i64 (x80.Top), .int .i64 (x80.Seats)]] rfl rfl call110 rfl (cRunText_1 _ _ x80 x6 x7 x8 x9 x10 x11 x12 x13 x14 x15 g1 x90 hcl91) ?_
    rintro _ b92 _ hle93 ⟨rfl, rfl⟩
    refine t_nil ?_
    refine x_then_normal ?_
    refine c_cond _ rfl (fun hc94 => ?_) (fun hc94 => ?_)
    ·
      rw [if_pos hc94] at hm
      refine c_seq ?_
      refine c_region ?_
      refine t_st rfl (st_move rfl) ?_
      refine t_st rfl (st_assign rfl) ?_
      refine t_nil ?_
      refine x_then_normal ?_
      refine c_ret ?_
      refine x_block_ret ?_
      refine x_then_ret ?_
      refine x_then_ret ?_
      refine x_block_ret ?_
      refine x_then_ret ?_
      have hq95 := houtL57 _ (Option.some.inj hm).symm
      rw [hq95] at hk79
      have hm := elimR hk79
      obtain rfl := some1 hm
      exact retM (rs := [.tmp 4]) [.int .i64 ((k76 : Int))] (hle75.trans hle93) (by decide) rfl ⟨rfl, trivial⟩ rfl (hp' := (g1, Cl 43 [.string (x6), .int .i64 (x7), .int .i64 (x8), .int .i64 (x9), .int .i64 (x10), .int .i64 (x11), .int .i64 (x12), .int .i64 (x13), .int .i64 (x14), .int .i64 (x15)]) :: R) (.cons_cons _ (.refl _)) ⟨rfl, rfl⟩
    ·
      rw [if_neg (fun hh => Bool.noConfusion (hh.symm.trans hc94))] at hm
      refine c_skip ?_
      refine x_block_normal ?_
      refine x_then_normal ?_
      refine c_region ?_
      refine t_st rfl (st_add rfl rfl (by omega)) ?_
      refine t_st rfl (st_move rfl) ?_
      refine t_nil ?_
      exact x_againM () (Option.some.inj hm).symm (e' := [(0, .slice A2 (l5).length c3), (1, .func (.func 110) #[] #[.pointer (some ⟨g1, 0, none⟩)]), (7, .int .i64 ((l5.length : Int))), (8, .int .i64 ((k76 : Int) + 1))]) (hp' := (g1, Cl 43 [.string (x6), .int .i64 (x7), .int .i64 (x8), .int .i64 (x9), .int .i64 (x10), .int .i64 (x11), .int .i64 (x12), .int .i64 (x13), .int .i64 (x14), .int .i64 (x15)]) :: R) ⟨rfl, rfl, rfl, rfl, trivial⟩ (.cons_cons _ (.refl _)) ⟨rfl, rfl, ((hle75.trans hle93))⟩
  ·
    rintro _ b74 _ _ ⟨rfl, rfl, hle75⟩ hq96
    rw [hq96] at hk79
    have hm := elimL hk79
    refine c_seq ?_
    refine c_region ?_
    refine t_st rfl (st_lss_f rfl rfl (by omega)) ?_
    refine t_nil ?_
    refine x_then_normal ?_
    refine c_seq ?_
    refine c_cond_f rfl ?_
    refine c_exit ?_
    refine x_then_exit ?_
    refine x_then_exit ?_
    refine x_block_out ?_
    refine x_then_normal ?_
    refine c_seq ?_
    refine c_region ?_
    refine t_st rfl (st_assign rfl) ?_
    refine t_nil ?_
    refine x_then_normal ?_
    refine c_ret ?_
    obtain rfl := some1 hm
    exact retM (rs := [.tmp 4]) [.int .i64 ((-1))] hle75 (by decide) rfl ⟨rfl, trivial⟩ rfl (hp' := (g1, Cl 43 [.string (x6), .int .i64 (x7), .int .i64 (x8), .int .i64 (x9), .int .i64 (x10), .int .i64 (x11), .int .i64 (x12), .int .i64 (x13), .int .i64 (x14), .int .i64 (x15)]) :: R) (.cons_cons _ (.refl _)) ⟨rfl, rfl⟩

set_option maxRecDepth 20000 in
theorem cSlicesContainsFunc (b : Base) (R : Hp) (l5 : (List ApiStock)) (x6 : ByteArray) (x7 : Int) (x8 : Int) (x9 : Int) (x10 : Int) (x11 : Int) (x12 : Int) (x13 : Int) (x14 : Int) (x15 : Int) (g1 : Nat) (A2 : Option Addr) (c3 : Nat) (h4 : FZ rApiStock b.w A2 c3 l5) (x20 : Bool) (hm : mSlicesContainsFunc l5 x6 x7 x8 x9 x10 x11 x12 x13 x14 x15 = some x20) :
    CallsG Tryd.prog 109 [.slice A2 (l5).length c3, .func (.func 110) #[] #[.pointer (some ⟨g1, 0, none⟩)]] b ((g1, Cl 43 [.string (x6), .int .i64 (x7), .int .i64 (x8), .int .i64 (x9), .int .i64 (x10), .int .i64 (x11), .int .i64 (x12), .int .i64 (x13), .int .i64 (x14), .int .i64 (x15)]) :: R) (fun v b' hp' => .bool (x20) = v ∧ (g1, Cl 43 [.string (x6), .int .i64 (x7), .int .i64 (x8), .int .i64 (x9), .int .i64 (x10), .int .i64 (x11), .int .i64 (x12), .int .i64 (x13), .int .i64 (x14), .int .i64 (x15)]) :: R = hp') := by
  refine fn_enterG 9 Tryd.func109 rfl Tryd.ntmps109 rfl ?_
  unfold mSlicesContainsFunc at hm
  refine c_seq ?_
  refine c_region ?_
  refine t_st rfl (st_assign rfl) ?_
  refine t_nil ?_
  refine x_then_normal ?_
  refine c_seq ?_
  refine c_region ?_
  refine t_st rfl (st_move rfl) ?_
  refine t_st rfl (st_move rfl) ?_
  obtain ⟨x21, hcl22, hm⟩ := bindS hm
  refine t_callG _ rfl call128 rfl (cSlicesIndexFunc _ _ l5 x6 x7 x8 x9 x10 x11 x12 x13 x14 x15 g1 A2 c3 h4 x21 hcl22) ?_
  rintro _ b23 _ hle24 ⟨rfl, rfl⟩
  refine t_st rfl (st_geq rfl rfl) ?_
  refine t_st rfl (st_assign rfl) ?_
  refine t_nil ?_
  refine x_then_normal ?_
  refine c_ret ?_
  obtain rfl := some1 hm
  exact retM (rs := [.tmp 4]) [.bool (decide (0 ≤ x21))] hle24 (by decide) rfl ⟨rfl, trivial⟩ rfl (hp' := (g1, Cl 43 [.string (x6), .int .i64 (x7), .int .i64 (x8), .int .i64 (x9), .int .i64 (x10), .int .i64 (x11), .int .i64 (x12), .int .i64 (x13), .int .i64 (x14), .int .i64 (x15)]) :: R) (.cons_cons _ (.refl _)) ⟨rfl, rfl⟩

set_option maxRecDepth 20000 in
theorem cRunText (b : Base) (R : Hp) (l4 : (List ApiStock)) (A1 : Option Addr) (c2 : Nat) (h3 : FZ rApiStock b.w A1 c2 l4) (x90 : ByteArray) (x91 : Int) (hm : mRunText l4 = some (x90, x91)) :
    CallsG Tryd.prog 83 [.slice A1 (l4).length c2] b (R) (fun v b' hp' => .tuple #[.string (x90), .int .i64 (x91)] = v ∧ R = hp') := by
  refine fn_enterG 47 Tryd.func83 rfl Tryd.ntmps83 rfl ?_
  unfold mRunText at hm
  refine c_seq ?_
  refine c_region ?_
  refine t_st rfl (st_assign rfl) ?_
  refine t_st rfl (st_assign rfl) ?_
  refine t_nil ?_
  refine x_then_normal ?_
  refine c_seq ?_
  refine c_seq ?_
  refine c_region ?_
  refine t_st rfl (st_move rfl) ?_
  refine t_st rfl (st_len rfl sl116) ?_
  refine t_st rfl (st_gtr rfl rfl) ?_
  refine t_nil ?_
  refine x_then_normal ?_
  refine c_cond _ rfl (fun hc92 => ?_) (fun hc92 => ?_)
  ·
    rw [if_pos (of_decide_eq_true hc92)] at hm
    refine c_seq ?_
    refine c_region ?_
    refine t_st rfl (st_assign rfl) ?_
    refine t_st rfl (st_assign rfl) ?_
    refine t_nil ?_
    refine x_then_normal ?_
    refine c_ret ?_
    refine x_then_ret ?_
    obtain ⟨rfl, rfl⟩ := some2 hm
    exact retM (rs := [.tmp 2, .tmp 3]) [.string ((ByteArray.mk #[])), .int .i64 (4)] (Base.Le.refl _) (by decide) rfl ⟨rfl, ⟨rfl, trivial⟩⟩ rfl (hp' := R) (.refl _) ⟨rfl, rfl⟩
  ·
    rw [if_neg (of_decide_eq_false hc92)] at hm
    refine c_skip ?_
    refine x_then_normal ?_
    refine c_seq ?_
    refine c_region ?_
    refine t_do rfl (u_alloc [.pointer none, .slice none 0 0] zero146 rfl) ?_
    rintro _ _ ⟨g93, rfl, rfl⟩
    refine t_nil ?_
    refine x_then_normal ?_
    refine c_seq ?_
    refine c_seq ?_
    refine c_region ?_
    refine t_st rfl (st_move rfl) ?_
    refine t_st rfl (st_len rfl sl116) ?_
    refine t_st rfl (st_move rfl) ?_
    refine t_nil ?_
    refine x_then_normal ?_
    refine c_block ?_
    have hb95 := (FZ.bd h3)
    obtain ⟨t135, hl136, hk137⟩ := bindS hm
    refine c_forM (fun k134 => fun _ => fun b132 e' hp' => [(0, .slice A1 (l4).length c2), (4, .pointer (some ⟨g93, 0, none⟩)), (13, .slice A1 (l4).length c2), (14, .int .i64 ((l4.length : Int))), (15, .int .i64 ((k134 : Int)))] = e' ∧ (g93, Cl 146 [.pointer none, .slice none 0 0]) :: R = hp' ∧ b.Le b132) hl136 (e' := [(0, .slice A1 (l4).length c2), (4, .pointer (some ⟨g93, 0, none⟩)), (13, .slice A1 (l4).length c2), (14, .int .i64 ((l4.length : Int))), (15, .int .i64 0)]) (hp' := (g93, Cl 146 [.pointer none, .slice none 0 0]) :: R) ⟨rfl, rfl, rfl, rfl, rfl, trivial⟩ (.cons_cons _ (.refl _)) ⟨rfl, rfl, (Base.Le.refl _)⟩ ?_ ?_
    ·
      rintro k134 _ b132 _ _ oL94 hknL94 ⟨rfl, rfl, hle133⟩ hstepL94 houtL94
      unfold mRunText_L94 at hstepL94
      have hm := hstepL94
      refine c_seq ?_
      refine c_region ?_
      refine t_st rfl (st_lss_t rfl rfl (by omega)) ?_
      refine t_nil ?_
      refine x_then_normal ?_
      refine c_seq ?_
      refine c_cond_t rfl ?_
      refine c_skip ?_
      refine x_then_normal ?_
      refine c_seq ?_
      refine c_block ?_
      refine c_seq ?_
      refine c_region ?_
      refine t_st rfl (st_move rfl) ?_
      obtain ⟨x138, h139, hm⟩ := bindS hm
      obtain ⟨j140, hj141, hx142⟩ := idx_some h139
      obtain ⟨cs143, hr144, hcs145, hA146, hlt147⟩ := FZ.get (sz := 10) rfl (by decide) (h3.le hle133) hx142
      obtain ⟨_, _, rfl, rfl, ⟨_, _, rfl, rfl, ⟨_, _, rfl, rfl, ⟨_, _, rfl, rfl, ⟨_, _, rfl, rfl, ⟨_, _, rfl, rfl, ⟨_, _, rfl, rfl, ⟨_, _, rfl, rfl, ⟨_, _, rfl, rfl, rfl⟩⟩⟩⟩⟩⟩⟩⟩⟩ := hr144
      refine t_st rfl (st_index_old j140 rfl rfl hj141 hlt147 hA146 sl116) ?_
      refine t_st rfl (st_loadN_old (vs := [.string (x138.Name), .int .i64 (x138.Length), .int .i64 (x138.Mass), .int .i64 (x138.Start), .int .i64 (x138.Power), .int .i64 (x138.Roll), .int .i64 (x138.Drag), .int .i64 (x138.Brake), .int .i64 (x138.Top), .int .i64 (x138.Seats)]) 10 rfl agg43 hA146 rfl (fun j u hu => hcs145 j u hu)) ?_
      refine t_do rfl (u_alloc [.string ByteArray.empty, .int .i64 0, .int .i64 0, .int .i64 0, .int .i64 0, .int .i64 0, .int .i64 0, .int .i64 0, .int .i64 0, .int .i64 0] zero43 rfl) ?_
      rintro _ _ ⟨g148, rfl, rfl⟩
      refine t_st rfl (st_assign rfl) ?_
      refine t_do rfl (u_storeN (vs := [_, _, _, _, _, _, _, _, _, _]) 0 10 rfl rfl rfl siz43 rfl (by intro u hu; simp only [List.mem_cons, List.not_mem_nil, or_false] at hu; rcases hu with rfl | rfl | rfl | rfl | rfl | rfl | rfl | rfl | rfl | rfl <;> rfl) rfl (by simp)) ?_
      rintro _ _ rfl
      refine t_nil ?_
      refine x_then_normal ?_
      refine c_seq ?_
      refine c_seq ?_
      refine c_region ?_
      refine t_st rfl (st_loadD (vs := [_, _, _, _, _, _, _, _, _, _]) 0 10 rfl agg43 rfl rfl rfl) ?_
      obtain ⟨x149, hcl150, hm⟩ := bindS hm
      refine t_do rfl (u_callW0 _ call22 rfl (fun w ho => cRunCheck _ [] x138 x149 hcl150) (fun _ _ _ h => h.2.symm)) ?_
      rintro _ _ ⟨⟨_, rfl, _⟩, rfl⟩
      refine t_st rfl (st_assign rfl) ?_
      refine t_nil ?_
      refine x_then_normal ?_
      refine c_seq ?_
      refine c_region ?_
      refine t_st rfl (st_move rfl) ?_
      refine t_st rfl (st_neq rfl rfl) ?_
      refine t_nil ?_
      refine x_then_normal ?_
      refine c_cond _ rfl (fun hc151 => ?_) (fun hc151 => ?_)
      ·
        rw [if_pos (of_decide_eq_true hc151)] at hm
        refine c_seq ?_
        refine c_region ?_
        refine t_st rfl (st_move rfl) ?_
        refine t_st rfl (st_assign rfl) ?_
        refine t_st rfl (st_assign rfl) ?_
        refine t_nil ?_
        refine x_then_normal ?_
        refine c_ret ?_
        refine x_then_ret ?_
        refine x_block_ret ?_
        refine x_then_ret ?_
        refine x_then_ret ?_
        refine x_block_ret ?_
        refine x_then_ret ?_
        have hq152 := houtL94 _ (Option.some.inj hm).symm
        rw [hq152] at hk137
        have hm := elimR hk137
        obtain ⟨rfl, rfl⟩ := some2 hm
        exact retM (rs := [.tmp 2, .tmp 3]) [.string ((ByteArray.mk #[])), .int .i64 (x149)] hle133 (by decide) rfl ⟨rfl, ⟨rfl, trivial⟩⟩ rfl (hp' := R) (.cons _ (.cons _ (.refl _))) ⟨rfl, rfl⟩
      ·
        rw [if_neg (of_decide_eq_false hc151)] at hm
        refine c_skip ?_
        refine x_then_normal ?_
        refine c_seq ?_
        refine c_seq ?_
        refine c_region ?_
        refine t_st rfl (st_move rfl) ?_
        refine t_st rfl (st_move rfl) ?_
        obtain ⟨l153, h154, hm⟩ := bindS hm
        obtain ⟨j155, j156, hj157, hj158, hj159, hj160, hx161⟩ := cutS_some h154
        have h162 := FZ.sub (sz := 10) rfl (h3.le hle133) hj159 hj160
        have h163 := (h3.le hle133).1.1
        rw [← hx161] at h162
        refine t_st rfl (hx161 ▸ st_part (l := l4) j155 j156 rfl (.inl ⟨rfl, by omega⟩) (.inr ⟨_, _, _, rfl, rfl, hj158⟩) hj159 hj160 h163 sl116) ?_
        refine t_st rfl (st_func _ _ rfl rfl) ?_
        obtain ⟨x168, hcl169, hm⟩ := bindS hm
        refine t_callG _ rfl call109 rfl (cSlicesContainsFunc _ _ l153 x138.Name x138.Length x138.Mass x138.Start x138.Power x138.Roll x138.Drag x138.Brake x138.Top x138.Seats g148 (subA A1 c2 j155 10) (c2 - j155) h162 x168 hcl169) ?_
        rintro _ b170 _ hle171 ⟨rfl, rfl⟩
        refine t_nil ?_
        refine x_then_normal ?_
        refine c_cond _ rfl (fun hc172 => ?_) (fun hc172 => ?_)
        ·
          rw [if_pos hc172] at hm
          refine c_seq ?_
          refine c_region ?_
          refine t_st rfl (st_assign rfl) ?_
          refine t_st rfl (st_assign rfl) ?_
          refine t_nil ?_
          refine x_then_normal ?_
          refine c_ret ?_
          refine x_then_ret ?_
          refine x_block_ret ?_
          refine x_then_ret ?_
          refine x_then_ret ?_
          refine x_block_ret ?_
          refine x_then_ret ?_
          have hq173 := houtL94 _ (Option.some.inj hm).symm
          rw [hq173] at hk137
          have hm := elimR hk137
          obtain ⟨rfl, rfl⟩ := some2 hm
          exact retM (rs := [.tmp 2, .tmp 3]) [.string ((ByteArray.mk #[])), .int .i64 (6)] (hle133.trans hle171) (by decide) rfl ⟨rfl, ⟨rfl, trivial⟩⟩ rfl (hp' := R) (.cons _ (.cons _ (.refl _))) ⟨rfl, rfl⟩
        ·
          rw [if_neg (fun hh => Bool.noConfusion (hh.symm.trans hc172))] at hm
          refine c_skip ?_
          refine x_then_normal ?_
          refine c_seq ?_
          refine c_region ?_
          refine t_st rfl (st_field rfl fld43_0) ?_
          refine t_st rfl (st_load 0 rfl one9 rfl rfl) ?_
          obtain ⟨q174, h175, hm⟩ := bindS hm
          refine t_st rfl (st_sadd rfl rfl h175) ?_
          cases hm
    ·
      rintro _ b132 _ _ ⟨rfl, rfl, hle133⟩ hq176
      rw [hq176] at hk137
      have hm := elimL hk137
      refine c_seq ?_
      refine c_region ?_
      refine t_st rfl (st_lss_f rfl rfl (by omega)) ?_
      refine t_nil ?_
      refine x_then_normal ?_
      refine c_seq ?_
      refine c_cond_f rfl ?_
      refine c_exit ?_
      refine x_then_exit ?_
      refine x_then_exit ?_
      refine x_block_out ?_
      refine x_then_normal ?_
      refine c_seq ?_
      refine c_region ?_
      cases hm

set_option maxRecDepth 20000 in
theorem cRunRead (b : Base) (R : Hp) (x1 : ByteArray) (x955 : Int) (l956 : (List ApiStock)) (hm : mRunRead x1 = some (x955, l956)) :
    CallsG Tryd.prog 56 [.string (x1)] b (R) (fun v b' hp' => ∃ (A952 : Option Addr), ∃ (c953 : Nat), ∃ (hs951 : Hp), .tuple #[.slice A952 (l956).length c953, .int .i64 (x955)] = v ∧ (hs951 ++ R) = hp' ∧ OS 43 (OT.fr rApiStock) b'.w (.slice A952 l956.length c953) l956 hs951) := by
  refine fn_enterG 96 Tryd.func56 rfl Tryd.ntmps56 rfl ?_
  unfold mRunRead at hm
  refine c_seq ?_
  refine c_region ?_
  refine t_st rfl (st_assign rfl) ?_
  refine t_st rfl (st_assign rfl) ?_
  refine t_nil ?_
  refine x_then_normal ?_
  refine c_seq ?_
  refine c_seq ?_
  refine c_region ?_
  refine t_st rfl (st_move rfl) ?_
  refine t_st rfl (st_slen rfl str9) ?_
  refine t_st rfl (st_gtr rfl rfl) ?_
  refine t_nil ?_
  refine x_then_normal ?_
  refine c_cond _ rfl (fun hc957 => ?_) (fun hc957 => ?_)
  ·
    rw [if_pos (of_decide_eq_true hc957)] at hm
    refine c_seq ?_
    refine c_region ?_
    refine t_st rfl (st_assign rfl) ?_
    refine t_st rfl (st_assign rfl) ?_
    refine t_nil ?_
    refine x_then_normal ?_
    refine c_ret ?_
    refine x_then_ret ?_
    obtain ⟨rfl, rfl⟩ := some2 hm
    exact retM (rs := [.tmp 2, .tmp 3]) [.slice none 0 0, .int .i64 (4)] (Base.Le.refl _) (by decide) rfl ⟨rfl, ⟨rfl, trivial⟩⟩ rfl (hp' := ([] ++ R)) (.refl _) ⟨none, 0, [], rfl, rfl, OS.nil⟩
  ·
    rw [if_neg (of_decide_eq_false hc957)] at hm
    refine c_skip ?_
    refine x_then_normal ?_
    refine c_seq ?_
    refine c_region ?_
    refine t_st rfl (st_move rfl) ?_
    obtain ⟨⟨x958, l959⟩, hcl960, hm⟩ := bindS hm
    have hm := (unc2E hm)
    refine t_callG _ rfl call82 rfl (cLineLines _ _ x1 x958 l959 hcl960) ?_
    rintro _ b961 _ hle962 ⟨A963, c964, hs965, rfl, rfl, h966⟩
    refine t_in1 [] [] hs965 R rfl ?_
    refine t_st rfl (st_move rfl) ?_
    refine t_st rfl (st_extract rfl rfl) ?_
    refine t_st rfl (st_extract rfl rfl) ?_
    refine t_st rfl (st_assign rfl) ?_
    refine t_st rfl (st_assign rfl) ?_
    refine t_nil ?_
    refine x_then_normal ?_
    refine c_seq ?_
    refine c_seq ?_
    refine c_region ?_
    refine t_st rfl (st_move rfl) ?_
    refine t_st rfl (st_not rfl) ?_
    refine t_nil ?_
    refine x_then_normal ?_
    refine c_cond _ rfl (fun hc967 => ?_) (fun hc967 => ?_)
    ·
      rw [if_neg (fun hh => Bool.noConfusion (hh.symm.trans (notT hc967)))] at hm
      refine c_seq ?_
      refine c_region ?_
      refine t_st rfl (st_assign rfl) ?_
      refine t_st rfl (st_assign rfl) ?_
      refine t_nil ?_
      refine x_then_normal ?_
      refine c_ret ?_
      refine x_then_ret ?_
      obtain ⟨rfl, rfl⟩ := some2 hm
      exact retM (rs := [.tmp 2, .tmp 3]) [.slice none 0 0, .int .i64 (10)] hle962 (by decide) rfl ⟨rfl, ⟨rfl, trivial⟩⟩ rfl (hp' := ([] ++ R)) (sub_skip hs965 (.refl _)) ⟨none, 0, [], rfl, rfl, OS.nil⟩
    ·
      rw [if_pos (notF hc967)] at hm
      refine c_skip ?_
      refine x_then_normal ?_
      refine c_seq ?_
      refine c_region ?_
      refine t_st rfl (st_assign rfl) ?_
      refine t_nil ?_
      refine x_then_normal ?_
      refine c_seq ?_
      refine c_seq ?_
      refine c_region ?_
      refine t_st rfl (st_move rfl) ?_
      refine t_st rfl (st_len rfl sl156) ?_
      refine t_st rfl (st_move rfl) ?_
      refine t_nil ?_
      refine x_then_normal ?_
      refine c_block ?_
      have hb969 := (OS.len h966)
      obtain ⟨t1593, hl1594, hk1595⟩ := bindS hm
      refine c_forM (fun k1592 => fun l1591 => fun b1584 e' hp' => ∃ (A1588 : Option Addr), ∃ (c1589 : Nat), ∃ (hs1587 : Hp), [(6, .slice A1588 (l1591).length c1589), (23, .slice A963 (l959).length c964), (24, .int .i64 ((l959.length : Int))), (25, .int .i64 ((k1592 : Int)))] = e' ∧ (hs1587 ++ (hs965 ++ R)) = hp' ∧ b961.Le b1584 ∧ OS 43 (OT.fr rApiStock) b1584.w (.slice A1588 l1591.length c1589) l1591 hs1587) hl1594 (e' := [(6, .slice none 0 0), (23, .slice A963 (l959).length c964), (24, .int .i64 ((l959.length : Int))), (25, .int .i64 0)]) (hp' := ([] ++ (hs965 ++ R))) ⟨rfl, rfl, rfl, rfl, trivial⟩ (sub_app hs965 (.refl _)) ⟨none, 0, [], rfl, rfl, (Base.Le.refl _), OS.nil⟩ ?_ ?_
      ·
        rintro k1592 l1591 b1584 _ _ oL968 hknL968 ⟨A1588, c1589, hs1587, rfl, rfl, hle1585, h1590⟩ hstepL968 houtL968
        unfold mRunRead_L968 at hstepL968
        have hm := hstepL968
        refine c_seq ?_
        refine c_region ?_
        refine t_st rfl (st_lss_t rfl rfl (by omega)) ?_
        refine t_nil ?_
        refine x_then_normal ?_
        refine c_seq ?_
        refine c_cond_t rfl ?_
        refine c_skip ?_
        refine x_then_normal ?_
        refine c_seq ?_
        refine c_block ?_
        refine c_seq ?_
        refine c_region ?_
        obtain ⟨x1596, h1597, hm⟩ := bindS hm
        obtain ⟨j1598, hj1599, hx1600⟩ := idx_some h1597
        obtain ⟨cs1601, hs1606, P1607, P1608, hq1609, hr1602, hcs1603, hA1604, hlt1605, hb1610, hho1611⟩ := OS.get (sz := 1) rfl (by decide) (h966.le hle1585) hx1600
        obtain ⟨⟨A1612, c1613, rfl, h1614⟩, rfl⟩ := hr1602
        refine t_st rfl (st_index_old j1598 rfl rfl hj1599 hlt1605 hA1604 sl156) ?_
        refine t_st rfl (st_load_rd rfl one109 (fun w ho => hcs1603 w _ ho (sub_skip hs1587 (List.sublist_append_left _ _)) 0 _ rfl)) ?_
        refine t_st rfl (st_assign rfl) ?_
        refine t_nil ?_
        refine x_then_normal ?_
        refine c_seq ?_
        obtain ⟨x1639, hj1640, hk1640⟩ := bindS hm
        refine c_join (fun b1637 e' hp' => [(6, .slice A1588 (l1591).length c1589), (8, .slice A1612 (x1596).length c1613), (23, .slice A963 (l959).length c964), (24, .int .i64 ((l959.length : Int))), (25, .int .i64 ((k1592 : Int))), (43, .bool (x1639))] = e' ∧ (hs1587 ++ (hs965 ++ R)) = hp' ∧ b1584.Le b1637) ?_ ?_
        ·
          have hm := hj1640
          refine c_region ?_
          refine t_st rfl (st_move rfl) ?_
          refine t_st rfl (st_len rfl sl109) ?_
          refine t_bool rfl (st_neq rfl rfl) (fun hc1641 => ?_) (fun hc1641 => ?_)
          ·
            rw [if_pos hc1641] at hm
            refine t_st rfl (st_move rfl) ?_
            refine t_no 32 rfl rfl rfl rfl rfl ?_
            refine t_no 32 rfl rfl rfl rfl rfl ?_
            refine t_no 32 rfl rfl rfl rfl rfl ?_
            refine t_no 32 rfl rfl rfl rfl rfl ?_
            refine t_st rfl (st_pick_t rfl rfl) ?_
            refine t_st rfl (st_move rfl) ?_
            refine t_no 38 rfl rfl rfl rfl rfl ?_
            refine t_no 38 rfl rfl rfl rfl rfl ?_
            refine t_no 38 rfl rfl rfl rfl rfl ?_
            refine t_no 38 rfl rfl rfl rfl rfl ?_
            refine t_st rfl (st_pick_t rfl rfl) ?_
            refine t_nil ?_
            obtain rfl := some1 hm
            refine x_front2 [] hs1587 hs965 R rfl ?_
            refine x_front2 [] hs965 hs1587 R rfl ?_
            exact x_join (e' := [(6, .slice A1588 (l1591).length c1589), (8, .slice A1612 (x1596).length c1613), (23, .slice A963 (l959).length c964), (24, .int .i64 ((l959.length : Int))), (25, .int .i64 ((k1592 : Int))), (43, .bool (true))]) (hp' := (hs1587 ++ (hs965 ++ R))) ⟨rfl, rfl, rfl, rfl, rfl, rfl, trivial⟩ (sub_app hs1587 (sub_app hs965 (.refl _))) ⟨rfl, rfl, (Base.Le.refl _)⟩
          ·
            rw [if_neg hc1641] at hm
            refine t_st rfl (st_move rfl) ?_
            refine t_yes 32 rfl rfl rfl ?_
            refine t_st rfl (st_move rfl) ?_
            refine t_yes 32 rfl rfl rfl ?_
            obtain ⟨x1642, h1643, hm⟩ := bindS hm
            obtain ⟨j1644, hj1645, hx1646⟩ := idx_some h1643
            obtain ⟨cs1647, hr1648, hcs1649, hA1650, hlt1651⟩ := FZ.get (sz := 1) rfl (by decide) h1614 hx1646
            obtain rfl := hr1648
            refine t_st rfl (st_index_old j1644 rfl rfl hj1645 hlt1651 hA1650 sl109) ?_
            refine t_yes 32 rfl rfl rfl ?_
            refine t_st rfl (st_load_old rfl one9 (hcs1649 0 _ rfl)) ?_
            refine t_yes 32 rfl rfl rfl ?_
            refine t_st rfl (st_sneq rfl rfl) ?_
            rcases Bool.eq_false_or_eq_true (!(sEq x1642 (ByteArray.mk #[115, 116, 111, 99, 107]))) with hc1652 | hc1652
            ·
              rw [if_neg (fun hh => Bool.noConfusion (hh.symm.trans (notT hc1652)))] at hm
              refine t_resp 36 rfl (v' := .bool true) (by rw [hc1652]) ?_
              refine t_st rfl (st_pick_f rfl rfl) ?_
              refine t_st rfl (st_move rfl) ?_
              refine t_no 38 rfl rfl rfl rfl rfl ?_
              refine t_no 38 rfl rfl rfl rfl rfl ?_
              refine t_no 38 rfl rfl rfl rfl rfl ?_
              refine t_no 38 rfl rfl rfl rfl rfl ?_
              refine t_st rfl (st_pick_t rfl rfl) ?_
              refine t_nil ?_
              obtain rfl := some1 hm
              refine x_front2 [] hs1587 hs965 R rfl ?_
              refine x_front2 [] hs965 hs1587 R rfl ?_
              exact x_join (e' := [(6, .slice A1588 (l1591).length c1589), (8, .slice A1612 (x1596).length c1613), (23, .slice A963 (l959).length c964), (24, .int .i64 ((l959.length : Int))), (25, .int .i64 ((k1592 : Int))), (43, .bool (true))]) (hp' := (hs1587 ++ (hs965 ++ R))) ⟨rfl, rfl, rfl, rfl, rfl, rfl, trivial⟩ (sub_app hs1587 (sub_app hs965 (.refl _))) ⟨rfl, rfl, (Base.Le.refl _)⟩
            ·
              rw [if_pos (notF hc1652)] at hm
              refine t_resp 36 rfl (v' := .bool false) (by rw [hc1652]) ?_
              refine t_st rfl (st_pick_f rfl rfl) ?_
              refine t_st rfl (st_move rfl) ?_
              refine t_yes 38 rfl rfl rfl ?_
              refine t_st rfl (st_move rfl) ?_
              refine t_yes 38 rfl rfl rfl ?_
              obtain ⟨x1653, h1654, hm⟩ := bindS hm
              obtain ⟨j1655, hj1656, hx1657⟩ := idx_some h1654
              obtain ⟨cs1658, hr1659, hcs1660, hA1661, hlt1662⟩ := FZ.get (sz := 1) rfl (by decide) h1614 hx1657
              obtain rfl := hr1659
              refine t_st rfl (st_index_old j1655 rfl rfl hj1656 hlt1662 hA1661 sl109) ?_
              refine t_yes 38 rfl rfl rfl ?_
              refine t_st rfl (st_load_old rfl one9 (hcs1660 0 _ rfl)) ?_
              refine t_yes 38 rfl rfl rfl ?_
              refine t_st rfl (st_seql rfl rfl) ?_
              refine t_st rfl (st_pick_f rfl rfl) ?_
              refine t_nil ?_
              obtain rfl := some1 hm
              refine x_front2 [] hs1587 hs965 R rfl ?_
              refine x_front2 [] hs965 hs1587 R rfl ?_
              exact x_join (e' := [(6, .slice A1588 (l1591).length c1589), (8, .slice A1612 (x1596).length c1613), (23, .slice A963 (l959).length c964), (24, .int .i64 ((l959.length : Int))), (25, .int .i64 ((k1592 : Int))), (43, .bool (sEq x1653 (ByteArray.mk #[])))]) (hp' := (hs1587 ++ (hs965 ++ R))) ⟨rfl, rfl, rfl, rfl, rfl, rfl, trivial⟩ (sub_app hs1587 (sub_app hs965 (.refl _))) ⟨rfl, rfl, (Base.Le.refl _)⟩
        ·
          rintro b1637 _ _ ⟨rfl, rfl, hle1638⟩
          have hm := hk1640
          refine c_cond _ rfl (fun hc1663 => ?_) (fun hc1663 => ?_)
          ·
            rw [if_pos hc1663] at hm
            refine c_seq ?_
            refine c_region ?_
            refine t_st rfl (st_assign rfl) ?_
            refine t_st rfl (st_assign rfl) ?_
            refine t_nil ?_
            refine x_then_normal ?_
            refine c_ret ?_
            refine x_then_ret ?_
            refine x_block_ret ?_
            refine x_then_ret ?_
            refine x_then_ret ?_
            refine x_block_ret ?_
            refine x_then_ret ?_
            have hq1664 := houtL968 _ (Option.some.inj hm).symm
            rw [hq1664] at hk1595
            have hm := elimR hk1595
            obtain ⟨rfl, rfl⟩ := some2 hm
            exact retM (rs := [.tmp 2, .tmp 3]) [.slice none 0 0, .int .i64 (10)] (hle962.trans (hle1585.trans hle1638)) (by decide) rfl ⟨rfl, ⟨rfl, trivial⟩⟩ rfl (hp' := ([] ++ R)) (sub_skip hs1587 (sub_skip hs965 (.refl _))) ⟨none, 0, [], rfl, rfl, OS.nil⟩
          ·
            rw [if_neg (fun hh => Bool.noConfusion (hh.symm.trans hc1663))] at hm
            refine c_skip ?_
            refine x_then_normal ?_
            refine c_seq ?_
            refine c_region ?_
            refine t_st rfl (st_move rfl) ?_
            obtain ⟨l1665, h1666, hm⟩ := bindS hm
            obtain ⟨j1667, j1668, hj1669, hj1670, hj1671, hj1672, hx1673⟩ := cutS_some h1666
            have h1674 := FZ.sub (sz := 1) rfl (h1614.le hle1638) hj1671 hj1672
            have h1675 := (h1614.le hle1638).1.1
            rw [← hx1673] at h1674
            refine t_st rfl (hx1673 ▸ st_part (l := x1596) j1667 j1668 rfl (.inr ⟨_, _, _, rfl, rfl, hj1669⟩) (.inl ⟨rfl, by omega⟩) hj1671 hj1672 h1675 sl109) ?_
            obtain ⟨l1680, hcl1681, hm⟩ := bindS hm
            refine t_callG _ rfl call54 rfl (cLineNumbers _ _ l1665 (subA A1612 c1613 j1667 1) (c1613 - j1667) h1674 l1680 hcl1681) ?_
            rintro _ b1682 _ hle1683 ⟨A1684, c1685, rfl, rfl, h1686, h1687⟩
            refine t_st rfl (st_move rfl) ?_
            refine t_st rfl (st_extract rfl rfl) ?_
            refine t_st rfl (st_extract rfl rfl) ?_
            refine t_st rfl (st_assign rfl) ?_
            refine t_st rfl (st_assign rfl) ?_
            refine t_nil ?_
            refine x_then_normal ?_
            refine c_seq ?_
            refine c_seq ?_
            refine c_region ?_
            refine t_st rfl (st_move rfl) ?_
            refine t_st rfl (st_not_t rfl) ?_
            refine t_nil ?_
            refine x_then_normal ?_
            refine c_cond_f rfl ?_
            refine c_skip ?_
            refine x_then_normal ?_
            obtain ⟨x1794, h1795, hm⟩ := bindS hm
            obtain ⟨x1804, h1805, hm⟩ := bindS hm
            obtain ⟨x1814, h1815, hm⟩ := bindS hm
            obtain ⟨x1824, h1825, hm⟩ := bindS hm
            obtain ⟨x1834, h1835, hm⟩ := bindS hm
            obtain ⟨x1844, h1845, hm⟩ := bindS hm
            obtain ⟨x1854, h1855, hm⟩ := bindS hm
            obtain ⟨x1864, h1865, hm⟩ := bindS hm
            obtain ⟨x1874, h1875, hm⟩ := bindS hm
            obtain ⟨x1884, h1885, hm⟩ := bindS hm
            obtain ⟨_, h1895, hm⟩ := bindS hm
            refine D_drawS ((hs965 ++ R)) mixed ?_
            refine D_st (Base.Le.refl _) 0 rfl (by kernel_rfl) (by kernel_rfl) (by kernel_rfl) rfl (st_move rfl) (sub_skip hs1587 (sub_app hs965 (.refl _))) ?_
            refine D_st (Base.Le.refl _) 1 rfl (by kernel_rfl) (by kernel_rfl) (by kernel_rfl) rfl (st_move rfl) (sub_skip hs1587 (sub_app hs965 (.refl _))) ?_
            obtain ⟨j1796, hj1797, hx1798⟩ := idx_some h1795
            obtain ⟨cs1799, hr1800, hcs1801, hA1802, hlt1803⟩ := FZ.get (sz := 1) rfl (by decide) (h1614.le (hle1638.trans hle1683)) hx1798
            obtain rfl := hr1800
            refine D_st (Base.Le.refl _) 2 rfl (by kernel_rfl) (by kernel_rfl) (by kernel_rfl) rfl (st_index_old j1796 rfl rfl hj1797 hlt1803 hA1802 sl109) (sub_skip hs1587 (sub_app hs965 (.refl _))) ?_
            refine D_st (Base.Le.refl _) 3 rfl (by kernel_rfl) (by kernel_rfl) (by kernel_rfl) rfl (st_load_old rfl one9 (hcs1801 0 _ rfl)) (sub_skip hs1587 (sub_app hs965 (.refl _))) ?_
            refine D_st (Base.Le.refl _) 4 rfl (by kernel_rfl) (by kernel_rfl) (by kernel_rfl) rfl (st_move rfl) (sub_skip hs1587 (sub_app hs965 (.refl _))) ?_
            obtain ⟨j1806, hj1807, hx1808⟩ := idx_some h1805
            obtain ⟨cs1809, hr1810, hcs1811, hA1812, hlt1813⟩ := FZ.get (sz := 1) rfl (by decide) h1686 hx1808
            obtain rfl := hr1810
            refine D_st (Base.Le.refl _) 5 rfl (by kernel_rfl) (by kernel_rfl) (by kernel_rfl) rfl (st_index_old j1806 rfl rfl hj1807 hlt1813 hA1812 sl24) (sub_skip hs1587 (sub_app hs965 (.refl _))) ?_
            refine D_st (Base.Le.refl _) 6 rfl (by kernel_rfl) (by kernel_rfl) (by kernel_rfl) rfl (st_load_old rfl one3 (hcs1811 0 _ rfl)) (sub_skip hs1587 (sub_app hs965 (.refl _))) ?_
            refine D_st (Base.Le.refl _) 7 rfl (by kernel_rfl) (by kernel_rfl) (by kernel_rfl) rfl (st_move rfl) (sub_skip hs1587 (sub_app hs965 (.refl _))) ?_
            obtain ⟨j1816, hj1817, hx1818⟩ := idx_some h1815
            obtain ⟨cs1819, hr1820, hcs1821, hA1822, hlt1823⟩ := FZ.get (sz := 1) rfl (by decide) h1686 hx1818
            obtain rfl := hr1820
            refine D_st (Base.Le.refl _) 8 rfl (by kernel_rfl) (by kernel_rfl) (by kernel_rfl) rfl (st_index_old j1816 rfl rfl hj1817 hlt1823 hA1822 sl24) (sub_skip hs1587 (sub_app hs965 (.refl _))) ?_
            refine D_st (Base.Le.refl _) 9 rfl (by kernel_rfl) (by kernel_rfl) (by kernel_rfl) rfl (st_load_old rfl one3 (hcs1821 0 _ rfl)) (sub_skip hs1587 (sub_app hs965 (.refl _))) ?_
            refine D_st (Base.Le.refl _) 10 rfl (by kernel_rfl) (by kernel_rfl) (by kernel_rfl) rfl (st_move rfl) (sub_skip hs1587 (sub_app hs965 (.refl _))) ?_
            obtain ⟨j1826, hj1827, hx1828⟩ := idx_some h1825
            obtain ⟨cs1829, hr1830, hcs1831, hA1832, hlt1833⟩ := FZ.get (sz := 1) rfl (by decide) h1686 hx1828
            obtain rfl := hr1830
            refine D_st (Base.Le.refl _) 11 rfl (by kernel_rfl) (by kernel_rfl) (by kernel_rfl) rfl (st_index_old j1826 rfl rfl hj1827 hlt1833 hA1832 sl24) (sub_skip hs1587 (sub_app hs965 (.refl _))) ?_
            refine D_st (Base.Le.refl _) 12 rfl (by kernel_rfl) (by kernel_rfl) (by kernel_rfl) rfl (st_load_old rfl one3 (hcs1831 0 _ rfl)) (sub_skip hs1587 (sub_app hs965 (.refl _))) ?_
            refine D_st (Base.Le.refl _) 13 rfl (by kernel_rfl) (by kernel_rfl) (by kernel_rfl) rfl (st_move rfl) (sub_skip hs1587 (sub_app hs965 (.refl _))) ?_
            obtain ⟨j1836, hj1837, hx1838⟩ := idx_some h1835
            obtain ⟨cs1839, hr1840, hcs1841, hA1842, hlt1843⟩ := FZ.get (sz := 1) rfl (by decide) h1686 hx1838
            obtain rfl := hr1840
            refine D_st (Base.Le.refl _) 14 rfl (by kernel_rfl) (by kernel_rfl) (by kernel_rfl) rfl (st_index_old j1836 rfl rfl hj1837 hlt1843 hA1842 sl24) (sub_skip hs1587 (sub_app hs965 (.refl _))) ?_
            refine D_st (Base.Le.refl _) 15 rfl (by kernel_rfl) (by kernel_rfl) (by kernel_rfl) rfl (st_load_old rfl one3 (hcs1841 0 _ rfl)) (sub_skip hs1587 (sub_app hs965 (.refl _))) ?_
            refine D_st (Base.Le.refl _) 16 rfl (by kernel_rfl) (by kernel_rfl) (by kernel_rfl) rfl (st_move rfl) (sub_skip hs1587 (sub_app hs965 (.refl _))) ?_
            obtain ⟨j1846, hj1847, hx1848⟩ := idx_some h1845
            obtain ⟨cs1849, hr1850, hcs1851, hA1852, hlt1853⟩ := FZ.get (sz := 1) rfl (by decide) h1686 hx1848
            obtain rfl := hr1850
            refine D_st (Base.Le.refl _) 17 rfl (by kernel_rfl) (by kernel_rfl) (by kernel_rfl) rfl (st_index_old j1846 rfl rfl hj1847 hlt1853 hA1852 sl24) (sub_skip hs1587 (sub_app hs965 (.refl _))) ?_
            refine D_st (Base.Le.refl _) 18 rfl (by kernel_rfl) (by kernel_rfl) (by kernel_rfl) rfl (st_load_old rfl one3 (hcs1851 0 _ rfl)) (sub_skip hs1587 (sub_app hs965 (.refl _))) ?_
            refine D_st (Base.Le.refl _) 19 rfl (by kernel_rfl) (by kernel_rfl) (by kernel_rfl) rfl (st_move rfl) (sub_skip hs1587 (sub_app hs965 (.refl _))) ?_
            obtain ⟨j1856, hj1857, hx1858⟩ := idx_some h1855
            obtain ⟨cs1859, hr1860, hcs1861, hA1862, hlt1863⟩ := FZ.get (sz := 1) rfl (by decide) h1686 hx1858
            obtain rfl := hr1860
            refine D_st (Base.Le.refl _) 20 rfl (by kernel_rfl) (by kernel_rfl) (by kernel_rfl) rfl (st_index_old j1856 rfl rfl hj1857 hlt1863 hA1862 sl24) (sub_skip hs1587 (sub_app hs965 (.refl _))) ?_
            refine D_st (Base.Le.refl _) 21 rfl (by kernel_rfl) (by kernel_rfl) (by kernel_rfl) rfl (st_load_old rfl one3 (hcs1861 0 _ rfl)) (sub_skip hs1587 (sub_app hs965 (.refl _))) ?_
            refine D_st (Base.Le.refl _) 22 rfl (by kernel_rfl) (by kernel_rfl) (by kernel_rfl) rfl (st_move rfl) (sub_skip hs1587 (sub_app hs965 (.refl _))) ?_
            obtain ⟨j1866, hj1867, hx1868⟩ := idx_some h1865
            obtain ⟨cs1869, hr1870, hcs1871, hA1872, hlt1873⟩ := FZ.get (sz := 1) rfl (by decide) h1686 hx1868
            obtain rfl := hr1870
            refine D_st (Base.Le.refl _) 23 rfl (by kernel_rfl) (by kernel_rfl) (by kernel_rfl) rfl (st_index_old j1866 rfl rfl hj1867 hlt1873 hA1872 sl24) (sub_skip hs1587 (sub_app hs965 (.refl _))) ?_
            refine D_st (Base.Le.refl _) 24 rfl (by kernel_rfl) (by kernel_rfl) (by kernel_rfl) rfl (st_load_old rfl one3 (hcs1871 0 _ rfl)) (sub_skip hs1587 (sub_app hs965 (.refl _))) ?_
            refine D_st (Base.Le.refl _) 25 rfl (by kernel_rfl) (by kernel_rfl) (by kernel_rfl) rfl (st_move rfl) (sub_skip hs1587 (sub_app hs965 (.refl _))) ?_
            obtain ⟨j1876, hj1877, hx1878⟩ := idx_some h1875
            obtain ⟨cs1879, hr1880, hcs1881, hA1882, hlt1883⟩ := FZ.get (sz := 1) rfl (by decide) h1686 hx1878
            obtain rfl := hr1880
            refine D_st (Base.Le.refl _) 26 rfl (by kernel_rfl) (by kernel_rfl) (by kernel_rfl) rfl (st_index_old j1876 rfl rfl hj1877 hlt1883 hA1882 sl24) (sub_skip hs1587 (sub_app hs965 (.refl _))) ?_
            refine D_st (Base.Le.refl _) 27 rfl (by kernel_rfl) (by kernel_rfl) (by kernel_rfl) rfl (st_load_old rfl one3 (hcs1881 0 _ rfl)) (sub_skip hs1587 (sub_app hs965 (.refl _))) ?_
            refine D_st (Base.Le.refl _) 28 rfl (by kernel_rfl) (by kernel_rfl) (by kernel_rfl) rfl (st_move rfl) (sub_skip hs1587 (sub_app hs965 (.refl _))) ?_
            obtain ⟨j1886, hj1887, hx1888⟩ := idx_some h1885
            obtain ⟨cs1889, hr1890, hcs1891, hA1892, hlt1893⟩ := FZ.get (sz := 1) rfl (by decide) h1686 hx1888
            obtain rfl := hr1890
            refine D_st (Base.Le.refl _) 29 rfl (by kernel_rfl) (by kernel_rfl) (by kernel_rfl) rfl (st_index_old j1886 rfl rfl hj1887 hlt1893 hA1892 sl24) (sub_skip hs1587 (sub_app hs965 (.refl _))) ?_
            refine D_st (Base.Le.refl _) 30 rfl (by kernel_rfl) (by kernel_rfl) (by kernel_rfl) rfl (st_load_old rfl one3 (hcs1891 0 _ rfl)) (sub_skip hs1587 (sub_app hs965 (.refl _))) ?_
            refine D_st (Base.Le.refl _) 31 rfl (by kernel_rfl) (by kernel_rfl) (by kernel_rfl) rfl (st_build (v := .agg #[.string (x1794), .int .i64 (x1804), .int .i64 (x1814), .int .i64 (x1824), .int .i64 (x1834), .int .i64 (x1844), .int .i64 (x1854), .int .i64 (x1864), .int .i64 (x1874), .int .i64 (x1884)]) [(0, .string (x1794)), (1, .int .i64 (x1804)), (2, .int .i64 (x1814)), (3, .int .i64 (x1824)), (4, .int .i64 (x1834)), (5, .int .i64 (x1844)), (6, .int .i64 (x1854)), (7, .int .i64 (x1864)), (8, .int .i64 (x1874)), (9, .int .i64 (x1884))] rfl (fun _ => by kernel_rfl)) (sub_skip hs1587 (sub_app hs965 (.refl _))) ?_
            refine D_all [32] (by kernel_rfl) rfl ?_
            refine R_do (Base.Le.refl _) rfl rfl (u_bslice (el := 43) [(0, .agg #[.string (x1794), .int .i64 (x1804), .int .i64 (x1814), .int .i64 (x1824), .int .i64 (x1834), .int .i64 (x1844), .int .i64 (x1854), .int .i64 (x1864), .int .i64 (x1874), .int .i64 (x1884)])] [.string (x1794), .int .i64 (x1804), .int .i64 (x1814), .int .i64 (x1824), .int .i64 (x1834), .int .i64 (x1844), .int .i64 (x1854), .int .i64 (x1864), .int .i64 (x1874), .int .i64 (x1884)] rfl (fun _ => by kernel_rfl)) ?_ ?_
            ·
              rintro _ _ ⟨g1894, rfl, rfl⟩
              refine ⟨.inr (.cons _ (sub_skip hs1587 (sub_app hs965 (.refl _)))), ?_⟩
              have h1895 := room_some h1895
              refine D_all [33] (by kernel_rfl) rfl ?_
              refine R_do (Base.Le.refl _) rfl rfl (u_appOS (r := rApiStock) (l := l1591) [_] (hs965 ++ R) [[.string (x1794), .int .i64 (x1804), .int .i64 (x1814), .int .i64 (x1824), .int .i64 (x1834), .int .i64 (x1844), .int .i64 (x1854), .int .i64 (x1864), .int .i64 (x1874), .int .i64 (x1884)]] [(⟨x1794, x1804, x1814, x1824, x1834, x1844, x1854, x1864, x1874, x1884⟩ : ApiStock)] rfl (by decide) sl116 inf43 rfl rfl rfl rfl (h1590.le (hle1638.trans hle1683)) rfl (fun w ho => Rd.own (i := 0) ho rfl) ⟨⟨[.string (x1794)], _, rfl, rfl, ⟨[.int .i64 (x1804)], _, rfl, rfl, ⟨[.int .i64 (x1814)], _, rfl, rfl, ⟨[.int .i64 (x1824)], _, rfl, rfl, ⟨[.int .i64 (x1834)], _, rfl, rfl, ⟨[.int .i64 (x1844)], _, rfl, rfl, ⟨[.int .i64 (x1854)], _, rfl, rfl, ⟨[.int .i64 (x1864)], _, rfl, rfl, ⟨[.int .i64 (x1874)], _, rfl, rfl, rfl⟩⟩⟩⟩⟩⟩⟩⟩⟩, trivial⟩ h1895) ?_ ?_
              ·
                rintro _ _ ⟨hs1896, rfl, h1897⟩
                obtain ⟨A1898, c1899, rfl, _⟩ := h1897.form
                refine ⟨.inr (.cons _ (sub_skip hs1896 (sub_app hs965 (.refl _)))), ?_⟩
                refine D_st (Base.Le.refl _) 34 rfl (by kernel_rfl) (by kernel_rfl) (by kernel_rfl) rfl (st_assign rfl) (.cons _ (sub_skip hs1896 (sub_app hs965 (.refl _)))) ?_
                refine D_done (by kernel_rfl) ?_
                refine x_block_normal ?_
                refine x_then_normal ?_
                refine c_region ?_
                refine t_st rfl (st_add rfl rfl (by omega)) ?_
                refine t_st rfl (st_move rfl) ?_
                refine t_nil ?_
                refine x_front2 [_] hs1896 hs965 R rfl ?_
                refine x_front2 [_] hs965 hs1896 R rfl ?_
                exact x_againM (l1591 ++ [(⟨x1794, x1804, x1814, x1824, x1834, x1844, x1854, x1864, x1874, x1884⟩ : ApiStock)]) (Option.some.inj hm).symm (e' := [(6, .slice A1898 (l1591 ++ [(⟨x1794, x1804, x1814, x1824, x1834, x1844, x1854, x1864, x1874, x1884⟩ : ApiStock)]).length c1899), (23, .slice A963 (l959).length c964), (24, .int .i64 ((l959.length : Int))), (25, .int .i64 ((k1592 : Int) + 1))]) (hp' := (hs1896 ++ (hs965 ++ R))) ⟨rfl, rfl, rfl, rfl, trivial⟩ (.cons _ (sub_app hs1896 (sub_app hs965 (.refl _)))) ⟨A1898, c1899, hs1896, rfl, rfl, ((hle1585.trans (hle1638.trans hle1683))), h1897⟩
              exact R_nil
            exact R_nil
      ·
        rintro l1591 b1584 _ _ ⟨A1588, c1589, hs1587, rfl, rfl, hle1585, h1590⟩ hq1900
        rw [hq1900] at hk1595
        have hm := elimL hk1595
        refine c_seq ?_
        refine c_region ?_
        refine t_st rfl (st_lss_f rfl rfl (by omega)) ?_
        refine t_nil ?_
        refine x_then_normal ?_
        refine c_seq ?_
        refine c_cond_f rfl ?_
        refine c_exit ?_
        refine x_then_exit ?_
        refine x_then_exit ?_
        refine x_block_out ?_
        refine x_then_normal ?_
        refine c_seq ?_
        refine c_seq ?_
        refine c_region ?_
        refine t_st rfl (st_move rfl) ?_
        obtain ⟨⟨x1901, x1902⟩, hcl1903, hm⟩ := bindS hm
        have hm := (unc2E hm)
        refine t_do rfl (u_callW0 _ call83 rfl (fun w ho => cRunText _ [] l1591 A1588 c1589 (OS.now (o := (OT.fr rApiStock)) (l := l1591) (hs := hs1587) h1590 ho (List.sublist_append_left _ _)) x1901 x1902 hcl1903) (fun _ _ _ h => h.2.symm)) ?_
        rintro _ _ ⟨⟨_, rfl, _⟩, rfl⟩
        refine t_st rfl (st_move rfl) ?_
        refine t_st rfl (st_extract rfl rfl) ?_
        refine t_st rfl (st_extract rfl rfl) ?_
        refine t_st rfl (st_assign rfl) ?_
        refine t_st rfl (st_assign rfl) ?_
        refine t_nil ?_
        refine x_then_normal ?_
        refine c_seq ?_
        refine c_region ?_
        refine t_st rfl (st_move rfl) ?_
        refine t_st rfl (st_neq rfl rfl) ?_
        refine t_nil ?_
        refine x_then_normal ?_
        refine c_cond _ rfl (fun hc1904 => ?_) (fun hc1904 => ?_)
        ·
          rw [if_pos (of_decide_eq_true hc1904)] at hm
          refine c_seq ?_
          refine c_region ?_
          refine t_st rfl (st_move rfl) ?_
          refine t_st rfl (st_assign rfl) ?_
          refine t_st rfl (st_assign rfl) ?_
          refine t_nil ?_
          refine x_then_normal ?_
          refine c_ret ?_
          refine x_then_ret ?_
          obtain ⟨rfl, rfl⟩ := some2 hm
          exact retM (rs := [.tmp 2, .tmp 3]) [.slice none 0 0, .int .i64 (x1902)] (hle962.trans hle1585) (by decide) rfl ⟨rfl, ⟨rfl, trivial⟩⟩ rfl (hp' := ([] ++ R)) (sub_skip hs1587 (sub_skip hs965 (.refl _))) ⟨none, 0, [], rfl, rfl, OS.nil⟩
        ·
          rw [if_neg (of_decide_eq_false hc1904)] at hm
          refine c_skip ?_
          refine x_then_normal ?_
          refine c_seq ?_
          refine c_region ?_
          refine t_st rfl (st_move rfl) ?_
          refine t_st rfl (st_assign rfl) ?_
          refine t_st rfl (st_assign rfl) ?_
          refine t_nil ?_
          refine x_then_normal ?_
          refine c_ret ?_
          obtain ⟨rfl, rfl⟩ := some2 hm
          exact retM (rs := [.tmp 2, .tmp 3]) [.slice A1588 (l1591).length c1589, .int .i64 (0)] (hle962.trans hle1585) (by decide) rfl ⟨rfl, ⟨rfl, trivial⟩⟩ rfl (hp' := (hs1587 ++ R)) (sub_app hs1587 (sub_skip hs965 (.refl _))) ⟨A1588, c1589, hs1587, rfl, rfl, h1590⟩

set_option maxRecDepth 20000 in
theorem cFishkeep1AwakeRun (b : Base) (R : Hp) (x10 : Bool) (hm : mFishkeep1AwakeRun = some x10) :
    CallsG Tryd.prog 21 [] b (R) (fun v b' hp' => .bool (x10) = v ∧ R = hp') := by
  refine fn_enterG 9 Tryd.func21 rfl Tryd.ntmps21 rfl ?_
  unfold mFishkeep1AwakeRun at hm
  refine c_seq ?_
  refine c_region ?_
  refine t_st rfl (st_assign rfl) ?_
  refine t_nil ?_
  refine x_then_normal ?_
  refine c_seq ?_
  refine c_region ?_
  obtain ⟨⟨x11, l12⟩, hcl13, hm⟩ := bindS hm
  have hm := (unc2E hm)
  refine t_callG _ rfl call56 rfl (cRunRead _ _ (ByteArray.mk #[120]) x11 l12 hcl13) ?_
  rintro _ b14 _ hle15 ⟨A16, c17, hs18, rfl, rfl, h19⟩
  refine t_in1 [] [] hs18 R rfl ?_
  refine t_st rfl (st_move rfl) ?_
  refine t_st rfl (st_extract rfl rfl) ?_
  refine t_st rfl (st_extract rfl rfl) ?_
  refine t_st rfl (st_assign rfl) ?_
  refine t_st rfl (st_assign rfl) ?_
  refine t_nil ?_
  refine x_then_normal ?_
  refine c_seq ?_
  refine c_region ?_
  refine t_st rfl (st_move rfl) ?_
  refine t_st rfl (st_neq rfl rfl) ?_
  refine t_st rfl (st_assign rfl) ?_
  refine t_nil ?_
  refine x_then_normal ?_
  refine c_ret ?_
  obtain rfl := some1 hm
  exact retM (rs := [.tmp 0]) [.bool (decide (x11 ≠ 0))] hle15 (by decide) rfl ⟨rfl, trivial⟩ rfl (hp' := R) (sub_skip hs18 (.refl _)) ⟨rfl, rfl⟩

set_option maxRecDepth 20000 in
theorem cRunGone (b : Base) (R : Hp) (x1 : Int) (x2 : Int) (x7 : Int) (hm : mRunGone x1 x2 = some x7) :
    CallsG Tryd.prog 84 [.int .i64 (x1), .int .i64 (x2)] b (R) (fun v b' hp' => .int .i64 (x7) = v ∧ R = hp') := by
  refine fn_enterG 10 Tryd.func84 rfl Tryd.ntmps84 rfl ?_
  unfold mRunGone at hm
  refine c_seq ?_
  refine c_region ?_
  refine t_st rfl (st_assign rfl) ?_
  refine t_nil ?_
  refine x_then_normal ?_
  refine c_seq ?_
  refine c_region ?_
  refine t_st rfl (st_move rfl) ?_
  refine t_st rfl (st_move rfl) ?_
  obtain ⟨_, h8, hm⟩ := bindS hm
  have h8 := (chk_some h8).2
  refine t_st rfl (st_add rfl rfl h8) ?_
  obtain ⟨_, h9, hm⟩ := bindS hm
  have h9 := (chk_some h9).2
  refine t_st rfl (st_add rfl rfl h9) ?_
  obtain ⟨_, h10, hm⟩ := bindS hm
  obtain ⟨_, h11, hm⟩ := bindS hm
  have h11 := (chk_some h11).2
  refine t_st rfl (st_quo rfl rfl (ne0_some h10) h11) ?_
  refine t_st rfl (st_assign rfl) ?_
  refine t_nil ?_
  refine x_then_normal ?_
  refine c_ret ?_
  obtain rfl := some1 hm
  exact retM (rs := [.tmp 4]) [.int .i64 (Int.tdiv ((x1 + x2) + 1) 2)] (Base.Le.refl _) (by decide) rfl ⟨rfl, trivial⟩ rfl (hp' := R) (.refl _) ⟨rfl, rfl⟩

set_option maxRecDepth 20000 in
theorem cRunInto_2 (b : Base) (R : Hp) (s1 : ApiStock) (x2 : Int) (x3 : Int) (x59 : Int) (hm : mRunInto_2 s1 x2 x3 = some x59) :
    CallsG Tryd.prog 60 [.agg #[.string (s1.Name), .int .i64 (s1.Length), .int .i64 (s1.Mass), .int .i64 (s1.Start), .int .i64 (s1.Power), .int .i64 (s1.Roll), .int .i64 (s1.Drag), .int .i64 (s1.Brake), .int .i64 (s1.Top), .int .i64 (s1.Seats)], .int .i64 (x2), .int .i64 (x3)] b (R) (fun v b' hp' => .int .i64 (x59) = v ∧ R = hp') := by
  refine fn_enterG 26 Tryd.func60 rfl Tryd.ntmps60 rfl ?_
  unfold mRunInto_2 at hm
  refine c_seq ?_
  refine c_region ?_
  refine t_do rfl (u_box _ rfl rfl) ?_
  rintro _ _ ⟨g60, rfl, rfl⟩
  refine t_st rfl (st_assign rfl) ?_
  refine t_nil ?_
  refine x_then_normal ?_
  refine c_seq ?_
  refine c_region ?_
  refine t_st rfl (st_assign rfl) ?_
  refine t_nil ?_
  refine x_then_normal ?_
  obtain ⟨x88, hj89, hk89⟩ := bindS hm
  refine c_join (fun b86 e' hp' => [(7, .int .i64 (x88))] = e' ∧ R = hp' ∧ b.Le b86) ?_ ?_
  ·
    have hm := hj89
    refine c_block ?_
    refine c_loopM (unc2 fun x107 x108 => fun b105 e' hp' => [(1, .int .i64 (x107)), (2, .int .i64 (x3)), (3, .pointer (some ⟨g60, 0, none⟩)), (7, .int .i64 (x108))] = e' ∧ (g60, Cl 43 [.string (s1.Name), .int .i64 (s1.Length), .int .i64 (s1.Mass), .int .i64 (s1.Start), .int .i64 (s1.Power), .int .i64 (s1.Roll), .int .i64 (s1.Drag), .int .i64 (s1.Brake), .int .i64 (s1.Top), .int .i64 (s1.Seats)]) :: R = hp' ∧ b.Le b105) hm (e' := [(1, .int .i64 (x2)), (2, .int .i64 (x3)), (3, .pointer (some ⟨g60, 0, none⟩)), (7, .int .i64 (0))]) (hp' := (g60, Cl 43 [.string (s1.Name), .int .i64 (s1.Length), .int .i64 (s1.Mass), .int .i64 (s1.Start), .int .i64 (s1.Power), .int .i64 (s1.Roll), .int .i64 (s1.Drag), .int .i64 (s1.Brake), .int .i64 (s1.Top), .int .i64 (s1.Seats)]) :: R) ⟨rfl, rfl, rfl, rfl, trivial⟩ (.cons_cons _ (.refl _)) ⟨rfl, rfl, (Base.Le.refl _)⟩ ?_
    rintro ⟨x107, x108⟩ b105 _ _ oL90 ⟨rfl, rfl, hle106⟩ hstepL90 houtL90
    unfold mRunInto_2_L90 at hstepL90
    have hm := (unc2E hstepL90)
    refine c_seq ?_
    refine c_seq ?_
    refine c_region ?_
    refine t_st rfl (st_move rfl) ?_
    refine t_st rfl (st_move rfl) ?_
    refine t_st rfl (st_gtr rfl rfl) ?_
    refine t_nil ?_
    refine x_then_normal ?_
    refine c_cond _ rfl (fun hc109 => ?_) (fun hc109 => ?_)
    ·
      rw [if_pos (of_decide_eq_true hc109)] at hm
      refine c_skip ?_
      refine x_then_normal ?_
      refine c_block ?_
      refine c_seq ?_
      refine c_region ?_
      refine t_st rfl (st_move rfl) ?_
      refine t_st rfl (st_move rfl) ?_
      refine t_st rfl (st_field rfl fld43_7) ?_
      refine t_st rfl (st_load 0 rfl one3 rfl rfl) ?_
      obtain ⟨_, h110, hm⟩ := bindS hm
      have h110 := (chk_some h110).2
      refine t_st rfl (st_sub rfl rfl h110) ?_
      obtain ⟨_, h111, hm⟩ := bindS hm
      have h111 := (chk_some h111).2
      refine t_st rfl (st_sub rfl rfl h111) ?_
      refine t_st rfl (st_max rfl rfl) ?_
      refine t_st rfl (st_assign rfl) ?_
      refine t_nil ?_
      refine x_then_normal ?_
      refine c_seq ?_
      refine c_region ?_
      refine t_st rfl (st_move rfl) ?_
      refine t_st rfl (st_move rfl) ?_
      refine t_st rfl (st_move rfl) ?_
      obtain ⟨x112, hcl113, hm⟩ := bindS hm
      refine t_do rfl (u_callW0 _ call84 rfl (fun w ho => cRunGone _ [] x107 (max x3 (x107 - (s1.Brake - 40))) x112 hcl113) (fun _ _ _ h => h.2.symm)) ?_
      rintro _ _ ⟨⟨_, rfl, _⟩, rfl⟩
      obtain ⟨_, h114, hm⟩ := bindS hm
      have h114 := (chk_some h114).2
      refine t_st rfl (st_add rfl rfl h114) ?_
      refine t_st rfl (st_assign rfl) ?_
      refine t_nil ?_
      refine x_then_normal ?_
      refine c_region ?_
      refine t_st rfl (st_move rfl) ?_
      refine t_st rfl (st_assign rfl) ?_
      refine t_nil ?_
      refine x_block_normal ?_
      exact x_againM (max x3 (x107 - (s1.Brake - 40)), x108 + x112) (Option.some.inj hm).symm (e' := [(1, .int .i64 (max x3 (x107 - (s1.Brake - 40)))), (2, .int .i64 (x3)), (3, .pointer (some ⟨g60, 0, none⟩)), (7, .int .i64 (x108 + x112))]) (hp' := (g60, Cl 43 [.string (s1.Name), .int .i64 (s1.Length), .int .i64 (s1.Mass), .int .i64 (s1.Start), .int .i64 (s1.Power), .int .i64 (s1.Roll), .int .i64 (s1.Drag), .int .i64 (s1.Brake), .int .i64 (s1.Top), .int .i64 (s1.Seats)]) :: R) ⟨rfl, rfl, rfl, rfl, trivial⟩ (.cons_cons _ (.refl _)) ⟨rfl, rfl, (hle106)⟩
    ·
      rw [if_neg (of_decide_eq_false hc109)] at hm
      refine c_exit ?_
      refine x_then_exit ?_
      refine x_then_exit ?_
      refine x_block_out ?_
      have hm := congrArg some (houtL90 _ (Option.some.inj hm).symm)
      obtain rfl := some1 hm
      exact x_join (e' := [(7, .int .i64 (x108))]) (hp' := R) ⟨rfl, trivial⟩ (.cons _ (.refl _)) ⟨rfl, rfl, hle106⟩
  ·
    rintro b86 _ _ ⟨rfl, rfl, hle87⟩
    have hm := hk89
    refine c_seq ?_
    refine c_region ?_
    refine t_st rfl (st_move rfl) ?_
    refine t_st rfl (st_assign rfl) ?_
    refine t_nil ?_
    refine x_then_normal ?_
    refine c_ret ?_
    obtain rfl := some1 hm
    exact retM (rs := [.tmp 6]) [.int .i64 (x88)] hle87 (by decide) rfl ⟨rfl, trivial⟩ rfl (hp' := R) (.refl _) ⟨rfl, rfl⟩

set_option maxRecDepth 20000 in
theorem cRunInto (b : Base) (R : Hp) (s1 : ApiStock) (x2 : Int) (x3 : Int) (x25 : Int) (x26 : Int) (hm : mRunInto s1 x2 x3 = some (x25, x26)) :
    CallsG Tryd.prog 24 [.agg #[.string (s1.Name), .int .i64 (s1.Length), .int .i64 (s1.Mass), .int .i64 (s1.Start), .int .i64 (s1.Power), .int .i64 (s1.Roll), .int .i64 (s1.Drag), .int .i64 (s1.Brake), .int .i64 (s1.Top), .int .i64 (s1.Seats)], .int .i64 (x2), .int .i64 (x3)] b (R) (fun v b' hp' => .tuple #[.int .i64 (x25), .int .i64 (x26)] = v ∧ R = hp') := by
  refine fn_enterG 26 Tryd.func24 rfl Tryd.ntmps24 rfl ?_
  unfold mRunInto at hm
  refine c_seq ?_
  refine c_region ?_
  refine t_do rfl (u_box _ rfl rfl) ?_
  rintro _ _ ⟨g27, rfl, rfl⟩
  refine t_st rfl (st_assign rfl) ?_
  refine t_st rfl (st_assign rfl) ?_
  refine t_nil ?_
  refine x_then_normal ?_
  refine c_seq ?_
  refine c_seq ?_
  refine c_region ?_
  refine t_st rfl (st_loadD (vs := [_, _, _, _, _, _, _, _, _, _]) 0 10 rfl agg43 rfl rfl rfl) ?_
  obtain ⟨x28, hcl29, hm⟩ := bindS hm
  refine t_do rfl (u_callW0 _ call22 rfl (fun w ho => cRunCheck _ [] s1 x28 hcl29) (fun _ _ _ h => h.2.symm)) ?_
  rintro _ _ ⟨⟨_, rfl, _⟩, rfl⟩
  refine t_st rfl (st_assign rfl) ?_
  refine t_nil ?_
  refine x_then_normal ?_
  refine c_seq ?_
  refine c_region ?_
  refine t_st rfl (st_move rfl) ?_
  refine t_st rfl (st_neq rfl rfl) ?_
  refine t_nil ?_
  refine x_then_normal ?_
  refine c_cond _ rfl (fun hc30 => ?_) (fun hc30 => ?_)
  ·
    rw [if_pos (of_decide_eq_true hc30)] at hm
    refine c_seq ?_
    refine c_region ?_
    refine t_st rfl (st_move rfl) ?_
    refine t_st rfl (st_assign rfl) ?_
    refine t_st rfl (st_assign rfl) ?_
    refine t_nil ?_
    refine x_then_normal ?_
    refine c_ret ?_
    refine x_then_ret ?_
    obtain ⟨rfl, rfl⟩ := some2 hm
    exact retM (rs := [.tmp 6, .tmp 7]) [.int .i64 (0), .int .i64 (x28)] (Base.Le.refl _) (by decide) rfl ⟨rfl, ⟨rfl, trivial⟩⟩ rfl (hp' := R) (.cons _ (.refl _)) ⟨rfl, rfl⟩
  ·
    rw [if_neg (of_decide_eq_false hc30)] at hm
    refine c_skip ?_
    refine x_then_normal ?_
    refine c_seq ?_
    obtain ⟨x38, hj39, hk39⟩ := bindS hm
    refine c_join (fun b36 e' hp' => [(1, .int .i64 (x2)), (2, .int .i64 (x3)), (3, .pointer (some ⟨g27, 0, none⟩)), (21, .bool (x38))] = e' ∧ (g27, Cl 43 [.string (s1.Name), .int .i64 (s1.Length), .int .i64 (s1.Mass), .int .i64 (s1.Start), .int .i64 (s1.Power), .int .i64 (s1.Roll), .int .i64 (s1.Drag), .int .i64 (s1.Brake), .int .i64 (s1.Top), .int .i64 (s1.Seats)]) :: R = hp' ∧ b.Le b36) ?_ ?_
    ·
      have hm := hj39
      refine c_region ?_
      refine t_st rfl (st_move rfl) ?_
      obtain ⟨x40, hcl41, hm⟩ := bindS hm
      refine t_do rfl (u_callW0 _ call59 rfl (fun w ho => cRunWithin _ [] x2 0 6000 x40 hcl41) (fun _ _ _ h => h.2.symm)) ?_
      rintro _ _ ⟨⟨_, rfl, _⟩, rfl⟩
      rcases Bool.eq_false_or_eq_true x40 with hc42 | hc42
      ·
        rw [if_pos hc42] at hm
        refine t_resp 15 rfl (v' := .bool true) (by rw [hc42]) ?_
        refine t_st rfl (st_not_t rfl) ?_
        refine t_st rfl (st_move rfl) ?_
        refine t_yes 17 rfl rfl rfl ?_
        refine t_st rfl (st_move rfl) ?_
        refine t_yes 17 rfl rfl rfl ?_
        obtain ⟨x43, hcl44, hm⟩ := bindS hm
        refine t_do rfl (u_callW0 _ call59 rfl (fun w ho => cRunWithin _ [] x3 0 6000 x43 hcl44) (fun _ _ _ h => h.2.symm)) ?_
        rintro _ _ ⟨⟨_, rfl, _⟩, rfl⟩
        refine t_yes 17 rfl rfl rfl ?_
        refine t_st rfl (st_not rfl) ?_
        refine t_st rfl (st_pick_f rfl rfl) ?_
        refine t_nil ?_
        obtain rfl := some1 hm
        exact x_join (e' := [(1, .int .i64 (x2)), (2, .int .i64 (x3)), (3, .pointer (some ⟨g27, 0, none⟩)), (21, .bool (!x43))]) (hp' := (g27, Cl 43 [.string (s1.Name), .int .i64 (s1.Length), .int .i64 (s1.Mass), .int .i64 (s1.Start), .int .i64 (s1.Power), .int .i64 (s1.Roll), .int .i64 (s1.Drag), .int .i64 (s1.Brake), .int .i64 (s1.Top), .int .i64 (s1.Seats)]) :: R) ⟨rfl, rfl, rfl, rfl, trivial⟩ (.cons_cons _ (.refl _)) ⟨rfl, rfl, (Base.Le.refl _)⟩
      ·
        rw [if_neg (fun hh => Bool.noConfusion (hh.symm.trans hc42))] at hm
        refine t_resp 15 rfl (v' := .bool false) (by rw [hc42]) ?_
        refine t_st rfl (st_not_f rfl) ?_
        refine t_st rfl (st_move rfl) ?_
        refine t_no 17 rfl rfl rfl rfl rfl ?_
        refine t_no 17 rfl rfl rfl rfl rfl ?_
        refine t_no 17 rfl rfl rfl rfl rfl ?_
        refine t_st rfl (st_pick_t rfl rfl) ?_
        refine t_nil ?_
        obtain rfl := some1 hm
        exact x_join (e' := [(1, .int .i64 (x2)), (2, .int .i64 (x3)), (3, .pointer (some ⟨g27, 0, none⟩)), (21, .bool (true))]) (hp' := (g27, Cl 43 [.string (s1.Name), .int .i64 (s1.Length), .int .i64 (s1.Mass), .int .i64 (s1.Start), .int .i64 (s1.Power), .int .i64 (s1.Roll), .int .i64 (s1.Drag), .int .i64 (s1.Brake), .int .i64 (s1.Top), .int .i64 (s1.Seats)]) :: R) ⟨rfl, rfl, rfl, rfl, trivial⟩ (.cons_cons _ (.refl _)) ⟨rfl, rfl, (Base.Le.refl _)⟩
    ·
      rintro b36 _ _ ⟨rfl, rfl, hle37⟩
      have hm := hk39
      refine c_cond _ rfl (fun hc45 => ?_) (fun hc45 => ?_)
      ·
        rw [if_pos hc45] at hm
        refine c_seq ?_
        refine c_region ?_
        refine t_st rfl (st_assign rfl) ?_
        refine t_st rfl (st_assign rfl) ?_
        refine t_nil ?_
        refine x_then_normal ?_
        refine c_ret ?_
        refine x_then_ret ?_
        obtain ⟨rfl, rfl⟩ := some2 hm
        exact retM (rs := [.tmp 6, .tmp 7]) [.int .i64 (0), .int .i64 (2)] hle37 (by decide) rfl ⟨rfl, ⟨rfl, trivial⟩⟩ rfl (hp' := R) (.cons _ (.refl _)) ⟨rfl, rfl⟩
      ·
        rw [if_neg (fun hh => Bool.noConfusion (hh.symm.trans hc45))] at hm
        refine c_skip ?_
        refine x_then_normal ?_
        refine c_seq ?_
        refine c_region ?_
        refine t_st rfl (st_loadD (vs := [_, _, _, _, _, _, _, _, _, _]) 0 10 rfl agg43 rfl rfl rfl) ?_
        refine t_st rfl (st_move rfl) ?_
        refine t_st rfl (st_move rfl) ?_
        obtain ⟨x46, hcl47, hm⟩ := bindS hm
        refine t_do rfl (u_callW0 _ call60 rfl (fun w ho => cRunInto_2 _ [] s1 x2 x3 x46 hcl47) (fun _ _ _ h => h.2.symm)) ?_
        rintro _ _ ⟨⟨_, rfl, _⟩, rfl⟩
        refine t_st rfl (st_assign rfl) ?_
        refine t_st rfl (st_assign rfl) ?_
        refine t_nil ?_
        refine x_then_normal ?_
        refine c_ret ?_
        obtain ⟨rfl, rfl⟩ := some2 hm
        exact retM (rs := [.tmp 6, .tmp 7]) [.int .i64 (x46), .int .i64 (0)] hle37 (by decide) rfl ⟨rfl, ⟨rfl, trivial⟩⟩ rfl (hp' := R) (.cons _ (.refl _)) ⟨rfl, rfl⟩

set_option maxRecDepth 20000 in
theorem cRunStop (b : Base) (R : Hp) (s1 : ApiStock) (x2 : Int) (x7 : Int) (x8 : Int) (hm : mRunStop s1 x2 = some (x7, x8)) :
    CallsG Tryd.prog 23 [.agg #[.string (s1.Name), .int .i64 (s1.Length), .int .i64 (s1.Mass), .int .i64 (s1.Start), .int .i64 (s1.Power), .int .i64 (s1.Roll), .int .i64 (s1.Drag), .int .i64 (s1.Brake), .int .i64 (s1.Top), .int .i64 (s1.Seats)], .int .i64 (x2)] b (R) (fun v b' hp' => .tuple #[.int .i64 (x7), .int .i64 (x8)] = v ∧ R = hp') := by
  refine fn_enterG 11 Tryd.func23 rfl Tryd.ntmps23 rfl ?_
  unfold mRunStop at hm
  refine c_seq ?_
  refine c_region ?_
  refine t_do rfl (u_box _ rfl rfl) ?_
  rintro _ _ ⟨g9, rfl, rfl⟩
  refine t_st rfl (st_assign rfl) ?_
  refine t_st rfl (st_assign rfl) ?_
  refine t_nil ?_
  refine x_then_normal ?_
  refine c_seq ?_
  refine c_region ?_
  refine t_st rfl (st_loadD (vs := [_, _, _, _, _, _, _, _, _, _]) 0 10 rfl agg43 rfl rfl rfl) ?_
  refine t_st rfl (st_move rfl) ?_
  obtain ⟨⟨x10, x11⟩, hcl12, hm⟩ := bindS hm
  have hm := (unc2E hm)
  refine t_do rfl (u_callW0 _ call24 rfl (fun w ho => cRunInto _ [] s1 x2 0 x10 x11 hcl12) (fun _ _ _ h => h.2.symm)) ?_
  rintro _ _ ⟨⟨_, rfl, _⟩, rfl⟩
  refine t_st rfl (st_extract rfl rfl) ?_
  refine t_st rfl (st_extract rfl rfl) ?_
  refine t_st rfl (st_assign rfl) ?_
  refine t_st rfl (st_assign rfl) ?_
  refine t_nil ?_
  refine x_then_normal ?_
  refine c_ret ?_
  obtain ⟨rfl, rfl⟩ := some2 hm
  exact retM (rs := [.tmp 4, .tmp 5]) [.int .i64 (x10), .int .i64 (x11)] (Base.Le.refl _) (by decide) rfl ⟨rfl, ⟨rfl, trivial⟩⟩ rfl (hp' := R) (.cons _ (.refl _)) ⟨rfl, rfl⟩

end Go.Proofs.YtljcafilceachaaDoor
