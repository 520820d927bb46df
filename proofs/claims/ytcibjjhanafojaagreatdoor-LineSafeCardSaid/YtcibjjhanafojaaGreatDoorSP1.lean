/- Contracts: the code computes its model (part 1). -/
import Derived.Test.YtcibjjhanafojaaGreatDoorST
import Derived.Test.YtcibjjhanafojaaGreatDoorSWK
set_option linter.unusedVariables false
set_option linter.unusedSimpArgs false
namespace Go.Proofs.YtcibjjhanafojaaGreatDoor
open Go.RowKit Go.Fp

set_option maxRecDepth 20000 in
theorem cStringsliteHasSuffix (b : Base) (R : Hp) (x1 : ByteArray) (x2 : ByteArray) (x15 : Bool) (hm : mStringsliteHasSuffix x1 x2 = some x15) :
    CallsG Tryz.prog 78 [.string (x1), .string (x2)] b (R) (fun v b' hp' => .bool (x15) = v ∧ R = hp') := by
  refine fn_enterG 21 Tryz.func78 rfl Tryz.ntmps78 rfl ?_
  unfold mStringsliteHasSuffix at hm
  refine c_sr ?_
  refine t_as rfl rfl ?_
  refine t_ne ?_
  obtain ⟨x22, hj23, hk23⟩ := bindS hm
  refine c_join (fun b20 e' hp' => [(4, .bool (x22))] = e' ∧ R = hp' ∧ b.Le b20) ?_ ?_
  ·
   have hm := hj23
   refine c_region ?_
   refine t_mv rfl rfl ?_
   refine t_st rfl (st_slen rfl str9) ?_
   refine t_mv rfl rfl ?_
   refine t_st rfl (st_slen rfl str9) ?_
   refine t_bool rfl (st_geq rfl rfl) (fun hc24 => ?_) (fun hc24 => ?_)
   ·
    rw [if_pos hc24] at hm
    refine t_mv rfl rfl ?_
    refine t_yes 10 rfl rfl rfl ?_
    refine t_mv rfl rfl ?_
    refine t_yes 10 rfl rfl rfl ?_
    refine t_mv rfl rfl ?_
    refine t_yes 10 rfl rfl rfl ?_
    refine t_st rfl (st_slen rfl str9) ?_
    refine t_yes 10 rfl rfl rfl ?_
    refine t_mv rfl rfl ?_
    refine t_yes 10 rfl rfl rfl ?_
    refine t_st rfl (st_slen rfl str9) ?_
    refine t_yes 10 rfl rfl rfl ?_
    obtain ⟨_, h25, hm⟩ := bindS hm
    have h25 := (chk_some h25).2
    refine t_st rfl (st_sub rfl rfl h25) ?_
    refine t_yes 10 rfl rfl rfl ?_
    obtain ⟨q26, h27, hm⟩ := bindS hm
    refine t_st rfl (st_scut rfl (.inr ⟨_, _, rfl, rfl⟩) (.inl ⟨rfl, rfl⟩) h27 str9) ?_
    refine t_yes 10 rfl rfl rfl ?_
    refine t_mv rfl rfl ?_
    refine t_yes 10 rfl rfl rfl ?_
    refine t_st rfl (st_seql rfl rfl) ?_
    refine t_st rfl (st_pick_t rfl rfl) ?_
    refine t_as rfl rfl ?_
    refine t_nil ?_
    obtain rfl := some1 hm
    exact x_join (e' := [(4, .bool (sEq q26 x2))]) ⟨rfl, trivial⟩ (.refl _) ⟨rfl, rfl, (Base.Le.refl _)⟩
   ·
    rw [if_neg hc24] at hm
    refine t_mv rfl rfl ?_
    refine t_no 10 rfl rfl rfl rfl rfl ?_
    refine t_no 10 rfl rfl rfl rfl rfl ?_
    refine t_no 10 rfl rfl rfl rfl rfl ?_
    refine t_no 10 rfl rfl rfl rfl rfl ?_
    refine t_no 10 rfl rfl rfl rfl rfl ?_
    refine t_no 10 rfl rfl rfl rfl rfl ?_
    refine t_no 10 rfl rfl rfl rfl rfl ?_
    refine t_no 10 rfl rfl rfl rfl rfl ?_
    refine t_no 10 rfl rfl rfl rfl rfl ?_
    refine t_st rfl (st_pick_f rfl rfl) ?_
    refine t_as rfl rfl ?_
    refine t_nil ?_
    obtain rfl := some1 hm
    exact x_join (e' := [(4, .bool (false))]) ⟨rfl, trivial⟩ (.refl _) ⟨rfl, rfl, (Base.Le.refl _)⟩
  ·
   rintro b20 _ _ ⟨rfl, rfl, hle21⟩
   have hm := hk23
   refine c_ret ?_
   obtain rfl := some1 hm
   exact retM (rs := [.tmp 4]) [.bool (x22)] hle21 (by decide) rfl ⟨rfl, trivial⟩ rfl (.refl _) ⟨rfl, rfl⟩

set_option maxRecDepth 20000 in
theorem cStringsliteCutSuffix (b : Base) (R : Hp) (x1 : ByteArray) (x2 : ByteArray) (x9 : ByteArray) (x10 : Bool) (hm : mStringsliteCutSuffix x1 x2 = some (x9, x10)) :
    CallsG Tryz.prog 71 [.string (x1), .string (x2)] b (R) (fun v b' hp' => .tuple #[.string (x9), .bool (x10)] = v ∧ R = hp') := by
  refine fn_enterG 18 Tryz.func71 rfl Tryz.ntmps71 rfl ?_
  unfold mStringsliteCutSuffix at hm
  refine c_sr ?_
  refine t_as rfl rfl ?_
  refine t_as rfl rfl ?_
  refine t_ne ?_
  refine c_seq ?_
  refine c_sr ?_
  refine t_mv rfl rfl ?_
  refine t_mv rfl rfl ?_
  obtain ⟨x11, hcl12, hm⟩ := bindS hm
  refine t_do rfl (u_callW0 _ call78 rfl (fun w ho => cStringsliteHasSuffix _ [] x1 x2 x11 hcl12) (fun _ _ _ h => h.2.symm)) ?_
  rintro _ _ ⟨⟨_, rfl, _⟩, rfl⟩
  refine t_st rfl (st_not rfl) ?_
  refine t_ne ?_
  refine c_cond _ rfl (fun hc13 => ?_) (fun hc13 => ?_)
  ·
   rw [if_neg (fun hh => Bool.noConfusion (hh.symm.trans (notT hc13)))] at hm
   refine c_sr ?_
   refine t_mv rfl rfl ?_
   refine t_as rfl rfl ?_
   refine t_as rfl rfl ?_
   refine t_ne ?_
   refine c_ret ?_
   refine x_then_ret ?_
   obtain ⟨rfl, rfl⟩ := some2 hm
   exact retM (rs := [.tmp 4, .tmp 5]) [.string (x1), .bool (false)] (Base.Le.refl _) (by decide) rfl ⟨rfl, ⟨rfl, trivial⟩⟩ rfl (.refl _) ⟨rfl, rfl⟩
  ·
   rw [if_pos (notF hc13)] at hm
   refine c_skip ?_
   refine x_then_normal ?_
   refine c_sr ?_
   refine t_mv rfl rfl ?_
   refine t_mv rfl rfl ?_
   refine t_st rfl (st_slen rfl str9) ?_
   refine t_mv rfl rfl ?_
   refine t_st rfl (st_slen rfl str9) ?_
   obtain ⟨_, h14, hm⟩ := bindS hm
   have h14 := (chk_some h14).2
   refine t_st rfl (st_sub rfl rfl h14) ?_
   obtain ⟨q15, h16, hm⟩ := bindS hm
   refine t_st rfl (st_scut rfl (.inl ⟨rfl, rfl⟩) (.inr ⟨_, _, rfl, rfl⟩) h16 str9) ?_
   refine t_as rfl rfl ?_
   refine t_as rfl rfl ?_
   refine t_ne ?_
   refine c_ret ?_
   obtain ⟨rfl, rfl⟩ := some2 hm
   exact retM (rs := [.tmp 4, .tmp 5]) [.string (q15), .bool (true)] (Base.Le.refl _) (by decide) rfl ⟨rfl, ⟨rfl, trivial⟩⟩ rfl (.refl _) ⟨rfl, rfl⟩

set_option maxRecDepth 20000 in
theorem cStringsCutSuffix (b : Base) (R : Hp) (x1 : ByteArray) (x2 : ByteArray) (x6 : ByteArray) (x7 : Bool) (hm : mStringsCutSuffix x1 x2 = some (x6, x7)) :
    CallsG Tryz.prog 49 [.string (x1), .string (x2)] b (R) (fun v b' hp' => .tuple #[.string (x6), .bool (x7)] = v ∧ R = hp') := by
  refine fn_enterG 11 Tryz.func49 rfl Tryz.ntmps49 rfl ?_
  unfold mStringsCutSuffix at hm
  refine c_sr ?_
  refine t_as rfl rfl ?_
  refine t_as rfl rfl ?_
  refine t_ne ?_
  refine c_sr ?_
  refine t_mv rfl rfl ?_
  refine t_mv rfl rfl ?_
  obtain ⟨⟨x8, x9⟩, hcl10, hm⟩ := bindS hm
  have hm := (unc2E hm)
  refine t_do rfl (u_callW0 _ call71 rfl (fun w ho => cStringsliteCutSuffix _ [] x1 x2 x8 x9 hcl10) (fun _ _ _ h => h.2.symm)) ?_
  rintro _ _ ⟨⟨_, rfl, _⟩, rfl⟩
  refine t_st rfl (st_extract rfl rfl) ?_
  refine t_st rfl (st_extract rfl rfl) ?_
  refine t_as rfl rfl ?_
  refine t_as rfl rfl ?_
  refine t_ne ?_
  refine c_ret ?_
  obtain ⟨rfl, rfl⟩ := some2 hm
  exact retM (rs := [.tmp 4, .tmp 5]) [.string (x8), .bool (x9)] (Base.Le.refl _) (by decide) rfl ⟨rfl, ⟨rfl, trivial⟩⟩ rfl (.refl _) ⟨rfl, rfl⟩

set_option maxRecDepth 20000 in
theorem cStringsliteIndexByte (b : Base) (R : Hp) (x1 : ByteArray) (x2 : Int) (x3 : Int) (hm : mStringsliteIndexByte x1 x2 = some x3) :
    CallsG Tryz.prog 94 [.string (x1), .int .u8 (x2)] b (R) (fun v b' hp' => .int .i64 (x3) = v ∧ R = hp') := by
  refine fn_enterG 8 Tryz.func94 rfl Tryz.ntmps94 rfl ?_
  unfold mStringsliteIndexByte at hm
  refine c_sr ?_
  refine t_as rfl rfl ?_
  refine t_ne ?_
  refine c_sr ?_
  refine t_mv rfl rfl ?_
  refine t_mv rfl rfl ?_
  refine t_st rfl (st_extern ext105_1 ext105_2 ext105_3 ext105_4 ext105_5 rfl (run_sFirst _ _)) ?_
  refine t_as rfl rfl ?_
  refine t_ne ?_
  refine c_ret ?_
  obtain rfl := some1 hm
  exact retM (rs := [.tmp 4]) [.int .i64 ((sFirst x1 x2))] (Base.Le.refl _) (by decide) rfl ⟨rfl, trivial⟩ rfl (.refl _) ⟨rfl, rfl⟩

set_option maxRecDepth 20000 in
theorem cStringsliteIndex (b : Base) (R : Hp) (x1 : ByteArray) (x2 : ByteArray) (x16 : Int) (hm : mStringsliteIndex x1 x2 = some x16) :
    CallsG Tryz.prog 88 [.string (x1), .string (x2)] b (R) (fun v b' hp' => .int .i64 (x16) = v ∧ R = hp') := by
  refine fn_enterG 143 Tryz.func88 rfl Tryz.ntmps88 rfl ?_
  unfold mStringsliteIndex at hm
  refine c_sr ?_
  refine t_as rfl rfl ?_
  refine t_ne ?_
  refine c_sr ?_
  refine t_mv rfl rfl ?_
  refine t_st rfl (st_slen rfl str9) ?_
  refine t_as rfl rfl ?_
  refine t_ne ?_
  refine c_seq ?_
  refine c_block ?_
  obtain ⟨x20, hj21, hk21⟩ := bindS hm
  refine c_join (fun b18 e' hp' => [(0, .string (x1)), (1, .string (x2)), (5, .int .i64 ((x2.size : Int))), (16, .bool (x20))] = e' ∧ R = hp' ∧ b.Le b18) ?_ ?_
  ·
   have hm := hj21
   refine c_region ?_
   refine t_mv rfl rfl ?_
   refine t_bool rfl (st_eql rfl rfl) (fun hc22 => ?_) (fun hc22 => ?_)
   ·
    rw [if_pos hc22] at hm
    refine t_mv rfl rfl ?_
    refine t_no 19 rfl rfl rfl rfl rfl ?_
    refine t_no 19 rfl rfl rfl rfl rfl ?_
    refine t_no 19 rfl rfl rfl rfl rfl ?_
    refine t_st rfl (st_pick_t rfl rfl) ?_
    refine t_as rfl rfl ?_
    refine t_nil ?_
    obtain rfl := some1 hm
    exact x_join (e' := [(0, .string (x1)), (1, .string (x2)), (5, .int .i64 ((x2.size : Int))), (16, .bool (true))]) ⟨rfl, rfl, rfl, rfl, trivial⟩ (.refl _) ⟨rfl, rfl, (Base.Le.refl _)⟩
   ·
    rw [if_neg hc22] at hm
    refine t_mv rfl rfl ?_
    refine t_yes 19 rfl rfl rfl ?_
    refine t_mv rfl rfl ?_
    refine t_yes 19 rfl rfl rfl ?_
    refine t_mv rfl rfl ?_
    refine t_yes 19 rfl rfl rfl ?_
    refine t_st rfl (st_seql rfl rfl) ?_
    refine t_st rfl (st_pick_f rfl rfl) ?_
    refine t_as rfl rfl ?_
    refine t_nil ?_
    obtain rfl := some1 hm
    exact x_join (e' := [(0, .string (x1)), (1, .string (x2)), (5, .int .i64 ((x2.size : Int))), (16, .bool (sEq x2 x1))]) ⟨rfl, rfl, rfl, rfl, trivial⟩ (.refl _) ⟨rfl, rfl, (Base.Le.refl _)⟩
  ·
   rintro b18 _ _ ⟨rfl, rfl, hle19⟩
   have hm := hk21
   refine c_cond _ rfl (fun hc23 => ?_) (fun hc23 => ?_)
   ·
    rw [if_pos hc23] at hm
    refine c_sr ?_
    refine t_as rfl rfl ?_
    refine t_ne ?_
    refine c_ret ?_
    refine x_block_ret ?_
    refine x_then_ret ?_
    obtain rfl := some1 hm
    exact retM (rs := [.tmp 4]) [.int .i64 (0)] hle19 (by decide) rfl ⟨rfl, trivial⟩ rfl (.refl _) ⟨rfl, rfl⟩
   ·
    rw [if_neg (fun hh => Bool.noConfusion (hh.symm.trans hc23))] at hm
    refine c_sr ?_
    refine t_mv rfl rfl ?_
    refine t_st rfl (st_eql rfl rfl) ?_
    refine t_as rfl rfl ?_
    refine t_ne ?_
    refine c_cond _ rfl (fun hc24 => ?_) (fun hc24 => ?_)
    ·
     rw [if_pos (of_decide_eq_true hc24)] at hm
     refine c_sr ?_
     refine t_mv rfl rfl ?_
     refine t_mv rfl rfl ?_
     obtain ⟨x25, h26, hm⟩ := bindS hm
     refine t_st rfl (st_sidx rfl rfl h26 str9) ?_
     obtain ⟨x27, hcl28, hm⟩ := bindS hm
     refine t_do rfl (u_callW0 _ call94 rfl (fun w ho => cStringsliteIndexByte _ [] x1 x25 x27 hcl28) (fun _ _ _ h => h.2.symm)) ?_
     rintro _ _ ⟨⟨_, rfl, _⟩, rfl⟩
     refine t_as rfl rfl ?_
     refine t_ne ?_
     refine c_ret ?_
     refine x_block_ret ?_
     refine x_then_ret ?_
     obtain rfl := some1 hm
     exact retM (rs := [.tmp 4]) [.int .i64 (x27)] hle19 (by decide) rfl ⟨rfl, trivial⟩ rfl (.refl _) ⟨rfl, rfl⟩
    ·
     rw [if_neg (of_decide_eq_false hc24)] at hm
     refine c_sr ?_
     refine t_mv rfl rfl ?_
     refine t_mv rfl rfl ?_
     refine t_st rfl (st_slen rfl str9) ?_
     refine t_st rfl (st_geq rfl rfl) ?_
     refine t_as rfl rfl ?_
     refine t_ne ?_
     refine c_cond _ rfl (fun hc29 => ?_) (fun hc29 => ?_)
     ·
      rw [if_pos (of_decide_eq_true hc29)] at hm
      refine c_sr ?_
      refine t_as rfl rfl ?_
      refine t_ne ?_
      refine c_ret ?_
      refine x_block_ret ?_
      refine x_then_ret ?_
      obtain rfl := some1 hm
      exact retM (rs := [.tmp 4]) [.int .i64 ((-1))] hle19 (by decide) rfl ⟨rfl, trivial⟩ rfl (.refl _) ⟨rfl, rfl⟩
     ·
      rw [if_neg (of_decide_eq_false hc29)] at hm
      refine c_sr ?_
      refine t_mv rfl rfl ?_
      cases hm

set_option maxRecDepth 20000 in
theorem cStringsIndex (b : Base) (R : Hp) (x1 : ByteArray) (x2 : ByteArray) (x5 : Int) (hm : mStringsIndex x1 x2 = some x5) :
    CallsG Tryz.prog 81 [.string (x1), .string (x2)] b (R) (fun v b' hp' => .int .i64 (x5) = v ∧ R = hp') := by
  refine fn_enterG 8 Tryz.func81 rfl Tryz.ntmps81 rfl ?_
  unfold mStringsIndex at hm
  refine c_sr ?_
  refine t_as rfl rfl ?_
  refine t_ne ?_
  refine c_sr ?_
  refine t_mv rfl rfl ?_
  refine t_mv rfl rfl ?_
  obtain ⟨x6, hcl7, hm⟩ := bindS hm
  refine t_do rfl (u_callW0 _ call88 rfl (fun w ho => cStringsliteIndex _ [] x1 x2 x6 hcl7) (fun _ _ _ h => h.2.symm)) ?_
  rintro _ _ ⟨⟨_, rfl, _⟩, rfl⟩
  refine t_as rfl rfl ?_
  refine t_ne ?_
  refine c_ret ?_
  obtain rfl := some1 hm
  exact retM (rs := [.tmp 4]) [.int .i64 (x6)] (Base.Le.refl _) (by decide) rfl ⟨rfl, trivial⟩ rfl (.refl _) ⟨rfl, rfl⟩

set_option maxRecDepth 20000 in
theorem cStringsCount (b : Base) (R : Hp) (x1 : ByteArray) (x2 : ByteArray) (x35 : Int) (hm : mStringsCount x1 x2 = some x35) :
    CallsG Tryz.prog 80 [.string (x1), .string (x2)] b (R) (fun v b' hp' => .int .i64 (x35) = v ∧ R = hp') := by
  refine fn_enterG 34 Tryz.func80 rfl Tryz.ntmps80 rfl ?_
  unfold mStringsCount at hm
  refine c_sr ?_
  refine t_as rfl rfl ?_
  refine t_ne ?_
  refine c_seq ?_
  refine c_sr ?_
  refine t_mv rfl rfl ?_
  refine t_st rfl (st_slen rfl str9) ?_
  refine t_st rfl (st_eql rfl rfl) ?_
  refine t_ne ?_
  refine c_cond _ rfl (fun hc36 => ?_) (fun hc36 => ?_)
  ·
   rw [if_pos (of_decide_eq_true hc36)] at hm
   refine c_sr ?_
   refine t_mv rfl rfl ?_
   cases hm
  ·
   rw [if_neg (of_decide_eq_false hc36)] at hm
   refine c_skip ?_
   refine x_then_normal ?_
   refine c_seq ?_
   refine c_sr ?_
   refine t_mv rfl rfl ?_
   refine t_st rfl (st_slen rfl str9) ?_
   refine t_st rfl (st_eql rfl rfl) ?_
   refine t_ne ?_
   refine c_cond _ rfl (fun hc37 => ?_) (fun hc37 => ?_)
   ·
    rw [if_pos (of_decide_eq_true hc37)] at hm
    refine c_sr ?_
    refine t_mv rfl rfl ?_
    refine t_mv rfl rfl ?_
    obtain ⟨x38, h39, hm⟩ := bindS hm
    refine t_st rfl (st_sidx rfl rfl h39 str9) ?_
    refine t_st rfl (st_extern ext87_1 ext87_2 ext87_3 ext87_4 ext87_5 rfl (run_sCount _ _)) ?_
    refine t_as rfl rfl ?_
    refine t_ne ?_
    refine c_ret ?_
    refine x_then_ret ?_
    obtain rfl := some1 hm
    exact retM (rs := [.tmp 4]) [.int .i64 ((sCount x1 x38))] (Base.Le.refl _) (by decide) rfl ⟨rfl, trivial⟩ rfl (.refl _) ⟨rfl, rfl⟩
   ·
    rw [if_neg (of_decide_eq_false hc37)] at hm
    refine c_skip ?_
    refine x_then_normal ?_
    refine c_sr ?_
    refine t_as rfl rfl ?_
    refine t_ne ?_
    refine c_block ?_
    refine c_loopM (unc2 fun x59 x60 => fun b57 e' hp' => [(0, .string (x59)), (1, .string (x2)), (5, .int .i64 (x60))] = e' ∧ R = hp' ∧ b.Le b57) hm (e' := [(0, .string (x1)), (1, .string (x2)), (5, .int .i64 (0))]) ⟨rfl, rfl, rfl, trivial⟩ (.refl _) ⟨rfl, rfl, (Base.Le.refl _)⟩ ?_
    rintro ⟨x59, x60⟩ b57 _ _ oL40 ⟨rfl, rfl, hle58⟩ hstepL40 houtL40
    unfold mStringsCount_L40 at hstepL40
    have hm := (unc2E hstepL40)
    refine c_block ?_
    refine c_sr ?_
    refine t_mv rfl rfl ?_
    refine t_mv rfl rfl ?_
    obtain ⟨x61, hcl62, hm⟩ := bindS hm
    refine t_do rfl (u_callW0 _ call81 rfl (fun w ho => cStringsIndex _ [] x59 x2 x61 hcl62) (fun _ _ _ h => h.2.symm)) ?_
    rintro _ _ ⟨⟨_, rfl, _⟩, rfl⟩
    refine t_as rfl rfl ?_
    refine t_ne ?_
    refine c_seq ?_
    refine c_sr ?_
    refine t_mv rfl rfl ?_
    refine t_st rfl (st_eql rfl rfl) ?_
    refine t_ne ?_
    refine c_cond _ rfl (fun hc63 => ?_) (fun hc63 => ?_)
    ·
     rw [if_pos (of_decide_eq_true hc63)] at hm
     refine c_sr ?_
     refine t_mv rfl rfl ?_
     refine t_as rfl rfl ?_
     refine t_ne ?_
     refine c_ret ?_
     refine x_then_ret ?_
     refine x_block_ret ?_
     refine x_then_ret ?_
     refine x_block_ret ?_
     have hm := congrArg some (houtL40 _ (Option.some.inj hm).symm)
     obtain rfl := some1 hm
     exact retM (rs := [.tmp 4]) [.int .i64 (x60)] hle58 (by decide) rfl ⟨rfl, trivial⟩ rfl (.refl _) ⟨rfl, rfl⟩
    ·
     rw [if_neg (of_decide_eq_false hc63)] at hm
     refine c_skip ?_
     refine x_then_normal ?_
     refine c_sr ?_
     refine t_mv rfl rfl ?_
     obtain ⟨_, h64, hm⟩ := bindS hm
     have h64 := (chk_some h64).2
     refine t_st rfl (st_add rfl rfl h64) ?_
     refine t_as rfl rfl ?_
     refine t_ne ?_
     refine c_region ?_
     refine t_mv rfl rfl ?_
     refine t_mv rfl rfl ?_
     refine t_mv rfl rfl ?_
     refine t_st rfl (st_slen rfl str9) ?_
     obtain ⟨_, h65, hm⟩ := bindS hm
     have h65 := (chk_some h65).2
     refine t_st rfl (st_add rfl rfl h65) ?_
     obtain ⟨q66, h67, hm⟩ := bindS hm
     refine t_st rfl (st_scut rfl (.inr ⟨_, _, rfl, rfl⟩) (.inl ⟨rfl, rfl⟩) h67 str9) ?_
     refine t_as rfl rfl ?_
     refine t_nil ?_
     refine x_block_normal ?_
     exact x_againM (q66, x60 + 1) (Option.some.inj hm).symm (e' := [(0, .string (q66)), (1, .string (x2)), (5, .int .i64 (x60 + 1))]) ⟨rfl, rfl, rfl, trivial⟩ (.refl _) ⟨rfl, rfl, (hle58)⟩

set_option maxRecDepth 20000 in
theorem cStringsGenSplit (b : Base) (R : Hp) (x1 : ByteArray) (x2 : ByteArray) (x3 : Int) (x4 : Int) (l282 : (List ByteArray)) (hm : mStringsGenSplit x1 x2 x3 x4 = some l282) :
    CallsG Tryz.prog 72 [.string (x1), .string (x2), .int .i64 (x3), .int .i64 (x4)] b (R) (fun v b' hp' => ∃ (A279 : Option Addr), ∃ (c280 : Nat), ∃ (hs278 : Hp), .slice A279 (l282).length c280 = v ∧ (hs278 ++ R) = hp' ∧ OS 9 (OT.fr RT.str) b'.w (.slice A279 l282.length c280) l282 hs278) := by
  refine fn_enterG 66 Tryz.func72 rfl Tryz.ntmps72 rfl ?_
  unfold mStringsGenSplit at hm
  refine c_sr ?_
  refine t_as rfl rfl ?_
  refine t_ne ?_
  refine c_seq ?_
  refine c_sr ?_
  refine t_mv rfl rfl ?_
  refine t_st rfl (st_eql rfl rfl) ?_
  refine t_ne ?_
  refine c_cond _ rfl (fun hc283 => ?_) (fun hc283 => ?_)
  ·
   rw [if_pos (of_decide_eq_true hc283)] at hm
   refine c_sr ?_
   refine t_as rfl rfl ?_
   refine t_ne ?_
   refine c_ret ?_
   refine x_then_ret ?_
   obtain rfl := some1 hm
   exact retM (rs := [.tmp 8]) [.slice none 0 0] (Base.Le.refl _) (by decide) rfl ⟨rfl, trivial⟩ rfl (.refl _) ⟨none, 0, [], rfl, rfl, OS.nil⟩
  ·
   rw [if_neg (of_decide_eq_false hc283)] at hm
   refine c_skip ?_
   refine x_then_normal ?_
   refine c_seq ?_
   refine c_sr ?_
   refine t_mv rfl rfl ?_
   refine t_st rfl (st_seql rfl rfl) ?_
   refine t_ne ?_
   refine c_cond _ rfl (fun hc284 => ?_) (fun hc284 => ?_)
   ·
    rw [if_pos hc284] at hm
    refine c_sr ?_
    refine t_mv rfl rfl ?_
    refine t_mv rfl rfl ?_
    cases hm
   ·
    rw [if_neg (fun hh => Bool.noConfusion (hh.symm.trans hc284))] at hm
    refine c_skip ?_
    refine x_then_normal ?_
    obtain ⟨x291, hj292, hk292⟩ := bindS hm
    refine c_join (fun b289 e' hp' => [(0, .string (x1)), (1, .string (x2)), (2, .int .i64 (x3)), (3, .int .i64 (x291))] = e' ∧ R = hp' ∧ b.Le b289) ?_ ?_
    ·
     have hm := hj292
     refine c_sr ?_
     refine t_mv rfl rfl ?_
     refine t_st rfl (st_lss rfl rfl) ?_
     refine t_ne ?_
     refine c_cond _ rfl (fun hc293 => ?_) (fun hc293 => ?_)
     ·
      rw [if_pos (of_decide_eq_true hc293)] at hm
      refine c_region ?_
      refine t_mv rfl rfl ?_
      refine t_mv rfl rfl ?_
      obtain ⟨x294, hcl295, hm⟩ := bindS hm
      refine t_do rfl (u_callW0 _ call80 rfl (fun w ho => cStringsCount _ [] x1 x2 x294 hcl295) (fun _ _ _ h => h.2.symm)) ?_
      rintro _ _ ⟨⟨_, rfl, _⟩, rfl⟩
      obtain ⟨_, h296, hm⟩ := bindS hm
      have h296 := (chk_some h296).2
      refine t_st rfl (st_add rfl rfl h296) ?_
      refine t_as rfl rfl ?_
      refine t_nil ?_
      obtain rfl := some1 hm
      exact x_join (e' := [(0, .string (x1)), (1, .string (x2)), (2, .int .i64 (x3)), (3, .int .i64 (x294 + 1))]) ⟨rfl, rfl, rfl, rfl, trivial⟩ (.refl _) ⟨rfl, rfl, (Base.Le.refl _)⟩
     ·
      rw [if_neg (of_decide_eq_false hc293)] at hm
      refine c_skip ?_
      obtain rfl := some1 hm
      exact x_join (e' := [(0, .string (x1)), (1, .string (x2)), (2, .int .i64 (x3)), (3, .int .i64 (x4))]) ⟨rfl, rfl, rfl, rfl, trivial⟩ (.refl _) ⟨rfl, rfl, (Base.Le.refl _)⟩
    ·
     rintro b289 _ _ ⟨rfl, rfl, hle290⟩
     have hm := hk292
     refine c_sr ?_
     refine t_mv rfl rfl ?_
     refine t_mv rfl rfl ?_
     refine t_st rfl (st_slen rfl str9) ?_
     obtain ⟨_, h297, hm⟩ := bindS hm
     have h297 := (chk_some h297).2
     refine t_st rfl (st_add rfl rfl h297) ?_
     refine t_st rfl (st_min rfl rfl) ?_
     refine t_as rfl rfl ?_
     refine t_ne ?_
     refine c_sr ?_
     refine t_mv rfl rfl ?_
     obtain ⟨m298, h299, hm⟩ := bindS hm
     have h299 := mkLen_some h299
     refine t_do rfl (u_mkOS (r := RT.str) [] R [.string (ByteArray.empty)] ByteArray.empty m298 rfl h299.1 rfl rfl sl22 inf9 rfl rfl rfl (by decide) rfl h299.2.1 h299.2.2) ?_
     rintro _ _ ⟨hs300, rfl, h301⟩
     obtain ⟨A302, c303, rfl, _⟩ := h301.form
     refine t_as rfl rfl ?_
     refine t_ne ?_
     refine c_sr ?_
     refine t_mv rfl rfl ?_
     obtain ⟨_, h304, hm⟩ := bindS hm
     have h304 := (chk_some h304).2
     refine t_st rfl (st_sub rfl rfl h304) ?_
     refine t_as rfl rfl ?_
     refine t_ne ?_
     refine c_sr ?_
     refine t_as rfl rfl ?_
     refine t_ne ?_
     obtain ⟨⟨x414, x415, l416⟩, hj418, hk418⟩ := bindS hm
     refine c_join (fun b409 e' hp' => ∃ (hs412 : Hp), [(0, .string (x414)), (9, .slice A302 (l416).length c303), (10, .int .i64 (x415))] = e' ∧ (hs412 ++ R) = hp' ∧ b289.Le b409 ∧ OS 9 (OT.fr RT.str) b409.w (.slice A302 l416.length c303) l416 hs412 ∧ l416.length = m298) ?_ ?_
     ·
      have hm := hj418
      refine c_block ?_
      refine c_loopM (unc3 fun x490 x491 l492 => fun b485 e' hp' => ∃ (hs488 : Hp), [(0, .string (x490)), (1, .string (x2)), (2, .int .i64 (x3)), (3, .int .i64 ((min x291 ((x1.size : Int) + 1)) - 1)), (9, .slice A302 (l492).length c303), (10, .int .i64 (x491))] = e' ∧ (hs488 ++ R) = hp' ∧ b289.Le b485 ∧ OS 9 (OT.fr RT.str) b485.w (.slice A302 l492.length c303) l492 hs488 ∧ l492.length = m298) hm (e' := [(0, .string (x1)), (1, .string (x2)), (2, .int .i64 (x3)), (3, .int .i64 ((min x291 ((x1.size : Int) + 1)) - 1)), (9, .slice A302 (List.replicate m298 (ByteArray.empty : ByteArray)).length c303), (10, .int .i64 (0))]) ⟨rfl, rfl, rfl, rfl, rfl, rfl, trivial⟩ (.refl _) ⟨hs300, rfl, rfl, (Base.Le.refl _), h301, List.length_replicate⟩ ?_
      rintro ⟨x490, x491, l492⟩ b485 _ _ oL419 ⟨hs488, rfl, rfl, hle486, h489, hln493⟩ hstepL419 houtL419
      unfold mStringsGenSplit_L419 at hstepL419
      have hm := (unc3E hstepL419)
      refine c_seq ?_
      refine c_sr ?_
      refine t_mv rfl rfl ?_
      refine t_mv rfl rfl ?_
      refine t_st rfl (st_lss rfl rfl) ?_
      refine t_ne ?_
      refine c_cond _ rfl (fun hc494 => ?_) (fun hc494 => ?_)
      ·
       rw [if_pos (of_decide_eq_true hc494)] at hm
       refine c_skip ?_
       refine x_then_normal ?_
       refine c_block ?_
       refine c_sr ?_
       refine t_mv rfl rfl ?_
       refine t_mv rfl rfl ?_
       obtain ⟨x495, hcl496, hm⟩ := bindS hm
       refine t_do rfl (u_callW0 _ call81 rfl (fun w ho => cStringsIndex _ [] x490 x2 x495 hcl496) (fun _ _ _ h => h.2.symm)) ?_
       rintro _ _ ⟨⟨_, rfl, _⟩, rfl⟩
       refine t_as rfl rfl ?_
       refine t_ne ?_
       refine c_seq ?_
       refine c_sr ?_
       refine t_mv rfl rfl ?_
       refine t_st rfl (st_lss rfl rfl) ?_
       refine t_ne ?_
       refine c_cond _ rfl (fun hc497 => ?_) (fun hc497 => ?_)
       ·
        rw [if_pos (of_decide_eq_true hc497)] at hm
        refine c_exit ?_
        refine x_then_exit ?_
        refine x_block_on rfl ?_
        refine x_then_exit ?_
        refine x_block_out ?_
        have hm := congrArg some (houtL419 _ (Option.some.inj hm).symm)
        obtain ⟨rfl, rfl, rfl⟩ := some3 hm
        exact x_join (e' := [(0, .string (x490)), (9, .slice A302 (l492).length c303), (10, .int .i64 (x491))]) ⟨rfl, rfl, rfl, trivial⟩ (.refl _) ⟨hs488, rfl, rfl, hle486, h489, hln493⟩
       ·
        rw [if_neg (of_decide_eq_false hc497)] at hm
        refine c_skip ?_
        refine x_then_normal ?_
        refine c_sr ?_
        refine t_mv rfl rfl ?_
        refine t_mv rfl rfl ?_
        refine t_mv rfl rfl ?_
        refine t_mv rfl rfl ?_
        refine t_mv rfl rfl ?_
        obtain ⟨_, h498, hm⟩ := bindS hm
        have h498 := (chk_some h498).2
        refine t_st rfl (st_add rfl rfl h498) ?_
        obtain ⟨q499, h500, hm⟩ := bindS hm
        refine t_st rfl (st_scut rfl (.inl ⟨rfl, rfl⟩) (.inr ⟨_, _, rfl, rfl⟩) h500 str9) ?_
        obtain ⟨x501, h502, hm⟩ := bindS hm
        obtain ⟨j503, hj504, hx505⟩ := idx_some h502
        obtain ⟨cs506, hs511, P512, P513, hq514, hr507, hcs508, hA509, hlt510, hb515, hho516⟩ := OS.get (sz := 1) rfl (by decide) h489 hx505
        obtain ⟨rfl, rfl⟩ := hr507
        refine t_st rfl (st_index_old j503 rfl rfl hj504 hlt510 hA509 sl22) ?_
        refine t_do rfl (u_putOS hj504 (sz := 1) (a' := q499) rfl [] R 0 1 [.string (q499)] rfl h489 hx505 rfl rfl rfl siz9 rfl (mem_c rfl mem_n) (fun cs hsj hh => by obtain ⟨rfl, rfl⟩ := hh; exact ⟨by decide, rfl, rfl⟩)) ?_
        rintro _ _ ⟨hs517, rfl, h518⟩
        refine t_resp 9 rfl (v' := .slice A302 (put l492 x491 q499).length c303) (by simp only [put_length]) ?_
        refine t_ne ?_
        refine c_sr ?_
        refine t_mv rfl rfl ?_
        refine t_mv rfl rfl ?_
        refine t_mv rfl rfl ?_
        refine t_st rfl (st_slen rfl str9) ?_
        obtain ⟨_, h519, hm⟩ := bindS hm
        have h519 := (chk_some h519).2
        refine t_st rfl (st_add rfl rfl h519) ?_
        obtain ⟨q520, h521, hm⟩ := bindS hm
        refine t_st rfl (st_scut rfl (.inr ⟨_, _, rfl, rfl⟩) (.inl ⟨rfl, rfl⟩) h521 str9) ?_
        refine t_as rfl rfl ?_
        refine t_ne ?_
        refine c_region ?_
        refine t_mv rfl rfl ?_
        obtain ⟨_, h522, hm⟩ := bindS hm
        have h522 := (chk_some h522).2
        refine t_st rfl (st_add rfl rfl h522) ?_
        refine t_as rfl rfl ?_
        refine t_nil ?_
        refine x_block_normal ?_
        exact x_againM (q520, x491 + 1, put l492 x491 q499) (Option.some.inj hm).symm (e' := [(0, .string (q520)), (1, .string (x2)), (2, .int .i64 (x3)), (3, .int .i64 ((min x291 ((x1.size : Int) + 1)) - 1)), (9, .slice A302 (put l492 x491 q499).length c303), (10, .int .i64 (x491 + 1))]) ⟨rfl, rfl, rfl, rfl, rfl, rfl, trivial⟩ (.refl _) ⟨hs517, rfl, rfl, (hle486), h518, ((put_length _ _ _).trans hln493)⟩
      ·
       rw [if_neg (of_decide_eq_false hc494)] at hm
       refine c_exit ?_
       refine x_then_exit ?_
       refine x_then_exit ?_
       refine x_block_out ?_
       have hm := congrArg some (houtL419 _ (Option.some.inj hm).symm)
       obtain ⟨rfl, rfl, rfl⟩ := some3 hm
       exact x_join (e' := [(0, .string (x490)), (9, .slice A302 (l492).length c303), (10, .int .i64 (x491))]) ⟨rfl, rfl, rfl, trivial⟩ (.refl _) ⟨hs488, rfl, rfl, hle486, h489, hln493⟩
     ·
      rintro b409 _ _ ⟨hs412, rfl, rfl, hle410, h413, hln417⟩
      have hm := (unc3E hk418)
      refine c_sr ?_
      refine t_mv rfl rfl ?_
      refine t_mv rfl rfl ?_
      refine t_mv rfl rfl ?_
      obtain ⟨x523, h524, hm⟩ := bindS hm
      obtain ⟨j525, hj526, hx527⟩ := idx_some h524
      obtain ⟨cs528, hs533, P534, P535, hq536, hr529, hcs530, hA531, hlt532, hb537, hho538⟩ := OS.get (sz := 1) rfl (by decide) h413 hx527
      obtain ⟨rfl, rfl⟩ := hr529
      refine t_st rfl (st_index_old j525 rfl rfl hj526 hlt532 hA531 sl22) ?_
      refine t_do rfl (u_putOS hj526 (sz := 1) (a' := x414) rfl [] R 0 1 [.string (x414)] rfl h413 hx527 rfl rfl rfl siz9 rfl (mem_c rfl mem_n) (fun cs hsj hh => by obtain ⟨rfl, rfl⟩ := hh; exact ⟨by decide, rfl, rfl⟩)) ?_
      rintro _ _ ⟨hs539, rfl, h540⟩
      refine t_resp 9 rfl (v' := .slice A302 (put l416 x415 x414).length c303) (by simp only [put_length]) ?_
      refine t_ne ?_
      refine c_sr ?_
      refine t_mv rfl rfl ?_
      refine t_mv rfl rfl ?_
      obtain ⟨_, h541, hm⟩ := bindS hm
      have h541 := (chk_some h541).2
      refine t_st rfl (st_add rfl rfl h541) ?_
      obtain ⟨l542, h543, hm⟩ := bindS hm
      obtain ⟨j544, j545, hj546, hj547, hj548, hj549, hx550⟩ := cutS_some h543
      have h551 := OS.lc h540
      refine t_st rfl (hx550 ▸ st_part (l := put l416 x415 x414) j544 j545 rfl (.inl ⟨rfl, by omega⟩) (.inr ⟨_, _, _, rfl, rfl, hj547⟩) hj548 hj549 h551 sl22) ?_
      obtain ⟨hs552, hq553, h554⟩ := OS.sub (sz := 1) rfl h540 hj548 hj549
      rw [← hx550] at h554
      refine t_less [] hs539 hs552 R rfl hq553 ?_
      refine t_as rfl rfl ?_
      refine t_ne ?_
      refine c_ret ?_
      obtain rfl := some1 hm
      exact retM (rs := [.tmp 8]) [.slice (subA A302 c303 j544 1) (l542).length (c303 - j544)] (hle290.trans hle410) (by decide) rfl ⟨rfl, trivial⟩ rfl (.refl _) ⟨(subA A302 c303 j544 1), (c303 - j544), hs552, rfl, rfl, h554⟩

set_option maxRecDepth 20000 in
theorem cStringsSplit (b : Base) (R : Hp) (x1 : ByteArray) (x2 : ByteArray) (l16 : (List ByteArray)) (hm : mStringsSplit x1 x2 = some l16) :
    CallsG Tryz.prog 50 [.string (x1), .string (x2)] b (R) (fun v b' hp' => ∃ (A13 : Option Addr), ∃ (c14 : Nat), ∃ (hs12 : Hp), .slice A13 (l16).length c14 = v ∧ (hs12 ++ R) = hp' ∧ OS 9 (OT.fr RT.str) b'.w (.slice A13 l16.length c14) l16 hs12) := by
  refine fn_enterG 8 Tryz.func50 rfl Tryz.ntmps50 rfl ?_
  unfold mStringsSplit at hm
  refine c_sr ?_
  refine t_as rfl rfl ?_
  refine t_ne ?_
  refine c_sr ?_
  refine t_mv rfl rfl ?_
  refine t_mv rfl rfl ?_
  obtain ⟨l17, hcl18, hm⟩ := bindS hm
  refine t_callG _ rfl call72 rfl (cStringsGenSplit _ _ x1 x2 0 (-1) l17 hcl18) ?_
  rintro _ b19 _ hle20 ⟨A21, c22, hs23, rfl, rfl, h24⟩
  refine t_in1 [] [] hs23 R rfl ?_
  refine t_as rfl rfl ?_
  refine t_ne ?_
  refine c_ret ?_
  obtain rfl := some1 hm
  exact retM (rs := [.tmp 4]) [.slice A21 (l17).length c22] hle20 (by decide) rfl ⟨rfl, trivial⟩ rfl (.refl _) ⟨A21, c22, hs23, rfl, rfl, h24⟩

set_option maxRecDepth 20000 in
theorem cLineLines (b : Base) (R : Hp) (x1 : ByteArray) (x141 : Bool) (l142 : (List (List ByteArray))) (hm : mLineLines x1 = some (x141, l142)) :
    CallsG Tryz.prog 28 [.string (x1)] b (R) (fun v b' hp' => ∃ (A138 : Option Addr), ∃ (c139 : Nat), ∃ (hs137 : Hp), .tuple #[.slice A138 (l142).length c139, .bool (x141)] = v ∧ (hs137 ++ R) = hp' ∧ OS 22 (OT.fr (RT.list RT.str)) b'.w (.slice A138 l142.length c139) l142 hs137) := by
  refine fn_enterG 31 Tryz.func28 rfl Tryz.ntmps28 rfl ?_
  unfold mLineLines at hm
  refine c_sr ?_
  refine t_as rfl rfl ?_
  refine t_as rfl rfl ?_
  refine t_ne ?_
  refine c_seq ?_
  refine c_sr ?_
  refine t_mv rfl rfl ?_
  refine t_st rfl (st_seql rfl rfl) ?_
  refine t_ne ?_
  refine c_cond _ rfl (fun hc143 => ?_) (fun hc143 => ?_)
  ·
   rw [if_pos hc143] at hm
   refine c_sr ?_
   refine t_as rfl rfl ?_
   refine t_as rfl rfl ?_
   refine t_ne ?_
   refine c_ret ?_
   refine x_then_ret ?_
   obtain ⟨rfl, rfl⟩ := some2 hm
   exact retM (rs := [.tmp 2, .tmp 3]) [.slice none 0 0, .bool (true)] (Base.Le.refl _) (by decide) rfl ⟨rfl, ⟨rfl, trivial⟩⟩ rfl (.refl _) ⟨none, 0, [], rfl, rfl, OS.nil⟩
  ·
   rw [if_neg (fun hh => Bool.noConfusion (hh.symm.trans hc143))] at hm
   refine c_skip ?_
   refine x_then_normal ?_
   refine c_sr ?_
   refine t_mv rfl rfl ?_
   obtain ⟨⟨x144, x145⟩, hcl146, hm⟩ := bindS hm
   have hm := (unc2E hm)
   refine t_do rfl (u_callW0 _ call49 rfl (fun w ho => cStringsCutSuffix _ [] x1 (ByteArray.mk #[10]) x144 x145 hcl146) (fun _ _ _ h => h.2.symm)) ?_
   rintro _ _ ⟨⟨_, rfl, _⟩, rfl⟩
   refine t_mv rfl rfl ?_
   refine t_st rfl (st_extract rfl rfl) ?_
   refine t_st rfl (st_extract rfl rfl) ?_
   refine t_as rfl rfl ?_
   refine t_as rfl rfl ?_
   refine t_ne ?_
   refine c_sr ?_
   refine t_as rfl rfl ?_
   refine t_ne ?_
   refine c_seq ?_
   refine c_sr ?_
   refine t_mv rfl rfl ?_
   obtain ⟨l147, hcl148, hm⟩ := bindS hm
   refine t_callG _ rfl call50 rfl (cStringsSplit _ _ x144 (ByteArray.mk #[10]) l147 hcl148) ?_
   rintro _ b149 _ hle150 ⟨A151, c152, hs153, rfl, rfl, h154⟩
   refine t_in1 [] [] hs153 R rfl ?_
   refine t_st rfl (st_len rfl sl22) ?_
   refine t_mv rfl rfl ?_
   refine t_ne ?_
   refine c_block ?_
   have hb156 : l147.length ≤ 9223372036854775807 := (OS.len h154)
   obtain ⟨l239, hl241, hk242⟩ := bindS hm
   refine c_forS (fun k240 => fun l239 => fun b232 e' hp' => ∃ (A236 : Option Addr), ∃ (c237 : Nat), ∃ (hs235 : Hp), [(5, .bool (x145)), (6, .slice A236 (l239).length c237), (17, .slice A151 (l147).length c152), (18, .int .i64 ((l147.length : Int))), (19, .int .i64 ((k240 : Int)))] = e' ∧ (hs235 ++ (hs153 ++ R)) = hp' ∧ b149.Le b232 ∧ OS 22 (OT.fr (RT.list RT.str)) b232.w (.slice A236 l239.length c237) l239 hs235) hl241 (e' := [(5, .bool (x145)), (6, .slice none 0 0), (17, .slice A151 (l147).length c152), (18, .int .i64 ((l147.length : Int))), (19, .int .i64 0)]) ⟨rfl, rfl, rfl, rfl, rfl, trivial⟩ (.refl _) ⟨none, 0, [], rfl, rfl, (Base.Le.refl _), OS.nil⟩ ?_ ?_
   ·
    rintro k240 l239 b232 _ _ oL155 hknL155 ⟨A236, c237, hs235, rfl, rfl, hle233, h238⟩ hstepL155
    unfold mLineLines_L155 at hstepL155
    have hm := hstepL155
    refine c_sr ?_
    refine t_st rfl (st_lss_t rfl rfl (by omega)) ?_
    refine t_ne ?_
    refine c_seq ?_
    refine c_cond_t rfl ?_
    refine c_skip ?_
    refine x_then_normal ?_
    refine c_seq ?_
    refine c_block ?_
    refine c_sr ?_
    obtain ⟨x243, h244, hm⟩ := bindS hm
    obtain ⟨j245, hj246, hx247⟩ := idx_some h244
    obtain ⟨cs248, hs253, P254, P255, hq256, hr249, hcs250, hA251, hlt252, hb257, hho258⟩ := OS.get (sz := 1) rfl (by decide) (h154.le hle233) hx247
    obtain ⟨rfl, rfl⟩ := hr249
    refine t_st rfl (st_index_old j245 rfl rfl hj246 hlt252 hA251 sl22) ?_
    refine t_st rfl (st_load_rd rfl one9 (fun w ho => hcs250 w _ ho (sub_skip hs235 (List.sublist_append_left _ _)) 0 _ rfl)) ?_
    refine t_as rfl rfl ?_
    refine t_ne ?_
    refine c_region ?_
    refine t_mv rfl rfl ?_
    refine t_mv rfl rfl ?_
    obtain ⟨l259, hcl260, hm⟩ := bindS hm
    refine t_callG _ rfl call50 rfl (cStringsSplit _ _ x243 (ByteArray.mk #[32]) l259 hcl260) ?_
    rintro _ b261 _ hle262 ⟨A263, c264, hs265, rfl, rfl, h266⟩
    refine t_in1 [] [] hs265 (hs235 ++ (hs153 ++ R)) rfl ?_
    refine t_do rfl (u_bslice (el := 22) [(0, .slice A263 (l259).length c264)] [.slice A263 (l259).length c264] rfl (fun _ => by kernel_rfl)) ?_
    rintro _ _ ⟨g267, rfl, rfl⟩
    refine t_frz [_] hs265 (hs235 ++ (hs153 ++ R)) rfl ?_
    intro b268 hle269 hz270
    have h271 := OS.frz (l := l259) h266 hle269.cells hz270
    obtain ⟨_, h272, hm⟩ := bindS hm
    have h272 := room_some h272
    refine t_do rfl (u_appOS (r := (RT.list RT.str)) (l := l239) [_] (hs153 ++ R) [[.slice A263 (l259).length c264]] [l259] rfl (by decide) sl74 inf22 rfl rfl rfl rfl (h238.le (hle262.trans hle269)) rfl (fun w ho => Rd.own (i := 0) ho rfl) ⟨(RT.list_mk h271), trivial⟩ h272) ?_
    rintro _ _ ⟨hs273, rfl, h274⟩
    obtain ⟨A275, c276, rfl, _⟩ := h274.form
    refine t_as rfl rfl ?_
    refine t_nil ?_
    refine x_block_normal ?_
    refine x_then_normal ?_
    refine c_region ?_
    refine t_st rfl (st_add rfl rfl (by omega)) ?_
    refine t_mv rfl rfl ?_
    refine t_nil ?_
    refine x_front2 [_] hs273 hs153 R rfl ?_
    refine x_front2 [_] hs153 hs273 R rfl ?_
    obtain rfl := some1 hm
    exact x_againS (e' := [(5, .bool (x145)), (6, .slice A275 (l239 ++ [l259]).length c276), (17, .slice A151 (l147).length c152), (18, .int .i64 ((l147.length : Int))), (19, .int .i64 ((k240 : Int) + 1))]) ⟨rfl, rfl, rfl, rfl, rfl, trivial⟩ (.cons _ (.refl _)) ⟨A275, c276, hs273, rfl, rfl, ((hle233.trans (hle262.trans hle269))), h274⟩
   ·
    rintro b232 _ _ ⟨A236, c237, hs235, rfl, rfl, hle233, h238⟩
    have hm := hk242
    refine c_sr ?_
    refine t_st rfl (st_lss_f rfl rfl (by omega)) ?_
    refine t_ne ?_
    refine c_seq ?_
    refine c_cond_f rfl ?_
    refine c_exit ?_
    refine x_then_exit ?_
    refine x_then_exit ?_
    refine x_block_out ?_
    refine x_then_normal ?_
    refine c_sr ?_
    refine t_mv rfl rfl ?_
    refine t_mv rfl rfl ?_
    refine t_as rfl rfl ?_
    refine t_as rfl rfl ?_
    refine t_ne ?_
    refine c_ret ?_
    obtain ⟨rfl, rfl⟩ := some2 hm
    exact retM (rs := [.tmp 2, .tmp 3]) [.slice A236 (l239).length c237, .bool (x145)] (hle150.trans hle233) (by decide) rfl ⟨rfl, ⟨rfl, trivial⟩⟩ rfl (sub_app hs235 (sub_skip hs153 (.refl _))) ⟨A236, c237, hs235, rfl, rfl, h238⟩

set_option maxRecDepth 20000 in
theorem cLineName (b : Base) (R : Hp) (x1 : ByteArray) (x63 : Bool) (hm : mLineName x1 = some x63) :
    CallsG Tryz.prog 41 [.string (x1)] b (R) (fun v b' hp' => .bool (x63) = v ∧ R = hp') := by
  refine fn_enterG 27 Tryz.func41 rfl Tryz.ntmps41 rfl ?_
  unfold mLineName at hm
  refine c_sr ?_
  refine t_as rfl rfl ?_
  refine t_ne ?_
  refine c_seq ?_
  refine c_sr ?_
  refine t_mv rfl rfl ?_
  obtain ⟨_, h64, hm⟩ := bindS hm
  have h64 := (chk_some h64).2.2
  refine t_do rfl (u_bytes rfl str9 sl135 int5_u8 h64) ?_
  rintro _ _ ⟨g65, c66, tl67, fr68, rfl, rfl, h69, h70⟩
  refine t_frzb 0 rfl ?_
  intro b71 hle72 hz73
  have h74 := bytes_fz hz73 h69 h70
  refine t_st rfl (st_len rfl sl135) ?_
  refine t_mv rfl rfl ?_
  refine t_ne ?_
  refine c_block ?_
  have hb76 : (sBytes x1).length ≤ 9223372036854775807 := (FZ.bd h74)
  obtain ⟨t97, hl98, hk99⟩ := bindS hm
  refine c_forM (fun k96 => fun _ => fun b94 e' hp' => [(0, .string (x1)), (6, .slice (some ⟨g65, 0, none⟩) (sBytes x1).length c66), (7, .int .i64 (((sBytes x1).length : Int))), (8, .int .i64 ((k96 : Int)))] = e' ∧ R = hp' ∧ b71.Le b94) hl98 (e' := [(0, .string (x1)), (6, .slice (some ⟨g65, 0, none⟩) (sBytes x1).length c66), (7, .int .i64 (((sBytes x1).length : Int))), (8, .int .i64 0)]) ⟨rfl, rfl, rfl, rfl, trivial⟩ (.refl _) ⟨rfl, rfl, (Base.Le.refl _)⟩ ?_ ?_
  ·
   rintro k96 _ b94 _ _ oL75 hknL75 ⟨rfl, rfl, hle95⟩ hstepL75 houtL75
   unfold mLineName_L75 at hstepL75
   have hm := hstepL75
   refine c_sr ?_
   refine t_st rfl (st_lss_t rfl rfl (by omega)) ?_
   refine t_ne ?_
   refine c_seq ?_
   refine c_cond_t rfl ?_
   refine c_skip ?_
   refine x_then_normal ?_
   refine c_seq ?_
   refine c_block ?_
   refine c_sr ?_
   obtain ⟨x100, h101, hm⟩ := bindS hm
   obtain ⟨j102, hj103, hx104⟩ := idx_some h101
   obtain ⟨cs105, hr106, hcs107, hA108, hlt109⟩ := FZ.get (sz := 1) rfl (by decide) (h74.le hle95) hx104
   obtain rfl := hr106
   refine t_st rfl (st_index_old j102 rfl rfl hj103 hlt109 hA108 sl135) ?_
   refine t_st rfl (st_load_old rfl one5 (hcs107 0 _ rfl)) ?_
   refine t_as rfl rfl ?_
   refine t_ne ?_
   obtain ⟨x113, hj114, hk114⟩ := bindS hm
   refine c_join (fun b111 e' hp' => [(0, .string (x1)), (6, .slice (some ⟨g65, 0, none⟩) (sBytes x1).length c66), (7, .int .i64 (((sBytes x1).length : Int))), (8, .int .i64 ((k96 : Int))), (17, .bool (x113))] = e' ∧ R = hp' ∧ b94.Le b111) ?_ ?_
   ·
    have hm := hj114
    refine c_region ?_
    refine t_mv rfl rfl ?_
    refine t_bool rfl (st_lss rfl rfl) (fun hc115 => ?_) (fun hc115 => ?_)
    ·
     rw [if_pos hc115] at hm
     refine t_mv rfl rfl ?_
     refine t_no 14 rfl rfl rfl rfl rfl ?_
     refine t_no 14 rfl rfl rfl rfl rfl ?_
     refine t_st rfl (st_pick_t rfl rfl) ?_
     refine t_nil ?_
     obtain rfl := some1 hm
     exact x_join (e' := [(0, .string (x1)), (6, .slice (some ⟨g65, 0, none⟩) (sBytes x1).length c66), (7, .int .i64 (((sBytes x1).length : Int))), (8, .int .i64 ((k96 : Int))), (17, .bool (true))]) ⟨rfl, rfl, rfl, rfl, rfl, trivial⟩ (.refl _) ⟨rfl, rfl, (Base.Le.refl _)⟩
    ·
     rw [if_neg hc115] at hm
     refine t_mv rfl rfl ?_
     refine t_yes 14 rfl rfl rfl ?_
     refine t_mv rfl rfl ?_
     refine t_yes 14 rfl rfl rfl ?_
     refine t_st rfl (st_gtr rfl rfl) ?_
     refine t_st rfl (st_pick_f rfl rfl) ?_
     refine t_nil ?_
     obtain rfl := some1 hm
     exact x_join (e' := [(0, .string (x1)), (6, .slice (some ⟨g65, 0, none⟩) (sBytes x1).length c66), (7, .int .i64 (((sBytes x1).length : Int))), (8, .int .i64 ((k96 : Int))), (17, .bool (decide (122 < x100)))]) ⟨rfl, rfl, rfl, rfl, rfl, trivial⟩ (.refl _) ⟨rfl, rfl, (Base.Le.refl _)⟩
   ·
    rintro b111 _ _ ⟨rfl, rfl, hle112⟩
    have hm := hk114
    refine c_cond _ rfl (fun hc116 => ?_) (fun hc116 => ?_)
    ·
     rw [if_pos hc116] at hm
     refine c_sr ?_
     refine t_as rfl rfl ?_
     refine t_ne ?_
     refine c_ret ?_
     refine x_block_ret ?_
     refine x_then_ret ?_
     refine x_then_ret ?_
     refine x_block_ret ?_
     refine x_then_ret ?_
     have hq117 := houtL75 _ (Option.some.inj hm).symm
     rw [hq117] at hk99
     have hm := elimR hk99
     obtain rfl := some1 hm
     exact retM (rs := [.tmp 2]) [.bool (false)] (hle72.trans (hle95.trans hle112)) (by decide) rfl ⟨rfl, trivial⟩ rfl (.refl _) ⟨rfl, rfl⟩
    ·
     rw [if_neg (fun hh => Bool.noConfusion (hh.symm.trans hc116))] at hm
     refine c_skip ?_
     refine x_block_normal ?_
     refine x_then_normal ?_
     refine c_region ?_
     refine t_st rfl (st_add rfl rfl (by omega)) ?_
     refine t_mv rfl rfl ?_
     refine t_nil ?_
     exact x_againM () (Option.some.inj hm).symm (e' := [(0, .string (x1)), (6, .slice (some ⟨g65, 0, none⟩) (sBytes x1).length c66), (7, .int .i64 (((sBytes x1).length : Int))), (8, .int .i64 ((k96 : Int) + 1))]) ⟨rfl, rfl, rfl, rfl, trivial⟩ (.refl _) ⟨rfl, rfl, ((hle95.trans hle112))⟩
  ·
   rintro _ b94 _ _ ⟨rfl, rfl, hle95⟩ hq118
   rw [hq118] at hk99
   have hm := elimL hk99
   refine c_sr ?_
   refine t_st rfl (st_lss_f rfl rfl (by omega)) ?_
   refine t_ne ?_
   refine c_seq ?_
   refine c_cond_f rfl ?_
   refine c_exit ?_
   refine x_then_exit ?_
   refine x_then_exit ?_
   refine x_block_out ?_
   refine x_then_normal ?_
   obtain ⟨x122, hj123, hk123⟩ := bindS hm
   refine c_join (fun b120 e' hp' => [(2, .bool (x122))] = e' ∧ R = hp' ∧ b94.Le b120) ?_ ?_
   ·
    have hm := hj123
    refine c_region ?_
    refine t_mv rfl rfl ?_
    refine t_st rfl (st_slen rfl str9) ?_
    refine t_bool rfl (st_geq rfl rfl) (fun hc124 => ?_) (fun hc124 => ?_)
    ·
     rw [if_pos hc124] at hm
     refine t_mv rfl rfl ?_
     refine t_yes 22 rfl rfl rfl ?_
     refine t_mv rfl rfl ?_
     refine t_yes 22 rfl rfl rfl ?_
     refine t_st rfl (st_slen rfl str9) ?_
     refine t_yes 22 rfl rfl rfl ?_
     refine t_st rfl (st_leq rfl rfl) ?_
     refine t_st rfl (st_pick_t rfl rfl) ?_
     refine t_as rfl rfl ?_
     refine t_nil ?_
     obtain rfl := some1 hm
     exact x_join (e' := [(2, .bool (decide ((x1.size : Int) ≤ 12)))]) ⟨rfl, trivial⟩ (.refl _) ⟨rfl, rfl, (Base.Le.refl _)⟩
    ·
     rw [if_neg hc124] at hm
     refine t_mv rfl rfl ?_
     refine t_no 22 rfl rfl rfl rfl rfl ?_
     refine t_no 22 rfl rfl rfl rfl rfl ?_
     refine t_no 22 rfl rfl rfl rfl rfl ?_
     refine t_st rfl (st_pick_f rfl rfl) ?_
     refine t_as rfl rfl ?_
     refine t_nil ?_
     obtain rfl := some1 hm
     exact x_join (e' := [(2, .bool (false))]) ⟨rfl, trivial⟩ (.refl _) ⟨rfl, rfl, (Base.Le.refl _)⟩
   ·
    rintro b120 _ _ ⟨rfl, rfl, hle121⟩
    have hm := hk123
    refine c_ret ?_
    obtain rfl := some1 hm
    exact retM (rs := [.tmp 2]) [.bool (x122)] (hle72.trans (hle95.trans hle121)) (by decide) rfl ⟨rfl, trivial⟩ rfl (.refl _) ⟨rfl, rfl⟩

set_option maxRecDepth 20000 in
theorem cSlicesIndex (b : Base) (R : Hp) (l4 : (List ByteArray)) (x5 : ByteArray) (A1 : Option Addr) (c2 : Nat) (h3 : FZ RT.str b.w A1 c2 l4) (x38 : Int) (hm : mSlicesIndex l4 x5 = some x38) :
    CallsG Tryz.prog 66 [.slice A1 (l4).length c2, .string (x5)] b (R) (fun v b' hp' => .int .i64 (x38) = v ∧ R = hp') := by
  refine fn_enterG 19 Tryz.func66 rfl Tryz.ntmps66 rfl ?_
  unfold mSlicesIndex at hm
  refine c_sr ?_
  refine t_as rfl rfl ?_
  refine t_ne ?_
  refine c_seq ?_
  refine c_sr ?_
  refine t_mv rfl rfl ?_
  refine t_st rfl (st_len rfl sl22) ?_
  refine t_mv rfl rfl ?_
  refine t_ne ?_
  refine c_block ?_
  have hb40 : l4.length ≤ 9223372036854775807 := (FZ.bd h3)
  obtain ⟨t55, hl56, hk57⟩ := bindS hm
  refine c_forM (fun k54 => fun _ => fun b52 e' hp' => [(0, .slice A1 (l4).length c2), (1, .string (x5)), (7, .int .i64 ((l4.length : Int))), (8, .int .i64 ((k54 : Int)))] = e' ∧ R = hp' ∧ b.Le b52) hl56 (e' := [(0, .slice A1 (l4).length c2), (1, .string (x5)), (7, .int .i64 ((l4.length : Int))), (8, .int .i64 0)]) ⟨rfl, rfl, rfl, rfl, trivial⟩ (.refl _) ⟨rfl, rfl, (Base.Le.refl _)⟩ ?_ ?_
  ·
   rintro k54 _ b52 _ _ oL39 hknL39 ⟨rfl, rfl, hle53⟩ hstepL39 houtL39
   unfold mSlicesIndex_L39 at hstepL39
   have hm := hstepL39
   refine c_sr ?_
   refine t_st rfl (st_lss_t rfl rfl (by omega)) ?_
   refine t_ne ?_
   refine c_seq ?_
   refine c_cond_t rfl ?_
   refine c_skip ?_
   refine x_then_normal ?_
   refine c_seq ?_
   refine c_block ?_
   refine c_sr ?_
   refine t_mv rfl rfl ?_
   refine t_as rfl rfl ?_
   refine t_ne ?_
   refine c_sr ?_
   refine t_mv rfl rfl ?_
   refine t_mv rfl rfl ?_
   refine t_mv rfl rfl ?_
   obtain ⟨x58, h59, hm⟩ := bindS hm
   obtain ⟨j60, hj61, hx62⟩ := idx_some h59
   obtain ⟨cs63, hr64, hcs65, hA66, hlt67⟩ := FZ.get (sz := 1) rfl (by decide) (h3.le hle53) hx62
   obtain rfl := hr64
   refine t_st rfl (st_index_old j60 rfl rfl hj61 hlt67 hA66 sl22) ?_
   refine t_st rfl (st_load_old rfl one9 (hcs65 0 _ rfl)) ?_
   refine t_st rfl (st_seql rfl rfl) ?_
   refine t_ne ?_
   refine c_cond _ rfl (fun hc68 => ?_) (fun hc68 => ?_)
   ·
    rw [if_pos hc68] at hm
    refine c_sr ?_
    refine t_mv rfl rfl ?_
    refine t_as rfl rfl ?_
    refine t_ne ?_
    refine c_ret ?_
    refine x_block_ret ?_
    refine x_then_ret ?_
    refine x_then_ret ?_
    refine x_block_ret ?_
    refine x_then_ret ?_
    have hq69 := houtL39 _ (Option.some.inj hm).symm
    rw [hq69] at hk57
    have hm := elimR hk57
    obtain rfl := some1 hm
    exact retM (rs := [.tmp 4]) [.int .i64 ((k54 : Int))] hle53 (by decide) rfl ⟨rfl, trivial⟩ rfl (.refl _) ⟨rfl, rfl⟩
   ·
    rw [if_neg (fun hh => Bool.noConfusion (hh.symm.trans hc68))] at hm
    refine c_skip ?_
    refine x_block_normal ?_
    refine x_then_normal ?_
    refine c_region ?_
    refine t_st rfl (st_add rfl rfl (by omega)) ?_
    refine t_mv rfl rfl ?_
    refine t_nil ?_
    exact x_againM () (Option.some.inj hm).symm (e' := [(0, .slice A1 (l4).length c2), (1, .string (x5)), (7, .int .i64 ((l4.length : Int))), (8, .int .i64 ((k54 : Int) + 1))]) ⟨rfl, rfl, rfl, rfl, trivial⟩ (.refl _) ⟨rfl, rfl, (hle53)⟩
  ·
   rintro _ b52 _ _ ⟨rfl, rfl, hle53⟩ hq70
   rw [hq70] at hk57
   have hm := elimL hk57
   refine c_sr ?_
   refine t_st rfl (st_lss_f rfl rfl (by omega)) ?_
   refine t_ne ?_
   refine c_seq ?_
   refine c_cond_f rfl ?_
   refine c_exit ?_
   refine x_then_exit ?_
   refine x_then_exit ?_
   refine x_block_out ?_
   refine x_then_normal ?_
   refine c_sr ?_
   refine t_as rfl rfl ?_
   refine t_ne ?_
   refine c_ret ?_
   obtain rfl := some1 hm
   exact retM (rs := [.tmp 4]) [.int .i64 ((-1))] hle53 (by decide) rfl ⟨rfl, trivial⟩ rfl (.refl _) ⟨rfl, rfl⟩

set_option maxRecDepth 20000 in
theorem cSlicesContains (b : Base) (R : Hp) (l4 : (List ByteArray)) (x5 : ByteArray) (A1 : Option Addr) (c2 : Nat) (h3 : FZ RT.str b.w A1 c2 l4) (x8 : Bool) (hm : mSlicesContains l4 x5 = some x8) :
    CallsG Tryz.prog 42 [.slice A1 (l4).length c2, .string (x5)] b (R) (fun v b' hp' => .bool (x8) = v ∧ R = hp') := by
  refine fn_enterG 9 Tryz.func42 rfl Tryz.ntmps42 rfl ?_
  unfold mSlicesContains at hm
  refine c_sr ?_
  refine t_as rfl rfl ?_
  refine t_ne ?_
  refine c_sr ?_
  refine t_mv rfl rfl ?_
  refine t_mv rfl rfl ?_
  obtain ⟨x9, hcl10, hm⟩ := bindS hm
  refine t_do rfl (u_callW0 _ call66 rfl (fun w ho => cSlicesIndex _ [] l4 x5 A1 c2 (h3.old ho) x9 hcl10) (fun _ _ _ h => h.2.symm)) ?_
  rintro _ _ ⟨⟨_, rfl, _⟩, rfl⟩
  refine t_st rfl (st_geq rfl rfl) ?_
  refine t_as rfl rfl ?_
  refine t_ne ?_
  refine c_ret ?_
  obtain rfl := some1 hm
  exact retM (rs := [.tmp 4]) [.bool (decide (0 ≤ x9))] (Base.Le.refl _) (by decide) rfl ⟨rfl, trivial⟩ rfl (.refl _) ⟨rfl, rfl⟩

set_option maxRecDepth 20000 in
theorem cLineEnds (b : Base) (R : Hp) (x1 : Int) (x5 : Int) (hm : mLineEnds x1 = some x5) :
    CallsG Tryz.prog 62 [.int .i64 (x1)] b (R) (fun v b' hp' => .int .i64 (x5) = v ∧ R = hp') := by
  refine fn_enterG 10 Tryz.func62 rfl Tryz.ntmps62 rfl ?_
  unfold mLineEnds at hm
  refine c_sr ?_
  refine t_as rfl rfl ?_
  refine t_ne ?_
  refine c_seq ?_
  refine c_sr ?_
  refine t_mv rfl rfl ?_
  refine t_ne ?_
  refine c_block ?_
  refine c_sr ?_
  refine t_st rfl (st_eql rfl rfl) ?_
  refine t_as rfl rfl ?_
  refine t_ne ?_
  refine c_cond _ rfl (fun hc6 => ?_) (fun hc6 => ?_)
  ·
   rw [if_pos (of_decide_eq_true hc6)] at hm
   refine c_sr ?_
   refine t_as rfl rfl ?_
   refine t_ne ?_
   refine c_ret ?_
   refine x_block_ret ?_
   refine x_then_ret ?_
   obtain rfl := some1 hm
   exact retM (rs := [.tmp 2]) [.int .i64 (2)] (Base.Le.refl _) (by decide) rfl ⟨rfl, trivial⟩ rfl (.refl _) ⟨rfl, rfl⟩
  ·
   rw [if_neg (of_decide_eq_false hc6)] at hm
   refine c_sr ?_
   refine t_st rfl (st_eql rfl rfl) ?_
   refine t_as rfl rfl ?_
   refine t_ne ?_
   refine c_cond _ rfl (fun hc7 => ?_) (fun hc7 => ?_)
   ·
    rw [if_pos (of_decide_eq_true hc7)] at hm
    refine c_sr ?_
    refine t_as rfl rfl ?_
    refine t_ne ?_
    refine c_ret ?_
    refine x_block_ret ?_
    refine x_then_ret ?_
    obtain rfl := some1 hm
    exact retM (rs := [.tmp 2]) [.int .i64 (3)] (Base.Le.refl _) (by decide) rfl ⟨rfl, trivial⟩ rfl (.refl _) ⟨rfl, rfl⟩
   ·
    rw [if_neg (of_decide_eq_false hc7)] at hm
    refine c_sr ?_
    refine t_st rfl (st_eql rfl rfl) ?_
    refine t_as rfl rfl ?_
    refine t_ne ?_
    refine c_cond _ rfl (fun hc8 => ?_) (fun hc8 => ?_)
    ·
     rw [if_pos (of_decide_eq_true hc8)] at hm
     refine c_sr ?_
     refine t_as rfl rfl ?_
     refine t_ne ?_
     refine c_ret ?_
     refine x_block_ret ?_
     refine x_then_ret ?_
     obtain rfl := some1 hm
     exact retM (rs := [.tmp 2]) [.int .i64 (4)] (Base.Le.refl _) (by decide) rfl ⟨rfl, trivial⟩ rfl (.refl _) ⟨rfl, rfl⟩
    ·
     rw [if_neg (of_decide_eq_false hc8)] at hm
     refine c_skip ?_
     refine x_block_normal ?_
     refine x_then_normal ?_
     refine c_sr ?_
     refine t_as rfl rfl ?_
     refine t_ne ?_
     refine c_ret ?_
     obtain rfl := some1 hm
     exact retM (rs := [.tmp 2]) [.int .i64 (0)] (Base.Le.refl _) (by decide) rfl ⟨rfl, trivial⟩ rfl (.refl _) ⟨rfl, rfl⟩

set_option maxRecDepth 20000 in
theorem cLineWithin (b : Base) (R : Hp) (x1 : Int) (x2 : Int) (x3 : Int) (x10 : Bool) (hm : mLineWithin x1 x2 x3 = some x10) :
    CallsG Tryz.prog 19 [.int .i64 (x1), .int .i64 (x2), .int .i64 (x3)] b (R) (fun v b' hp' => .bool (x10) = v ∧ R = hp') := by
  refine fn_enterG 15 Tryz.func19 rfl Tryz.ntmps19 rfl ?_
  unfold mLineWithin at hm
  refine c_sr ?_
  refine t_as rfl rfl ?_
  refine t_ne ?_
  obtain ⟨x14, hj15, hk15⟩ := bindS hm
  refine c_join (fun b12 e' hp' => [(6, .bool (x14))] = e' ∧ R = hp' ∧ b.Le b12) ?_ ?_
  ·
   have hm := hj15
   refine c_region ?_
   refine t_mv rfl rfl ?_
   refine t_mv rfl rfl ?_
   refine t_bool rfl (st_geq rfl rfl) (fun hc16 => ?_) (fun hc16 => ?_)
   ·
    rw [if_pos hc16] at hm
    refine t_mv rfl rfl ?_
    refine t_yes 10 rfl rfl rfl ?_
    refine t_mv rfl rfl ?_
    refine t_yes 10 rfl rfl rfl ?_
    refine t_mv rfl rfl ?_
    refine t_yes 10 rfl rfl rfl ?_
    refine t_st rfl (st_leq rfl rfl) ?_
    refine t_st rfl (st_pick_t rfl rfl) ?_
    refine t_as rfl rfl ?_
    refine t_nil ?_
    obtain rfl := some1 hm
    exact x_join (e' := [(6, .bool (decide (x1 ≤ x3)))]) ⟨rfl, trivial⟩ (.refl _) ⟨rfl, rfl, (Base.Le.refl _)⟩
   ·
    rw [if_neg hc16] at hm
    refine t_mv rfl rfl ?_
    refine t_no 10 rfl rfl rfl rfl rfl ?_
    refine t_no 10 rfl rfl rfl rfl rfl ?_
    refine t_no 10 rfl rfl rfl rfl rfl ?_
    refine t_st rfl (st_pick_f rfl rfl) ?_
    refine t_as rfl rfl ?_
    refine t_nil ?_
    obtain rfl := some1 hm
    exact x_join (e' := [(6, .bool (false))]) ⟨rfl, trivial⟩ (.refl _) ⟨rfl, rfl, (Base.Le.refl _)⟩
  ·
   rintro b12 _ _ ⟨rfl, rfl, hle13⟩
   have hm := hk15
   refine c_ret ?_
   obtain rfl := some1 hm
   exact retM (rs := [.tmp 6]) [.bool (x14)] hle13 (by decide) rfl ⟨rfl, trivial⟩ rfl (.refl _) ⟨rfl, rfl⟩

set_option maxRecDepth 20000 in
theorem cLineCheckSection (b : Base) (R : Hp) (s1 : ApiSection) (x2 : Int) (x78 : Int) (hm : mLineCheckSection s1 x2 = some x78) :
    CallsG Tryz.prog 43 [.agg #[.int .i64 (s1.Kind), .int .i64 (s1.Length), .int .i64 (s1.Grade), .int .i64 (s1.Speed), .int .i64 (s1.Slow), .int .i64 (s1.Station), .bool (s1.Axles)], .int .i64 (x2)] b (R) (fun v b' hp' => .int .i64 (x78) = v ∧ R = hp') := by
  refine fn_enterG 84 Tryz.func43 rfl Tryz.ntmps43 rfl ?_
  unfold mLineCheckSection at hm
  refine c_sr ?_
  refine t_do rfl (u_box _ rfl rfl) ?_
  rintro _ _ ⟨g79, rfl, rfl⟩
  refine t_as rfl rfl ?_
  refine t_ne ?_
  refine c_seq ?_
  refine D_drawI mixed (.refl _) ?_
  refine E_st 0 rfl (st_field rfl fld91_0) ?_
  refine E_st 1 rfl (st_load 0 rfl one3 rfl rfl) ?_
  refine E_st 2 rfl (st_eql rfl rfl) ?_
  refine E_st 3 rfl (st_field rfl fld91_0) ?_
  refine E_st 4 rfl (st_load 0 rfl one3 rfl rfl) ?_
  refine E_st 5 rfl (st_eql rfl rfl) ?_
  refine E_st 6 rfl (st_field rfl fld91_0) ?_
  refine E_st 7 rfl (st_load 0 rfl one3 rfl rfl) ?_
  refine E_st 8 rfl (st_eql rfl rfl) ?_
  refine E_st 9 rfl (st_assign rfl) ?_
  refine E_st 10 rfl (st_assign rfl) ?_
  refine E_st 11 rfl (st_assign rfl) ?_
  refine E_out ?_
  refine D_done (by kernel_rfl) ?_
  refine x_then_normal ?_
  refine c_seq ?_
  refine c_block ?_
  refine c_sr ?_
  refine t_st rfl (st_field rfl fld91_0) ?_
  refine t_st rfl (st_load 0 rfl one3 rfl rfl) ?_
  obtain ⟨x80, hcl81, hm⟩ := bindS hm
  refine t_do rfl (u_callW0 _ call62 rfl (fun w ho => cLineEnds _ [] s1.Kind x80 hcl81) (fun _ _ _ h => h.2.symm)) ?_
  rintro _ _ ⟨⟨_, rfl, _⟩, rfl⟩
  refine t_st rfl (st_eql rfl rfl) ?_
  refine t_as rfl rfl ?_
  refine t_ne ?_
  refine c_cond _ rfl (fun hc82 => ?_) (fun hc82 => ?_)
  ·
   rw [if_pos (of_decide_eq_true hc82)] at hm
   refine c_sr ?_
   refine t_as rfl rfl ?_
   refine t_ne ?_
   refine c_ret ?_
   refine x_block_ret ?_
   refine x_then_ret ?_
   obtain rfl := some1 hm
   exact retM (rs := [.tmp 4]) [.int .i64 (1)] (Base.Le.refl _) (by decide) rfl ⟨rfl, trivial⟩ rfl (.cons _ (.refl _)) ⟨rfl, rfl⟩
  ·
   rw [if_neg (of_decide_eq_false hc82)] at hm
   obtain ⟨x93, hj94, hk94⟩ := bindS hm
   refine c_join (fun b91 e' hp' => [(1, .int .i64 (x2)), (2, .pointer (some ⟨g79, 0, none⟩)), (5, .bool (decide (s1.Kind = 2))), (6, .bool (decide (s1.Kind = 1))), (7, .bool (decide (s1.Kind = 3))), (22, .bool (x93))] = e' ∧ (g79, Cl 91 [.int .i64 (s1.Kind), .int .i64 (s1.Length), .int .i64 (s1.Grade), .int .i64 (s1.Speed), .int .i64 (s1.Slow), .int .i64 (s1.Station), .bool (s1.Axles)]) :: R = hp' ∧ b.Le b91) ?_ ?_
   ·
    have hm := hj94
    refine c_region ?_
    refine t_st rfl (st_field rfl fld91_1) ?_
    refine t_st rfl (st_load 0 rfl one3 rfl rfl) ?_
    obtain ⟨x95, hcl96, hm⟩ := bindS hm
    refine t_do rfl (u_callW0 _ call19 rfl (fun w ho => cLineWithin _ [] s1.Length 10 3000 x95 hcl96) (fun _ _ _ h => h.2.symm)) ?_
    rintro _ _ ⟨⟨_, rfl, _⟩, rfl⟩
    rcases Bool.eq_false_or_eq_true x95 with hc97 | hc97
    ·
     rw [if_pos hc97] at hm
     refine t_resp 25 rfl (v' := .bool true) (by rw [hc97] <;> rfl) ?_
     refine t_st rfl (st_not_t rfl) ?_
     refine t_mv rfl rfl ?_
     refine t_yes 27 rfl rfl rfl ?_
     refine t_st rfl (st_field rfl fld91_2) ?_
     refine t_yes 27 rfl rfl rfl ?_
     refine t_st rfl (st_load 0 rfl one3 rfl rfl) ?_
     refine t_yes 27 rfl rfl rfl ?_
     obtain ⟨x98, hcl99, hm⟩ := bindS hm
     refine t_do rfl (u_callW0 _ call19 rfl (fun w ho => cLineWithin _ [] s1.Grade (-40) 40 x98 hcl99) (fun _ _ _ h => h.2.symm)) ?_
     rintro _ _ ⟨⟨_, rfl, _⟩, rfl⟩
     rcases Bool.eq_false_or_eq_true x98 with hc100 | hc100
     ·
      rw [if_pos hc100] at hm
      refine t_resp 30 rfl (v' := .bool true) (by rw [hc100] <;> rfl) ?_
      refine t_yes 27 rfl rfl rfl ?_
      refine t_st rfl (st_not_t rfl) ?_
      refine t_st rfl (st_pick_f rfl rfl) ?_
      refine t_mv rfl rfl ?_
      refine t_yes 33 rfl rfl rfl ?_
      refine t_st rfl (st_field rfl fld91_3) ?_
      refine t_yes 33 rfl rfl rfl ?_
      refine t_st rfl (st_load 0 rfl one3 rfl rfl) ?_
      refine t_yes 33 rfl rfl rfl ?_
      obtain ⟨x101, hcl102, hm⟩ := bindS hm
      refine t_do rfl (u_callW0 _ call19 rfl (fun w ho => cLineWithin _ [] s1.Speed 300 6000 x101 hcl102) (fun _ _ _ h => h.2.symm)) ?_
      rintro _ _ ⟨⟨_, rfl, _⟩, rfl⟩
      refine t_yes 33 rfl rfl rfl ?_
      refine t_st rfl (st_not rfl) ?_
      refine t_st rfl (st_pick_f rfl rfl) ?_
      refine t_as rfl rfl ?_
      refine t_nil ?_
      obtain rfl := some1 hm
      exact x_join (e' := [(1, .int .i64 (x2)), (2, .pointer (some ⟨g79, 0, none⟩)), (5, .bool (decide (s1.Kind = 2))), (6, .bool (decide (s1.Kind = 1))), (7, .bool (decide (s1.Kind = 3))), (22, .bool (!x101))]) ⟨rfl, rfl, rfl, rfl, rfl, rfl, trivial⟩ (.refl _) ⟨rfl, rfl, (Base.Le.refl _)⟩
     ·
      rw [if_neg (fun hh => Bool.noConfusion (hh.symm.trans hc100))] at hm
      refine t_resp 30 rfl (v' := .bool false) (by rw [hc100] <;> rfl) ?_
      refine t_yes 27 rfl rfl rfl ?_
      refine t_st rfl (st_not_f rfl) ?_
      refine t_st rfl (st_pick_f rfl rfl) ?_
      refine t_mv rfl rfl ?_
      refine t_no 33 rfl rfl rfl rfl rfl ?_
      refine t_no 33 rfl rfl rfl rfl rfl ?_
      refine t_no 33 rfl rfl rfl rfl rfl ?_
      refine t_no 33 rfl rfl rfl rfl rfl ?_
      refine t_st rfl (st_pick_t rfl rfl) ?_
      refine t_as rfl rfl ?_
      refine t_nil ?_
      obtain rfl := some1 hm
      exact x_join (e' := [(1, .int .i64 (x2)), (2, .pointer (some ⟨g79, 0, none⟩)), (5, .bool (decide (s1.Kind = 2))), (6, .bool (decide (s1.Kind = 1))), (7, .bool (decide (s1.Kind = 3))), (22, .bool (true))]) ⟨rfl, rfl, rfl, rfl, rfl, rfl, trivial⟩ (.refl _) ⟨rfl, rfl, (Base.Le.refl _)⟩
    ·
     rw [if_neg (fun hh => Bool.noConfusion (hh.symm.trans hc97))] at hm
     refine t_resp 25 rfl (v' := .bool false) (by rw [hc97] <;> rfl) ?_
     refine t_st rfl (st_not_f rfl) ?_
     refine t_mv rfl rfl ?_
     refine t_no 27 rfl rfl rfl rfl rfl ?_
     refine t_no 27 rfl rfl rfl rfl rfl ?_
     refine t_no 27 rfl rfl rfl rfl rfl ?_
     refine t_no 27 rfl rfl rfl rfl rfl ?_
     refine t_st rfl (st_pick_t rfl rfl) ?_
     refine t_mv rfl rfl ?_
     refine t_no 33 rfl rfl rfl rfl rfl ?_
     refine t_no 33 rfl rfl rfl rfl rfl ?_
     refine t_no 33 rfl rfl rfl rfl rfl ?_
     refine t_no 33 rfl rfl rfl rfl rfl ?_
     refine t_st rfl (st_pick_t rfl rfl) ?_
     refine t_as rfl rfl ?_
     refine t_nil ?_
     obtain rfl := some1 hm
     exact x_join (e' := [(1, .int .i64 (x2)), (2, .pointer (some ⟨g79, 0, none⟩)), (5, .bool (decide (s1.Kind = 2))), (6, .bool (decide (s1.Kind = 1))), (7, .bool (decide (s1.Kind = 3))), (22, .bool (true))]) ⟨rfl, rfl, rfl, rfl, rfl, rfl, trivial⟩ (.refl _) ⟨rfl, rfl, (Base.Le.refl _)⟩
   ·
    rintro b91 _ _ ⟨rfl, rfl, hle92⟩
    have hm := hk94
    refine c_cond _ rfl (fun hc103 => ?_) (fun hc103 => ?_)
    ·
     rw [if_pos hc103] at hm
     refine c_sr ?_
     refine t_as rfl rfl ?_
     refine t_ne ?_
     refine c_ret ?_
     refine x_block_ret ?_
     refine x_then_ret ?_
     obtain rfl := some1 hm
     exact retM (rs := [.tmp 4]) [.int .i64 (2)] hle92 (by decide) rfl ⟨rfl, trivial⟩ rfl (.cons _ (.refl _)) ⟨rfl, rfl⟩
    ·
     rw [if_neg (fun hh => Bool.noConfusion (hh.symm.trans hc103))] at hm
     obtain ⟨x116, hj117, hk117⟩ := bindS hm
     refine c_join (fun b114 e' hp' => [(2, .pointer (some ⟨g79, 0, none⟩)), (5, .bool (decide (s1.Kind = 2))), (6, .bool (decide (s1.Kind = 1))), (7, .bool (decide (s1.Kind = 3))), (39, .bool (x116))] = e' ∧ (g79, Cl 91 [.int .i64 (s1.Kind), .int .i64 (s1.Length), .int .i64 (s1.Grade), .int .i64 (s1.Speed), .int .i64 (s1.Slow), .int .i64 (s1.Station), .bool (s1.Axles)]) :: R = hp' ∧ b91.Le b114) ?_ ?_
     ·
      have hm := hj117
      refine c_region ?_
      refine t_bool rfl (st_move rfl) (fun hc118 => ?_) (fun hc118 => ?_)
      ·
       rw [if_pos hc118] at hm
       refine t_mv rfl rfl ?_
       refine t_yes 41 rfl rfl rfl ?_
       refine t_st rfl (st_field rfl fld91_4) ?_
       refine t_yes 41 rfl rfl rfl ?_
       refine t_st rfl (st_load 0 rfl one3 rfl rfl) ?_
       refine t_yes 41 rfl rfl rfl ?_
       refine t_st rfl (st_field rfl fld91_3) ?_
       refine t_yes 41 rfl rfl rfl ?_
       refine t_st rfl (st_load 0 rfl one3 rfl rfl) ?_
       refine t_yes 41 rfl rfl rfl ?_
       obtain ⟨x119, hcl120, hm⟩ := bindS hm
       refine t_do rfl (u_callW0 _ call19 rfl (fun w ho => cLineWithin _ [] s1.Slow 300 s1.Speed x119 hcl120) (fun _ _ _ h => h.2.symm)) ?_
       rintro _ _ ⟨⟨_, rfl, _⟩, rfl⟩
       rcases Bool.eq_false_or_eq_true x119 with hc121 | hc121
       ·
        rw [if_pos hc121] at hm
        refine t_resp 46 rfl (v' := .bool true) (by rw [hc121] <;> rfl) ?_
        refine t_yes 41 rfl rfl rfl ?_
        refine t_st rfl (st_not_t rfl) ?_
        refine t_st rfl (st_pick_t rfl rfl) ?_
        refine t_mv rfl rfl ?_
        refine t_yes 49 rfl rfl rfl ?_
        refine t_bool rfl (st_move rfl) (fun hc122 => ?_) (fun hc122 => ?_)
        ·
         rw [if_pos hc122] at hm
         refine t_yes 49 rfl rfl rfl ?_
         refine t_mv rfl rfl ?_
         refine t_yes 51 rfl rfl rfl ?_
         refine t_st rfl (st_field rfl fld91_5) ?_
         refine t_yes 51 rfl rfl rfl ?_
         refine t_st rfl (st_load 0 rfl one3 rfl rfl) ?_
         refine t_yes 51 rfl rfl rfl ?_
         refine t_mv rfl rfl ?_
         refine t_yes 51 rfl rfl rfl ?_
         obtain ⟨x123, hcl124, hm⟩ := bindS hm
         refine t_do rfl (u_callW0 _ call19 rfl (fun w ho => cLineWithin _ [] s1.Station 0 x2 x123 hcl124) (fun _ _ _ h => h.2.symm)) ?_
         rintro _ _ ⟨⟨_, rfl, _⟩, rfl⟩
         refine t_yes 51 rfl rfl rfl ?_
         refine t_st rfl (st_not rfl) ?_
         refine t_yes 49 rfl rfl rfl ?_
         refine t_st rfl (st_pick_t rfl rfl) ?_
         refine t_st rfl (st_pick_f rfl rfl) ?_
         refine t_as rfl rfl ?_
         refine t_nil ?_
         obtain rfl := some1 hm
         exact x_join (e' := [(2, .pointer (some ⟨g79, 0, none⟩)), (5, .bool (decide (s1.Kind = 2))), (6, .bool (decide (s1.Kind = 1))), (7, .bool (decide (s1.Kind = 3))), (39, .bool (!x123))]) ⟨rfl, rfl, rfl, rfl, rfl, trivial⟩ (.refl _) ⟨rfl, rfl, (Base.Le.refl _)⟩
        ·
         rw [if_neg hc122] at hm
         refine t_yes 49 rfl rfl rfl ?_
         refine t_mv rfl rfl ?_
         refine t_no 51 rfl rfl rfl rfl rfl ?_
         refine t_no 51 rfl rfl rfl rfl rfl ?_
         refine t_no 51 rfl rfl rfl rfl rfl ?_
         refine t_no 51 rfl rfl rfl rfl rfl ?_
         refine t_no 51 rfl rfl rfl rfl rfl ?_
         refine t_yes 49 rfl rfl rfl ?_
         refine t_st rfl (st_pick_f rfl rfl) ?_
         refine t_st rfl (st_pick_f rfl rfl) ?_
         refine t_as rfl rfl ?_
         refine t_nil ?_
         obtain rfl := some1 hm
         exact x_join (e' := [(2, .pointer (some ⟨g79, 0, none⟩)), (5, .bool (decide (s1.Kind = 2))), (6, .bool (decide (s1.Kind = 1))), (7, .bool (decide (s1.Kind = 3))), (39, .bool (false))]) ⟨rfl, rfl, rfl, rfl, rfl, trivial⟩ (.refl _) ⟨rfl, rfl, (Base.Le.refl _)⟩
       ·
        rw [if_neg (fun hh => Bool.noConfusion (hh.symm.trans hc121))] at hm
        refine t_resp 46 rfl (v' := .bool false) (by rw [hc121] <;> rfl) ?_
        refine t_yes 41 rfl rfl rfl ?_
        refine t_st rfl (st_not_f rfl) ?_
        refine t_st rfl (st_pick_t rfl rfl) ?_
        refine t_mv rfl rfl ?_
        refine t_no 49 rfl rfl rfl rfl rfl ?_
        refine t_no 49 rfl rfl rfl rfl rfl ?_
        refine t_no 51 rfl rfl rfl rfl rfl ?_
        refine t_no 51 rfl rfl rfl rfl rfl ?_
        refine t_no 51 rfl rfl rfl rfl rfl ?_
        refine t_no 51 rfl rfl rfl rfl rfl ?_
        refine t_no 51 rfl rfl rfl rfl rfl ?_
        refine t_no 49 rfl rfl rfl rfl rfl ?_
        refine t_st rfl (st_pick_t rfl rfl) ?_
        refine t_as rfl rfl ?_
        refine t_nil ?_
        obtain rfl := some1 hm
        exact x_join (e' := [(2, .pointer (some ⟨g79, 0, none⟩)), (5, .bool (decide (s1.Kind = 2))), (6, .bool (decide (s1.Kind = 1))), (7, .bool (decide (s1.Kind = 3))), (39, .bool (true))]) ⟨rfl, rfl, rfl, rfl, rfl, trivial⟩ (.refl _) ⟨rfl, rfl, (Base.Le.refl _)⟩
      ·
       rw [if_neg hc118] at hm
       refine t_mv rfl rfl ?_
       refine t_no 41 rfl rfl rfl rfl rfl ?_
       refine t_no 41 rfl rfl rfl rfl rfl ?_
       refine t_no 41 rfl rfl rfl rfl rfl ?_
       refine t_no 41 rfl rfl rfl rfl rfl ?_
       refine t_no 41 rfl rfl rfl rfl rfl ?_
       refine t_no 41 rfl rfl rfl rfl rfl ?_
       refine t_st rfl (st_pick_f rfl rfl) ?_
       refine t_mv rfl rfl ?_
       refine t_yes 49 rfl rfl rfl ?_
       refine t_bool rfl (st_move rfl) (fun hc125 => ?_) (fun hc125 => ?_)
       ·
        rw [if_pos hc125] at hm
        refine t_yes 49 rfl rfl rfl ?_
        refine t_mv rfl rfl ?_
        refine t_yes 51 rfl rfl rfl ?_
        refine t_st rfl (st_field rfl fld91_5) ?_
        refine t_yes 51 rfl rfl rfl ?_
        refine t_st rfl (st_load 0 rfl one3 rfl rfl) ?_
        refine t_yes 51 rfl rfl rfl ?_
        refine t_mv rfl rfl ?_
        refine t_yes 51 rfl rfl rfl ?_
        obtain ⟨x126, hcl127, hm⟩ := bindS hm
        refine t_do rfl (u_callW0 _ call19 rfl (fun w ho => cLineWithin _ [] s1.Station 0 x2 x126 hcl127) (fun _ _ _ h => h.2.symm)) ?_
        rintro _ _ ⟨⟨_, rfl, _⟩, rfl⟩
        refine t_yes 51 rfl rfl rfl ?_
        refine t_st rfl (st_not rfl) ?_
        refine t_yes 49 rfl rfl rfl ?_
        refine t_st rfl (st_pick_t rfl rfl) ?_
        refine t_st rfl (st_pick_f rfl rfl) ?_
        refine t_as rfl rfl ?_
        refine t_nil ?_
        obtain rfl := some1 hm
        exact x_join (e' := [(2, .pointer (some ⟨g79, 0, none⟩)), (5, .bool (decide (s1.Kind = 2))), (6, .bool (decide (s1.Kind = 1))), (7, .bool (decide (s1.Kind = 3))), (39, .bool (!x126))]) ⟨rfl, rfl, rfl, rfl, rfl, trivial⟩ (.refl _) ⟨rfl, rfl, (Base.Le.refl _)⟩
       ·
        rw [if_neg hc125] at hm
        refine t_yes 49 rfl rfl rfl ?_
        refine t_mv rfl rfl ?_
        refine t_no 51 rfl rfl rfl rfl rfl ?_
        refine t_no 51 rfl rfl rfl rfl rfl ?_
        refine t_no 51 rfl rfl rfl rfl rfl ?_
        refine t_no 51 rfl rfl rfl rfl rfl ?_
        refine t_no 51 rfl rfl rfl rfl rfl ?_
        refine t_yes 49 rfl rfl rfl ?_
        refine t_st rfl (st_pick_f rfl rfl) ?_
        refine t_st rfl (st_pick_f rfl rfl) ?_
        refine t_as rfl rfl ?_
        refine t_nil ?_
        obtain rfl := some1 hm
        exact x_join (e' := [(2, .pointer (some ⟨g79, 0, none⟩)), (5, .bool (decide (s1.Kind = 2))), (6, .bool (decide (s1.Kind = 1))), (7, .bool (decide (s1.Kind = 3))), (39, .bool (false))]) ⟨rfl, rfl, rfl, rfl, rfl, trivial⟩ (.refl _) ⟨rfl, rfl, (Base.Le.refl _)⟩
     ·
      rintro b114 _ _ ⟨rfl, rfl, hle115⟩
      have hm := hk117
      refine c_cond _ rfl (fun hc128 => ?_) (fun hc128 => ?_)
      ·
       rw [if_pos hc128] at hm
       refine c_sr ?_
       refine t_as rfl rfl ?_
       refine t_ne ?_
       refine c_ret ?_
       refine x_block_ret ?_
       refine x_then_ret ?_
       obtain rfl := some1 hm
       exact retM (rs := [.tmp 4]) [.int .i64 (2)] (hle92.trans hle115) (by decide) rfl ⟨rfl, trivial⟩ rfl (.cons _ (.refl _)) ⟨rfl, rfl⟩
      ·
       rw [if_neg (fun hh => Bool.noConfusion (hh.symm.trans hc128))] at hm
       obtain ⟨x141, hj142, hk142⟩ := bindS hm
       refine c_join (fun b139 e' hp' => [(59, .bool (x141))] = e' ∧ R = hp' ∧ b114.Le b139) ?_ ?_
       ·
        have hm := hj142
        refine c_region ?_
        refine t_st rfl (st_field rfl fld91_4) ?_
        refine t_st rfl (st_load 0 rfl one3 rfl rfl) ?_
        refine t_bool rfl (st_neq rfl rfl) (fun hc143 => ?_) (fun hc143 => ?_)
        ·
         rw [if_pos hc143] at hm
         refine t_mv rfl rfl ?_
         refine t_yes 63 rfl rfl rfl ?_
         refine t_bool rfl (st_move rfl) (fun hc144 => ?_) (fun hc144 => ?_)
         ·
          rw [if_pos hc144] at hm
          refine t_yes 63 rfl rfl rfl ?_
          refine t_st rfl (st_not_t rfl) ?_
          refine t_st rfl (st_pick_t rfl rfl) ?_
          refine t_mv rfl rfl ?_
          refine t_yes 67 rfl rfl rfl ?_
          refine t_st rfl (st_field rfl fld91_5) ?_
          refine t_yes 67 rfl rfl rfl ?_
          refine t_st rfl (st_load 0 rfl one3 rfl rfl) ?_
          refine t_yes 67 rfl rfl rfl ?_
          refine t_bool rfl (st_neq rfl rfl) (fun hc145 => ?_) (fun hc145 => ?_)
          ·
           rw [if_pos hc145] at hm
           refine t_yes 67 rfl rfl rfl ?_
           refine t_mv rfl rfl ?_
           refine t_yes 71 rfl rfl rfl ?_
           refine t_bool rfl (st_move rfl) (fun hc146 => ?_) (fun hc146 => ?_)
           ·
            rw [if_pos hc146] at hm
            refine t_yes 71 rfl rfl rfl ?_
            refine t_st rfl (st_not_t rfl) ?_
            refine t_yes 67 rfl rfl rfl ?_
            refine t_st rfl (st_pick_t rfl rfl) ?_
            refine t_st rfl (st_pick_f rfl rfl) ?_
            refine t_mv rfl rfl ?_
            refine t_yes 76 rfl rfl rfl ?_
            refine t_st rfl (st_field rfl fld91_2) ?_
            refine t_yes 76 rfl rfl rfl ?_
            refine t_st rfl (st_load 0 rfl one3 rfl rfl) ?_
            refine t_yes 76 rfl rfl rfl ?_
            refine t_bool rfl (st_neq rfl rfl) (fun hc147 => ?_) (fun hc147 => ?_)
            ·
             rw [if_pos hc147] at hm
             refine t_yes 76 rfl rfl rfl ?_
             refine t_mv rfl rfl ?_
             refine t_yes 80 rfl rfl rfl ?_
             refine t_mv rfl rfl ?_
             refine t_yes 76 rfl rfl rfl ?_
             refine t_st rfl (st_pick_t rfl rfl) ?_
             refine t_st rfl (st_pick_f rfl rfl) ?_
             refine t_as rfl rfl ?_
             refine t_nil ?_
             obtain rfl := some1 hm
             exact x_join (e' := [(59, .bool (decide (s1.Kind = 3)))]) ⟨rfl, trivial⟩ (.cons _ (.refl _)) ⟨rfl, rfl, (Base.Le.refl _)⟩
            ·
             rw [if_neg hc147] at hm
             refine t_yes 76 rfl rfl rfl ?_
             refine t_mv rfl rfl ?_
             refine t_no 80 rfl rfl rfl rfl rfl ?_
             refine t_yes 76 rfl rfl rfl ?_
             refine t_st rfl (st_pick_f rfl rfl) ?_
             refine t_st rfl (st_pick_f rfl rfl) ?_
             refine t_as rfl rfl ?_
             refine t_nil ?_
             obtain rfl := some1 hm
             exact x_join (e' := [(59, .bool (false))]) ⟨rfl, trivial⟩ (.cons _ (.refl _)) ⟨rfl, rfl, (Base.Le.refl _)⟩
           ·
            rw [if_neg hc146] at hm
            refine t_yes 71 rfl rfl rfl ?_
            refine t_st rfl (st_not_f rfl) ?_
            refine t_yes 67 rfl rfl rfl ?_
            refine t_st rfl (st_pick_t rfl rfl) ?_
            refine t_st rfl (st_pick_f rfl rfl) ?_
            refine t_mv rfl rfl ?_
            refine t_no 76 rfl rfl rfl rfl rfl ?_
            refine t_no 76 rfl rfl rfl rfl rfl ?_
            refine t_no 76 rfl rfl rfl rfl rfl ?_
            refine t_no 76 rfl rfl rfl rfl rfl ?_
            refine t_no 80 rfl rfl rfl rfl rfl ?_
            refine t_no 76 rfl rfl rfl rfl rfl ?_
            refine t_st rfl (st_pick_t rfl rfl) ?_
            refine t_as rfl rfl ?_
            refine t_nil ?_
            obtain rfl := some1 hm
            exact x_join (e' := [(59, .bool (true))]) ⟨rfl, trivial⟩ (.cons _ (.refl _)) ⟨rfl, rfl, (Base.Le.refl _)⟩
          ·
           rw [if_neg hc145] at hm
           refine t_yes 67 rfl rfl rfl ?_
           refine t_mv rfl rfl ?_
           refine t_no 71 rfl rfl rfl rfl rfl ?_
           refine t_no 71 rfl rfl rfl rfl rfl ?_
           refine t_yes 67 rfl rfl rfl ?_
           refine t_st rfl (st_pick_f rfl rfl) ?_
           refine t_st rfl (st_pick_f rfl rfl) ?_
           refine t_mv rfl rfl ?_
           refine t_yes 76 rfl rfl rfl ?_
           refine t_st rfl (st_field rfl fld91_2) ?_
           refine t_yes 76 rfl rfl rfl ?_
           refine t_st rfl (st_load 0 rfl one3 rfl rfl) ?_
           refine t_yes 76 rfl rfl rfl ?_
           refine t_bool rfl (st_neq rfl rfl) (fun hc148 => ?_) (fun hc148 => ?_)
           ·
            rw [if_pos hc148] at hm
            refine t_yes 76 rfl rfl rfl ?_
            refine t_mv rfl rfl ?_
            refine t_yes 80 rfl rfl rfl ?_
            refine t_mv rfl rfl ?_
            refine t_yes 76 rfl rfl rfl ?_
            refine t_st rfl (st_pick_t rfl rfl) ?_
            refine t_st rfl (st_pick_f rfl rfl) ?_
            refine t_as rfl rfl ?_
            refine t_nil ?_
            obtain rfl := some1 hm
            exact x_join (e' := [(59, .bool (decide (s1.Kind = 3)))]) ⟨rfl, trivial⟩ (.cons _ (.refl _)) ⟨rfl, rfl, (Base.Le.refl _)⟩
           ·
            rw [if_neg hc148] at hm
            refine t_yes 76 rfl rfl rfl ?_
            refine t_mv rfl rfl ?_
            refine t_no 80 rfl rfl rfl rfl rfl ?_
            refine t_yes 76 rfl rfl rfl ?_
            refine t_st rfl (st_pick_f rfl rfl) ?_
            refine t_st rfl (st_pick_f rfl rfl) ?_
            refine t_as rfl rfl ?_
            refine t_nil ?_
            obtain rfl := some1 hm
            exact x_join (e' := [(59, .bool (false))]) ⟨rfl, trivial⟩ (.cons _ (.refl _)) ⟨rfl, rfl, (Base.Le.refl _)⟩
         ·
          rw [if_neg hc144] at hm
          refine t_yes 63 rfl rfl rfl ?_
          refine t_st rfl (st_not_f rfl) ?_
          refine t_st rfl (st_pick_t rfl rfl) ?_
          refine t_mv rfl rfl ?_
          refine t_no 67 rfl rfl rfl rfl rfl ?_
          refine t_no 67 rfl rfl rfl rfl rfl ?_
          refine t_no 67 rfl rfl rfl rfl rfl ?_
          refine t_no 67 rfl rfl rfl rfl rfl ?_
          refine t_no 71 rfl rfl rfl rfl rfl ?_
          refine t_no 71 rfl rfl rfl rfl rfl ?_
          refine t_no 67 rfl rfl rfl rfl rfl ?_
          refine t_st rfl (st_pick_t rfl rfl) ?_
          refine t_mv rfl rfl ?_
          refine t_no 76 rfl rfl rfl rfl rfl ?_
          refine t_no 76 rfl rfl rfl rfl rfl ?_
          refine t_no 76 rfl rfl rfl rfl rfl ?_
          refine t_no 76 rfl rfl rfl rfl rfl ?_
          refine t_no 80 rfl rfl rfl rfl rfl ?_
          refine t_no 76 rfl rfl rfl rfl rfl ?_
          refine t_st rfl (st_pick_t rfl rfl) ?_
          refine t_as rfl rfl ?_
          refine t_nil ?_
          obtain rfl := some1 hm
          exact x_join (e' := [(59, .bool (true))]) ⟨rfl, trivial⟩ (.cons _ (.refl _)) ⟨rfl, rfl, (Base.Le.refl _)⟩
        ·
         rw [if_neg hc143] at hm
         refine t_mv rfl rfl ?_
         refine t_no 63 rfl rfl rfl rfl rfl ?_
         refine t_no 63 rfl rfl rfl rfl rfl ?_
         refine t_st rfl (st_pick_f rfl rfl) ?_
         refine t_mv rfl rfl ?_
         refine t_yes 67 rfl rfl rfl ?_
         refine t_st rfl (st_field rfl fld91_5) ?_
         refine t_yes 67 rfl rfl rfl ?_
         refine t_st rfl (st_load 0 rfl one3 rfl rfl) ?_
         refine t_yes 67 rfl rfl rfl ?_
         refine t_bool rfl (st_neq rfl rfl) (fun hc149 => ?_) (fun hc149 => ?_)
         ·
          rw [if_pos hc149] at hm
          refine t_yes 67 rfl rfl rfl ?_
          refine t_mv rfl rfl ?_
          refine t_yes 71 rfl rfl rfl ?_
          refine t_bool rfl (st_move rfl) (fun hc150 => ?_) (fun hc150 => ?_)
          ·
           rw [if_pos hc150] at hm
           refine t_yes 71 rfl rfl rfl ?_
           refine t_st rfl (st_not_t rfl) ?_
           refine t_yes 67 rfl rfl rfl ?_
           refine t_st rfl (st_pick_t rfl rfl) ?_
           refine t_st rfl (st_pick_f rfl rfl) ?_
           refine t_mv rfl rfl ?_
           refine t_yes 76 rfl rfl rfl ?_
           refine t_st rfl (st_field rfl fld91_2) ?_
           refine t_yes 76 rfl rfl rfl ?_
           refine t_st rfl (st_load 0 rfl one3 rfl rfl) ?_
           refine t_yes 76 rfl rfl rfl ?_
           refine t_bool rfl (st_neq rfl rfl) (fun hc151 => ?_) (fun hc151 => ?_)
           ·
            rw [if_pos hc151] at hm
            refine t_yes 76 rfl rfl rfl ?_
            refine t_mv rfl rfl ?_
            refine t_yes 80 rfl rfl rfl ?_
            refine t_mv rfl rfl ?_
            refine t_yes 76 rfl rfl rfl ?_
            refine t_st rfl (st_pick_t rfl rfl) ?_
            refine t_st rfl (st_pick_f rfl rfl) ?_
            refine t_as rfl rfl ?_
            refine t_nil ?_
            obtain rfl := some1 hm
            exact x_join (e' := [(59, .bool (decide (s1.Kind = 3)))]) ⟨rfl, trivial⟩ (.cons _ (.refl _)) ⟨rfl, rfl, (Base.Le.refl _)⟩
           ·
            rw [if_neg hc151] at hm
            refine t_yes 76 rfl rfl rfl ?_
            refine t_mv rfl rfl ?_
            refine t_no 80 rfl rfl rfl rfl rfl ?_
            refine t_yes 76 rfl rfl rfl ?_
            refine t_st rfl (st_pick_f rfl rfl) ?_
            refine t_st rfl (st_pick_f rfl rfl) ?_
            refine t_as rfl rfl ?_
            refine t_nil ?_
            obtain rfl := some1 hm
            exact x_join (e' := [(59, .bool (false))]) ⟨rfl, trivial⟩ (.cons _ (.refl _)) ⟨rfl, rfl, (Base.Le.refl _)⟩
          ·
           rw [if_neg hc150] at hm
           refine t_yes 71 rfl rfl rfl ?_
           refine t_st rfl (st_not_f rfl) ?_
           refine t_yes 67 rfl rfl rfl ?_
           refine t_st rfl (st_pick_t rfl rfl) ?_
           refine t_st rfl (st_pick_f rfl rfl) ?_
           refine t_mv rfl rfl ?_
           refine t_no 76 rfl rfl rfl rfl rfl ?_
           refine t_no 76 rfl rfl rfl rfl rfl ?_
           refine t_no 76 rfl rfl rfl rfl rfl ?_
           refine t_no 76 rfl rfl rfl rfl rfl ?_
           refine t_no 80 rfl rfl rfl rfl rfl ?_
           refine t_no 76 rfl rfl rfl rfl rfl ?_
           refine t_st rfl (st_pick_t rfl rfl) ?_
           refine t_as rfl rfl ?_
           refine t_nil ?_
           obtain rfl := some1 hm
           exact x_join (e' := [(59, .bool (true))]) ⟨rfl, trivial⟩ (.cons _ (.refl _)) ⟨rfl, rfl, (Base.Le.refl _)⟩
         ·
          rw [if_neg hc149] at hm
          refine t_yes 67 rfl rfl rfl ?_
          refine t_mv rfl rfl ?_
          refine t_no 71 rfl rfl rfl rfl rfl ?_
          refine t_no 71 rfl rfl rfl rfl rfl ?_
          refine t_yes 67 rfl rfl rfl ?_
          refine t_st rfl (st_pick_f rfl rfl) ?_
          refine t_st rfl (st_pick_f rfl rfl) ?_
          refine t_mv rfl rfl ?_
          refine t_yes 76 rfl rfl rfl ?_
          refine t_st rfl (st_field rfl fld91_2) ?_
          refine t_yes 76 rfl rfl rfl ?_
          refine t_st rfl (st_load 0 rfl one3 rfl rfl) ?_
          refine t_yes 76 rfl rfl rfl ?_
          refine t_bool rfl (st_neq rfl rfl) (fun hc152 => ?_) (fun hc152 => ?_)
          ·
           rw [if_pos hc152] at hm
           refine t_yes 76 rfl rfl rfl ?_
           refine t_mv rfl rfl ?_
           refine t_yes 80 rfl rfl rfl ?_
           refine t_mv rfl rfl ?_
           refine t_yes 76 rfl rfl rfl ?_
           refine t_st rfl (st_pick_t rfl rfl) ?_
           refine t_st rfl (st_pick_f rfl rfl) ?_
           refine t_as rfl rfl ?_
           refine t_nil ?_
           obtain rfl := some1 hm
           exact x_join (e' := [(59, .bool (decide (s1.Kind = 3)))]) ⟨rfl, trivial⟩ (.cons _ (.refl _)) ⟨rfl, rfl, (Base.Le.refl _)⟩
          ·
           rw [if_neg hc152] at hm
           refine t_yes 76 rfl rfl rfl ?_
           refine t_mv rfl rfl ?_
           refine t_no 80 rfl rfl rfl rfl rfl ?_
           refine t_yes 76 rfl rfl rfl ?_
           refine t_st rfl (st_pick_f rfl rfl) ?_
           refine t_st rfl (st_pick_f rfl rfl) ?_
           refine t_as rfl rfl ?_
           refine t_nil ?_
           obtain rfl := some1 hm
           exact x_join (e' := [(59, .bool (false))]) ⟨rfl, trivial⟩ (.cons _ (.refl _)) ⟨rfl, rfl, (Base.Le.refl _)⟩
       ·
        rintro b139 _ _ ⟨rfl, rfl, hle140⟩
        have hm := hk142
        refine c_cond _ rfl (fun hc153 => ?_) (fun hc153 => ?_)
        ·
         rw [if_pos hc153] at hm
         refine c_sr ?_
         refine t_as rfl rfl ?_
         refine t_ne ?_
         refine c_ret ?_
         refine x_block_ret ?_
         refine x_then_ret ?_
         obtain rfl := some1 hm
         exact retM (rs := [.tmp 4]) [.int .i64 (1)] (hle92.trans (hle115.trans hle140)) (by decide) rfl ⟨rfl, trivial⟩ rfl (.refl _) ⟨rfl, rfl⟩
        ·
         rw [if_neg (fun hh => Bool.noConfusion (hh.symm.trans hc153))] at hm
         refine c_skip ?_
         refine x_block_normal ?_
         refine x_then_normal ?_
         refine c_sr ?_
         refine t_as rfl rfl ?_
         refine t_ne ?_
         refine c_ret ?_
         obtain rfl := some1 hm
         exact retM (rs := [.tmp 4]) [.int .i64 (0)] (hle92.trans (hle115.trans hle140)) (by decide) rfl ⟨rfl, trivial⟩ rfl (.refl _) ⟨rfl, rfl⟩

set_option maxRecDepth 20000 in
theorem cLineHas (b : Base) (R : Hp) (s1 : ApiNet) (s17 : LineEnd) (A2 : Option Addr) (c3 : Nat) (A5 : Option Addr) (c6 : Nat) (A8 : Option Addr) (c9 : Nat) (A11 : Option Addr) (c12 : Nat) (A14 : Option Addr) (c15 : Nat) (h4 : FZ RT.str b.w A2 c3 s1.Stations) (h7 : FZ rApiSection b.w A5 c6 s1.Sections) (h10 : FZ rApiLink b.w A8 c9 s1.Links) (h13 : FZ rApiSignal b.w A11 c12 s1.Signals) (h16 : FZ rApiGate b.w A14 c15 s1.Gates) (x100 : Bool) (hm : mLineHas s1 s17 = some x100) :
    CallsG Tryz.prog 67 [.agg #[.slice A2 (s1.Stations).length c3, .slice A5 (s1.Sections).length c6, .slice A8 (s1.Links).length c9, .slice A11 (s1.Signals).length c12, .slice A14 (s1.Gates).length c15], .agg #[.int .i64 (s17.section_), .int .i64 (s17.end_)]] b (R) (fun v b' hp' => .bool (x100) = v ∧ R = hp') := by
  refine fn_enterG 26 Tryz.func67 rfl Tryz.ntmps67 rfl ?_
  unfold mLineHas at hm
  refine c_sr ?_
  refine t_do rfl (u_box _ rfl rfl) ?_
  rintro _ _ ⟨g101, rfl, rfl⟩
  refine t_do rfl (u_box _ rfl rfl) ?_
  rintro _ _ ⟨g102, rfl, rfl⟩
  refine t_as rfl rfl ?_
  refine t_ne ?_
  obtain ⟨x143, hj144, hk144⟩ := bindS hm
  refine c_join (fun b141 e' hp' => [(4, .bool (x143))] = e' ∧ R = hp' ∧ b.Le b141) ?_ ?_
  ·
   have hm := hj144
   obtain ⟨_, h164, hm⟩ := bindS hm
   obtain ⟨x165, hcl166, hm⟩ := bindS hm
   rcases Bool.eq_false_or_eq_true x165 with hc167 | hc167
   ·
    rw [if_pos hc167] at hm
    obtain ⟨x168, h169, hm⟩ := bindS hm
    obtain ⟨x178, hcl179, hm⟩ := bindS hm
    obtain ⟨_, h180, hm⟩ := bindS hm
    obtain ⟨x181, hcl182, hm⟩ := bindS hm
    refine D_drawI mixed (.refl _) ?_
    refine E_st 0 rfl (st_field rfl fld109_0) ?_
    refine E_st 1 rfl (st_load 0 rfl one3 rfl rfl) ?_
    refine E_st 2 rfl (st_field rfl fld28_1) ?_
    refine E_st 3 rfl (st_load 1 rfl one23 rfl rfl) ?_
    refine E_st 4 rfl (st_len rfl sl23) ?_
    have h164 := (chk_some h164).2
    refine E_st 5 rfl (st_sub rfl rfl h164) ?_
    refine E_out ?_
    refine D_all [6] (by kernel_rfl) rfl ?_
    refine R_do (Base.Le.refl _) rfl rfl (u_callW0 _ call19 rfl (fun w ho => cLineWithin _ [] s17.section_ 0 ((s1.Sections.length : Int) - 1) x165 hcl166) (fun _ _ _ h => h.2.symm)) ?_ ?_
    ·
     rintro _ _ ⟨⟨_, rfl, _⟩, rfl⟩
     refine ⟨.inr (.refl _), ?_⟩
     refine d_resp 11 rfl (v' := .bool true) (by rw [hc167]) ?_
     refine E_in (.refl _) ?_
     refine E_st 7 rfl (st_move rfl) ?_
     refine E_yes 8 12 rfl (st_field rfl fld109_1) ?_
     refine E_yes 9 12 rfl (st_load 0 rfl one3 rfl rfl) ?_
     refine E_yes 10 12 rfl (st_field rfl fld28_1) ?_
     refine E_yes 11 12 rfl (st_load 1 rfl one23 rfl rfl) ?_
     refine E_yes 12 12 rfl (st_field rfl fld109_0) ?_
     refine E_yes 13 12 rfl (st_load 0 rfl one3 rfl rfl) ?_
     obtain ⟨j170, hj171, hx172⟩ := idx_some h169
     obtain ⟨cs173, hr174, hcs175, hA176, hlt177⟩ := FZ.get (sz := 7) rfl (by decide) h7 hx172
     obtain ⟨_, _, rfl, rfl, ⟨_, _, rfl, rfl, ⟨_, _, rfl, rfl, ⟨_, _, rfl, rfl, ⟨_, _, rfl, rfl, ⟨_, _, rfl, rfl, rfl⟩⟩⟩⟩⟩⟩ := hr174
     refine E_yes 14 12 rfl (st_index_old j170 rfl rfl hj171 hlt177 hA176 sl23) ?_
     refine E_yes 15 12 rfl (st_field_old rfl hA176 fld91_0) ?_
     refine E_yes 16 12 rfl (st_load_old rfl one3 (hcs175 0 _ rfl)) ?_
     refine E_out ?_
     refine D_all [17] (by kernel_rfl) rfl ?_
     refine R_doY (Base.Le.refl _) rfl rfl 12 rfl rfl rfl (u_callW0 _ call62 rfl (fun w ho => cLineEnds _ [] x168.Kind x178 hcl179) (fun _ _ _ h => h.2.symm)) ?_ ?_
     ·
      rintro _ _ ⟨⟨_, rfl, _⟩, rfl⟩
      refine ⟨.inr (.refl _), ?_⟩
      have h180 := (chk_some h180).2
      refine E_in (.refl _) ?_
      refine E_yes 18 12 rfl (st_sub rfl rfl h180) ?_
      refine E_out ?_
      refine D_all [19] (by kernel_rfl) rfl ?_
      refine R_doY (Base.Le.refl _) rfl rfl 12 rfl rfl rfl (u_callW0 _ call19 rfl (fun w ho => cLineWithin _ [] s17.end_ 0 (x178 - 1) x181 hcl182) (fun _ _ _ h => h.2.symm)) ?_ ?_
      ·
       rintro _ _ ⟨⟨_, rfl, _⟩, rfl⟩
       refine ⟨.inr (.refl _), ?_⟩
       refine E_in (.refl _) ?_
       refine E_st 20 rfl (st_pick_t rfl rfl) ?_
       refine E_st 21 rfl (st_assign rfl) ?_
       refine E_out ?_
       refine D_done (by kernel_rfl) ?_
       obtain rfl := some1 hm
       exact x_join (e' := [(4, .bool (x181))]) ⟨rfl, trivial⟩ (.cons _ (.cons _ (.refl _))) ⟨rfl, rfl, (Base.Le.refl _)⟩
      exact R_nil
     exact R_nil
    exact R_nil
   ·
    rw [if_neg (fun hh => Bool.noConfusion (hh.symm.trans hc167))] at hm
    refine D_drawI mixed (.refl _) ?_
    refine E_st 0 rfl (st_field rfl fld109_0) ?_
    refine E_st 1 rfl (st_load 0 rfl one3 rfl rfl) ?_
    refine E_st 2 rfl (st_field rfl fld28_1) ?_
    refine E_st 3 rfl (st_load 1 rfl one23 rfl rfl) ?_
    refine E_st 4 rfl (st_len rfl sl23) ?_
    have h164 := (chk_some h164).2
    refine E_st 5 rfl (st_sub rfl rfl h164) ?_
    refine E_out ?_
    refine D_all [6] (by kernel_rfl) rfl ?_
    refine R_do (Base.Le.refl _) rfl rfl (u_callW0 _ call19 rfl (fun w ho => cLineWithin _ [] s17.section_ 0 ((s1.Sections.length : Int) - 1) x165 hcl166) (fun _ _ _ h => h.2.symm)) ?_ ?_
    ·
     rintro _ _ ⟨⟨_, rfl, _⟩, rfl⟩
     refine ⟨.inr (.refl _), ?_⟩
     refine d_resp 11 rfl (v' := .bool false) (by rw [hc167]) ?_
     refine E_in (.refl _) ?_
     refine E_st 7 rfl (st_move rfl) ?_
     refine E_no 8 12 rfl rfl rfl ?_
     refine E_no 9 12 rfl rfl rfl ?_
     refine E_no 10 12 rfl rfl rfl ?_
     refine E_no 11 12 rfl rfl rfl ?_
     refine E_no 12 12 rfl rfl rfl ?_
     refine E_no 13 12 rfl rfl rfl ?_
     refine E_no 14 12 rfl rfl rfl ?_
     refine E_no 15 12 rfl rfl rfl ?_
     refine E_no 16 12 rfl rfl rfl ?_
     refine E_no 17 12 rfl rfl rfl ?_
     refine E_no 18 12 rfl rfl rfl ?_
     refine E_no 19 12 rfl rfl rfl ?_
     refine E_st 20 rfl (st_pick_f rfl rfl) ?_
     refine E_st 21 rfl (st_assign rfl) ?_
     refine E_out ?_
     refine D_done (by kernel_rfl) ?_
     obtain rfl := some1 hm
     exact x_join (e' := [(4, .bool (false))]) ⟨rfl, trivial⟩ (.cons _ (.cons _ (.refl _))) ⟨rfl, rfl, (Base.Le.refl _)⟩
    exact R_nil
  ·
   rintro b141 _ _ ⟨rfl, rfl, hle142⟩
   have hm := hk144
   refine c_ret ?_
   obtain rfl := some1 hm
   exact retM (rs := [.tmp 4]) [.bool (x143)] hle142 (by decide) rfl ⟨rfl, trivial⟩ rfl (.refl _) ⟨rfl, rfl⟩

set_option maxRecDepth 20000 in
theorem cCmpIsNaN (b : Base) (R : Hp) (x1 : Int) (x2 : Bool) (hm : mCmpIsNaN x1 = some x2) :
    CallsG Tryz.prog 48 [.int .i64 (x1)] b (R) (fun v b' hp' => .bool (x2) = v ∧ R = hp') := by
  refine fn_enterG 6 Tryz.func48 rfl Tryz.ntmps48 rfl ?_
  unfold mCmpIsNaN at hm
  refine c_sr ?_
  refine t_as rfl rfl ?_
  refine t_ne ?_
  refine c_sr ?_
  refine t_mv rfl rfl ?_
  refine t_mv rfl rfl ?_
  refine t_st rfl (st_neq rfl rfl) ?_
  refine t_as rfl rfl ?_
  refine t_ne ?_
  refine c_ret ?_
  obtain rfl := some1 hm
  exact retM (rs := [.tmp 2]) [.bool (decide (x1 ≠ x1))] (Base.Le.refl _) (by decide) rfl ⟨rfl, trivial⟩ rfl (.refl _) ⟨rfl, rfl⟩

set_option maxRecDepth 20000 in
theorem cCmpCompare (b : Base) (R : Hp) (x1 : Int) (x2 : Int) (x12 : Int) (hm : mCmpCompare x1 x2 = some x12) :
    CallsG Tryz.prog 27 [.int .i64 (x1), .int .i64 (x2)] b (R) (fun v b' hp' => .int .i64 (x12) = v ∧ R = hp') := by
  refine fn_enterG 20 Tryz.func27 rfl Tryz.ntmps27 rfl ?_
  unfold mCmpCompare at hm
  refine c_sr ?_
  refine t_as rfl rfl ?_
  refine t_ne ?_
  refine c_sr ?_
  refine t_mv rfl rfl ?_
  obtain ⟨x13, hcl14, hm⟩ := bindS hm
  refine t_do rfl (u_callW0 _ call48 rfl (fun w ho => cCmpIsNaN _ [] x1 x13 hcl14) (fun _ _ _ h => h.2.symm)) ?_
  rintro _ _ ⟨⟨_, rfl, _⟩, rfl⟩
  refine t_as rfl rfl ?_
  refine t_ne ?_
  refine c_sr ?_
  refine t_mv rfl rfl ?_
  obtain ⟨x15, hcl16, hm⟩ := bindS hm
  refine t_do rfl (u_callW0 _ call48 rfl (fun w ho => cCmpIsNaN _ [] x2 x15 hcl16) (fun _ _ _ h => h.2.symm)) ?_
  rintro _ _ ⟨⟨_, rfl, _⟩, rfl⟩
  refine t_as rfl rfl ?_
  refine t_ne ?_
  refine c_seq ?_
  refine c_sr ?_
  refine t_mv rfl rfl ?_
  refine t_ne ?_
  refine c_cond _ rfl (fun hc17 => ?_) (fun hc17 => ?_)
  ·
   rw [if_pos hc17] at hm
   refine c_seq ?_
   refine c_sr ?_
   refine t_mv rfl rfl ?_
   refine t_ne ?_
   refine c_cond _ rfl (fun hc18 => ?_) (fun hc18 => ?_)
   ·
    rw [if_pos hc18] at hm
    refine c_sr ?_
    refine t_as rfl rfl ?_
    refine t_ne ?_
    refine c_ret ?_
    refine x_then_ret ?_
    refine x_then_ret ?_
    obtain rfl := some1 hm
    exact retM (rs := [.tmp 4]) [.int .i64 (0)] (Base.Le.refl _) (by decide) rfl ⟨rfl, trivial⟩ rfl (.refl _) ⟨rfl, rfl⟩
   ·
    rw [if_neg (fun hh => Bool.noConfusion (hh.symm.trans hc18))] at hm
    refine c_skip ?_
    refine x_then_normal ?_
    refine c_sr ?_
    refine t_as rfl rfl ?_
    refine t_ne ?_
    refine c_ret ?_
    refine x_then_ret ?_
    obtain rfl := some1 hm
    exact retM (rs := [.tmp 4]) [.int .i64 ((-1))] (Base.Le.refl _) (by decide) rfl ⟨rfl, trivial⟩ rfl (.refl _) ⟨rfl, rfl⟩
  ·
   rw [if_neg (fun hh => Bool.noConfusion (hh.symm.trans hc17))] at hm
   refine c_skip ?_
   refine x_then_normal ?_
   refine c_seq ?_
   refine c_sr ?_
   refine t_mv rfl rfl ?_
   refine t_ne ?_
   refine c_cond _ rfl (fun hc19 => ?_) (fun hc19 => ?_)
   ·
    rw [if_pos hc19] at hm
    refine c_sr ?_
    refine t_as rfl rfl ?_
    refine t_ne ?_
    refine c_ret ?_
    refine x_then_ret ?_
    obtain rfl := some1 hm
    exact retM (rs := [.tmp 4]) [.int .i64 (1)] (Base.Le.refl _) (by decide) rfl ⟨rfl, trivial⟩ rfl (.refl _) ⟨rfl, rfl⟩
   ·
    rw [if_neg (fun hh => Bool.noConfusion (hh.symm.trans hc19))] at hm
    refine c_skip ?_
    refine x_then_normal ?_
    refine c_seq ?_
    refine c_sr ?_
    refine t_mv rfl rfl ?_
    refine t_mv rfl rfl ?_
    refine t_st rfl (st_lss rfl rfl) ?_
    refine t_ne ?_
    refine c_cond _ rfl (fun hc20 => ?_) (fun hc20 => ?_)
    ·
     rw [if_pos (of_decide_eq_true hc20)] at hm
     refine c_sr ?_
     refine t_as rfl rfl ?_
     refine t_ne ?_
     refine c_ret ?_
     refine x_then_ret ?_
     obtain rfl := some1 hm
     exact retM (rs := [.tmp 4]) [.int .i64 ((-1))] (Base.Le.refl _) (by decide) rfl ⟨rfl, trivial⟩ rfl (.refl _) ⟨rfl, rfl⟩
    ·
     rw [if_neg (of_decide_eq_false hc20)] at hm
     refine c_skip ?_
     refine x_then_normal ?_
     refine c_seq ?_
     refine c_sr ?_
     refine t_mv rfl rfl ?_
     refine t_mv rfl rfl ?_
     refine t_st rfl (st_gtr rfl rfl) ?_
     refine t_ne ?_
     refine c_cond _ rfl (fun hc21 => ?_) (fun hc21 => ?_)
     ·
      rw [if_pos (of_decide_eq_true hc21)] at hm
      refine c_sr ?_
      refine t_as rfl rfl ?_
      refine t_ne ?_
      refine c_ret ?_
      refine x_then_ret ?_
      obtain rfl := some1 hm
      exact retM (rs := [.tmp 4]) [.int .i64 (1)] (Base.Le.refl _) (by decide) rfl ⟨rfl, trivial⟩ rfl (.refl _) ⟨rfl, rfl⟩
     ·
      rw [if_neg (of_decide_eq_false hc21)] at hm
      refine c_skip ?_
      refine x_then_normal ?_
      refine c_sr ?_
      refine t_as rfl rfl ?_
      refine t_ne ?_
      refine c_ret ?_
      obtain rfl := some1 hm
      exact retM (rs := [.tmp 4]) [.int .i64 (0)] (Base.Le.refl _) (by decide) rfl ⟨rfl, trivial⟩ rfl (.refl _) ⟨rfl, rfl⟩

set_option maxRecDepth 20000 in
theorem cCmpOr (b : Base) (R : Hp) (l4 : (List Int)) (A1 : Option Addr) (c2 : Nat) (h3 : FZ (RT.int .i64) b.w A1 c2 l4) (x37 : Int) (hm : mCmpOr l4 = some x37) :
    CallsG Tryz.prog 68 [.slice A1 (l4).length c2] b (R) (fun v b' hp' => .int .i64 (x37) = v ∧ R = hp') := by
  refine fn_enterG 18 Tryz.func68 rfl Tryz.ntmps68 rfl ?_
  unfold mCmpOr at hm
  refine c_sr ?_
  refine t_as rfl rfl ?_
  refine t_ne ?_
  refine c_sr ?_
  refine t_as rfl rfl ?_
  refine t_ne ?_
  refine c_seq ?_
  refine c_sr ?_
  refine t_mv rfl rfl ?_
  refine t_st rfl (st_len rfl sl37) ?_
  refine t_mv rfl rfl ?_
  refine t_ne ?_
  refine c_block ?_
  have hb39 : l4.length ≤ 9223372036854775807 := (FZ.bd h3)
  obtain ⟨t54, hl55, hk56⟩ := bindS hm
  refine c_forM (fun k53 => fun _ => fun b51 e' hp' => [(3, .int .i64 (0)), (6, .slice A1 (l4).length c2), (7, .int .i64 ((l4.length : Int))), (8, .int .i64 ((k53 : Int)))] = e' ∧ R = hp' ∧ b.Le b51) hl55 (e' := [(3, .int .i64 (0)), (6, .slice A1 (l4).length c2), (7, .int .i64 ((l4.length : Int))), (8, .int .i64 0)]) ⟨rfl, rfl, rfl, rfl, trivial⟩ (.refl _) ⟨rfl, rfl, (Base.Le.refl _)⟩ ?_ ?_
  ·
   rintro k53 _ b51 _ _ oL38 hknL38 ⟨rfl, rfl, hle52⟩ hstepL38 houtL38
   unfold mCmpOr_L38 at hstepL38
   have hm := hstepL38
   refine c_sr ?_
   refine t_st rfl (st_lss_t rfl rfl (by omega)) ?_
   refine t_ne ?_
   refine c_seq ?_
   refine c_cond_t rfl ?_
   refine c_skip ?_
   refine x_then_normal ?_
   refine c_seq ?_
   refine c_block ?_
   refine c_sr ?_
   obtain ⟨x57, h58, hm⟩ := bindS hm
   obtain ⟨j59, hj60, hx61⟩ := idx_some h58
   obtain ⟨cs62, hr63, hcs64, hA65, hlt66⟩ := FZ.get (sz := 1) rfl (by decide) (h3.le hle52) hx61
   obtain rfl := hr63
   refine t_st rfl (st_index_old j59 rfl rfl hj60 hlt66 hA65 sl37) ?_
   refine t_st rfl (st_load_old rfl one3 (hcs64 0 _ rfl)) ?_
   refine t_as rfl rfl ?_
   refine t_ne ?_
   refine c_sr ?_
   refine t_mv rfl rfl ?_
   refine t_mv rfl rfl ?_
   refine t_st rfl (st_neq rfl rfl) ?_
   refine t_ne ?_
   refine c_cond _ rfl (fun hc67 => ?_) (fun hc67 => ?_)
   ·
    rw [if_pos (of_decide_eq_true hc67)] at hm
    refine c_sr ?_
    refine t_mv rfl rfl ?_
    refine t_as rfl rfl ?_
    refine t_ne ?_
    refine c_ret ?_
    refine x_block_ret ?_
    refine x_then_ret ?_
    refine x_then_ret ?_
    refine x_block_ret ?_
    refine x_then_ret ?_
    have hq68 := houtL38 _ (Option.some.inj hm).symm
    rw [hq68] at hk56
    have hm := elimR hk56
    obtain rfl := some1 hm
    exact retM (rs := [.tmp 2]) [.int .i64 (x57)] hle52 (by decide) rfl ⟨rfl, trivial⟩ rfl (.refl _) ⟨rfl, rfl⟩
   ·
    rw [if_neg (of_decide_eq_false hc67)] at hm
    refine c_skip ?_
    refine x_block_normal ?_
    refine x_then_normal ?_
    refine c_region ?_
    refine t_st rfl (st_add rfl rfl (by omega)) ?_
    refine t_mv rfl rfl ?_
    refine t_nil ?_
    exact x_againM () (Option.some.inj hm).symm (e' := [(3, .int .i64 (0)), (6, .slice A1 (l4).length c2), (7, .int .i64 ((l4.length : Int))), (8, .int .i64 ((k53 : Int) + 1))]) ⟨rfl, rfl, rfl, rfl, trivial⟩ (.refl _) ⟨rfl, rfl, (hle52)⟩
  ·
   rintro _ b51 _ _ ⟨rfl, rfl, hle52⟩ hq69
   rw [hq69] at hk56
   have hm := elimL hk56
   refine c_sr ?_
   refine t_st rfl (st_lss_f rfl rfl (by omega)) ?_
   refine t_ne ?_
   refine c_seq ?_
   refine c_cond_f rfl ?_
   refine c_exit ?_
   refine x_then_exit ?_
   refine x_then_exit ?_
   refine x_block_out ?_
   refine x_then_normal ?_
   refine c_sr ?_
   refine t_mv rfl rfl ?_
   refine t_as rfl rfl ?_
   refine t_ne ?_
   refine c_ret ?_
   obtain rfl := some1 hm
   exact retM (rs := [.tmp 2]) [.int .i64 (0)] hle52 (by decide) rfl ⟨rfl, trivial⟩ rfl (.refl _) ⟨rfl, rfl⟩

set_option maxRecDepth 20000 in
theorem cLineCheckLinks (b : Base) (R : Hp) (s1 : ApiNet) (A2 : Option Addr) (c3 : Nat) (A5 : Option Addr) (c6 : Nat) (A8 : Option Addr) (c9 : Nat) (A11 : Option Addr) (c12 : Nat) (A14 : Option Addr) (c15 : Nat) (h4 : FZ RT.str b.w A2 c3 s1.Stations) (h7 : FZ rApiSection b.w A5 c6 s1.Sections) (h10 : FZ rApiLink b.w A8 c9 s1.Links) (h13 : FZ rApiSignal b.w A11 c12 s1.Signals) (h16 : FZ rApiGate b.w A14 c15 s1.Gates) (x638 : Int) (hm : mLineCheckLinks s1 = some x638) :
    CallsG Tryz.prog 44 [.agg #[.slice A2 (s1.Stations).length c3, .slice A5 (s1.Sections).length c6, .slice A8 (s1.Links).length c9, .slice A11 (s1.Signals).length c12, .slice A14 (s1.Gates).length c15]] b (R) (fun v b' hp' => .int .i64 (x638) = v ∧ R = hp') := by
  refine fn_enterG 85 Tryz.func44 rfl Tryz.ntmps44 rfl ?_
  unfold mLineCheckLinks at hm
  refine c_sr ?_
  refine t_do rfl (u_box _ rfl rfl) ?_
  rintro _ _ ⟨g639, rfl, rfl⟩
  refine t_as rfl rfl ?_
  refine t_ne ?_
  refine c_sr ?_
  refine t_do rfl (u_mmap rLineEnd (OT.fr RT.bool) true false [_] R rfl) ?_
  rintro _ _ ⟨g640, hs641, rfl, rfl, h642⟩
  refine t_as rfl rfl ?_
  refine t_ne ?_
  refine c_seq ?_
  refine c_sr ?_
  refine t_st rfl (st_field rfl fld28_2) ?_
  refine t_st rfl (st_load 0 rfl one24 rfl rfl) ?_
  refine t_st rfl (st_len rfl sl24) ?_
  refine t_mv rfl rfl ?_
  refine t_ne ?_
  refine c_block ?_
  have hb644 : s1.Links.length ≤ 9223372036854775807 := (FZ.bd h10)
  obtain ⟨t1052, hl1053, hk1054⟩ := bindS hm
  refine c_forM (fun k1051 => fun l1050 => fun b1045 e' hp' => ∃ (hs1048 : Hp), [(1, .pointer (some ⟨g639, 0, none⟩)), (3, .map (some g640)), (11, .slice A8 (s1.Links).length c9), (12, .int .i64 ((s1.Links.length : Int))), (13, .int .i64 ((k1051 : Int)))] = e' ∧ (g639, Cl 28 [.slice A2 (s1.Stations).length c3, .slice A5 (s1.Sections).length c6, .slice A8 (s1.Links).length c9, .slice A11 (s1.Signals).length c12, .slice A14 (s1.Gates).length c15]) :: (hs1048 ++ R) = hp' ∧ b.Le b1045 ∧ OM rLineEnd (OT.fr RT.bool) true false b1045.w g640 l1050 hs1048) hl1053 (e' := [(1, .pointer (some ⟨g639, 0, none⟩)), (3, .map (some g640)), (11, .slice A8 (s1.Links).length c9), (12, .int .i64 ((s1.Links.length : Int))), (13, .int .i64 0)]) ⟨rfl, rfl, rfl, rfl, rfl, trivial⟩ (.refl _) ⟨hs641, rfl, rfl, (Base.Le.refl _), h642⟩ ?_ ?_
  ·
   rintro k1051 l1050 b1045 _ _ oL643 hknL643 ⟨hs1048, rfl, rfl, hle1046, h1049⟩ hstepL643 houtL643
   unfold mLineCheckLinks_L643 at hstepL643
   have hm := hstepL643
   refine c_sr ?_
   refine t_st rfl (st_lss_t rfl rfl (by omega)) ?_
   refine t_ne ?_
   refine c_seq ?_
   refine c_cond_t rfl ?_
   refine c_skip ?_
   refine x_then_normal ?_
   refine c_seq ?_
   refine c_block ?_
   refine c_sr ?_
   refine t_mv rfl rfl ?_
   obtain ⟨x1055, h1056, hm⟩ := bindS hm
   obtain ⟨j1057, hj1058, hx1059⟩ := idx_some h1056
   obtain ⟨cs1060, hr1061, hcs1062, hA1063, hlt1064⟩ := FZ.get (sz := 4) rfl (by decide) (h10.le hle1046) hx1059
   obtain ⟨_, _, rfl, rfl, ⟨_, _, rfl, rfl, ⟨_, _, rfl, rfl, rfl⟩⟩⟩ := hr1061
   refine t_st rfl (st_index_old j1057 rfl rfl hj1058 hlt1064 hA1063 sl24) ?_
   refine t_st rfl (st_loadN_old (vs := [.int .i64 (x1055.A), .int .i64 (x1055.EndA), .int .i64 (x1055.B), .int .i64 (x1055.EndB)]) 4 rfl agg118 hA1063 rfl (fun j u hu => hcs1062 j u hu)) ?_
   refine t_do rfl (u_alloc [.int .i64 0, .int .i64 0, .int .i64 0, .int .i64 0] zero118 rfl) ?_
   rintro _ _ ⟨g1065, rfl, rfl⟩
   refine t_as rfl rfl ?_
   refine t_do rfl (u_storeN (vs := [_, _, _, _]) 0 4 rfl rfl rfl siz118 rfl (mem_c rfl (mem_c rfl (mem_c rfl (mem_c rfl mem_n)))) rfl (by simp)) ?_
   rintro _ _ rfl
   refine t_ne ?_
   obtain ⟨_, hj1074, hk1074⟩ := bindS hm
   refine c_join (fun b1070 e' hp' => ∃ (g1072 : Nat), ∃ (g1073 : Nat), [(1, .pointer (some ⟨g639, 0, none⟩)), (3, .map (some g640)), (4, .int .i64 ((k1051 : Int))), (5, .pointer (some ⟨g1065, 0, none⟩)), (6, .pointer (some ⟨g1072, 0, none⟩)), (7, .pointer (some ⟨g1073, 0, none⟩)), (11, .slice A8 (s1.Links).length c9), (12, .int .i64 ((s1.Links.length : Int))), (13, .int .i64 ((k1051 : Int)))] = e' ∧ (g639, Cl 28 [.slice A2 (s1.Stations).length c3, .slice A5 (s1.Sections).length c6, .slice A8 (s1.Links).length c9, .slice A11 (s1.Signals).length c12, .slice A14 (s1.Gates).length c15]) :: (g1065, Cl 118 [.int .i64 (x1055.A), .int .i64 (x1055.EndA), .int .i64 (x1055.B), .int .i64 (x1055.EndB)]) :: (g1072, Cl 109 [.int .i64 (x1055.A), .int .i64 (x1055.EndA)]) :: (g1073, Cl 109 [.int .i64 (x1055.B), .int .i64 (x1055.EndB)]) :: (hs1048 ++ R) = hp' ∧ b1045.Le b1070) ?_ ?_
   ·
    have hm := hj1074
    refine D_drawI mixed (.refl _) ?_
    refine E_st 0 rfl (st_field rfl fld118_0) ?_
    refine E_st 1 rfl (st_load 0 rfl one3 rfl rfl) ?_
    refine E_st 2 rfl (st_field rfl fld118_1) ?_
    refine E_st 3 rfl (st_load 0 rfl one3 rfl rfl) ?_
    refine E_st 4 rfl (st_build (v := .agg #[.int .i64 (x1055.A), .int .i64 (x1055.EndA)]) [(0, .int .i64 (x1055.A)), (1, .int .i64 (x1055.EndA))] rfl (fun _ => by kernel_rfl)) ?_
    refine E_st 5 rfl (st_field rfl fld118_2) ?_
    refine E_st 6 rfl (st_load 0 rfl one3 rfl rfl) ?_
    refine E_st 7 rfl (st_field rfl fld118_3) ?_
    refine E_st 8 rfl (st_load 0 rfl one3 rfl rfl) ?_
    refine E_st 9 rfl (st_build (v := .agg #[.int .i64 (x1055.B), .int .i64 (x1055.EndB)]) [(0, .int .i64 (x1055.B)), (1, .int .i64 (x1055.EndB))] rfl (fun _ => by kernel_rfl)) ?_
    refine E_out ?_
    refine D_all [10, 11] (by kernel_rfl) rfl ?_
    refine R_do (Base.Le.refl _) rfl rfl (u_alloc [.int .i64 0, .int .i64 0] zero109 rfl) ?_ ?_
    ·
     rintro _ _ ⟨g1077, rfl, rfl⟩
     refine ⟨.inr (.cons _ (.refl _)), ?_⟩
     refine D_all [11] (by kernel_rfl) rfl ?_
     refine R_do (Base.Le.refl _) rfl rfl (u_alloc [.int .i64 0, .int .i64 0] zero109 rfl) ?_ ?_
     ·
      rintro _ _ ⟨g1078, rfl, rfl⟩
      refine ⟨.inr (.cons _ (.cons _ (.refl _))), ?_⟩
      refine D_all [12] (by kernel_rfl) rfl ?_
      refine R_do (Base.Le.refl _) rfl rfl (u_storeN (vs := [_, _]) 1 2 rfl rfl rfl siz109 rfl (mem_c rfl (mem_c rfl mem_n)) rfl (by simp)) ?_ ?_
      ·
       rintro _ _ rfl
       refine ⟨.inr (.cons _ (.cons _ (.refl _))), ?_⟩
       refine D_all [13] (by kernel_rfl) rfl ?_
       refine R_do (Base.Le.refl _) rfl rfl (u_storeN (vs := [_, _]) 0 2 rfl rfl rfl siz109 rfl (mem_c rfl (mem_c rfl mem_n)) rfl (by simp)) ?_ ?_
       ·
        rintro _ _ rfl
        refine ⟨.inl (by kernel_rfl), ?_⟩
        refine D_done (by kernel_rfl) ?_
        clear hm
        refine x_pullb 1 rfl ?_
        refine x_pullb 2 rfl ?_
        refine x_pullb 3 rfl ?_
        exact x_join (e' := [(1, .pointer (some ⟨g639, 0, none⟩)), (3, .map (some g640)), (4, .int .i64 ((k1051 : Int))), (5, .pointer (some ⟨g1065, 0, none⟩)), (6, .pointer (some ⟨g1077, 0, none⟩)), (7, .pointer (some ⟨g1078, 0, none⟩)), (11, .slice A8 (s1.Links).length c9), (12, .int .i64 ((s1.Links.length : Int))), (13, .int .i64 ((k1051 : Int)))]) ⟨rfl, rfl, rfl, rfl, rfl, rfl, rfl, rfl, rfl, trivial⟩ (.refl _) ⟨g1077, g1078, rfl, rfl, (Base.Le.refl _)⟩
       exact R_nil
      exact R_nil
     exact R_nil
    refine R_do (Base.Le.refl _) rfl rfl (u_alloc [.int .i64 0, .int .i64 0] zero109 rfl) ?_ ?_
    ·
     rintro _ _ ⟨g1078, rfl, rfl⟩
     refine ⟨.inr (.cons _ (.refl _)), ?_⟩
     refine D_all [10] (by kernel_rfl) rfl ?_
     refine R_do (Base.Le.refl _) rfl rfl (u_alloc [.int .i64 0, .int .i64 0] zero109 rfl) ?_ ?_
     ·
      rintro _ _ ⟨g1077, rfl, rfl⟩
      refine ⟨.inr (.cons _ (.cons _ (.refl _))), ?_⟩
      refine D_all [12] (by kernel_rfl) rfl ?_
      refine R_do (Base.Le.refl _) rfl rfl (u_storeN (vs := [_, _]) 0 2 rfl rfl rfl siz109 rfl (mem_c rfl (mem_c rfl mem_n)) rfl (by simp)) ?_ ?_
      ·
       rintro _ _ rfl
       refine ⟨.inr (.cons _ (.cons _ (.refl _))), ?_⟩
       refine D_all [13] (by kernel_rfl) rfl ?_
       refine R_do (Base.Le.refl _) rfl rfl (u_storeN (vs := [_, _]) 1 2 rfl rfl rfl siz109 rfl (mem_c rfl (mem_c rfl mem_n)) rfl (by simp)) ?_ ?_
       ·
        rintro _ _ rfl
        refine ⟨.inl (by kernel_rfl), ?_⟩
        refine D_done (by kernel_rfl) ?_
        clear hm
        refine x_pullb 1 rfl ?_
        refine x_pullb 1 rfl ?_
        refine x_pullb 2 rfl ?_
        refine x_pullb 3 rfl ?_
        exact x_join (e' := [(1, .pointer (some ⟨g639, 0, none⟩)), (3, .map (some g640)), (4, .int .i64 ((k1051 : Int))), (5, .pointer (some ⟨g1065, 0, none⟩)), (6, .pointer (some ⟨g1077, 0, none⟩)), (7, .pointer (some ⟨g1078, 0, none⟩)), (11, .slice A8 (s1.Links).length c9), (12, .int .i64 ((s1.Links.length : Int))), (13, .int .i64 ((k1051 : Int)))]) ⟨rfl, rfl, rfl, rfl, rfl, rfl, rfl, rfl, rfl, trivial⟩ (.refl _) ⟨g1077, g1078, rfl, rfl, (Base.Le.refl _)⟩
       exact R_nil
      exact R_nil
     exact R_nil
    exact R_nil
   ·
    rintro b1070 _ _ ⟨g1072, g1073, rfl, rfl, hle1071⟩
    have hm := hk1074
    refine c_seq ?_
    refine c_block ?_
    obtain ⟨x1086, hj1087, hk1087⟩ := bindS hm
    refine c_join (fun b1084 e' hp' => [(1, .pointer (some ⟨g639, 0, none⟩)), (3, .map (some g640)), (4, .int .i64 ((k1051 : Int))), (5, .pointer (some ⟨g1065, 0, none⟩)), (6, .pointer (some ⟨g1072, 0, none⟩)), (7, .pointer (some ⟨g1073, 0, none⟩)), (11, .slice A8 (s1.Links).length c9), (12, .int .i64 ((s1.Links.length : Int))), (13, .int .i64 ((k1051 : Int))), (28, .bool (x1086))] = e' ∧ (g639, Cl 28 [.slice A2 (s1.Stations).length c3, .slice A5 (s1.Sections).length c6, .slice A8 (s1.Links).length c9, .slice A11 (s1.Signals).length c12, .slice A14 (s1.Gates).length c15]) :: (g1065, Cl 118 [.int .i64 (x1055.A), .int .i64 (x1055.EndA), .int .i64 (x1055.B), .int .i64 (x1055.EndB)]) :: (g1072, Cl 109 [.int .i64 (x1055.A), .int .i64 (x1055.EndA)]) :: (g1073, Cl 109 [.int .i64 (x1055.B), .int .i64 (x1055.EndB)]) :: (hs1048 ++ R) = hp' ∧ b1070.Le b1084) ?_ ?_
    ·
     have hm := hj1087
     refine c_region ?_
     refine t_st rfl (st_loadD (vs := [_, _, _, _, _]) 0 5 rfl agg28 rfl rfl rfl) ?_
     refine t_st rfl (st_loadD (vs := [_, _]) 2 2 rfl agg109 rfl rfl rfl) ?_
     obtain ⟨x1088, hcl1089, hm⟩ := bindS hm
     refine t_do rfl (u_callW0 _ call67 rfl (fun w ho => cLineHas _ [] s1 (⟨x1055.A, x1055.EndA⟩ : LineEnd) A2 c3 A5 c6 A8 c9 A11 c12 A14 c15 ((h4.le (hle1046.trans hle1071)).old ho) ((h7.le (hle1046.trans hle1071)).old ho) ((h10.le (hle1046.trans hle1071)).old ho) ((h13.le (hle1046.trans hle1071)).old ho) ((h16.le (hle1046.trans hle1071)).old ho) x1088 hcl1089) (fun _ _ _ h => h.2.symm)) ?_
     rintro _ _ ⟨⟨_, rfl, _⟩, rfl⟩
     rcases Bool.eq_false_or_eq_true x1088 with hc1090 | hc1090
     ·
      rw [if_pos hc1090] at hm
      refine t_resp 31 rfl (v' := .bool true) (by rw [hc1090] <;> rfl) ?_
      refine t_st rfl (st_not_t rfl) ?_
      refine t_mv rfl rfl ?_
      refine t_yes 33 rfl rfl rfl ?_
      refine t_st rfl (st_loadD (vs := [_, _, _, _, _]) 0 5 rfl agg28 rfl rfl rfl) ?_
      refine t_yes 33 rfl rfl rfl ?_
      refine t_st rfl (st_loadD (vs := [_, _]) 3 2 rfl agg109 rfl rfl rfl) ?_
      refine t_yes 33 rfl rfl rfl ?_
      obtain ⟨x1091, hcl1092, hm⟩ := bindS hm
      refine t_do rfl (u_callW0 _ call67 rfl (fun w ho => cLineHas _ [] s1 (⟨x1055.B, x1055.EndB⟩ : LineEnd) A2 c3 A5 c6 A8 c9 A11 c12 A14 c15 ((h4.le (hle1046.trans hle1071)).old ho) ((h7.le (hle1046.trans hle1071)).old ho) ((h10.le (hle1046.trans hle1071)).old ho) ((h13.le (hle1046.trans hle1071)).old ho) ((h16.le (hle1046.trans hle1071)).old ho) x1091 hcl1092) (fun _ _ _ h => h.2.symm)) ?_
      rintro _ _ ⟨⟨_, rfl, _⟩, rfl⟩
      refine t_yes 33 rfl rfl rfl ?_
      refine t_st rfl (st_not rfl) ?_
      refine t_st rfl (st_pick_f rfl rfl) ?_
      refine t_as rfl rfl ?_
      refine t_nil ?_
      obtain rfl := some1 hm
      refine x_pullb 3 rfl ?_
      refine x_pullb 3 rfl ?_
      refine x_pullb 3 rfl ?_
      refine x_pullb 3 rfl ?_
      exact x_join (e' := [(1, .pointer (some ⟨g639, 0, none⟩)), (3, .map (some g640)), (4, .int .i64 ((k1051 : Int))), (5, .pointer (some ⟨g1065, 0, none⟩)), (6, .pointer (some ⟨g1072, 0, none⟩)), (7, .pointer (some ⟨g1073, 0, none⟩)), (11, .slice A8 (s1.Links).length c9), (12, .int .i64 ((s1.Links.length : Int))), (13, .int .i64 ((k1051 : Int))), (28, .bool (!x1091))]) ⟨rfl, rfl, rfl, rfl, rfl, rfl, rfl, rfl, rfl, rfl, trivial⟩ (.refl _) ⟨rfl, rfl, (Base.Le.refl _)⟩
     ·
      rw [if_neg (fun hh => Bool.noConfusion (hh.symm.trans hc1090))] at hm
      refine t_resp 31 rfl (v' := .bool false) (by rw [hc1090] <;> rfl) ?_
      refine t_st rfl (st_not_f rfl) ?_
      refine t_mv rfl rfl ?_
      refine t_no 33 rfl rfl rfl rfl rfl ?_
      refine t_no 33 rfl rfl rfl rfl rfl ?_
      refine t_no 33 rfl rfl rfl rfl rfl ?_
      refine t_no 33 rfl rfl rfl rfl rfl ?_
      refine t_st rfl (st_pick_t rfl rfl) ?_
      refine t_as rfl rfl ?_
      refine t_nil ?_
      obtain rfl := some1 hm
      refine x_pullb 3 rfl ?_
      refine x_pullb 3 rfl ?_
      refine x_pullb 3 rfl ?_
      refine x_pullb 3 rfl ?_
      exact x_join (e' := [(1, .pointer (some ⟨g639, 0, none⟩)), (3, .map (some g640)), (4, .int .i64 ((k1051 : Int))), (5, .pointer (some ⟨g1065, 0, none⟩)), (6, .pointer (some ⟨g1072, 0, none⟩)), (7, .pointer (some ⟨g1073, 0, none⟩)), (11, .slice A8 (s1.Links).length c9), (12, .int .i64 ((s1.Links.length : Int))), (13, .int .i64 ((k1051 : Int))), (28, .bool (true))]) ⟨rfl, rfl, rfl, rfl, rfl, rfl, rfl, rfl, rfl, rfl, trivial⟩ (.refl _) ⟨rfl, rfl, (Base.Le.refl _)⟩
    ·
     rintro b1084 _ _ ⟨rfl, rfl, hle1085⟩
     have hm := hk1087
     refine c_cond _ rfl (fun hc1093 => ?_) (fun hc1093 => ?_)
     ·
      rw [if_pos hc1093] at hm
      refine c_sr ?_
      refine t_as rfl rfl ?_
      refine t_ne ?_
      refine c_ret ?_
      refine x_block_ret ?_
      refine x_then_ret ?_
      refine x_block_ret ?_
      refine x_then_ret ?_
      refine x_then_ret ?_
      refine x_block_ret ?_
      refine x_then_ret ?_
      have hq1094 := houtL643 _ (Option.some.inj hm).symm
      rw [hq1094] at hk1054
      have hm := elimR hk1054
      obtain rfl := some1 hm
      exact retM (rs := [.tmp 2]) [.int .i64 (3)] (hle1046.trans (hle1071.trans hle1085)) (by decide) rfl ⟨rfl, trivial⟩ rfl (.cons _ (.cons _ (.cons _ (.cons _ (sub_skip hs1048 (.refl _)))))) ⟨rfl, rfl⟩
     ·
      rw [if_neg (fun hh => Bool.noConfusion (hh.symm.trans hc1093))] at hm
      refine c_sr ?_
      refine t_st rfl (st_field rfl fld118_0) ?_
      refine t_st rfl (st_load 1 rfl one3 rfl rfl) ?_
      refine t_st rfl (st_field rfl fld118_2) ?_
      refine t_st rfl (st_load 1 rfl one3 rfl rfl) ?_
      refine t_st rfl (st_eql rfl rfl) ?_
      refine t_as rfl rfl ?_
      refine t_ne ?_
      refine c_cond _ rfl (fun hc1095 => ?_) (fun hc1095 => ?_)
      ·
       rw [if_pos (of_decide_eq_true hc1095)] at hm
       refine c_sr ?_
       refine t_as rfl rfl ?_
       refine t_ne ?_
       refine c_ret ?_
       refine x_block_ret ?_
       refine x_then_ret ?_
       refine x_block_ret ?_
       refine x_then_ret ?_
       refine x_then_ret ?_
       refine x_block_ret ?_
       refine x_then_ret ?_
       have hq1096 := houtL643 _ (Option.some.inj hm).symm
       rw [hq1096] at hk1054
       have hm := elimR hk1054
       obtain rfl := some1 hm
       exact retM (rs := [.tmp 2]) [.int .i64 (1)] (hle1046.trans (hle1071.trans hle1085)) (by decide) rfl ⟨rfl, trivial⟩ rfl (.cons _ (.cons _ (.cons _ (.cons _ (sub_skip hs1048 (.refl _)))))) ⟨rfl, rfl⟩
      ·
       rw [if_neg (of_decide_eq_false hc1095)] at hm
       refine c_sr ?_
       refine t_st rfl (st_field rfl fld118_0) ?_
       refine t_st rfl (st_load 1 rfl one3 rfl rfl) ?_
       refine t_st rfl (st_field rfl fld118_2) ?_
       refine t_st rfl (st_load 1 rfl one3 rfl rfl) ?_
       refine t_st rfl (st_gtr rfl rfl) ?_
       refine t_as rfl rfl ?_
       refine t_ne ?_
       refine c_cond _ rfl (fun hc1097 => ?_) (fun hc1097 => ?_)
       ·
        rw [if_pos (of_decide_eq_true hc1097)] at hm
        refine c_sr ?_
        refine t_as rfl rfl ?_
        refine t_ne ?_
        refine c_ret ?_
        refine x_block_ret ?_
        refine x_then_ret ?_
        refine x_block_ret ?_
        refine x_then_ret ?_
        refine x_then_ret ?_
        refine x_block_ret ?_
        refine x_then_ret ?_
        have hq1098 := houtL643 _ (Option.some.inj hm).symm
        rw [hq1098] at hk1054
        have hm := elimR hk1054
        obtain rfl := some1 hm
        exact retM (rs := [.tmp 2]) [.int .i64 (5)] (hle1046.trans (hle1071.trans hle1085)) (by decide) rfl ⟨rfl, trivial⟩ rfl (.cons _ (.cons _ (.cons _ (.cons _ (sub_skip hs1048 (.refl _)))))) ⟨rfl, rfl⟩
       ·
        rw [if_neg (of_decide_eq_false hc1097)] at hm
        refine c_skip ?_
        refine x_block_normal ?_
        refine x_then_normal ?_
        obtain ⟨t1156, hj1155, hk1155⟩ := bindS hm
        refine c_join (fun b1153 e' hp' => [(1, .pointer (some ⟨g639, 0, none⟩)), (3, .map (some g640)), (6, .pointer (some ⟨g1072, 0, none⟩)), (7, .pointer (some ⟨g1073, 0, none⟩)), (11, .slice A8 (s1.Links).length c9), (12, .int .i64 ((s1.Links.length : Int))), (13, .int .i64 ((k1051 : Int)))] = e' ∧ (g639, Cl 28 [.slice A2 (s1.Stations).length c3, .slice A5 (s1.Sections).length c6, .slice A8 (s1.Links).length c9, .slice A11 (s1.Signals).length c12, .slice A14 (s1.Gates).length c15]) :: (g1072, Cl 109 [.int .i64 (x1055.A), .int .i64 (x1055.EndA)]) :: (g1073, Cl 109 [.int .i64 (x1055.B), .int .i64 (x1055.EndB)]) :: (hs1048 ++ R) = hp' ∧ b1084.Le b1153 ∧ t1156 = .inl ()) ?_ ?_
        ·
         have hm := hj1155
         refine c_sr ?_
         refine t_mv rfl rfl ?_
         refine t_st rfl (st_gtr rfl rfl) ?_
         refine t_ne ?_
         refine c_cond _ rfl (fun hc1157 => ?_) (fun hc1157 => ?_)
         ·
          rw [if_pos (of_decide_eq_true hc1157)] at hm
          refine c_sr ?_
          refine t_st rfl (st_field rfl fld28_2) ?_
          refine t_st rfl (st_load 0 rfl one24 rfl rfl) ?_
          refine t_mv rfl rfl ?_
          obtain ⟨_, h1158, hm⟩ := bindS hm
          have h1158 := (chk_some h1158).2
          refine t_st rfl (st_sub rfl rfl h1158) ?_
          obtain ⟨x1159, h1160, hm⟩ := bindS hm
          obtain ⟨j1161, hj1162, hx1163⟩ := idx_some h1160
          obtain ⟨cs1164, hr1165, hcs1166, hA1167, hlt1168⟩ := FZ.get (sz := 4) rfl (by decide) (h10.le (hle1046.trans (hle1071.trans hle1085))) hx1163
          obtain ⟨_, _, rfl, rfl, ⟨_, _, rfl, rfl, ⟨_, _, rfl, rfl, rfl⟩⟩⟩ := hr1165
          refine t_st rfl (st_index_old j1161 rfl rfl hj1162 hlt1168 hA1167 sl24) ?_
          refine t_st rfl (st_loadN_old (vs := [.int .i64 (x1159.A), .int .i64 (x1159.EndA), .int .i64 (x1159.B), .int .i64 (x1159.EndB)]) 4 rfl agg118 hA1167 rfl (fun j u hu => hcs1166 j u hu)) ?_
          refine t_do rfl (u_alloc [.int .i64 0, .int .i64 0, .int .i64 0, .int .i64 0] zero118 rfl) ?_
          rintro _ _ ⟨g1169, rfl, rfl⟩
          refine t_do rfl (u_storeN (vs := [_, _, _, _]) 0 4 rfl rfl rfl siz118 rfl (mem_c rfl (mem_c rfl (mem_c rfl (mem_c rfl mem_n)))) rfl (by simp)) ?_
          rintro _ _ rfl
          refine t_ne ?_
          obtain ⟨x1190, hj1191, hk1191⟩ := bindS hm
          refine c_join (fun b1188 e' hp' => [(1, .pointer (some ⟨g639, 0, none⟩)), (3, .map (some g640)), (6, .pointer (some ⟨g1072, 0, none⟩)), (7, .pointer (some ⟨g1073, 0, none⟩)), (11, .slice A8 (s1.Links).length c9), (12, .int .i64 ((s1.Links.length : Int))), (13, .int .i64 ((k1051 : Int))), (71, .bool (x1190))] = e' ∧ (g639, Cl 28 [.slice A2 (s1.Stations).length c3, .slice A5 (s1.Sections).length c6, .slice A8 (s1.Links).length c9, .slice A11 (s1.Signals).length c12, .slice A14 (s1.Gates).length c15]) :: (g1072, Cl 109 [.int .i64 (x1055.A), .int .i64 (x1055.EndA)]) :: (g1073, Cl 109 [.int .i64 (x1055.B), .int .i64 (x1055.EndB)]) :: (hs1048 ++ R) = hp' ∧ b1084.Le b1188) ?_ ?_
          ·
           have hm := hj1191
           obtain ⟨x1201, hcl1202, hm⟩ := bindS hm
           obtain ⟨x1203, hcl1204, hm⟩ := bindS hm
           obtain ⟨x1208, hcl1209, hm⟩ := bindS hm
           refine D_drawI mixed (.refl _) ?_
           refine E_st 0 rfl (st_field rfl fld118_0) ?_
           refine E_st 1 rfl (st_load 0 rfl one3 rfl rfl) ?_
           refine E_st 2 rfl (st_field rfl fld118_0) ?_
           refine E_st 3 rfl (st_load 2 rfl one3 rfl rfl) ?_
           refine E_st 5 rfl (st_field rfl fld118_1) ?_
           refine E_st 6 rfl (st_load 0 rfl one3 rfl rfl) ?_
           refine E_st 7 rfl (st_field rfl fld118_1) ?_
           refine E_st 8 rfl (st_load 2 rfl one3 rfl rfl) ?_
           refine E_out ?_
           refine D_all [4] (by kernel_rfl) rfl ?_
           refine R_do (Base.Le.refl _) rfl rfl (u_callW0 _ call27 rfl (fun w ho => cCmpCompare _ [] x1159.A x1055.A x1201 hcl1202) (fun _ _ _ h => h.2.symm)) ?_ ?_
           ·
            rintro _ _ ⟨⟨_, rfl, _⟩, rfl⟩
            refine ⟨.inr (.refl _), ?_⟩
            refine D_all [9] (by kernel_rfl) rfl ?_
            refine R_do (Base.Le.refl _) rfl rfl (u_callW0 _ call27 rfl (fun w ho => cCmpCompare _ [] x1159.EndA x1055.EndA x1203 hcl1204) (fun _ _ _ h => h.2.symm)) ?_ ?_
            ·
             rintro _ _ ⟨⟨_, rfl, _⟩, rfl⟩
             refine ⟨.inr (.refl _), ?_⟩
             refine D_all [10] (by kernel_rfl) rfl ?_
             refine R_do (Base.Le.refl _) rfl rfl (u_bslice (el := 3) [(0, .int .i64 (x1201)), (1, .int .i64 (x1203))] [.int .i64 (x1201), .int .i64 (x1203)] rfl (fun _ => by kernel_rfl)) ?_ ?_
             ·
              rintro _ _ ⟨g1205, rfl, rfl⟩
              refine ⟨.inr (.cons _ (.refl _)), ?_⟩
              refine d_seg 0 [_, _, _, _, _] (hs1048 ++ R) rfl rfl ?_
              have h1207 : OS 3 (OT.fr (RT.int .i64)) b1084.w (.slice (some ⟨g1205, 0, none⟩) 2 2) [x1201, x1203] [(g1205, Cl 3 [.int .i64 (x1201), .int .i64 (x1203)])] := OS.lit [[.int .i64 (x1201)], [.int .i64 (x1203)]] rfl ⟨rfl, ⟨rfl, trivial⟩⟩ rfl (by decide)
              refine D_all [11] (by kernel_rfl) rfl ?_
              refine R_do (Base.Le.refl _) rfl rfl (u_callW0 _ call68 rfl (fun w ho => cCmpOr _ [] [x1201, x1203] (some ⟨g1205, 0, none⟩) 2 (OS.now (o := (OT.fr (RT.int .i64))) (l := [x1201, x1203]) (hs := [(g1205, Cl 3 [.int .i64 (x1201), .int .i64 (x1203)])]) h1207 ho (.cons _ (.cons _ (.cons _ (.cons _ (.cons _ (List.sublist_append_left _ _))))))) x1208 hcl1209) (fun _ _ _ h => h.2.symm)) ?_ ?_
              ·
               rintro _ _ ⟨⟨_, rfl, _⟩, rfl⟩
               refine ⟨.inr (.cons_cons _ (.cons_cons _ (.cons_cons _ (.cons_cons _ (.cons_cons _ (sub_skip [(g1205, Cl 3 [.int .i64 (x1201), .int .i64 (x1203)])] (.refl _))))))), ?_⟩
               refine E_in (.cons_cons _ (.cons_cons _ (.cons_cons _ (.cons_cons _ (.cons_cons _ (sub_skip [(g1205, Cl 3 [.int .i64 (x1201), .int .i64 (x1203)])] (.refl _))))))) ?_
               refine E_st 12 rfl (st_geq rfl rfl) ?_
               refine E_out ?_
               refine D_done (by kernel_rfl) ?_
               obtain rfl := some1 hm
               refine x_pullb 4 rfl ?_
               refine x_pullb 4 rfl ?_
               refine x_pullb 3 rfl ?_
               refine x_front2 [_, _, _, _, _] [(g1205, Cl 3 [.int .i64 (x1201), .int .i64 (x1203)])] hs1048 R rfl ?_
               exact x_join (e' := [(1, .pointer (some ⟨g639, 0, none⟩)), (3, .map (some g640)), (6, .pointer (some ⟨g1072, 0, none⟩)), (7, .pointer (some ⟨g1073, 0, none⟩)), (11, .slice A8 (s1.Links).length c9), (12, .int .i64 ((s1.Links.length : Int))), (13, .int .i64 ((k1051 : Int))), (71, .bool (decide (0 ≤ x1208)))]) ⟨rfl, rfl, rfl, rfl, rfl, rfl, rfl, rfl, trivial⟩ (.cons_cons _ (.cons_cons _ (.cons_cons _ (.cons _ (.cons _ (sub_app hs1048 (sub_skip [(g1205, Cl 3 [.int .i64 (x1201), .int .i64 (x1203)])] (.refl _)))))))) ⟨rfl, rfl, (Base.Le.refl _)⟩
              exact R_nil
             exact R_nil
            exact R_nil
           exact R_nil
          ·
           rintro b1188 _ _ ⟨rfl, rfl, hle1189⟩
           have hm := hk1191
           refine c_cond _ rfl (fun hc1210 => ?_) (fun hc1210 => ?_)
           ·
            rw [if_pos hc1210] at hm
            refine c_sr ?_
            refine t_as rfl rfl ?_
            refine t_ne ?_
            refine c_ret ?_
            refine x_then_ret ?_
            refine x_block_ret ?_
            refine x_then_ret ?_
            refine x_then_ret ?_
            refine x_block_ret ?_
            refine x_then_ret ?_
            have hq1211 := (Option.some.inj hm).symm
            rw [hq1211] at hk1155
            have hm := elimR hk1155
            have hq1212 := houtL643 _ (Option.some.inj hm).symm
            rw [hq1212] at hk1054
            have hm := elimR hk1054
            obtain rfl := some1 hm
            exact retM (rs := [.tmp 2]) [.int .i64 (5)] (hle1046.trans (hle1071.trans (hle1085.trans hle1189))) (by decide) rfl ⟨rfl, trivial⟩ rfl (.cons _ (.cons _ (.cons _ (sub_skip hs1048 (.refl _))))) ⟨rfl, rfl⟩
           ·
            rw [if_neg (fun hh => Bool.noConfusion (hh.symm.trans hc1210))] at hm
            refine c_skip ?_
            have hq := (Option.some.inj hm).symm
            refine x_pullb 2 rfl ?_
            refine x_pullb 2 rfl ?_
            refine x_pullb 2 rfl ?_
            exact x_join (e' := [(1, .pointer (some ⟨g639, 0, none⟩)), (3, .map (some g640)), (6, .pointer (some ⟨g1072, 0, none⟩)), (7, .pointer (some ⟨g1073, 0, none⟩)), (11, .slice A8 (s1.Links).length c9), (12, .int .i64 ((s1.Links.length : Int))), (13, .int .i64 ((k1051 : Int)))]) ⟨rfl, rfl, rfl, rfl, rfl, rfl, rfl, trivial⟩ (.refl _) ⟨rfl, rfl, hle1189, hq⟩
         ·
          rw [if_neg (of_decide_eq_false hc1157)] at hm
          refine c_skip ?_
          have hq := (Option.some.inj hm).symm
          refine x_pullb 3 rfl ?_
          refine x_pullb 3 rfl ?_
          refine x_pullb 2 rfl ?_
          exact x_join (e' := [(1, .pointer (some ⟨g639, 0, none⟩)), (3, .map (some g640)), (6, .pointer (some ⟨g1072, 0, none⟩)), (7, .pointer (some ⟨g1073, 0, none⟩)), (11, .slice A8 (s1.Links).length c9), (12, .int .i64 ((s1.Links.length : Int))), (13, .int .i64 ((k1051 : Int)))]) ⟨rfl, rfl, rfl, rfl, rfl, rfl, rfl, trivial⟩ (.cons_cons _ (.cons_cons _ (.cons_cons _ (.cons _ (.refl _))))) ⟨rfl, rfl, (Base.Le.refl _), hq⟩
        ·
         rintro b1153 _ _ ⟨rfl, rfl, hle1154, hq1213⟩
         rw [hq1213] at hk1155
         have hm := elimL hk1155
         refine c_seq ?_
         obtain ⟨x1229, hj1230, hk1230⟩ := bindS hm
         refine c_join (fun b1227 e' hp' => [(1, .pointer (some ⟨g639, 0, none⟩)), (3, .map (some g640)), (6, .pointer (some ⟨g1072, 0, none⟩)), (7, .pointer (some ⟨g1073, 0, none⟩)), (11, .slice A8 (s1.Links).length c9), (12, .int .i64 ((s1.Links.length : Int))), (13, .int .i64 ((k1051 : Int))), (79, .bool (x1229))] = e' ∧ (g639, Cl 28 [.slice A2 (s1.Stations).length c3, .slice A5 (s1.Sections).length c6, .slice A8 (s1.Links).length c9, .slice A11 (s1.Signals).length c12, .slice A14 (s1.Gates).length c15]) :: (g1072, Cl 109 [.int .i64 (x1055.A), .int .i64 (x1055.EndA)]) :: (g1073, Cl 109 [.int .i64 (x1055.B), .int .i64 (x1055.EndB)]) :: (hs1048 ++ R) = hp' ∧ b1153.Le b1227) ?_ ?_
         ·
          have hm := hj1230
          refine c_region ?_
          refine t_mv rfl rfl ?_
          refine t_st rfl (st_loadD (vs := [_, _]) 1 2 rfl agg109 rfl rfl rfl) ?_
          obtain ⟨x1234, h1236, hm⟩ := bindS hm
          have hx1235 := Option.some.inj h1236
          obtain ⟨v1231, hv1232, hr1233⟩ := OM.lookF kok109 (z0 := false) (h1049.le (hle1071.trans (hle1085.trans hle1154))) (key := .agg #[.int .i64 (x1055.A), .int .i64 (x1055.EndA)]) (k := (⟨x1055.A, x1055.EndA⟩ : LineEnd)) ⟨[.int .i64 (x1055.A), .int .i64 (x1055.EndA)], rfl, ⟨[.int .i64 (x1055.A)], _, rfl, rfl, rfl⟩⟩ mapt137 zero4 rfl
          rw [hx1235] at hv1232
          obtain rfl : v1231 = .bool (x1234) := by have hv1232 : [v1231] = [.bool (x1234)] := hv1232; injection hv1232
          refine t_st rfl (st_mlook (ok := false) rfl rfl (fun w ho => hr1233 _ w ho (.cons _ (.cons _ (.cons _ (List.sublist_append_left _ _)))) false)) ?_
          rcases Bool.eq_false_or_eq_true x1234 with hc1237 | hc1237
          ·
           rw [if_pos hc1237] at hm
           refine t_resp 74 rfl (v' := .bool true) (by rw [hc1237] <;> rfl) ?_
           refine t_mv rfl rfl ?_
           refine t_no 75 rfl rfl rfl rfl rfl ?_
           refine t_no 75 rfl rfl rfl rfl rfl ?_
           refine t_no 75 rfl rfl rfl rfl rfl ?_
           refine t_st rfl (st_pick_t rfl rfl) ?_
           refine t_nil ?_
           obtain rfl := some1 hm
           refine x_pullb 2 rfl ?_
           refine x_pullb 2 rfl ?_
           refine x_pullb 2 rfl ?_
           exact x_join (e' := [(1, .pointer (some ⟨g639, 0, none⟩)), (3, .map (some g640)), (6, .pointer (some ⟨g1072, 0, none⟩)), (7, .pointer (some ⟨g1073, 0, none⟩)), (11, .slice A8 (s1.Links).length c9), (12, .int .i64 ((s1.Links.length : Int))), (13, .int .i64 ((k1051 : Int))), (79, .bool (true))]) ⟨rfl, rfl, rfl, rfl, rfl, rfl, rfl, rfl, trivial⟩ (.refl _) ⟨rfl, rfl, (Base.Le.refl _)⟩
          ·
           rw [if_neg (fun hh => Bool.noConfusion (hh.symm.trans hc1237))] at hm
           refine t_resp 74 rfl (v' := .bool false) (by rw [hc1237] <;> rfl) ?_
           refine t_mv rfl rfl ?_
           refine t_yes 75 rfl rfl rfl ?_
           refine t_mv rfl rfl ?_
           refine t_yes 75 rfl rfl rfl ?_
           refine t_st rfl (st_loadD (vs := [_, _]) 2 2 rfl agg109 rfl rfl rfl) ?_
           refine t_yes 75 rfl rfl rfl ?_
           obtain ⟨x1241, h1243, hm⟩ := bindS hm
           have hx1242 := Option.some.inj h1243
           obtain ⟨v1238, hv1239, hr1240⟩ := OM.lookF kok109 (z0 := false) (h1049.le (hle1071.trans (hle1085.trans hle1154))) (key := .agg #[.int .i64 (x1055.B), .int .i64 (x1055.EndB)]) (k := (⟨x1055.B, x1055.EndB⟩ : LineEnd)) ⟨[.int .i64 (x1055.B), .int .i64 (x1055.EndB)], rfl, ⟨[.int .i64 (x1055.B)], _, rfl, rfl, rfl⟩⟩ mapt137 zero4 rfl
           rw [hx1242] at hv1239
           obtain rfl : v1238 = .bool (x1241) := by have hv1239 : [v1238] = [.bool (x1241)] := hv1239; injection hv1239
           refine t_st rfl (st_mlook (ok := false) rfl rfl (fun w ho => hr1240 _ w ho (.cons _ (.cons _ (.cons _ (List.sublist_append_left _ _)))) false)) ?_
           refine t_st rfl (st_pick_f rfl rfl) ?_
           refine t_nil ?_
           obtain rfl := some1 hm
           refine x_pullb 2 rfl ?_
           refine x_pullb 2 rfl ?_
           refine x_pullb 2 rfl ?_
           exact x_join (e' := [(1, .pointer (some ⟨g639, 0, none⟩)), (3, .map (some g640)), (6, .pointer (some ⟨g1072, 0, none⟩)), (7, .pointer (some ⟨g1073, 0, none⟩)), (11, .slice A8 (s1.Links).length c9), (12, .int .i64 ((s1.Links.length : Int))), (13, .int .i64 ((k1051 : Int))), (79, .bool (x1241))]) ⟨rfl, rfl, rfl, rfl, rfl, rfl, rfl, rfl, trivial⟩ (.refl _) ⟨rfl, rfl, (Base.Le.refl _)⟩
         ·
          rintro b1227 _ _ ⟨rfl, rfl, hle1228⟩
          have hm := hk1230
          refine c_cond _ rfl (fun hc1244 => ?_) (fun hc1244 => ?_)
          ·
           rw [if_pos hc1244] at hm
           refine c_sr ?_
           refine t_as rfl rfl ?_
           refine t_ne ?_
           refine c_ret ?_
           refine x_then_ret ?_
           refine x_block_ret ?_
           refine x_then_ret ?_
           refine x_then_ret ?_
           refine x_block_ret ?_
           refine x_then_ret ?_
           have hq1245 := houtL643 _ (Option.some.inj hm).symm
           rw [hq1245] at hk1054
           have hm := elimR hk1054
           obtain rfl := some1 hm
           exact retM (rs := [.tmp 2]) [.int .i64 (6)] (hle1046.trans (hle1071.trans (hle1085.trans (hle1154.trans hle1228)))) (by decide) rfl ⟨rfl, trivial⟩ rfl (.cons _ (.cons _ (.cons _ (sub_skip hs1048 (.refl _))))) ⟨rfl, rfl⟩
          ·
           rw [if_neg (fun hh => Bool.noConfusion (hh.symm.trans hc1244))] at hm
           refine c_skip ?_
           refine x_then_normal ?_
           refine D_drawI mixed (.cons_cons _ (.cons_cons _ (.cons_cons _ (sub_skip hs1048 (.refl _))))) ?_
           refine E_st 0 rfl (st_move rfl) ?_
           refine E_st 1 rfl (st_loadD (vs := [_, _]) 1 2 rfl agg109 rfl rfl rfl) ?_
           refine E_st 2 rfl (st_move rfl) ?_
           refine E_st 3 rfl (st_loadD (vs := [_, _]) 2 2 rfl agg109 rfl rfl rfl) ?_
           refine E_out ?_
           refine D_all [4] (by kernel_rfl) rfl ?_
           refine R_do (Base.Le.refl _) rfl rfl (u_mputF (k := (⟨x1055.A, x1055.EndA⟩ : LineEnd)) kok109 [_, _, _] [] R rfl (h1049.le (hle1071.trans (hle1085.trans (hle1154.trans hle1228)))) mapt137 rfl rfl rfl (⟨[.int .i64 (x1055.A), .int .i64 (x1055.EndA)], rfl, ⟨[.int .i64 (x1055.A)], _, rfl, rfl, rfl⟩⟩) ⟨rfl, rfl⟩ _ (.inl rfl)) ?_ ?_
           ·
            rintro _ _ ⟨hs1252, rfl, hsub1253, h1254⟩
            refine ⟨.inr (.cons_cons _ (.cons_cons _ (.cons_cons _ (sub_skip hs1252 (.refl _))))), ?_⟩
            refine D_all [5] (by kernel_rfl) rfl ?_
            refine R_do (Base.Le.refl _) rfl rfl (u_mputF (k := (⟨x1055.B, x1055.EndB⟩ : LineEnd)) kok109 [_, _, _] [] R rfl h1254 mapt137 rfl rfl rfl (⟨[.int .i64 (x1055.B), .int .i64 (x1055.EndB)], rfl, ⟨[.int .i64 (x1055.B)], _, rfl, rfl, rfl⟩⟩) ⟨rfl, rfl⟩ _ (.inl rfl)) ?_ ?_
            ·
             rintro _ _ ⟨hs1255, rfl, hsub1256, h1257⟩
             refine ⟨.inl (by kernel_rfl), ?_⟩
             refine D_done (by kernel_rfl) ?_
             refine x_block_normal ?_
             refine x_then_normal ?_
             refine c_region ?_
             refine t_st rfl (st_add rfl rfl (by omega)) ?_
             refine t_mv rfl rfl ?_
             refine t_nil ?_
             exact x_againM (mput (mput l1050 (⟨x1055.A, x1055.EndA⟩ : LineEnd) true) (⟨x1055.B, x1055.EndB⟩ : LineEnd) true) (Option.some.inj hm).symm (e' := [(1, .pointer (some ⟨g639, 0, none⟩)), (3, .map (some g640)), (11, .slice A8 (s1.Links).length c9), (12, .int .i64 ((s1.Links.length : Int))), (13, .int .i64 ((k1051 : Int) + 1))]) ⟨rfl, rfl, rfl, rfl, rfl, trivial⟩ (.cons_cons _ (.cons _ (.cons _ (.refl _)))) ⟨hs1255, rfl, rfl, ((hle1046.trans (hle1071.trans (hle1085.trans (hle1154.trans hle1228))))), h1257⟩
            exact R_nil
           exact R_nil
  ·
   rintro l1050 b1045 _ _ ⟨hs1048, rfl, rfl, hle1046, h1049⟩ hq1259
   rw [hq1259] at hk1054
   have hm := elimL hk1054
   refine c_sr ?_
   refine t_st rfl (st_lss_f rfl rfl (by omega)) ?_
   refine t_ne ?_
   refine c_seq ?_
   refine c_cond_f rfl ?_
   refine c_exit ?_
   refine x_then_exit ?_
   refine x_then_exit ?_
   refine x_block_out ?_
   refine x_then_normal ?_
   refine c_sr ?_
   refine t_as rfl rfl ?_
   refine t_ne ?_
   refine c_ret ?_
   obtain rfl := some1 hm
   exact retM (rs := [.tmp 2]) [.int .i64 (0)] hle1046 (by decide) rfl ⟨rfl, trivial⟩ rfl (.cons _ (sub_skip hs1048 (.refl _))) ⟨rfl, rfl⟩

set_option maxRecDepth 20000 in
theorem cLineJoined (b : Base) (R : Hp) (s1 : ApiNet) (s17 : LineEnd) (A2 : Option Addr) (c3 : Nat) (A5 : Option Addr) (c6 : Nat) (A8 : Option Addr) (c9 : Nat) (A11 : Option Addr) (c12 : Nat) (A14 : Option Addr) (c15 : Nat) (h4 : FZ RT.str b.w A2 c3 s1.Stations) (h7 : FZ rApiSection b.w A5 c6 s1.Sections) (h10 : FZ rApiLink b.w A8 c9 s1.Links) (h13 : FZ rApiSignal b.w A11 c12 s1.Signals) (h16 : FZ rApiGate b.w A14 c15 s1.Gates) (x82 : Int) (x83 : Int) (x84 : Bool) (hm : mLineJoined s1 s17 = some (x82, x83, x84)) :
    CallsG Tryz.prog 58 [.agg #[.slice A2 (s1.Stations).length c3, .slice A5 (s1.Sections).length c6, .slice A8 (s1.Links).length c9, .slice A11 (s1.Signals).length c12, .slice A14 (s1.Gates).length c15], .agg #[.int .i64 (s17.section_), .int .i64 (s17.end_)]] b (R) (fun v b' hp' => .tuple #[.agg #[.int .i64 (x82), .int .i64 (x83)], .bool (x84)] = v ∧ R = hp') := by
  refine fn_enterG 53 Tryz.func58 rfl Tryz.ntmps58 rfl ?_
  unfold mLineJoined at hm
  refine c_sr ?_
  refine t_do rfl (u_box _ rfl rfl) ?_
  rintro _ _ ⟨g85, rfl, rfl⟩
  refine t_do rfl (u_box _ rfl rfl) ?_
  rintro _ _ ⟨g86, rfl, rfl⟩
  refine t_do rfl (u_alloc [.int .i64 0, .int .i64 0] zero109 rfl) ?_
  rintro _ _ ⟨g87, rfl, rfl⟩
  refine t_as rfl rfl ?_
  refine t_ne ?_
  refine c_seq ?_
  refine c_sr ?_
  refine t_st rfl (st_field rfl fld28_2) ?_
  refine t_st rfl (st_load 2 rfl one24 rfl rfl) ?_
  refine t_st rfl (st_len rfl sl24) ?_
  refine t_mv rfl rfl ?_
  refine t_ne ?_
  refine c_block ?_
  have hb89 : s1.Links.length ≤ 9223372036854775807 := (FZ.bd h10)
  refine c_pullb 1 rfl ?_
  obtain ⟨t118, hl119, hk120⟩ := bindS hm
  refine c_forM (fun k117 => fun _ => fun b115 e' hp' => [(3, .pointer (some ⟨g86, 0, none⟩)), (4, .pointer (some ⟨g87, 0, none⟩)), (9, .slice A8 (s1.Links).length c9), (10, .int .i64 ((s1.Links.length : Int))), (11, .int .i64 ((k117 : Int)))] = e' ∧ (g86, Cl 109 [.int .i64 (s17.section_), .int .i64 (s17.end_)]) :: (g87, Cl 109 [.int .i64 (0), .int .i64 (0)]) :: R = hp' ∧ b.Le b115) hl119 (e' := [(3, .pointer (some ⟨g86, 0, none⟩)), (4, .pointer (some ⟨g87, 0, none⟩)), (9, .slice A8 (s1.Links).length c9), (10, .int .i64 ((s1.Links.length : Int))), (11, .int .i64 0)]) ⟨rfl, rfl, rfl, rfl, rfl, trivial⟩ (.cons_cons _ (.cons_cons _ (.cons _ (.refl _)))) ⟨rfl, rfl, (Base.Le.refl _)⟩ ?_ ?_
  ·
   rintro k117 _ b115 _ _ oL88 hknL88 ⟨rfl, rfl, hle116⟩ hstepL88 houtL88
   unfold mLineJoined_L88 at hstepL88
   have hm := hstepL88
   refine c_sr ?_
   refine t_st rfl (st_lss_t rfl rfl (by omega)) ?_
   refine t_ne ?_
   refine c_seq ?_
   refine c_cond_t rfl ?_
   refine c_skip ?_
   refine x_then_normal ?_
   refine c_seq ?_
   refine c_block ?_
   refine c_sr ?_
   obtain ⟨x121, h122, hm⟩ := bindS hm
   obtain ⟨j123, hj124, hx125⟩ := idx_some h122
   obtain ⟨cs126, hr127, hcs128, hA129, hlt130⟩ := FZ.get (sz := 4) rfl (by decide) (h10.le hle116) hx125
   obtain ⟨_, _, rfl, rfl, ⟨_, _, rfl, rfl, ⟨_, _, rfl, rfl, rfl⟩⟩⟩ := hr127
   refine t_st rfl (st_index_old j123 rfl rfl hj124 hlt130 hA129 sl24) ?_
   refine t_st rfl (st_loadN_old (vs := [.int .i64 (x121.A), .int .i64 (x121.EndA), .int .i64 (x121.B), .int .i64 (x121.EndB)]) 4 rfl agg118 hA129 rfl (fun j u hu => hcs128 j u hu)) ?_
   refine t_do rfl (u_alloc [.int .i64 0, .int .i64 0, .int .i64 0, .int .i64 0] zero118 rfl) ?_
   rintro _ _ ⟨g131, rfl, rfl⟩
   refine t_do rfl (u_storeN (vs := [_, _, _, _]) 0 4 rfl rfl rfl siz118 rfl (mem_c rfl (mem_c rfl (mem_c rfl (mem_c rfl mem_n)))) rfl (by simp)) ?_
   rintro _ _ rfl
   refine t_ne ?_
   refine c_block ?_
   obtain ⟨x135, hj136, hk136⟩ := bindS hm
   refine c_join (fun b133 e' hp' => [(3, .pointer (some ⟨g86, 0, none⟩)), (4, .pointer (some ⟨g87, 0, none⟩)), (7, .pointer (some ⟨g131, 0, none⟩)), (9, .slice A8 (s1.Links).length c9), (10, .int .i64 ((s1.Links.length : Int))), (11, .int .i64 ((k117 : Int))), (15, .bool (x135))] = e' ∧ (g86, Cl 109 [.int .i64 (s17.section_), .int .i64 (s17.end_)]) :: (g87, Cl 109 [.int .i64 (0), .int .i64 (0)]) :: (g131, Cl 118 [.int .i64 (x121.A), .int .i64 (x121.EndA), .int .i64 (x121.B), .int .i64 (x121.EndB)]) :: R = hp' ∧ b115.Le b133) ?_ ?_
   ·
    have hm := hj136
    refine c_region ?_
    refine t_st rfl (st_field rfl fld118_0) ?_
    refine t_st rfl (st_load 0 rfl one3 rfl rfl) ?_
    refine t_st rfl (st_field rfl fld109_0) ?_
    refine t_st rfl (st_load 1 rfl one3 rfl rfl) ?_
    refine t_bool rfl (st_eql rfl rfl) (fun hc137 => ?_) (fun hc137 => ?_)
    ·
     rw [if_pos hc137] at hm
     refine t_mv rfl rfl ?_
     refine t_yes 21 rfl rfl rfl ?_
     refine t_st rfl (st_field rfl fld118_1) ?_
     refine t_yes 21 rfl rfl rfl ?_
     refine t_st rfl (st_load 0 rfl one3 rfl rfl) ?_
     refine t_yes 21 rfl rfl rfl ?_
     refine t_st rfl (st_field rfl fld109_1) ?_
     refine t_yes 21 rfl rfl rfl ?_
     refine t_st rfl (st_load 1 rfl one3 rfl rfl) ?_
     refine t_yes 21 rfl rfl rfl ?_
     refine t_st rfl (st_eql rfl rfl) ?_
     refine t_st rfl (st_pick_t rfl rfl) ?_
     refine t_as rfl rfl ?_
     refine t_nil ?_
     obtain rfl := some1 hm
     refine x_pullb 2 rfl ?_
     refine x_pullb 2 rfl ?_
     exact x_join (e' := [(3, .pointer (some ⟨g86, 0, none⟩)), (4, .pointer (some ⟨g87, 0, none⟩)), (7, .pointer (some ⟨g131, 0, none⟩)), (9, .slice A8 (s1.Links).length c9), (10, .int .i64 ((s1.Links.length : Int))), (11, .int .i64 ((k117 : Int))), (15, .bool (decide (x121.EndA = s17.end_)))]) ⟨rfl, rfl, rfl, rfl, rfl, rfl, rfl, trivial⟩ (.refl _) ⟨rfl, rfl, (Base.Le.refl _)⟩
    ·
     rw [if_neg hc137] at hm
     refine t_mv rfl rfl ?_
     refine t_no 21 rfl rfl rfl rfl rfl ?_
     refine t_no 21 rfl rfl rfl rfl rfl ?_
     refine t_no 21 rfl rfl rfl rfl rfl ?_
     refine t_no 21 rfl rfl rfl rfl rfl ?_
     refine t_no 21 rfl rfl rfl rfl rfl ?_
     refine t_st rfl (st_pick_f rfl rfl) ?_
     refine t_as rfl rfl ?_
     refine t_nil ?_
     obtain rfl := some1 hm
     refine x_pullb 2 rfl ?_
     refine x_pullb 2 rfl ?_
     exact x_join (e' := [(3, .pointer (some ⟨g86, 0, none⟩)), (4, .pointer (some ⟨g87, 0, none⟩)), (7, .pointer (some ⟨g131, 0, none⟩)), (9, .slice A8 (s1.Links).length c9), (10, .int .i64 ((s1.Links.length : Int))), (11, .int .i64 ((k117 : Int))), (15, .bool (false))]) ⟨rfl, rfl, rfl, rfl, rfl, rfl, rfl, trivial⟩ (.refl _) ⟨rfl, rfl, (Base.Le.refl _)⟩
   ·
    rintro b133 _ _ ⟨rfl, rfl, hle134⟩
    have hm := hk136
    refine c_cond _ rfl (fun hc138 => ?_) (fun hc138 => ?_)
    ·
     rw [if_pos hc138] at hm
     refine c_sr ?_
     refine t_st rfl (st_field rfl fld118_2) ?_
     refine t_st rfl (st_load 2 rfl one3 rfl rfl) ?_
     refine t_st rfl (st_field rfl fld118_3) ?_
     refine t_st rfl (st_load 2 rfl one3 rfl rfl) ?_
     refine t_st rfl (st_build (v := .agg #[.int .i64 (x121.B), .int .i64 (x121.EndB)]) [(0, .int .i64 (x121.B)), (1, .int .i64 (x121.EndB))] rfl (fun _ => by kernel_rfl)) ?_
     refine t_do rfl (u_storeN (vs := [_, _]) 1 2 rfl rfl rfl siz109 rfl (mem_c rfl (mem_c rfl mem_n)) rfl (by simp)) ?_
     rintro _ _ rfl
     refine t_as rfl rfl ?_
     refine t_ne ?_
     refine c_ret ?_
     refine x_block_ret ?_
     refine x_block_ret ?_
     refine x_then_ret ?_
     refine x_then_ret ?_
     refine x_block_ret ?_
     refine x_then_ret ?_
     have hq139 := houtL88 _ (Option.some.inj hm).symm
     rw [hq139] at hk120
     have hm := elimR hk120
     obtain ⟨rfl, rfl, rfl⟩ := some3 hm
     exact retM (rs := [.cell 4 109, .tmp 5]) [.agg #[.int .i64 (x121.B), .int .i64 (x121.EndB)], .bool (true)] (hle116.trans hle134) (by decide) rfl ⟨⟨_, rfl, fun w ho => cell_agg (vs := [_, _]) 1 2 agg109 rfl rfl rfl w ho⟩, ⟨rfl, trivial⟩⟩ rfl (.cons _ (.cons _ (.cons _ (.refl _)))) ⟨rfl, rfl⟩
    ·
     rw [if_neg (fun hh => Bool.noConfusion (hh.symm.trans hc138))] at hm
     obtain ⟨x143, hj144, hk144⟩ := bindS hm
     refine c_join (fun b141 e' hp' => [(3, .pointer (some ⟨g86, 0, none⟩)), (4, .pointer (some ⟨g87, 0, none⟩)), (7, .pointer (some ⟨g131, 0, none⟩)), (9, .slice A8 (s1.Links).length c9), (10, .int .i64 ((s1.Links.length : Int))), (11, .int .i64 ((k117 : Int))), (33, .bool (x143))] = e' ∧ (g86, Cl 109 [.int .i64 (s17.section_), .int .i64 (s17.end_)]) :: (g87, Cl 109 [.int .i64 (0), .int .i64 (0)]) :: (g131, Cl 118 [.int .i64 (x121.A), .int .i64 (x121.EndA), .int .i64 (x121.B), .int .i64 (x121.EndB)]) :: R = hp' ∧ b133.Le b141) ?_ ?_
     ·
      have hm := hj144
      refine c_region ?_
      refine t_st rfl (st_field rfl fld118_2) ?_
      refine t_st rfl (st_load 2 rfl one3 rfl rfl) ?_
      refine t_st rfl (st_field rfl fld109_0) ?_
      refine t_st rfl (st_load 0 rfl one3 rfl rfl) ?_
      refine t_bool rfl (st_eql rfl rfl) (fun hc145 => ?_) (fun hc145 => ?_)
      ·
       rw [if_pos hc145] at hm
       refine t_mv rfl rfl ?_
       refine t_yes 39 rfl rfl rfl ?_
       refine t_st rfl (st_field rfl fld118_3) ?_
       refine t_yes 39 rfl rfl rfl ?_
       refine t_st rfl (st_load 2 rfl one3 rfl rfl) ?_
       refine t_yes 39 rfl rfl rfl ?_
       refine t_st rfl (st_field rfl fld109_1) ?_
       refine t_yes 39 rfl rfl rfl ?_
       refine t_st rfl (st_load 0 rfl one3 rfl rfl) ?_
       refine t_yes 39 rfl rfl rfl ?_
       refine t_st rfl (st_eql rfl rfl) ?_
       refine t_st rfl (st_pick_t rfl rfl) ?_
       refine t_as rfl rfl ?_
       refine t_nil ?_
       obtain rfl := some1 hm
       refine x_pullb 2 rfl ?_
       refine x_pullb 2 rfl ?_
       refine x_pullb 2 rfl ?_
       exact x_join (e' := [(3, .pointer (some ⟨g86, 0, none⟩)), (4, .pointer (some ⟨g87, 0, none⟩)), (7, .pointer (some ⟨g131, 0, none⟩)), (9, .slice A8 (s1.Links).length c9), (10, .int .i64 ((s1.Links.length : Int))), (11, .int .i64 ((k117 : Int))), (33, .bool (decide (x121.EndB = s17.end_)))]) ⟨rfl, rfl, rfl, rfl, rfl, rfl, rfl, trivial⟩ (.refl _) ⟨rfl, rfl, (Base.Le.refl _)⟩
      ·
       rw [if_neg hc145] at hm
       refine t_mv rfl rfl ?_
       refine t_no 39 rfl rfl rfl rfl rfl ?_
       refine t_no 39 rfl rfl rfl rfl rfl ?_
       refine t_no 39 rfl rfl rfl rfl rfl ?_
       refine t_no 39 rfl rfl rfl rfl rfl ?_
       refine t_no 39 rfl rfl rfl rfl rfl ?_
       refine t_st rfl (st_pick_f rfl rfl) ?_
       refine t_as rfl rfl ?_
       refine t_nil ?_
       obtain rfl := some1 hm
       refine x_pullb 2 rfl ?_
       refine x_pullb 2 rfl ?_
       refine x_pullb 2 rfl ?_
       exact x_join (e' := [(3, .pointer (some ⟨g86, 0, none⟩)), (4, .pointer (some ⟨g87, 0, none⟩)), (7, .pointer (some ⟨g131, 0, none⟩)), (9, .slice A8 (s1.Links).length c9), (10, .int .i64 ((s1.Links.length : Int))), (11, .int .i64 ((k117 : Int))), (33, .bool (false))]) ⟨rfl, rfl, rfl, rfl, rfl, rfl, rfl, trivial⟩ (.refl _) ⟨rfl, rfl, (Base.Le.refl _)⟩
     ·
      rintro b141 _ _ ⟨rfl, rfl, hle142⟩
      have hm := hk144
      refine c_cond _ rfl (fun hc146 => ?_) (fun hc146 => ?_)
      ·
       rw [if_pos hc146] at hm
       refine c_sr ?_
       refine t_st rfl (st_field rfl fld118_0) ?_
       refine t_st rfl (st_load 2 rfl one3 rfl rfl) ?_
       refine t_st rfl (st_field rfl fld118_1) ?_
       refine t_st rfl (st_load 2 rfl one3 rfl rfl) ?_
       refine t_st rfl (st_build (v := .agg #[.int .i64 (x121.A), .int .i64 (x121.EndA)]) [(0, .int .i64 (x121.A)), (1, .int .i64 (x121.EndA))] rfl (fun _ => by kernel_rfl)) ?_
       refine t_do rfl (u_storeN (vs := [_, _]) 1 2 rfl rfl rfl siz109 rfl (mem_c rfl (mem_c rfl mem_n)) rfl (by simp)) ?_
       rintro _ _ rfl
       refine t_as rfl rfl ?_
       refine t_ne ?_
       refine c_ret ?_
       refine x_block_ret ?_
       refine x_block_ret ?_
       refine x_then_ret ?_
       refine x_then_ret ?_
       refine x_block_ret ?_
       refine x_then_ret ?_
       have hq147 := houtL88 _ (Option.some.inj hm).symm
       rw [hq147] at hk120
       have hm := elimR hk120
       obtain ⟨rfl, rfl, rfl⟩ := some3 hm
       exact retM (rs := [.cell 4 109, .tmp 5]) [.agg #[.int .i64 (x121.A), .int .i64 (x121.EndA)], .bool (true)] (hle116.trans (hle134.trans hle142)) (by decide) rfl ⟨⟨_, rfl, fun w ho => cell_agg (vs := [_, _]) 1 2 agg109 rfl rfl rfl w ho⟩, ⟨rfl, trivial⟩⟩ rfl (.cons _ (.cons _ (.cons _ (.refl _)))) ⟨rfl, rfl⟩
      ·
       rw [if_neg (fun hh => Bool.noConfusion (hh.symm.trans hc146))] at hm
       refine c_skip ?_
       refine x_block_normal ?_
       refine x_block_normal ?_
       refine x_then_normal ?_
       refine c_region ?_
       refine t_st rfl (st_add rfl rfl (by omega)) ?_
       refine t_mv rfl rfl ?_
       refine t_nil ?_
       refine x_pullb 1 rfl ?_
       refine x_pullb 1 rfl ?_
       exact x_againM () (Option.some.inj hm).symm (e' := [(3, .pointer (some ⟨g86, 0, none⟩)), (4, .pointer (some ⟨g87, 0, none⟩)), (9, .slice A8 (s1.Links).length c9), (10, .int .i64 ((s1.Links.length : Int))), (11, .int .i64 ((k117 : Int) + 1))]) ⟨rfl, rfl, rfl, rfl, rfl, trivial⟩ (.cons_cons _ (.cons_cons _ (.cons _ (.refl _)))) ⟨rfl, rfl, ((hle116.trans (hle134.trans hle142)))⟩
  ·
   rintro _ b115 _ _ ⟨rfl, rfl, hle116⟩ hq148
   rw [hq148] at hk120
   have hm := elimL hk120
   refine c_sr ?_
   refine t_st rfl (st_lss_f rfl rfl (by omega)) ?_
   refine t_ne ?_
   refine c_seq ?_
   refine c_cond_f rfl ?_
   refine c_exit ?_
   refine x_then_exit ?_
   refine x_then_exit ?_
   refine x_block_out ?_
   refine x_then_normal ?_
   refine c_sr ?_
   refine t_st rfl (st_build (v := .agg #[.int .i64 (0), .int .i64 (0)]) [] rfl (fun _ => by kernel_rfl)) ?_
   refine t_do rfl (u_storeN (vs := [_, _]) 1 2 rfl rfl rfl siz109 rfl (mem_c rfl (mem_c rfl mem_n)) rfl (by simp)) ?_
   rintro _ _ rfl
   refine t_as rfl rfl ?_
   refine t_ne ?_
   refine c_ret ?_
   obtain ⟨rfl, rfl, rfl⟩ := some3 hm
   exact retM (rs := [.cell 4 109, .tmp 5]) [.agg #[.int .i64 (0), .int .i64 (0)], .bool (false)] hle116 (by decide) rfl ⟨⟨_, rfl, fun w ho => cell_agg (vs := [_, _]) 1 2 agg109 rfl rfl rfl w ho⟩, ⟨rfl, trivial⟩⟩ rfl (.cons _ (.cons _ (.refl _))) ⟨rfl, rfl⟩

end Go.Proofs.YtcibjjhanafojaaGreatDoor
