/- Contracts: the code computes its model (part 1). -/
import Derived.Test.YtdphlkddelnaiaaKT
set_option linter.unusedVariables false
set_option linter.unusedSimpArgs false
namespace Go.Proofs.Ytdphlkddelnaiaa
open Go.RowKit Go.Fp

set_option maxRecDepth 20000 in
theorem cPlanWithin (b : Base) (R : Hp) (x1 : Int) (x2 : Int) (x3 : Int) (x10 : Bool) (hm : mPlanWithin x1 x2 x3 = some x10) :
    CallsG Try.prog 42 [.int .i64 (x1), .int .i64 (x2), .int .i64 (x3)] b (R) (fun v b' hp' => .bool (x10) = v ∧ R = hp') := by
  refine fn_enterG 15 Try.func42 rfl Try.ntmps42 rfl ?_
  unfold mPlanWithin at hm
  refine c_seq ?_
  refine c_region ?_
  refine t_st rfl (st_assign rfl) ?_
  refine t_nil ?_
  refine x_then_normal ?_
  obtain ⟨x14, hj15, hk15⟩ := bindS hm
  refine c_join (fun b12 e' hp' => [(6, .bool (x14))] = e' ∧ R = hp' ∧ b.Le b12) ?_ ?_
  ·
   have hm := hj15
   refine c_region ?_
   refine t_st rfl (st_move rfl) ?_
   refine t_st rfl (st_move rfl) ?_
   refine t_bool rfl (st_geq rfl rfl) (fun hc16 => ?_) (fun hc16 => ?_)
   ·
    rw [if_pos hc16] at hm
    refine t_st rfl (st_move rfl) ?_
    refine t_yes 10 rfl rfl rfl ?_
    refine t_st rfl (st_move rfl) ?_
    refine t_yes 10 rfl rfl rfl ?_
    refine t_st rfl (st_move rfl) ?_
    refine t_yes 10 rfl rfl rfl ?_
    refine t_st rfl (st_leq rfl rfl) ?_
    refine t_st rfl (st_pick_t rfl rfl) ?_
    refine t_st rfl (st_assign rfl) ?_
    refine t_nil ?_
    obtain rfl := some1 hm
    exact x_join (e' := [(6, .bool (decide (x1 ≤ x3)))]) (hp' := R) ⟨rfl, trivial⟩ (.refl _) ⟨rfl, rfl, (Base.Le.refl _)⟩
   ·
    rw [if_neg hc16] at hm
    refine t_st rfl (st_move rfl) ?_
    refine t_no 10 rfl rfl rfl rfl rfl ?_
    refine t_no 10 rfl rfl rfl rfl rfl ?_
    refine t_no 10 rfl rfl rfl rfl rfl ?_
    refine t_st rfl (st_pick_f rfl rfl) ?_
    refine t_st rfl (st_assign rfl) ?_
    refine t_nil ?_
    obtain rfl := some1 hm
    exact x_join (e' := [(6, .bool (false))]) (hp' := R) ⟨rfl, trivial⟩ (.refl _) ⟨rfl, rfl, (Base.Le.refl _)⟩
  ·
   rintro b12 _ _ ⟨rfl, rfl, hle13⟩
   have hm := hk15
   refine c_ret ?_
   obtain rfl := some1 hm
   exact retM (rs := [.tmp 6]) [.bool (x14)] hle13 (by decide) rfl ⟨rfl, trivial⟩ rfl (hp' := R) (.refl _) ⟨rfl, rfl⟩

set_option maxRecDepth 20000 in
theorem cPlanCheckPeriodic (b : Base) (R : Hp) (s1 : PlanPeriodic) (A2 : Option Addr) (c3 : Nat) (h4 : FZ rPlanRule b.w A2 c3 s1.Rules) (x146 : Int) (hm : mPlanCheckPeriodic s1 = some x146) :
    CallsG Try.prog 24 [.agg #[.int .i64 (s1.Period), .int .i64 (s1.Events), .slice A2 (s1.Rules).length c3]] b (R) (fun v b' hp' => .int .i64 (x146) = v ∧ R = hp') := by
  refine fn_enterG 77 Try.func24 rfl Try.ntmps24 rfl ?_
  unfold mPlanCheckPeriodic at hm
  refine c_seq ?_
  refine c_region ?_
  refine t_do rfl (u_box _ rfl rfl) ?_
  rintro _ _ ⟨g147, rfl, rfl⟩
  refine t_st rfl (st_assign rfl) ?_
  refine t_nil ?_
  refine x_then_normal ?_
  refine c_seq ?_
  refine c_block ?_
  obtain ⟨x155, hj156, hk156⟩ := bindS hm
  refine c_join (fun b153 e' hp' => [(1, .pointer (some ⟨g147, 0, none⟩)), (5, .bool (x155))] = e' ∧ (g147, Cl 24 [.int .i64 (s1.Period), .int .i64 (s1.Events), .slice A2 (s1.Rules).length c3]) :: R = hp' ∧ b.Le b153) ?_ ?_
  ·
   have hm := hj156
   refine c_region ?_
   refine t_st rfl (st_field rfl fld24_0) ?_
   refine t_st rfl (st_load 0 rfl one3 rfl rfl) ?_
   obtain ⟨x157, hcl158, hm⟩ := bindS hm
   refine t_do rfl (u_callW0 _ call42 rfl (fun w ho => cPlanWithin _ [] s1.Period 2 3600 x157 hcl158) (fun _ _ _ h => h.2.symm)) ?_
   rintro _ _ ⟨⟨_, rfl, _⟩, rfl⟩
   rcases Bool.eq_false_or_eq_true x157 with hc159 | hc159
   ·
    rw [if_pos hc159] at hm
    refine t_resp 8 rfl (v' := .bool true) (by rw [hc159] <;> rfl) ?_
    refine t_st rfl (st_not_t rfl) ?_
    refine t_st rfl (st_move rfl) ?_
    refine t_yes 10 rfl rfl rfl ?_
    refine t_st rfl (st_field rfl fld24_1) ?_
    refine t_yes 10 rfl rfl rfl ?_
    refine t_st rfl (st_load 0 rfl one3 rfl rfl) ?_
    refine t_yes 10 rfl rfl rfl ?_
    obtain ⟨x160, hcl161, hm⟩ := bindS hm
    refine t_do rfl (u_callW0 _ call42 rfl (fun w ho => cPlanWithin _ [] s1.Events 1 8 x160 hcl161) (fun _ _ _ h => h.2.symm)) ?_
    rintro _ _ ⟨⟨_, rfl, _⟩, rfl⟩
    refine t_yes 10 rfl rfl rfl ?_
    refine t_st rfl (st_not rfl) ?_
    refine t_st rfl (st_pick_f rfl rfl) ?_
    refine t_st rfl (st_assign rfl) ?_
    refine t_nil ?_
    obtain rfl := some1 hm
    exact x_join (e' := [(1, .pointer (some ⟨g147, 0, none⟩)), (5, .bool (!x160))]) (hp' := (g147, Cl 24 [.int .i64 (s1.Period), .int .i64 (s1.Events), .slice A2 (s1.Rules).length c3]) :: R) ⟨rfl, rfl, trivial⟩ (.cons_cons _ (.refl _)) ⟨rfl, rfl, (Base.Le.refl _)⟩
   ·
    rw [if_neg (fun hh => Bool.noConfusion (hh.symm.trans hc159))] at hm
    refine t_resp 8 rfl (v' := .bool false) (by rw [hc159] <;> rfl) ?_
    refine t_st rfl (st_not_f rfl) ?_
    refine t_st rfl (st_move rfl) ?_
    refine t_no 10 rfl rfl rfl rfl rfl ?_
    refine t_no 10 rfl rfl rfl rfl rfl ?_
    refine t_no 10 rfl rfl rfl rfl rfl ?_
    refine t_no 10 rfl rfl rfl rfl rfl ?_
    refine t_st rfl (st_pick_t rfl rfl) ?_
    refine t_st rfl (st_assign rfl) ?_
    refine t_nil ?_
    obtain rfl := some1 hm
    exact x_join (e' := [(1, .pointer (some ⟨g147, 0, none⟩)), (5, .bool (true))]) (hp' := (g147, Cl 24 [.int .i64 (s1.Period), .int .i64 (s1.Events), .slice A2 (s1.Rules).length c3]) :: R) ⟨rfl, rfl, trivial⟩ (.cons_cons _ (.refl _)) ⟨rfl, rfl, (Base.Le.refl _)⟩
  ·
   rintro b153 _ _ ⟨rfl, rfl, hle154⟩
   have hm := hk156
   refine c_cond _ rfl (fun hc162 => ?_) (fun hc162 => ?_)
   ·
    rw [if_pos hc162] at hm
    refine c_seq ?_
    refine c_region ?_
    refine t_st rfl (st_assign rfl) ?_
    refine t_nil ?_
    refine x_then_normal ?_
    refine c_ret ?_
    refine x_block_ret ?_
    refine x_then_ret ?_
    obtain rfl := some1 hm
    exact retM (rs := [.tmp 2]) [.int .i64 (2)] hle154 (by decide) rfl ⟨rfl, trivial⟩ rfl (hp' := R) (.cons _ (.refl _)) ⟨rfl, rfl⟩
   ·
    rw [if_neg (fun hh => Bool.noConfusion (hh.symm.trans hc162))] at hm
    refine c_seq ?_
    refine c_region ?_
    refine t_st rfl (st_field rfl fld24_2) ?_
    refine t_st rfl (st_load 0 rfl one22 rfl rfl) ?_
    refine t_st rfl (st_len rfl sl22) ?_
    refine t_st rfl (st_gtr rfl rfl) ?_
    refine t_st rfl (st_assign rfl) ?_
    refine t_nil ?_
    refine x_then_normal ?_
    refine c_cond _ rfl (fun hc163 => ?_) (fun hc163 => ?_)
    ·
     rw [if_pos (of_decide_eq_true hc163)] at hm
     refine c_seq ?_
     refine c_region ?_
     refine t_st rfl (st_assign rfl) ?_
     refine t_nil ?_
     refine x_then_normal ?_
     refine c_ret ?_
     refine x_block_ret ?_
     refine x_then_ret ?_
     obtain rfl := some1 hm
     exact retM (rs := [.tmp 2]) [.int .i64 (4)] hle154 (by decide) rfl ⟨rfl, trivial⟩ rfl (hp' := R) (.cons _ (.refl _)) ⟨rfl, rfl⟩
    ·
     rw [if_neg (of_decide_eq_false hc163)] at hm
     refine c_skip ?_
     refine x_block_normal ?_
     refine x_then_normal ?_
     refine c_seq ?_
     refine c_seq ?_
     refine c_region ?_
     refine t_st rfl (st_field rfl fld24_2) ?_
     refine t_st rfl (st_load 0 rfl one22 rfl rfl) ?_
     refine t_st rfl (st_len rfl sl22) ?_
     refine t_st rfl (st_move rfl) ?_
     refine t_nil ?_
     refine x_then_normal ?_
     refine c_block ?_
     have hb165 : s1.Rules.length ≤ 9223372036854775807 := (FZ.bd (h4.le hle154))
     obtain ⟨t225, hl226, hk227⟩ := bindS hm
     refine c_forM (fun k224 => fun _ => fun b222 e' hp' => [(1, .pointer (some ⟨g147, 0, none⟩)), (22, .slice A2 (s1.Rules).length c3), (23, .int .i64 ((s1.Rules.length : Int))), (24, .int .i64 ((k224 : Int)))] = e' ∧ (g147, Cl 24 [.int .i64 (s1.Period), .int .i64 (s1.Events), .slice A2 (s1.Rules).length c3]) :: R = hp' ∧ b153.Le b222) hl226 (e' := [(1, .pointer (some ⟨g147, 0, none⟩)), (22, .slice A2 (s1.Rules).length c3), (23, .int .i64 ((s1.Rules.length : Int))), (24, .int .i64 0)]) (hp' := (g147, Cl 24 [.int .i64 (s1.Period), .int .i64 (s1.Events), .slice A2 (s1.Rules).length c3]) :: R) ⟨rfl, rfl, rfl, rfl, trivial⟩ (.cons_cons _ (.refl _)) ⟨rfl, rfl, (Base.Le.refl _)⟩ ?_ ?_
     ·
      rintro k224 _ b222 _ _ oL164 hknL164 ⟨rfl, rfl, hle223⟩ hstepL164 houtL164
      unfold mPlanCheckPeriodic_L164 at hstepL164
      have hm := hstepL164
      refine c_seq ?_
      refine c_region ?_
      refine t_st rfl (st_lss_t rfl rfl (by omega)) ?_
      refine t_nil ?_
      refine x_then_normal ?_
      refine c_seq ?_
      refine c_cond_t rfl ?_
      refine c_skip ?_
      refine x_then_normal ?_
      refine c_seq ?_
      refine c_block ?_
      refine c_seq ?_
      refine c_region ?_
      obtain ⟨x228, h229, hm⟩ := bindS hm
      obtain ⟨j230, hj231, hx232⟩ := idx_some h229
      obtain ⟨cs233, hr234, hcs235, hA236, hlt237⟩ := FZ.get (sz := 5) rfl (by decide) (h4.le (hle154.trans hle223)) hx232
      obtain ⟨_, _, rfl, rfl, ⟨_, _, rfl, rfl, ⟨_, _, rfl, rfl, ⟨_, _, rfl, rfl, rfl⟩⟩⟩⟩ := hr234
      refine t_st rfl (st_index_old j230 rfl rfl hj231 hlt237 hA236 sl22) ?_
      refine t_st rfl (st_loadN_old (vs := [.int .i64 (x228.From), .int .i64 (x228.To), .int .i64 (x228.Min), .int .i64 (x228.Max), .int .i64 (x228.Weight)]) 5 rfl agg29 hA236 rfl (fun j u hu => hcs235 j u hu)) ?_
      refine t_do rfl (u_alloc [.int .i64 0, .int .i64 0, .int .i64 0, .int .i64 0, .int .i64 0] zero29 rfl) ?_
      rintro _ _ ⟨g238, rfl, rfl⟩
      refine t_do rfl (u_storeN (vs := [_, _, _, _, _]) 0 5 rfl rfl rfl siz29 rfl (by intro u hu; simp only [List.mem_cons, List.not_mem_nil, or_false] at hu; rcases hu with rfl | rfl | rfl | rfl | rfl <;> rfl) rfl (by simp)) ?_
      rintro _ _ rfl
      refine t_nil ?_
      refine x_then_normal ?_
      refine c_block ?_
      obtain ⟨x248, hj249, hk249⟩ := bindS hm
      refine c_join (fun b246 e' hp' => [(1, .pointer (some ⟨g147, 0, none⟩)), (4, .pointer (some ⟨g238, 0, none⟩)), (22, .slice A2 (s1.Rules).length c3), (23, .int .i64 ((s1.Rules.length : Int))), (24, .int .i64 ((k224 : Int))), (28, .bool (x248))] = e' ∧ (g147, Cl 24 [.int .i64 (s1.Period), .int .i64 (s1.Events), .slice A2 (s1.Rules).length c3]) :: (g238, Cl 29 [.int .i64 (x228.From), .int .i64 (x228.To), .int .i64 (x228.Min), .int .i64 (x228.Max), .int .i64 (x228.Weight)]) :: R = hp' ∧ b222.Le b246) ?_ ?_
      ·
       have hm := hj249
       refine c_region ?_
       refine t_st rfl (st_field rfl fld29_0) ?_
       refine t_st rfl (st_load 0 rfl one3 rfl rfl) ?_
       refine t_st rfl (st_field rfl fld24_1) ?_
       refine t_st rfl (st_load 1 rfl one3 rfl rfl) ?_
       obtain ⟨_, h250, hm⟩ := bindS hm
       have h250 := (chk_some h250).2
       refine t_st rfl (st_sub rfl rfl h250) ?_
       obtain ⟨x251, hcl252, hm⟩ := bindS hm
       refine t_do rfl (u_callW0 _ call42 rfl (fun w ho => cPlanWithin _ [] x228.From 0 (s1.Events - 1) x251 hcl252) (fun _ _ _ h => h.2.symm)) ?_
       rintro _ _ ⟨⟨_, rfl, _⟩, rfl⟩
       rcases Bool.eq_false_or_eq_true x251 with hc253 | hc253
       ·
        rw [if_pos hc253] at hm
        refine t_resp 34 rfl (v' := .bool true) (by rw [hc253] <;> rfl) ?_
        refine t_st rfl (st_not_t rfl) ?_
        refine t_st rfl (st_move rfl) ?_
        refine t_yes 36 rfl rfl rfl ?_
        refine t_st rfl (st_field rfl fld29_1) ?_
        refine t_yes 36 rfl rfl rfl ?_
        refine t_st rfl (st_load 0 rfl one3 rfl rfl) ?_
        refine t_yes 36 rfl rfl rfl ?_
        refine t_st rfl (st_field rfl fld24_1) ?_
        refine t_yes 36 rfl rfl rfl ?_
        refine t_st rfl (st_load 1 rfl one3 rfl rfl) ?_
        refine t_yes 36 rfl rfl rfl ?_
        obtain ⟨_, h254, hm⟩ := bindS hm
        have h254 := (chk_some h254).2
        refine t_st rfl (st_sub rfl rfl h254) ?_
        refine t_yes 36 rfl rfl rfl ?_
        obtain ⟨x255, hcl256, hm⟩ := bindS hm
        refine t_do rfl (u_callW0 _ call42 rfl (fun w ho => cPlanWithin _ [] x228.To 0 (s1.Events - 1) x255 hcl256) (fun _ _ _ h => h.2.symm)) ?_
        rintro _ _ ⟨⟨_, rfl, _⟩, rfl⟩
        refine t_yes 36 rfl rfl rfl ?_
        refine t_st rfl (st_not rfl) ?_
        refine t_st rfl (st_pick_f rfl rfl) ?_
        refine t_st rfl (st_assign rfl) ?_
        refine t_nil ?_
        obtain rfl := some1 hm
        refine x_pullb 1 rfl ?_
        exact x_join (e' := [(1, .pointer (some ⟨g147, 0, none⟩)), (4, .pointer (some ⟨g238, 0, none⟩)), (22, .slice A2 (s1.Rules).length c3), (23, .int .i64 ((s1.Rules.length : Int))), (24, .int .i64 ((k224 : Int))), (28, .bool (!x255))]) (hp' := (g147, Cl 24 [.int .i64 (s1.Period), .int .i64 (s1.Events), .slice A2 (s1.Rules).length c3]) :: (g238, Cl 29 [.int .i64 (x228.From), .int .i64 (x228.To), .int .i64 (x228.Min), .int .i64 (x228.Max), .int .i64 (x228.Weight)]) :: R) ⟨rfl, rfl, rfl, rfl, rfl, rfl, trivial⟩ (.cons_cons _ (.cons_cons _ (.refl _))) ⟨rfl, rfl, (Base.Le.refl _)⟩
       ·
        rw [if_neg (fun hh => Bool.noConfusion (hh.symm.trans hc253))] at hm
        refine t_resp 34 rfl (v' := .bool false) (by rw [hc253] <;> rfl) ?_
        refine t_st rfl (st_not_f rfl) ?_
        refine t_st rfl (st_move rfl) ?_
        refine t_no 36 rfl rfl rfl rfl rfl ?_
        refine t_no 36 rfl rfl rfl rfl rfl ?_
        refine t_no 36 rfl rfl rfl rfl rfl ?_
        refine t_no 36 rfl rfl rfl rfl rfl ?_
        refine t_no 36 rfl rfl rfl rfl rfl ?_
        refine t_no 36 rfl rfl rfl rfl rfl ?_
        refine t_no 36 rfl rfl rfl rfl rfl ?_
        refine t_st rfl (st_pick_t rfl rfl) ?_
        refine t_st rfl (st_assign rfl) ?_
        refine t_nil ?_
        obtain rfl := some1 hm
        refine x_pullb 1 rfl ?_
        exact x_join (e' := [(1, .pointer (some ⟨g147, 0, none⟩)), (4, .pointer (some ⟨g238, 0, none⟩)), (22, .slice A2 (s1.Rules).length c3), (23, .int .i64 ((s1.Rules.length : Int))), (24, .int .i64 ((k224 : Int))), (28, .bool (true))]) (hp' := (g147, Cl 24 [.int .i64 (s1.Period), .int .i64 (s1.Events), .slice A2 (s1.Rules).length c3]) :: (g238, Cl 29 [.int .i64 (x228.From), .int .i64 (x228.To), .int .i64 (x228.Min), .int .i64 (x228.Max), .int .i64 (x228.Weight)]) :: R) ⟨rfl, rfl, rfl, rfl, rfl, rfl, trivial⟩ (.cons_cons _ (.cons_cons _ (.refl _))) ⟨rfl, rfl, (Base.Le.refl _)⟩
      ·
       rintro b246 _ _ ⟨rfl, rfl, hle247⟩
       have hm := hk249
       refine c_cond _ rfl (fun hc257 => ?_) (fun hc257 => ?_)
       ·
        rw [if_pos hc257] at hm
        refine c_seq ?_
        refine c_region ?_
        refine t_st rfl (st_assign rfl) ?_
        refine t_nil ?_
        refine x_then_normal ?_
        refine c_ret ?_
        refine x_block_ret ?_
        refine x_block_ret ?_
        refine x_then_ret ?_
        refine x_then_ret ?_
        refine x_block_ret ?_
        refine x_then_ret ?_
        have hq258 := houtL164 _ (Option.some.inj hm).symm
        rw [hq258] at hk227
        have hm := elimR hk227
        obtain rfl := some1 hm
        exact retM (rs := [.tmp 2]) [.int .i64 (3)] (hle154.trans (hle223.trans hle247)) (by decide) rfl ⟨rfl, trivial⟩ rfl (hp' := R) (.cons _ (.cons _ (.refl _))) ⟨rfl, rfl⟩
       ·
        rw [if_neg (fun hh => Bool.noConfusion (hh.symm.trans hc257))] at hm
        refine c_seq ?_
        refine c_region ?_
        refine t_st rfl (st_field rfl fld29_0) ?_
        refine t_st rfl (st_load 1 rfl one3 rfl rfl) ?_
        refine t_st rfl (st_field rfl fld29_1) ?_
        refine t_st rfl (st_load 1 rfl one3 rfl rfl) ?_
        refine t_st rfl (st_eql rfl rfl) ?_
        refine t_st rfl (st_assign rfl) ?_
        refine t_nil ?_
        refine x_then_normal ?_
        refine c_cond _ rfl (fun hc259 => ?_) (fun hc259 => ?_)
        ·
         rw [if_pos (of_decide_eq_true hc259)] at hm
         refine c_seq ?_
         refine c_region ?_
         refine t_st rfl (st_assign rfl) ?_
         refine t_nil ?_
         refine x_then_normal ?_
         refine c_ret ?_
         refine x_block_ret ?_
         refine x_block_ret ?_
         refine x_then_ret ?_
         refine x_then_ret ?_
         refine x_block_ret ?_
         refine x_then_ret ?_
         have hq260 := houtL164 _ (Option.some.inj hm).symm
         rw [hq260] at hk227
         have hm := elimR hk227
         obtain rfl := some1 hm
         exact retM (rs := [.tmp 2]) [.int .i64 (1)] (hle154.trans (hle223.trans hle247)) (by decide) rfl ⟨rfl, trivial⟩ rfl (hp' := R) (.cons _ (.cons _ (.refl _))) ⟨rfl, rfl⟩
        ·
         rw [if_neg (of_decide_eq_false hc259)] at hm
         obtain ⟨x273, hj274, hk274⟩ := bindS hm
         refine c_join (fun b271 e' hp' => [(1, .pointer (some ⟨g147, 0, none⟩)), (22, .slice A2 (s1.Rules).length c3), (23, .int .i64 ((s1.Rules.length : Int))), (24, .int .i64 ((k224 : Int))), (51, .bool (x273))] = e' ∧ (g147, Cl 24 [.int .i64 (s1.Period), .int .i64 (s1.Events), .slice A2 (s1.Rules).length c3]) :: R = hp' ∧ b246.Le b271) ?_ ?_
         ·
          have hm := hj274
          refine c_region ?_
          refine t_st rfl (st_field rfl fld29_2) ?_
          refine t_st rfl (st_load 1 rfl one3 rfl rfl) ?_
          obtain ⟨x275, hcl276, hm⟩ := bindS hm
          refine t_do rfl (u_callW0 _ call42 rfl (fun w ho => cPlanWithin _ [] x228.Min 0 3600 x275 hcl276) (fun _ _ _ h => h.2.symm)) ?_
          rintro _ _ ⟨⟨_, rfl, _⟩, rfl⟩
          rcases Bool.eq_false_or_eq_true x275 with hc277 | hc277
          ·
           rw [if_pos hc277] at hm
           refine t_resp 54 rfl (v' := .bool true) (by rw [hc277] <;> rfl) ?_
           refine t_st rfl (st_not_t rfl) ?_
           refine t_st rfl (st_move rfl) ?_
           refine t_yes 56 rfl rfl rfl ?_
           refine t_st rfl (st_field rfl fld29_3) ?_
           refine t_yes 56 rfl rfl rfl ?_
           refine t_st rfl (st_load 1 rfl one3 rfl rfl) ?_
           refine t_yes 56 rfl rfl rfl ?_
           refine t_st rfl (st_field rfl fld29_2) ?_
           refine t_yes 56 rfl rfl rfl ?_
           refine t_st rfl (st_load 1 rfl one3 rfl rfl) ?_
           refine t_yes 56 rfl rfl rfl ?_
           refine t_st rfl (st_field rfl fld29_2) ?_
           refine t_yes 56 rfl rfl rfl ?_
           refine t_st rfl (st_load 1 rfl one3 rfl rfl) ?_
           refine t_yes 56 rfl rfl rfl ?_
           refine t_st rfl (st_field rfl fld24_0) ?_
           refine t_yes 56 rfl rfl rfl ?_
           refine t_st rfl (st_load 0 rfl one3 rfl rfl) ?_
           refine t_yes 56 rfl rfl rfl ?_
           obtain ⟨_, h278, hm⟩ := bindS hm
           have h278 := (chk_some h278).2
           refine t_st rfl (st_add rfl rfl h278) ?_
           refine t_yes 56 rfl rfl rfl ?_
           obtain ⟨_, h279, hm⟩ := bindS hm
           have h279 := (chk_some h279).2
           refine t_st rfl (st_sub rfl rfl h279) ?_
           refine t_yes 56 rfl rfl rfl ?_
           obtain ⟨x280, hcl281, hm⟩ := bindS hm
           refine t_do rfl (u_callW0 _ call42 rfl (fun w ho => cPlanWithin _ [] x228.Max x228.Min ((x228.Min + s1.Period) - 1) x280 hcl281) (fun _ _ _ h => h.2.symm)) ?_
           rintro _ _ ⟨⟨_, rfl, _⟩, rfl⟩
           rcases Bool.eq_false_or_eq_true x280 with hc282 | hc282
           ·
            rw [if_pos hc282] at hm
            refine t_resp 67 rfl (v' := .bool true) (by rw [hc282] <;> rfl) ?_
            refine t_yes 56 rfl rfl rfl ?_
            refine t_st rfl (st_not_t rfl) ?_
            refine t_st rfl (st_pick_f rfl rfl) ?_
            refine t_st rfl (st_move rfl) ?_
            refine t_yes 70 rfl rfl rfl ?_
            refine t_st rfl (st_field rfl fld29_4) ?_
            refine t_yes 70 rfl rfl rfl ?_
            refine t_st rfl (st_load 1 rfl one3 rfl rfl) ?_
            refine t_yes 70 rfl rfl rfl ?_
            obtain ⟨x283, hcl284, hm⟩ := bindS hm
            refine t_do rfl (u_callW0 _ call42 rfl (fun w ho => cPlanWithin _ [] x228.Weight 0 1000 x283 hcl284) (fun _ _ _ h => h.2.symm)) ?_
            rintro _ _ ⟨⟨_, rfl, _⟩, rfl⟩
            refine t_yes 70 rfl rfl rfl ?_
            refine t_st rfl (st_not rfl) ?_
            refine t_st rfl (st_pick_f rfl rfl) ?_
            refine t_st rfl (st_assign rfl) ?_
            refine t_nil ?_
            obtain rfl := some1 hm
            exact x_join (e' := [(1, .pointer (some ⟨g147, 0, none⟩)), (22, .slice A2 (s1.Rules).length c3), (23, .int .i64 ((s1.Rules.length : Int))), (24, .int .i64 ((k224 : Int))), (51, .bool (!x283))]) (hp' := (g147, Cl 24 [.int .i64 (s1.Period), .int .i64 (s1.Events), .slice A2 (s1.Rules).length c3]) :: R) ⟨rfl, rfl, rfl, rfl, rfl, trivial⟩ (.cons_cons _ (.cons _ (.refl _))) ⟨rfl, rfl, (Base.Le.refl _)⟩
           ·
            rw [if_neg (fun hh => Bool.noConfusion (hh.symm.trans hc282))] at hm
            refine t_resp 67 rfl (v' := .bool false) (by rw [hc282] <;> rfl) ?_
            refine t_yes 56 rfl rfl rfl ?_
            refine t_st rfl (st_not_f rfl) ?_
            refine t_st rfl (st_pick_f rfl rfl) ?_
            refine t_st rfl (st_move rfl) ?_
            refine t_no 70 rfl rfl rfl rfl rfl ?_
            refine t_no 70 rfl rfl rfl rfl rfl ?_
            refine t_no 70 rfl rfl rfl rfl rfl ?_
            refine t_no 70 rfl rfl rfl rfl rfl ?_
            refine t_st rfl (st_pick_t rfl rfl) ?_
            refine t_st rfl (st_assign rfl) ?_
            refine t_nil ?_
            obtain rfl := some1 hm
            exact x_join (e' := [(1, .pointer (some ⟨g147, 0, none⟩)), (22, .slice A2 (s1.Rules).length c3), (23, .int .i64 ((s1.Rules.length : Int))), (24, .int .i64 ((k224 : Int))), (51, .bool (true))]) (hp' := (g147, Cl 24 [.int .i64 (s1.Period), .int .i64 (s1.Events), .slice A2 (s1.Rules).length c3]) :: R) ⟨rfl, rfl, rfl, rfl, rfl, trivial⟩ (.cons_cons _ (.cons _ (.refl _))) ⟨rfl, rfl, (Base.Le.refl _)⟩
          ·
           rw [if_neg (fun hh => Bool.noConfusion (hh.symm.trans hc277))] at hm
           refine t_resp 54 rfl (v' := .bool false) (by rw [hc277] <;> rfl) ?_
           refine t_st rfl (st_not_f rfl) ?_
           refine t_st rfl (st_move rfl) ?_
           refine t_no 56 rfl rfl rfl rfl rfl ?_
           refine t_no 56 rfl rfl rfl rfl rfl ?_
           refine t_no 56 rfl rfl rfl rfl rfl ?_
           refine t_no 56 rfl rfl rfl rfl rfl ?_
           refine t_no 56 rfl rfl rfl rfl rfl ?_
           refine t_no 56 rfl rfl rfl rfl rfl ?_
           refine t_no 56 rfl rfl rfl rfl rfl ?_
           refine t_no 56 rfl rfl rfl rfl rfl ?_
           refine t_no 56 rfl rfl rfl rfl rfl ?_
           refine t_no 56 rfl rfl rfl rfl rfl ?_
           refine t_no 56 rfl rfl rfl rfl rfl ?_
           refine t_no 56 rfl rfl rfl rfl rfl ?_
           refine t_st rfl (st_pick_t rfl rfl) ?_
           refine t_st rfl (st_move rfl) ?_
           refine t_no 70 rfl rfl rfl rfl rfl ?_
           refine t_no 70 rfl rfl rfl rfl rfl ?_
           refine t_no 70 rfl rfl rfl rfl rfl ?_
           refine t_no 70 rfl rfl rfl rfl rfl ?_
           refine t_st rfl (st_pick_t rfl rfl) ?_
           refine t_st rfl (st_assign rfl) ?_
           refine t_nil ?_
           obtain rfl := some1 hm
           exact x_join (e' := [(1, .pointer (some ⟨g147, 0, none⟩)), (22, .slice A2 (s1.Rules).length c3), (23, .int .i64 ((s1.Rules.length : Int))), (24, .int .i64 ((k224 : Int))), (51, .bool (true))]) (hp' := (g147, Cl 24 [.int .i64 (s1.Period), .int .i64 (s1.Events), .slice A2 (s1.Rules).length c3]) :: R) ⟨rfl, rfl, rfl, rfl, rfl, trivial⟩ (.cons_cons _ (.cons _ (.refl _))) ⟨rfl, rfl, (Base.Le.refl _)⟩
         ·
          rintro b271 _ _ ⟨rfl, rfl, hle272⟩
          have hm := hk274
          refine c_cond _ rfl (fun hc285 => ?_) (fun hc285 => ?_)
          ·
           rw [if_pos hc285] at hm
           refine c_seq ?_
           refine c_region ?_
           refine t_st rfl (st_assign rfl) ?_
           refine t_nil ?_
           refine x_then_normal ?_
           refine c_ret ?_
           refine x_block_ret ?_
           refine x_block_ret ?_
           refine x_then_ret ?_
           refine x_then_ret ?_
           refine x_block_ret ?_
           refine x_then_ret ?_
           have hq286 := houtL164 _ (Option.some.inj hm).symm
           rw [hq286] at hk227
           have hm := elimR hk227
           obtain rfl := some1 hm
           exact retM (rs := [.tmp 2]) [.int .i64 (2)] (hle154.trans (hle223.trans (hle247.trans hle272))) (by decide) rfl ⟨rfl, trivial⟩ rfl (hp' := R) (.cons _ (.refl _)) ⟨rfl, rfl⟩
          ·
           rw [if_neg (fun hh => Bool.noConfusion (hh.symm.trans hc285))] at hm
           refine c_skip ?_
           refine x_block_normal ?_
           refine x_block_normal ?_
           refine x_then_normal ?_
           refine c_region ?_
           refine t_st rfl (st_add rfl rfl (by omega)) ?_
           refine t_st rfl (st_move rfl) ?_
           refine t_nil ?_
           exact x_againM () (Option.some.inj hm).symm (e' := [(1, .pointer (some ⟨g147, 0, none⟩)), (22, .slice A2 (s1.Rules).length c3), (23, .int .i64 ((s1.Rules.length : Int))), (24, .int .i64 ((k224 : Int) + 1))]) (hp' := (g147, Cl 24 [.int .i64 (s1.Period), .int .i64 (s1.Events), .slice A2 (s1.Rules).length c3]) :: R) ⟨rfl, rfl, rfl, rfl, trivial⟩ (.cons_cons _ (.refl _)) ⟨rfl, rfl, ((hle223.trans (hle247.trans hle272)))⟩
     ·
      rintro _ b222 _ _ ⟨rfl, rfl, hle223⟩ hq287
      rw [hq287] at hk227
      have hm := elimL hk227
      refine c_seq ?_
      refine c_region ?_
      refine t_st rfl (st_lss_f rfl rfl (by omega)) ?_
      refine t_nil ?_
      refine x_then_normal ?_
      refine c_seq ?_
      refine c_cond_f rfl ?_
      refine c_exit ?_
      refine x_then_exit ?_
      refine x_then_exit ?_
      refine x_block_out ?_
      refine x_then_normal ?_
      refine c_seq ?_
      refine c_region ?_
      refine t_st rfl (st_assign rfl) ?_
      refine t_nil ?_
      refine x_then_normal ?_
      refine c_ret ?_
      obtain rfl := some1 hm
      exact retM (rs := [.tmp 2]) [.int .i64 (0)] (hle154.trans hle223) (by decide) rfl ⟨rfl, trivial⟩ rfl (hp' := R) (.cons _ (.refl _)) ⟨rfl, rfl⟩

set_option maxRecDepth 20000 in
theorem cPlanCheckTimes (b : Base) (R : Hp) (s1 : PlanPeriodic) (l8 : (List Int)) (A2 : Option Addr) (c3 : Nat) (A5 : Option Addr) (c6 : Nat) (h4 : FZ rPlanRule b.w A2 c3 s1.Rules) (h7 : FZ (RT.int .i64) b.w A5 c6 l8) (x52 : Int) (hm : mPlanCheckTimes s1 l8 = some x52) :
    CallsG Try.prog 32 [.agg #[.int .i64 (s1.Period), .int .i64 (s1.Events), .slice A2 (s1.Rules).length c3], .slice A5 (l8).length c6] b (R) (fun v b' hp' => .int .i64 (x52) = v ∧ R = hp') := by
  refine fn_enterG 31 Try.func32 rfl Try.ntmps32 rfl ?_
  unfold mPlanCheckTimes at hm
  refine c_seq ?_
  refine c_region ?_
  refine t_do rfl (u_box _ rfl rfl) ?_
  rintro _ _ ⟨g53, rfl, rfl⟩
  refine t_st rfl (st_assign rfl) ?_
  refine t_nil ?_
  refine x_then_normal ?_
  refine c_seq ?_
  refine c_seq ?_
  refine c_region ?_
  refine t_st rfl (st_loadD (vs := [_, _, _]) 0 3 rfl agg24 rfl rfl rfl) ?_
  obtain ⟨x54, hcl55, hm⟩ := bindS hm
  refine t_do rfl (u_callW0 _ call24 rfl (fun w ho => cPlanCheckPeriodic _ [] s1 A2 c3 (h4.old ho) x54 hcl55) (fun _ _ _ h => h.2.symm)) ?_
  rintro _ _ ⟨⟨_, rfl, _⟩, rfl⟩
  refine t_st rfl (st_assign rfl) ?_
  refine t_nil ?_
  refine x_then_normal ?_
  refine c_seq ?_
  refine c_region ?_
  refine t_st rfl (st_move rfl) ?_
  refine t_st rfl (st_neq rfl rfl) ?_
  refine t_nil ?_
  refine x_then_normal ?_
  refine c_cond _ rfl (fun hc56 => ?_) (fun hc56 => ?_)
  ·
   rw [if_pos (of_decide_eq_true hc56)] at hm
   refine c_seq ?_
   refine c_region ?_
   refine t_st rfl (st_move rfl) ?_
   refine t_st rfl (st_assign rfl) ?_
   refine t_nil ?_
   refine x_then_normal ?_
   refine c_ret ?_
   refine x_then_ret ?_
   obtain rfl := some1 hm
   exact retM (rs := [.tmp 4]) [.int .i64 (x54)] (Base.Le.refl _) (by decide) rfl ⟨rfl, trivial⟩ rfl (hp' := R) (.cons _ (.refl _)) ⟨rfl, rfl⟩
  ·
   rw [if_neg (of_decide_eq_false hc56)] at hm
   refine c_skip ?_
   refine x_then_normal ?_
   refine c_seq ?_
   refine c_seq ?_
   refine c_region ?_
   refine t_st rfl (st_move rfl) ?_
   refine t_st rfl (st_len rfl sl30) ?_
   refine t_st rfl (st_field rfl fld24_1) ?_
   refine t_st rfl (st_load 0 rfl one3 rfl rfl) ?_
   refine t_st rfl (st_neq rfl rfl) ?_
   refine t_nil ?_
   refine x_then_normal ?_
   refine c_cond _ rfl (fun hc57 => ?_) (fun hc57 => ?_)
   ·
    rw [if_pos (of_decide_eq_true hc57)] at hm
    refine c_seq ?_
    refine c_region ?_
    refine t_st rfl (st_assign rfl) ?_
    refine t_nil ?_
    refine x_then_normal ?_
    refine c_ret ?_
    refine x_then_ret ?_
    obtain rfl := some1 hm
    exact retM (rs := [.tmp 4]) [.int .i64 (1)] (Base.Le.refl _) (by decide) rfl ⟨rfl, trivial⟩ rfl (hp' := R) (.cons _ (.refl _)) ⟨rfl, rfl⟩
   ·
    rw [if_neg (of_decide_eq_false hc57)] at hm
    refine c_skip ?_
    refine x_then_normal ?_
    refine c_seq ?_
    refine c_seq ?_
    refine c_region ?_
    refine t_st rfl (st_move rfl) ?_
    refine t_st rfl (st_len rfl sl30) ?_
    refine t_st rfl (st_move rfl) ?_
    refine t_nil ?_
    refine x_then_normal ?_
    refine c_block ?_
    have hb59 : l8.length ≤ 9223372036854775807 := (FZ.bd h7)
    obtain ⟨t77, hl78, hk79⟩ := bindS hm
    refine c_forM (fun k76 => fun _ => fun b74 e' hp' => [(2, .pointer (some ⟨g53, 0, none⟩)), (18, .slice A5 (l8).length c6), (19, .int .i64 ((l8.length : Int))), (20, .int .i64 ((k76 : Int)))] = e' ∧ (g53, Cl 24 [.int .i64 (s1.Period), .int .i64 (s1.Events), .slice A2 (s1.Rules).length c3]) :: R = hp' ∧ b.Le b74) hl78 (e' := [(2, .pointer (some ⟨g53, 0, none⟩)), (18, .slice A5 (l8).length c6), (19, .int .i64 ((l8.length : Int))), (20, .int .i64 0)]) (hp' := (g53, Cl 24 [.int .i64 (s1.Period), .int .i64 (s1.Events), .slice A2 (s1.Rules).length c3]) :: R) ⟨rfl, rfl, rfl, rfl, trivial⟩ (.cons_cons _ (.refl _)) ⟨rfl, rfl, (Base.Le.refl _)⟩ ?_ ?_
    ·
     rintro k76 _ b74 _ _ oL58 hknL58 ⟨rfl, rfl, hle75⟩ hstepL58 houtL58
     unfold mPlanCheckTimes_L58 at hstepL58
     have hm := hstepL58
     refine c_seq ?_
     refine c_region ?_
     refine t_st rfl (st_lss_t rfl rfl (by omega)) ?_
     refine t_nil ?_
     refine x_then_normal ?_
     refine c_seq ?_
     refine c_cond_t rfl ?_
     refine c_skip ?_
     refine x_then_normal ?_
     refine c_seq ?_
     refine c_block ?_
     refine c_seq ?_
     refine c_region ?_
     obtain ⟨x80, h81, hm⟩ := bindS hm
     obtain ⟨j82, hj83, hx84⟩ := idx_some h81
     obtain ⟨cs85, hr86, hcs87, hA88, hlt89⟩ := FZ.get (sz := 1) rfl (by decide) (h7.le hle75) hx84
     obtain rfl := hr86
     refine t_st rfl (st_index_old j82 rfl rfl hj83 hlt89 hA88 sl30) ?_
     refine t_st rfl (st_load_old rfl one3 (hcs87 0 _ rfl)) ?_
     refine t_st rfl (st_assign rfl) ?_
     refine t_nil ?_
     refine x_then_normal ?_
     refine c_seq ?_
     refine c_region ?_
     refine t_st rfl (st_move rfl) ?_
     refine t_st rfl (st_field rfl fld24_0) ?_
     refine t_st rfl (st_load 0 rfl one3 rfl rfl) ?_
     obtain ⟨_, h90, hm⟩ := bindS hm
     have h90 := (chk_some h90).2
     refine t_st rfl (st_sub rfl rfl h90) ?_
     obtain ⟨x91, hcl92, hm⟩ := bindS hm
     refine t_do rfl (u_callW0 _ call42 rfl (fun w ho => cPlanWithin _ [] x80 0 (s1.Period - 1) x91 hcl92) (fun _ _ _ h => h.2.symm)) ?_
     rintro _ _ ⟨⟨_, rfl, _⟩, rfl⟩
     refine t_st rfl (st_not rfl) ?_
     refine t_nil ?_
     refine x_then_normal ?_
     refine c_cond _ rfl (fun hc93 => ?_) (fun hc93 => ?_)
     ·
      rw [if_neg (fun hh => Bool.noConfusion (hh.symm.trans (notT hc93)))] at hm
      refine c_seq ?_
      refine c_region ?_
      refine t_st rfl (st_assign rfl) ?_
      refine t_nil ?_
      refine x_then_normal ?_
      refine c_ret ?_
      refine x_block_ret ?_
      refine x_then_ret ?_
      refine x_then_ret ?_
      refine x_block_ret ?_
      refine x_then_ret ?_
      have hq94 := houtL58 _ (Option.some.inj hm).symm
      rw [hq94] at hk79
      have hm := elimR hk79
      obtain rfl := some1 hm
      exact retM (rs := [.tmp 4]) [.int .i64 (2)] hle75 (by decide) rfl ⟨rfl, trivial⟩ rfl (hp' := R) (.cons _ (.refl _)) ⟨rfl, rfl⟩
     ·
      rw [if_pos (notF hc93)] at hm
      refine c_skip ?_
      refine x_block_normal ?_
      refine x_then_normal ?_
      refine c_region ?_
      refine t_st rfl (st_add rfl rfl (by omega)) ?_
      refine t_st rfl (st_move rfl) ?_
      refine t_nil ?_
      exact x_againM () (Option.some.inj hm).symm (e' := [(2, .pointer (some ⟨g53, 0, none⟩)), (18, .slice A5 (l8).length c6), (19, .int .i64 ((l8.length : Int))), (20, .int .i64 ((k76 : Int) + 1))]) (hp' := (g53, Cl 24 [.int .i64 (s1.Period), .int .i64 (s1.Events), .slice A2 (s1.Rules).length c3]) :: R) ⟨rfl, rfl, rfl, rfl, trivial⟩ (.cons_cons _ (.refl _)) ⟨rfl, rfl, (hle75)⟩
    ·
     rintro _ b74 _ _ ⟨rfl, rfl, hle75⟩ hq95
     rw [hq95] at hk79
     have hm := elimL hk79
     refine c_seq ?_
     refine c_region ?_
     refine t_st rfl (st_lss_f rfl rfl (by omega)) ?_
     refine t_nil ?_
     refine x_then_normal ?_
     refine c_seq ?_
     refine c_cond_f rfl ?_
     refine c_exit ?_
     refine x_then_exit ?_
     refine x_then_exit ?_
     refine x_block_out ?_
     refine x_then_normal ?_
     refine c_seq ?_
     refine c_region ?_
     refine t_st rfl (st_assign rfl) ?_
     refine t_nil ?_
     refine x_then_normal ?_
     refine c_ret ?_
     obtain rfl := some1 hm
     exact retM (rs := [.tmp 4]) [.int .i64 (0)] hle75 (by decide) rfl ⟨rfl, trivial⟩ rfl (hp' := R) (.cons _ (.refl _)) ⟨rfl, rfl⟩

set_option maxRecDepth 20000 in
theorem cPlanGap_2 (b : Base) (R : Hp) (s1 : PlanPeriodic) (s5 : PlanRule) (l9 : (List Int)) (A2 : Option Addr) (c3 : Nat) (A6 : Option Addr) (c7 : Nat) (h4 : FZ rPlanRule b.w A2 c3 s1.Rules) (h8 : FZ (RT.int .i64) b.w A6 c7 l9) (x67 : Int) (hm : mPlanGap_2 s1 s5 l9 = some x67) :
    CallsG Try.prog 34 [.agg #[.int .i64 (s1.Period), .int .i64 (s1.Events), .slice A2 (s1.Rules).length c3], .agg #[.int .i64 (s5.From), .int .i64 (s5.To), .int .i64 (s5.Min), .int .i64 (s5.Max), .int .i64 (s5.Weight)], .slice A6 (l9).length c7] b (R) (fun v b' hp' => .int .i64 (x67) = v ∧ R = hp') := by
  refine fn_enterG 35 Try.func34 rfl Try.ntmps34 rfl ?_
  unfold mPlanGap_2 at hm
  refine c_seq ?_
  refine c_region ?_
  refine t_do rfl (u_box _ rfl rfl) ?_
  rintro _ _ ⟨g68, rfl, rfl⟩
  refine t_do rfl (u_box _ rfl rfl) ?_
  rintro _ _ ⟨g69, rfl, rfl⟩
  refine t_st rfl (st_assign rfl) ?_
  refine t_nil ?_
  refine x_then_normal ?_
  refine c_seq ?_
  obtain ⟨x93, h94, hm⟩ := bindS hm
  obtain ⟨x103, h104, hm⟩ := bindS hm
  obtain ⟨_, h113, hm⟩ := bindS hm
  obtain ⟨_, h114, hm⟩ := bindS hm
  obtain ⟨_, h115, hm⟩ := bindS hm
  refine D_drawS ((g69, Cl 29 [.int .i64 (s5.From), .int .i64 (s5.To), .int .i64 (s5.Min), .int .i64 (s5.Max), .int .i64 (s5.Weight)]) :: (g68, Cl 24 [.int .i64 (s1.Period), .int .i64 (s1.Events), .slice A2 (s1.Rules).length c3]) :: R) mixed ?_
  refine E_in (.cons_cons _ (.cons_cons _ (.refl _))) ?_
  refine E_st 0 rfl (st_move rfl) ?_
  refine E_st 1 rfl (st_field rfl fld29_1) ?_
  refine E_st 2 rfl (st_load 0 rfl one3 rfl rfl) ?_
  obtain ⟨j95, hj96, hx97⟩ := idx_some h94
  obtain ⟨cs98, hr99, hcs100, hA101, hlt102⟩ := FZ.get (sz := 1) rfl (by decide) h8 hx97
  obtain rfl := hr99
  refine E_st 3 rfl (st_index_old j95 rfl rfl hj96 hlt102 hA101 sl30) ?_
  refine E_st 4 rfl (st_load_old rfl one3 (hcs100 0 _ rfl)) ?_
  refine E_st 5 rfl (st_move rfl) ?_
  refine E_st 6 rfl (st_field rfl fld29_0) ?_
  refine E_st 7 rfl (st_load 0 rfl one3 rfl rfl) ?_
  obtain ⟨j105, hj106, hx107⟩ := idx_some h104
  obtain ⟨cs108, hr109, hcs110, hA111, hlt112⟩ := FZ.get (sz := 1) rfl (by decide) h8 hx107
  obtain rfl := hr109
  refine E_st 8 rfl (st_index_old j105 rfl rfl hj106 hlt112 hA111 sl30) ?_
  refine E_st 9 rfl (st_load_old rfl one3 (hcs110 0 _ rfl)) ?_
  have h113 := (chk_some h113).2
  refine E_st 10 rfl (st_sub rfl rfl h113) ?_
  refine E_st 11 rfl (st_field rfl fld29_2) ?_
  refine E_st 12 rfl (st_load 0 rfl one3 rfl rfl) ?_
  have h114 := (chk_some h114).2
  refine E_st 13 rfl (st_sub rfl rfl h114) ?_
  refine E_st 14 rfl (st_field rfl fld24_0) ?_
  refine E_st 15 rfl (st_load 1 rfl one3 rfl rfl) ?_
  refine E_st 16 rfl (st_rem rfl rfl (ne0_some h115)) ?_
  refine E_st 17 rfl (st_assign rfl) ?_
  refine E_out ?_
  refine D_done (by kernel_rfl) ?_
  refine x_then_normal ?_
  obtain ⟨x120, hj121, hk121⟩ := bindS hm
  refine c_join (fun b118 e' hp' => [(4, .pointer (some ⟨g69, 0, none⟩)), (7, .int .i64 (x120))] = e' ∧ (g69, Cl 29 [.int .i64 (s5.From), .int .i64 (s5.To), .int .i64 (s5.Min), .int .i64 (s5.Max), .int .i64 (s5.Weight)]) :: R = hp' ∧ b.Le b118) ?_ ?_
  ·
   have hm := hj121
   refine c_seq ?_
   refine c_region ?_
   refine t_st rfl (st_move rfl) ?_
   refine t_st rfl (st_lss rfl rfl) ?_
   refine t_nil ?_
   refine x_then_normal ?_
   refine c_cond _ rfl (fun hc122 => ?_) (fun hc122 => ?_)
   ·
    rw [if_pos (of_decide_eq_true hc122)] at hm
    refine c_region ?_
    refine t_st rfl (st_move rfl) ?_
    refine t_st rfl (st_field rfl fld24_0) ?_
    refine t_st rfl (st_load 1 rfl one3 rfl rfl) ?_
    obtain ⟨_, h123, hm⟩ := bindS hm
    have h123 := (chk_some h123).2
    refine t_st rfl (st_add rfl rfl h123) ?_
    refine t_st rfl (st_assign rfl) ?_
    refine t_nil ?_
    obtain rfl := some1 hm
    exact x_join (e' := [(4, .pointer (some ⟨g69, 0, none⟩)), (7, .int .i64 ((Int.tmod ((x93 - x103) - s5.Min) s1.Period) + s1.Period))]) (hp' := (g69, Cl 29 [.int .i64 (s5.From), .int .i64 (s5.To), .int .i64 (s5.Min), .int .i64 (s5.Max), .int .i64 (s5.Weight)]) :: R) ⟨rfl, rfl, trivial⟩ (.cons_cons _ (.cons _ (.refl _))) ⟨rfl, rfl, (Base.Le.refl _)⟩
   ·
    rw [if_neg (of_decide_eq_false hc122)] at hm
    refine c_skip ?_
    obtain rfl := some1 hm
    exact x_join (e' := [(4, .pointer (some ⟨g69, 0, none⟩)), (7, .int .i64 (Int.tmod ((x93 - x103) - s5.Min) s1.Period))]) (hp' := (g69, Cl 29 [.int .i64 (s5.From), .int .i64 (s5.To), .int .i64 (s5.Min), .int .i64 (s5.Max), .int .i64 (s5.Weight)]) :: R) ⟨rfl, rfl, trivial⟩ (.cons_cons _ (.cons _ (.refl _))) ⟨rfl, rfl, (Base.Le.refl _)⟩
  ·
   rintro b118 _ _ ⟨rfl, rfl, hle119⟩
   have hm := hk121
   refine c_seq ?_
   refine c_region ?_
   refine t_st rfl (st_field rfl fld29_2) ?_
   refine t_st rfl (st_load 0 rfl one3 rfl rfl) ?_
   refine t_st rfl (st_move rfl) ?_
   obtain ⟨_, h124, hm⟩ := bindS hm
   have h124 := (chk_some h124).2
   refine t_st rfl (st_add rfl rfl h124) ?_
   refine t_st rfl (st_assign rfl) ?_
   refine t_nil ?_
   refine x_then_normal ?_
   refine c_ret ?_
   obtain rfl := some1 hm
   exact retM (rs := [.tmp 6]) [.int .i64 (s5.Min + x120)] hle119 (by decide) rfl ⟨rfl, trivial⟩ rfl (hp' := R) (.cons _ (.refl _)) ⟨rfl, rfl⟩

set_option maxRecDepth 20000 in
theorem cPlanGap (b : Base) (R : Hp) (s1 : PlanPeriodic) (x5 : Int) (l9 : (List Int)) (A2 : Option Addr) (c3 : Nat) (A6 : Option Addr) (c7 : Nat) (h4 : FZ rPlanRule b.w A2 c3 s1.Rules) (h8 : FZ (RT.int .i64) b.w A6 c7 l9) (x42 : Int) (x43 : Int) (hm : mPlanGap s1 x5 l9 = some (x42, x43)) :
    CallsG Try.prog 21 [.agg #[.int .i64 (s1.Period), .int .i64 (s1.Events), .slice A2 (s1.Rules).length c3], .int .i64 (x5), .slice A6 (l9).length c7] b (R) (fun v b' hp' => .tuple #[.int .i64 (x42), .int .i64 (x43)] = v ∧ R = hp') := by
  refine fn_enterG 30 Try.func21 rfl Try.ntmps21 rfl ?_
  unfold mPlanGap at hm
  refine c_seq ?_
  refine c_region ?_
  refine t_do rfl (u_box _ rfl rfl) ?_
  rintro _ _ ⟨g44, rfl, rfl⟩
  refine t_st rfl (st_assign rfl) ?_
  refine t_st rfl (st_assign rfl) ?_
  refine t_nil ?_
  refine x_then_normal ?_
  refine c_seq ?_
  refine c_seq ?_
  refine c_region ?_
  refine t_st rfl (st_loadD (vs := [_, _, _]) 0 3 rfl agg24 rfl rfl rfl) ?_
  refine t_st rfl (st_move rfl) ?_
  obtain ⟨x45, hcl46, hm⟩ := bindS hm
  refine t_do rfl (u_callW0 _ call32 rfl (fun w ho => cPlanCheckTimes _ [] s1 l9 A2 c3 A6 c7 (h4.old ho) (h8.old ho) x45 hcl46) (fun _ _ _ h => h.2.symm)) ?_
  rintro _ _ ⟨⟨_, rfl, _⟩, rfl⟩
  refine t_st rfl (st_assign rfl) ?_
  refine t_nil ?_
  refine x_then_normal ?_
  refine c_seq ?_
  refine c_region ?_
  refine t_st rfl (st_move rfl) ?_
  refine t_st rfl (st_neq rfl rfl) ?_
  refine t_nil ?_
  refine x_then_normal ?_
  refine c_cond _ rfl (fun hc47 => ?_) (fun hc47 => ?_)
  ·
   rw [if_pos (of_decide_eq_true hc47)] at hm
   refine c_seq ?_
   refine c_region ?_
   refine t_st rfl (st_move rfl) ?_
   refine t_st rfl (st_assign rfl) ?_
   refine t_st rfl (st_assign rfl) ?_
   refine t_nil ?_
   refine x_then_normal ?_
   refine c_ret ?_
   refine x_then_ret ?_
   obtain ⟨rfl, rfl⟩ := some2 hm
   exact retM (rs := [.tmp 6, .tmp 7]) [.int .i64 (0), .int .i64 (x45)] (Base.Le.refl _) (by decide) rfl ⟨rfl, ⟨rfl, trivial⟩⟩ rfl (hp' := R) (.cons _ (.refl _)) ⟨rfl, rfl⟩
  ·
   rw [if_neg (of_decide_eq_false hc47)] at hm
   refine c_skip ?_
   refine x_then_normal ?_
   refine c_seq ?_
   refine c_seq ?_
   refine c_region ?_
   refine t_st rfl (st_move rfl) ?_
   refine t_st rfl (st_field rfl fld24_2) ?_
   refine t_st rfl (st_load 0 rfl one22 rfl rfl) ?_
   refine t_st rfl (st_len rfl sl22) ?_
   obtain ⟨_, h48, hm⟩ := bindS hm
   have h48 := (chk_some h48).2
   refine t_st rfl (st_sub rfl rfl h48) ?_
   obtain ⟨x49, hcl50, hm⟩ := bindS hm
   refine t_do rfl (u_callW0 _ call42 rfl (fun w ho => cPlanWithin _ [] x5 0 ((s1.Rules.length : Int) - 1) x49 hcl50) (fun _ _ _ h => h.2.symm)) ?_
   rintro _ _ ⟨⟨_, rfl, _⟩, rfl⟩
   refine t_st rfl (st_not rfl) ?_
   refine t_nil ?_
   refine x_then_normal ?_
   refine c_cond _ rfl (fun hc51 => ?_) (fun hc51 => ?_)
   ·
    rw [if_neg (fun hh => Bool.noConfusion (hh.symm.trans (notT hc51)))] at hm
    refine c_seq ?_
    refine c_region ?_
    refine t_st rfl (st_assign rfl) ?_
    refine t_st rfl (st_assign rfl) ?_
    refine t_nil ?_
    refine x_then_normal ?_
    refine c_ret ?_
    refine x_then_ret ?_
    obtain ⟨rfl, rfl⟩ := some2 hm
    exact retM (rs := [.tmp 6, .tmp 7]) [.int .i64 (0), .int .i64 (3)] (Base.Le.refl _) (by decide) rfl ⟨rfl, ⟨rfl, trivial⟩⟩ rfl (hp' := R) (.cons _ (.refl _)) ⟨rfl, rfl⟩
   ·
    rw [if_pos (notF hc51)] at hm
    refine c_skip ?_
    refine x_then_normal ?_
    refine c_seq ?_
    obtain ⟨x64, h65, hm⟩ := bindS hm
    obtain ⟨x74, hcl75, hm⟩ := bindS hm
    refine D_drawS ((g44, Cl 24 [.int .i64 (s1.Period), .int .i64 (s1.Events), .slice A2 (s1.Rules).length c3]) :: R) mixed ?_
    refine E_in (.cons_cons _ (.refl _)) ?_
    refine E_st 0 rfl (st_loadD (vs := [_, _, _]) 0 3 rfl agg24 rfl rfl rfl) ?_
    refine E_st 1 rfl (st_field rfl fld24_2) ?_
    refine E_st 2 rfl (st_load 0 rfl one22 rfl rfl) ?_
    refine E_st 3 rfl (st_move rfl) ?_
    obtain ⟨j66, hj67, hx68⟩ := idx_some h65
    obtain ⟨cs69, hr70, hcs71, hA72, hlt73⟩ := FZ.get (sz := 5) rfl (by decide) h4 hx68
    obtain ⟨_, _, rfl, rfl, ⟨_, _, rfl, rfl, ⟨_, _, rfl, rfl, ⟨_, _, rfl, rfl, rfl⟩⟩⟩⟩ := hr70
    refine E_st 4 rfl (st_index_old j66 rfl rfl hj67 hlt73 hA72 sl22) ?_
    refine E_st 5 rfl (st_loadN_old (vs := [.int .i64 (x64.From), .int .i64 (x64.To), .int .i64 (x64.Min), .int .i64 (x64.Max), .int .i64 (x64.Weight)]) 5 rfl agg29 hA72 rfl (fun j u hu => hcs71 j u hu)) ?_
    refine E_st 6 rfl (st_move rfl) ?_
    refine E_out ?_
    refine D_all [7] (by kernel_rfl) rfl ?_
    refine R_do (Base.Le.refl _) rfl rfl (u_callW0 _ call34 rfl (fun w ho => cPlanGap_2 _ [] s1 x64 l9 A2 c3 A6 c7 (h4.old ho) (h8.old ho) x74 hcl75) (fun _ _ _ h => h.2.symm)) ?_ ?_
    ·
     rintro _ _ ⟨⟨_, rfl, _⟩, rfl⟩
     refine ⟨.inr (.cons_cons _ (.refl _)), ?_⟩
     refine E_in (.cons_cons _ (.refl _)) ?_
     refine E_st 8 rfl (st_assign rfl) ?_
     refine E_st 9 rfl (st_assign rfl) ?_
     refine E_out ?_
     refine D_done (by kernel_rfl) ?_
     refine x_then_normal ?_
     refine c_ret ?_
     obtain ⟨rfl, rfl⟩ := some2 hm
     exact retM (rs := [.tmp 6, .tmp 7]) [.int .i64 (x74), .int .i64 (0)] (Base.Le.refl _) (by decide) rfl ⟨rfl, ⟨rfl, trivial⟩⟩ rfl (hp' := R) (.cons _ (.refl _)) ⟨rfl, rfl⟩
    exact R_nil

set_option maxRecDepth 20000 in
theorem cFishkeep2AwakePlan (b : Base) (R : Hp) (x4 : Bool) (hm : mFishkeep2AwakePlan = some x4) :
    CallsG Try.prog 6 [] b (R) (fun v b' hp' => .bool (x4) = v ∧ R = hp') := by
  refine fn_enterG 10 Try.func6 rfl Try.ntmps6 rfl ?_
  unfold mFishkeep2AwakePlan at hm
  refine c_seq ?_
  refine c_region ?_
  refine t_st rfl (st_assign rfl) ?_
  refine t_nil ?_
  refine x_then_normal ?_
  refine c_seq ?_
  refine c_region ?_
  refine t_st rfl (st_build (v := .agg #[.int .i64 (0), .int .i64 (0), .slice none 0 0]) [] rfl (fun _ => by kernel_rfl)) ?_
  obtain ⟨⟨x5, x6⟩, hcl7, hm⟩ := bindS hm
  have hm := (unc2E hm)
  refine t_do rfl (u_callW0 _ call21 rfl (fun w ho => cPlanGap _ [] (⟨0, 0, []⟩ : PlanPeriodic) (-1) [] none 0 none 0 FZ.nil FZ.nil x5 x6 hcl7) (fun _ _ _ h => h.2.symm)) ?_
  rintro _ _ ⟨⟨_, rfl, _⟩, rfl⟩
  refine t_st rfl (st_move rfl) ?_
  refine t_st rfl (st_extract rfl rfl) ?_
  refine t_st rfl (st_extract rfl rfl) ?_
  refine t_st rfl (st_assign rfl) ?_
  refine t_st rfl (st_assign rfl) ?_
  refine t_nil ?_
  refine x_then_normal ?_
  refine c_seq ?_
  refine c_region ?_
  refine t_st rfl (st_move rfl) ?_
  refine t_st rfl (st_neq rfl rfl) ?_
  refine t_st rfl (st_assign rfl) ?_
  refine t_nil ?_
  refine x_then_normal ?_
  refine c_ret ?_
  obtain rfl := some1 hm
  exact retM (rs := [.tmp 0]) [.bool (decide (x6 ≠ 0))] (Base.Le.refl _) (by decide) rfl ⟨rfl, trivial⟩ rfl (hp' := R) (.refl _) ⟨rfl, rfl⟩

set_option maxRecDepth 20000 in
theorem cBitsMul64 (b : Base) (R : Hp) (x1 : Int) (x2 : Int) (x8 : Int) (x9 : Int) (hm : mBitsMul64 x1 x2 = some (x8, x9)) :
    CallsG Try.prog 57 [.int .u64 (x1), .int .u64 (x2)] b (R) (fun v b' hp' => .tuple #[.int .u64 (x8), .int .u64 (x9)] = v ∧ R = hp') := by
  refine fn_enterG 51 Try.func57 rfl Try.ntmps57 rfl ?_
  unfold mBitsMul64 at hm
  refine c_seq ?_
  refine c_region ?_
  refine t_st rfl (st_assign rfl) ?_
  refine t_st rfl (st_assign rfl) ?_
  refine t_nil ?_
  refine x_then_normal ?_
  refine c_seq ?_
  refine c_region ?_
  refine t_st rfl (st_move rfl) ?_
  refine t_st rfl (st_and rfl rfl) ?_
  refine t_st rfl (st_assign rfl) ?_
  refine t_nil ?_
  refine x_then_normal ?_
  refine c_seq ?_
  refine c_region ?_
  refine t_st rfl (st_move rfl) ?_
  obtain ⟨_, h10, hm⟩ := bindS hm
  have h10 := shN_some h10
  refine t_st rfl (st_shr rfl rfl h10) ?_
  refine t_st rfl (st_assign rfl) ?_
  refine t_nil ?_
  refine x_then_normal ?_
  refine c_seq ?_
  refine c_region ?_
  refine t_st rfl (st_move rfl) ?_
  refine t_st rfl (st_and rfl rfl) ?_
  refine t_st rfl (st_assign rfl) ?_
  refine t_nil ?_
  refine x_then_normal ?_
  refine c_seq ?_
  refine c_region ?_
  refine t_st rfl (st_move rfl) ?_
  obtain ⟨_, h11, hm⟩ := bindS hm
  have h11 := shN_some h11
  refine t_st rfl (st_shr rfl rfl h11) ?_
  refine t_st rfl (st_assign rfl) ?_
  refine t_nil ?_
  refine x_then_normal ?_
  refine c_seq ?_
  refine c_region ?_
  refine t_st rfl (st_move rfl) ?_
  refine t_st rfl (st_move rfl) ?_
  refine t_st rfl (st_mul_w rfl rfl) ?_
  refine t_st rfl (st_assign rfl) ?_
  refine t_nil ?_
  refine x_then_normal ?_
  refine c_seq ?_
  refine c_region ?_
  refine t_st rfl (st_move rfl) ?_
  refine t_st rfl (st_move rfl) ?_
  refine t_st rfl (st_mul_w rfl rfl) ?_
  refine t_st rfl (st_move rfl) ?_
  obtain ⟨_, h12, hm⟩ := bindS hm
  have h12 := shN_some h12
  refine t_st rfl (st_shr rfl rfl h12) ?_
  refine t_st rfl (st_add_w rfl rfl) ?_
  refine t_st rfl (st_assign rfl) ?_
  refine t_nil ?_
  refine x_then_normal ?_
  refine c_seq ?_
  refine c_region ?_
  refine t_st rfl (st_move rfl) ?_
  refine t_st rfl (st_and rfl rfl) ?_
  refine t_st rfl (st_assign rfl) ?_
  refine t_nil ?_
  refine x_then_normal ?_
  refine c_seq ?_
  refine c_region ?_
  refine t_st rfl (st_move rfl) ?_
  obtain ⟨_, h13, hm⟩ := bindS hm
  have h13 := shN_some h13
  refine t_st rfl (st_shr rfl rfl h13) ?_
  refine t_st rfl (st_assign rfl) ?_
  refine t_nil ?_
  refine x_then_normal ?_
  refine c_seq ?_
  refine c_region ?_
  refine t_st rfl (st_move rfl) ?_
  refine t_st rfl (st_move rfl) ?_
  refine t_st rfl (st_move rfl) ?_
  refine t_st rfl (st_mul_w rfl rfl) ?_
  refine t_st rfl (st_add_w rfl rfl) ?_
  refine t_st rfl (st_assign rfl) ?_
  refine t_nil ?_
  refine x_then_normal ?_
  refine c_seq ?_
  refine c_region ?_
  refine t_st rfl (st_move rfl) ?_
  refine t_st rfl (st_move rfl) ?_
  refine t_st rfl (st_mul_w rfl rfl) ?_
  refine t_st rfl (st_move rfl) ?_
  refine t_st rfl (st_add_w rfl rfl) ?_
  refine t_st rfl (st_move rfl) ?_
  obtain ⟨_, h14, hm⟩ := bindS hm
  have h14 := shN_some h14
  refine t_st rfl (st_shr rfl rfl h14) ?_
  refine t_st rfl (st_add_w rfl rfl) ?_
  refine t_st rfl (st_assign rfl) ?_
  refine t_nil ?_
  refine x_then_normal ?_
  refine c_seq ?_
  refine c_region ?_
  refine t_st rfl (st_move rfl) ?_
  refine t_st rfl (st_move rfl) ?_
  refine t_st rfl (st_mul_w rfl rfl) ?_
  refine t_st rfl (st_assign rfl) ?_
  refine t_nil ?_
  refine x_then_normal ?_
  refine c_ret ?_
  obtain ⟨rfl, rfl⟩ := some2 hm
  exact retM (rs := [.tmp 4, .tmp 5]) [.int .u64 (IntKind.wrap .u64 ((IntKind.wrap .u64 ((IntKind.wrap .u64 ((shrI .u64 x1 32) * (shrI .u64 x2 32))) + (shrI .u64 (IntKind.wrap .u64 ((IntKind.wrap .u64 ((shrI .u64 x1 32) * (andI .u64 x2 4294967295))) + (shrI .u64 (IntKind.wrap .u64 ((andI .u64 x1 4294967295) * (andI .u64 x2 4294967295))) 32))) 32))) + (shrI .u64 (IntKind.wrap .u64 ((andI .u64 (IntKind.wrap .u64 ((IntKind.wrap .u64 ((shrI .u64 x1 32) * (andI .u64 x2 4294967295))) + (shrI .u64 (IntKind.wrap .u64 ((andI .u64 x1 4294967295) * (andI .u64 x2 4294967295))) 32))) 4294967295) + (IntKind.wrap .u64 ((andI .u64 x1 4294967295) * (shrI .u64 x2 32))))) 32))), .int .u64 (IntKind.wrap .u64 (x1 * x2))] (Base.Le.refl _) (by decide) rfl ⟨rfl, ⟨rfl, trivial⟩⟩ rfl (hp' := R) (.refl _) ⟨rfl, rfl⟩

set_option maxRecDepth 20000 in
theorem cBitsMul (b : Base) (R : Hp) (x1 : Int) (x2 : Int) (x6 : Int) (x7 : Int) (hm : mBitsMul x1 x2 = some (x6, x7)) :
    CallsG Try.prog 54 [.int .u64 (x1), .int .u64 (x2)] b (R) (fun v b' hp' => .tuple #[.int .u64 (x6), .int .u64 (x7)] = v ∧ R = hp') := by
  refine fn_enterG 30 Try.func54 rfl Try.ntmps54 rfl ?_
  unfold mBitsMul at hm
  refine c_seq ?_
  refine c_region ?_
  refine t_st rfl (st_assign rfl) ?_
  refine t_st rfl (st_assign rfl) ?_
  refine t_nil ?_
  refine x_then_normal ?_
  refine c_seq ?_
  refine c_cond_f rfl ?_
  refine c_skip ?_
  refine x_then_normal ?_
  refine c_seq ?_
  refine c_region ?_
  refine t_st rfl (st_move rfl) ?_
  refine t_st rfl (st_move rfl) ?_
  obtain ⟨⟨x8, x9⟩, hcl10, hm⟩ := bindS hm
  have hm := (unc2E hm)
  refine t_do rfl (u_callW0 _ call57 rfl (fun w ho => cBitsMul64 _ [] x1 x2 x8 x9 hcl10) (fun _ _ _ h => h.2.symm)) ?_
  rintro _ _ ⟨⟨_, rfl, _⟩, rfl⟩
  refine t_st rfl (st_move rfl) ?_
  refine t_st rfl (st_extract rfl rfl) ?_
  refine t_st rfl (st_extract rfl rfl) ?_
  refine t_st rfl (st_assign rfl) ?_
  refine t_st rfl (st_assign rfl) ?_
  refine t_nil ?_
  refine x_then_normal ?_
  refine c_seq ?_
  refine c_region ?_
  refine t_st rfl (st_move rfl) ?_
  refine t_st rfl (st_move rfl) ?_
  refine t_st rfl (st_assign rfl) ?_
  refine t_st rfl (st_assign rfl) ?_
  refine t_nil ?_
  refine x_then_normal ?_
  refine c_ret ?_
  obtain ⟨rfl, rfl⟩ := some2 hm
  exact retM (rs := [.tmp 4, .tmp 5]) [.int .u64 (x8), .int .u64 (x9)] (Base.Le.refl _) (by decide) rfl ⟨rfl, ⟨rfl, trivial⟩⟩ rfl (hp' := R) (.refl _) ⟨rfl, rfl⟩

set_option maxRecDepth 20000 in
theorem cSlicesRepeat (b : Base) (R : Hp) (l4 : (List Bool)) (x5 : Int) (A1 : Option Addr) (c2 : Nat) (h3 : FZ RT.bool b.w A1 c2 l4) (l401 : (List Bool)) (hm : mSlicesRepeat l4 x5 = some l401) :
    CallsG Try.prog 48 [.slice A1 (l4).length c2, .int .i64 (x5)] b (R) (fun v b' hp' => ∃ (A398 : Option Addr), ∃ (c399 : Nat), ∃ (hs397 : Hp), .slice A398 (l401).length c399 = v ∧ (hs397 ++ R) = hp' ∧ OS 4 (OT.fr RT.bool) b'.w (.slice A398 l401.length c399) l401 hs397) := by
  refine fn_enterG 48 Try.func48 rfl Try.ntmps48 rfl ?_
  unfold mSlicesRepeat at hm
  refine c_seq ?_
  refine c_region ?_
  refine t_st rfl (st_assign rfl) ?_
  refine t_nil ?_
  refine x_then_normal ?_
  refine c_seq ?_
  refine c_seq ?_
  refine c_region ?_
  refine t_st rfl (st_move rfl) ?_
  refine t_st rfl (st_lss rfl rfl) ?_
  refine t_nil ?_
  refine x_then_normal ?_
  refine c_cond _ rfl (fun hc402 => ?_) (fun hc402 => ?_)
  ·
   rw [if_pos (of_decide_eq_true hc402)] at hm
   cases hm
  ·
   rw [if_neg (of_decide_eq_false hc402)] at hm
   refine c_skip ?_
   refine x_then_normal ?_
   refine c_seq ?_
   refine c_region ?_
   refine t_st rfl (st_move rfl) ?_
   refine t_st rfl (st_len rfl sl61) ?_
   refine t_st rfl (st_conv rfl int3_i64 int79_u64) ?_
   refine t_st rfl (st_move rfl) ?_
   refine t_st rfl (st_conv rfl int3_i64 int79_u64) ?_
   obtain ⟨⟨x403, x404⟩, hcl405, hm⟩ := bindS hm
   have hm := (unc2E hm)
   refine t_do rfl (u_callW0 _ call54 rfl (fun w ho => cBitsMul _ [] (IntKind.wrap .u64 (l4.length : Int)) (IntKind.wrap .u64 x5) x403 x404 hcl405) (fun _ _ _ h => h.2.symm)) ?_
   rintro _ _ ⟨⟨_, rfl, _⟩, rfl⟩
   refine t_st rfl (st_move rfl) ?_
   refine t_st rfl (st_extract rfl rfl) ?_
   refine t_st rfl (st_extract rfl rfl) ?_
   refine t_st rfl (st_assign rfl) ?_
   refine t_st rfl (st_assign rfl) ?_
   refine t_nil ?_
   refine x_then_normal ?_
   refine c_seq ?_
   obtain ⟨x409, hj410, hk410⟩ := bindS hm
   refine c_join (fun b407 e' hp' => [(0, .slice A1 (l4).length c2), (6, .int .u64 (x404)), (26, .bool (x409))] = e' ∧ R = hp' ∧ b.Le b407) ?_ ?_
   ·
    have hm := hj410
    refine c_region ?_
    refine t_st rfl (st_move rfl) ?_
    refine t_bool rfl (st_gtr rfl rfl) (fun hc411 => ?_) (fun hc411 => ?_)
    ·
     rw [if_pos hc411] at hm
     refine t_st rfl (st_move rfl) ?_
     refine t_no 23 rfl rfl rfl rfl rfl ?_
     refine t_no 23 rfl rfl rfl rfl rfl ?_
     refine t_st rfl (st_pick_t rfl rfl) ?_
     refine t_nil ?_
     obtain rfl := some1 hm
     exact x_join (e' := [(0, .slice A1 (l4).length c2), (6, .int .u64 (x404)), (26, .bool (true))]) (hp' := R) ⟨rfl, rfl, rfl, trivial⟩ (.refl _) ⟨rfl, rfl, (Base.Le.refl _)⟩
    ·
     rw [if_neg hc411] at hm
     refine t_st rfl (st_move rfl) ?_
     refine t_yes 23 rfl rfl rfl ?_
     refine t_st rfl (st_move rfl) ?_
     refine t_yes 23 rfl rfl rfl ?_
     refine t_st rfl (st_gtr rfl rfl) ?_
     refine t_st rfl (st_pick_f rfl rfl) ?_
     refine t_nil ?_
     obtain rfl := some1 hm
     exact x_join (e' := [(0, .slice A1 (l4).length c2), (6, .int .u64 (x404)), (26, .bool (decide (9223372036854775807 < x404)))]) (hp' := R) ⟨rfl, rfl, rfl, trivial⟩ (.refl _) ⟨rfl, rfl, (Base.Le.refl _)⟩
   ·
    rintro b407 _ _ ⟨rfl, rfl, hle408⟩
    have hm := hk410
    refine c_cond _ rfl (fun hc412 => ?_) (fun hc412 => ?_)
    ·
     rw [if_pos hc412] at hm
     cases hm
    ·
     rw [if_neg (fun hh => Bool.noConfusion (hh.symm.trans hc412))] at hm
     refine c_skip ?_
     refine x_then_normal ?_
     refine c_seq ?_
     refine c_region ?_
     refine t_st rfl (st_move rfl) ?_
     refine t_st rfl (st_conv rfl int79_u64 int3_i64) ?_
     obtain ⟨m413, h414, hm⟩ := bindS hm
     have h414 := mkLen_some h414
     refine t_do rfl (u_mkOS (r := RT.bool) [] R [.bool (false)] false m413 rfl h414.1 rfl rfl sl61 inf4 rfl rfl rfl (by decide) rfl h414.2.1 h414.2.2) ?_
     rintro _ _ ⟨hs415, rfl, h416⟩
     obtain ⟨A417, c418, rfl, _⟩ := h416.form
     refine t_st rfl (st_assign rfl) ?_
     refine t_nil ?_
     refine x_then_normal ?_
     refine c_seq ?_
     refine c_region ?_
     refine t_st rfl (st_move rfl) ?_
     refine t_st rfl (st_move rfl) ?_
     obtain ⟨css419, h420, h421⟩ := rd_src (h3.le hle408)
     refine t_do rfl (u_copyI (r := RT.bool) (m := l4) (show (0 : Int) = ((0 : Nat) : Int) from rfl) rfl [] R css419 rfl sl61 rfl rfl (subA_zero _ _ _).symm (Nat.sub_zero _).symm rfl (Nat.zero_le _) (Nat.le_refl _) h416 rfl (fun w ho => h420.old ho) h421) ?_
     rintro _ _ ⟨rfl, hs422, rfl, h423⟩
     refine t_resp 7 rfl (v' := .slice A417 (cpyI (List.replicate m413 (false : Bool)) 0 ((List.replicate m413 (false : Bool)).length : Int) l4).length c418) (by rw [(cpyI_length (show (0 : Int) = ((0 : Nat) : Int) from rfl) rfl (Nat.zero_le _) (Nat.le_refl _))]) ?_
     refine t_st rfl (st_assign rfl) ?_
     refine t_nil ?_
     refine x_then_normal ?_
     obtain ⟨l609, hj611, hk611⟩ := bindS hm
     refine c_join (fun b604 e' hp' => ∃ (hs607 : Hp), [(7, .slice A417 (l609).length c418)] = e' ∧ (hs607 ++ R) = hp' ∧ b407.Le b604 ∧ OS 4 (OT.fr RT.bool) b604.w (.slice A417 l609.length c418) l609 hs607 ∧ l609.length = m413) ?_ ?_
     ·
      have hm := hj611
      refine c_block ?_
      refine c_loopM (unc2 fun x734 l735 => fun b729 e' hp' => ∃ (hs732 : Hp), [(7, .slice A417 (l735).length c418), (8, .int .i64 (x734))] = e' ∧ (hs732 ++ R) = hp' ∧ b407.Le b729 ∧ OS 4 (OT.fr RT.bool) b729.w (.slice A417 l735.length c418) l735 hs732 ∧ l735.length = m413) hm (e' := [(7, .slice A417 (cpyI (List.replicate m413 (false : Bool)) 0 ((List.replicate m413 (false : Bool)).length : Int) l4).length c418), (8, .int .i64 (cpyN 0 ((List.replicate m413 (false : Bool)).length : Int) l4))]) (hp' := (hs422 ++ R)) ⟨rfl, rfl, trivial⟩ (sub_app hs422 (.refl _)) ⟨hs422, rfl, rfl, (Base.Le.refl _), h423, ((cpyI_length (show (0 : Int) = ((0 : Nat) : Int) from rfl) rfl (Nat.zero_le _) (Nat.le_refl _)).trans List.length_replicate)⟩ ?_
      rintro ⟨x734, l735⟩ b729 _ _ oL612 ⟨hs732, rfl, rfl, hle730, h733, hln736⟩ hstepL612 houtL612
      unfold mSlicesRepeat_L612 at hstepL612
      have hm := (unc2E hstepL612)
      refine c_seq ?_
      refine c_seq ?_
      refine c_region ?_
      refine t_st rfl (st_move rfl) ?_
      refine t_st rfl (st_move rfl) ?_
      refine t_st rfl (st_len rfl sl61) ?_
      refine t_st rfl (st_lss rfl rfl) ?_
      refine t_nil ?_
      refine x_then_normal ?_
      refine c_cond _ rfl (fun hc737 => ?_) (fun hc737 => ?_)
      ·
       rw [if_pos (of_decide_eq_true hc737)] at hm
       refine c_skip ?_
       refine x_then_normal ?_
       refine c_block ?_
       obtain ⟨l765, h766, hm⟩ := bindS hm
       obtain ⟨l775, h776, hm⟩ := bindS hm
       obtain ⟨_, h791, hm⟩ := bindS hm
       refine D_drawS (R) mixed ?_
       refine E_in (sub_skip hs732 (.refl _)) ?_
       refine E_st 0 rfl (st_move rfl) ?_
       refine E_st 1 rfl (st_move rfl) ?_
       refine E_st 2 rfl (st_move rfl) ?_
       obtain ⟨j767, j768, hj769, hj770, hj771, hj772, hx773⟩ := cutS_some h766
       have h774 := OS.lc h733
       refine E_st 3 rfl (hx773 ▸ st_part (l := l735) j767 j768 rfl (.inr ⟨_, _, _, rfl, rfl, hj769⟩) (.inl ⟨rfl, by omega⟩) hj771 hj772 h774 sl61) ?_
       refine E_st 4 rfl (st_move rfl) ?_
       refine E_st 5 rfl (st_move rfl) ?_
       obtain ⟨j777, j778, hj779, hj780, hj781, hj782, hx783⟩ := cutS_some h776
       have h784 := OS.lc h733
       refine E_st 6 rfl (hx783 ▸ st_part (l := l735) j777 j778 rfl (.inl ⟨rfl, by omega⟩) (.inr ⟨_, _, _, rfl, rfl, hj780⟩) hj781 hj782 h784 sl61) ?_
       refine E_out ?_
       obtain ⟨css785, h786, h787⟩ := rd_own h733 (List.sublist_append_left _ _)
       have h788 := OS.lc h733
       refine D_all [7] (by kernel_rfl) rfl ?_
       refine R_do (Base.Le.refl _) rfl rfl (u_copyI (r := RT.bool) (m := l775) hj769 hj770 [] R ((css785.take j778).drop j777) rfl sl61 rfl rfl rfl (cut_len hx773 hj771 hj772) rfl hj771 hj772 h733 rfl (fun w ho => rd_part rfl hj781 hj782 h788 (h786 w ho) ⟨_, h787⟩) (cut_all hx783 h787)) ?_ ?_
       ·
        rintro _ _ ⟨rfl, hs789, rfl, h790⟩
        refine ⟨.inr (sub_skip hs789 (.refl _)), ?_⟩
        refine d_resp 7 rfl (v' := .slice A417 (cpyI l735 x734 (l735.length : Int) l775).length c418) (by rw [(cpyI_length hj769 hj770 hj771 hj772)]) ?_
        have h791 := (chk_some h791).2
        refine E_in (sub_skip hs789 (.refl _)) ?_
        refine E_st 8 rfl (st_add rfl rfl h791) ?_
        refine E_st 9 rfl (st_assign rfl) ?_
        refine E_out ?_
        refine D_done (by kernel_rfl) ?_
        refine x_block_normal ?_
        exact x_againM (x734 + (cpyN x734 (l735.length : Int) l775), cpyI l735 x734 (l735.length : Int) l775) (Option.some.inj hm).symm (e' := [(7, .slice A417 (cpyI l735 x734 (l735.length : Int) l775).length c418), (8, .int .i64 (x734 + (cpyN x734 (l735.length : Int) l775)))]) (hp' := (hs789 ++ R)) ⟨rfl, rfl, trivial⟩ (sub_app hs789 (.refl _)) ⟨hs789, rfl, rfl, (hle730), h790, ((cpyI_length hj769 hj770 hj771 hj772).trans hln736)⟩
       exact R_nil
      ·
       rw [if_neg (of_decide_eq_false hc737)] at hm
       refine c_exit ?_
       refine x_then_exit ?_
       refine x_then_exit ?_
       refine x_block_out ?_
       have hm := congrArg some (houtL612 _ (Option.some.inj hm).symm)
       obtain rfl := some1 hm
       exact x_join (e' := [(7, .slice A417 (l735).length c418)]) (hp' := (hs732 ++ R)) ⟨rfl, trivial⟩ (sub_app hs732 (.refl _)) ⟨hs732, rfl, rfl, hle730, h733, hln736⟩
     ·
      rintro b604 _ _ ⟨hs607, rfl, rfl, hle605, h608, hln610⟩
      have hm := hk611
      refine c_seq ?_
      refine c_region ?_
      refine t_st rfl (st_move rfl) ?_
      refine t_st rfl (st_assign rfl) ?_
      refine t_nil ?_
      refine x_then_normal ?_
      refine c_ret ?_
      obtain rfl := some1 hm
      exact retM (rs := [.tmp 4]) [.slice A417 (l609).length c418] (hle408.trans hle605) (by decide) rfl ⟨rfl, trivial⟩ rfl (hp' := (hs607 ++ R)) (sub_app hs607 (.refl _)) ⟨A417, c418, hs607, rfl, rfl, h608⟩

set_option maxRecDepth 20000 in
theorem cPlanNewSearch (b : Base) (R : Hp) (s1 : PlanPeriodic) (A2 : Option Addr) (c3 : Nat) (h4 : FZ rPlanRule b.w A2 c3 s1.Rules) (x105 : Int) (x106 : Int) (l110 : (List PlanRule)) (l111 : (List Int)) (l112 : (List Bool)) (hm : mPlanNewSearch s1 = some (x105, x106, l110, l111, l112)) :
    CallsG Try.prog 36 [.agg #[.int .i64 (s1.Period), .int .i64 (s1.Events), .slice A2 (s1.Rules).length c3]] b (R) (fun v b' hp' => ∃ (g104 : Nat), ∃ (A107 : Option Addr), ∃ (c108 : Nat), ∃ (A96 : Option Addr), ∃ (c97 : Nat), ∃ (hs95 : Hp), ∃ (A101 : Option Addr), ∃ (c102 : Nat), ∃ (hs100 : Hp), .pointer (some ⟨g104, 0, none⟩) = v ∧ (g104, Cl 63 [.int .i64 (x105), .int .i64 (x106), .slice A107 (l110).length c108, .nilFunc, .func (.func 49) #[] #[], .slice A96 (l111).length c97, .slice A101 (l112).length c102]) :: (hs95 ++ (hs100 ++ R)) = hp' ∧ FZ rPlanRule b'.w A107 c108 l110 ∧ OS 3 (OT.fr (RT.int .i64)) b'.w (.slice A96 l111.length c97) l111 hs95 ∧ OS 4 (OT.fr RT.bool) b'.w (.slice A101 l112.length c102) l112 hs100) := by
  refine fn_enterG 15 Try.func36 rfl Try.ntmps36 rfl ?_
  unfold mPlanNewSearch at hm
  refine c_seq ?_
  refine c_region ?_
  refine t_do rfl (u_box _ rfl rfl) ?_
  rintro _ _ ⟨g113, rfl, rfl⟩
  refine t_st rfl (st_assign rfl) ?_
  refine t_nil ?_
  refine x_then_normal ?_
  obtain ⟨⟨l163, l164⟩, hj165, hk165⟩ := bindS hm
  refine c_join (fun b150 e' hp' => ∃ (g162 : Nat), ∃ (A154 : Option Addr), ∃ (c155 : Nat), ∃ (hs153 : Hp), ∃ (A159 : Option Addr), ∃ (c160 : Nat), ∃ (hs158 : Hp), [(2, .pointer (some ⟨g162, 0, none⟩))] = e' ∧ (g162, Cl 63 [.int .i64 (s1.Period), .int .i64 (s1.Events), .slice A2 (s1.Rules).length c3, .nilFunc, .func (.func 49) #[] #[], .slice A154 (l163).length c155, .slice A159 (l164).length c160]) :: (hs153 ++ (hs158 ++ R)) = hp' ∧ b.Le b150 ∧ OS 3 (OT.fr (RT.int .i64)) b150.w (.slice A154 l163.length c155) l163 hs153 ∧ OS 4 (OT.fr RT.bool) b150.w (.slice A159 l164.length c160) l164 hs158) ?_ ?_
  ·
   have hm := hj165
   obtain ⟨m184, h185, hm⟩ := bindS hm
   obtain ⟨l193, hcl194, hm⟩ := bindS hm
   refine D_drawS ((g113, Cl 24 [.int .i64 (s1.Period), .int .i64 (s1.Events), .slice A2 (s1.Rules).length c3]) :: R) mixed ?_
   refine E_in (.cons_cons _ (.refl _)) ?_
   refine E_st 0 rfl (st_loadD (vs := [_, _, _]) 0 3 rfl agg24 rfl rfl rfl) ?_
   refine E_st 1 rfl (st_field rfl fld24_2) ?_
   refine E_st 2 rfl (st_load 0 rfl one22 rfl rfl) ?_
   refine E_st 3 rfl (st_len rfl sl22) ?_
   refine E_st 6 rfl (st_field rfl fld24_2) ?_
   refine E_st 7 rfl (st_load 0 rfl one22 rfl rfl) ?_
   refine E_st 8 rfl (st_len rfl sl22) ?_
   refine E_out ?_
   have h185 := mkLen_some h185
   refine D_all [4, 5] (by kernel_rfl) rfl ?_
   refine R_do (Base.Le.refl _) rfl rfl (u_mkOS (r := (RT.int .i64)) [_] R [.int .i64 (0)] 0 m184 rfl h185.1 rfl rfl sl30 inf3 rfl rfl rfl (by decide) rfl h185.2.1 h185.2.2) ?_ ?_
   ·
    rintro _ _ ⟨hs186, rfl, h187⟩
    obtain ⟨A188, c189, rfl, _⟩ := h187.form
    refine ⟨.inr (.cons_cons _ (sub_skip hs186 (.refl _))), ?_⟩
    refine D_all [5] (by kernel_rfl) rfl ?_
    refine R_do (Base.Le.refl _) rfl rfl (u_bslice (el := 4) [(0, .bool (true))] [.bool (true)] rfl (fun _ => by kernel_rfl)) ?_ ?_
    ·
     rintro _ _ ⟨g190, rfl, rfl⟩
     refine ⟨.inr (.cons _ (.cons_cons _ (sub_skip hs186 (.refl _)))), ?_⟩
     refine d_seg 0 [_] (hs186 ++ R) rfl rfl ?_
     have h192 : OS 4 (OT.fr RT.bool) b.w (.slice (some ⟨g190, 0, none⟩) 1 1) [true] [(g190, Cl 4 [.bool (true)])] := OS.lit [[.bool (true)]] rfl ⟨rfl, trivial⟩ rfl (by decide)
     refine D_all [9] (by kernel_rfl) rfl ?_
     refine R_do (Base.Le.refl _) rfl rfl (u_callWF [_] ([(g190, Cl 4 [.bool (true)])] ++ (hs186 ++ R)) _ rfl call48 rfl (fun w ho => cSlicesRepeat _ [] [true] (s1.Rules.length : Int) (some ⟨g190, 0, none⟩) 1 (OS.now (o := (OT.fr RT.bool)) (l := [true]) (hs := [(g190, Cl 4 [.bool (true)])]) h192 ho (.cons _ (List.sublist_append_left _ _))) l193 hcl194)) ?_ ?_
     ·
      rintro _ _ ⟨_, _, rfl, A195, c196, hs197, rfl, hq200, h198⟩
      obtain rfl := List.append_cancel_right hq200
      have h199 := flat_fz (w' := b.w) (fun _ _ _ _ h => h) h198
      refine ⟨.inr (.cons_cons _ (sub_skip hs197 (sub_skip [(g190, Cl 4 [.bool (true)])] (sub_skip hs186 (.refl _))))), ?_⟩
      refine D_all [10] (by kernel_rfl) rfl ?_
      refine R_do (Base.Le.refl _) rfl rfl (Stable.does (st_build (v := .agg #[.int .i64 (s1.Period), .int .i64 (s1.Events), .slice A2 (s1.Rules).length c3, .nilFunc, .func (.func 49) #[] #[], .slice A188 (List.replicate m184 (0 : Int)).length c189, .slice A195 (l193).length c196]) [(0, .agg #[.int .i64 (s1.Period), .int .i64 (s1.Events), .slice A2 (s1.Rules).length c3]), (3, .slice A188 (List.replicate m184 (0 : Int)).length c189), (4, .slice A195 (l193).length c196), (2, .func (.func 49) #[] #[])] rfl (fun _ => by kernel_rfl))) ?_ ?_
      ·
       rintro _ _ ⟨rfl, rfl⟩
       refine ⟨.inr (.cons_cons _ (sub_skip hs197 (sub_skip [(g190, Cl 4 [.bool (true)])] (sub_skip hs186 (.refl _))))), ?_⟩
       refine D_all [11] (by kernel_rfl) rfl ?_
       refine R_do (Base.Le.refl _) rfl rfl (u_box _ rfl rfl) ?_ ?_
       ·
        rintro _ _ ⟨g201, rfl, rfl⟩
        refine ⟨.inr (.cons _ (.cons_cons _ (sub_skip hs197 (sub_skip [(g190, Cl 4 [.bool (true)])] (sub_skip hs186 (.refl _)))))), ?_⟩
        refine E_in (.cons _ (.cons_cons _ (sub_skip hs197 (sub_skip [(g190, Cl 4 [.bool (true)])] (sub_skip hs186 (.refl _)))))) ?_
        refine E_st 12 rfl (st_assign rfl) ?_
        refine E_out ?_
        refine D_done (by kernel_rfl) ?_
        obtain ⟨rfl, rfl⟩ := some2 hm
        refine x_front3 [_, _] hs197 [(g190, Cl 4 [.bool (true)])] hs186 R rfl ?_
        exact x_join (e' := [(2, .pointer (some ⟨g201, 0, none⟩))]) (hp' := (g201, Cl 63 [.int .i64 (s1.Period), .int .i64 (s1.Events), .slice A2 (s1.Rules).length c3, .nilFunc, .func (.func 49) #[] #[], .slice A188 (List.replicate m184 (0 : Int)).length c189, .slice A195 (l193).length c196]) :: (hs186 ++ (hs197 ++ R))) ⟨rfl, trivial⟩ (.cons_cons _ (.cons _ (sub_app hs186 (sub_app hs197 (sub_skip [(g190, Cl 4 [.bool (true)])] (.refl _)))))) ⟨g201, A188, c189, hs186, A195, c196, hs197, rfl, rfl, (Base.Le.refl _), h187, h199⟩
       exact R_nil
      exact R_nil
     exact R_nil
    exact R_nil
   refine R_do (Base.Le.refl _) rfl rfl (u_bslice (el := 4) [(0, .bool (true))] [.bool (true)] rfl (fun _ => by kernel_rfl)) ?_ ?_
   ·
    rintro _ _ ⟨g190, rfl, rfl⟩
    refine ⟨.inr (.cons _ (.cons_cons _ (.refl _))), ?_⟩
    refine d_seg 0 [_] R rfl rfl ?_
    have h192 : OS 4 (OT.fr RT.bool) b.w (.slice (some ⟨g190, 0, none⟩) 1 1) [true] [(g190, Cl 4 [.bool (true)])] := OS.lit [[.bool (true)]] rfl ⟨rfl, trivial⟩ rfl (by decide)
    refine D_all [4, 9] (by kernel_rfl) rfl ?_
    refine R_do (Base.Le.refl _) rfl rfl (u_mkOS (r := (RT.int .i64)) [_] ([(g190, Cl 4 [.bool (true)])] ++ R) [.int .i64 (0)] 0 m184 rfl h185.1 rfl rfl sl30 inf3 rfl rfl rfl (by decide) rfl h185.2.1 h185.2.2) ?_ ?_
    ·
     rintro _ _ ⟨hs186, rfl, h187⟩
     obtain ⟨A188, c189, rfl, _⟩ := h187.form
     refine ⟨.inr (.cons_cons _ (sub_skip hs186 (sub_skip [(g190, Cl 4 [.bool (true)])] (.refl _)))), ?_⟩
     refine D_all [9] (by kernel_rfl) rfl ?_
     refine R_do (Base.Le.refl _) rfl rfl (u_callWF [_] (hs186 ++ ([(g190, Cl 4 [.bool (true)])] ++ R)) _ rfl call48 rfl (fun w ho => cSlicesRepeat _ [] [true] (s1.Rules.length : Int) (some ⟨g190, 0, none⟩) 1 (OS.now (o := (OT.fr RT.bool)) (l := [true]) (hs := [(g190, Cl 4 [.bool (true)])]) h192 ho (.cons _ (sub_skip hs186 (List.sublist_append_left _ _)))) l193 hcl194)) ?_ ?_
     ·
      rintro _ _ ⟨_, _, rfl, A195, c196, hs197, rfl, hq200, h198⟩
      obtain rfl := List.append_cancel_right hq200
      have h199 := flat_fz (w' := b.w) (fun _ _ _ _ h => h) h198
      refine ⟨.inr (.cons_cons _ (sub_skip hs197 (sub_skip hs186 (sub_skip [(g190, Cl 4 [.bool (true)])] (.refl _))))), ?_⟩
      refine D_all [10] (by kernel_rfl) rfl ?_
      refine R_do (Base.Le.refl _) rfl rfl (Stable.does (st_build (v := .agg #[.int .i64 (s1.Period), .int .i64 (s1.Events), .slice A2 (s1.Rules).length c3, .nilFunc, .func (.func 49) #[] #[], .slice A188 (List.replicate m184 (0 : Int)).length c189, .slice A195 (l193).length c196]) [(0, .agg #[.int .i64 (s1.Period), .int .i64 (s1.Events), .slice A2 (s1.Rules).length c3]), (3, .slice A188 (List.replicate m184 (0 : Int)).length c189), (4, .slice A195 (l193).length c196), (2, .func (.func 49) #[] #[])] rfl (fun _ => by kernel_rfl))) ?_ ?_
      ·
       rintro _ _ ⟨rfl, rfl⟩
       refine ⟨.inr (.cons_cons _ (sub_skip hs197 (sub_skip hs186 (sub_skip [(g190, Cl 4 [.bool (true)])] (.refl _))))), ?_⟩
       refine D_all [11] (by kernel_rfl) rfl ?_
       refine R_do (Base.Le.refl _) rfl rfl (u_box _ rfl rfl) ?_ ?_
       ·
        rintro _ _ ⟨g201, rfl, rfl⟩
        refine ⟨.inr (.cons _ (.cons_cons _ (sub_skip hs197 (sub_skip hs186 (sub_skip [(g190, Cl 4 [.bool (true)])] (.refl _)))))), ?_⟩
        refine E_in (.cons _ (.cons_cons _ (sub_skip hs197 (sub_skip hs186 (sub_skip [(g190, Cl 4 [.bool (true)])] (.refl _)))))) ?_
        refine E_st 12 rfl (st_assign rfl) ?_
        refine E_out ?_
        refine D_done (by kernel_rfl) ?_
        obtain ⟨rfl, rfl⟩ := some2 hm
        refine x_front2 [_, _] hs197 hs186 ([(g190, Cl 4 [.bool (true)])] ++ R) rfl ?_
        exact x_join (e' := [(2, .pointer (some ⟨g201, 0, none⟩))]) (hp' := (g201, Cl 63 [.int .i64 (s1.Period), .int .i64 (s1.Events), .slice A2 (s1.Rules).length c3, .nilFunc, .func (.func 49) #[] #[], .slice A188 (List.replicate m184 (0 : Int)).length c189, .slice A195 (l193).length c196]) :: (hs186 ++ (hs197 ++ R))) ⟨rfl, trivial⟩ (.cons_cons _ (.cons _ (sub_app hs186 (sub_app hs197 (sub_skip [(g190, Cl 4 [.bool (true)])] (.refl _)))))) ⟨g201, A188, c189, hs186, A195, c196, hs197, rfl, rfl, (Base.Le.refl _), h187, h199⟩
       exact R_nil
      exact R_nil
     exact R_nil
    refine R_do (Base.Le.refl _) rfl rfl (u_callWF [_] ([(g190, Cl 4 [.bool (true)])] ++ R) _ rfl call48 rfl (fun w ho => cSlicesRepeat _ [] [true] (s1.Rules.length : Int) (some ⟨g190, 0, none⟩) 1 (OS.now (o := (OT.fr RT.bool)) (l := [true]) (hs := [(g190, Cl 4 [.bool (true)])]) h192 ho (.cons _ (List.sublist_append_left _ _))) l193 hcl194)) ?_ ?_
    ·
     rintro _ _ ⟨_, _, rfl, A195, c196, hs197, rfl, hq200, h198⟩
     obtain rfl := List.append_cancel_right hq200
     have h199 := flat_fz (w' := b.w) (fun _ _ _ _ h => h) h198
     refine ⟨.inr (.cons_cons _ (sub_skip hs197 (sub_skip [(g190, Cl 4 [.bool (true)])] (.refl _)))), ?_⟩
     refine D_all [4] (by kernel_rfl) rfl ?_
     refine R_do (Base.Le.refl _) rfl rfl (u_mkOS (r := (RT.int .i64)) [_] (hs197 ++ ([(g190, Cl 4 [.bool (true)])] ++ R)) [.int .i64 (0)] 0 m184 rfl h185.1 rfl rfl sl30 inf3 rfl rfl rfl (by decide) rfl h185.2.1 h185.2.2) ?_ ?_
     ·
      rintro _ _ ⟨hs186, rfl, h187⟩
      obtain ⟨A188, c189, rfl, _⟩ := h187.form
      refine ⟨.inr (.cons_cons _ (sub_skip hs186 (sub_skip hs197 (sub_skip [(g190, Cl 4 [.bool (true)])] (.refl _))))), ?_⟩
      refine D_all [10] (by kernel_rfl) rfl ?_
      refine R_do (Base.Le.refl _) rfl rfl (Stable.does (st_build (v := .agg #[.int .i64 (s1.Period), .int .i64 (s1.Events), .slice A2 (s1.Rules).length c3, .nilFunc, .func (.func 49) #[] #[], .slice A188 (List.replicate m184 (0 : Int)).length c189, .slice A195 (l193).length c196]) [(0, .agg #[.int .i64 (s1.Period), .int .i64 (s1.Events), .slice A2 (s1.Rules).length c3]), (3, .slice A188 (List.replicate m184 (0 : Int)).length c189), (4, .slice A195 (l193).length c196), (2, .func (.func 49) #[] #[])] rfl (fun _ => by kernel_rfl))) ?_ ?_
      ·
       rintro _ _ ⟨rfl, rfl⟩
       refine ⟨.inr (.cons_cons _ (sub_skip hs186 (sub_skip hs197 (sub_skip [(g190, Cl 4 [.bool (true)])] (.refl _))))), ?_⟩
       refine D_all [11] (by kernel_rfl) rfl ?_
       refine R_do (Base.Le.refl _) rfl rfl (u_box _ rfl rfl) ?_ ?_
       ·
        rintro _ _ ⟨g201, rfl, rfl⟩
        refine ⟨.inr (.cons _ (.cons_cons _ (sub_skip hs186 (sub_skip hs197 (sub_skip [(g190, Cl 4 [.bool (true)])] (.refl _)))))), ?_⟩
        refine E_in (.cons _ (.cons_cons _ (sub_skip hs186 (sub_skip hs197 (sub_skip [(g190, Cl 4 [.bool (true)])] (.refl _)))))) ?_
        refine E_st 12 rfl (st_assign rfl) ?_
        refine E_out ?_
        refine D_done (by kernel_rfl) ?_
        obtain ⟨rfl, rfl⟩ := some2 hm
        refine x_front2 [_, _] hs186 hs197 ([(g190, Cl 4 [.bool (true)])] ++ R) rfl ?_
        refine x_front2 [_, _] hs197 hs186 ([(g190, Cl 4 [.bool (true)])] ++ R) rfl ?_
        exact x_join (e' := [(2, .pointer (some ⟨g201, 0, none⟩))]) (hp' := (g201, Cl 63 [.int .i64 (s1.Period), .int .i64 (s1.Events), .slice A2 (s1.Rules).length c3, .nilFunc, .func (.func 49) #[] #[], .slice A188 (List.replicate m184 (0 : Int)).length c189, .slice A195 (l193).length c196]) :: (hs186 ++ (hs197 ++ R))) ⟨rfl, trivial⟩ (.cons_cons _ (.cons _ (sub_app hs186 (sub_app hs197 (sub_skip [(g190, Cl 4 [.bool (true)])] (.refl _)))))) ⟨g201, A188, c189, hs186, A195, c196, hs197, rfl, rfl, (Base.Le.refl _), h187, h199⟩
       exact R_nil
      exact R_nil
     exact R_nil
    exact R_nil
   exact R_nil
  ·
   rintro b150 _ _ ⟨g162, A154, c155, hs153, A159, c160, hs158, rfl, rfl, hle151, h156, h161⟩
   have hm := (unc2E hk165)
   refine c_ret ?_
   obtain ⟨rfl, rfl, rfl, rfl, rfl⟩ := some5 hm
   refine x_front2 [_] hs153 hs158 R rfl ?_
   refine x_front2 [_] hs158 hs153 R rfl ?_
   exact retM (rs := [.tmp 2]) [.pointer (some ⟨g162, 0, none⟩)] hle151 (by decide) rfl ⟨rfl, trivial⟩ rfl (hp' := (g162, Cl 63 [.int .i64 (s1.Period), .int .i64 (s1.Events), .slice A2 (s1.Rules).length c3, .nilFunc, .func (.func 49) #[] #[], .slice A154 (l163).length c155, .slice A159 (l164).length c160]) :: (hs153 ++ (hs158 ++ R))) (.cons_cons _ (sub_app hs153 (sub_app hs158 (.refl _)))) ⟨g162, A2, c3, A154, c155, hs153, A159, c160, hs158, rfl, rfl, (h4.le hle151), h156, h161⟩

set_option maxRecDepth 20000 in
theorem cPlanSearchStart (b : Base) (R : Hp) (x12 : Int) (x13 : Int) (l17 : (List PlanRule)) (l18 : (List Int)) (l19 : (List Bool)) (g11 : Nat) (A14 : Option Addr) (c15 : Nat) (A3 : Option Addr) (c4 : Nat) (hs2 : Hp) (A8 : Option Addr) (c9 : Nat) (hs7 : Hp) (h16 : FZ rPlanRule b.w A14 c15 l17) (h5 : OS 3 (OT.fr (RT.int .i64)) b.w (.slice A3 l18.length c4) l18 hs2) (h10 : OS 4 (OT.fr RT.bool) b.w (.slice A8 l19.length c9) l19 hs7) (l543 : (List (List Int))) (hm : mPlanSearchStart x12 x13 l17 l18 l19 = some l543) :
    CallsG Try.prog 40 [.pointer (some ⟨g11, 0, none⟩)] b ((g11, Cl 63 [.int .i64 (x12), .int .i64 (x13), .slice A14 (l17).length c15, .nilFunc, .func (.func 49) #[] #[], .slice A3 (l18).length c4, .slice A8 (l19).length c9]) :: (hs2 ++ (hs7 ++ R))) (fun v b' hp' => ∃ (g542 : Nat), ∃ (cs544 : List Value), .pointer (some ⟨g542, 0, none⟩) = v ∧ (g542, Cl 76 cs544) :: (g11, Cl 63 [.int .i64 (x12), .int .i64 (x13), .slice A14 (l17).length c15, .nilFunc, .func (.func 49) #[] #[], .slice A3 (l18).length c4, .slice A8 (l19).length c9]) :: (hs2 ++ (hs7 ++ R)) = hp' ∧ (RT.arr 8 (RT.arr 8 (RT.int .i64))).rep b'.w cs544 l543) := by
  refine fn_enterG 47 Try.func40 rfl Try.ntmps40 rfl ?_
  unfold mPlanSearchStart at hm
  refine c_seq ?_
  refine c_region ?_
  refine t_st rfl (st_assign rfl) ?_
  refine t_nil ?_
  refine x_then_normal ?_
  refine c_seq ?_
  refine c_region ?_
  refine t_st rfl (st_build (v := .agg #[.int .i64 (0), .int .i64 (0), .int .i64 (0), .int .i64 (0), .int .i64 (0), .int .i64 (0), .int .i64 (0), .int .i64 (0), .int .i64 (0), .int .i64 (0), .int .i64 (0), .int .i64 (0), .int .i64 (0), .int .i64 (0), .int .i64 (0), .int .i64 (0), .int .i64 (0), .int .i64 (0), .int .i64 (0), .int .i64 (0), .int .i64 (0), .int .i64 (0), .int .i64 (0), .int .i64 (0), .int .i64 (0), .int .i64 (0), .int .i64 (0), .int .i64 (0), .int .i64 (0), .int .i64 (0), .int .i64 (0), .int .i64 (0), .int .i64 (0), .int .i64 (0), .int .i64 (0), .int .i64 (0), .int .i64 (0), .int .i64 (0), .int .i64 (0), .int .i64 (0), .int .i64 (0), .int .i64 (0), .int .i64 (0), .int .i64 (0), .int .i64 (0), .int .i64 (0), .int .i64 (0), .int .i64 (0), .int .i64 (0), .int .i64 (0), .int .i64 (0), .int .i64 (0), .int .i64 (0), .int .i64 (0), .int .i64 (0), .int .i64 (0), .int .i64 (0), .int .i64 (0), .int .i64 (0), .int .i64 (0), .int .i64 (0), .int .i64 (0), .int .i64 (0), .int .i64 (0)]) [] rfl (fun _ => by kernel_rfl)) ?_
  have h547 : (RT.arr 8 (RT.arr 8 (RT.int .i64))).rep b.w ((List.replicate 8 ((List.replicate 8 [.int .i64 0]).flatten)).flatten) (List.replicate 8 (List.replicate 8 (0 : Int))) := (arr_zero 8 (arr_zero 8 rfl))
  refine t_do rfl (u_box ((List.replicate 8 ((List.replicate 8 [.int .i64 0]).flatten)).flatten) rfl (by kernel_rfl)) ?_
  rintro _ _ ⟨g546, rfl, rfl⟩
  refine t_st rfl (st_assign rfl) ?_
  refine t_nil ?_
  refine x_then_normal ?_
  refine c_seq ?_
  refine c_seq ?_
  refine c_region ?_
  refine t_st rfl (st_move rfl) ?_
  refine t_st rfl (st_nil rfl) ?_
  refine t_st rfl (st_field rfl fld63_0) ?_
  refine t_st rfl (st_field rfl fld24_1) ?_
  refine t_st rfl (st_load 1 rfl one3 rfl rfl) ?_
  refine t_st rfl (st_move rfl) ?_
  refine t_nil ?_
  refine x_then_normal ?_
  refine c_block ?_
  obtain ⟨_, h549, hm⟩ := bindS hm
  have h549 := (chk_some h549).2
  refine c_pullb 1 rfl ?_
  refine c_front2 [_, _] hs2 hs7 R rfl ?_
  refine c_front2 [_, _] hs7 hs2 R rfl ?_
  obtain ⟨l893, hl897, hk898⟩ := bindS hm
  refine c_forS (fun k896 => fun l893 => fun b891 e' hp' => ∃ (cs894 : List Value), [(0, .pointer (some ⟨g11, 0, none⟩)), (3, .pointer (some ⟨g546, 0, none⟩)), (12, .int .i64 (x13)), (13, .int .i64 ((k896 : Int)))] = e' ∧ (g11, Cl 63 [.int .i64 (x12), .int .i64 (x13), .slice A14 (l17).length c15, .nilFunc, .func (.func 49) #[] #[], .slice A3 (l18).length c4, .slice A8 (l19).length c9]) :: (g546, Cl 76 cs894) :: (hs2 ++ (hs7 ++ R)) = hp' ∧ b.Le b891 ∧ (RT.arr 8 (RT.arr 8 (RT.int .i64))).rep b891.w cs894 l893) hl897 (e' := [(0, .pointer (some ⟨g11, 0, none⟩)), (3, .pointer (some ⟨g546, 0, none⟩)), (12, .int .i64 (x13)), (13, .int .i64 0)]) (hp' := (g11, Cl 63 [.int .i64 (x12), .int .i64 (x13), .slice A14 (l17).length c15, .nilFunc, .func (.func 49) #[] #[], .slice A3 (l18).length c4, .slice A8 (l19).length c9]) :: (g546, Cl 76 ((List.replicate 8 ((List.replicate 8 [.int .i64 0]).flatten)).flatten)) :: (hs2 ++ (hs7 ++ R))) ⟨rfl, rfl, rfl, rfl, trivial⟩ (.cons_cons _ (.cons_cons _ (sub_app hs2 (sub_app hs7 (.refl _))))) ⟨(List.replicate 8 ((List.replicate 8 [.int .i64 0]).flatten)).flatten, rfl, rfl, (Base.Le.refl _), h547⟩ ?_ ?_
  ·
   rintro k896 l893 b891 _ _ oL548 hknL548 ⟨cs894, rfl, rfl, hle892, h895⟩ hstepL548
   unfold mPlanSearchStart_L548 at hstepL548
   have hm := hstepL548
   refine c_seq ?_
   refine c_region ?_
   refine t_st rfl (st_lss_t rfl rfl (by omega)) ?_
   refine t_nil ?_
   refine x_then_normal ?_
   refine c_seq ?_
   refine c_cond_t rfl ?_
   refine c_skip ?_
   refine x_then_normal ?_
   refine c_seq ?_
   refine c_block ?_
   refine c_seq ?_
   refine c_region ?_
   refine t_st rfl (st_move rfl) ?_
   refine t_st rfl (st_assign rfl) ?_
   refine t_nil ?_
   refine x_then_normal ?_
   refine c_seq ?_
   refine c_seq ?_
   refine c_region ?_
   refine t_st rfl (st_move rfl) ?_
   refine t_st rfl (st_nil rfl) ?_
   refine t_st rfl (st_field rfl fld63_0) ?_
   refine t_st rfl (st_field rfl fld24_1) ?_
   refine t_st rfl (st_load 0 rfl one3 rfl rfl) ?_
   refine t_st rfl (st_move rfl) ?_
   refine t_nil ?_
   refine x_then_normal ?_
   refine c_block ?_
   obtain ⟨_, h900, hm⟩ := bindS hm
   have h900 := (chk_some h900).2
   refine c_pullb 1 rfl ?_
   refine c_pullb 1 rfl ?_
   refine c_front2 [_, _] hs2 hs7 R rfl ?_
   refine c_front2 [_, _] hs7 hs2 R rfl ?_
   obtain ⟨l996, hl1000, hk1001⟩ := bindS hm
   refine c_forS (fun k999 => fun l996 => fun b994 e' hp' => ∃ (cs997 : List Value), [(0, .pointer (some ⟨g11, 0, none⟩)), (3, .pointer (some ⟨g546, 0, none⟩)), (4, .int .i64 ((k896 : Int))), (12, .int .i64 (x13)), (13, .int .i64 ((k896 : Int))), (20, .int .i64 (x13)), (21, .int .i64 ((k999 : Int)))] = e' ∧ (g11, Cl 63 [.int .i64 (x12), .int .i64 (x13), .slice A14 (l17).length c15, .nilFunc, .func (.func 49) #[] #[], .slice A3 (l18).length c4, .slice A8 (l19).length c9]) :: (g546, Cl 76 cs997) :: (hs2 ++ (hs7 ++ R)) = hp' ∧ b891.Le b994 ∧ (RT.arr 8 (RT.arr 8 (RT.int .i64))).rep b994.w cs997 l996) hl1000 (e' := [(0, .pointer (some ⟨g11, 0, none⟩)), (3, .pointer (some ⟨g546, 0, none⟩)), (4, .int .i64 ((k896 : Int))), (12, .int .i64 (x13)), (13, .int .i64 ((k896 : Int))), (20, .int .i64 (x13)), (21, .int .i64 0)]) (hp' := (g11, Cl 63 [.int .i64 (x12), .int .i64 (x13), .slice A14 (l17).length c15, .nilFunc, .func (.func 49) #[] #[], .slice A3 (l18).length c4, .slice A8 (l19).length c9]) :: (g546, Cl 76 cs894) :: (hs2 ++ (hs7 ++ R))) ⟨rfl, rfl, rfl, rfl, rfl, rfl, rfl, trivial⟩ (.cons_cons _ (.cons_cons _ (sub_app hs2 (sub_app hs7 (.refl _))))) ⟨cs894, rfl, rfl, (Base.Le.refl _), h895⟩ ?_ ?_
   ·
    rintro k999 l996 b994 _ _ oL899 hknL899 ⟨cs997, rfl, rfl, hle995, h998⟩ hstepL899
    unfold mPlanSearchStart_L899 at hstepL899
    have hm := hstepL899
    refine c_seq ?_
    refine c_region ?_
    refine t_st rfl (st_lss_t rfl rfl (by omega)) ?_
    refine t_nil ?_
    refine x_then_normal ?_
    refine c_seq ?_
    refine c_cond_t rfl ?_
    refine c_skip ?_
    refine x_then_normal ?_
    refine c_seq ?_
    refine c_block ?_
    refine c_seq ?_
    refine c_region ?_
    refine t_st rfl (st_move rfl) ?_
    refine t_st rfl (st_assign rfl) ?_
    refine t_nil ?_
    refine x_then_normal ?_
    refine c_seq ?_
    refine c_region ?_
    refine t_st rfl (st_move rfl) ?_
    refine t_st rfl (st_move rfl) ?_
    refine t_st rfl (st_neq rfl rfl) ?_
    refine t_nil ?_
    refine x_then_normal ?_
    refine c_cond _ rfl (fun hc1002 => ?_) (fun hc1002 => ?_)
    ·
     rw [if_pos (of_decide_eq_true hc1002)] at hm
     obtain ⟨_, h1025, hm⟩ := bindS hm
     obtain ⟨x1026, h1027, hm⟩ := bindS hm
     obtain ⟨x1035, h1036, hm⟩ := bindS hm
     refine D_drawS ((g11, Cl 63 [.int .i64 (x12), .int .i64 (x13), .slice A14 (l17).length c15, .nilFunc, .func (.func 49) #[] #[], .slice A3 (l18).length c4, .slice A8 (l19).length c9]) :: (hs2 ++ (hs7 ++ R))) mixed ?_
     refine E_in (.cons_cons _ (.cons _ (sub_app hs2 (sub_app hs7 (.refl _))))) ?_
     refine E_st 0 rfl (st_move rfl) ?_
     refine E_st 1 rfl (st_move rfl) ?_
     refine E_st 2 rfl (st_move rfl) ?_
     refine E_st 3 rfl (st_move rfl) ?_
     refine E_st 4 rfl (st_nil rfl) ?_
     refine E_st 5 rfl (st_field rfl fld63_0) ?_
     refine E_st 6 rfl (st_field rfl fld24_0) ?_
     refine E_st 7 rfl (st_load 0 rfl one3 rfl rfl) ?_
     have h1025 := (chk_some h1025).2
     refine E_st 8 rfl (st_sub rfl rfl h1025) ?_
     refine E_st 9 rfl (st_nil rfl) ?_
     refine E_out ?_
     obtain ⟨j1028, hj1029, hx1030⟩ := idx_some h1027
     obtain ⟨cs1031, hr1032, hcs1033, hlt1034⟩ := arr_in (sz := 8) rfl h998 hx1030
     refine D_all [10] (by kernel_rfl) rfl ?_
     refine R_do (Base.Le.refl _) rfl rfl (Stable.does (st_baddr j1028 rfl rfl hj1029 hlt1034 arr76 (Nat.zero_add _))) ?_ ?_
     ·
      rintro _ _ ⟨rfl, rfl⟩
      refine ⟨.inr (.cons_cons _ (.cons _ (sub_app hs2 (sub_app hs7 (.refl _))))), ?_⟩
      obtain ⟨j1037, hj1038, hx1039⟩ := idx_some h1036
      obtain ⟨cs1040, hr1041, hcs1042, hlt1043⟩ := arr_in (sz := 1) rfl hr1032 hx1039
      have hcs1044 := fun i u hu => (Nat.add_assoc (j1028 * 8) (j1037 * 1) i) ▸ hcs1033 _ _ (hcs1042 i u hu)
      obtain rfl := hr1041
      refine E_in (.cons_cons _ (.cons _ (sub_app hs2 (sub_app hs7 (.refl _))))) ?_
      refine E_st 11 rfl (st_baddr j1037 rfl rfl hj1038 hlt1043 arr64 rfl) ?_
      refine E_out ?_
      have h1045 : (RT.arr 8 (RT.arr 8 (RT.int .i64))).rep b994.w (cs997.set (j1028 * 8 + j1037 * 1) (.int .i64 (x12 - 1))) (put l996 (k896 : Int) (put x1026 (k999 : Int) (x12 - 1))) := arr_put (k := j1037 * 1) hj1029 h998 hx1030 (by show j1037 * 1 < 8; omega) rfl (fun _ hd1 => arr_put (k := 0) hj1038 hd1 hx1039 (by decide) rfl int_set)
      refine D_all [12] (by kernel_rfl) rfl ?_
      refine R_do (Base.Le.refl _) rfl rfl (u_storeArr 1 rfl rfl siz3 rfl rfl h998 (by show j1028 * 8 + j1037 * 1 < 64; omega)) ?_ ?_
      ·
       rintro _ _ rfl
       refine ⟨.inr (.cons_cons _ (.cons _ (sub_app hs2 (sub_app hs7 (.refl _))))), ?_⟩
       refine D_done (by kernel_rfl) ?_
       refine x_block_normal ?_
       refine x_then_normal ?_
       refine c_region ?_
       refine t_st rfl (st_add rfl rfl (by omega)) ?_
       refine t_st rfl (st_move rfl) ?_
       refine t_nil ?_
       refine x_pullb 1 rfl ?_
       refine x_pullb 1 rfl ?_
       refine x_front2 [_, _] hs2 hs7 R rfl ?_
       refine x_front2 [_, _] hs7 hs2 R rfl ?_
       obtain rfl := some1 hm
       exact x_againS (e' := [(0, .pointer (some ⟨g11, 0, none⟩)), (3, .pointer (some ⟨g546, 0, none⟩)), (4, .int .i64 ((k896 : Int))), (12, .int .i64 (x13)), (13, .int .i64 ((k896 : Int))), (20, .int .i64 (x13)), (21, .int .i64 ((k999 : Int) + 1))]) (hp' := (g11, Cl 63 [.int .i64 (x12), .int .i64 (x13), .slice A14 (l17).length c15, .nilFunc, .func (.func 49) #[] #[], .slice A3 (l18).length c4, .slice A8 (l19).length c9]) :: (g546, Cl 76 (cs997.set (j1028 * 8 + j1037 * 1) (.int .i64 (x12 - 1)))) :: (hs2 ++ (hs7 ++ R))) ⟨rfl, rfl, rfl, rfl, rfl, rfl, rfl, trivial⟩ (.cons_cons _ (.cons_cons _ (sub_app hs2 (sub_app hs7 (.refl _))))) ⟨cs997.set (j1028 * 8 + j1037 * 1) (.int .i64 (x12 - 1)), rfl, rfl, (hle995), h1045⟩
      exact R_nil
     exact R_nil
    ·
     rw [if_neg (of_decide_eq_false hc1002)] at hm
     refine c_skip ?_
     refine x_block_normal ?_
     refine x_then_normal ?_
     refine c_region ?_
     refine t_st rfl (st_add rfl rfl (by omega)) ?_
     refine t_st rfl (st_move rfl) ?_
     refine t_nil ?_
     refine x_pullb 1 rfl ?_
     refine x_pullb 1 rfl ?_
     refine x_front2 [_, _] hs2 hs7 R rfl ?_
     refine x_front2 [_, _] hs7 hs2 R rfl ?_
     obtain rfl := some1 hm
     exact x_againS (e' := [(0, .pointer (some ⟨g11, 0, none⟩)), (3, .pointer (some ⟨g546, 0, none⟩)), (4, .int .i64 ((k896 : Int))), (12, .int .i64 (x13)), (13, .int .i64 ((k896 : Int))), (20, .int .i64 (x13)), (21, .int .i64 ((k999 : Int) + 1))]) (hp' := (g11, Cl 63 [.int .i64 (x12), .int .i64 (x13), .slice A14 (l17).length c15, .nilFunc, .func (.func 49) #[] #[], .slice A3 (l18).length c4, .slice A8 (l19).length c9]) :: (g546, Cl 76 cs997) :: (hs2 ++ (hs7 ++ R))) ⟨rfl, rfl, rfl, rfl, rfl, rfl, rfl, trivial⟩ (.cons_cons _ (.cons_cons _ (sub_app hs2 (sub_app hs7 (.refl _))))) ⟨cs997, rfl, rfl, (hle995), h998⟩
   ·
    rintro b994 _ _ ⟨cs997, rfl, rfl, hle995, h998⟩
    have hm := hk1001
    refine c_seq ?_
    refine c_region ?_
    refine t_st rfl (st_lss_f rfl rfl (by omega)) ?_
    refine t_nil ?_
    refine x_then_normal ?_
    refine c_seq ?_
    refine c_cond_f rfl ?_
    refine c_exit ?_
    refine x_then_exit ?_
    refine x_then_exit ?_
    refine x_block_out ?_
    refine x_then_normal ?_
    refine c_region ?_
    refine t_st rfl (st_move rfl) ?_
    refine t_st rfl (st_move rfl) ?_
    refine t_st rfl (st_nil rfl) ?_
    obtain ⟨x1047, h1048, hm⟩ := bindS hm
    obtain ⟨j1049, hj1050, hx1051⟩ := idx_some h1048
    obtain ⟨cs1052, hr1053, hcs1054, hlt1055⟩ := arr_in (sz := 8) rfl h998 hx1051
    refine t_st rfl (st_baddr j1049 rfl rfl hj1050 hlt1055 arr76 (Nat.zero_add _)) ?_
    obtain ⟨x1056, h1057, hm⟩ := bindS hm
    obtain ⟨j1058, hj1059, hx1060⟩ := idx_some h1057
    obtain ⟨cs1061, hr1062, hcs1063, hlt1064⟩ := arr_in (sz := 1) rfl hr1053 hx1060
    have hcs1065 := fun i u hu => (Nat.add_assoc (j1049 * 8) (j1058 * 1) i) ▸ hcs1054 _ _ (hcs1063 i u hu)
    obtain rfl := hr1062
    refine t_st rfl (st_baddr j1058 rfl rfl hj1059 hlt1064 arr64 rfl) ?_
    have h1066 : (RT.arr 8 (RT.arr 8 (RT.int .i64))).rep b994.w (cs997.set (j1049 * 8 + j1058 * 1) (.int .i64 (0))) (put l996 (k896 : Int) (put x1047 0 0)) := arr_put (k := j1058 * 1) hj1050 h998 hx1051 (by show j1058 * 1 < 8; omega) rfl (fun _ hd1 => arr_put (k := 0) hj1059 hd1 hx1060 (by decide) rfl int_set)
    refine t_do rfl (u_storeArr 1 rfl rfl siz3 rfl rfl h998 (by show j1049 * 8 + j1058 * 1 < 64; omega)) ?_
    rintro _ _ rfl
    refine t_nil ?_
    refine x_block_normal ?_
    refine x_then_normal ?_
    refine c_region ?_
    refine t_st rfl (st_add rfl rfl (by omega)) ?_
    refine t_st rfl (st_move rfl) ?_
    refine t_nil ?_
    refine x_pullb 1 rfl ?_
    refine x_pullb 1 rfl ?_
    refine x_front2 [_, _] hs2 hs7 R rfl ?_
    refine x_front2 [_, _] hs7 hs2 R rfl ?_
    obtain rfl := some1 hm
    exact x_againS (e' := [(0, .pointer (some ⟨g11, 0, none⟩)), (3, .pointer (some ⟨g546, 0, none⟩)), (12, .int .i64 (x13)), (13, .int .i64 ((k896 : Int) + 1))]) (hp' := (g11, Cl 63 [.int .i64 (x12), .int .i64 (x13), .slice A14 (l17).length c15, .nilFunc, .func (.func 49) #[] #[], .slice A3 (l18).length c4, .slice A8 (l19).length c9]) :: (g546, Cl 76 (cs997.set (j1049 * 8 + j1058 * 1) (.int .i64 (0)))) :: (hs2 ++ (hs7 ++ R))) ⟨rfl, rfl, rfl, rfl, trivial⟩ (.cons_cons _ (.cons_cons _ (sub_app hs2 (sub_app hs7 (.refl _))))) ⟨cs997.set (j1049 * 8 + j1058 * 1) (.int .i64 (0)), rfl, rfl, ((hle892.trans hle995)), h1066⟩
  ·
   rintro b891 _ _ ⟨cs894, rfl, rfl, hle892, h895⟩
   have hm := hk898
   refine c_seq ?_
   refine c_region ?_
   refine t_st rfl (st_lss_f rfl rfl (by omega)) ?_
   refine t_nil ?_
   refine x_then_normal ?_
   refine c_seq ?_
   refine c_cond_f rfl ?_
   refine c_exit ?_
   refine x_then_exit ?_
   refine x_then_exit ?_
   refine x_block_out ?_
   refine x_then_normal ?_
   refine c_seq ?_
   refine c_region ?_
   refine t_st rfl (st_move rfl) ?_
   refine t_st rfl (st_assign rfl) ?_
   refine t_nil ?_
   refine x_then_normal ?_
   refine c_ret ?_
   obtain rfl := some1 hm
   refine x_pullb 1 rfl ?_
   refine x_front2 [_, _] hs2 hs7 R rfl ?_
   refine x_front2 [_, _] hs7 hs2 R rfl ?_
   exact retM (rs := [.tmp 2]) [.pointer (some ⟨g546, 0, none⟩)] hle892 (by decide) rfl ⟨rfl, trivial⟩ rfl (hp' := (g546, Cl 76 cs894) :: (g11, Cl 63 [.int .i64 (x12), .int .i64 (x13), .slice A14 (l17).length c15, .nilFunc, .func (.func 49) #[] #[], .slice A3 (l18).length c4, .slice A8 (l19).length c9]) :: (hs2 ++ (hs7 ++ R))) (.cons_cons _ (.cons_cons _ (sub_app hs2 (sub_app hs7 (.refl _))))) ⟨g546, cs894, rfl, rfl, h895⟩

set_option maxRecDepth 20000 in
theorem cPlanSolve_1 (b : Base) (R : Hp) (q3 : (Option (List (List Int)))) (x6 : Int) (x7 : Int) (g1 : Nat) (g2 : Nat) (v4 : Value) (h5 : (RT.ptr (RT.arr 8 (RT.arr 8 (RT.int .i64)))).rep b.w [v4] q3) (x64 : Bool) (hm : mPlanSolve_1 q3 x6 x7 = some x64) :
    CallsG Try.prog 43 [v4, .pointer (some ⟨g1, 0, none⟩), .pointer (some ⟨g2, 0, none⟩)] b ((g1, Cl 3 [.int .i64 (x6)]) :: (g2, Cl 3 [.int .i64 (x7)]) :: R) (fun v b' hp' => .bool (x64) = v ∧ (g1, Cl 3 [.int .i64 (x6)]) :: (g2, Cl 3 [.int .i64 (x7)]) :: R = hp') := by
  refine fn_enterG 14 Try.func43 rfl Try.ntmps43 rfl ?_
  unfold mPlanSolve_1 at hm
  refine c_seq ?_
  refine c_region ?_
  refine t_st rfl (st_assign rfl) ?_
  refine t_nil ?_
  refine x_then_normal ?_
  refine c_seq ?_
  obtain ⟨y93, h94, hm⟩ := bindS hm
  obtain ⟨x100, h101, hm⟩ := bindS hm
  obtain ⟨x110, h111, hm⟩ := bindS hm
  obtain ⟨_, h120, hm⟩ := bindS hm
  refine D_drawS ((g1, Cl 3 [.int .i64 (x6)]) :: (g2, Cl 3 [.int .i64 (x7)]) :: R) mixed ?_
  refine E_in (.cons_cons _ (.cons_cons _ (.refl _))) ?_
  refine E_st 0 rfl (st_move rfl) ?_
  refine E_st 1 rfl (st_load 0 rfl one3 rfl rfl) ?_
  have h99 := h5
  rw [h94] at h99
  obtain ⟨a95, cs96, rfl, hr97, hcs98⟩ := ptr_open h99
  refine E_st 2 rfl (st_nil_at rfl) ?_
  obtain ⟨j102, hj103, hx104⟩ := idx_some h101
  obtain ⟨cs105, hr106, hcs107, hlt108⟩ := arr_in (sz := 8) rfl hr97 hx104
  have hcs109 := at_in (p := a95) (q := 0) (o := j102 * 8) (at_zero hcs98) hcs107
  refine E_st 3 rfl (st_index_at j102 rfl rfl hj103 hlt108 arr76) ?_
  obtain ⟨j112, hj113, hx114⟩ := idx_some h111
  obtain ⟨cs115, hr116, hcs117, hlt118⟩ := arr_in (sz := 1) rfl hr106 hx114
  obtain rfl := hr116
  have hcs119 := at_in (p := a95) (q := 0 + j102 * 8) (o := j112 * 1) hcs109 hcs117
  refine E_st 4 rfl (st_index_at j112 rfl rfl hj113 hlt118 arr64) ?_
  refine E_st 5 rfl (st_load_at rfl one3 (hcs119 0 _ rfl)) ?_
  have h120 := (chk_some h120).2
  refine E_st 6 rfl (st_negc rfl h120) ?_
  refine E_st 7 rfl (st_load 1 rfl one3 rfl rfl) ?_
  refine E_st 8 rfl (st_geq rfl rfl) ?_
  refine E_st 9 rfl (st_assign rfl) ?_
  refine E_out ?_
  refine D_done (by kernel_rfl) ?_
  refine x_then_normal ?_
  refine c_ret ?_
  obtain rfl := some1 hm
  refine x_pullb 1 rfl ?_
  refine x_pullb 1 rfl ?_
  exact retM (rs := [.tmp 4]) [.bool (decide (x7 ≤ (-x110)))] (Base.Le.refl _) (by decide) rfl ⟨rfl, trivial⟩ rfl (hp' := (g1, Cl 3 [.int .i64 (x6)]) :: (g2, Cl 3 [.int .i64 (x7)]) :: R) (.cons_cons _ (.cons_cons _ (.refl _))) ⟨rfl, rfl⟩

set_option maxRecDepth 20000 in
theorem cPlanFloor (b : Base) (R : Hp) (x1 : Int) (x2 : Int) (x15 : Int) (hm : mPlanFloor x1 x2 = some x15) :
    CallsG Try.prog 55 [.int .i64 (x1), .int .i64 (x2)] b (R) (fun v b' hp' => .int .i64 (x15) = v ∧ R = hp') := by
  refine fn_enterG 16 Try.func55 rfl Try.ntmps55 rfl ?_
  unfold mPlanFloor at hm
  refine c_seq ?_
  refine c_region ?_
  refine t_st rfl (st_assign rfl) ?_
  refine t_nil ?_
  refine x_then_normal ?_
  refine c_seq ?_
  refine c_region ?_
  refine t_st rfl (st_move rfl) ?_
  refine t_st rfl (st_move rfl) ?_
  obtain ⟨_, h16, hm⟩ := bindS hm
  obtain ⟨_, h17, hm⟩ := bindS hm
  have h17 := (chk_some h17).2
  refine t_st rfl (st_quo rfl rfl (ne0_some h16) h17) ?_
  refine t_st rfl (st_assign rfl) ?_
  refine t_nil ?_
  refine x_then_normal ?_
  obtain ⟨x23, hj24, hk24⟩ := bindS hm
  refine c_join (fun b21 e' hp' => [(5, .int .i64 (x23))] = e' ∧ R = hp' ∧ b.Le b21) ?_ ?_
  ·
   have hm := hj24
   refine c_seq ?_
   refine c_region ?_
   refine t_st rfl (st_move rfl) ?_
   refine t_st rfl (st_move rfl) ?_
   obtain ⟨_, h25, hm⟩ := bindS hm
   refine t_st rfl (st_rem rfl rfl (ne0_some h25)) ?_
   refine t_st rfl (st_lss rfl rfl) ?_
   refine t_nil ?_
   refine x_then_normal ?_
   refine c_cond _ rfl (fun hc26 => ?_) (fun hc26 => ?_)
   ·
    rw [if_pos (of_decide_eq_true hc26)] at hm
    refine c_region ?_
    refine t_st rfl (st_move rfl) ?_
    obtain ⟨_, h27, hm⟩ := bindS hm
    have h27 := (chk_some h27).2
    refine t_st rfl (st_sub rfl rfl h27) ?_
    refine t_st rfl (st_assign rfl) ?_
    refine t_nil ?_
    obtain rfl := some1 hm
    exact x_join (e' := [(5, .int .i64 ((Int.tdiv x1 x2) - 1))]) (hp' := R) ⟨rfl, trivial⟩ (.refl _) ⟨rfl, rfl, (Base.Le.refl _)⟩
   ·
    rw [if_neg (of_decide_eq_false hc26)] at hm
    refine c_skip ?_
    obtain rfl := some1 hm
    exact x_join (e' := [(5, .int .i64 (Int.tdiv x1 x2))]) (hp' := R) ⟨rfl, trivial⟩ (.refl _) ⟨rfl, rfl, (Base.Le.refl _)⟩
  ·
   rintro b21 _ _ ⟨rfl, rfl, hle22⟩
   have hm := hk24
   refine c_seq ?_
   refine c_region ?_
   refine t_st rfl (st_move rfl) ?_
   refine t_st rfl (st_assign rfl) ?_
   refine t_nil ?_
   refine x_then_normal ?_
   refine c_ret ?_
   obtain rfl := some1 hm
   exact retM (rs := [.tmp 4]) [.int .i64 (x23)] hle22 (by decide) rfl ⟨rfl, trivial⟩ rfl (hp' := R) (.refl _) ⟨rfl, rfl⟩

set_option maxRecDepth 20000 in
theorem cPlanSearchChoices (b : Base) (R : Hp) (q14 : (Option (List (List Int)))) (s17 : PlanRule) (x18 : Int) (x19 : Int) (l23 : (List PlanRule)) (x24 : Int) (x25 : Int) (l26 : (List Int)) (l27 : (List Bool)) (g11 : Nat) (g12 : Nat) (g13 : Nat) (v15 : Value) (A20 : Option Addr) (c21 : Nat) (A3 : Option Addr) (c4 : Nat) (hs2 : Hp) (A8 : Option Addr) (c9 : Nat) (hs7 : Hp) (h16 : (RT.ptr (RT.arr 8 (RT.arr 8 (RT.int .i64)))).rep b.w [v15] q14) (h22 : FZ rPlanRule b.w A20 c21 l23) (h5 : OS 3 (OT.fr (RT.int .i64)) b.w (.slice A3 l26.length c4) l26 hs2) (h10 : OS 4 (OT.fr RT.bool) b.w (.slice A8 l27.length c9) l27 hs7) (l465 : (List Int)) (hm : mPlanSearchChoices q14 s17 x18 x19 l23 x24 x25 l26 l27 = some l465) :
    CallsG Try.prog 52 [.pointer (some ⟨g11, 0, none⟩), v15, .agg #[.int .i64 (s17.From), .int .i64 (s17.To), .int .i64 (s17.Min), .int .i64 (s17.Max), .int .i64 (s17.Weight)]] b ((g11, Cl 63 [.int .i64 (x18), .int .i64 (x19), .slice A20 (l23).length c21, .func (.func 44) #[] #[.pointer (some ⟨g12, 0, none⟩), .pointer (some ⟨g13, 0, none⟩)], .func (.func 43) #[] #[.pointer (some ⟨g12, 0, none⟩), .pointer (some ⟨g13, 0, none⟩)], .slice A3 (l26).length c4, .slice A8 (l27).length c9]) :: (g12, Cl 3 [.int .i64 (x24)]) :: (g13, Cl 3 [.int .i64 (x25)]) :: (hs2 ++ (hs7 ++ R))) (fun v b' hp' => ∃ (A462 : Option Addr), ∃ (c463 : Nat), ∃ (hs461 : Hp), .slice A462 (l465).length c463 = v ∧ (g11, Cl 63 [.int .i64 (x18), .int .i64 (x19), .slice A20 (l23).length c21, .func (.func 44) #[] #[.pointer (some ⟨g12, 0, none⟩), .pointer (some ⟨g13, 0, none⟩)], .func (.func 43) #[] #[.pointer (some ⟨g12, 0, none⟩), .pointer (some ⟨g13, 0, none⟩)], .slice A3 (l26).length c4, .slice A8 (l27).length c9]) :: (g12, Cl 3 [.int .i64 (x24)]) :: (g13, Cl 3 [.int .i64 (x25)]) :: (hs461 ++ (hs2 ++ (hs7 ++ R))) = hp' ∧ OS 3 (OT.fr (RT.int .i64)) b'.w (.slice A462 l465.length c463) l465 hs461) := by
  refine fn_enterG 58 Try.func52 rfl Try.ntmps52 rfl ?_
  unfold mPlanSearchChoices at hm
  refine c_seq ?_
  refine c_region ?_
  refine t_do rfl (u_box _ rfl rfl) ?_
  rintro _ _ ⟨g466, rfl, rfl⟩
  refine t_st rfl (st_assign rfl) ?_
  refine t_nil ?_
  refine x_then_normal ?_
  refine c_seq ?_
  refine c_region ?_
  refine t_st rfl (st_assign rfl) ?_
  refine t_nil ?_
  refine x_then_normal ?_
  refine c_seq ?_
  obtain ⟨y498, h499, hm⟩ := bindS hm
  obtain ⟨x505, h506, hm⟩ := bindS hm
  obtain ⟨x515, h516, hm⟩ := bindS hm
  obtain ⟨_, h525, hm⟩ := bindS hm
  obtain ⟨x526, hcl527, hm⟩ := bindS hm
  obtain ⟨_, h528, hm⟩ := bindS hm
  refine D_drawS ((g466, Cl 29 [.int .i64 (s17.From), .int .i64 (s17.To), .int .i64 (s17.Min), .int .i64 (s17.Max), .int .i64 (s17.Weight)]) :: (g11, Cl 63 [.int .i64 (x18), .int .i64 (x19), .slice A20 (l23).length c21, .func (.func 44) #[] #[.pointer (some ⟨g12, 0, none⟩), .pointer (some ⟨g13, 0, none⟩)], .func (.func 43) #[] #[.pointer (some ⟨g12, 0, none⟩), .pointer (some ⟨g13, 0, none⟩)], .slice A3 (l26).length c4, .slice A8 (l27).length c9]) :: (g12, Cl 3 [.int .i64 (x24)]) :: (g13, Cl 3 [.int .i64 (x25)]) :: (hs2 ++ (hs7 ++ R))) mixed ?_
  refine E_in (.cons_cons _ (.cons_cons _ (.cons_cons _ (.cons_cons _ (sub_app hs2 (sub_app hs7 (.refl _))))))) ?_
  refine E_st 0 rfl (st_move rfl) ?_
  refine E_st 1 rfl (st_field rfl fld29_0) ?_
  refine E_st 2 rfl (st_load 0 rfl one3 rfl rfl) ?_
  refine E_st 3 rfl (st_field rfl fld29_1) ?_
  refine E_st 4 rfl (st_load 0 rfl one3 rfl rfl) ?_
  have h504 := h16
  rw [h499] at h504
  obtain ⟨a500, cs501, rfl, hr502, hcs503⟩ := ptr_open h504
  refine E_st 5 rfl (st_nil_at rfl) ?_
  obtain ⟨j507, hj508, hx509⟩ := idx_some h506
  obtain ⟨cs510, hr511, hcs512, hlt513⟩ := arr_in (sz := 8) rfl hr502 hx509
  have hcs514 := at_in (p := a500) (q := 0) (o := j507 * 8) (at_zero hcs503) hcs512
  refine E_st 6 rfl (st_index_at j507 rfl rfl hj508 hlt513 arr76) ?_
  obtain ⟨j517, hj518, hx519⟩ := idx_some h516
  obtain ⟨cs520, hr521, hcs522, hlt523⟩ := arr_in (sz := 1) rfl hr511 hx519
  obtain rfl := hr521
  have hcs524 := at_in (p := a500) (q := 0 + j507 * 8) (o := j517 * 1) hcs514 hcs522
  refine E_st 7 rfl (st_index_at j517 rfl rfl hj518 hlt523 arr64) ?_
  refine E_st 8 rfl (st_load_at rfl one3 (hcs524 0 _ rfl)) ?_
  refine E_st 9 rfl (st_field rfl fld29_2) ?_
  refine E_st 10 rfl (st_load 0 rfl one3 rfl rfl) ?_
  have h525 := (chk_some h525).2
  refine E_st 11 rfl (st_sub rfl rfl h525) ?_
  refine E_st 12 rfl (st_move rfl) ?_
  refine E_st 13 rfl (st_nil rfl) ?_
  refine E_st 14 rfl (st_field rfl fld63_0) ?_
  refine E_st 15 rfl (st_field rfl fld24_0) ?_
  refine E_st 16 rfl (st_load 1 rfl one3 rfl rfl) ?_
  refine E_out ?_
  refine D_all [17] (by kernel_rfl) rfl ?_
  refine R_do (Base.Le.refl _) rfl rfl (u_callW0 _ call55 rfl (fun w ho => cPlanFloor _ [] (x515 - s17.Min) x18 x526 hcl527) (fun _ _ _ h => h.2.symm)) ?_ ?_
  ·
   rintro _ _ ⟨⟨_, rfl, _⟩, rfl⟩
   refine ⟨.inr (.cons_cons _ (.cons_cons _ (.cons_cons _ (.cons_cons _ (sub_app hs2 (sub_app hs7 (.refl _))))))), ?_⟩
   have h528 := (chk_some h528).2
   refine E_in (.cons_cons _ (.cons_cons _ (.cons_cons _ (.cons_cons _ (sub_app hs2 (sub_app hs7 (.refl _))))))) ?_
   refine E_st 18 rfl (st_negc rfl h528) ?_
   refine E_st 19 rfl (st_assign rfl) ?_
   refine E_out ?_
   refine D_done (by kernel_rfl) ?_
   refine x_then_normal ?_
   obtain ⟨l716, hj717, hk717⟩ := bindS hm
   refine c_join (fun b709 e' hp' => ∃ (A713 : Option Addr), ∃ (c714 : Nat), ∃ (hs712 : Hp), [(7, .slice A713 (l716).length c714)] = e' ∧ (g11, Cl 63 [.int .i64 (x18), .int .i64 (x19), .slice A20 (l23).length c21, .func (.func 44) #[] #[.pointer (some ⟨g12, 0, none⟩), .pointer (some ⟨g13, 0, none⟩)], .func (.func 43) #[] #[.pointer (some ⟨g12, 0, none⟩), .pointer (some ⟨g13, 0, none⟩)], .slice A3 (l26).length c4, .slice A8 (l27).length c9]) :: (g12, Cl 3 [.int .i64 (x24)]) :: (g13, Cl 3 [.int .i64 (x25)]) :: (hs712 ++ (hs2 ++ (hs7 ++ R))) = hp' ∧ b.Le b709 ∧ OS 3 (OT.fr (RT.int .i64)) b709.w (.slice A713 l716.length c714) l716 hs712) ?_ ?_
   ·
    have hm := hj717
    refine c_seq ?_
    refine c_region ?_
    refine t_st rfl (st_move rfl) ?_
    refine t_st rfl (st_assign rfl) ?_
    refine t_nil ?_
    refine x_then_normal ?_
    refine c_block ?_
    refine c_pullb 3 rfl ?_
    refine c_pullb 3 rfl ?_
    refine c_pullb 2 rfl ?_
    refine c_pullb 3 rfl ?_
    refine c_front2 [_, _, _, _] hs2 hs7 R rfl ?_
    refine c_front2 [_, _, _, _] hs7 hs2 R rfl ?_
    refine c_loopM (unc2 fun x842 l843 => fun b835 e' hp' => ∃ (A839 : Option Addr), ∃ (c840 : Nat), ∃ (hs838 : Hp), [(0, .pointer (some ⟨g11, 0, none⟩)), (1, .pointer (some a500)), (5, .pointer (some ⟨g466, 0, none⟩)), (7, .slice A839 (l843).length c840), (9, .int .i64 (x842))] = e' ∧ (g11, Cl 63 [.int .i64 (x18), .int .i64 (x19), .slice A20 (l23).length c21, .func (.func 44) #[] #[.pointer (some ⟨g12, 0, none⟩), .pointer (some ⟨g13, 0, none⟩)], .func (.func 43) #[] #[.pointer (some ⟨g12, 0, none⟩), .pointer (some ⟨g13, 0, none⟩)], .slice A3 (l26).length c4, .slice A8 (l27).length c9]) :: (g466, Cl 29 [.int .i64 (s17.From), .int .i64 (s17.To), .int .i64 (s17.Min), .int .i64 (s17.Max), .int .i64 (s17.Weight)]) :: (g12, Cl 3 [.int .i64 (x24)]) :: (g13, Cl 3 [.int .i64 (x25)]) :: (hs838 ++ (hs2 ++ (hs7 ++ R))) = hp' ∧ b.Le b835 ∧ OS 3 (OT.fr (RT.int .i64)) b835.w (.slice A839 l843.length c840) l843 hs838) hm (e' := [(0, .pointer (some ⟨g11, 0, none⟩)), (1, .pointer (some a500)), (5, .pointer (some ⟨g466, 0, none⟩)), (7, .slice none 0 0), (9, .int .i64 ((-x526)))]) (hp' := (g11, Cl 63 [.int .i64 (x18), .int .i64 (x19), .slice A20 (l23).length c21, .func (.func 44) #[] #[.pointer (some ⟨g12, 0, none⟩), .pointer (some ⟨g13, 0, none⟩)], .func (.func 43) #[] #[.pointer (some ⟨g12, 0, none⟩), .pointer (some ⟨g13, 0, none⟩)], .slice A3 (l26).length c4, .slice A8 (l27).length c9]) :: (g466, Cl 29 [.int .i64 (s17.From), .int .i64 (s17.To), .int .i64 (s17.Min), .int .i64 (s17.Max), .int .i64 (s17.Weight)]) :: (g12, Cl 3 [.int .i64 (x24)]) :: (g13, Cl 3 [.int .i64 (x25)]) :: ([] ++ (hs2 ++ (hs7 ++ R)))) ⟨rfl, rfl, rfl, rfl, rfl, trivial⟩ (.cons_cons _ (.cons_cons _ (.cons_cons _ (.cons_cons _ (sub_app hs2 (sub_app hs7 (.refl _))))))) ⟨none, 0, [], rfl, rfl, (Base.Le.refl _), OS.nil⟩ ?_
    rintro ⟨x842, l843⟩ b835 _ _ oL718 ⟨A839, c840, hs838, rfl, rfl, hle836, h841⟩ hstepL718 houtL718
    unfold mPlanSearchChoices_L718 at hstepL718
    have hm := (unc2E hstepL718)
    refine c_seq ?_
    refine c_seq ?_
    obtain ⟨_, h867, hm⟩ := bindS hm
    obtain ⟨_, h868, hm⟩ := bindS hm
    obtain ⟨x869, h870, hm⟩ := bindS hm
    obtain ⟨x879, h880, hm⟩ := bindS hm
    obtain ⟨_, h889, hm⟩ := bindS hm
    refine D_drawS ((g11, Cl 63 [.int .i64 (x18), .int .i64 (x19), .slice A20 (l23).length c21, .func (.func 44) #[] #[.pointer (some ⟨g12, 0, none⟩), .pointer (some ⟨g13, 0, none⟩)], .func (.func 43) #[] #[.pointer (some ⟨g12, 0, none⟩), .pointer (some ⟨g13, 0, none⟩)], .slice A3 (l26).length c4, .slice A8 (l27).length c9]) :: (g466, Cl 29 [.int .i64 (s17.From), .int .i64 (s17.To), .int .i64 (s17.Min), .int .i64 (s17.Max), .int .i64 (s17.Weight)]) :: (g12, Cl 3 [.int .i64 (x24)]) :: (g13, Cl 3 [.int .i64 (x25)]) :: (hs838 ++ (hs2 ++ (hs7 ++ R)))) mixed ?_
    refine E_in (.cons_cons _ (.cons_cons _ (.cons_cons _ (.cons_cons _ (sub_app hs838 (sub_app hs2 (sub_app hs7 (.refl _)))))))) ?_
    refine E_st 0 rfl (st_field rfl fld29_3) ?_
    refine E_st 1 rfl (st_load 1 rfl one3 rfl rfl) ?_
    refine E_st 2 rfl (st_move rfl) ?_
    refine E_st 3 rfl (st_move rfl) ?_
    refine E_st 4 rfl (st_nil rfl) ?_
    refine E_st 5 rfl (st_field rfl fld63_0) ?_
    refine E_st 6 rfl (st_field rfl fld24_0) ?_
    refine E_st 7 rfl (st_load 0 rfl one3 rfl rfl) ?_
    have h867 := (chk_some h867).2
    refine E_st 8 rfl (st_mul rfl rfl h867) ?_
    have h868 := (chk_some h868).2
    refine E_st 9 rfl (st_sub rfl rfl h868) ?_
    refine E_st 10 rfl (st_move rfl) ?_
    refine E_st 11 rfl (st_field rfl fld29_1) ?_
    refine E_st 12 rfl (st_load 1 rfl one3 rfl rfl) ?_
    refine E_st 13 rfl (st_field rfl fld29_0) ?_
    refine E_st 14 rfl (st_load 1 rfl one3 rfl rfl) ?_
    refine E_st 15 rfl (st_nil_at rfl) ?_
    obtain ⟨j871, hj872, hx873⟩ := idx_some h870
    obtain ⟨cs874, hr875, hcs876, hlt877⟩ := arr_in (sz := 8) rfl (RT.le (RT.arr 8 (RT.arr 8 (RT.int .i64))) hr502 hle836) hx873
    have hcs878 := at_in (p := a500) (q := 0) (o := j871 * 8) (at_zero (at_le hcs503 hle836)) hcs876
    refine E_st 16 rfl (st_index_at j871 rfl rfl hj872 hlt877 arr76) ?_
    obtain ⟨j881, hj882, hx883⟩ := idx_some h880
    obtain ⟨cs884, hr885, hcs886, hlt887⟩ := arr_in (sz := 1) rfl hr875 hx883
    obtain rfl := hr885
    have hcs888 := at_in (p := a500) (q := 0 + j871 * 8) (o := j881 * 1) hcs878 hcs886
    refine E_st 17 rfl (st_index_at j881 rfl rfl hj882 hlt887 arr64) ?_
    refine E_st 18 rfl (st_load_at rfl one3 (hcs888 0 _ rfl)) ?_
    have h889 := (chk_some h889).2
    refine E_st 19 rfl (st_negc rfl h889) ?_
    refine E_st 20 rfl (st_geq rfl rfl) ?_
    refine E_out ?_
    refine D_done (by kernel_rfl) ?_
    refine x_then_normal ?_
    refine c_cond _ rfl (fun hc890 => ?_) (fun hc890 => ?_)
    ·
     rw [if_pos (of_decide_eq_true hc890)] at hm
     refine c_skip ?_
     refine x_then_normal ?_
     refine c_seq ?_
     refine c_block ?_
     refine c_region ?_
     refine t_st rfl (st_move rfl) ?_
     refine t_st rfl (st_move rfl) ?_
     refine t_do rfl (u_bslice (el := 3) [(0, .int .i64 (x842))] [.int .i64 (x842)] rfl (fun _ => by kernel_rfl)) ?_
     rintro _ _ ⟨g891, rfl, rfl⟩
     obtain ⟨_, h892, hm⟩ := bindS hm
     have h892 := room_some h892
     refine t_do rfl (u_appOS (r := (RT.int .i64)) (l := l843) [_, _, _, _, _] (hs2 ++ (hs7 ++ R)) [[.int .i64 (x842)]] [x842] rfl (by decide) sl30 inf3 rfl rfl rfl rfl h841 rfl (fun w ho => Rd.own (i := 0) ho rfl) ⟨rfl, trivial⟩ h892) ?_
     rintro _ _ ⟨hs893, rfl, h894⟩
     obtain ⟨A895, c896, rfl, _⟩ := h894.form
     refine t_st rfl (st_assign rfl) ?_
     refine t_nil ?_
     refine x_block_normal ?_
     refine x_then_normal ?_
     refine c_region ?_
     refine t_st rfl (st_move rfl) ?_
     obtain ⟨_, h897, hm⟩ := bindS hm
     have h897 := (chk_some h897).2
     refine t_st rfl (st_add rfl rfl h897) ?_
     refine t_st rfl (st_assign rfl) ?_
     refine t_nil ?_
     refine x_pullb 4 rfl ?_
     refine x_pullb 4 rfl ?_
     refine x_pullb 4 rfl ?_
     refine x_pullb 4 rfl ?_
     refine x_front3 [_, _, _, _, _] hs893 hs2 hs7 R rfl ?_
     refine x_front3 [_, _, _, _, _] hs7 hs893 hs2 R rfl ?_
     refine x_front3 [_, _, _, _, _] hs2 hs7 hs893 R rfl ?_
     exact x_againM (x842 + 1, l843 ++ [x842]) (Option.some.inj hm).symm (e' := [(0, .pointer (some ⟨g11, 0, none⟩)), (1, .pointer (some a500)), (5, .pointer (some ⟨g466, 0, none⟩)), (7, .slice A895 (l843 ++ [x842]).length c896), (9, .int .i64 (x842 + 1))]) (hp' := (g11, Cl 63 [.int .i64 (x18), .int .i64 (x19), .slice A20 (l23).length c21, .func (.func 44) #[] #[.pointer (some ⟨g12, 0, none⟩), .pointer (some ⟨g13, 0, none⟩)], .func (.func 43) #[] #[.pointer (some ⟨g12, 0, none⟩), .pointer (some ⟨g13, 0, none⟩)], .slice A3 (l26).length c4, .slice A8 (l27).length c9]) :: (g466, Cl 29 [.int .i64 (s17.From), .int .i64 (s17.To), .int .i64 (s17.Min), .int .i64 (s17.Max), .int .i64 (s17.Weight)]) :: (g12, Cl 3 [.int .i64 (x24)]) :: (g13, Cl 3 [.int .i64 (x25)]) :: (hs893 ++ (hs2 ++ (hs7 ++ R)))) ⟨rfl, rfl, rfl, rfl, rfl, trivial⟩ (.cons_cons _ (.cons_cons _ (.cons_cons _ (.cons_cons _ (.cons _ (sub_app hs893 (sub_app hs2 (sub_app hs7 (.refl _))))))))) ⟨A895, c896, hs893, rfl, rfl, (hle836), h894⟩
    ·
     rw [if_neg (of_decide_eq_false hc890)] at hm
     refine c_exit ?_
     refine x_then_exit ?_
     refine x_then_exit ?_
     refine x_block_out ?_
     have hm := congrArg some (houtL718 _ (Option.some.inj hm).symm)
     obtain rfl := some1 hm
     refine x_pullb 3 rfl ?_
     refine x_pullb 3 rfl ?_
     refine x_pullb 2 rfl ?_
     refine x_front3 [_, _, _, _] hs838 hs2 hs7 R rfl ?_
     refine x_front3 [_, _, _, _] hs7 hs838 hs2 R rfl ?_
     refine x_front3 [_, _, _, _] hs2 hs7 hs838 R rfl ?_
     exact x_join (e' := [(7, .slice A839 (l843).length c840)]) (hp' := (g11, Cl 63 [.int .i64 (x18), .int .i64 (x19), .slice A20 (l23).length c21, .func (.func 44) #[] #[.pointer (some ⟨g12, 0, none⟩), .pointer (some ⟨g13, 0, none⟩)], .func (.func 43) #[] #[.pointer (some ⟨g12, 0, none⟩), .pointer (some ⟨g13, 0, none⟩)], .slice A3 (l26).length c4, .slice A8 (l27).length c9]) :: (g12, Cl 3 [.int .i64 (x24)]) :: (g13, Cl 3 [.int .i64 (x25)]) :: (hs838 ++ (hs2 ++ (hs7 ++ R)))) ⟨rfl, trivial⟩ (.cons_cons _ (.cons_cons _ (.cons_cons _ (.cons _ (sub_app hs838 (sub_app hs2 (sub_app hs7 (.refl _)))))))) ⟨A839, c840, hs838, rfl, rfl, hle836, h841⟩
   ·
    rintro b709 _ _ ⟨A713, c714, hs712, rfl, rfl, hle710, h715⟩
    have hm := hk717
    refine c_seq ?_
    refine c_region ?_
    refine t_st rfl (st_move rfl) ?_
    refine t_st rfl (st_assign rfl) ?_
    refine t_nil ?_
    refine x_then_normal ?_
    refine c_ret ?_
    obtain rfl := some1 hm
    refine x_pullb 2 rfl ?_
    refine x_pullb 2 rfl ?_
    refine x_pullb 2 rfl ?_
    refine x_front3 [_, _, _] hs712 hs2 hs7 R rfl ?_
    refine x_front3 [_, _, _] hs7 hs712 hs2 R rfl ?_
    refine x_front3 [_, _, _] hs2 hs7 hs712 R rfl ?_
    exact retM (rs := [.tmp 6]) [.slice A713 (l716).length c714] hle710 (by decide) rfl ⟨rfl, trivial⟩ rfl (hp' := (g11, Cl 63 [.int .i64 (x18), .int .i64 (x19), .slice A20 (l23).length c21, .func (.func 44) #[] #[.pointer (some ⟨g12, 0, none⟩), .pointer (some ⟨g13, 0, none⟩)], .func (.func 43) #[] #[.pointer (some ⟨g12, 0, none⟩), .pointer (some ⟨g13, 0, none⟩)], .slice A3 (l26).length c4, .slice A8 (l27).length c9]) :: (g12, Cl 3 [.int .i64 (x24)]) :: (g13, Cl 3 [.int .i64 (x25)]) :: (hs712 ++ (hs2 ++ (hs7 ++ R)))) (.cons_cons _ (.cons_cons _ (.cons_cons _ (sub_app hs712 (sub_app hs2 (sub_app hs7 (.refl _))))))) ⟨A713, c714, hs712, rfl, rfl, h715⟩
  exact R_nil

set_option maxRecDepth 20000 in
theorem cPlanSolve_2_2 (b : Base) (R : Hp) (q8 : (Option (List (List Int)))) (x11 : Int) (x12 : Int) (l13 : (List Int)) (g6 : Nat) (g7 : Nat) (v9 : Value) (A3 : Option Addr) (c4 : Nat) (hs2 : Hp) (h10 : (RT.ptr (RT.arr 8 (RT.arr 8 (RT.int .i64)))).rep b.w [v9] q8) (h5 : OS 3 (OT.fr (RT.int .i64)) b.w (.slice A3 l13.length c4) l13 hs2) (x70 : Int) (hm : mPlanSolve_2_2 q8 x11 x12 l13 = some x70) :
    CallsG Try.prog 44 [v9, .slice A3 (l13).length c4, .pointer (some ⟨g6, 0, none⟩), .pointer (some ⟨g7, 0, none⟩)] b ((g6, Cl 3 [.int .i64 (x11)]) :: (g7, Cl 3 [.int .i64 (x12)]) :: (hs2 ++ R)) (fun v b' hp' => .tuple #[] = v ∧ (g6, Cl 3 [.int .i64 (x11)]) :: (g7, Cl 3 [.int .i64 (x70)]) :: (hs2 ++ R) = hp') := by
  refine fn_enterG 13 Try.func44 rfl Try.ntmps44 rfl ?_
  unfold mPlanSolve_2_2 at hm
  obtain ⟨y99, h100, hm⟩ := bindS hm
  obtain ⟨x106, h107, hm⟩ := bindS hm
  obtain ⟨x116, h117, hm⟩ := bindS hm
  obtain ⟨_, h126, hm⟩ := bindS hm
  refine D_drawS ((g6, Cl 3 [.int .i64 (x11)]) :: (g7, Cl 3 [.int .i64 (x12)]) :: (hs2 ++ R)) mixed ?_
  refine E_in (.cons_cons _ (.cons_cons _ (sub_app hs2 (.refl _)))) ?_
  refine E_st 0 rfl (st_move rfl) ?_
  refine E_st 1 rfl (st_load 0 rfl one3 rfl rfl) ?_
  have h105 := h10
  rw [h100] at h105
  obtain ⟨a101, cs102, rfl, hr103, hcs104⟩ := ptr_open h105
  refine E_st 2 rfl (st_nil_at rfl) ?_
  obtain ⟨j108, hj109, hx110⟩ := idx_some h107
  obtain ⟨cs111, hr112, hcs113, hlt114⟩ := arr_in (sz := 8) rfl hr103 hx110
  have hcs115 := at_in (p := a101) (q := 0) (o := j108 * 8) (at_zero hcs104) hcs113
  refine E_st 3 rfl (st_index_at j108 rfl rfl hj109 hlt114 arr76) ?_
  obtain ⟨j118, hj119, hx120⟩ := idx_some h117
  obtain ⟨cs121, hr122, hcs123, hlt124⟩ := arr_in (sz := 1) rfl hr112 hx120
  obtain rfl := hr122
  have hcs125 := at_in (p := a101) (q := 0 + j108 * 8) (o := j118 * 1) hcs115 hcs123
  refine E_st 4 rfl (st_index_at j118 rfl rfl hj119 hlt124 arr64) ?_
  refine E_st 5 rfl (st_load_at rfl one3 (hcs125 0 _ rfl)) ?_
  have h126 := (chk_some h126).2
  refine E_st 6 rfl (st_negc rfl h126) ?_
  refine E_out ?_
  refine D_all [7] (by kernel_rfl) rfl ?_
  refine R_do (Base.Le.refl _) rfl rfl (u_store 1 rfl rfl siz3 rfl rfl (by simp)) ?_ ?_
  ·
   rintro _ _ rfl
   refine ⟨.inl (by kernel_rfl), ?_⟩
   refine D_done (by kernel_rfl) ?_
   obtain rfl := some1 hm
   refine x_pullb 1 rfl ?_
   refine x_pullb 1 rfl ?_
   exact endM (Base.Le.refl _) rfl (.cons_cons _ (.cons_cons _ (sub_app hs2 (.refl _)))) ⟨rfl, rfl⟩
  exact R_nil

set_option maxRecDepth 20000 in
theorem cPlanBoundsClosed (b : Base) (R : Hp) (q1 : (Option (List (List Int)))) (x4 : Int) (x5 : Int) (x6 : Int) (x7 : Int) (v2 : Value) (h3 : (RT.ptr (RT.arr 8 (RT.arr 8 (RT.int .i64)))).rep b.w [v2] q1) (q1592 : (Option (List (List Int)))) (x1595 : Bool) (hm : mPlanBoundsClosed q1 x4 x5 x6 x7 = some (q1592, x1595)) :
    CallsG Try.prog 53 [v2, .int .i64 (x4), .int .i64 (x5), .int .i64 (x6), .int .i64 (x7)] b (R) (fun v b' hp' => ∃ (v1593 : Value), .tuple #[v1593, .bool (x1595)] = v ∧ R = hp' ∧ (RT.ptr (RT.arr 8 (RT.arr 8 (RT.int .i64)))).rep b'.w [v1593] q1592) := by
  refine fn_enterG 75 Try.func53 rfl Try.ntmps53 rfl ?_
  unfold mPlanBoundsClosed at hm
  refine c_seq ?_
  refine c_region ?_
  refine t_st rfl (st_assign rfl) ?_
  refine t_st rfl (st_assign rfl) ?_
  refine t_nil ?_
  refine x_then_normal ?_
  refine c_seq ?_
  refine c_seq ?_
  refine c_region ?_
  refine t_st rfl (st_move rfl) ?_
  refine t_st rfl (st_move rfl) ?_
  refine t_st rfl (st_move rfl) ?_
  obtain ⟨y1596, h1597, hm⟩ := bindS hm
  have h1602 := h3
  rw [h1597] at h1602
  obtain ⟨a1598, cs1599, rfl, hr1600, hcs1601⟩ := ptr_open h1602
  refine t_st rfl (st_nil_at rfl) ?_
  obtain ⟨x1603, h1604, hm⟩ := bindS hm
  obtain ⟨j1605, hj1606, hx1607⟩ := idx_some h1604
  obtain ⟨cs1608, hr1609, hcs1610, hlt1611⟩ := arr_in (sz := 8) rfl hr1600 hx1607
  have hcs1612 := at_in (p := a1598) (q := 0) (o := j1605 * 8) (at_zero hcs1601) hcs1610
  refine t_st rfl (st_index_at j1605 rfl rfl hj1606 hlt1611 arr76) ?_
  obtain ⟨x1613, h1614, hm⟩ := bindS hm
  obtain ⟨j1615, hj1616, hx1617⟩ := idx_some h1614
  obtain ⟨cs1618, hr1619, hcs1620, hlt1621⟩ := arr_in (sz := 1) rfl hr1609 hx1617
  obtain rfl := hr1619
  have hcs1622 := at_in (p := a1598) (q := 0 + j1605 * 8) (o := j1615 * 1) hcs1612 hcs1620
  refine t_st rfl (st_index_at j1615 rfl rfl hj1616 hlt1621 arr64) ?_
  refine t_st rfl (st_load_at rfl one3 (hcs1622 0 _ rfl)) ?_
  refine t_st rfl (st_move rfl) ?_
  refine t_st rfl (st_leq rfl rfl) ?_
  refine t_nil ?_
  refine x_then_normal ?_
  refine c_cond _ rfl (fun hc1623 => ?_) (fun hc1623 => ?_)
  ·
   rw [if_pos (of_decide_eq_true hc1623)] at hm
   refine c_seq ?_
   refine c_region ?_
   refine t_st rfl (st_move rfl) ?_
   refine t_st rfl (st_assign rfl) ?_
   refine t_st rfl (st_assign rfl) ?_
   refine t_nil ?_
   refine x_then_normal ?_
   refine c_ret ?_
   refine x_then_ret ?_
   obtain ⟨rfl, rfl⟩ := some2 hm
   exact retM (rs := [.tmp 10, .tmp 11]) [.pointer (some a1598), .bool (true)] (Base.Le.refl _) (by decide) rfl ⟨rfl, ⟨rfl, trivial⟩⟩ rfl (hp' := R) (.refl _) ⟨(.pointer (some a1598)), rfl, rfl, ⟨_, cs1599, rfl, hr1600, hcs1601⟩⟩
  ·
   rw [if_neg (of_decide_eq_false hc1623)] at hm
   refine c_skip ?_
   refine x_then_normal ?_
   refine c_seq ?_
   refine c_seq ?_
   refine c_region ?_
   refine t_st rfl (st_move rfl) ?_
   refine t_st rfl (st_move rfl) ?_
   refine t_st rfl (st_move rfl) ?_
   refine t_st rfl (st_nil_at rfl) ?_
   obtain ⟨x1624, h1625, hm⟩ := bindS hm
   obtain ⟨j1626, hj1627, hx1628⟩ := idx_some h1625
   obtain ⟨cs1629, hr1630, hcs1631, hlt1632⟩ := arr_in (sz := 8) rfl hr1600 hx1628
   have hcs1633 := at_in (p := a1598) (q := 0) (o := j1626 * 8) (at_zero hcs1601) hcs1631
   refine t_st rfl (st_index_at j1626 rfl rfl hj1627 hlt1632 arr76) ?_
   obtain ⟨x1634, h1635, hm⟩ := bindS hm
   obtain ⟨j1636, hj1637, hx1638⟩ := idx_some h1635
   obtain ⟨cs1639, hr1640, hcs1641, hlt1642⟩ := arr_in (sz := 1) rfl hr1630 hx1638
   obtain rfl := hr1640
   have hcs1643 := at_in (p := a1598) (q := 0 + j1626 * 8) (o := j1636 * 1) hcs1633 hcs1641
   refine t_st rfl (st_index_at j1636 rfl rfl hj1637 hlt1642 arr64) ?_
   refine t_st rfl (st_load_at rfl one3 (hcs1643 0 _ rfl)) ?_
   refine t_st rfl (st_move rfl) ?_
   obtain ⟨_, h1644, hm⟩ := bindS hm
   have h1644 := (chk_some h1644).2
   refine t_st rfl (st_add rfl rfl h1644) ?_
   refine t_st rfl (st_lss rfl rfl) ?_
   refine t_nil ?_
   refine x_then_normal ?_
   refine c_cond _ rfl (fun hc1645 => ?_) (fun hc1645 => ?_)
   ·
    rw [if_pos (of_decide_eq_true hc1645)] at hm
    refine c_seq ?_
    refine c_region ?_
    refine t_st rfl (st_assign rfl) ?_
    refine t_st rfl (st_assign rfl) ?_
    refine t_nil ?_
    refine x_then_normal ?_
    refine c_ret ?_
    refine x_then_ret ?_
    obtain ⟨rfl, rfl⟩ := some2 hm
    exact retM (rs := [.tmp 10, .tmp 11]) [.pointer none, .bool (false)] (Base.Le.refl _) (by decide) rfl ⟨rfl, ⟨rfl, trivial⟩⟩ rfl (hp' := R) (.refl _) ⟨(.pointer none), rfl, rfl, rfl⟩
   ·
    rw [if_neg (of_decide_eq_false hc1645)] at hm
    refine c_skip ?_
    refine x_then_normal ?_
    refine c_seq ?_
    refine c_region ?_
    refine t_st rfl (st_move rfl) ?_
    refine t_st rfl (st_nil_at rfl) ?_
    refine t_st rfl (st_loadArr_at rfl agg76 hr1600 hcs1601) ?_
    have h1647 : (RT.arr 8 (RT.arr 8 (RT.int .i64))).rep b.w ((List.replicate 8 ((List.replicate 8 [.int .i64 0]).flatten)).flatten) (List.replicate 8 (List.replicate 8 (0 : Int))) := (arr_zero 8 (arr_zero 8 rfl))
    refine t_do rfl (u_alloc ((List.replicate 8 ((List.replicate 8 [.int .i64 0]).flatten)).flatten) zero76 (by kernel_rfl)) ?_
    rintro _ _ ⟨g1646, rfl, rfl⟩
    refine t_do rfl (u_storeAll 0 rfl rfl siz76 rfl h1647 hr1600) ?_
    rintro _ _ rfl
    refine t_nil ?_
    refine x_then_normal ?_
    refine c_seq ?_
    refine c_seq ?_
    refine c_region ?_
    refine t_st rfl (st_move rfl) ?_
    refine t_st rfl (st_move rfl) ?_
    refine t_nil ?_
    refine x_then_normal ?_
    refine c_block ?_
    obtain ⟨_, h1649, hm⟩ := bindS hm
    have h1649 := (chk_some h1649).2
    obtain ⟨l2665, hl2669, hk2670⟩ := bindS hm
    refine c_forS (fun k2668 => fun l2665 => fun b2663 e' hp' => ∃ (cs2666 : List Value), [(0, .pointer (some a1598)), (1, .int .i64 (x4)), (2, .int .i64 (x5)), (3, .int .i64 (x6)), (4, .int .i64 (x7)), (12, .pointer (some ⟨g1646, 0, none⟩)), (38, .int .i64 (x4)), (39, .int .i64 ((k2668 : Int)))] = e' ∧ (g1646, Cl 76 cs2666) :: R = hp' ∧ b.Le b2663 ∧ (RT.arr 8 (RT.arr 8 (RT.int .i64))).rep b2663.w cs2666 l2665) hl2669 (e' := [(0, .pointer (some a1598)), (1, .int .i64 (x4)), (2, .int .i64 (x5)), (3, .int .i64 (x6)), (4, .int .i64 (x7)), (12, .pointer (some ⟨g1646, 0, none⟩)), (38, .int .i64 (x4)), (39, .int .i64 0)]) (hp' := (g1646, Cl 76 cs1599) :: R) ⟨rfl, rfl, rfl, rfl, rfl, rfl, rfl, rfl, trivial⟩ (.cons_cons _ (.refl _)) ⟨cs1599, rfl, rfl, (Base.Le.refl _), hr1600⟩ ?_ ?_
    ·
     rintro k2668 l2665 b2663 _ _ oL1648 hknL1648 ⟨cs2666, rfl, rfl, hle2664, h2667⟩ hstepL1648
     unfold mPlanBoundsClosed_L1648 at hstepL1648
     have hm := hstepL1648
     refine c_seq ?_
     refine c_region ?_
     refine t_st rfl (st_lss_t rfl rfl (by omega)) ?_
     refine t_nil ?_
     refine x_then_normal ?_
     refine c_seq ?_
     refine c_cond_t rfl ?_
     refine c_skip ?_
     refine x_then_normal ?_
     refine c_seq ?_
     refine c_block ?_
     refine c_seq ?_
     refine c_region ?_
     refine t_st rfl (st_move rfl) ?_
     refine t_st rfl (st_assign rfl) ?_
     refine t_nil ?_
     refine x_then_normal ?_
     refine c_seq ?_
     refine c_region ?_
     refine t_st rfl (st_move rfl) ?_
     refine t_st rfl (st_move rfl) ?_
     refine t_nil ?_
     refine x_then_normal ?_
     refine c_block ?_
     obtain ⟨_, h2672, hm⟩ := bindS hm
     have h2672 := (chk_some h2672).2
     obtain ⟨l3006, hl3010, hk3011⟩ := bindS hm
     refine c_forS (fun k3009 => fun l3006 => fun b3004 e' hp' => ∃ (cs3007 : List Value), [(0, .pointer (some a1598)), (1, .int .i64 (x4)), (2, .int .i64 (x5)), (3, .int .i64 (x6)), (4, .int .i64 (x7)), (12, .pointer (some ⟨g1646, 0, none⟩)), (13, .int .i64 ((k2668 : Int))), (38, .int .i64 (x4)), (39, .int .i64 ((k2668 : Int))), (42, .int .i64 (x4)), (43, .int .i64 ((k3009 : Int)))] = e' ∧ (g1646, Cl 76 cs3007) :: R = hp' ∧ b2663.Le b3004 ∧ (RT.arr 8 (RT.arr 8 (RT.int .i64))).rep b3004.w cs3007 l3006) hl3010 (e' := [(0, .pointer (some a1598)), (1, .int .i64 (x4)), (2, .int .i64 (x5)), (3, .int .i64 (x6)), (4, .int .i64 (x7)), (12, .pointer (some ⟨g1646, 0, none⟩)), (13, .int .i64 ((k2668 : Int))), (38, .int .i64 (x4)), (39, .int .i64 ((k2668 : Int))), (42, .int .i64 (x4)), (43, .int .i64 0)]) (hp' := (g1646, Cl 76 cs2666) :: R) ⟨rfl, rfl, rfl, rfl, rfl, rfl, rfl, rfl, rfl, rfl, rfl, trivial⟩ (.cons_cons _ (.refl _)) ⟨cs2666, rfl, rfl, (Base.Le.refl _), h2667⟩ ?_ ?_
     ·
      rintro k3009 l3006 b3004 _ _ oL2671 hknL2671 ⟨cs3007, rfl, rfl, hle3005, h3008⟩ hstepL2671
      unfold mPlanBoundsClosed_L2671 at hstepL2671
      have hm := hstepL2671
      refine c_seq ?_
      refine c_region ?_
      refine t_st rfl (st_lss_t rfl rfl (by omega)) ?_
      refine t_nil ?_
      refine x_then_normal ?_
      refine c_seq ?_
      refine c_cond_t rfl ?_
      refine c_skip ?_
      refine x_then_normal ?_
      refine c_seq ?_
      refine c_block ?_
      refine c_seq ?_
      refine c_region ?_
      refine t_st rfl (st_move rfl) ?_
      refine t_st rfl (st_assign rfl) ?_
      refine t_nil ?_
      refine x_then_normal ?_
      obtain ⟨x3094, h3095, hm⟩ := bindS hm
      obtain ⟨x3103, h3104, hm⟩ := bindS hm
      obtain ⟨x3113, h3114, hm⟩ := bindS hm
      obtain ⟨x3123, h3124, hm⟩ := bindS hm
      obtain ⟨_, h3133, hm⟩ := bindS hm
      obtain ⟨x3134, h3135, hm⟩ := bindS hm
      obtain ⟨x3144, h3145, hm⟩ := bindS hm
      obtain ⟨_, h3154, hm⟩ := bindS hm
      obtain ⟨x3155, h3156, hm⟩ := bindS hm
      obtain ⟨x3164, h3165, hm⟩ := bindS hm
      refine D_drawS (R) mixed ?_
      refine E_in (.cons _ (.refl _)) ?_
      refine E_st 0 rfl (st_move rfl) ?_
      refine E_st 1 rfl (st_move rfl) ?_
      refine E_st 2 rfl (st_move rfl) ?_
      refine E_st 3 rfl (st_move rfl) ?_
      refine E_st 7 rfl (st_move rfl) ?_
      refine E_st 8 rfl (st_move rfl) ?_
      refine E_st 9 rfl (st_move rfl) ?_
      refine E_st 10 rfl (st_nil_at rfl) ?_
      obtain ⟨j3115, hj3116, hx3117⟩ := idx_some h3114
      obtain ⟨cs3118, hr3119, hcs3120, hlt3121⟩ := arr_in (sz := 8) rfl (RT.le (RT.arr 8 (RT.arr 8 (RT.int .i64))) hr1600 (hle2664.trans hle3005)) hx3117
      have hcs3122 := at_in (p := a1598) (q := 0) (o := j3115 * 8) (at_zero (at_le hcs1601 (hle2664.trans hle3005))) hcs3120
      refine E_st 11 rfl (st_index_at j3115 rfl rfl hj3116 hlt3121 arr76) ?_
      obtain ⟨j3125, hj3126, hx3127⟩ := idx_some h3124
      obtain ⟨cs3128, hr3129, hcs3130, hlt3131⟩ := arr_in (sz := 1) rfl hr3119 hx3127
      obtain rfl := hr3129
      have hcs3132 := at_in (p := a1598) (q := 0 + j3115 * 8) (o := j3125 * 1) hcs3122 hcs3130
      refine E_st 12 rfl (st_index_at j3125 rfl rfl hj3126 hlt3131 arr64) ?_
      refine E_st 13 rfl (st_load_at rfl one3 (hcs3132 0 _ rfl)) ?_
      refine E_st 14 rfl (st_move rfl) ?_
      have h3133 := (chk_some h3133).2
      refine E_st 15 rfl (st_add rfl rfl h3133) ?_
      refine E_st 16 rfl (st_move rfl) ?_
      refine E_st 17 rfl (st_move rfl) ?_
      refine E_st 18 rfl (st_move rfl) ?_
      refine E_st 19 rfl (st_nil_at rfl) ?_
      obtain ⟨j3136, hj3137, hx3138⟩ := idx_some h3135
      obtain ⟨cs3139, hr3140, hcs3141, hlt3142⟩ := arr_in (sz := 8) rfl (RT.le (RT.arr 8 (RT.arr 8 (RT.int .i64))) hr1600 (hle2664.trans hle3005)) hx3138
      have hcs3143 := at_in (p := a1598) (q := 0) (o := j3136 * 8) (at_zero (at_le hcs1601 (hle2664.trans hle3005))) hcs3141
      refine E_st 20 rfl (st_index_at j3136 rfl rfl hj3137 hlt3142 arr76) ?_
      obtain ⟨j3146, hj3147, hx3148⟩ := idx_some h3145
      obtain ⟨cs3149, hr3150, hcs3151, hlt3152⟩ := arr_in (sz := 1) rfl hr3140 hx3148
      obtain rfl := hr3150
      have hcs3153 := at_in (p := a1598) (q := 0 + j3136 * 8) (o := j3146 * 1) hcs3143 hcs3151
      refine E_st 21 rfl (st_index_at j3146 rfl rfl hj3147 hlt3152 arr64) ?_
      refine E_st 22 rfl (st_load_at rfl one3 (hcs3153 0 _ rfl)) ?_
      have h3154 := (chk_some h3154).2
      refine E_st 23 rfl (st_add rfl rfl h3154) ?_
      refine E_out ?_
      obtain ⟨j3096, hj3097, hx3098⟩ := idx_some h3095
      obtain ⟨cs3099, hr3100, hcs3101, hlt3102⟩ := arr_in (sz := 8) rfl h3008 hx3098
      obtain ⟨j3157, hj3158, hx3159⟩ := idx_some h3156
      obtain ⟨cs3160, hr3161, hcs3162, hlt3163⟩ := arr_in (sz := 8) rfl h3008 hx3159
      refine D_all [4, 25] (by kernel_rfl) rfl ?_
      refine R_do (Base.Le.refl _) rfl rfl (Stable.does (st_baddr j3096 rfl rfl hj3097 hlt3102 arr76 (Nat.zero_add _))) ?_ ?_
      ·
       rintro _ _ ⟨rfl, rfl⟩
       refine ⟨.inr (.cons _ (.refl _)), ?_⟩
       obtain ⟨j3105, hj3106, hx3107⟩ := idx_some h3104
       obtain ⟨cs3108, hr3109, hcs3110, hlt3111⟩ := arr_in (sz := 1) rfl hr3100 hx3107
       have hcs3112 := fun i u hu => (Nat.add_assoc (j3096 * 8) (j3105 * 1) i) ▸ hcs3101 _ _ (hcs3110 i u hu)
       obtain rfl := hr3109
       refine E_in (.cons _ (.refl _)) ?_
       refine E_st 5 rfl (st_baddr j3105 rfl rfl hj3106 hlt3111 arr64 rfl) ?_
       refine E_out ?_
       refine D_all [6, 25] (by kernel_rfl) rfl ?_
       refine R_do (Base.Le.refl _) rfl rfl (Stable.does (st_load 0 rfl one3 rfl (hcs3112 0 _ rfl))) ?_ ?_
       ·
        rintro _ _ ⟨rfl, rfl⟩
        refine ⟨.inr (.cons _ (.refl _)), ?_⟩
        refine E_in (.cons _ (.refl _)) ?_
        refine E_st 24 rfl (st_min rfl rfl) ?_
        refine E_out ?_
        refine D_all [25] (by kernel_rfl) rfl ?_
        refine R_do (Base.Le.refl _) rfl rfl (Stable.does (st_baddr j3157 rfl rfl hj3158 hlt3163 arr76 (Nat.zero_add _))) ?_ ?_
        ·
         rintro _ _ ⟨rfl, rfl⟩
         refine ⟨.inr (.cons _ (.refl _)), ?_⟩
         obtain ⟨j3166, hj3167, hx3168⟩ := idx_some h3165
         obtain ⟨cs3169, hr3170, hcs3171, hlt3172⟩ := arr_in (sz := 1) rfl hr3161 hx3168
         have hcs3173 := fun i u hu => (Nat.add_assoc (j3157 * 8) (j3166 * 1) i) ▸ hcs3162 _ _ (hcs3171 i u hu)
         obtain rfl := hr3170
         refine E_in (.cons _ (.refl _)) ?_
         refine E_st 26 rfl (st_baddr j3166 rfl rfl hj3167 hlt3172 arr64 rfl) ?_
         refine E_out ?_
         have h3174 : (RT.arr 8 (RT.arr 8 (RT.int .i64))).rep b3004.w (cs3007.set (j3157 * 8 + j3166 * 1) (.int .i64 (min x3103 ((x3123 + x7) + x3144)))) (put l3006 (k2668 : Int) (put x3155 (k3009 : Int) (min x3103 ((x3123 + x7) + x3144)))) := arr_put (k := j3166 * 1) hj3158 h3008 hx3159 (by show j3166 * 1 < 8; omega) rfl (fun _ hd1 => arr_put (k := 0) hj3167 hd1 hx3168 (by decide) rfl int_set)
         refine D_all [27] (by kernel_rfl) rfl ?_
         refine R_do (Base.Le.refl _) rfl rfl (u_storeArr 0 rfl rfl siz3 rfl rfl h3008 (by show j3157 * 8 + j3166 * 1 < 64; omega)) ?_ ?_
         ·
          rintro _ _ rfl
          refine ⟨.inr (.cons _ (.refl _)), ?_⟩
          refine D_done (by kernel_rfl) ?_
          refine x_block_normal ?_
          refine x_then_normal ?_
          refine c_region ?_
          refine t_st rfl (st_add rfl rfl (by omega)) ?_
          refine t_st rfl (st_move rfl) ?_
          refine t_nil ?_
          obtain rfl := some1 hm
          exact x_againS (e' := [(0, .pointer (some a1598)), (1, .int .i64 (x4)), (2, .int .i64 (x5)), (3, .int .i64 (x6)), (4, .int .i64 (x7)), (12, .pointer (some ⟨g1646, 0, none⟩)), (13, .int .i64 ((k2668 : Int))), (38, .int .i64 (x4)), (39, .int .i64 ((k2668 : Int))), (42, .int .i64 (x4)), (43, .int .i64 ((k3009 : Int) + 1))]) (hp' := (g1646, Cl 76 (cs3007.set (j3157 * 8 + j3166 * 1) (.int .i64 (min x3103 ((x3123 + x7) + x3144))))) :: R) ⟨rfl, rfl, rfl, rfl, rfl, rfl, rfl, rfl, rfl, rfl, rfl, trivial⟩ (.cons_cons _ (.refl _)) ⟨cs3007.set (j3157 * 8 + j3166 * 1) (.int .i64 (min x3103 ((x3123 + x7) + x3144))), rfl, rfl, (hle3005), h3174⟩
         exact R_nil
        exact R_nil
       refine R_do (Base.Le.refl _) rfl rfl (Stable.does (st_baddr j3157 rfl rfl hj3158 hlt3163 arr76 (Nat.zero_add _))) ?_ ?_
       ·
        rintro _ _ ⟨rfl, rfl⟩
        refine ⟨.inr (.cons _ (.refl _)), ?_⟩
        refine D_all [6] (by kernel_rfl) rfl ?_
        refine R_do (Base.Le.refl _) rfl rfl (Stable.does (st_load 0 rfl one3 rfl (hcs3112 0 _ rfl))) ?_ ?_
        ·
         rintro _ _ ⟨rfl, rfl⟩
         refine ⟨.inr (.cons _ (.refl _)), ?_⟩
         refine E_in (.cons _ (.refl _)) ?_
         refine E_st 24 rfl (st_min rfl rfl) ?_
         obtain ⟨j3166, hj3167, hx3168⟩ := idx_some h3165
         obtain ⟨cs3169, hr3170, hcs3171, hlt3172⟩ := arr_in (sz := 1) rfl hr3161 hx3168
         have hcs3173 := fun i u hu => (Nat.add_assoc (j3157 * 8) (j3166 * 1) i) ▸ hcs3162 _ _ (hcs3171 i u hu)
         obtain rfl := hr3170
         refine E_st 26 rfl (st_baddr j3166 rfl rfl hj3167 hlt3172 arr64 rfl) ?_
         refine E_out ?_
         have h3174 : (RT.arr 8 (RT.arr 8 (RT.int .i64))).rep b3004.w (cs3007.set (j3157 * 8 + j3166 * 1) (.int .i64 (min x3103 ((x3123 + x7) + x3144)))) (put l3006 (k2668 : Int) (put x3155 (k3009 : Int) (min x3103 ((x3123 + x7) + x3144)))) := arr_put (k := j3166 * 1) hj3158 h3008 hx3159 (by show j3166 * 1 < 8; omega) rfl (fun _ hd1 => arr_put (k := 0) hj3167 hd1 hx3168 (by decide) rfl int_set)
         refine D_all [27] (by kernel_rfl) rfl ?_
         refine R_do (Base.Le.refl _) rfl rfl (u_storeArr 0 rfl rfl siz3 rfl rfl h3008 (by show j3157 * 8 + j3166 * 1 < 64; omega)) ?_ ?_
         ·
          rintro _ _ rfl
          refine ⟨.inr (.cons _ (.refl _)), ?_⟩
          refine D_done (by kernel_rfl) ?_
          refine x_block_normal ?_
          refine x_then_normal ?_
          refine c_region ?_
          refine t_st rfl (st_add rfl rfl (by omega)) ?_
          refine t_st rfl (st_move rfl) ?_
          refine t_nil ?_
          obtain rfl := some1 hm
          exact x_againS (e' := [(0, .pointer (some a1598)), (1, .int .i64 (x4)), (2, .int .i64 (x5)), (3, .int .i64 (x6)), (4, .int .i64 (x7)), (12, .pointer (some ⟨g1646, 0, none⟩)), (13, .int .i64 ((k2668 : Int))), (38, .int .i64 (x4)), (39, .int .i64 ((k2668 : Int))), (42, .int .i64 (x4)), (43, .int .i64 ((k3009 : Int) + 1))]) (hp' := (g1646, Cl 76 (cs3007.set (j3157 * 8 + j3166 * 1) (.int .i64 (min x3103 ((x3123 + x7) + x3144))))) :: R) ⟨rfl, rfl, rfl, rfl, rfl, rfl, rfl, rfl, rfl, rfl, rfl, trivial⟩ (.cons_cons _ (.refl _)) ⟨cs3007.set (j3157 * 8 + j3166 * 1) (.int .i64 (min x3103 ((x3123 + x7) + x3144))), rfl, rfl, (hle3005), h3174⟩
         exact R_nil
        exact R_nil
       exact R_nil
      refine R_do (Base.Le.refl _) rfl rfl (Stable.does (st_baddr j3157 rfl rfl hj3158 hlt3163 arr76 (Nat.zero_add _))) ?_ ?_
      ·
       rintro _ _ ⟨rfl, rfl⟩
       refine ⟨.inr (.cons _ (.refl _)), ?_⟩
       refine D_all [4] (by kernel_rfl) rfl ?_
       refine R_do (Base.Le.refl _) rfl rfl (Stable.does (st_baddr j3096 rfl rfl hj3097 hlt3102 arr76 (Nat.zero_add _))) ?_ ?_
       ·
        rintro _ _ ⟨rfl, rfl⟩
        refine ⟨.inr (.cons _ (.refl _)), ?_⟩
        obtain ⟨j3105, hj3106, hx3107⟩ := idx_some h3104
        obtain ⟨cs3108, hr3109, hcs3110, hlt3111⟩ := arr_in (sz := 1) rfl hr3100 hx3107
        have hcs3112 := fun i u hu => (Nat.add_assoc (j3096 * 8) (j3105 * 1) i) ▸ hcs3101 _ _ (hcs3110 i u hu)
        obtain rfl := hr3109
        refine E_in (.cons _ (.refl _)) ?_
        refine E_st 5 rfl (st_baddr j3105 rfl rfl hj3106 hlt3111 arr64 rfl) ?_
        refine E_out ?_
        refine D_all [6] (by kernel_rfl) rfl ?_
        refine R_do (Base.Le.refl _) rfl rfl (Stable.does (st_load 0 rfl one3 rfl (hcs3112 0 _ rfl))) ?_ ?_
        ·
         rintro _ _ ⟨rfl, rfl⟩
         refine ⟨.inr (.cons _ (.refl _)), ?_⟩
         refine E_in (.cons _ (.refl _)) ?_
         refine E_st 24 rfl (st_min rfl rfl) ?_
         obtain ⟨j3166, hj3167, hx3168⟩ := idx_some h3165
         obtain ⟨cs3169, hr3170, hcs3171, hlt3172⟩ := arr_in (sz := 1) rfl hr3161 hx3168
         have hcs3173 := fun i u hu => (Nat.add_assoc (j3157 * 8) (j3166 * 1) i) ▸ hcs3162 _ _ (hcs3171 i u hu)
         obtain rfl := hr3170
         refine E_st 26 rfl (st_baddr j3166 rfl rfl hj3167 hlt3172 arr64 rfl) ?_
         refine E_out ?_
         have h3174 : (RT.arr 8 (RT.arr 8 (RT.int .i64))).rep b3004.w (cs3007.set (j3157 * 8 + j3166 * 1) (.int .i64 (min x3103 ((x3123 + x7) + x3144)))) (put l3006 (k2668 : Int) (put x3155 (k3009 : Int) (min x3103 ((x3123 + x7) + x3144)))) := arr_put (k := j3166 * 1) hj3158 h3008 hx3159 (by show j3166 * 1 < 8; omega) rfl (fun _ hd1 => arr_put (k := 0) hj3167 hd1 hx3168 (by decide) rfl int_set)
         refine D_all [27] (by kernel_rfl) rfl ?_
         refine R_do (Base.Le.refl _) rfl rfl (u_storeArr 0 rfl rfl siz3 rfl rfl h3008 (by show j3157 * 8 + j3166 * 1 < 64; omega)) ?_ ?_
         ·
          rintro _ _ rfl
          refine ⟨.inr (.cons _ (.refl _)), ?_⟩
          refine D_done (by kernel_rfl) ?_
          refine x_block_normal ?_
          refine x_then_normal ?_
          refine c_region ?_
          refine t_st rfl (st_add rfl rfl (by omega)) ?_
          refine t_st rfl (st_move rfl) ?_
          refine t_nil ?_
          obtain rfl := some1 hm
          exact x_againS (e' := [(0, .pointer (some a1598)), (1, .int .i64 (x4)), (2, .int .i64 (x5)), (3, .int .i64 (x6)), (4, .int .i64 (x7)), (12, .pointer (some ⟨g1646, 0, none⟩)), (13, .int .i64 ((k2668 : Int))), (38, .int .i64 (x4)), (39, .int .i64 ((k2668 : Int))), (42, .int .i64 (x4)), (43, .int .i64 ((k3009 : Int) + 1))]) (hp' := (g1646, Cl 76 (cs3007.set (j3157 * 8 + j3166 * 1) (.int .i64 (min x3103 ((x3123 + x7) + x3144))))) :: R) ⟨rfl, rfl, rfl, rfl, rfl, rfl, rfl, rfl, rfl, rfl, rfl, trivial⟩ (.cons_cons _ (.refl _)) ⟨cs3007.set (j3157 * 8 + j3166 * 1) (.int .i64 (min x3103 ((x3123 + x7) + x3144))), rfl, rfl, (hle3005), h3174⟩
         exact R_nil
        exact R_nil
       exact R_nil
      exact R_nil
     ·
      rintro b3004 _ _ ⟨cs3007, rfl, rfl, hle3005, h3008⟩
      have hm := hk3011
      refine c_seq ?_
      refine c_region ?_
      refine t_st rfl (st_lss_f rfl rfl (by omega)) ?_
      refine t_nil ?_
      refine x_then_normal ?_
      refine c_seq ?_
      refine c_cond_f rfl ?_
      refine c_exit ?_
      refine x_then_exit ?_
      refine x_then_exit ?_
      refine x_block_out ?_
      refine x_block_normal ?_
      refine x_then_normal ?_
      refine c_region ?_
      refine t_st rfl (st_add rfl rfl (by omega)) ?_
      refine t_st rfl (st_move rfl) ?_
      refine t_nil ?_
      obtain rfl := some1 hm
      exact x_againS (e' := [(0, .pointer (some a1598)), (1, .int .i64 (x4)), (2, .int .i64 (x5)), (3, .int .i64 (x6)), (4, .int .i64 (x7)), (12, .pointer (some ⟨g1646, 0, none⟩)), (38, .int .i64 (x4)), (39, .int .i64 ((k2668 : Int) + 1))]) (hp' := (g1646, Cl 76 cs3007) :: R) ⟨rfl, rfl, rfl, rfl, rfl, rfl, rfl, rfl, trivial⟩ (.cons_cons _ (.refl _)) ⟨cs3007, rfl, rfl, ((hle2664.trans hle3005)), h3008⟩
    ·
     rintro b2663 _ _ ⟨cs2666, rfl, rfl, hle2664, h2667⟩
     have hm := hk2670
     refine c_seq ?_
     refine c_region ?_
     refine t_st rfl (st_lss_f rfl rfl (by omega)) ?_
     refine t_nil ?_
     refine x_then_normal ?_
     refine c_seq ?_
     refine c_cond_f rfl ?_
     refine c_exit ?_
     refine x_then_exit ?_
     refine x_then_exit ?_
     refine x_block_out ?_
     refine x_then_normal ?_
     refine c_seq ?_
     refine c_region ?_
     refine t_st rfl (st_assign rfl) ?_
     refine t_st rfl (st_assign rfl) ?_
     refine t_nil ?_
     refine x_then_normal ?_
     refine c_ret ?_
     refine x_frzb 0 rfl ?_
     intro b3176 hle3177 hz3178
     have hat3179 := at_fz hz3178
     obtain ⟨rfl, rfl⟩ := some2 hm
     exact retM (rs := [.tmp 10, .tmp 11]) [.pointer (some (⟨g1646, 0, none⟩)), .bool (true)] (hle2664.trans hle3177) (by decide) rfl ⟨rfl, ⟨rfl, trivial⟩⟩ rfl (hp' := R) (.refl _) ⟨(.pointer (some (⟨g1646, 0, none⟩))), rfl, rfl, ⟨_, cs2666, rfl, (RT.le (RT.arr 8 (RT.arr 8 (RT.int .i64))) h2667 hle3177), hat3179⟩⟩

set_option maxRecDepth 20000 in
theorem cPlanBoundsBetween (b : Base) (R : Hp) (q1 : (Option (List (List Int)))) (x4 : Int) (x5 : Int) (x6 : Int) (x7 : Int) (x8 : Int) (v2 : Value) (h3 : (RT.ptr (RT.arr 8 (RT.arr 8 (RT.int .i64)))).rep b.w [v2] q1) (q25 : (Option (List (List Int)))) (x28 : Bool) (hm : mPlanBoundsBetween q1 x4 x5 x6 x7 x8 = some (q25, x28)) :
    CallsG Try.prog 45 [v2, .int .i64 (x4), .int .i64 (x5), .int .i64 (x6), .int .i64 (x7), .int .i64 (x8)] b (R) (fun v b' hp' => ∃ (v26 : Value), .tuple #[v26, .bool (x28)] = v ∧ R = hp' ∧ (RT.ptr (RT.arr 8 (RT.arr 8 (RT.int .i64)))).rep b'.w [v26] q25) := by
  refine fn_enterG 36 Try.func45 rfl Try.ntmps45 rfl ?_
  unfold mPlanBoundsBetween at hm
  refine c_seq ?_
  refine c_region ?_
  refine t_st rfl (st_assign rfl) ?_
  refine t_st rfl (st_assign rfl) ?_
  refine t_nil ?_
  refine x_then_normal ?_
  refine c_seq ?_
  refine c_region ?_
  refine t_st rfl (st_move rfl) ?_
  refine t_st rfl (st_move rfl) ?_
  refine t_st rfl (st_move rfl) ?_
  refine t_st rfl (st_move rfl) ?_
  refine t_st rfl (st_move rfl) ?_
  obtain ⟨⟨q29, x30⟩, hcl31, hm⟩ := bindS hm
  have hm := (unc2E hm)
  refine t_callG _ rfl call53 rfl (cPlanBoundsClosed _ _ q1 x4 x5 x6 x8 v2 h3 q29 x30 hcl31) ?_
  rintro _ b32 _ hle33 ⟨v34, rfl, rfl, h35⟩
  refine t_st rfl (st_move rfl) ?_
  refine t_st rfl (st_extract rfl rfl) ?_
  refine t_st rfl (st_extract rfl rfl) ?_
  refine t_st rfl (st_assign rfl) ?_
  refine t_st rfl (st_assign rfl) ?_
  refine t_nil ?_
  refine x_then_normal ?_
  refine c_seq ?_
  refine c_seq ?_
  refine c_region ?_
  refine t_st rfl (st_move rfl) ?_
  refine t_st rfl (st_not rfl) ?_
  refine t_nil ?_
  refine x_then_normal ?_
  refine c_cond _ rfl (fun hc36 => ?_) (fun hc36 => ?_)
  ·
   rw [if_neg (fun hh => Bool.noConfusion (hh.symm.trans (notT hc36)))] at hm
   refine c_seq ?_
   refine c_region ?_
   refine t_st rfl (st_assign rfl) ?_
   refine t_st rfl (st_assign rfl) ?_
   refine t_nil ?_
   refine x_then_normal ?_
   refine c_ret ?_
   refine x_then_ret ?_
   obtain ⟨rfl, rfl⟩ := some2 hm
   exact retM (rs := [.tmp 12, .tmp 13]) [.pointer none, .bool (false)] hle33 (by decide) rfl ⟨rfl, ⟨rfl, trivial⟩⟩ rfl (hp' := R) (.refl _) ⟨(.pointer none), rfl, rfl, rfl⟩
  ·
   rw [if_pos (notF hc36)] at hm
   refine c_skip ?_
   refine x_then_normal ?_
   refine c_seq ?_
   refine c_region ?_
   refine t_st rfl (st_move rfl) ?_
   refine t_st rfl (st_move rfl) ?_
   refine t_st rfl (st_move rfl) ?_
   refine t_st rfl (st_move rfl) ?_
   refine t_st rfl (st_move rfl) ?_
   obtain ⟨_, h37, hm⟩ := bindS hm
   have h37 := (chk_some h37).2
   refine t_st rfl (st_negc rfl h37) ?_
   obtain ⟨⟨q38, x39⟩, hcl40, hm⟩ := bindS hm
   have hm := (unc2E hm)
   refine t_callG _ rfl call53 rfl (cPlanBoundsClosed _ _ q29 x4 x6 x5 (-x7) v34 h35 q38 x39 hcl40) ?_
   rintro _ b41 _ hle42 ⟨v43, rfl, rfl, h44⟩
   refine t_st rfl (st_extract rfl rfl) ?_
   refine t_st rfl (st_extract rfl rfl) ?_
   refine t_st rfl (st_assign rfl) ?_
   refine t_st rfl (st_assign rfl) ?_
   refine t_nil ?_
   refine x_then_normal ?_
   refine c_ret ?_
   obtain ⟨rfl, rfl⟩ := some2 hm
   exact retM (rs := [.tmp 12, .tmp 13]) [v43, .bool (x39)] (hle33.trans hle42) (by decide) rfl ⟨rfl, ⟨rfl, trivial⟩⟩ rfl (hp' := R) (.refl _) ⟨v43, rfl, rfl, h44⟩

end Go.Proofs.Ytdphlkddelnaiaa
