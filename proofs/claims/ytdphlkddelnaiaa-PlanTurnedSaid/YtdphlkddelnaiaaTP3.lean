/- Contracts: the code computes its model (part 3). -/
import Derived.Test.YtdphlkddelnaiaaTP2
set_option linter.unusedVariables false
set_option linter.unusedSimpArgs false
namespace Go.Proofs.Ytdphlkddelnaiaa
open Go.RowKit Go.Fp

set_option maxRecDepth 20000 in
theorem cFishkeep2PlanTurned (b : Base) (R : Hp) (s1 : PlanPeriodic) (A2 : Option Addr) (c3 : Nat) (h4 : FZ rPlanRule b.w A2 c3 s1.Rules) (x361 : Bool) (hm : mFishkeep2PlanTurned s1 = some x361) :
    CallsG Try.prog 3 [.agg #[.int .i64 (s1.Period), .int .i64 (s1.Events), .slice A2 (s1.Rules).length c3]] b (R) (fun v b' hp' => .bool (x361) = v ∧ R = hp') := by
  refine fn_enterG 89 Try.func3 rfl Try.ntmps3 rfl ?_
  unfold mFishkeep2PlanTurned at hm
  refine c_seq ?_
  refine c_region ?_
  refine t_do rfl (u_box _ rfl rfl) ?_
  rintro _ _ ⟨g362, rfl, rfl⟩
  refine t_st rfl (st_assign rfl) ?_
  refine t_nil ?_
  refine x_then_normal ?_
  refine c_seq ?_
  refine c_seq ?_
  refine c_region ?_
  obtain ⟨x363, hcl364, hm⟩ := bindS hm
  refine t_do rfl (u_callW0 _ call6 rfl (fun w ho => cFishkeep2AwakePlan _ [] x363 hcl364) (fun _ _ _ h => h.2.symm)) ?_
  rintro _ _ ⟨⟨_, rfl, _⟩, rfl⟩
  refine t_st rfl (st_not rfl) ?_
  refine t_nil ?_
  refine x_then_normal ?_
  refine c_cond _ rfl (fun hc365 => ?_) (fun hc365 => ?_)
  ·
   rw [if_neg (fun hh => Bool.noConfusion (hh.symm.trans (notT hc365)))] at hm
   refine c_seq ?_
   refine c_region ?_
   refine t_st rfl (st_assign rfl) ?_
   refine t_nil ?_
   refine x_then_normal ?_
   refine c_ret ?_
   refine x_then_ret ?_
   obtain rfl := some1 hm
   exact retM (rs := [.tmp 2]) [.bool (false)] (Base.Le.refl _) (by decide) rfl ⟨rfl, trivial⟩ rfl (hp' := R) (.cons _ (.refl _)) ⟨rfl, rfl⟩
  ·
   rw [if_pos (notF hc365)] at hm
   refine c_skip ?_
   refine x_then_normal ?_
   refine c_seq ?_
   refine c_seq ?_
   refine c_region ?_
   obtain ⟨x366, hcl367, hm⟩ := bindS hm
   refine t_do rfl (u_callW0 _ call7 rfl (fun w ho => cFishkeep2Periods _ [] x366 hcl367) (fun _ _ _ h => h.2.symm)) ?_
   rintro _ _ ⟨⟨_, rfl, _⟩, rfl⟩
   refine t_st rfl (st_not rfl) ?_
   refine t_nil ?_
   refine x_then_normal ?_
   refine c_cond _ rfl (fun hc368 => ?_) (fun hc368 => ?_)
   ·
    rw [if_neg (fun hh => Bool.noConfusion (hh.symm.trans (notT hc368)))] at hm
    refine c_seq ?_
    refine c_region ?_
    refine t_st rfl (st_assign rfl) ?_
    refine t_nil ?_
    refine x_then_normal ?_
    refine c_ret ?_
    refine x_then_ret ?_
    obtain rfl := some1 hm
    exact retM (rs := [.tmp 2]) [.bool (false)] (Base.Le.refl _) (by decide) rfl ⟨rfl, trivial⟩ rfl (hp' := R) (.cons _ (.refl _)) ⟨rfl, rfl⟩
   ·
    rw [if_pos (notF hc368)] at hm
    refine c_skip ?_
    refine x_then_normal ?_
    refine c_seq ?_
    refine c_seq ?_
    refine c_region ?_
    refine t_st rfl (st_loadD (vs := [_, _, _]) 0 3 rfl agg24 rfl rfl rfl) ?_
    obtain ⟨x369, hcl370, hm⟩ := bindS hm
    refine t_do rfl (u_callW0 _ call8 rfl (fun w ho => cFishref2PeriodicFault _ [] s1 A2 c3 (h4.old ho) x369 hcl370) (fun _ _ _ h => h.2.symm)) ?_
    rintro _ _ ⟨⟨_, rfl, _⟩, rfl⟩
    refine t_st rfl (st_neq rfl rfl) ?_
    refine t_nil ?_
    refine x_then_normal ?_
    refine c_cond _ rfl (fun hc371 => ?_) (fun hc371 => ?_)
    ·
     rw [if_pos (of_decide_eq_true hc371)] at hm
     refine c_seq ?_
     refine c_region ?_
     refine t_st rfl (st_assign rfl) ?_
     refine t_nil ?_
     refine x_then_normal ?_
     refine c_ret ?_
     refine x_then_ret ?_
     obtain rfl := some1 hm
     exact retM (rs := [.tmp 2]) [.bool (true)] (Base.Le.refl _) (by decide) rfl ⟨rfl, trivial⟩ rfl (hp' := R) (.cons _ (.refl _)) ⟨rfl, rfl⟩
    ·
     rw [if_neg (of_decide_eq_false hc371)] at hm
     refine c_skip ?_
     refine x_then_normal ?_
     refine c_seq ?_
     refine c_region ?_
     refine t_st rfl (st_field rfl fld24_0) ?_
     refine t_st rfl (st_load 0 rfl one3 rfl rfl) ?_
     refine t_st rfl (st_field rfl fld24_1) ?_
     refine t_st rfl (st_load 0 rfl one3 rfl rfl) ?_
     refine t_st rfl (st_build (v := .agg #[.int .i64 (s1.Period), .int .i64 (s1.Events), .slice none 0 0]) [(0, .int .i64 (s1.Period)), (1, .int .i64 (s1.Events))] rfl (fun _ => by kernel_rfl)) ?_
     refine t_do rfl (u_alloc [.int .i64 0, .int .i64 0, .slice none 0 0] zero24 rfl) ?_
     rintro _ _ ⟨g372, rfl, rfl⟩
     refine t_do rfl (u_storeN (vs := [_, _, _]) 0 3 rfl rfl rfl siz24 rfl (by intro u hu; simp only [List.mem_cons, List.not_mem_nil, or_false] at hu; rcases hu with rfl | rfl | rfl <;> rfl) rfl (by simp)) ?_
     rintro _ _ rfl
     refine t_nil ?_
     refine x_then_normal ?_
     refine c_seq ?_
     refine c_seq ?_
     refine c_region ?_
     refine t_st rfl (st_field rfl fld24_2) ?_
     refine t_st rfl (st_load 1 rfl one22 rfl rfl) ?_
     refine t_st rfl (st_len rfl sl22) ?_
     refine t_st rfl (st_move rfl) ?_
     refine t_nil ?_
     refine x_then_normal ?_
     refine c_block ?_
     have hb374 : s1.Rules.length ≤ 9223372036854775807 := (FZ.bd h4)
     refine c_pullb 1 rfl ?_
     obtain ⟨l423, hl425, hk426⟩ := bindS hm
     refine c_forS (fun k424 => fun l423 => fun b416 e' hp' => ∃ (A420 : Option Addr), ∃ (c421 : Nat), ∃ (hs419 : Hp), [(1, .pointer (some ⟨g362, 0, none⟩)), (3, .pointer (some ⟨g372, 0, none⟩)), (24, .slice A2 (s1.Rules).length c3), (25, .int .i64 ((s1.Rules.length : Int))), (26, .int .i64 ((k424 : Int)))] = e' ∧ (g362, Cl 24 [.int .i64 (s1.Period), .int .i64 (s1.Events), .slice A2 (s1.Rules).length c3]) :: (g372, Cl 24 [.int .i64 (s1.Period), .int .i64 (s1.Events), .slice A420 (l423).length c421]) :: (hs419 ++ R) = hp' ∧ b.Le b416 ∧ OS 29 (OT.fr rPlanRule) b416.w (.slice A420 l423.length c421) l423 hs419) hl425 (e' := [(1, .pointer (some ⟨g362, 0, none⟩)), (3, .pointer (some ⟨g372, 0, none⟩)), (24, .slice A2 (s1.Rules).length c3), (25, .int .i64 ((s1.Rules.length : Int))), (26, .int .i64 0)]) (hp' := (g362, Cl 24 [.int .i64 (s1.Period), .int .i64 (s1.Events), .slice A2 (s1.Rules).length c3]) :: (g372, Cl 24 [.int .i64 (s1.Period), .int .i64 (s1.Events), .slice none 0 0]) :: ([] ++ R)) ⟨rfl, rfl, rfl, rfl, rfl, trivial⟩ (.cons_cons _ (.cons_cons _ (.refl _))) ⟨none, 0, [], rfl, rfl, (Base.Le.refl _), OS.nil⟩ ?_ ?_
     ·
      rintro k424 l423 b416 _ _ oL373 hknL373 ⟨A420, c421, hs419, rfl, rfl, hle417, h422⟩ hstepL373
      unfold mFishkeep2PlanTurned_L373 at hstepL373
      have hm := hstepL373
      refine c_seq ?_
      refine c_region ?_
      refine t_st rfl (st_lss_t rfl rfl (by omega)) ?_
      refine t_nil ?_
      refine x_then_normal ?_
      refine c_seq ?_
      refine c_cond_t rfl ?_
      refine c_skip ?_
      refine x_then_normal ?_
      refine c_seq ?_
      refine c_block ?_
      refine c_seq ?_
      refine c_region ?_
      obtain ⟨x427, h428, hm⟩ := bindS hm
      obtain ⟨j429, hj430, hx431⟩ := idx_some h428
      obtain ⟨cs432, hr433, hcs434, hA435, hlt436⟩ := FZ.get (sz := 5) rfl (by decide) (h4.le hle417) hx431
      obtain ⟨_, _, rfl, rfl, ⟨_, _, rfl, rfl, ⟨_, _, rfl, rfl, ⟨_, _, rfl, rfl, rfl⟩⟩⟩⟩ := hr433
      refine t_st rfl (st_index_old j429 rfl rfl hj430 hlt436 hA435 sl22) ?_
      refine t_st rfl (st_loadN_old (vs := [.int .i64 (x427.From), .int .i64 (x427.To), .int .i64 (x427.Min), .int .i64 (x427.Max), .int .i64 (x427.Weight)]) 5 rfl agg29 hA435 rfl (fun j u hu => hcs434 j u hu)) ?_
      refine t_do rfl (u_alloc [.int .i64 0, .int .i64 0, .int .i64 0, .int .i64 0, .int .i64 0] zero29 rfl) ?_
      rintro _ _ ⟨g437, rfl, rfl⟩
      refine t_do rfl (u_storeN (vs := [_, _, _, _, _]) 0 5 rfl rfl rfl siz29 rfl (by intro u hu; simp only [List.mem_cons, List.not_mem_nil, or_false] at hu; rcases hu with rfl | rfl | rfl | rfl | rfl <;> rfl) rfl (by simp)) ?_
      rintro _ _ rfl
      refine t_nil ?_
      refine x_then_normal ?_
      refine c_seq ?_
      refine c_region ?_
      refine t_st rfl (st_field rfl fld29_1) ?_
      refine t_st rfl (st_load 0 rfl one3 rfl rfl) ?_
      refine t_st rfl (st_field rfl fld29_0) ?_
      refine t_st rfl (st_load 0 rfl one3 rfl rfl) ?_
      refine t_st rfl (st_field rfl fld29_0) ?_
      refine t_do rfl (u_store 0 rfl rfl siz3 rfl rfl (by simp)) ?_
      rintro _ _ rfl
      refine t_st rfl (st_field rfl fld29_1) ?_
      refine t_do rfl (u_store 0 rfl rfl siz3 rfl rfl (by simp)) ?_
      rintro _ _ rfl
      refine t_nil ?_
      refine x_then_normal ?_
      refine c_region ?_
      refine t_st rfl (st_field rfl fld24_2) ?_
      refine t_st rfl (st_load 2 rfl one22 rfl rfl) ?_
      refine t_st rfl (st_loadD (vs := [_, _, _, _, _]) 0 5 rfl agg29 rfl rfl rfl) ?_
      refine t_do rfl (u_bslice (el := 29) [(0, .agg #[.int .i64 (x427.To), .int .i64 (x427.From), .int .i64 (x427.Min), .int .i64 (x427.Max), .int .i64 (x427.Weight)])] [.int .i64 (x427.To), .int .i64 (x427.From), .int .i64 (x427.Min), .int .i64 (x427.Max), .int .i64 (x427.Weight)] rfl (fun _ => by kernel_rfl)) ?_
      rintro _ _ ⟨g438, rfl, rfl⟩
      obtain ⟨_, h439, hm⟩ := bindS hm
      have h439 := room_some h439
      refine t_do rfl (u_appOS (r := rPlanRule) (l := l423) [_, _, _, _] R [[.int .i64 (x427.To), .int .i64 (x427.From), .int .i64 (x427.Min), .int .i64 (x427.Max), .int .i64 (x427.Weight)]] [(⟨x427.To, x427.From, x427.Min, x427.Max, x427.Weight⟩ : PlanRule)] rfl (by decide) sl22 inf29 rfl rfl rfl rfl h422 rfl (fun w ho => Rd.own (i := 0) ho rfl) ⟨⟨[.int .i64 (x427.To)], _, rfl, rfl, ⟨[.int .i64 (x427.From)], _, rfl, rfl, ⟨[.int .i64 (x427.Min)], _, rfl, rfl, ⟨[.int .i64 (x427.Max)], _, rfl, rfl, rfl⟩⟩⟩⟩, trivial⟩ h439) ?_
      rintro _ _ ⟨hs440, rfl, h441⟩
      obtain ⟨A442, c443, rfl, _⟩ := h441.form
      refine t_st rfl (st_field rfl fld24_2) ?_
      refine t_do rfl (u_store 3 rfl rfl siz22 rfl rfl (by simp)) ?_
      rintro _ _ rfl
      refine t_nil ?_
      refine x_block_normal ?_
      refine x_then_normal ?_
      refine c_region ?_
      refine t_st rfl (st_add rfl rfl (by omega)) ?_
      refine t_st rfl (st_move rfl) ?_
      refine t_nil ?_
      refine x_pullb 3 rfl ?_
      refine x_pullb 3 rfl ?_
      obtain rfl := some1 hm
      exact x_againS (e' := [(1, .pointer (some ⟨g362, 0, none⟩)), (3, .pointer (some ⟨g372, 0, none⟩)), (24, .slice A2 (s1.Rules).length c3), (25, .int .i64 ((s1.Rules.length : Int))), (26, .int .i64 ((k424 : Int) + 1))]) (hp' := (g362, Cl 24 [.int .i64 (s1.Period), .int .i64 (s1.Events), .slice A2 (s1.Rules).length c3]) :: (g372, Cl 24 [.int .i64 (s1.Period), .int .i64 (s1.Events), .slice A442 (l423 ++ [(⟨x427.To, x427.From, x427.Min, x427.Max, x427.Weight⟩ : PlanRule)]).length c443]) :: (hs440 ++ R)) ⟨rfl, rfl, rfl, rfl, rfl, trivial⟩ (.cons_cons _ (.cons_cons _ (.cons _ (.cons _ (sub_app hs440 (.refl _)))))) ⟨A442, c443, hs440, rfl, rfl, (hle417), h441⟩
     ·
      rintro b416 _ _ ⟨A420, c421, hs419, rfl, rfl, hle417, h422⟩
      have hm := hk426
      refine c_seq ?_
      refine c_region ?_
      refine t_st rfl (st_lss_f rfl rfl (by omega)) ?_
      refine t_nil ?_
      refine x_then_normal ?_
      refine c_seq ?_
      refine c_cond_f rfl ?_
      refine c_exit ?_
      refine x_then_exit ?_
      refine x_then_exit ?_
      refine x_block_out ?_
      refine x_then_normal ?_
      refine c_seq ?_
      refine c_region ?_
      refine t_st rfl (st_loadD (vs := [_, _, _]) 0 3 rfl agg24 rfl rfl rfl) ?_
      obtain ⟨⟨x444, l445⟩, hcl446, hm⟩ := bindS hm
      have hm := (unc2E hm)
      refine t_callG _ rfl call9 rfl (cPlanSolve _ _ s1 A2 c3 (h4.le hle417) x444 l445 hcl446) ?_
      rintro _ b447 _ hle448 ⟨A449, c450, hs451, rfl, rfl, h452, h453⟩
      refine t_in1 [] [_, _] hs451 (hs419 ++ R) rfl ?_
      refine t_st rfl (st_move rfl) ?_
      refine t_st rfl (st_extract rfl rfl) ?_
      refine t_st rfl (st_extract rfl rfl) ?_
      refine t_st rfl (st_assign rfl) ?_
      refine t_st rfl (st_assign rfl) ?_
      refine t_nil ?_
      refine x_then_normal ?_
      refine c_seq ?_
      refine c_region ?_
      refine t_st rfl (st_loadD (vs := [_, _, _]) 1 3 rfl agg24 rfl rfl rfl) ?_
      obtain ⟨⟨x454, l455⟩, hcl456, hm⟩ := bindS hm
      have hm := (unc2E hm)
      refine t_do rfl (u_callWF [_, _] (hs451 ++ (hs419 ++ R)) _ rfl call9 rfl (fun w ho => cPlanSolve _ [] (⟨s1.Period, s1.Events, l423⟩ : PlanPeriodic) A420 c421 (OS.now (o := (OT.fr rPlanRule)) (l := l423) (hs := hs419) (h422.le hle448) ho (.cons _ (.cons _ (sub_skip hs451 (List.sublist_append_left _ _))))) x454 l455 hcl456)) ?_
      rintro _ _ ⟨_, _, rfl, A457, c458, hs459, rfl, hq462, h460, hnz463⟩
      obtain rfl := List.append_cancel_right hq462
      have h461 := flat_fz (w' := b447.w) (fun _ _ _ _ h => h) h460
      refine t_st rfl (st_move rfl) ?_
      refine t_st rfl (st_extract rfl rfl) ?_
      refine t_st rfl (st_extract rfl rfl) ?_
      refine t_st rfl (st_assign rfl) ?_
      refine t_st rfl (st_assign rfl) ?_
      refine t_nil ?_
      refine x_then_normal ?_
      refine c_seq ?_
      refine c_seq ?_
      refine c_region ?_
      refine t_st rfl (st_move rfl) ?_
      refine t_st rfl (st_move rfl) ?_
      refine t_st rfl (st_neq rfl rfl) ?_
      refine t_nil ?_
      refine x_then_normal ?_
      refine c_cond _ rfl (fun hc464 => ?_) (fun hc464 => ?_)
      ·
       rw [if_pos (of_decide_eq_true hc464)] at hm
       refine c_seq ?_
       refine c_region ?_
       refine t_st rfl (st_assign rfl) ?_
       refine t_nil ?_
       refine x_then_normal ?_
       refine c_ret ?_
       refine x_then_ret ?_
       obtain rfl := some1 hm
       exact retM (rs := [.tmp 2]) [.bool (false)] (hle417.trans hle448) (by decide) rfl ⟨rfl, trivial⟩ rfl (hp' := R) (.cons _ (.cons _ (sub_skip hs459 (sub_skip hs451 (sub_skip hs419 (.refl _)))))) ⟨rfl, rfl⟩
      ·
       rw [if_neg (of_decide_eq_false hc464)] at hm
       refine c_skip ?_
       refine x_then_normal ?_
       refine c_seq ?_
       refine c_seq ?_
       refine c_region ?_
       refine t_st rfl (st_move rfl) ?_
       refine t_st rfl (st_len rfl sl30) ?_
       refine t_st rfl (st_move rfl) ?_
       refine t_nil ?_
       refine x_then_normal ?_
       refine c_block ?_
       have hb466 : l445.length ≤ 9223372036854775807 := (OS.len h452)
       refine c_pullb 1 rfl ?_
       refine c_pullb 1 rfl ?_
       refine c_front3 [_, _] hs459 hs451 hs419 R rfl ?_
       refine c_front3 [_, _] hs419 hs459 hs451 R rfl ?_
       obtain ⟨l625, hl628, hk629⟩ := bindS hm
       refine c_forS (fun k627 => fun l625 => fun b618 e' hp' => ∃ (A622 : Option Addr), ∃ (c623 : Nat), ∃ (hs621 : Hp), [(1, .pointer (some ⟨g362, 0, none⟩)), (3, .pointer (some ⟨g372, 0, none⟩)), (6, .slice A622 (l625).length c623), (7, .int .i64 (x444)), (57, .int .i64 ((l445.length : Int))), (58, .int .i64 ((k627 : Int)))] = e' ∧ (g362, Cl 24 [.int .i64 (s1.Period), .int .i64 (s1.Events), .slice A2 (s1.Rules).length c3]) :: (g372, Cl 24 [.int .i64 (s1.Period), .int .i64 (s1.Events), .slice A420 (l423).length c421]) :: (hs621 ++ (hs419 ++ R)) = hp' ∧ b447.Le b618 ∧ OS 3 (OT.fr (RT.int .i64)) b618.w (.slice A622 l625.length c623) l625 hs621 ∧ (A622 = none ↔ l625 = [])) hl628 (e' := [(1, .pointer (some ⟨g362, 0, none⟩)), (3, .pointer (some ⟨g372, 0, none⟩)), (6, .slice A449 (l445).length c450), (7, .int .i64 (x444)), (57, .int .i64 ((l445.length : Int))), (58, .int .i64 0)]) (hp' := (g362, Cl 24 [.int .i64 (s1.Period), .int .i64 (s1.Events), .slice A2 (s1.Rules).length c3]) :: (g372, Cl 24 [.int .i64 (s1.Period), .int .i64 (s1.Events), .slice A420 (l423).length c421]) :: (hs451 ++ (hs419 ++ R))) ⟨rfl, rfl, rfl, rfl, rfl, rfl, trivial⟩ (.cons_cons _ (.cons_cons _ (sub_app hs451 (sub_app hs419 (sub_skip hs459 (.refl _)))))) ⟨A449, c450, hs451, rfl, rfl, (Base.Le.refl _), h452, h453⟩ ?_ ?_
       ·
        rintro k627 l625 b618 _ _ oL465 hknL465 ⟨A622, c623, hs621, rfl, rfl, hle619, h624, hnz626⟩ hstepL465
        unfold mFishkeep2PlanTurned_L465 at hstepL465
        have hm := hstepL465
        refine c_seq ?_
        refine c_region ?_
        refine t_st rfl (st_lss_t rfl rfl (by omega)) ?_
        refine t_nil ?_
        refine x_then_normal ?_
        refine c_seq ?_
        refine c_cond_t rfl ?_
        refine c_skip ?_
        refine x_then_normal ?_
        refine c_seq ?_
        refine c_block ?_
        refine c_seq ?_
        refine c_region ?_
        refine t_st rfl (st_move rfl) ?_
        refine t_st rfl (st_assign rfl) ?_
        refine t_nil ?_
        refine x_then_normal ?_
        obtain ⟨x666, h667, hm⟩ := bindS hm
        obtain ⟨_, h682, hm⟩ := bindS hm
        obtain ⟨_, h683, hm⟩ := bindS hm
        obtain ⟨x684, h685, hm⟩ := bindS hm
        refine D_drawS ((g362, Cl 24 [.int .i64 (s1.Period), .int .i64 (s1.Events), .slice A2 (s1.Rules).length c3]) :: (g372, Cl 24 [.int .i64 (s1.Period), .int .i64 (s1.Events), .slice A420 (l423).length c421]) :: (hs621 ++ (hs419 ++ R))) mixed ?_
        refine E_in (.cons_cons _ (.cons_cons _ (sub_app hs621 (sub_app hs419 (.refl _))))) ?_
        refine E_st 0 rfl (st_move rfl) ?_
        refine E_st 1 rfl (st_move rfl) ?_
        refine E_st 2 rfl (st_field rfl fld24_0) ?_
        refine E_st 3 rfl (st_load 0 rfl one3 rfl rfl) ?_
        refine E_st 4 rfl (st_move rfl) ?_
        refine E_st 5 rfl (st_move rfl) ?_
        obtain ⟨j668, hj669, hx670⟩ := idx_some h667
        obtain ⟨cs671, hs676, P677, P678, hq679, hr672, hcs673, hA674, hlt675, hb680, hho681⟩ := OS.get (sz := 1) rfl (by decide) h624 hx670
        obtain ⟨rfl, rfl⟩ := hr672
        refine E_st 6 rfl (st_index_old j668 rfl rfl hj669 hlt675 hA674 sl30) ?_
        refine E_st 7 rfl (st_load_rd rfl one3 (fun w ho => hcs673 w _ ho (.cons _ (.cons _ (List.sublist_append_left _ _))) 0 _ rfl)) ?_
        have h682 := (chk_some h682).2
        refine E_st 8 rfl (st_sub rfl rfl h682) ?_
        refine E_st 9 rfl (st_field rfl fld24_0) ?_
        refine E_st 10 rfl (st_load 0 rfl one3 rfl rfl) ?_
        refine E_st 11 rfl (st_rem rfl rfl (ne0_some h683)) ?_
        obtain ⟨j686, hj687, hx688⟩ := idx_some h685
        obtain ⟨cs689, hs694, P695, P696, hq697, hr690, hcs691, hA692, hlt693, hb698, hho699⟩ := OS.get (sz := 1) rfl (by decide) h624 hx688
        obtain ⟨rfl, rfl⟩ := hr690
        refine E_st 12 rfl (st_index_old j686 rfl rfl hj687 hlt693 hA692 sl30) ?_
        refine E_out ?_
        refine D_all [13] (by kernel_rfl) rfl ?_
        refine R_do (Base.Le.refl _) rfl rfl (u_putOS hj687 (sz := 1) (a' := Int.tmod (s1.Period - x666) s1.Period) rfl [_, _] (hs419 ++ R) 0 1 [.int .i64 (Int.tmod (s1.Period - x666) s1.Period)] rfl h624 hx688 rfl rfl rfl siz3 rfl (by intro u hu; simp only [List.mem_cons, List.not_mem_nil, or_false] at hu; subst hu; rfl) (fun cs hsj hh => by obtain ⟨rfl, rfl⟩ := hh; exact ⟨by decide, rfl, rfl⟩)) ?_ ?_
        ·
         rintro _ _ ⟨hs700, rfl, h701⟩
         refine ⟨.inl (by kernel_rfl), ?_⟩
         refine d_resp 6 rfl (v' := .slice A622 (put l625 (k627 : Int) (Int.tmod (s1.Period - x666) s1.Period)).length c623) (by simp only [put_length]) ?_
         refine D_done (by kernel_rfl) ?_
         refine x_block_normal ?_
         refine x_then_normal ?_
         refine c_region ?_
         refine t_st rfl (st_add rfl rfl (by omega)) ?_
         refine t_st rfl (st_move rfl) ?_
         refine t_nil ?_
         refine x_pullb 1 rfl ?_
         refine x_pullb 1 rfl ?_
         refine x_front2 [_, _] hs700 hs419 R rfl ?_
         refine x_front2 [_, _] hs419 hs700 R rfl ?_
         obtain rfl := some1 hm
         exact x_againS (e' := [(1, .pointer (some ⟨g362, 0, none⟩)), (3, .pointer (some ⟨g372, 0, none⟩)), (6, .slice A622 (put l625 (k627 : Int) (Int.tmod (s1.Period - x666) s1.Period)).length c623), (7, .int .i64 (x444)), (57, .int .i64 ((l445.length : Int))), (58, .int .i64 ((k627 : Int) + 1))]) (hp' := (g362, Cl 24 [.int .i64 (s1.Period), .int .i64 (s1.Events), .slice A2 (s1.Rules).length c3]) :: (g372, Cl 24 [.int .i64 (s1.Period), .int .i64 (s1.Events), .slice A420 (l423).length c421]) :: (hs700 ++ (hs419 ++ R))) ⟨rfl, rfl, rfl, rfl, rfl, rfl, trivial⟩ (.cons_cons _ (.cons_cons _ (sub_app hs700 (sub_app hs419 (.refl _))))) ⟨A622, c623, hs700, rfl, rfl, (hle619), h701, (put_nz hnz626)⟩
        exact R_nil
       ·
        rintro b618 _ _ ⟨A622, c623, hs621, rfl, rfl, hle619, h624, hnz626⟩
        have hm := hk629
        refine c_seq ?_
        refine c_region ?_
        refine t_st rfl (st_lss_f rfl rfl (by omega)) ?_
        refine t_nil ?_
        refine x_then_normal ?_
        refine c_seq ?_
        refine c_cond_f rfl ?_
        refine c_exit ?_
        refine x_then_exit ?_
        refine x_then_exit ?_
        refine x_block_out ?_
        refine x_then_normal ?_
        obtain ⟨x710, hj711, hk711⟩ := bindS hm
        refine c_join (fun b708 e' hp' => [(2, .bool (x710))] = e' ∧ R = hp' ∧ b618.Le b708) ?_ ?_
        ·
         have hm := hj711
         refine c_region ?_
         refine t_st rfl (st_move rfl) ?_
         refine t_bool rfl (st_neq rfl rfl) (fun hc712 => ?_) (fun hc712 => ?_)
         ·
          rw [if_pos hc712] at hm
          refine t_st rfl (st_move rfl) ?_
          refine t_no 77 rfl rfl rfl rfl rfl ?_
          refine t_no 77 rfl rfl rfl rfl rfl ?_
          refine t_no 77 rfl rfl rfl rfl rfl ?_
          refine t_no 77 rfl rfl rfl rfl rfl ?_
          refine t_no 77 rfl rfl rfl rfl rfl ?_
          refine t_no 82 rfl rfl rfl rfl rfl ?_
          refine t_no 82 rfl rfl rfl rfl rfl ?_
          refine t_no 82 rfl rfl rfl rfl rfl ?_
          refine t_no 82 rfl rfl rfl rfl rfl ?_
          refine t_no 77 rfl rfl rfl rfl rfl ?_
          refine t_st rfl (st_pick_t rfl rfl) ?_
          refine t_st rfl (st_assign rfl) ?_
          refine t_nil ?_
          obtain rfl := some1 hm
          exact x_join (e' := [(2, .bool (true))]) (hp' := R) ⟨rfl, trivial⟩ (.cons _ (.cons _ (sub_skip hs621 (sub_skip hs419 (.refl _))))) ⟨rfl, rfl, (Base.Le.refl _)⟩
         ·
          rw [if_neg hc712] at hm
          refine t_st rfl (st_move rfl) ?_
          refine t_yes 77 rfl rfl rfl ?_
          refine t_st rfl (st_loadD (vs := [_, _, _]) 1 3 rfl agg24 rfl rfl rfl) ?_
          refine t_yes 77 rfl rfl rfl ?_
          refine t_st rfl (st_move rfl) ?_
          refine t_yes 77 rfl rfl rfl ?_
          obtain ⟨x713, hcl714, hm⟩ := bindS hm
          refine t_do rfl (u_callW0 _ call10 rfl (fun w ho => cFishref2TimesFault _ [] (⟨s1.Period, s1.Events, l423⟩ : PlanPeriodic) l625 A420 c421 A622 c623 (OS.now (o := (OT.fr rPlanRule)) (l := l423) (hs := hs419) (h422.le (hle448.trans hle619)) ho (.cons _ (.cons _ (sub_skip hs621 (List.sublist_append_left _ _))))) (OS.now (o := (OT.fr (RT.int .i64))) (l := l625) (hs := hs621) h624 ho (.cons _ (.cons _ (List.sublist_append_left _ _)))) x713 hcl714) (fun _ _ _ h => h.2.symm)) ?_
          rintro _ _ ⟨⟨_, rfl, _⟩, rfl⟩
          refine t_yes 77 rfl rfl rfl ?_
          refine t_bool rfl (st_eql rfl rfl) (fun hc715 => ?_) (fun hc715 => ?_)
          ·
           rw [if_pos hc715] at hm
           refine t_yes 77 rfl rfl rfl ?_
           refine t_st rfl (st_move rfl) ?_
           refine t_yes 82 rfl rfl rfl ?_
           refine t_st rfl (st_loadD (vs := [_, _, _]) 1 3 rfl agg24 rfl rfl rfl) ?_
           refine t_yes 82 rfl rfl rfl ?_
           refine t_st rfl (st_move rfl) ?_
           refine t_yes 82 rfl rfl rfl ?_
           obtain ⟨x716, hcl717, hm⟩ := bindS hm
           refine t_do rfl (u_callW0 _ call11 rfl (fun w ho => cFishref2BrokenOf _ [] (⟨s1.Period, s1.Events, l423⟩ : PlanPeriodic) l625 A420 c421 A622 c623 (OS.now (o := (OT.fr rPlanRule)) (l := l423) (hs := hs419) (h422.le (hle448.trans hle619)) ho (.cons _ (.cons _ (sub_skip hs621 (List.sublist_append_left _ _))))) (OS.now (o := (OT.fr (RT.int .i64))) (l := l625) (hs := hs621) h624 ho (.cons _ (.cons _ (List.sublist_append_left _ _)))) x716 hcl717) (fun _ _ _ h => h.2.symm)) ?_
           rintro _ _ ⟨⟨_, rfl, _⟩, rfl⟩
           refine t_yes 82 rfl rfl rfl ?_
           refine t_st rfl (st_lss rfl rfl) ?_
           refine t_yes 77 rfl rfl rfl ?_
           refine t_st rfl (st_pick_t rfl rfl) ?_
           refine t_st rfl (st_pick_f rfl rfl) ?_
           refine t_st rfl (st_assign rfl) ?_
           refine t_nil ?_
           obtain rfl := some1 hm
           exact x_join (e' := [(2, .bool (decide (x716 < 0)))]) (hp' := R) ⟨rfl, trivial⟩ (.cons _ (.cons _ (sub_skip hs621 (sub_skip hs419 (.refl _))))) ⟨rfl, rfl, (Base.Le.refl _)⟩
          ·
           rw [if_neg hc715] at hm
           refine t_yes 77 rfl rfl rfl ?_
           refine t_st rfl (st_move rfl) ?_
           refine t_no 82 rfl rfl rfl rfl rfl ?_
           refine t_no 82 rfl rfl rfl rfl rfl ?_
           refine t_no 82 rfl rfl rfl rfl rfl ?_
           refine t_no 82 rfl rfl rfl rfl rfl ?_
           refine t_yes 77 rfl rfl rfl ?_
           refine t_st rfl (st_pick_f rfl rfl) ?_
           refine t_st rfl (st_pick_f rfl rfl) ?_
           refine t_st rfl (st_assign rfl) ?_
           refine t_nil ?_
           obtain rfl := some1 hm
           exact x_join (e' := [(2, .bool (false))]) (hp' := R) ⟨rfl, trivial⟩ (.cons _ (.cons _ (sub_skip hs621 (sub_skip hs419 (.refl _))))) ⟨rfl, rfl, (Base.Le.refl _)⟩
        ·
         rintro b708 _ _ ⟨rfl, rfl, hle709⟩
         have hm := hk711
         refine c_ret ?_
         obtain rfl := some1 hm
         exact retM (rs := [.tmp 2]) [.bool (x710)] (hle417.trans (hle448.trans (hle619.trans hle709))) (by decide) rfl ⟨rfl, trivial⟩ rfl (hp' := R) (.refl _) ⟨rfl, rfl⟩

end Go.Proofs.Ytdphlkddelnaiaa
