/- Contracts: the code computes its model (part 3). -/
import Derived.Test.YtdphlkddelnaiaaCP2
set_option linter.unusedVariables false
set_option linter.unusedSimpArgs false
namespace Go.Proofs.Ytdphlkddelnaiaa
open Go.RowKit Go.Fp

set_option maxRecDepth 20000 in
theorem cSlicesConcat (b : Base) (R : Hp) (l4 : (List (List PlanRule))) (A1 : Option Addr) (c2 : Nat) (h3 : FZ (RT.list rPlanRule) b.w A1 c2 l4) (l154 : (List PlanRule)) (hm : mSlicesConcat l4 = some l154) :
    CallsG Try.prog 29 [.slice A1 (l4).length c2] b (R) (fun v b' hp' => ∃ (A151 : Option Addr), ∃ (c152 : Nat), ∃ (hs150 : Hp), .slice A151 (l154).length c152 = v ∧ (hs150 ++ R) = hp' ∧ OS 29 (OT.fr rPlanRule) b'.w (.slice A151 l154.length c152) l154 hs150) := by
  refine fn_enterG 36 Try.func29 rfl Try.ntmps29 rfl ?_
  unfold mSlicesConcat at hm
  refine c_seq ?_
  refine c_region ?_
  refine t_st rfl (st_assign rfl) ?_
  refine t_nil ?_
  refine x_then_normal ?_
  refine c_seq ?_
  refine c_region ?_
  refine t_st rfl (st_assign rfl) ?_
  refine t_nil ?_
  refine x_then_normal ?_
  refine c_seq ?_
  refine c_seq ?_
  refine c_region ?_
  refine t_st rfl (st_move rfl) ?_
  refine t_st rfl (st_len rfl sl71) ?_
  refine t_st rfl (st_move rfl) ?_
  refine t_nil ?_
  refine x_then_normal ?_
  refine c_block ?_
  have hb156 : l4.length ≤ 9223372036854775807 := (FZ.bd h3)
  obtain ⟨x190, hl192, hk193⟩ := bindS hm
  refine c_forS (fun k191 => fun x190 => fun b188 e' hp' => [(0, .slice A1 (l4).length c2), (3, .int .i64 (x190)), (9, .slice A1 (l4).length c2), (10, .int .i64 ((l4.length : Int))), (11, .int .i64 ((k191 : Int)))] = e' ∧ R = hp' ∧ b.Le b188) hl192 (e' := [(0, .slice A1 (l4).length c2), (3, .int .i64 (0)), (9, .slice A1 (l4).length c2), (10, .int .i64 ((l4.length : Int))), (11, .int .i64 0)]) (hp' := R) ⟨rfl, rfl, rfl, rfl, rfl, trivial⟩ (.refl _) ⟨rfl, rfl, (Base.Le.refl _)⟩ ?_ ?_
  ·
   rintro k191 x190 b188 _ _ oL155 hknL155 ⟨rfl, rfl, hle189⟩ hstepL155
   unfold mSlicesConcat_L155 at hstepL155
   have hm := hstepL155
   refine c_seq ?_
   refine c_region ?_
   refine t_st rfl (st_lss_t rfl rfl (by omega)) ?_
   refine t_nil ?_
   refine x_then_normal ?_
   refine c_seq ?_
   refine c_cond_t rfl ?_
   refine c_skip ?_
   refine x_then_normal ?_
   refine c_seq ?_
   refine c_block ?_
   refine c_seq ?_
   refine c_region ?_
   obtain ⟨x194, h195, hm⟩ := bindS hm
   obtain ⟨j196, hj197, hx198⟩ := idx_some h195
   obtain ⟨cs199, hr200, hcs201, hA202, hlt203⟩ := FZ.get (sz := 1) rfl (by decide) (h3.le hle189) hx198
   obtain ⟨A204, c205, rfl, h206⟩ := hr200
   refine t_st rfl (st_index_old j196 rfl rfl hj197 hlt203 hA202 sl71) ?_
   refine t_st rfl (st_load_old rfl one22 (hcs201 0 _ rfl)) ?_
   refine t_st rfl (st_assign rfl) ?_
   refine t_nil ?_
   refine x_then_normal ?_
   refine c_seq ?_
   refine c_region ?_
   refine t_st rfl (st_move rfl) ?_
   refine t_st rfl (st_move rfl) ?_
   refine t_st rfl (st_len rfl sl22) ?_
   obtain ⟨_, h207, hm⟩ := bindS hm
   have h207 := (chk_some h207).2
   refine t_st rfl (st_add rfl rfl h207) ?_
   refine t_st rfl (st_assign rfl) ?_
   refine t_nil ?_
   refine x_then_normal ?_
   refine c_seq ?_
   refine c_region ?_
   refine t_st rfl (st_move rfl) ?_
   refine t_st rfl (st_lss rfl rfl) ?_
   refine t_nil ?_
   refine x_then_normal ?_
   refine c_cond _ rfl (fun hc208 => ?_) (fun hc208 => ?_)
   ·
    rw [if_pos (of_decide_eq_true hc208)] at hm
    cases hm
   ·
    rw [if_neg (of_decide_eq_false hc208)] at hm
    refine c_skip ?_
    refine x_block_normal ?_
    refine x_then_normal ?_
    refine c_region ?_
    refine t_st rfl (st_add rfl rfl (by omega)) ?_
    refine t_st rfl (st_move rfl) ?_
    refine t_nil ?_
    obtain rfl := some1 hm
    exact x_againS (e' := [(0, .slice A1 (l4).length c2), (3, .int .i64 (x190 + (x194.length : Int))), (9, .slice A1 (l4).length c2), (10, .int .i64 ((l4.length : Int))), (11, .int .i64 ((k191 : Int) + 1))]) (hp' := R) ⟨rfl, rfl, rfl, rfl, rfl, trivial⟩ (.refl _) ⟨rfl, rfl, (hle189)⟩
  ·
   rintro b188 _ _ ⟨rfl, rfl, hle189⟩
   have hm := hk193
   refine c_seq ?_
   refine c_region ?_
   refine t_st rfl (st_lss_f rfl rfl (by omega)) ?_
   refine t_nil ?_
   refine x_then_normal ?_
   refine c_seq ?_
   refine c_cond_f rfl ?_
   refine c_exit ?_
   refine x_then_exit ?_
   refine x_then_exit ?_
   refine x_block_out ?_
   refine x_then_normal ?_
   refine c_seq ?_
   refine c_region ?_
   refine t_st rfl (st_move rfl) ?_
   obtain ⟨l209, hcl210, hm⟩ := bindS hm
   refine t_callG _ rfl call46 rfl (cSlicesGrow _ _ x190 l209 hcl210) ?_
   rintro _ b211 _ hle212 ⟨A213, c214, hs215, rfl, rfl, h216⟩
   refine t_in1 [] [] hs215 R rfl ?_
   refine t_st rfl (st_assign rfl) ?_
   refine t_nil ?_
   refine x_then_normal ?_
   refine c_seq ?_
   refine c_seq ?_
   refine c_region ?_
   refine t_st rfl (st_move rfl) ?_
   refine t_st rfl (st_len rfl sl71) ?_
   refine t_st rfl (st_move rfl) ?_
   refine t_nil ?_
   refine x_then_normal ?_
   refine c_block ?_
   have hb218 : l4.length ≤ 9223372036854775807 := (FZ.bd (h3.le (hle189.trans hle212)))
   obtain ⟨l274, hl276, hk277⟩ := bindS hm
   refine c_forS (fun k275 => fun l274 => fun b267 e' hp' => ∃ (A271 : Option Addr), ∃ (c272 : Nat), ∃ (hs270 : Hp), [(6, .slice A271 (l274).length c272), (25, .slice A1 (l4).length c2), (26, .int .i64 ((l4.length : Int))), (27, .int .i64 ((k275 : Int)))] = e' ∧ (hs270 ++ R) = hp' ∧ b211.Le b267 ∧ OS 29 (OT.fr rPlanRule) b267.w (.slice A271 l274.length c272) l274 hs270) hl276 (e' := [(6, .slice A213 (l209).length c214), (25, .slice A1 (l4).length c2), (26, .int .i64 ((l4.length : Int))), (27, .int .i64 0)]) (hp' := (hs215 ++ R)) ⟨rfl, rfl, rfl, rfl, trivial⟩ (sub_app hs215 (.refl _)) ⟨A213, c214, hs215, rfl, rfl, (Base.Le.refl _), h216⟩ ?_ ?_
   ·
    rintro k275 l274 b267 _ _ oL217 hknL217 ⟨A271, c272, hs270, rfl, rfl, hle268, h273⟩ hstepL217
    unfold mSlicesConcat_L217 at hstepL217
    have hm := hstepL217
    refine c_seq ?_
    refine c_region ?_
    refine t_st rfl (st_lss_t rfl rfl (by omega)) ?_
    refine t_nil ?_
    refine x_then_normal ?_
    refine c_seq ?_
    refine c_cond_t rfl ?_
    refine c_skip ?_
    refine x_then_normal ?_
    refine c_seq ?_
    refine c_block ?_
    refine c_seq ?_
    refine c_region ?_
    obtain ⟨x278, h279, hm⟩ := bindS hm
    obtain ⟨j280, hj281, hx282⟩ := idx_some h279
    obtain ⟨cs283, hr284, hcs285, hA286, hlt287⟩ := FZ.get (sz := 1) rfl (by decide) (h3.le (hle189.trans (hle212.trans hle268))) hx282
    obtain ⟨A288, c289, rfl, h290⟩ := hr284
    refine t_st rfl (st_index_old j280 rfl rfl hj281 hlt287 hA286 sl71) ?_
    refine t_st rfl (st_load_old rfl one22 (hcs285 0 _ rfl)) ?_
    refine t_st rfl (st_assign rfl) ?_
    refine t_nil ?_
    refine x_then_normal ?_
    refine c_region ?_
    refine t_st rfl (st_move rfl) ?_
    refine t_st rfl (st_move rfl) ?_
    obtain ⟨css291, h292, h293⟩ := rd_src h290
    obtain ⟨_, h294, hm⟩ := bindS hm
    have h294 := room_some h294
    refine t_do rfl (u_appOS (r := rPlanRule) (l := l274) [] R css291 x278 rfl (by decide) sl22 inf29 rfl rfl rfl rfl h273 rfl (fun w ho => h292.old ho) h293 h294) ?_
    rintro _ _ ⟨hs295, rfl, h296⟩
    obtain ⟨A297, c298, rfl, _⟩ := h296.form
    refine t_st rfl (st_assign rfl) ?_
    refine t_nil ?_
    refine x_block_normal ?_
    refine x_then_normal ?_
    refine c_region ?_
    refine t_st rfl (st_add rfl rfl (by omega)) ?_
    refine t_st rfl (st_move rfl) ?_
    refine t_nil ?_
    obtain rfl := some1 hm
    exact x_againS (e' := [(6, .slice A297 (l274 ++ x278).length c298), (25, .slice A1 (l4).length c2), (26, .int .i64 ((l4.length : Int))), (27, .int .i64 ((k275 : Int) + 1))]) (hp' := (hs295 ++ R)) ⟨rfl, rfl, rfl, rfl, trivial⟩ (sub_app hs295 (.refl _)) ⟨A297, c298, hs295, rfl, rfl, (hle268), h296⟩
   ·
    rintro b267 _ _ ⟨A271, c272, hs270, rfl, rfl, hle268, h273⟩
    have hm := hk277
    refine c_seq ?_
    refine c_region ?_
    refine t_st rfl (st_lss_f rfl rfl (by omega)) ?_
    refine t_nil ?_
    refine x_then_normal ?_
    refine c_seq ?_
    refine c_cond_f rfl ?_
    refine c_exit ?_
    refine x_then_exit ?_
    refine x_then_exit ?_
    refine x_block_out ?_
    refine x_then_normal ?_
    refine c_seq ?_
    refine c_region ?_
    refine t_st rfl (st_move rfl) ?_
    refine t_st rfl (st_assign rfl) ?_
    refine t_nil ?_
    refine x_then_normal ?_
    refine c_ret ?_
    obtain rfl := some1 hm
    exact retM (rs := [.tmp 2]) [.slice A271 (l274).length c272] (hle189.trans (hle212.trans hle268)) (by decide) rfl ⟨rfl, trivial⟩ rfl (hp' := (hs270 ++ R)) (sub_app hs270 (.refl _)) ⟨A271, c272, hs270, rfl, rfl, h273⟩

set_option maxRecDepth 20000 in
theorem cPlanCore (b : Base) (R : Hp) (s1 : PlanPeriodic) (A2 : Option Addr) (c3 : Nat) (h4 : FZ rPlanRule b.w A2 c3 s1.Rules) (x367 : Int) (l368 : (List Int)) (hm : mPlanCore s1 = some (x367, l368)) :
    CallsG Try.prog 12 [.agg #[.int .i64 (s1.Period), .int .i64 (s1.Events), .slice A2 (s1.Rules).length c3]] b (R) (fun v b' hp' => ∃ (A364 : Option Addr), ∃ (c365 : Nat), ∃ (hs363 : Hp), .tuple #[.slice A364 (l368).length c365, .int .i64 (x367)] = v ∧ (hs363 ++ R) = hp' ∧ OS 3 (OT.fr (RT.int .i64)) b'.w (.slice A364 l368.length c365) l368 hs363) := by
  refine fn_enterG 53 Try.func12 rfl Try.ntmps12 rfl ?_
  unfold mPlanCore at hm
  refine c_seq ?_
  refine c_region ?_
  refine t_do rfl (u_box _ rfl rfl) ?_
  rintro _ _ ⟨g369, rfl, rfl⟩
  refine t_st rfl (st_assign rfl) ?_
  refine t_st rfl (st_assign rfl) ?_
  refine t_nil ?_
  refine x_then_normal ?_
  refine c_seq ?_
  refine c_seq ?_
  refine c_region ?_
  refine t_st rfl (st_loadD (vs := [_, _, _]) 0 3 rfl agg24 rfl rfl rfl) ?_
  obtain ⟨x370, hcl371, hm⟩ := bindS hm
  refine t_do rfl (u_callW0 _ call24 rfl (fun w ho => cPlanCheckPeriodic _ [] s1 A2 c3 (h4.old ho) x370 hcl371) (fun _ _ _ h => h.2.symm)) ?_
  rintro _ _ ⟨⟨_, rfl, _⟩, rfl⟩
  refine t_st rfl (st_assign rfl) ?_
  refine t_nil ?_
  refine x_then_normal ?_
  refine c_seq ?_
  refine c_region ?_
  refine t_st rfl (st_move rfl) ?_
  refine t_st rfl (st_neq rfl rfl) ?_
  refine t_nil ?_
  refine x_then_normal ?_
  refine c_cond _ rfl (fun hc372 => ?_) (fun hc372 => ?_)
  ·
   rw [if_pos (of_decide_eq_true hc372)] at hm
   refine c_seq ?_
   refine c_region ?_
   refine t_st rfl (st_move rfl) ?_
   refine t_st rfl (st_assign rfl) ?_
   refine t_st rfl (st_assign rfl) ?_
   refine t_nil ?_
   refine x_then_normal ?_
   refine c_ret ?_
   refine x_then_ret ?_
   obtain ⟨rfl, rfl⟩ := some2 hm
   exact retM (rs := [.tmp 2, .tmp 3]) [.slice none 0 0, .int .i64 (x370)] (Base.Le.refl _) (by decide) rfl ⟨rfl, ⟨rfl, trivial⟩⟩ rfl (hp' := ([] ++ R)) (.cons _ (.refl _)) ⟨none, 0, [], rfl, rfl, OS.nil⟩
  ·
   rw [if_neg (of_decide_eq_false hc372)] at hm
   refine c_skip ?_
   refine x_then_normal ?_
   refine c_seq ?_
   refine c_seq ?_
   refine c_region ?_
   refine t_st rfl (st_loadD (vs := [_, _, _]) 0 3 rfl agg24 rfl rfl rfl) ?_
   obtain ⟨l373, hcl374, hm⟩ := bindS hm
   refine t_callG _ rfl call25 rfl (cPlanSolve_2 _ _ s1 A2 c3 h4 l373 hcl374) ?_
   rintro _ b375 _ hle376 ⟨A377, c378, hs379, rfl, rfl, h380, h381⟩
   refine t_in1 [] [_] hs379 R rfl ?_
   refine t_st rfl (st_neqnil_z rfl rfl h381 sl30) ?_
   refine t_nil ?_
   refine x_then_normal ?_
   refine c_cond _ rfl (fun hc382 => ?_) (fun hc382 => ?_)
   ·
    rw [if_neg (fun hh => Bool.noConfusion (hh.symm.trans (notT hc382)))] at hm
    refine c_seq ?_
    refine c_region ?_
    refine t_st rfl (st_assign rfl) ?_
    refine t_st rfl (st_assign rfl) ?_
    refine t_nil ?_
    refine x_then_normal ?_
    refine c_ret ?_
    refine x_then_ret ?_
    obtain ⟨rfl, rfl⟩ := some2 hm
    exact retM (rs := [.tmp 2, .tmp 3]) [.slice none 0 0, .int .i64 (9)] hle376 (by decide) rfl ⟨rfl, ⟨rfl, trivial⟩⟩ rfl (hp' := ([] ++ R)) (.cons _ (sub_skip hs379 (.refl _))) ⟨none, 0, [], rfl, rfl, OS.nil⟩
   ·
    rw [if_pos (notF hc382)] at hm
    refine c_skip ?_
    refine x_then_normal ?_
    refine c_seq ?_
    refine c_region ?_
    refine t_st rfl (st_assign rfl) ?_
    refine t_nil ?_
    refine x_then_normal ?_
    refine c_seq ?_
    refine c_region ?_
    refine t_st rfl (st_field rfl fld24_2) ?_
    refine t_st rfl (st_load 0 rfl one22 rfl rfl) ?_
    refine t_st rfl (st_assign rfl) ?_
    refine t_nil ?_
    refine x_then_normal ?_
    refine c_seq ?_
    refine c_region ?_
    refine t_st rfl (st_assign rfl) ?_
    refine t_nil ?_
    refine x_then_normal ?_
    refine c_seq ?_
    refine c_seq ?_
    refine c_region ?_
    refine t_st rfl (st_field rfl fld24_2) ?_
    refine t_st rfl (st_load 0 rfl one22 rfl rfl) ?_
    refine t_st rfl (st_len rfl sl22) ?_
    refine t_st rfl (st_move rfl) ?_
    refine t_nil ?_
    refine x_then_normal ?_
    refine c_block ?_
    have hb384 : s1.Rules.length ≤ 9223372036854775807 := (FZ.bd (h4.le hle376))
    obtain ⟨⟨l622, l623, l624⟩, hl626, hk627⟩ := bindS hm
    refine c_forS (fun k625 => unc3 fun l622 l623 l624 => fun b607 e' hp' => ∃ (A619 : Option Addr), ∃ (c620 : Nat), ∃ (A611 : Option Addr), ∃ (c612 : Nat), ∃ (hs610 : Hp), ∃ (A616 : Option Addr), ∃ (c617 : Nat), ∃ (hs615 : Hp), [(1, .pointer (some ⟨g369, 0, none⟩)), (5, .slice A611 (l623).length c612), (6, .slice A619 (l622).length c620), (7, .slice A616 (l624).length c617), (22, .slice A2 (s1.Rules).length c3), (23, .int .i64 ((s1.Rules.length : Int))), (24, .int .i64 ((k625 : Int)))] = e' ∧ (g369, Cl 24 [.int .i64 (s1.Period), .int .i64 (s1.Events), .slice A2 (s1.Rules).length c3]) :: (hs610 ++ (hs615 ++ R)) = hp' ∧ b375.Le b607 ∧ FZ rPlanRule b607.w A619 c620 l622 ∧ OS 3 (OT.fr (RT.int .i64)) b607.w (.slice A611 l623.length c612) l623 hs610 ∧ OS 29 (OT.fr rPlanRule) b607.w (.slice A616 l624.length c617) l624 hs615) hl626 (e' := [(1, .pointer (some ⟨g369, 0, none⟩)), (5, .slice none 0 0), (6, .slice A2 (s1.Rules).length c3), (7, .slice none 0 0), (22, .slice A2 (s1.Rules).length c3), (23, .int .i64 ((s1.Rules.length : Int))), (24, .int .i64 0)]) (hp' := (g369, Cl 24 [.int .i64 (s1.Period), .int .i64 (s1.Events), .slice A2 (s1.Rules).length c3]) :: ([] ++ ([] ++ R))) ⟨rfl, rfl, rfl, rfl, rfl, rfl, rfl, trivial⟩ (.cons_cons _ (sub_skip hs379 (.refl _))) ⟨A2, c3, none, 0, [], none, 0, [], rfl, rfl, (Base.Le.refl _), (h4.le hle376), OS.nil, OS.nil⟩ ?_ ?_
    ·
     rintro k625 ⟨l622, l623, l624⟩ b607 _ _ oL383 hknL383 ⟨A619, c620, A611, c612, hs610, A616, c617, hs615, rfl, rfl, hle608, h621, h613, h618⟩ hstepL383
     unfold mPlanCore_L383 at hstepL383
     have hm := (unc3E hstepL383)
     refine c_seq ?_
     refine c_region ?_
     refine t_st rfl (st_lss_t rfl rfl (by omega)) ?_
     refine t_nil ?_
     refine x_then_normal ?_
     refine c_seq ?_
     refine c_cond_t rfl ?_
     refine c_skip ?_
     refine x_then_normal ?_
     refine c_seq ?_
     refine c_block ?_
     refine c_seq ?_
     refine c_region ?_
     refine t_st rfl (st_move rfl) ?_
     obtain ⟨x628, h629, hm⟩ := bindS hm
     obtain ⟨j630, hj631, hx632⟩ := idx_some h629
     obtain ⟨cs633, hr634, hcs635, hA636, hlt637⟩ := FZ.get (sz := 5) rfl (by decide) (h4.le (hle376.trans hle608)) hx632
     obtain ⟨_, _, rfl, rfl, ⟨_, _, rfl, rfl, ⟨_, _, rfl, rfl, ⟨_, _, rfl, rfl, rfl⟩⟩⟩⟩ := hr634
     refine t_st rfl (st_index_old j630 rfl rfl hj631 hlt637 hA636 sl22) ?_
     refine t_st rfl (st_loadN_old (vs := [.int .i64 (x628.From), .int .i64 (x628.To), .int .i64 (x628.Min), .int .i64 (x628.Max), .int .i64 (x628.Weight)]) 5 rfl agg29 hA636 rfl (fun j u hu => hcs635 j u hu)) ?_
     refine t_do rfl (u_alloc [.int .i64 0, .int .i64 0, .int .i64 0, .int .i64 0, .int .i64 0] zero29 rfl) ?_
     rintro _ _ ⟨g638, rfl, rfl⟩
     refine t_st rfl (st_assign rfl) ?_
     refine t_do rfl (u_storeN (vs := [_, _, _, _, _]) 0 5 rfl rfl rfl siz29 rfl (by intro u hu; simp only [List.mem_cons, List.not_mem_nil, or_false] at hu; rcases hu with rfl | rfl | rfl | rfl | rfl <;> rfl) rfl (by simp)) ?_
     rintro _ _ rfl
     refine t_nil ?_
     refine x_then_normal ?_
     refine c_seq ?_
     refine c_region ?_
     refine t_st rfl (st_move rfl) ?_
     obtain ⟨l639, h640, hm⟩ := bindS hm
     obtain ⟨j641, j642, hj643, hj644, hj645, hj646, hx647⟩ := cutS_some h640
     have h648 := FZ.sub (sz := 5) rfl h621 hj645 hj646
     have h649 := h621.1.1
     rw [← hx647] at h648
     refine t_st rfl (hx647 ▸ st_part (l := l622) j641 j642 rfl (.inr ⟨_, _, _, rfl, rfl, hj643⟩) (.inl ⟨rfl, by omega⟩) hj645 hj646 h649 sl22) ?_
     refine t_st rfl (st_assign rfl) ?_
     refine t_nil ?_
     refine x_then_normal ?_
     obtain ⟨l682, hj683, hk683⟩ := bindS hm
     refine c_join (fun b674 e' hp' => ∃ (g681 : Nat), ∃ (A678 : Option Addr), ∃ (c679 : Nat), ∃ (hs677 : Hp), [(1, .pointer (some ⟨g369, 0, none⟩)), (5, .slice A611 (l623).length c612), (6, .slice (subA A619 c620 j641 5) (l639).length (c620 - j641)), (7, .slice A616 (l624).length c617), (8, .int .i64 ((k625 : Int))), (9, .pointer (some ⟨g638, 0, none⟩)), (10, .pointer (some ⟨g681, 0, none⟩)), (22, .slice A2 (s1.Rules).length c3), (23, .int .i64 ((s1.Rules.length : Int))), (24, .int .i64 ((k625 : Int)))] = e' ∧ (g369, Cl 24 [.int .i64 (s1.Period), .int .i64 (s1.Events), .slice A2 (s1.Rules).length c3]) :: (g638, Cl 29 [.int .i64 (x628.From), .int .i64 (x628.To), .int .i64 (x628.Min), .int .i64 (x628.Max), .int .i64 (x628.Weight)]) :: (g681, Cl 24 [.int .i64 (s1.Period), .int .i64 (s1.Events), .slice A678 (l682).length c679]) :: (hs610 ++ (hs615 ++ (hs677 ++ R))) = hp' ∧ b607.Le b674 ∧ OS 29 (OT.fr rPlanRule) b674.w (.slice A678 l682.length c679) l682 hs677) ?_ ?_
     ·
      have hm := hj683
      obtain ⟨l695, hcl696, hm⟩ := bindS hm
      refine D_drawS ((g638, Cl 29 [.int .i64 (x628.From), .int .i64 (x628.To), .int .i64 (x628.Min), .int .i64 (x628.Max), .int .i64 (x628.Weight)]) :: (g369, Cl 24 [.int .i64 (s1.Period), .int .i64 (s1.Events), .slice A2 (s1.Rules).length c3]) :: (hs610 ++ (hs615 ++ R))) mixed ?_
      refine E_in (.cons_cons _ (.cons_cons _ (sub_app hs610 (sub_app hs615 (.refl _))))) ?_
      refine E_st 0 rfl (st_field rfl fld24_0) ?_
      refine E_st 1 rfl (st_load 1 rfl one3 rfl rfl) ?_
      refine E_st 2 rfl (st_field rfl fld24_1) ?_
      refine E_st 3 rfl (st_load 1 rfl one3 rfl rfl) ?_
      refine E_st 4 rfl (st_move rfl) ?_
      refine E_st 5 rfl (st_move rfl) ?_
      refine E_out ?_
      refine D_all [6, 9] (by kernel_rfl) rfl ?_
      refine R_do (Base.Le.refl _) rfl rfl (u_bslice (el := 22) [(0, .slice A616 (l624).length c617), (1, .slice (subA A619 c620 j641 5) (l639).length (c620 - j641))] [.slice A616 (l624).length c617, .slice (subA A619 c620 j641 5) (l639).length (c620 - j641)] rfl (fun _ => by kernel_rfl)) ?_ ?_
      ·
       rintro _ _ ⟨g694, rfl, rfl⟩
       refine ⟨.inr (.cons _ (.cons_cons _ (.cons_cons _ (sub_app hs610 (sub_app hs615 (.refl _)))))), ?_⟩
       refine D_all [7, 9] (by kernel_rfl) rfl ?_
       refine R_do (Base.Le.refl _) rfl rfl (u_callWF [_, _, _] (hs610 ++ (hs615 ++ R)) _ rfl call29 rfl (fun w ho => cSlicesConcat _ [] [l624, l639] (some ⟨g694, 0, none⟩) 2 (FZ.arrL (i := 0) (css := [[.slice A616 (l624).length c617], [.slice (subA A619 c620 j641 5) (l639).length (c620 - j641)]]) (rest := []) ho rfl rfl ⟨(RT.list_mk (OS.now (o := (OT.fr rPlanRule)) (l := l624) (hs := hs615) h618 ho (.cons _ (.cons _ (.cons _ (sub_skip hs610 (List.sublist_append_left _ _))))))), ⟨(RT.list_mk (h648.old ho)), trivial⟩⟩ ⟨Nat.le_of_ble_eq_true rfl, Nat.le_of_ble_eq_true rfl⟩) l695 hcl696)) ?_ ?_
       ·
        rintro _ _ ⟨_, _, rfl, A697, c698, hs699, rfl, hq702, h700⟩
        obtain rfl := List.append_cancel_right hq702
        have h701 := flat_fz (w' := b607.w) (cat_flat (fun _ _ _ _ h => h) (cat_flat (fun _ _ _ _ h => h) (cat_flat (fun _ _ _ _ h => h) (cat_flat (fun _ _ _ _ h => h) (fun _ _ _ _ h => h))))) h700
        refine ⟨.inr (.cons _ (.cons_cons _ (.cons_cons _ (sub_skip hs699 (sub_app hs610 (sub_app hs615 (.refl _))))))), ?_⟩
        refine D_all [8, 9] (by kernel_rfl) rfl ?_
        refine R_do (Base.Le.refl _) rfl rfl (Stable.does (st_build (v := .agg #[.int .i64 (s1.Period), .int .i64 (s1.Events), .slice A697 (l695).length c698]) [(0, .int .i64 (s1.Period)), (1, .int .i64 (s1.Events)), (2, .slice A697 (l695).length c698)] rfl (fun _ => by kernel_rfl))) ?_ ?_
        ·
         rintro _ _ ⟨rfl, rfl⟩
         refine ⟨.inr (.cons _ (.cons_cons _ (.cons_cons _ (sub_skip hs699 (sub_app hs610 (sub_app hs615 (.refl _))))))), ?_⟩
         refine D_all [9] (by kernel_rfl) rfl ?_
         refine R_do (Base.Le.refl _) rfl rfl (u_alloc [.int .i64 0, .int .i64 0, .slice none 0 0] zero24 rfl) ?_ ?_
         ·
          rintro _ _ ⟨g703, rfl, rfl⟩
          refine ⟨.inr (.cons _ (.cons _ (.cons_cons _ (.cons_cons _ (sub_skip hs699 (sub_app hs610 (sub_app hs615 (.refl _)))))))), ?_⟩
          refine D_all [10] (by kernel_rfl) rfl ?_
          refine R_do (Base.Le.refl _) rfl rfl (u_storeN (vs := [_, _, _]) 0 3 rfl rfl rfl siz24 rfl (by intro u hu; simp only [List.mem_cons, List.not_mem_nil, or_false] at hu; rcases hu with rfl | rfl | rfl <;> rfl) rfl (by simp)) ?_ ?_
          ·
           rintro _ _ rfl
           refine ⟨.inl (by kernel_rfl), ?_⟩
           refine D_done (by kernel_rfl) ?_
           obtain rfl := some1 hm
           refine x_pullb 2 rfl ?_
           refine x_pullb 3 rfl ?_
           refine x_front3 [_, _, _, _] hs699 hs610 hs615 R rfl ?_
           refine x_front3 [_, _, _, _] hs615 hs699 hs610 R rfl ?_
           exact x_join (e' := [(1, .pointer (some ⟨g369, 0, none⟩)), (5, .slice A611 (l623).length c612), (6, .slice (subA A619 c620 j641 5) (l639).length (c620 - j641)), (7, .slice A616 (l624).length c617), (8, .int .i64 ((k625 : Int))), (9, .pointer (some ⟨g638, 0, none⟩)), (10, .pointer (some ⟨g703, 0, none⟩)), (22, .slice A2 (s1.Rules).length c3), (23, .int .i64 ((s1.Rules.length : Int))), (24, .int .i64 ((k625 : Int)))]) (hp' := (g369, Cl 24 [.int .i64 (s1.Period), .int .i64 (s1.Events), .slice A2 (s1.Rules).length c3]) :: (g638, Cl 29 [.int .i64 (x628.From), .int .i64 (x628.To), .int .i64 (x628.Min), .int .i64 (x628.Max), .int .i64 (x628.Weight)]) :: (g703, Cl 24 [.int .i64 (s1.Period), .int .i64 (s1.Events), .slice A697 (l695).length c698]) :: (hs610 ++ (hs615 ++ (hs699 ++ R)))) ⟨rfl, rfl, rfl, rfl, rfl, rfl, rfl, rfl, rfl, rfl, trivial⟩ (.cons_cons _ (.cons_cons _ (.cons_cons _ (.cons _ (sub_app hs610 (sub_app hs615 (sub_app hs699 (.refl _)))))))) ⟨g703, A697, c698, hs699, rfl, rfl, (Base.Le.refl _), h701⟩
          exact R_nil
         exact R_nil
        refine R_do (Base.Le.refl _) rfl rfl (u_alloc [.int .i64 0, .int .i64 0, .slice none 0 0] zero24 rfl) ?_ ?_
        ·
         rintro _ _ ⟨g703, rfl, rfl⟩
         refine ⟨.inr (.cons _ (.cons _ (.cons_cons _ (.cons_cons _ (sub_skip hs699 (sub_app hs610 (sub_app hs615 (.refl _)))))))), ?_⟩
         refine D_all [8] (by kernel_rfl) rfl ?_
         refine R_do (Base.Le.refl _) rfl rfl (Stable.does (st_build (v := .agg #[.int .i64 (s1.Period), .int .i64 (s1.Events), .slice A697 (l695).length c698]) [(0, .int .i64 (s1.Period)), (1, .int .i64 (s1.Events)), (2, .slice A697 (l695).length c698)] rfl (fun _ => by kernel_rfl))) ?_ ?_
         ·
          rintro _ _ ⟨rfl, rfl⟩
          refine ⟨.inr (.cons _ (.cons _ (.cons_cons _ (.cons_cons _ (sub_skip hs699 (sub_app hs610 (sub_app hs615 (.refl _)))))))), ?_⟩
          refine D_all [10] (by kernel_rfl) rfl ?_
          refine R_do (Base.Le.refl _) rfl rfl (u_storeN (vs := [_, _, _]) 0 3 rfl rfl rfl siz24 rfl (by intro u hu; simp only [List.mem_cons, List.not_mem_nil, or_false] at hu; rcases hu with rfl | rfl | rfl <;> rfl) rfl (by simp)) ?_ ?_
          ·
           rintro _ _ rfl
           refine ⟨.inl (by kernel_rfl), ?_⟩
           refine D_done (by kernel_rfl) ?_
           obtain rfl := some1 hm
           refine x_pullb 2 rfl ?_
           refine x_pullb 3 rfl ?_
           refine x_front3 [_, _, _, _] hs699 hs610 hs615 R rfl ?_
           refine x_front3 [_, _, _, _] hs615 hs699 hs610 R rfl ?_
           exact x_join (e' := [(1, .pointer (some ⟨g369, 0, none⟩)), (5, .slice A611 (l623).length c612), (6, .slice (subA A619 c620 j641 5) (l639).length (c620 - j641)), (7, .slice A616 (l624).length c617), (8, .int .i64 ((k625 : Int))), (9, .pointer (some ⟨g638, 0, none⟩)), (10, .pointer (some ⟨g703, 0, none⟩)), (22, .slice A2 (s1.Rules).length c3), (23, .int .i64 ((s1.Rules.length : Int))), (24, .int .i64 ((k625 : Int)))]) (hp' := (g369, Cl 24 [.int .i64 (s1.Period), .int .i64 (s1.Events), .slice A2 (s1.Rules).length c3]) :: (g638, Cl 29 [.int .i64 (x628.From), .int .i64 (x628.To), .int .i64 (x628.Min), .int .i64 (x628.Max), .int .i64 (x628.Weight)]) :: (g703, Cl 24 [.int .i64 (s1.Period), .int .i64 (s1.Events), .slice A697 (l695).length c698]) :: (hs610 ++ (hs615 ++ (hs699 ++ R)))) ⟨rfl, rfl, rfl, rfl, rfl, rfl, rfl, rfl, rfl, rfl, trivial⟩ (.cons_cons _ (.cons_cons _ (.cons_cons _ (.cons _ (sub_app hs610 (sub_app hs615 (sub_app hs699 (.refl _)))))))) ⟨g703, A697, c698, hs699, rfl, rfl, (Base.Le.refl _), h701⟩
          exact R_nil
         exact R_nil
        exact R_nil
       refine R_do (Base.Le.refl _) rfl rfl (u_alloc [.int .i64 0, .int .i64 0, .slice none 0 0] zero24 rfl) ?_ ?_
       ·
        rintro _ _ ⟨g703, rfl, rfl⟩
        refine ⟨.inr (.cons _ (.cons _ (.cons_cons _ (.cons_cons _ (sub_app hs610 (sub_app hs615 (.refl _))))))), ?_⟩
        refine D_all [7] (by kernel_rfl) rfl ?_
        refine R_do (Base.Le.refl _) rfl rfl (u_callWF [_, _, _, _] (hs610 ++ (hs615 ++ R)) _ rfl call29 rfl (fun w ho => cSlicesConcat _ [] [l624, l639] (some ⟨g694, 0, none⟩) 2 (FZ.arrL (i := 1) (css := [[.slice A616 (l624).length c617], [.slice (subA A619 c620 j641 5) (l639).length (c620 - j641)]]) (rest := []) ho rfl rfl ⟨(RT.list_mk (OS.now (o := (OT.fr rPlanRule)) (l := l624) (hs := hs615) h618 ho (.cons _ (.cons _ (.cons _ (.cons _ (sub_skip hs610 (List.sublist_append_left _ _)))))))), ⟨(RT.list_mk (h648.old ho)), trivial⟩⟩ ⟨Nat.le_of_ble_eq_true rfl, Nat.le_of_ble_eq_true rfl⟩) l695 hcl696)) ?_ ?_
        ·
         rintro _ _ ⟨_, _, rfl, A697, c698, hs699, rfl, hq702, h700⟩
         obtain rfl := List.append_cancel_right hq702
         have h701 := flat_fz (w' := b607.w) (cat_flat (fun _ _ _ _ h => h) (cat_flat (fun _ _ _ _ h => h) (cat_flat (fun _ _ _ _ h => h) (cat_flat (fun _ _ _ _ h => h) (fun _ _ _ _ h => h))))) h700
         refine ⟨.inr (.cons _ (.cons _ (.cons_cons _ (.cons_cons _ (sub_skip hs699 (sub_app hs610 (sub_app hs615 (.refl _)))))))), ?_⟩
         refine D_all [8] (by kernel_rfl) rfl ?_
         refine R_do (Base.Le.refl _) rfl rfl (Stable.does (st_build (v := .agg #[.int .i64 (s1.Period), .int .i64 (s1.Events), .slice A697 (l695).length c698]) [(0, .int .i64 (s1.Period)), (1, .int .i64 (s1.Events)), (2, .slice A697 (l695).length c698)] rfl (fun _ => by kernel_rfl))) ?_ ?_
         ·
          rintro _ _ ⟨rfl, rfl⟩
          refine ⟨.inr (.cons _ (.cons _ (.cons_cons _ (.cons_cons _ (sub_skip hs699 (sub_app hs610 (sub_app hs615 (.refl _)))))))), ?_⟩
          refine D_all [10] (by kernel_rfl) rfl ?_
          refine R_do (Base.Le.refl _) rfl rfl (u_storeN (vs := [_, _, _]) 0 3 rfl rfl rfl siz24 rfl (by intro u hu; simp only [List.mem_cons, List.not_mem_nil, or_false] at hu; rcases hu with rfl | rfl | rfl <;> rfl) rfl (by simp)) ?_ ?_
          ·
           rintro _ _ rfl
           refine ⟨.inl (by kernel_rfl), ?_⟩
           refine D_done (by kernel_rfl) ?_
           obtain rfl := some1 hm
           refine x_pullb 2 rfl ?_
           refine x_pullb 3 rfl ?_
           refine x_front3 [_, _, _, _] hs699 hs610 hs615 R rfl ?_
           refine x_front3 [_, _, _, _] hs615 hs699 hs610 R rfl ?_
           exact x_join (e' := [(1, .pointer (some ⟨g369, 0, none⟩)), (5, .slice A611 (l623).length c612), (6, .slice (subA A619 c620 j641 5) (l639).length (c620 - j641)), (7, .slice A616 (l624).length c617), (8, .int .i64 ((k625 : Int))), (9, .pointer (some ⟨g638, 0, none⟩)), (10, .pointer (some ⟨g703, 0, none⟩)), (22, .slice A2 (s1.Rules).length c3), (23, .int .i64 ((s1.Rules.length : Int))), (24, .int .i64 ((k625 : Int)))]) (hp' := (g369, Cl 24 [.int .i64 (s1.Period), .int .i64 (s1.Events), .slice A2 (s1.Rules).length c3]) :: (g638, Cl 29 [.int .i64 (x628.From), .int .i64 (x628.To), .int .i64 (x628.Min), .int .i64 (x628.Max), .int .i64 (x628.Weight)]) :: (g703, Cl 24 [.int .i64 (s1.Period), .int .i64 (s1.Events), .slice A697 (l695).length c698]) :: (hs610 ++ (hs615 ++ (hs699 ++ R)))) ⟨rfl, rfl, rfl, rfl, rfl, rfl, rfl, rfl, rfl, rfl, trivial⟩ (.cons_cons _ (.cons_cons _ (.cons_cons _ (.cons _ (sub_app hs610 (sub_app hs615 (sub_app hs699 (.refl _)))))))) ⟨g703, A697, c698, hs699, rfl, rfl, (Base.Le.refl _), h701⟩
          exact R_nil
         exact R_nil
        exact R_nil
       exact R_nil
      refine R_do (Base.Le.refl _) rfl rfl (u_alloc [.int .i64 0, .int .i64 0, .slice none 0 0] zero24 rfl) ?_ ?_
      ·
       rintro _ _ ⟨g703, rfl, rfl⟩
       refine ⟨.inr (.cons _ (.cons_cons _ (.cons_cons _ (sub_app hs610 (sub_app hs615 (.refl _)))))), ?_⟩
       refine D_all [6] (by kernel_rfl) rfl ?_
       refine R_do (Base.Le.refl _) rfl rfl (u_bslice (el := 22) [(0, .slice A616 (l624).length c617), (1, .slice (subA A619 c620 j641 5) (l639).length (c620 - j641))] [.slice A616 (l624).length c617, .slice (subA A619 c620 j641 5) (l639).length (c620 - j641)] rfl (fun _ => by kernel_rfl)) ?_ ?_
       ·
        rintro _ _ ⟨g694, rfl, rfl⟩
        refine ⟨.inr (.cons _ (.cons _ (.cons_cons _ (.cons_cons _ (sub_app hs610 (sub_app hs615 (.refl _))))))), ?_⟩
        refine D_all [7] (by kernel_rfl) rfl ?_
        refine R_do (Base.Le.refl _) rfl rfl (u_callWF [_, _, _, _] (hs610 ++ (hs615 ++ R)) _ rfl call29 rfl (fun w ho => cSlicesConcat _ [] [l624, l639] (some ⟨g694, 0, none⟩) 2 (FZ.arrL (i := 0) (css := [[.slice A616 (l624).length c617], [.slice (subA A619 c620 j641 5) (l639).length (c620 - j641)]]) (rest := []) ho rfl rfl ⟨(RT.list_mk (OS.now (o := (OT.fr rPlanRule)) (l := l624) (hs := hs615) h618 ho (.cons _ (.cons _ (.cons _ (.cons _ (sub_skip hs610 (List.sublist_append_left _ _)))))))), ⟨(RT.list_mk (h648.old ho)), trivial⟩⟩ ⟨Nat.le_of_ble_eq_true rfl, Nat.le_of_ble_eq_true rfl⟩) l695 hcl696)) ?_ ?_
        ·
         rintro _ _ ⟨_, _, rfl, A697, c698, hs699, rfl, hq702, h700⟩
         obtain rfl := List.append_cancel_right hq702
         have h701 := flat_fz (w' := b607.w) (cat_flat (fun _ _ _ _ h => h) (cat_flat (fun _ _ _ _ h => h) (cat_flat (fun _ _ _ _ h => h) (cat_flat (fun _ _ _ _ h => h) (fun _ _ _ _ h => h))))) h700
         refine ⟨.inr (.cons _ (.cons _ (.cons_cons _ (.cons_cons _ (sub_skip hs699 (sub_app hs610 (sub_app hs615 (.refl _)))))))), ?_⟩
         refine D_all [8] (by kernel_rfl) rfl ?_
         refine R_do (Base.Le.refl _) rfl rfl (Stable.does (st_build (v := .agg #[.int .i64 (s1.Period), .int .i64 (s1.Events), .slice A697 (l695).length c698]) [(0, .int .i64 (s1.Period)), (1, .int .i64 (s1.Events)), (2, .slice A697 (l695).length c698)] rfl (fun _ => by kernel_rfl))) ?_ ?_
         ·
          rintro _ _ ⟨rfl, rfl⟩
          refine ⟨.inr (.cons _ (.cons _ (.cons_cons _ (.cons_cons _ (sub_skip hs699 (sub_app hs610 (sub_app hs615 (.refl _)))))))), ?_⟩
          refine D_all [10] (by kernel_rfl) rfl ?_
          refine R_do (Base.Le.refl _) rfl rfl (u_storeN (vs := [_, _, _]) 1 3 rfl rfl rfl siz24 rfl (by intro u hu; simp only [List.mem_cons, List.not_mem_nil, or_false] at hu; rcases hu with rfl | rfl | rfl <;> rfl) rfl (by simp)) ?_ ?_
          ·
           rintro _ _ rfl
           refine ⟨.inl (by kernel_rfl), ?_⟩
           refine D_done (by kernel_rfl) ?_
           obtain rfl := some1 hm
           refine x_pullb 1 rfl ?_
           refine x_pullb 2 rfl ?_
           refine x_pullb 3 rfl ?_
           refine x_front3 [_, _, _, _] hs699 hs610 hs615 R rfl ?_
           refine x_front3 [_, _, _, _] hs615 hs699 hs610 R rfl ?_
           exact x_join (e' := [(1, .pointer (some ⟨g369, 0, none⟩)), (5, .slice A611 (l623).length c612), (6, .slice (subA A619 c620 j641 5) (l639).length (c620 - j641)), (7, .slice A616 (l624).length c617), (8, .int .i64 ((k625 : Int))), (9, .pointer (some ⟨g638, 0, none⟩)), (10, .pointer (some ⟨g703, 0, none⟩)), (22, .slice A2 (s1.Rules).length c3), (23, .int .i64 ((s1.Rules.length : Int))), (24, .int .i64 ((k625 : Int)))]) (hp' := (g369, Cl 24 [.int .i64 (s1.Period), .int .i64 (s1.Events), .slice A2 (s1.Rules).length c3]) :: (g638, Cl 29 [.int .i64 (x628.From), .int .i64 (x628.To), .int .i64 (x628.Min), .int .i64 (x628.Max), .int .i64 (x628.Weight)]) :: (g703, Cl 24 [.int .i64 (s1.Period), .int .i64 (s1.Events), .slice A697 (l695).length c698]) :: (hs610 ++ (hs615 ++ (hs699 ++ R)))) ⟨rfl, rfl, rfl, rfl, rfl, rfl, rfl, rfl, rfl, rfl, trivial⟩ (.cons_cons _ (.cons_cons _ (.cons_cons _ (.cons _ (sub_app hs610 (sub_app hs615 (sub_app hs699 (.refl _)))))))) ⟨g703, A697, c698, hs699, rfl, rfl, (Base.Le.refl _), h701⟩
          exact R_nil
         exact R_nil
        exact R_nil
       exact R_nil
      exact R_nil
     ·
      rintro b674 _ _ ⟨g681, A678, c679, hs677, rfl, rfl, hle675, h680⟩
      have hm := hk683
      refine c_seq ?_
      refine c_region ?_
      refine t_st rfl (st_loadD (vs := [_, _, _]) 2 3 rfl agg24 rfl rfl rfl) ?_
      obtain ⟨l704, hcl705, hm⟩ := bindS hm
      refine t_do rfl (u_callWF [_, _, _] (hs610 ++ (hs615 ++ (hs677 ++ R))) _ rfl call25 rfl (fun w ho => cPlanSolve_2 _ [] (⟨s1.Period, s1.Events, l682⟩ : PlanPeriodic) A678 c679 (OS.now (o := (OT.fr rPlanRule)) (l := l682) (hs := hs677) h680 ho (.cons _ (.cons _ (.cons _ (sub_skip hs610 (sub_skip hs615 (List.sublist_append_left _ _))))))) l704 hcl705)) ?_
      rintro _ _ ⟨_, _, rfl, A706, c707, hs708, rfl, hq711, h709, hnz712⟩
      obtain rfl := List.append_cancel_right hq711
      have h710 := flat_fz (w' := b674.w) (fun _ _ _ _ h => h) h709
      refine t_st rfl (st_neqnil_z rfl rfl hnz712 sl30) ?_
      refine t_nil ?_
      refine x_then_normal ?_
      refine c_cond _ rfl (fun hc713 => ?_) (fun hc713 => ?_)
      ·
       rw [if_neg (fun hh => Bool.noConfusion (hh.symm.trans (notT hc713)))] at hm
       refine c_seq ?_
       refine c_region ?_
       refine t_st rfl (st_move rfl) ?_
       refine t_st rfl (st_loadD (vs := [_, _, _, _, _]) 1 5 rfl agg29 rfl rfl rfl) ?_
       refine t_do rfl (u_bslice (el := 29) [(0, .agg #[.int .i64 (x628.From), .int .i64 (x628.To), .int .i64 (x628.Min), .int .i64 (x628.Max), .int .i64 (x628.Weight)])] [.int .i64 (x628.From), .int .i64 (x628.To), .int .i64 (x628.Min), .int .i64 (x628.Max), .int .i64 (x628.Weight)] rfl (fun _ => by kernel_rfl)) ?_
       rintro _ _ ⟨g714, rfl, rfl⟩
       obtain ⟨_, h715, hm⟩ := bindS hm
       have h715 := room_some h715
       refine t_front3 [_, _, _, _] hs708 hs610 hs615 (hs677 ++ R) rfl ?_
       refine t_do rfl (u_appOS (r := rPlanRule) (l := l624) [_, _, _, _] (hs708 ++ (hs610 ++ (hs677 ++ R))) [[.int .i64 (x628.From), .int .i64 (x628.To), .int .i64 (x628.Min), .int .i64 (x628.Max), .int .i64 (x628.Weight)]] [x628] rfl (by decide) sl22 inf29 rfl rfl rfl rfl (h618.le hle675) rfl (fun w ho => Rd.own (i := 0) ho rfl) ⟨⟨[.int .i64 (x628.From)], _, rfl, rfl, ⟨[.int .i64 (x628.To)], _, rfl, rfl, ⟨[.int .i64 (x628.Min)], _, rfl, rfl, ⟨[.int .i64 (x628.Max)], _, rfl, rfl, rfl⟩⟩⟩⟩, trivial⟩ h715) ?_
       rintro _ _ ⟨hs716, rfl, h717⟩
       obtain ⟨A718, c719, rfl, _⟩ := h717.form
       refine t_st rfl (st_assign rfl) ?_
       refine t_nil ?_
       refine x_then_normal ?_
       refine c_region ?_
       refine t_st rfl (st_move rfl) ?_
       refine t_st rfl (st_move rfl) ?_
       refine t_do rfl (u_bslice (el := 3) [(0, .int .i64 ((k625 : Int)))] [.int .i64 ((k625 : Int))] rfl (fun _ => by kernel_rfl)) ?_
       rintro _ _ ⟨g720, rfl, rfl⟩
       obtain ⟨_, h721, hm⟩ := bindS hm
       have h721 := room_some h721
       refine t_front3 [_, _, _, _, _] hs716 hs708 hs610 (hs677 ++ R) rfl ?_
       refine t_do rfl (u_appOS (r := (RT.int .i64)) (l := l623) [_, _, _, _, _] (hs716 ++ (hs708 ++ (hs677 ++ R))) [[.int .i64 ((k625 : Int))]] [(k625 : Int)] rfl (by decide) sl30 inf3 rfl rfl rfl rfl (h613.le hle675) rfl (fun w ho => Rd.own (i := 0) ho rfl) ⟨rfl, trivial⟩ h721) ?_
       rintro _ _ ⟨hs722, rfl, h723⟩
       obtain ⟨A724, c725, rfl, _⟩ := h723.form
       refine t_st rfl (st_assign rfl) ?_
       refine t_nil ?_
       refine x_block_normal ?_
       refine x_then_normal ?_
       refine c_region ?_
       refine t_st rfl (st_add rfl rfl (by omega)) ?_
       refine t_st rfl (st_move rfl) ?_
       refine t_nil ?_
       refine x_pullb 2 rfl ?_
       refine x_front2 [_, _, _, _, _] hs722 hs716 (hs708 ++ (hs677 ++ R)) rfl ?_
       refine x_front2 [_, _, _, _, _] hs716 hs722 (hs708 ++ (hs677 ++ R)) rfl ?_
       obtain rfl := some1 hm
       exact x_againS (e' := [(1, .pointer (some ⟨g369, 0, none⟩)), (5, .slice A724 (l623 ++ [(k625 : Int)]).length c725), (6, .slice (subA A619 c620 j641 5) (l639).length (c620 - j641)), (7, .slice A718 (l624 ++ [x628]).length c719), (22, .slice A2 (s1.Rules).length c3), (23, .int .i64 ((s1.Rules.length : Int))), (24, .int .i64 ((k625 : Int) + 1))]) (hp' := (g369, Cl 24 [.int .i64 (s1.Period), .int .i64 (s1.Events), .slice A2 (s1.Rules).length c3]) :: (hs722 ++ (hs716 ++ R))) ⟨rfl, rfl, rfl, rfl, rfl, rfl, rfl, trivial⟩ (.cons_cons _ (.cons _ (.cons _ (.cons _ (.cons _ (sub_app hs722 (sub_app hs716 (sub_skip hs708 (sub_skip hs677 (.refl _)))))))))) ⟨(subA A619 c620 j641 5), (c620 - j641), A724, c725, hs722, A718, c719, hs716, rfl, rfl, ((hle608.trans hle675)), (h648.le hle675), h723, h717⟩
      ·
       rw [if_pos (notF hc713)] at hm
       refine c_skip ?_
       refine x_block_normal ?_
       refine x_then_normal ?_
       refine c_region ?_
       refine t_st rfl (st_add rfl rfl (by omega)) ?_
       refine t_st rfl (st_move rfl) ?_
       refine t_nil ?_
       refine x_front3 [_, _, _] hs708 hs610 hs615 (hs677 ++ R) rfl ?_
       refine x_front3 [_, _, _] hs615 hs708 hs610 (hs677 ++ R) rfl ?_
       obtain rfl := some1 hm
       exact x_againS (e' := [(1, .pointer (some ⟨g369, 0, none⟩)), (5, .slice A611 (l623).length c612), (6, .slice (subA A619 c620 j641 5) (l639).length (c620 - j641)), (7, .slice A616 (l624).length c617), (22, .slice A2 (s1.Rules).length c3), (23, .int .i64 ((s1.Rules.length : Int))), (24, .int .i64 ((k625 : Int) + 1))]) (hp' := (g369, Cl 24 [.int .i64 (s1.Period), .int .i64 (s1.Events), .slice A2 (s1.Rules).length c3]) :: (hs610 ++ (hs615 ++ R))) ⟨rfl, rfl, rfl, rfl, rfl, rfl, rfl, trivial⟩ (.cons_cons _ (.cons _ (.cons _ (sub_app hs610 (sub_app hs615 (sub_skip hs708 (sub_skip hs677 (.refl _)))))))) ⟨(subA A619 c620 j641 5), (c620 - j641), A611, c612, hs610, A616, c617, hs615, rfl, rfl, ((hle608.trans hle675)), (h648.le hle675), (h613.le hle675), (h618.le hle675)⟩
    ·
     rintro b607 _ _ ⟨A619, c620, A611, c612, hs610, A616, c617, hs615, rfl, rfl, hle608, h621, h613, h618⟩
     have hm := (unc3E hk627)
     refine c_seq ?_
     refine c_region ?_
     refine t_st rfl (st_lss_f rfl rfl (by omega)) ?_
     refine t_nil ?_
     refine x_then_normal ?_
     refine c_seq ?_
     refine c_cond_f rfl ?_
     refine c_exit ?_
     refine x_then_exit ?_
     refine x_then_exit ?_
     refine x_block_out ?_
     refine x_then_normal ?_
     refine c_seq ?_
     refine c_region ?_
     refine t_st rfl (st_move rfl) ?_
     refine t_st rfl (st_assign rfl) ?_
     refine t_st rfl (st_assign rfl) ?_
     refine t_nil ?_
     refine x_then_normal ?_
     refine c_ret ?_
     obtain ⟨rfl, rfl⟩ := some2 hm
     exact retM (rs := [.tmp 2, .tmp 3]) [.slice A611 (l623).length c612, .int .i64 (0)] (hle376.trans hle608) (by decide) rfl ⟨rfl, ⟨rfl, trivial⟩⟩ rfl (hp' := (hs610 ++ R)) (.cons _ (sub_app hs610 (sub_skip hs615 (.refl _)))) ⟨A611, c612, hs610, rfl, rfl, h613⟩

set_option maxRecDepth 20000 in
theorem cFishkeep2PlanCore_1 (b : Base) (R : Hp) (x2 : Int) (x3 : Int) (x4 : Int) (l8 : (List PlanRule)) (g1 : Nat) (A5 : Option Addr) (c6 : Nat) (h7 : FZ rPlanRule b.w A5 c6 l8) (x15 : Bool) (hm : mFishkeep2PlanCore_1 x2 x3 x4 l8 = some x15) :
    CallsG Try.prog 14 [.int .i64 (x2), .pointer (some ⟨g1, 0, none⟩)] b ((g1, Cl 24 [.int .i64 (x3), .int .i64 (x4), .slice A5 (l8).length c6]) :: R) (fun v b' hp' => .bool (x15) = v ∧ (g1, Cl 24 [.int .i64 (x3), .int .i64 (x4), .slice A5 (l8).length c6]) :: R = hp') := by
  refine fn_enterG 13 Try.func14 rfl Try.ntmps14 rfl ?_
  unfold mFishkeep2PlanCore_1 at hm
  refine c_seq ?_
  refine c_region ?_
  refine t_st rfl (st_assign rfl) ?_
  refine t_nil ?_
  refine x_then_normal ?_
  obtain ⟨x19, hj20, hk20⟩ := bindS hm
  refine c_join (fun b17 e' hp' => [(3, .bool (x19))] = e' ∧ (g1, Cl 24 [.int .i64 (x3), .int .i64 (x4), .slice A5 (l8).length c6]) :: R = hp' ∧ b.Le b17) ?_ ?_
  ·
   have hm := hj20
   refine c_region ?_
   refine t_st rfl (st_move rfl) ?_
   refine t_bool rfl (st_lss rfl rfl) (fun hc21 => ?_) (fun hc21 => ?_)
   ·
    rw [if_pos hc21] at hm
    refine t_st rfl (st_move rfl) ?_
    refine t_no 6 rfl rfl rfl rfl rfl ?_
    refine t_no 6 rfl rfl rfl rfl rfl ?_
    refine t_no 6 rfl rfl rfl rfl rfl ?_
    refine t_no 6 rfl rfl rfl rfl rfl ?_
    refine t_no 6 rfl rfl rfl rfl rfl ?_
    refine t_st rfl (st_pick_t rfl rfl) ?_
    refine t_st rfl (st_assign rfl) ?_
    refine t_nil ?_
    obtain rfl := some1 hm
    exact x_join (e' := [(3, .bool (true))]) (hp' := (g1, Cl 24 [.int .i64 (x3), .int .i64 (x4), .slice A5 (l8).length c6]) :: R) ⟨rfl, trivial⟩ (.cons_cons _ (.refl _)) ⟨rfl, rfl, (Base.Le.refl _)⟩
   ·
    rw [if_neg hc21] at hm
    refine t_st rfl (st_move rfl) ?_
    refine t_yes 6 rfl rfl rfl ?_
    refine t_st rfl (st_move rfl) ?_
    refine t_yes 6 rfl rfl rfl ?_
    refine t_st rfl (st_field rfl fld24_2) ?_
    refine t_yes 6 rfl rfl rfl ?_
    refine t_st rfl (st_load 0 rfl one22 rfl rfl) ?_
    refine t_yes 6 rfl rfl rfl ?_
    refine t_st rfl (st_len rfl sl22) ?_
    refine t_yes 6 rfl rfl rfl ?_
    refine t_st rfl (st_geq rfl rfl) ?_
    refine t_st rfl (st_pick_f rfl rfl) ?_
    refine t_st rfl (st_assign rfl) ?_
    refine t_nil ?_
    obtain rfl := some1 hm
    exact x_join (e' := [(3, .bool (decide ((l8.length : Int) ≤ x2)))]) (hp' := (g1, Cl 24 [.int .i64 (x3), .int .i64 (x4), .slice A5 (l8).length c6]) :: R) ⟨rfl, trivial⟩ (.cons_cons _ (.refl _)) ⟨rfl, rfl, (Base.Le.refl _)⟩
  ·
   rintro b17 _ _ ⟨rfl, rfl, hle18⟩
   have hm := hk20
   refine c_ret ?_
   obtain rfl := some1 hm
   exact retM (rs := [.tmp 3]) [.bool (x19)] hle18 (by decide) rfl ⟨rfl, trivial⟩ rfl (hp' := (g1, Cl 24 [.int .i64 (x3), .int .i64 (x4), .slice A5 (l8).length c6]) :: R) (.cons_cons _ (.refl _)) ⟨rfl, rfl⟩

set_option maxRecDepth 20000 in
theorem cSlicesIndexFunc_2 (b : Base) (R : Hp) (x7 : Int) (x8 : Int) (l12 : (List PlanRule)) (l13 : (List Int)) (g6 : Nat) (A9 : Option Addr) (c10 : Nat) (A3 : Option Addr) (c4 : Nat) (hs2 : Hp) (h11 : FZ rPlanRule b.w A9 c10 l12) (h5 : OS 3 (OT.fr (RT.int .i64)) b.w (.slice A3 l13.length c4) l13 hs2) (x66 : Int) (hm : mSlicesIndexFunc_2 x7 x8 l12 l13 = some x66) :
    CallsG Try.prog 30 [.slice A3 (l13).length c4, .func (.func 14) #[] #[.pointer (some ⟨g6, 0, none⟩)]] b ((g6, Cl 24 [.int .i64 (x7), .int .i64 (x8), .slice A9 (l12).length c10]) :: (hs2 ++ R)) (fun v b' hp' => .int .i64 (x66) = v ∧ (g6, Cl 24 [.int .i64 (x7), .int .i64 (x8), .slice A9 (l12).length c10]) :: (hs2 ++ R) = hp') := by
  refine fn_enterG 19 Try.func30 rfl Try.ntmps30 rfl ?_
  unfold mSlicesIndexFunc_2 at hm
  refine c_seq ?_
  refine c_region ?_
  refine t_st rfl (st_assign rfl) ?_
  refine t_nil ?_
  refine x_then_normal ?_
  refine c_seq ?_
  refine c_seq ?_
  refine c_region ?_
  refine t_st rfl (st_move rfl) ?_
  refine t_st rfl (st_len rfl sl30) ?_
  refine t_st rfl (st_move rfl) ?_
  refine t_nil ?_
  refine x_then_normal ?_
  refine c_block ?_
  have hb68 : l13.length ≤ 9223372036854775807 := (OS.len h5)
  obtain ⟨t93, hl94, hk95⟩ := bindS hm
  refine c_forM (fun k92 => fun _ => fun b90 e' hp' => [(0, .slice A3 (l13).length c4), (1, .func (.func 14) #[] #[.pointer (some ⟨g6, 0, none⟩)]), (7, .int .i64 ((l13.length : Int))), (8, .int .i64 ((k92 : Int)))] = e' ∧ (g6, Cl 24 [.int .i64 (x7), .int .i64 (x8), .slice A9 (l12).length c10]) :: (hs2 ++ R) = hp' ∧ b.Le b90) hl94 (e' := [(0, .slice A3 (l13).length c4), (1, .func (.func 14) #[] #[.pointer (some ⟨g6, 0, none⟩)]), (7, .int .i64 ((l13.length : Int))), (8, .int .i64 0)]) (hp' := (g6, Cl 24 [.int .i64 (x7), .int .i64 (x8), .slice A9 (l12).length c10]) :: (hs2 ++ R)) ⟨rfl, rfl, rfl, rfl, trivial⟩ (.cons_cons _ (sub_app hs2 (.refl _))) ⟨rfl, rfl, (Base.Le.refl _)⟩ ?_ ?_
  ·
   rintro k92 _ b90 _ _ oL67 hknL67 ⟨rfl, rfl, hle91⟩ hstepL67 houtL67
   unfold mSlicesIndexFunc_2_L67 at hstepL67
   have hm := hstepL67
   refine c_seq ?_
   refine c_region ?_
   refine t_st rfl (st_lss_t rfl rfl (by omega)) ?_
   refine t_nil ?_
   refine x_then_normal ?_
   refine c_seq ?_
   refine c_cond_t rfl ?_
   refine c_skip ?_
   refine x_then_normal ?_
   refine c_seq ?_
   refine c_block ?_
   refine c_seq ?_
   refine c_region ?_
   refine t_st rfl (st_move rfl) ?_
   refine t_st rfl (st_assign rfl) ?_
   refine t_nil ?_
   refine x_then_normal ?_
   refine c_seq ?_
   refine c_region ?_
   refine t_st rfl (st_move rfl) ?_
   refine t_st rfl (st_move rfl) ?_
   refine t_st rfl (st_move rfl) ?_
   obtain ⟨x96, h97, hm⟩ := bindS hm
   obtain ⟨j98, hj99, hx100⟩ := idx_some h97
   obtain ⟨cs101, hs106, P107, P108, hq109, hr102, hcs103, hA104, hlt105, hb110, hho111⟩ := OS.get (sz := 1) rfl (by decide) (h5.le hle91) hx100
   obtain ⟨rfl, rfl⟩ := hr102
   refine t_st rfl (st_index_old j98 rfl rfl hj99 hlt105 hA104 sl30) ?_
   refine t_st rfl (st_load_rd rfl one3 (fun w ho => hcs103 w _ ho (.cons _ (List.sublist_append_left _ _)) 0 _ rfl)) ?_
   obtain ⟨x112, hcl113, hm⟩ := bindS hm
   refine t_callvG #[] #[.pointer (some ⟨g6, 0, none⟩)] [.int .i64 (x96)] rfl rfl call14 rfl (cFishkeep2PlanCore_1 _ _ x96 x7 x8 l12 g6 A9 c10 (h11.le hle91) x112 hcl113) ?_
   rintro _ b114 _ hle115 ⟨rfl, rfl⟩
   refine t_nil ?_
   refine x_then_normal ?_
   refine c_cond _ rfl (fun hc116 => ?_) (fun hc116 => ?_)
   ·
    rw [if_pos hc116] at hm
    refine c_seq ?_
    refine c_region ?_
    refine t_st rfl (st_move rfl) ?_
    refine t_st rfl (st_assign rfl) ?_
    refine t_nil ?_
    refine x_then_normal ?_
    refine c_ret ?_
    refine x_block_ret ?_
    refine x_then_ret ?_
    refine x_then_ret ?_
    refine x_block_ret ?_
    refine x_then_ret ?_
    have hq117 := houtL67 _ (Option.some.inj hm).symm
    rw [hq117] at hk95
    have hm := elimR hk95
    obtain rfl := some1 hm
    exact retM (rs := [.tmp 4]) [.int .i64 ((k92 : Int))] (hle91.trans hle115) (by decide) rfl ⟨rfl, trivial⟩ rfl (hp' := (g6, Cl 24 [.int .i64 (x7), .int .i64 (x8), .slice A9 (l12).length c10]) :: (hs2 ++ R)) (.cons_cons _ (sub_app hs2 (.refl _))) ⟨rfl, rfl⟩
   ·
    rw [if_neg (fun hh => Bool.noConfusion (hh.symm.trans hc116))] at hm
    refine c_skip ?_
    refine x_block_normal ?_
    refine x_then_normal ?_
    refine c_region ?_
    refine t_st rfl (st_add rfl rfl (by omega)) ?_
    refine t_st rfl (st_move rfl) ?_
    refine t_nil ?_
    exact x_againM () (Option.some.inj hm).symm (e' := [(0, .slice A3 (l13).length c4), (1, .func (.func 14) #[] #[.pointer (some ⟨g6, 0, none⟩)]), (7, .int .i64 ((l13.length : Int))), (8, .int .i64 ((k92 : Int) + 1))]) (hp' := (g6, Cl 24 [.int .i64 (x7), .int .i64 (x8), .slice A9 (l12).length c10]) :: (hs2 ++ R)) ⟨rfl, rfl, rfl, rfl, trivial⟩ (.cons_cons _ (sub_app hs2 (.refl _))) ⟨rfl, rfl, ((hle91.trans hle115))⟩
  ·
   rintro _ b90 _ _ ⟨rfl, rfl, hle91⟩ hq118
   rw [hq118] at hk95
   have hm := elimL hk95
   refine c_seq ?_
   refine c_region ?_
   refine t_st rfl (st_lss_f rfl rfl (by omega)) ?_
   refine t_nil ?_
   refine x_then_normal ?_
   refine c_seq ?_
   refine c_cond_f rfl ?_
   refine c_exit ?_
   refine x_then_exit ?_
   refine x_then_exit ?_
   refine x_block_out ?_
   refine x_then_normal ?_
   refine c_seq ?_
   refine c_region ?_
   refine t_st rfl (st_assign rfl) ?_
   refine t_nil ?_
   refine x_then_normal ?_
   refine c_ret ?_
   obtain rfl := some1 hm
   exact retM (rs := [.tmp 4]) [.int .i64 ((-1))] hle91 (by decide) rfl ⟨rfl, trivial⟩ rfl (hp' := (g6, Cl 24 [.int .i64 (x7), .int .i64 (x8), .slice A9 (l12).length c10]) :: (hs2 ++ R)) (.cons_cons _ (sub_app hs2 (.refl _))) ⟨rfl, rfl⟩

set_option maxRecDepth 20000 in
theorem cSlicesContainsFunc (b : Base) (R : Hp) (x7 : Int) (x8 : Int) (l12 : (List PlanRule)) (l13 : (List Int)) (g6 : Nat) (A9 : Option Addr) (c10 : Nat) (A3 : Option Addr) (c4 : Nat) (hs2 : Hp) (h11 : FZ rPlanRule b.w A9 c10 l12) (h5 : OS 3 (OT.fr (RT.int .i64)) b.w (.slice A3 l13.length c4) l13 hs2) (x18 : Bool) (hm : mSlicesContainsFunc x7 x8 l12 l13 = some x18) :
    CallsG Try.prog 13 [.slice A3 (l13).length c4, .func (.func 14) #[] #[.pointer (some ⟨g6, 0, none⟩)]] b ((g6, Cl 24 [.int .i64 (x7), .int .i64 (x8), .slice A9 (l12).length c10]) :: (hs2 ++ R)) (fun v b' hp' => .bool (x18) = v ∧ (g6, Cl 24 [.int .i64 (x7), .int .i64 (x8), .slice A9 (l12).length c10]) :: (hs2 ++ R) = hp') := by
  refine fn_enterG 9 Try.func13 rfl Try.ntmps13 rfl ?_
  unfold mSlicesContainsFunc at hm
  refine c_seq ?_
  refine c_region ?_
  refine t_st rfl (st_assign rfl) ?_
  refine t_nil ?_
  refine x_then_normal ?_
  refine c_seq ?_
  refine c_region ?_
  refine t_st rfl (st_move rfl) ?_
  refine t_st rfl (st_move rfl) ?_
  obtain ⟨x19, hcl20, hm⟩ := bindS hm
  refine t_out1 [_] [] hs2 R rfl ?_
  refine t_callG _ rfl call30 rfl (cSlicesIndexFunc_2 _ _ x7 x8 l12 l13 g6 A9 c10 A3 c4 hs2 h11 h5 x19 hcl20) ?_
  rintro _ b21 _ hle22 ⟨rfl, rfl⟩
  refine t_in1 [_] [] hs2 R rfl ?_
  refine t_st rfl (st_geq rfl rfl) ?_
  refine t_st rfl (st_assign rfl) ?_
  refine t_nil ?_
  refine x_then_normal ?_
  refine c_ret ?_
  obtain rfl := some1 hm
  exact retM (rs := [.tmp 4]) [.bool (decide (0 ≤ x19))] hle22 (by decide) rfl ⟨rfl, trivial⟩ rfl (hp' := (g6, Cl 24 [.int .i64 (x7), .int .i64 (x8), .slice A9 (l12).length c10]) :: (hs2 ++ R)) (.cons_cons _ (sub_app hs2 (.refl _))) ⟨rfl, rfl⟩

set_option maxRecDepth 20000 in
theorem cFishkeep2PlanCore_2 (b : Base) (R : Hp) (x8 : Int) (x9 : Int) (x10 : Int) (l14 : (List PlanRule)) (l15 : (List Int)) (g6 : Nat) (g7 : Nat) (A11 : Option Addr) (c12 : Nat) (A3 : Option Addr) (c4 : Nat) (hs2 : Hp) (h13 : FZ rPlanRule b.w A11 c12 l14) (h5 : OS 3 (OT.fr (RT.int .i64)) b.w (.slice A3 l15.length c4) l15 hs2) (x191 : Int) (x192 : Int) (l193 : (List PlanRule)) (hm : mFishkeep2PlanCore_2 x8 x9 x10 l14 l15 = some (x191, x192, l193)) :
    CallsG Try.prog 15 [.int .i64 (x8), .pointer (some ⟨g6, 0, none⟩), .pointer (some ⟨g7, 0, none⟩)] b ((g6, Cl 24 [.int .i64 (x9), .int .i64 (x10), .slice A11 (l14).length c12]) :: (g7, Cl 30 [.slice A3 (l15).length c4]) :: (hs2 ++ R)) (fun v b' hp' => ∃ (A188 : Option Addr), ∃ (c189 : Nat), ∃ (hs187 : Hp), .agg #[.int .i64 (x191), .int .i64 (x192), .slice A188 (l193).length c189] = v ∧ (g6, Cl 24 [.int .i64 (x9), .int .i64 (x10), .slice A11 (l14).length c12]) :: (g7, Cl 30 [.slice A3 (l15).length c4]) :: (hs187 ++ (hs2 ++ R)) = hp' ∧ OS 29 (OT.fr rPlanRule) b'.w (.slice A188 l193.length c189) l193 hs187) := by
  refine fn_enterG 34 Try.func15 rfl Try.ntmps15 rfl ?_
  unfold mFishkeep2PlanCore_2 at hm
  refine c_seq ?_
  refine c_region ?_
  refine t_do rfl (u_alloc [.int .i64 0, .int .i64 0, .slice none 0 0] zero24 rfl) ?_
  rintro _ _ ⟨g194, rfl, rfl⟩
  refine t_nil ?_
  refine x_then_normal ?_
  refine c_seq ?_
  refine c_region ?_
  refine t_st rfl (st_field rfl fld24_0) ?_
  refine t_st rfl (st_load 1 rfl one3 rfl rfl) ?_
  refine t_st rfl (st_field rfl fld24_1) ?_
  refine t_st rfl (st_load 1 rfl one3 rfl rfl) ?_
  refine t_st rfl (st_build (v := .agg #[.int .i64 (x9), .int .i64 (x10), .slice none 0 0]) [(0, .int .i64 (x9)), (1, .int .i64 (x10))] rfl (fun _ => by kernel_rfl)) ?_
  refine t_do rfl (u_alloc [.int .i64 0, .int .i64 0, .slice none 0 0] zero24 rfl) ?_
  rintro _ _ ⟨g195, rfl, rfl⟩
  refine t_do rfl (u_storeN (vs := [_, _, _]) 0 3 rfl rfl rfl siz24 rfl (by intro u hu; simp only [List.mem_cons, List.not_mem_nil, or_false] at hu; rcases hu with rfl | rfl | rfl <;> rfl) rfl (by simp)) ?_
  rintro _ _ rfl
  refine t_nil ?_
  refine x_then_normal ?_
  refine c_seq ?_
  refine c_seq ?_
  refine c_region ?_
  refine t_st rfl (st_load 3 rfl one30 rfl rfl) ?_
  refine t_st rfl (st_len rfl sl30) ?_
  refine t_st rfl (st_move rfl) ?_
  refine t_nil ?_
  refine x_then_normal ?_
  refine c_block ?_
  have hb197 : l15.length ≤ 9223372036854775807 := (OS.len h5)
  refine c_pullb 3 rfl ?_
  refine c_pullb 1 rfl ?_
  refine c_pullb 2 rfl ?_
  refine c_pullb 3 rfl ?_
  obtain ⟨l311, hl313, hk314⟩ := bindS hm
  refine c_forS (fun k312 => fun l311 => fun b304 e' hp' => ∃ (A308 : Option Addr), ∃ (c309 : Nat), ∃ (hs307 : Hp), [(0, .int .i64 (x8)), (1, .pointer (some ⟨g6, 0, none⟩)), (4, .pointer (some ⟨g194, 0, none⟩)), (5, .pointer (some ⟨g195, 0, none⟩)), (13, .slice A3 (l15).length c4), (14, .int .i64 ((l15.length : Int))), (15, .int .i64 ((k312 : Int)))] = e' ∧ (g6, Cl 24 [.int .i64 (x9), .int .i64 (x10), .slice A11 (l14).length c12]) :: (g194, Cl 24 [.int .i64 (0), .int .i64 (0), .slice none 0 0]) :: (g195, Cl 24 [.int .i64 (x9), .int .i64 (x10), .slice A308 (l311).length c309]) :: (g7, Cl 30 [.slice A3 (l15).length c4]) :: (hs2 ++ (hs307 ++ R)) = hp' ∧ b.Le b304 ∧ OS 29 (OT.fr rPlanRule) b304.w (.slice A308 l311.length c309) l311 hs307) hl313 (e' := [(0, .int .i64 (x8)), (1, .pointer (some ⟨g6, 0, none⟩)), (4, .pointer (some ⟨g194, 0, none⟩)), (5, .pointer (some ⟨g195, 0, none⟩)), (13, .slice A3 (l15).length c4), (14, .int .i64 ((l15.length : Int))), (15, .int .i64 0)]) (hp' := (g6, Cl 24 [.int .i64 (x9), .int .i64 (x10), .slice A11 (l14).length c12]) :: (g194, Cl 24 [.int .i64 (0), .int .i64 (0), .slice none 0 0]) :: (g195, Cl 24 [.int .i64 (x9), .int .i64 (x10), .slice none 0 0]) :: (g7, Cl 30 [.slice A3 (l15).length c4]) :: (hs2 ++ ([] ++ R))) ⟨rfl, rfl, rfl, rfl, rfl, rfl, rfl, trivial⟩ (.cons_cons _ (.cons_cons _ (.cons_cons _ (.cons_cons _ (sub_app hs2 (.refl _)))))) ⟨none, 0, [], rfl, rfl, (Base.Le.refl _), OS.nil⟩ ?_ ?_
  ·
   rintro k312 l311 b304 _ _ oL196 hknL196 ⟨A308, c309, hs307, rfl, rfl, hle305, h310⟩ hstepL196
   unfold mFishkeep2PlanCore_2_L196 at hstepL196
   have hm := hstepL196
   refine c_seq ?_
   refine c_region ?_
   refine t_st rfl (st_lss_t rfl rfl (by omega)) ?_
   refine t_nil ?_
   refine x_then_normal ?_
   refine c_seq ?_
   refine c_cond_t rfl ?_
   refine c_skip ?_
   refine x_then_normal ?_
   refine c_seq ?_
   refine c_block ?_
   refine c_seq ?_
   refine c_region ?_
   obtain ⟨x315, h316, hm⟩ := bindS hm
   obtain ⟨j317, hj318, hx319⟩ := idx_some h316
   obtain ⟨cs320, hs325, P326, P327, hq328, hr321, hcs322, hA323, hlt324, hb329, hho330⟩ := OS.get (sz := 1) rfl (by decide) (h5.le hle305) hx319
   obtain ⟨rfl, rfl⟩ := hr321
   refine t_st rfl (st_index_old j317 rfl rfl hj318 hlt324 hA323 sl30) ?_
   refine t_st rfl (st_load_rd rfl one3 (fun w ho => hcs322 w _ ho (.cons _ (.cons _ (.cons _ (.cons _ (List.sublist_append_left _ _))))) 0 _ rfl)) ?_
   refine t_st rfl (st_assign rfl) ?_
   refine t_nil ?_
   refine x_then_normal ?_
   refine c_seq ?_
   refine c_region ?_
   refine t_st rfl (st_move rfl) ?_
   refine t_st rfl (st_move rfl) ?_
   refine t_st rfl (st_neq rfl rfl) ?_
   refine t_nil ?_
   refine x_then_normal ?_
   refine c_cond _ rfl (fun hc331 => ?_) (fun hc331 => ?_)
   ·
    rw [if_pos (of_decide_eq_true hc331)] at hm
    obtain ⟨x348, h349, hm⟩ := bindS hm
    obtain ⟨_, h359, hm⟩ := bindS hm
    refine D_drawS ((g6, Cl 24 [.int .i64 (x9), .int .i64 (x10), .slice A11 (l14).length c12]) :: (g194, Cl 24 [.int .i64 (0), .int .i64 (0), .slice none 0 0]) :: (g7, Cl 30 [.slice A3 (l15).length c4]) :: (hs2 ++ R)) mixed ?_
    refine E_in (.cons_cons _ (.cons_cons _ (.cons _ (.cons_cons _ (sub_app hs2 (sub_skip hs307 (.refl _))))))) ?_
    refine E_st 0 rfl (st_field rfl fld24_2) ?_
    refine E_st 2 rfl (st_field rfl fld24_2) ?_
    refine E_st 3 rfl (st_load 0 rfl one22 rfl rfl) ?_
    refine E_st 4 rfl (st_move rfl) ?_
    obtain ⟨j350, hj351, hx352⟩ := idx_some h349
    obtain ⟨cs353, hr354, hcs355, hA356, hlt357⟩ := FZ.get (sz := 5) rfl (by decide) (h13.le hle305) hx352
    obtain ⟨_, _, rfl, rfl, ⟨_, _, rfl, rfl, ⟨_, _, rfl, rfl, ⟨_, _, rfl, rfl, rfl⟩⟩⟩⟩ := hr354
    refine E_st 5 rfl (st_index_old j350 rfl rfl hj351 hlt357 hA356 sl22) ?_
    refine E_st 6 rfl (st_loadN_old (vs := [.int .i64 (x348.From), .int .i64 (x348.To), .int .i64 (x348.Min), .int .i64 (x348.Max), .int .i64 (x348.Weight)]) 5 rfl agg29 hA356 rfl (fun j u hu => hcs355 j u hu)) ?_
    refine E_out ?_
    refine D_all [1, 7] (by kernel_rfl) rfl ?_
    refine R_do (Base.Le.refl _) rfl rfl (Stable.does (st_load 2 rfl one22 rfl rfl)) ?_ ?_
    ·
     rintro _ _ ⟨rfl, rfl⟩
     refine ⟨.inr (.cons_cons _ (.cons_cons _ (.cons _ (.cons_cons _ (sub_app hs2 (sub_skip hs307 (.refl _))))))), ?_⟩
     refine D_all [7] (by kernel_rfl) rfl ?_
     refine R_do (Base.Le.refl _) rfl rfl (u_bslice (el := 29) [(0, .agg #[.int .i64 (x348.From), .int .i64 (x348.To), .int .i64 (x348.Min), .int .i64 (x348.Max), .int .i64 (x348.Weight)])] [.int .i64 (x348.From), .int .i64 (x348.To), .int .i64 (x348.Min), .int .i64 (x348.Max), .int .i64 (x348.Weight)] rfl (fun _ => by kernel_rfl)) ?_ ?_
     ·
      rintro _ _ ⟨g358, rfl, rfl⟩
      refine ⟨.inr (.cons _ (.cons_cons _ (.cons_cons _ (.cons _ (.cons_cons _ (sub_app hs2 (sub_skip hs307 (.refl _)))))))), ?_⟩
      have h359 := room_some h359
      refine d_front2 [_, _, _, _, _] hs2 hs307 R rfl ?_
      refine D_all [8] (by kernel_rfl) rfl ?_
      refine R_do (Base.Le.refl _) rfl rfl (u_appOS (r := rPlanRule) (l := l311) [_, _, _, _, _] (hs2 ++ R) [[.int .i64 (x348.From), .int .i64 (x348.To), .int .i64 (x348.Min), .int .i64 (x348.Max), .int .i64 (x348.Weight)]] [x348] rfl (by decide) sl22 inf29 rfl rfl rfl rfl h310 rfl (fun w ho => Rd.own (i := 0) ho rfl) ⟨⟨[.int .i64 (x348.From)], _, rfl, rfl, ⟨[.int .i64 (x348.To)], _, rfl, rfl, ⟨[.int .i64 (x348.Min)], _, rfl, rfl, ⟨[.int .i64 (x348.Max)], _, rfl, rfl, rfl⟩⟩⟩⟩, trivial⟩ h359) ?_ ?_
      ·
       rintro _ _ ⟨hs360, rfl, h361⟩
       obtain ⟨A362, c363, rfl, _⟩ := h361.form
       refine ⟨.inr (.cons _ (.cons_cons _ (.cons_cons _ (.cons _ (.cons_cons _ (sub_skip hs360 (sub_app hs2 (.refl _)))))))), ?_⟩
       refine E_in (.cons _ (.cons_cons _ (.cons_cons _ (.cons _ (.cons_cons _ (sub_skip hs360 (sub_app hs2 (.refl _)))))))) ?_
       refine E_st 9 rfl (st_field rfl fld24_2) ?_
       refine E_out ?_
       refine D_all [10] (by kernel_rfl) rfl ?_
       refine R_do (Base.Le.refl _) rfl rfl (u_store 3 rfl rfl siz22 rfl rfl (by simp)) ?_ ?_
       ·
        rintro _ _ rfl
        refine ⟨.inl (by kernel_rfl), ?_⟩
        refine D_done (by kernel_rfl) ?_
        refine x_block_normal ?_
        refine x_then_normal ?_
        refine c_region ?_
        refine t_st rfl (st_add rfl rfl (by omega)) ?_
        refine t_st rfl (st_move rfl) ?_
        refine t_nil ?_
        refine x_pullb 4 rfl ?_
        refine x_pullb 4 rfl ?_
        refine x_pullb 4 rfl ?_
        refine x_pullb 4 rfl ?_
        refine x_front2 [_, _, _, _, _] hs360 hs2 R rfl ?_
        obtain rfl := some1 hm
        exact x_againS (e' := [(0, .int .i64 (x8)), (1, .pointer (some ⟨g6, 0, none⟩)), (4, .pointer (some ⟨g194, 0, none⟩)), (5, .pointer (some ⟨g195, 0, none⟩)), (13, .slice A3 (l15).length c4), (14, .int .i64 ((l15.length : Int))), (15, .int .i64 ((k312 : Int) + 1))]) (hp' := (g6, Cl 24 [.int .i64 (x9), .int .i64 (x10), .slice A11 (l14).length c12]) :: (g194, Cl 24 [.int .i64 (0), .int .i64 (0), .slice none 0 0]) :: (g195, Cl 24 [.int .i64 (x9), .int .i64 (x10), .slice A362 (l311 ++ [x348]).length c363]) :: (g7, Cl 30 [.slice A3 (l15).length c4]) :: (hs2 ++ (hs360 ++ R))) ⟨rfl, rfl, rfl, rfl, rfl, rfl, rfl, trivial⟩ (.cons_cons _ (.cons_cons _ (.cons_cons _ (.cons_cons _ (.cons _ (sub_app hs2 (sub_app hs360 (.refl _)))))))) ⟨A362, c363, hs360, rfl, rfl, (hle305), h361⟩
       exact R_nil
      exact R_nil
     exact R_nil
    refine R_do (Base.Le.refl _) rfl rfl (u_bslice (el := 29) [(0, .agg #[.int .i64 (x348.From), .int .i64 (x348.To), .int .i64 (x348.Min), .int .i64 (x348.Max), .int .i64 (x348.Weight)])] [.int .i64 (x348.From), .int .i64 (x348.To), .int .i64 (x348.Min), .int .i64 (x348.Max), .int .i64 (x348.Weight)] rfl (fun _ => by kernel_rfl)) ?_ ?_
    ·
     rintro _ _ ⟨g358, rfl, rfl⟩
     refine ⟨.inr (.cons _ (.cons_cons _ (.cons_cons _ (.cons _ (.cons_cons _ (sub_app hs2 (sub_skip hs307 (.refl _)))))))), ?_⟩
     refine D_all [1] (by kernel_rfl) rfl ?_
     refine R_do (Base.Le.refl _) rfl rfl (Stable.does (st_load 3 rfl one22 rfl rfl)) ?_ ?_
     ·
      rintro _ _ ⟨rfl, rfl⟩
      refine ⟨.inr (.cons _ (.cons_cons _ (.cons_cons _ (.cons _ (.cons_cons _ (sub_app hs2 (sub_skip hs307 (.refl _)))))))), ?_⟩
      have h359 := room_some h359
      refine d_front2 [_, _, _, _, _] hs2 hs307 R rfl ?_
      refine D_all [8] (by kernel_rfl) rfl ?_
      refine R_do (Base.Le.refl _) rfl rfl (u_appOS (r := rPlanRule) (l := l311) [_, _, _, _, _] (hs2 ++ R) [[.int .i64 (x348.From), .int .i64 (x348.To), .int .i64 (x348.Min), .int .i64 (x348.Max), .int .i64 (x348.Weight)]] [x348] rfl (by decide) sl22 inf29 rfl rfl rfl rfl h310 rfl (fun w ho => Rd.own (i := 0) ho rfl) ⟨⟨[.int .i64 (x348.From)], _, rfl, rfl, ⟨[.int .i64 (x348.To)], _, rfl, rfl, ⟨[.int .i64 (x348.Min)], _, rfl, rfl, ⟨[.int .i64 (x348.Max)], _, rfl, rfl, rfl⟩⟩⟩⟩, trivial⟩ h359) ?_ ?_
      ·
       rintro _ _ ⟨hs360, rfl, h361⟩
       obtain ⟨A362, c363, rfl, _⟩ := h361.form
       refine ⟨.inr (.cons _ (.cons_cons _ (.cons_cons _ (.cons _ (.cons_cons _ (sub_skip hs360 (sub_app hs2 (.refl _)))))))), ?_⟩
       refine E_in (.cons _ (.cons_cons _ (.cons_cons _ (.cons _ (.cons_cons _ (sub_skip hs360 (sub_app hs2 (.refl _)))))))) ?_
       refine E_st 9 rfl (st_field rfl fld24_2) ?_
       refine E_out ?_
       refine D_all [10] (by kernel_rfl) rfl ?_
       refine R_do (Base.Le.refl _) rfl rfl (u_store 3 rfl rfl siz22 rfl rfl (by simp)) ?_ ?_
       ·
        rintro _ _ rfl
        refine ⟨.inl (by kernel_rfl), ?_⟩
        refine D_done (by kernel_rfl) ?_
        refine x_block_normal ?_
        refine x_then_normal ?_
        refine c_region ?_
        refine t_st rfl (st_add rfl rfl (by omega)) ?_
        refine t_st rfl (st_move rfl) ?_
        refine t_nil ?_
        refine x_pullb 4 rfl ?_
        refine x_pullb 4 rfl ?_
        refine x_pullb 4 rfl ?_
        refine x_pullb 4 rfl ?_
        refine x_front2 [_, _, _, _, _] hs360 hs2 R rfl ?_
        obtain rfl := some1 hm
        exact x_againS (e' := [(0, .int .i64 (x8)), (1, .pointer (some ⟨g6, 0, none⟩)), (4, .pointer (some ⟨g194, 0, none⟩)), (5, .pointer (some ⟨g195, 0, none⟩)), (13, .slice A3 (l15).length c4), (14, .int .i64 ((l15.length : Int))), (15, .int .i64 ((k312 : Int) + 1))]) (hp' := (g6, Cl 24 [.int .i64 (x9), .int .i64 (x10), .slice A11 (l14).length c12]) :: (g194, Cl 24 [.int .i64 (0), .int .i64 (0), .slice none 0 0]) :: (g195, Cl 24 [.int .i64 (x9), .int .i64 (x10), .slice A362 (l311 ++ [x348]).length c363]) :: (g7, Cl 30 [.slice A3 (l15).length c4]) :: (hs2 ++ (hs360 ++ R))) ⟨rfl, rfl, rfl, rfl, rfl, rfl, rfl, trivial⟩ (.cons_cons _ (.cons_cons _ (.cons_cons _ (.cons_cons _ (.cons _ (sub_app hs2 (sub_app hs360 (.refl _)))))))) ⟨A362, c363, hs360, rfl, rfl, (hle305), h361⟩
       exact R_nil
      exact R_nil
     exact R_nil
    exact R_nil
   ·
    rw [if_neg (of_decide_eq_false hc331)] at hm
    refine c_skip ?_
    refine x_block_normal ?_
    refine x_then_normal ?_
    refine c_region ?_
    refine t_st rfl (st_add rfl rfl (by omega)) ?_
    refine t_st rfl (st_move rfl) ?_
    refine t_nil ?_
    refine x_pullb 3 rfl ?_
    refine x_pullb 3 rfl ?_
    refine x_pullb 3 rfl ?_
    refine x_pullb 3 rfl ?_
    refine x_front2 [_, _, _, _] hs2 hs307 R rfl ?_
    refine x_front2 [_, _, _, _] hs307 hs2 R rfl ?_
    obtain rfl := some1 hm
    exact x_againS (e' := [(0, .int .i64 (x8)), (1, .pointer (some ⟨g6, 0, none⟩)), (4, .pointer (some ⟨g194, 0, none⟩)), (5, .pointer (some ⟨g195, 0, none⟩)), (13, .slice A3 (l15).length c4), (14, .int .i64 ((l15.length : Int))), (15, .int .i64 ((k312 : Int) + 1))]) (hp' := (g6, Cl 24 [.int .i64 (x9), .int .i64 (x10), .slice A11 (l14).length c12]) :: (g194, Cl 24 [.int .i64 (0), .int .i64 (0), .slice none 0 0]) :: (g195, Cl 24 [.int .i64 (x9), .int .i64 (x10), .slice A308 (l311).length c309]) :: (g7, Cl 30 [.slice A3 (l15).length c4]) :: (hs2 ++ (hs307 ++ R))) ⟨rfl, rfl, rfl, rfl, rfl, rfl, rfl, trivial⟩ (.cons_cons _ (.cons_cons _ (.cons_cons _ (.cons_cons _ (sub_app hs2 (sub_app hs307 (.refl _))))))) ⟨A308, c309, hs307, rfl, rfl, (hle305), h310⟩
  ·
   rintro b304 _ _ ⟨A308, c309, hs307, rfl, rfl, hle305, h310⟩
   have hm := hk314
   refine c_seq ?_
   refine c_region ?_
   refine t_st rfl (st_lss_f rfl rfl (by omega)) ?_
   refine t_nil ?_
   refine x_then_normal ?_
   refine c_seq ?_
   refine c_cond_f rfl ?_
   refine c_exit ?_
   refine x_then_exit ?_
   refine x_then_exit ?_
   refine x_block_out ?_
   refine x_then_normal ?_
   refine c_seq ?_
   refine c_region ?_
   refine t_st rfl (st_loadD (vs := [_, _, _]) 2 3 rfl agg24 rfl rfl rfl) ?_
   refine t_do rfl (u_storeN (vs := [_, _, _]) 1 3 rfl rfl rfl siz24 rfl (by intro u hu; simp only [List.mem_cons, List.not_mem_nil, or_false] at hu; rcases hu with rfl | rfl | rfl <;> rfl) rfl (by simp)) ?_
   rintro _ _ rfl
   refine t_nil ?_
   refine x_then_normal ?_
   refine c_ret ?_
   obtain ⟨rfl, rfl, rfl⟩ := some3 hm
   refine x_pullb 3 rfl ?_
   refine x_pullb 1 rfl ?_
   refine x_front2 [_, _, _, _] hs2 hs307 R rfl ?_
   exact retM (rs := [.cell 4 24]) [.agg #[.int .i64 (x9), .int .i64 (x10), .slice A308 (l311).length c309]] hle305 (by decide) rfl ⟨⟨_, rfl, fun w ho => cell_agg (vs := [_, _, _]) 2 3 agg24 rfl rfl rfl w ho⟩, trivial⟩ rfl (hp' := (g6, Cl 24 [.int .i64 (x9), .int .i64 (x10), .slice A11 (l14).length c12]) :: (g7, Cl 30 [.slice A3 (l15).length c4]) :: (hs307 ++ (hs2 ++ R))) (.cons_cons _ (.cons_cons _ (.cons _ (.cons _ (sub_app hs307 (sub_app hs2 (.refl _))))))) ⟨A308, c309, hs307, rfl, rfl, h310⟩

set_option maxRecDepth 20000 in
theorem cFishkeep2PlanCore (b : Base) (R : Hp) (s1 : PlanPeriodic) (A2 : Option Addr) (c3 : Nat) (h4 : FZ rPlanRule b.w A2 c3 s1.Rules) (x245 : Bool) (hm : mFishkeep2PlanCore s1 = some x245) :
    CallsG Try.prog 4 [.agg #[.int .i64 (s1.Period), .int .i64 (s1.Events), .slice A2 (s1.Rules).length c3]] b (R) (fun v b' hp' => .bool (x245) = v ∧ R = hp') := by
  refine fn_enterG 70 Try.func4 rfl Try.ntmps4 rfl ?_
  unfold mFishkeep2PlanCore at hm
  refine c_seq ?_
  refine c_region ?_
  refine t_do rfl (u_box _ rfl rfl) ?_
  rintro _ _ ⟨g246, rfl, rfl⟩
  refine t_st rfl (st_assign rfl) ?_
  refine t_nil ?_
  refine x_then_normal ?_
  refine c_seq ?_
  refine c_seq ?_
  refine c_region ?_
  obtain ⟨x247, hcl248, hm⟩ := bindS hm
  refine t_do rfl (u_callW0 _ call6 rfl (fun w ho => cFishkeep2AwakePlan _ [] x247 hcl248) (fun _ _ _ h => h.2.symm)) ?_
  rintro _ _ ⟨⟨_, rfl, _⟩, rfl⟩
  refine t_st rfl (st_not rfl) ?_
  refine t_nil ?_
  refine x_then_normal ?_
  refine c_cond _ rfl (fun hc249 => ?_) (fun hc249 => ?_)
  ·
   rw [if_neg (fun hh => Bool.noConfusion (hh.symm.trans (notT hc249)))] at hm
   refine c_seq ?_
   refine c_region ?_
   refine t_st rfl (st_assign rfl) ?_
   refine t_nil ?_
   refine x_then_normal ?_
   refine c_ret ?_
   refine x_then_ret ?_
   obtain rfl := some1 hm
   exact retM (rs := [.tmp 2]) [.bool (false)] (Base.Le.refl _) (by decide) rfl ⟨rfl, trivial⟩ rfl (hp' := R) (.cons _ (.refl _)) ⟨rfl, rfl⟩
  ·
   rw [if_pos (notF hc249)] at hm
   refine c_skip ?_
   refine x_then_normal ?_
   refine c_seq ?_
   refine c_seq ?_
   refine c_region ?_
   obtain ⟨x250, hcl251, hm⟩ := bindS hm
   refine t_do rfl (u_callW0 _ call7 rfl (fun w ho => cFishkeep2Periods _ [] x250 hcl251) (fun _ _ _ h => h.2.symm)) ?_
   rintro _ _ ⟨⟨_, rfl, _⟩, rfl⟩
   refine t_st rfl (st_not rfl) ?_
   refine t_nil ?_
   refine x_then_normal ?_
   refine c_cond _ rfl (fun hc252 => ?_) (fun hc252 => ?_)
   ·
    rw [if_neg (fun hh => Bool.noConfusion (hh.symm.trans (notT hc252)))] at hm
    refine c_seq ?_
    refine c_region ?_
    refine t_st rfl (st_assign rfl) ?_
    refine t_nil ?_
    refine x_then_normal ?_
    refine c_ret ?_
    refine x_then_ret ?_
    obtain rfl := some1 hm
    exact retM (rs := [.tmp 2]) [.bool (false)] (Base.Le.refl _) (by decide) rfl ⟨rfl, trivial⟩ rfl (hp' := R) (.cons _ (.refl _)) ⟨rfl, rfl⟩
   ·
    rw [if_pos (notF hc252)] at hm
    refine c_skip ?_
    refine x_then_normal ?_
    refine c_seq ?_
    refine c_region ?_
    refine t_st rfl (st_loadD (vs := [_, _, _]) 0 3 rfl agg24 rfl rfl rfl) ?_
    obtain ⟨⟨x253, l254⟩, hcl255, hm⟩ := bindS hm
    have hm := (unc2E hm)
    refine t_callG _ rfl call12 rfl (cPlanCore _ _ s1 A2 c3 h4 x253 l254 hcl255) ?_
    rintro _ b256 _ hle257 ⟨A258, c259, hs260, rfl, rfl, h261⟩
    refine t_in1 [] [_] hs260 R rfl ?_
    refine t_st rfl (st_move rfl) ?_
    refine t_st rfl (st_extract rfl rfl) ?_
    refine t_st rfl (st_extract rfl rfl) ?_
    refine t_do rfl (u_alloc [.slice none 0 0] zero30 rfl) ?_
    rintro _ _ ⟨g262, rfl, rfl⟩
    refine t_do rfl (u_store 0 rfl rfl siz30 rfl rfl (by simp)) ?_
    rintro _ _ rfl
    refine t_st rfl (st_assign rfl) ?_
    refine t_nil ?_
    refine x_then_normal ?_
    refine c_seq ?_
    refine c_seq ?_
    refine c_region ?_
    refine t_st rfl (st_move rfl) ?_
    refine t_st rfl (st_neq rfl rfl) ?_
    refine t_nil ?_
    refine x_then_normal ?_
    refine c_cond _ rfl (fun hc263 => ?_) (fun hc263 => ?_)
    ·
     rw [if_pos (of_decide_eq_true hc263)] at hm
     refine c_seq ?_
     refine c_region ?_
     refine t_st rfl (st_load 0 rfl one30 rfl rfl) ?_
     refine t_st rfl (st_len rfl sl30) ?_
     refine t_st rfl (st_eql rfl rfl) ?_
     refine t_st rfl (st_assign rfl) ?_
     refine t_nil ?_
     refine x_then_normal ?_
     refine c_ret ?_
     refine x_then_ret ?_
     obtain rfl := some1 hm
     exact retM (rs := [.tmp 2]) [.bool (decide ((l254.length : Int) = 0))] hle257 (by decide) rfl ⟨rfl, trivial⟩ rfl (hp' := R) (.cons _ (.cons _ (sub_skip hs260 (.refl _)))) ⟨rfl, rfl⟩
    ·
     rw [if_neg (of_decide_eq_false hc263)] at hm
     refine c_skip ?_
     refine x_then_normal ?_
     refine c_seq ?_
     refine c_seq ?_
     refine c_region ?_
     refine t_st rfl (st_load 0 rfl one30 rfl rfl) ?_
     refine t_st rfl (st_func _ _ rfl rfl) ?_
     obtain ⟨x264, hcl265, hm⟩ := bindS hm
     refine t_pullb 1 rfl ?_
     refine t_out1 [_] [_] hs260 R rfl ?_
     refine t_callG _ rfl call13 rfl (cSlicesContainsFunc _ _ s1.Period s1.Events s1.Rules l254 g246 A2 c3 A258 c259 hs260 (h4.le hle257) h261 x264 hcl265) ?_
     rintro _ b266 _ hle267 ⟨rfl, rfl⟩
     refine t_in1 [_] [_] hs260 R rfl ?_
     refine t_nil ?_
     refine x_then_normal ?_
     refine c_cond _ rfl (fun hc268 => ?_) (fun hc268 => ?_)
     ·
      rw [if_pos hc268] at hm
      refine c_seq ?_
      refine c_region ?_
      refine t_st rfl (st_assign rfl) ?_
      refine t_nil ?_
      refine x_then_normal ?_
      refine c_ret ?_
      refine x_then_ret ?_
      obtain rfl := some1 hm
      exact retM (rs := [.tmp 2]) [.bool (false)] (hle257.trans hle267) (by decide) rfl ⟨rfl, trivial⟩ rfl (hp' := R) (.cons _ (.cons _ (sub_skip hs260 (.refl _)))) ⟨rfl, rfl⟩
     ·
      rw [if_neg (fun hh => Bool.noConfusion (hh.symm.trans hc268))] at hm
      refine c_skip ?_
      refine x_then_normal ?_
      refine c_seq ?_
      refine c_region ?_
      refine t_st rfl (st_func _ _ rfl rfl) ?_
      refine t_st rfl (st_assign rfl) ?_
      refine t_nil ?_
      refine x_then_normal ?_
      refine c_seq ?_
      refine c_seq ?_
      refine c_region ?_
      refine t_st rfl (st_move rfl) ?_
      obtain ⟨⟨x269, x270, l271⟩, hcl272, hm⟩ := bindS hm
      have hm := (unc3E hm)
      refine t_pullb 1 rfl ?_
      refine t_pullb 1 rfl ?_
      refine t_out1 [_, _] [] hs260 R rfl ?_
      refine t_callvG #[] #[.pointer (some ⟨g246, 0, none⟩), .pointer (some ⟨g262, 0, none⟩)] [.int .i64 ((-1))] rfl rfl call15 rfl (cFishkeep2PlanCore_2 _ _ (-1) s1.Period s1.Events s1.Rules l254 g246 g262 A2 c3 A258 c259 hs260 (h4.le (hle257.trans hle267)) (h261.le hle267) x269 x270 l271 hcl272) ?_
      rintro _ b273 _ hle274 ⟨A275, c276, hs277, rfl, rfl, h278⟩
      refine t_in2 [_, _] [] hs277 hs260 R rfl ?_
      obtain ⟨⟨x279, l280⟩, hcl281, hm⟩ := bindS hm
      have hm := (unc2E hm)
      refine t_do rfl (u_callWF [_, _] (hs277 ++ (hs260 ++ R)) _ rfl call9 rfl (fun w ho => cPlanSolve _ [] (⟨x269, x270, l271⟩ : PlanPeriodic) A275 c276 (OS.now (o := (OT.fr rPlanRule)) (l := l271) (hs := hs277) h278 ho (.cons _ (.cons _ (List.sublist_append_left _ _)))) x279 l280 hcl281)) ?_
      rintro _ _ ⟨_, _, rfl, A282, c283, hs284, rfl, hq287, h285, hnz288⟩
      obtain rfl := List.append_cancel_right hq287
      have h286 := flat_fz (w' := b273.w) (fun _ _ _ _ h => h) h285
      refine t_st rfl (st_move rfl) ?_
      refine t_st rfl (st_extract rfl rfl) ?_
      refine t_st rfl (st_extract rfl rfl) ?_
      refine t_st rfl (st_assign rfl) ?_
      refine t_st rfl (st_assign rfl) ?_
      refine t_nil ?_
      refine x_then_normal ?_
      refine c_seq ?_
      refine c_region ?_
      refine t_st rfl (st_move rfl) ?_
      refine t_st rfl (st_neq rfl rfl) ?_
      refine t_nil ?_
      refine x_then_normal ?_
      refine c_cond _ rfl (fun hc289 => ?_) (fun hc289 => ?_)
      ·
       rw [if_pos (of_decide_eq_true hc289)] at hm
       refine c_seq ?_
       refine c_region ?_
       refine t_st rfl (st_assign rfl) ?_
       refine t_nil ?_
       refine x_then_normal ?_
       refine c_ret ?_
       refine x_then_ret ?_
       obtain rfl := some1 hm
       exact retM (rs := [.tmp 2]) [.bool (false)] (hle257.trans (hle267.trans hle274)) (by decide) rfl ⟨rfl, trivial⟩ rfl (hp' := R) (.cons _ (.cons _ (sub_skip hs284 (sub_skip hs277 (sub_skip hs260 (.refl _)))))) ⟨rfl, rfl⟩
      ·
       rw [if_neg (of_decide_eq_false hc289)] at hm
       refine c_skip ?_
       refine x_then_normal ?_
       refine c_seq ?_
       refine c_seq ?_
       refine c_region ?_
       refine t_st rfl (st_load 1 rfl one30 rfl rfl) ?_
       refine t_st rfl (st_len rfl sl30) ?_
       refine t_st rfl (st_move rfl) ?_
       refine t_nil ?_
       refine x_then_normal ?_
       refine c_block ?_
       have hb291 : l254.length ≤ 9223372036854775807 := (OS.len h261)
       refine c_pullb 1 rfl ?_
       refine c_pullb 1 rfl ?_
       refine c_front3 [_, _] hs284 hs277 hs260 R rfl ?_
       obtain ⟨t388, hl389, hk390⟩ := bindS hm
       refine c_forM (fun k387 => fun _ => fun b385 e' hp' => [(5, .func (.func 15) #[] #[.pointer (some ⟨g246, 0, none⟩), .pointer (some ⟨g262, 0, none⟩)]), (38, .slice A258 (l254).length c259), (39, .int .i64 ((l254.length : Int))), (40, .int .i64 ((k387 : Int)))] = e' ∧ (g246, Cl 24 [.int .i64 (s1.Period), .int .i64 (s1.Events), .slice A2 (s1.Rules).length c3]) :: (g262, Cl 30 [.slice A258 (l254).length c259]) :: (hs260 ++ R) = hp' ∧ b273.Le b385) hl389 (e' := [(5, .func (.func 15) #[] #[.pointer (some ⟨g246, 0, none⟩), .pointer (some ⟨g262, 0, none⟩)]), (38, .slice A258 (l254).length c259), (39, .int .i64 ((l254.length : Int))), (40, .int .i64 0)]) (hp' := (g246, Cl 24 [.int .i64 (s1.Period), .int .i64 (s1.Events), .slice A2 (s1.Rules).length c3]) :: (g262, Cl 30 [.slice A258 (l254).length c259]) :: (hs260 ++ R)) ⟨rfl, rfl, rfl, rfl, trivial⟩ (.cons_cons _ (.cons_cons _ (sub_app hs260 (sub_skip hs284 (sub_skip hs277 (.refl _)))))) ⟨rfl, rfl, (Base.Le.refl _)⟩ ?_ ?_
       ·
        rintro k387 _ b385 _ _ oL290 hknL290 ⟨rfl, rfl, hle386⟩ hstepL290 houtL290
        unfold mFishkeep2PlanCore_L290 at hstepL290
        have hm := hstepL290
        refine c_seq ?_
        refine c_region ?_
        refine t_st rfl (st_lss_t rfl rfl (by omega)) ?_
        refine t_nil ?_
        refine x_then_normal ?_
        refine c_seq ?_
        refine c_cond_t rfl ?_
        refine c_skip ?_
        refine x_then_normal ?_
        refine c_seq ?_
        refine c_block ?_
        refine c_seq ?_
        refine c_region ?_
        obtain ⟨x391, h392, hm⟩ := bindS hm
        obtain ⟨j393, hj394, hx395⟩ := idx_some h392
        obtain ⟨cs396, hs401, P402, P403, hq404, hr397, hcs398, hA399, hlt400, hb405, hho406⟩ := OS.get (sz := 1) rfl (by decide) (h261.le (hle267.trans (hle274.trans hle386))) hx395
        obtain ⟨rfl, rfl⟩ := hr397
        refine t_st rfl (st_index_old j393 rfl rfl hj394 hlt400 hA399 sl30) ?_
        refine t_st rfl (st_load_rd rfl one3 (fun w ho => hcs398 w _ ho (.cons _ (.cons _ (List.sublist_append_left _ _))) 0 _ rfl)) ?_
        refine t_st rfl (st_assign rfl) ?_
        refine t_nil ?_
        refine x_then_normal ?_
        refine c_seq ?_
        refine c_region ?_
        refine t_st rfl (st_move rfl) ?_
        refine t_st rfl (st_move rfl) ?_
        obtain ⟨⟨x407, x408, l409⟩, hcl410, hm⟩ := bindS hm
        have hm := (unc3E hm)
        refine t_pullb 1 rfl ?_
        refine t_pullb 1 rfl ?_
        refine t_out1 [_, _] [] hs260 R rfl ?_
        refine t_callvG #[] #[.pointer (some ⟨g246, 0, none⟩), .pointer (some ⟨g262, 0, none⟩)] [.int .i64 (x391)] rfl rfl call15 rfl (cFishkeep2PlanCore_2 _ _ x391 s1.Period s1.Events s1.Rules l254 g246 g262 A2 c3 A258 c259 hs260 (h4.le (hle257.trans (hle267.trans (hle274.trans hle386)))) (h261.le (hle267.trans (hle274.trans hle386))) x407 x408 l409 hcl410) ?_
        rintro _ b411 _ hle412 ⟨A413, c414, hs415, rfl, rfl, h416⟩
        refine t_in2 [_, _] [] hs415 hs260 R rfl ?_
        obtain ⟨⟨x417, l418⟩, hcl419, hm⟩ := bindS hm
        have hm := (unc2E hm)
        refine t_do rfl (u_callWF [_, _] (hs415 ++ (hs260 ++ R)) _ rfl call9 rfl (fun w ho => cPlanSolve _ [] (⟨x407, x408, l409⟩ : PlanPeriodic) A413 c414 (OS.now (o := (OT.fr rPlanRule)) (l := l409) (hs := hs415) h416 ho (.cons _ (.cons _ (List.sublist_append_left _ _)))) x417 l418 hcl419)) ?_
        rintro _ _ ⟨_, _, rfl, A420, c421, hs422, rfl, hq425, h423, hnz426⟩
        obtain rfl := List.append_cancel_right hq425
        have h424 := flat_fz (w' := b411.w) (fun _ _ _ _ h => h) h423
        refine t_st rfl (st_move rfl) ?_
        refine t_st rfl (st_extract rfl rfl) ?_
        refine t_st rfl (st_extract rfl rfl) ?_
        refine t_st rfl (st_assign rfl) ?_
        refine t_st rfl (st_assign rfl) ?_
        refine t_nil ?_
        refine x_then_normal ?_
        obtain ⟨x455, hj456, hk456⟩ := bindS hm
        refine c_join (fun b453 e' hp' => [(5, .func (.func 15) #[] #[.pointer (some ⟨g246, 0, none⟩), .pointer (some ⟨g262, 0, none⟩)]), (38, .slice A258 (l254).length c259), (39, .int .i64 ((l254.length : Int))), (40, .int .i64 ((k387 : Int))), (68, .bool (x455))] = e' ∧ (g246, Cl 24 [.int .i64 (s1.Period), .int .i64 (s1.Events), .slice A2 (s1.Rules).length c3]) :: (g262, Cl 30 [.slice A258 (l254).length c259]) :: (hs260 ++ R) = hp' ∧ b411.Le b453) ?_ ?_
        ·
         have hm := hj456
         refine c_region ?_
         refine t_st rfl (st_move rfl) ?_
         refine t_bool rfl (st_neq rfl rfl) (fun hc457 => ?_) (fun hc457 => ?_)
         ·
          rw [if_pos hc457] at hm
          refine t_st rfl (st_move rfl) ?_
          refine t_no 53 rfl rfl rfl rfl rfl ?_
          refine t_no 53 rfl rfl rfl rfl rfl ?_
          refine t_no 53 rfl rfl rfl rfl rfl ?_
          refine t_no 53 rfl rfl rfl rfl rfl ?_
          refine t_no 53 rfl rfl rfl rfl rfl ?_
          refine t_no 53 rfl rfl rfl rfl rfl ?_
          refine t_st rfl (st_pick_t rfl rfl) ?_
          refine t_st rfl (st_move rfl) ?_
          refine t_no 61 rfl rfl rfl rfl rfl ?_
          refine t_no 61 rfl rfl rfl rfl rfl ?_
          refine t_no 61 rfl rfl rfl rfl rfl ?_
          refine t_no 61 rfl rfl rfl rfl rfl ?_
          refine t_no 61 rfl rfl rfl rfl rfl ?_
          refine t_no 61 rfl rfl rfl rfl rfl ?_
          refine t_st rfl (st_pick_t rfl rfl) ?_
          refine t_nil ?_
          obtain rfl := some1 hm
          refine x_pullb 1 rfl ?_
          refine x_pullb 1 rfl ?_
          refine x_front3 [_, _] hs422 hs415 hs260 R rfl ?_
          exact x_join (e' := [(5, .func (.func 15) #[] #[.pointer (some ⟨g246, 0, none⟩), .pointer (some ⟨g262, 0, none⟩)]), (38, .slice A258 (l254).length c259), (39, .int .i64 ((l254.length : Int))), (40, .int .i64 ((k387 : Int))), (68, .bool (true))]) (hp' := (g246, Cl 24 [.int .i64 (s1.Period), .int .i64 (s1.Events), .slice A2 (s1.Rules).length c3]) :: (g262, Cl 30 [.slice A258 (l254).length c259]) :: (hs260 ++ R)) ⟨rfl, rfl, rfl, rfl, rfl, trivial⟩ (.cons_cons _ (.cons_cons _ (sub_app hs260 (sub_skip hs422 (sub_skip hs415 (.refl _)))))) ⟨rfl, rfl, (Base.Le.refl _)⟩
         ·
          rw [if_neg hc457] at hm
          refine t_st rfl (st_move rfl) ?_
          refine t_yes 53 rfl rfl rfl ?_
          refine t_st rfl (st_move rfl) ?_
          refine t_yes 53 rfl rfl rfl ?_
          refine t_st rfl (st_move rfl) ?_
          refine t_yes 53 rfl rfl rfl ?_
          obtain ⟨⟨x458, x459, l460⟩, hcl461, hm⟩ := bindS hm
          have hm := (unc3E hm)
          refine t_pullb 1 rfl ?_
          refine t_pullb 1 rfl ?_
          refine t_front3 [_, _] hs422 hs415 hs260 R rfl ?_
          refine t_out1 [_, _] [] hs260 (hs422 ++ (hs415 ++ R)) rfl ?_
          refine t_callvG #[] #[.pointer (some ⟨g246, 0, none⟩), .pointer (some ⟨g262, 0, none⟩)] [.int .i64 (x391)] rfl rfl call15 rfl (cFishkeep2PlanCore_2 _ _ x391 s1.Period s1.Events s1.Rules l254 g246 g262 A2 c3 A258 c259 hs260 (h4.le (hle257.trans (hle267.trans (hle274.trans (hle386.trans hle412))))) (h261.le (hle267.trans (hle274.trans (hle386.trans hle412)))) x458 x459 l460 hcl461) ?_
          rintro _ b462 _ hle463 ⟨A464, c465, hs466, rfl, rfl, h467⟩
          refine t_in2 [_, _] [] hs466 hs260 (hs422 ++ (hs415 ++ R)) rfl ?_
          refine t_yes 53 rfl rfl rfl ?_
          refine t_st rfl (st_move rfl) ?_
          refine t_yes 53 rfl rfl rfl ?_
          obtain ⟨x468, hcl469, hm⟩ := bindS hm
          refine t_do rfl (u_callW0 _ call10 rfl (fun w ho => cFishref2TimesFault _ [] (⟨x458, x459, l460⟩ : PlanPeriodic) l418 A464 c465 A420 c421 (OS.now (o := (OT.fr rPlanRule)) (l := l460) (hs := hs466) h467 ho (.cons _ (.cons _ (List.sublist_append_left _ _)))) (OS.now (o := (OT.fr (RT.int .i64))) (l := l418) (hs := hs422) (h424.le hle463) ho (.cons _ (.cons _ (sub_skip hs466 (sub_skip hs260 (List.sublist_append_left _ _)))))) x468 hcl469) (fun _ _ _ h => h.2.symm)) ?_
          rintro _ _ ⟨⟨_, rfl, _⟩, rfl⟩
          refine t_yes 53 rfl rfl rfl ?_
          refine t_bool rfl (st_neq rfl rfl) (fun hc470 => ?_) (fun hc470 => ?_)
          ·
           rw [if_pos hc470] at hm
           refine t_st rfl (st_pick_f rfl rfl) ?_
           refine t_st rfl (st_move rfl) ?_
           refine t_no 61 rfl rfl rfl rfl rfl ?_
           refine t_no 61 rfl rfl rfl rfl rfl ?_
           refine t_no 61 rfl rfl rfl rfl rfl ?_
           refine t_no 61 rfl rfl rfl rfl rfl ?_
           refine t_no 61 rfl rfl rfl rfl rfl ?_
           refine t_no 61 rfl rfl rfl rfl rfl ?_
           refine t_st rfl (st_pick_t rfl rfl) ?_
           refine t_nil ?_
           obtain rfl := some1 hm
           refine x_pullb 1 rfl ?_
           refine x_pullb 1 rfl ?_
           refine x_front2 [_, _] hs466 hs260 (hs422 ++ (hs415 ++ R)) rfl ?_
           exact x_join (e' := [(5, .func (.func 15) #[] #[.pointer (some ⟨g246, 0, none⟩), .pointer (some ⟨g262, 0, none⟩)]), (38, .slice A258 (l254).length c259), (39, .int .i64 ((l254.length : Int))), (40, .int .i64 ((k387 : Int))), (68, .bool (true))]) (hp' := (g246, Cl 24 [.int .i64 (s1.Period), .int .i64 (s1.Events), .slice A2 (s1.Rules).length c3]) :: (g262, Cl 30 [.slice A258 (l254).length c259]) :: (hs260 ++ R)) ⟨rfl, rfl, rfl, rfl, rfl, trivial⟩ (.cons_cons _ (.cons_cons _ (sub_app hs260 (sub_skip hs466 (sub_skip hs422 (sub_skip hs415 (.refl _))))))) ⟨rfl, rfl, hle463⟩
          ·
           rw [if_neg hc470] at hm
           refine t_st rfl (st_pick_f rfl rfl) ?_
           refine t_st rfl (st_move rfl) ?_
           refine t_yes 61 rfl rfl rfl ?_
           refine t_st rfl (st_move rfl) ?_
           refine t_yes 61 rfl rfl rfl ?_
           refine t_st rfl (st_move rfl) ?_
           refine t_yes 61 rfl rfl rfl ?_
           obtain ⟨⟨x471, x472, l473⟩, hcl474, hm⟩ := bindS hm
           have hm := (unc3E hm)
           refine t_pullb 1 rfl ?_
           refine t_pullb 1 rfl ?_
           refine t_front2 [_, _] hs466 hs260 (hs422 ++ (hs415 ++ R)) rfl ?_
           refine t_out1 [_, _] [] hs260 (hs466 ++ (hs422 ++ (hs415 ++ R))) rfl ?_
           refine t_callvG #[] #[.pointer (some ⟨g246, 0, none⟩), .pointer (some ⟨g262, 0, none⟩)] [.int .i64 (x391)] rfl rfl call15 rfl (cFishkeep2PlanCore_2 _ _ x391 s1.Period s1.Events s1.Rules l254 g246 g262 A2 c3 A258 c259 hs260 (h4.le (hle257.trans (hle267.trans (hle274.trans (hle386.trans (hle412.trans hle463)))))) (h261.le (hle267.trans (hle274.trans (hle386.trans (hle412.trans hle463))))) x471 x472 l473 hcl474) ?_
           rintro _ b475 _ hle476 ⟨A477, c478, hs479, rfl, rfl, h480⟩
           refine t_in2 [_, _] [] hs479 hs260 (hs466 ++ (hs422 ++ (hs415 ++ R))) rfl ?_
           refine t_yes 61 rfl rfl rfl ?_
           refine t_st rfl (st_move rfl) ?_
           refine t_yes 61 rfl rfl rfl ?_
           obtain ⟨x481, hcl482, hm⟩ := bindS hm
           refine t_do rfl (u_callW0 _ call11 rfl (fun w ho => cFishref2BrokenOf _ [] (⟨x471, x472, l473⟩ : PlanPeriodic) l418 A477 c478 A420 c421 (OS.now (o := (OT.fr rPlanRule)) (l := l473) (hs := hs479) h480 ho (.cons _ (.cons _ (List.sublist_append_left _ _)))) (OS.now (o := (OT.fr (RT.int .i64))) (l := l418) (hs := hs422) (h424.le (hle463.trans hle476)) ho (.cons _ (.cons _ (sub_skip hs479 (sub_skip hs260 (sub_skip hs466 (List.sublist_append_left _ _))))))) x481 hcl482) (fun _ _ _ h => h.2.symm)) ?_
           rintro _ _ ⟨⟨_, rfl, _⟩, rfl⟩
           refine t_yes 61 rfl rfl rfl ?_
           refine t_st rfl (st_geq rfl rfl) ?_
           refine t_st rfl (st_pick_f rfl rfl) ?_
           refine t_nil ?_
           obtain rfl := some1 hm
           refine x_pullb 1 rfl ?_
           refine x_pullb 1 rfl ?_
           refine x_front2 [_, _] hs479 hs260 (hs466 ++ (hs422 ++ (hs415 ++ R))) rfl ?_
           exact x_join (e' := [(5, .func (.func 15) #[] #[.pointer (some ⟨g246, 0, none⟩), .pointer (some ⟨g262, 0, none⟩)]), (38, .slice A258 (l254).length c259), (39, .int .i64 ((l254.length : Int))), (40, .int .i64 ((k387 : Int))), (68, .bool (decide (0 ≤ x481)))]) (hp' := (g246, Cl 24 [.int .i64 (s1.Period), .int .i64 (s1.Events), .slice A2 (s1.Rules).length c3]) :: (g262, Cl 30 [.slice A258 (l254).length c259]) :: (hs260 ++ R)) ⟨rfl, rfl, rfl, rfl, rfl, trivial⟩ (.cons_cons _ (.cons_cons _ (sub_app hs260 (sub_skip hs479 (sub_skip hs466 (sub_skip hs422 (sub_skip hs415 (.refl _)))))))) ⟨rfl, rfl, (hle463.trans hle476)⟩
        ·
         rintro b453 _ _ ⟨rfl, rfl, hle454⟩
         have hm := hk456
         refine c_cond _ rfl (fun hc483 => ?_) (fun hc483 => ?_)
         ·
          rw [if_pos hc483] at hm
          refine c_seq ?_
          refine c_region ?_
          refine t_st rfl (st_assign rfl) ?_
          refine t_nil ?_
          refine x_then_normal ?_
          refine c_ret ?_
          refine x_block_ret ?_
          refine x_then_ret ?_
          refine x_then_ret ?_
          refine x_block_ret ?_
          refine x_then_ret ?_
          have hq484 := houtL290 _ (Option.some.inj hm).symm
          rw [hq484] at hk390
          have hm := elimR hk390
          obtain rfl := some1 hm
          exact retM (rs := [.tmp 2]) [.bool (false)] (hle257.trans (hle267.trans (hle274.trans (hle386.trans (hle412.trans hle454))))) (by decide) rfl ⟨rfl, trivial⟩ rfl (hp' := R) (.cons _ (.cons _ (sub_skip hs260 (.refl _)))) ⟨rfl, rfl⟩
         ·
          rw [if_neg (fun hh => Bool.noConfusion (hh.symm.trans hc483))] at hm
          refine c_skip ?_
          refine x_block_normal ?_
          refine x_then_normal ?_
          refine c_region ?_
          refine t_st rfl (st_add rfl rfl (by omega)) ?_
          refine t_st rfl (st_move rfl) ?_
          refine t_nil ?_
          refine x_pullb 1 rfl ?_
          refine x_pullb 1 rfl ?_
          exact x_againM () (Option.some.inj hm).symm (e' := [(5, .func (.func 15) #[] #[.pointer (some ⟨g246, 0, none⟩), .pointer (some ⟨g262, 0, none⟩)]), (38, .slice A258 (l254).length c259), (39, .int .i64 ((l254.length : Int))), (40, .int .i64 ((k387 : Int) + 1))]) (hp' := (g246, Cl 24 [.int .i64 (s1.Period), .int .i64 (s1.Events), .slice A2 (s1.Rules).length c3]) :: (g262, Cl 30 [.slice A258 (l254).length c259]) :: (hs260 ++ R)) ⟨rfl, rfl, rfl, rfl, trivial⟩ (.cons_cons _ (.cons_cons _ (sub_app hs260 (.refl _)))) ⟨rfl, rfl, ((hle386.trans (hle412.trans hle454)))⟩
       ·
        rintro _ b385 _ _ ⟨rfl, rfl, hle386⟩ hq485
        rw [hq485] at hk390
        have hm := elimL hk390
        refine c_seq ?_
        refine c_region ?_
        refine t_st rfl (st_lss_f rfl rfl (by omega)) ?_
        refine t_nil ?_
        refine x_then_normal ?_
        refine c_seq ?_
        refine c_cond_f rfl ?_
        refine c_exit ?_
        refine x_then_exit ?_
        refine x_then_exit ?_
        refine x_block_out ?_
        refine x_then_normal ?_
        refine c_seq ?_
        refine c_region ?_
        refine t_st rfl (st_assign rfl) ?_
        refine t_nil ?_
        refine x_then_normal ?_
        refine c_ret ?_
        obtain rfl := some1 hm
        exact retM (rs := [.tmp 2]) [.bool (true)] (hle257.trans (hle267.trans (hle274.trans hle386))) (by decide) rfl ⟨rfl, trivial⟩ rfl (hp' := R) (.cons _ (.cons _ (sub_skip hs260 (.refl _)))) ⟨rfl, rfl⟩

end Go.Proofs.Ytdphlkddelnaiaa
