/- Contracts: the code computes its model (part 4). -/
import Derived.Test.YtdphlkddelnaiaaKP3
set_option linter.unusedVariables false
set_option linter.unusedSimpArgs false
namespace Go.Proofs.Ytdphlkddelnaiaa
open Go.RowKit Go.Fp

set_option maxRecDepth 20000 in
theorem cPlanCheapest (b : Base) (R : Hp) (s1 : PlanPeriodic) (q5 : (Option (List (List Int)))) (l11 : (List Int)) (A2 : Option Addr) (c3 : Nat) (v6 : Value) (A8 : Option Addr) (c9 : Nat) (h4 : FZ rPlanRule b.w A2 c3 s1.Rules) (h7 : (RT.ptr (RT.arr 8 (RT.arr 8 (RT.int .i64)))).rep b.w [v6] q5) (h10 : FZ (RT.int .i64) b.w A8 c9 l11) (x4794 : Int) (l4795 : (List Int)) (hm : mPlanCheapest s1 q5 l11 = some (x4794, l4795)) :
    CallsG Try.prog 39 [.agg #[.int .i64 (s1.Period), .int .i64 (s1.Events), .slice A2 (s1.Rules).length c3], v6, .slice A8 (l11).length c9] b (R) (fun v b' hp' => ∃ (A4791 : Option Addr), ∃ (c4792 : Nat), ∃ (hs4790 : Hp), .tuple #[.slice A4791 (l4795).length c4792, .int .i64 (x4794)] = v ∧ (hs4790 ++ R) = hp' ∧ OS 3 (OT.fr (RT.int .i64)) b'.w (.slice A4791 l4795.length c4792) l4795 hs4790) := by
  refine fn_enterG 141 Try.func39 rfl Try.ntmps39 rfl ?_
  unfold mPlanCheapest at hm
  refine c_seq ?_
  refine c_region ?_
  refine t_do rfl (u_box _ rfl rfl) ?_
  rintro _ _ ⟨g4796, rfl, rfl⟩
  refine t_do rfl (u_box [v6] rfl (ptr_cells h7)) ?_
  rintro _ _ ⟨g4797, rfl, rfl⟩
  refine t_st rfl (st_assign rfl) ?_
  refine t_st rfl (st_assign rfl) ?_
  refine t_nil ?_
  refine x_then_normal ?_
  refine c_seq ?_
  refine c_region ?_
  refine t_st rfl (st_field rfl fld24_1) ?_
  refine t_st rfl (st_load 1 rfl one3 rfl rfl) ?_
  obtain ⟨m4798, h4799, hm⟩ := bindS hm
  have h4799 := mkLen_some h4799
  refine t_do rfl (u_mkOS (r := (RT.int .i64)) [_, _] R [.int .i64 (0)] 0 m4798 rfl h4799.1 rfl rfl sl30 inf3 rfl rfl rfl (by decide) rfl h4799.2.1 h4799.2.2) ?_
  rintro _ _ ⟨hs4800, rfl, h4801⟩
  obtain ⟨A4802, c4803, rfl, _⟩ := h4801.form
  refine t_do rfl (u_alloc [.slice none 0 0] zero30 rfl) ?_
  rintro _ _ ⟨g4804, rfl, rfl⟩
  refine t_do rfl (u_store 0 rfl rfl siz30 rfl rfl (by simp)) ?_
  rintro _ _ rfl
  refine t_nil ?_
  refine x_then_normal ?_
  refine c_seq ?_
  refine c_region ?_
  refine t_st rfl (st_field rfl fld24_1) ?_
  refine t_st rfl (st_load 2 rfl one3 rfl rfl) ?_
  obtain ⟨m4805, h4806, hm⟩ := bindS hm
  have h4806 := mkLen_some h4806
  refine t_do rfl (u_mkOS (r := (RT.int .i64)) [_, _, _] (hs4800 ++ R) [.int .i64 (0)] 0 m4805 rfl h4806.1 rfl rfl sl30 inf3 rfl rfl rfl (by decide) rfl h4806.2.1 h4806.2.2) ?_
  rintro _ _ ⟨hs4807, rfl, h4808⟩
  obtain ⟨A4809, c4810, rfl, _⟩ := h4808.form
  refine t_do rfl (u_alloc [.slice none 0 0] zero30 rfl) ?_
  rintro _ _ ⟨g4811, rfl, rfl⟩
  refine t_do rfl (u_store 0 rfl rfl siz30 rfl rfl (by simp)) ?_
  rintro _ _ rfl
  refine t_nil ?_
  refine x_then_normal ?_
  refine c_seq ?_
  refine c_region ?_
  refine t_do rfl (u_alloc [.int .i64 0] zero3 rfl) ?_
  rintro _ _ ⟨g4812, rfl, rfl⟩
  refine t_do rfl (u_store 0 rfl rfl siz3 rfl rfl (by simp)) ?_
  rintro _ _ rfl
  refine t_nil ?_
  refine x_then_normal ?_
  refine c_seq ?_
  refine c_seq ?_
  refine c_region ?_
  refine t_st rfl (st_load 2 rfl one30 rfl rfl) ?_
  refine t_st rfl (st_len rfl sl30) ?_
  refine t_st rfl (st_move rfl) ?_
  refine t_nil ?_
  refine x_then_normal ?_
  refine c_block ?_
  have hb4814 : (List.replicate m4798 (0 : Int)).length ≤ 9223372036854775807 := (OS.len h4801)
  refine c_pullb 1 rfl ?_
  refine c_pullb 2 rfl ?_
  refine c_pullb 3 rfl ?_
  refine c_pullb 4 rfl ?_
  refine c_front2 [_, _, _, _, _] hs4807 hs4800 R rfl ?_
  obtain ⟨⟨q5012, l5015⟩, hl5018, hk5019⟩ := bindS hm
  refine c_forS (fun k5017 => unc2 fun q5012 l5015 => fun b5007 e' hp' => ∃ (v5013 : Value), ∃ (hs5010 : Hp), [(2, .slice A8 (l11).length c9), (3, .pointer (some ⟨g4796, 0, none⟩)), (4, .pointer (some ⟨g4797, 0, none⟩)), (8, .pointer (some ⟨g4804, 0, none⟩)), (9, .pointer (some ⟨g4811, 0, none⟩)), (10, .pointer (some ⟨g4812, 0, none⟩)), (29, .int .i64 (((List.replicate m4798 (0 : Int)).length : Int))), (30, .int .i64 ((k5017 : Int)))] = e' ∧ (g4796, Cl 24 [.int .i64 (s1.Period), .int .i64 (s1.Events), .slice A2 (s1.Rules).length c3]) :: (g4797, Cl 58 [v5013]) :: (g4804, Cl 30 [.slice A4802 (l5015).length c4803]) :: (g4811, Cl 30 [.slice A4809 (List.replicate m4805 (0 : Int)).length c4810]) :: (g4812, Cl 3 [.int .i64 (0)]) :: (hs5010 ++ (hs4807 ++ R)) = hp' ∧ b.Le b5007 ∧ (RT.ptr (RT.arr 8 (RT.arr 8 (RT.int .i64)))).rep b5007.w [v5013] q5012 ∧ OS 3 (OT.fr (RT.int .i64)) b5007.w (.slice A4802 l5015.length c4803) l5015 hs5010 ∧ l5015.length = m4798) hl5018 (e' := [(2, .slice A8 (l11).length c9), (3, .pointer (some ⟨g4796, 0, none⟩)), (4, .pointer (some ⟨g4797, 0, none⟩)), (8, .pointer (some ⟨g4804, 0, none⟩)), (9, .pointer (some ⟨g4811, 0, none⟩)), (10, .pointer (some ⟨g4812, 0, none⟩)), (29, .int .i64 (((List.replicate m4798 (0 : Int)).length : Int))), (30, .int .i64 0)]) (hp' := (g4796, Cl 24 [.int .i64 (s1.Period), .int .i64 (s1.Events), .slice A2 (s1.Rules).length c3]) :: (g4797, Cl 58 [v6]) :: (g4804, Cl 30 [.slice A4802 (List.replicate m4798 (0 : Int)).length c4803]) :: (g4811, Cl 30 [.slice A4809 (List.replicate m4805 (0 : Int)).length c4810]) :: (g4812, Cl 3 [.int .i64 (0)]) :: (hs4800 ++ (hs4807 ++ R))) ⟨rfl, rfl, rfl, rfl, rfl, rfl, rfl, rfl, trivial⟩ (.cons_cons _ (.cons_cons _ (.cons_cons _ (.cons_cons _ (.cons_cons _ (sub_app hs4800 (sub_app hs4807 (.refl _)))))))) ⟨v6, hs4800, rfl, rfl, (Base.Le.refl _), h7, h4801, List.length_replicate⟩ ?_ ?_
  ·
   rintro k5017 ⟨q5012, l5015⟩ b5007 _ _ oL4813 hknL4813 ⟨v5013, hs5010, rfl, rfl, hle5008, h5014, h5011, hln5016⟩ hstepL4813
   unfold mPlanCheapest_L4813 at hstepL4813
   have hm := (unc2E hstepL4813)
   refine c_seq ?_
   refine c_region ?_
   refine t_st rfl (st_lss_t rfl rfl (by omega)) ?_
   refine t_nil ?_
   refine x_then_normal ?_
   refine c_seq ?_
   refine c_cond_t rfl ?_
   refine c_skip ?_
   refine x_then_normal ?_
   refine c_seq ?_
   refine c_block ?_
   refine c_seq ?_
   refine c_region ?_
   refine t_st rfl (st_move rfl) ?_
   refine t_st rfl (st_assign rfl) ?_
   refine t_nil ?_
   refine x_then_normal ?_
   obtain ⟨y5066, h5067, hm⟩ := bindS hm
   obtain ⟨x5073, h5074, hm⟩ := bindS hm
   obtain ⟨x5083, h5084, hm⟩ := bindS hm
   obtain ⟨_, h5093, hm⟩ := bindS hm
   obtain ⟨x5094, h5095, hm⟩ := bindS hm
   refine D_drawS ((g4796, Cl 24 [.int .i64 (s1.Period), .int .i64 (s1.Events), .slice A2 (s1.Rules).length c3]) :: (g4797, Cl 58 [v5013]) :: (g4804, Cl 30 [.slice A4802 (l5015).length c4803]) :: (g4811, Cl 30 [.slice A4809 (List.replicate m4805 (0 : Int)).length c4810]) :: (g4812, Cl 3 [.int .i64 (0)]) :: (hs5010 ++ (hs4807 ++ R))) mixed ?_
   refine E_in (.cons_cons _ (.cons_cons _ (.cons_cons _ (.cons_cons _ (.cons_cons _ (sub_app hs5010 (sub_app hs4807 (.refl _)))))))) ?_
   refine E_st 0 rfl (st_load 2 rfl one30 rfl rfl) ?_
   refine E_st 1 rfl (st_move rfl) ?_
   refine E_st 2 rfl (st_load 1 rfl one58 rfl rfl) ?_
   refine E_st 3 rfl (st_move rfl) ?_
   have h5072 := h5014
   rw [h5067] at h5072
   obtain ⟨a5068, cs5069, rfl, hr5070, hcs5071⟩ := ptr_open h5072
   refine E_st 4 rfl (st_nil_at rfl) ?_
   obtain ⟨j5075, hj5076, hx5077⟩ := idx_some h5074
   obtain ⟨cs5078, hr5079, hcs5080, hlt5081⟩ := arr_in (sz := 8) rfl hr5070 hx5077
   have hcs5082 := at_in (p := a5068) (q := 0) (o := j5075 * 8) (at_zero hcs5071) hcs5080
   refine E_st 5 rfl (st_index_at j5075 rfl rfl hj5076 hlt5081 arr76) ?_
   obtain ⟨j5085, hj5086, hx5087⟩ := idx_some h5084
   obtain ⟨cs5088, hr5089, hcs5090, hlt5091⟩ := arr_in (sz := 1) rfl hr5079 hx5087
   obtain rfl := hr5089
   have hcs5092 := at_in (p := a5068) (q := 0 + j5075 * 8) (o := j5085 * 1) hcs5082 hcs5090
   refine E_st 6 rfl (st_index_at j5085 rfl rfl hj5086 hlt5091 arr64) ?_
   refine E_st 7 rfl (st_load_at rfl one3 (hcs5092 0 _ rfl)) ?_
   have h5093 := (chk_some h5093).2
   refine E_st 8 rfl (st_negc rfl h5093) ?_
   obtain ⟨j5096, hj5097, hx5098⟩ := idx_some h5095
   obtain ⟨cs5099, hs5104, P5105, P5106, hq5107, hr5100, hcs5101, hA5102, hlt5103, hb5108, hho5109⟩ := OS.get (sz := 1) rfl (by decide) h5011 hx5098
   obtain ⟨rfl, rfl⟩ := hr5100
   refine E_st 9 rfl (st_index_old j5096 rfl rfl hj5097 hlt5103 hA5102 sl30) ?_
   refine E_out ?_
   refine D_all [10] (by kernel_rfl) rfl ?_
   refine R_do (Base.Le.refl _) rfl rfl (u_putOS hj5097 (sz := 1) (a' := (-x5083)) rfl [_, _, _, _, _] (hs4807 ++ R) 0 1 [.int .i64 ((-x5083))] rfl h5011 hx5098 rfl rfl rfl siz3 rfl (by intro u hu; simp only [List.mem_cons, List.not_mem_nil, or_false] at hu; subst hu; rfl) (fun cs hsj hh => by obtain ⟨rfl, rfl⟩ := hh; exact ⟨by decide, rfl, rfl⟩)) ?_ ?_
   ·
    rintro _ _ ⟨hs5110, rfl, h5111⟩
    refine ⟨.inl (by kernel_rfl), ?_⟩
    refine d_hresp 2 rfl (o' := Cl 30 [.slice A4802 (put l5015 (k5017 : Int) (-x5083)).length c4803]) (by simp only [put_length]) ?_
    refine D_done (by kernel_rfl) ?_
    refine x_block_normal ?_
    refine x_then_normal ?_
    refine c_region ?_
    refine t_st rfl (st_add rfl rfl (by omega)) ?_
    refine t_st rfl (st_move rfl) ?_
    refine t_nil ?_
    refine x_pullb 4 rfl ?_
    refine x_pullb 4 rfl ?_
    refine x_pullb 4 rfl ?_
    refine x_pullb 4 rfl ?_
    refine x_pullb 4 rfl ?_
    refine x_front2 [_, _, _, _, _] hs5110 hs4807 R rfl ?_
    refine x_front2 [_, _, _, _, _] hs4807 hs5110 R rfl ?_
    obtain rfl := some1 hm
    exact x_againS (e' := [(2, .slice A8 (l11).length c9), (3, .pointer (some ⟨g4796, 0, none⟩)), (4, .pointer (some ⟨g4797, 0, none⟩)), (8, .pointer (some ⟨g4804, 0, none⟩)), (9, .pointer (some ⟨g4811, 0, none⟩)), (10, .pointer (some ⟨g4812, 0, none⟩)), (29, .int .i64 (((List.replicate m4798 (0 : Int)).length : Int))), (30, .int .i64 ((k5017 : Int) + 1))]) (hp' := (g4796, Cl 24 [.int .i64 (s1.Period), .int .i64 (s1.Events), .slice A2 (s1.Rules).length c3]) :: (g4797, Cl 58 [.pointer (some a5068)]) :: (g4804, Cl 30 [.slice A4802 (put l5015 (k5017 : Int) (-x5083)).length c4803]) :: (g4811, Cl 30 [.slice A4809 (List.replicate m4805 (0 : Int)).length c4810]) :: (g4812, Cl 3 [.int .i64 (0)]) :: (hs5110 ++ (hs4807 ++ R))) ⟨rfl, rfl, rfl, rfl, rfl, rfl, rfl, rfl, trivial⟩ (.cons_cons _ (.cons_cons _ (.cons_cons _ (.cons_cons _ (.cons_cons _ (sub_app hs5110 (sub_app hs4807 (.refl _)))))))) ⟨(.pointer (some a5068)), hs5110, rfl, rfl, (hle5008), ⟨_, cs5069, rfl, hr5070, hcs5071⟩, h5111, ((put_length _ _ _).trans hln5016)⟩
   exact R_nil
  ·
   rintro b5007 _ _ ⟨v5013, hs5010, rfl, rfl, hle5008, h5014, h5011, hln5016⟩
   have hm := (unc2E hk5019)
   refine c_seq ?_
   refine c_region ?_
   refine t_st rfl (st_lss_f rfl rfl (by omega)) ?_
   refine t_nil ?_
   refine x_then_normal ?_
   refine c_seq ?_
   refine c_cond_f rfl ?_
   refine c_exit ?_
   refine x_then_exit ?_
   refine x_then_exit ?_
   refine x_block_out ?_
   refine x_then_normal ?_
   refine c_seq ?_
   refine c_seq ?_
   refine c_region ?_
   refine t_st rfl (st_field rfl fld24_2) ?_
   refine t_st rfl (st_load 0 rfl one22 rfl rfl) ?_
   refine t_st rfl (st_len rfl sl22) ?_
   refine t_st rfl (st_move rfl) ?_
   refine t_nil ?_
   refine x_then_normal ?_
   refine c_block ?_
   have hb5113 : s1.Rules.length ≤ 9223372036854775807 := (FZ.bd (h4.le hle5008))
   refine c_pullb 4 rfl ?_
   refine c_pullb 4 rfl ?_
   refine c_pullb 4 rfl ?_
   refine c_pullb 4 rfl ?_
   refine c_pullb 4 rfl ?_
   refine c_front2 [_, _, _, _, _] hs5010 hs4807 R rfl ?_
   refine c_front2 [_, _, _, _, _] hs4807 hs5010 R rfl ?_
   obtain ⟨⟨x5619, l5620⟩, hl5623, hk5624⟩ := bindS hm
   refine c_forS (fun k5622 => unc2 fun x5619 l5620 => fun b5614 e' hp' => ∃ (hs5617 : Hp), [(2, .slice A8 (l11).length c9), (3, .pointer (some ⟨g4796, 0, none⟩)), (4, .pointer (some ⟨g4797, 0, none⟩)), (8, .pointer (some ⟨g4804, 0, none⟩)), (9, .pointer (some ⟨g4811, 0, none⟩)), (10, .pointer (some ⟨g4812, 0, none⟩)), (45, .slice A2 (s1.Rules).length c3), (46, .int .i64 ((s1.Rules.length : Int))), (47, .int .i64 ((k5622 : Int)))] = e' ∧ (g4796, Cl 24 [.int .i64 (s1.Period), .int .i64 (s1.Events), .slice A2 (s1.Rules).length c3]) :: (g4797, Cl 58 [v5013]) :: (g4804, Cl 30 [.slice A4802 (l5015).length c4803]) :: (g4811, Cl 30 [.slice A4809 (l5620).length c4810]) :: (g4812, Cl 3 [.int .i64 (x5619)]) :: (hs5010 ++ (hs5617 ++ R)) = hp' ∧ b5007.Le b5614 ∧ OS 3 (OT.fr (RT.int .i64)) b5614.w (.slice A4809 l5620.length c4810) l5620 hs5617 ∧ l5620.length = m4805) hl5623 (e' := [(2, .slice A8 (l11).length c9), (3, .pointer (some ⟨g4796, 0, none⟩)), (4, .pointer (some ⟨g4797, 0, none⟩)), (8, .pointer (some ⟨g4804, 0, none⟩)), (9, .pointer (some ⟨g4811, 0, none⟩)), (10, .pointer (some ⟨g4812, 0, none⟩)), (45, .slice A2 (s1.Rules).length c3), (46, .int .i64 ((s1.Rules.length : Int))), (47, .int .i64 0)]) (hp' := (g4796, Cl 24 [.int .i64 (s1.Period), .int .i64 (s1.Events), .slice A2 (s1.Rules).length c3]) :: (g4797, Cl 58 [v5013]) :: (g4804, Cl 30 [.slice A4802 (l5015).length c4803]) :: (g4811, Cl 30 [.slice A4809 (List.replicate m4805 (0 : Int)).length c4810]) :: (g4812, Cl 3 [.int .i64 (0)]) :: (hs5010 ++ (hs4807 ++ R))) ⟨rfl, rfl, rfl, rfl, rfl, rfl, rfl, rfl, rfl, trivial⟩ (.cons_cons _ (.cons_cons _ (.cons_cons _ (.cons_cons _ (.cons_cons _ (sub_app hs5010 (sub_app hs4807 (.refl _)))))))) ⟨hs4807, rfl, rfl, (Base.Le.refl _), (h4808.le hle5008), List.length_replicate⟩ ?_ ?_
   ·
    rintro k5622 ⟨x5619, l5620⟩ b5614 _ _ oL5112 hknL5112 ⟨hs5617, rfl, rfl, hle5615, h5618, hln5621⟩ hstepL5112
    unfold mPlanCheapest_L5112 at hstepL5112
    have hm := (unc2E hstepL5112)
    refine c_seq ?_
    refine c_region ?_
    refine t_st rfl (st_lss_t rfl rfl (by omega)) ?_
    refine t_nil ?_
    refine x_then_normal ?_
    refine c_seq ?_
    refine c_cond_t rfl ?_
    refine c_skip ?_
    refine x_then_normal ?_
    refine c_seq ?_
    refine c_block ?_
    refine c_seq ?_
    refine c_region ?_
    refine t_st rfl (st_move rfl) ?_
    obtain ⟨x5625, h5626, hm⟩ := bindS hm
    obtain ⟨j5627, hj5628, hx5629⟩ := idx_some h5626
    obtain ⟨cs5630, hr5631, hcs5632, hA5633, hlt5634⟩ := FZ.get (sz := 5) rfl (by decide) (h4.le (hle5008.trans hle5615)) hx5629
    obtain ⟨_, _, rfl, rfl, ⟨_, _, rfl, rfl, ⟨_, _, rfl, rfl, ⟨_, _, rfl, rfl, rfl⟩⟩⟩⟩ := hr5631
    refine t_st rfl (st_index_old j5627 rfl rfl hj5628 hlt5634 hA5633 sl22) ?_
    refine t_st rfl (st_loadN_old (vs := [.int .i64 (x5625.From), .int .i64 (x5625.To), .int .i64 (x5625.Min), .int .i64 (x5625.Max), .int .i64 (x5625.Weight)]) 5 rfl agg29 hA5633 rfl (fun j u hu => hcs5632 j u hu)) ?_
    refine t_do rfl (u_alloc [.int .i64 0, .int .i64 0, .int .i64 0, .int .i64 0, .int .i64 0] zero29 rfl) ?_
    rintro _ _ ⟨g5635, rfl, rfl⟩
    refine t_st rfl (st_assign rfl) ?_
    refine t_do rfl (u_storeN (vs := [_, _, _, _, _]) 0 5 rfl rfl rfl siz29 rfl (by intro u hu; simp only [List.mem_cons, List.not_mem_nil, or_false] at hu; rcases hu with rfl | rfl | rfl | rfl | rfl <;> rfl) rfl (by simp)) ?_
    rintro _ _ rfl
    refine t_nil ?_
    refine x_then_normal ?_
    refine c_seq ?_
    obtain ⟨x5671, h5672, hm⟩ := bindS hm
    obtain ⟨_, h5687, hm⟩ := bindS hm
    obtain ⟨x5688, h5689, hm⟩ := bindS hm
    refine c_front2 [_, _, _, _, _, _] hs5010 hs5617 R rfl ?_
    refine D_drawS ((g5635, Cl 29 [.int .i64 (x5625.From), .int .i64 (x5625.To), .int .i64 (x5625.Min), .int .i64 (x5625.Max), .int .i64 (x5625.Weight)]) :: (g4796, Cl 24 [.int .i64 (s1.Period), .int .i64 (s1.Events), .slice A2 (s1.Rules).length c3]) :: (g4797, Cl 58 [v5013]) :: (g4804, Cl 30 [.slice A4802 (l5015).length c4803]) :: (g4811, Cl 30 [.slice A4809 (l5620).length c4810]) :: (g4812, Cl 3 [.int .i64 (x5619)]) :: (hs5617 ++ (hs5010 ++ R))) mixed ?_
    refine E_in (.cons_cons _ (.cons_cons _ (.cons_cons _ (.cons_cons _ (.cons_cons _ (.cons_cons _ (sub_app hs5617 (sub_app hs5010 (.refl _))))))))) ?_
    refine E_st 0 rfl (st_load 4 rfl one30 rfl rfl) ?_
    refine E_st 1 rfl (st_field rfl fld29_1) ?_
    refine E_st 2 rfl (st_load 0 rfl one3 rfl rfl) ?_
    obtain ⟨j5673, hj5674, hx5675⟩ := idx_some h5672
    obtain ⟨cs5676, hs5681, P5682, P5683, hq5684, hr5677, hcs5678, hA5679, hlt5680, hb5685, hho5686⟩ := OS.get (sz := 1) rfl (by decide) h5618 hx5675
    obtain ⟨rfl, rfl⟩ := hr5677
    refine E_st 3 rfl (st_index_old j5673 rfl rfl hj5674 hlt5680 hA5679 sl30) ?_
    refine E_st 4 rfl (st_load_rd rfl one3 (fun w ho => hcs5678 w _ ho (.cons _ (.cons _ (.cons _ (.cons _ (.cons _ (.cons _ (List.sublist_append_left _ _))))))) 0 _ rfl)) ?_
    refine E_st 5 rfl (st_field rfl fld29_4) ?_
    refine E_st 6 rfl (st_load 0 rfl one3 rfl rfl) ?_
    have h5687 := (chk_some h5687).2
    refine E_st 7 rfl (st_add rfl rfl h5687) ?_
    obtain ⟨j5690, hj5691, hx5692⟩ := idx_some h5689
    obtain ⟨cs5693, hs5698, P5699, P5700, hq5701, hr5694, hcs5695, hA5696, hlt5697, hb5702, hho5703⟩ := OS.get (sz := 1) rfl (by decide) h5618 hx5692
    obtain ⟨rfl, rfl⟩ := hr5694
    refine E_st 8 rfl (st_index_old j5690 rfl rfl hj5691 hlt5697 hA5696 sl30) ?_
    refine E_out ?_
    refine D_all [9] (by kernel_rfl) rfl ?_
    refine R_do (Base.Le.refl _) rfl rfl (u_putOS hj5691 (sz := 1) (a' := x5671 + x5625.Weight) rfl [_, _, _, _, _, _] (hs5010 ++ R) 0 1 [.int .i64 (x5671 + x5625.Weight)] rfl h5618 hx5692 rfl rfl rfl siz3 rfl (by intro u hu; simp only [List.mem_cons, List.not_mem_nil, or_false] at hu; subst hu; rfl) (fun cs hsj hh => by obtain ⟨rfl, rfl⟩ := hh; exact ⟨by decide, rfl, rfl⟩)) ?_ ?_
    ·
     rintro _ _ ⟨hs5704, rfl, h5705⟩
     refine ⟨.inl (by kernel_rfl), ?_⟩
     refine d_hresp 4 rfl (o' := Cl 30 [.slice A4809 (put l5620 x5625.To (x5671 + x5625.Weight)).length c4810]) (by simp only [put_length]) ?_
     refine D_done (by kernel_rfl) ?_
     refine x_then_normal ?_
     refine c_seq ?_
     obtain ⟨x5741, h5742, hm⟩ := bindS hm
     obtain ⟨_, h5757, hm⟩ := bindS hm
     obtain ⟨x5758, h5759, hm⟩ := bindS hm
     refine D_drawS ((g5635, Cl 29 [.int .i64 (x5625.From), .int .i64 (x5625.To), .int .i64 (x5625.Min), .int .i64 (x5625.Max), .int .i64 (x5625.Weight)]) :: (g4796, Cl 24 [.int .i64 (s1.Period), .int .i64 (s1.Events), .slice A2 (s1.Rules).length c3]) :: (g4797, Cl 58 [v5013]) :: (g4804, Cl 30 [.slice A4802 (l5015).length c4803]) :: (g4811, Cl 30 [.slice A4809 (put l5620 x5625.To (x5671 + x5625.Weight)).length c4810]) :: (g4812, Cl 3 [.int .i64 (x5619)]) :: (hs5704 ++ (hs5010 ++ R))) mixed ?_
     refine E_in (.cons_cons _ (.cons_cons _ (.cons_cons _ (.cons_cons _ (.cons_cons _ (.cons_cons _ (sub_app hs5704 (sub_app hs5010 (.refl _))))))))) ?_
     refine E_st 0 rfl (st_load 4 rfl one30 rfl rfl) ?_
     refine E_st 1 rfl (st_field rfl fld29_0) ?_
     refine E_st 2 rfl (st_load 0 rfl one3 rfl rfl) ?_
     obtain ⟨j5743, hj5744, hx5745⟩ := idx_some h5742
     obtain ⟨cs5746, hs5751, P5752, P5753, hq5754, hr5747, hcs5748, hA5749, hlt5750, hb5755, hho5756⟩ := OS.get (sz := 1) rfl (by decide) h5705 hx5745
     obtain ⟨rfl, rfl⟩ := hr5747
     refine E_st 3 rfl (st_index_old j5743 rfl rfl hj5744 hlt5750 hA5749 sl30) ?_
     refine E_st 4 rfl (st_load_rd rfl one3 (fun w ho => hcs5748 w _ ho (.cons _ (.cons _ (.cons _ (.cons _ (.cons _ (.cons _ (List.sublist_append_left _ _))))))) 0 _ rfl)) ?_
     refine E_st 5 rfl (st_field rfl fld29_4) ?_
     refine E_st 6 rfl (st_load 0 rfl one3 rfl rfl) ?_
     have h5757 := (chk_some h5757).2
     refine E_st 7 rfl (st_sub rfl rfl h5757) ?_
     obtain ⟨j5760, hj5761, hx5762⟩ := idx_some h5759
     obtain ⟨cs5763, hs5768, P5769, P5770, hq5771, hr5764, hcs5765, hA5766, hlt5767, hb5772, hho5773⟩ := OS.get (sz := 1) rfl (by decide) h5705 hx5762
     obtain ⟨rfl, rfl⟩ := hr5764
     refine E_st 8 rfl (st_index_old j5760 rfl rfl hj5761 hlt5767 hA5766 sl30) ?_
     refine E_out ?_
     refine D_all [9] (by kernel_rfl) rfl ?_
     refine R_do (Base.Le.refl _) rfl rfl (u_putOS hj5761 (sz := 1) (a' := x5741 - x5625.Weight) rfl [_, _, _, _, _, _] (hs5010 ++ R) 0 1 [.int .i64 (x5741 - x5625.Weight)] rfl h5705 hx5762 rfl rfl rfl siz3 rfl (by intro u hu; simp only [List.mem_cons, List.not_mem_nil, or_false] at hu; subst hu; rfl) (fun cs hsj hh => by obtain ⟨rfl, rfl⟩ := hh; exact ⟨by decide, rfl, rfl⟩)) ?_ ?_
     ·
      rintro _ _ ⟨hs5774, rfl, h5775⟩
      refine ⟨.inl (by kernel_rfl), ?_⟩
      refine d_hresp 4 rfl (o' := Cl 30 [.slice A4809 (put (put l5620 x5625.To (x5671 + x5625.Weight)) x5625.From (x5741 - x5625.Weight)).length c4810]) (by simp only [put_length]) ?_
      refine D_done (by kernel_rfl) ?_
      refine x_then_normal ?_
      obtain ⟨x5824, h5825, hm⟩ := bindS hm
      obtain ⟨x5840, h5841, hm⟩ := bindS hm
      obtain ⟨_, h5856, hm⟩ := bindS hm
      obtain ⟨x5857, h5858, hm⟩ := bindS hm
      obtain ⟨_, h5867, hm⟩ := bindS hm
      obtain ⟨_, h5868, hm⟩ := bindS hm
      obtain ⟨_, h5869, hm⟩ := bindS hm
      obtain ⟨_, h5870, hm⟩ := bindS hm
      obtain ⟨_, h5871, hm⟩ := bindS hm
      refine D_drawS ((g5635, Cl 29 [.int .i64 (x5625.From), .int .i64 (x5625.To), .int .i64 (x5625.Min), .int .i64 (x5625.Max), .int .i64 (x5625.Weight)]) :: (g4796, Cl 24 [.int .i64 (s1.Period), .int .i64 (s1.Events), .slice A2 (s1.Rules).length c3]) :: (g4797, Cl 58 [v5013]) :: (g4804, Cl 30 [.slice A4802 (l5015).length c4803]) :: (g4811, Cl 30 [.slice A4809 (put (put l5620 x5625.To (x5671 + x5625.Weight)) x5625.From (x5741 - x5625.Weight)).length c4810]) :: (g4812, Cl 3 [.int .i64 (x5619)]) :: (hs5774 ++ (hs5010 ++ R))) mixed ?_
      refine E_in (.cons_cons _ (.cons_cons _ (.cons_cons _ (.cons_cons _ (.cons_cons _ (.cons_cons _ (sub_app hs5774 (sub_app hs5010 (.refl _))))))))) ?_
      refine E_st 0 rfl (st_load 5 rfl one3 rfl rfl) ?_
      refine E_st 1 rfl (st_field rfl fld29_4) ?_
      refine E_st 2 rfl (st_load 0 rfl one3 rfl rfl) ?_
      refine E_st 3 rfl (st_load 3 rfl one30 rfl rfl) ?_
      refine E_st 4 rfl (st_field rfl fld29_1) ?_
      refine E_st 5 rfl (st_load 0 rfl one3 rfl rfl) ?_
      obtain ⟨j5826, hj5827, hx5828⟩ := idx_some h5825
      obtain ⟨cs5829, hs5834, P5835, P5836, hq5837, hr5830, hcs5831, hA5832, hlt5833, hb5838, hho5839⟩ := OS.get (sz := 1) rfl (by decide) (h5011.le hle5615) hx5828
      obtain ⟨rfl, rfl⟩ := hr5830
      refine E_st 6 rfl (st_index_old j5826 rfl rfl hj5827 hlt5833 hA5832 sl30) ?_
      refine E_st 7 rfl (st_load_rd rfl one3 (fun w ho => hcs5831 w _ ho (.cons _ (.cons _ (.cons _ (.cons _ (.cons _ (.cons _ (sub_skip hs5774 (List.sublist_append_left _ _)))))))) 0 _ rfl)) ?_
      refine E_st 8 rfl (st_load 3 rfl one30 rfl rfl) ?_
      refine E_st 9 rfl (st_field rfl fld29_0) ?_
      refine E_st 10 rfl (st_load 0 rfl one3 rfl rfl) ?_
      obtain ⟨j5842, hj5843, hx5844⟩ := idx_some h5841
      obtain ⟨cs5845, hs5850, P5851, P5852, hq5853, hr5846, hcs5847, hA5848, hlt5849, hb5854, hho5855⟩ := OS.get (sz := 1) rfl (by decide) (h5011.le hle5615) hx5844
      obtain ⟨rfl, rfl⟩ := hr5846
      refine E_st 11 rfl (st_index_old j5842 rfl rfl hj5843 hlt5849 hA5848 sl30) ?_
      refine E_st 12 rfl (st_load_rd rfl one3 (fun w ho => hcs5847 w _ ho (.cons _ (.cons _ (.cons _ (.cons _ (.cons _ (.cons _ (sub_skip hs5774 (List.sublist_append_left _ _)))))))) 0 _ rfl)) ?_
      have h5856 := (chk_some h5856).2
      refine E_st 13 rfl (st_sub rfl rfl h5856) ?_
      refine E_st 14 rfl (st_move rfl) ?_
      refine E_st 15 rfl (st_move rfl) ?_
      obtain ⟨j5859, hj5860, hx5861⟩ := idx_some h5858
      obtain ⟨cs5862, hr5863, hcs5864, hA5865, hlt5866⟩ := FZ.get (sz := 1) rfl (by decide) (h10.le (hle5008.trans hle5615)) hx5861
      obtain rfl := hr5863
      refine E_st 16 rfl (st_index_old j5859 rfl rfl hj5860 hlt5866 hA5865 sl30) ?_
      refine E_st 17 rfl (st_load_old rfl one3 (hcs5864 0 _ rfl)) ?_
      refine E_st 18 rfl (st_field rfl fld24_0) ?_
      refine E_st 19 rfl (st_load 1 rfl one3 rfl rfl) ?_
      have h5867 := (chk_some h5867).2
      refine E_st 20 rfl (st_mul rfl rfl h5867) ?_
      have h5868 := (chk_some h5868).2
      refine E_st 21 rfl (st_add rfl rfl h5868) ?_
      refine E_st 22 rfl (st_field rfl fld29_2) ?_
      refine E_st 23 rfl (st_load 0 rfl one3 rfl rfl) ?_
      have h5869 := (chk_some h5869).2
      refine E_st 24 rfl (st_sub rfl rfl h5869) ?_
      have h5870 := (chk_some h5870).2
      refine E_st 25 rfl (st_mul rfl rfl h5870) ?_
      have h5871 := (chk_some h5871).2
      refine E_st 26 rfl (st_add rfl rfl h5871) ?_
      refine E_out ?_
      refine D_all [27] (by kernel_rfl) rfl ?_
      refine R_do (Base.Le.refl _) rfl rfl (u_store 5 rfl rfl siz3 rfl rfl (by simp)) ?_ ?_
      ·
       rintro _ _ rfl
       refine ⟨.inl (by kernel_rfl), ?_⟩
       refine D_done (by kernel_rfl) ?_
       refine x_block_normal ?_
       refine x_then_normal ?_
       refine c_region ?_
       refine t_st rfl (st_add rfl rfl (by omega)) ?_
       refine t_st rfl (st_move rfl) ?_
       refine t_nil ?_
       refine x_pullb 5 rfl ?_
       refine x_pullb 5 rfl ?_
       refine x_pullb 5 rfl ?_
       refine x_pullb 5 rfl ?_
       refine x_pullb 5 rfl ?_
       refine x_front2 [_, _, _, _, _, _] hs5774 hs5010 R rfl ?_
       obtain rfl := some1 hm
       exact x_againS (e' := [(2, .slice A8 (l11).length c9), (3, .pointer (some ⟨g4796, 0, none⟩)), (4, .pointer (some ⟨g4797, 0, none⟩)), (8, .pointer (some ⟨g4804, 0, none⟩)), (9, .pointer (some ⟨g4811, 0, none⟩)), (10, .pointer (some ⟨g4812, 0, none⟩)), (45, .slice A2 (s1.Rules).length c3), (46, .int .i64 ((s1.Rules.length : Int))), (47, .int .i64 ((k5622 : Int) + 1))]) (hp' := (g4796, Cl 24 [.int .i64 (s1.Period), .int .i64 (s1.Events), .slice A2 (s1.Rules).length c3]) :: (g4797, Cl 58 [v5013]) :: (g4804, Cl 30 [.slice A4802 (l5015).length c4803]) :: (g4811, Cl 30 [.slice A4809 (put (put l5620 x5625.To (x5671 + x5625.Weight)) x5625.From (x5741 - x5625.Weight)).length c4810]) :: (g4812, Cl 3 [.int .i64 (x5619 + (x5625.Weight * (((x5824 - x5840) + (x5857 * s1.Period)) - x5625.Min)))]) :: (hs5010 ++ (hs5774 ++ R))) ⟨rfl, rfl, rfl, rfl, rfl, rfl, rfl, rfl, rfl, trivial⟩ (.cons_cons _ (.cons_cons _ (.cons_cons _ (.cons_cons _ (.cons_cons _ (.cons _ (sub_app hs5010 (sub_app hs5774 (.refl _))))))))) ⟨hs5774, rfl, rfl, (hle5615), h5775, ((put_length _ _ _).trans ((put_length _ _ _).trans hln5621))⟩
      exact R_nil
     exact R_nil
    exact R_nil
   ·
    rintro b5614 _ _ ⟨hs5617, rfl, rfl, hle5615, h5618, hln5621⟩
    have hm := (unc2E hk5624)
    refine c_seq ?_
    refine c_region ?_
    refine t_st rfl (st_lss_f rfl rfl (by omega)) ?_
    refine t_nil ?_
    refine x_then_normal ?_
    refine c_seq ?_
    refine c_cond_f rfl ?_
    refine c_exit ?_
    refine x_then_exit ?_
    refine x_then_exit ?_
    refine x_block_out ?_
    refine x_then_normal ?_
    refine c_seq ?_
    refine c_region ?_
    refine t_st rfl (st_func _ _ rfl rfl) ?_
    refine t_st rfl (st_assign rfl) ?_
    refine t_nil ?_
    refine x_then_normal ?_
    refine c_seq ?_
    refine c_region ?_
    refine t_st rfl (st_func _ _ rfl rfl) ?_
    refine t_st rfl (st_assign rfl) ?_
    refine t_nil ?_
    refine x_then_normal ?_
    obtain ⟨⟨x7723, l7724⟩, hj7726, hk7726⟩ := bindS hm
    refine c_join (fun b7718 e' hp' => ∃ (hs7721 : Hp), [(8, .pointer (some ⟨g4804, 0, none⟩)), (10, .pointer (some ⟨g4812, 0, none⟩))] = e' ∧ (g4804, Cl 30 [.slice A4802 (l7724).length c4803]) :: (g4812, Cl 3 [.int .i64 (x7723)]) :: (hs7721 ++ R) = hp' ∧ b5614.Le b7718 ∧ OS 3 (OT.fr (RT.int .i64)) b7718.w (.slice A4802 l7724.length c4803) l7724 hs7721 ∧ l7724.length = m4798) ?_ ?_
    ·
     have hm := hj7726
     refine c_seq ?_
     refine c_region ?_
     refine t_st rfl (st_assign rfl) ?_
     refine t_nil ?_
     refine x_then_normal ?_
     refine c_block ?_
     refine c_pullb 1 rfl ?_
     refine c_pullb 4 rfl ?_
     refine c_pullb 4 rfl ?_
     refine c_pullb 4 rfl ?_
     refine c_pullb 4 rfl ?_
     refine c_front2 [_, _, _, _, _] hs5010 hs5617 R rfl ?_
     refine c_front2 [_, _, _, _, _] hs5617 hs5010 R rfl ?_
     refine c_loopM (unc4 fun x8958 x8959 q8960 l8963 => fun b8953 e' hp' => ∃ (v8961 : Value), ∃ (hs8956 : Hp), [(3, .pointer (some ⟨g4796, 0, none⟩)), (8, .pointer (some ⟨g4804, 0, none⟩)), (9, .pointer (some ⟨g4811, 0, none⟩)), (10, .pointer (some ⟨g4812, 0, none⟩)), (14, .func (.func 50) #[] #[.pointer (some ⟨g4796, 0, none⟩), .pointer (some ⟨g4804, 0, none⟩), .pointer (some ⟨g4797, 0, none⟩)]), (15, .func (.func 51) #[] #[.pointer (some ⟨g4804, 0, none⟩), .pointer (some ⟨g4812, 0, none⟩), .pointer (some ⟨g4811, 0, none⟩)]), (16, .bool (x8958))] = e' ∧ (g4796, Cl 24 [.int .i64 (s1.Period), .int .i64 (s1.Events), .slice A2 (s1.Rules).length c3]) :: (g4804, Cl 30 [.slice A4802 (l8963).length c4803]) :: (g4811, Cl 30 [.slice A4809 (l5620).length c4810]) :: (g4812, Cl 3 [.int .i64 (x8959)]) :: (g4797, Cl 58 [v8961]) :: (hs8956 ++ (hs5617 ++ R)) = hp' ∧ b5614.Le b8953 ∧ (RT.ptr (RT.arr 8 (RT.arr 8 (RT.int .i64)))).rep b8953.w [v8961] q8960 ∧ OS 3 (OT.fr (RT.int .i64)) b8953.w (.slice A4802 l8963.length c4803) l8963 hs8956 ∧ l8963.length = m4798) hm (e' := [(3, .pointer (some ⟨g4796, 0, none⟩)), (8, .pointer (some ⟨g4804, 0, none⟩)), (9, .pointer (some ⟨g4811, 0, none⟩)), (10, .pointer (some ⟨g4812, 0, none⟩)), (14, .func (.func 50) #[] #[.pointer (some ⟨g4796, 0, none⟩), .pointer (some ⟨g4804, 0, none⟩), .pointer (some ⟨g4797, 0, none⟩)]), (15, .func (.func 51) #[] #[.pointer (some ⟨g4804, 0, none⟩), .pointer (some ⟨g4812, 0, none⟩), .pointer (some ⟨g4811, 0, none⟩)]), (16, .bool (true))]) (hp' := (g4796, Cl 24 [.int .i64 (s1.Period), .int .i64 (s1.Events), .slice A2 (s1.Rules).length c3]) :: (g4804, Cl 30 [.slice A4802 (l5015).length c4803]) :: (g4811, Cl 30 [.slice A4809 (l5620).length c4810]) :: (g4812, Cl 3 [.int .i64 (x5619)]) :: (g4797, Cl 58 [v5013]) :: (hs5010 ++ (hs5617 ++ R))) ⟨rfl, rfl, rfl, rfl, rfl, rfl, rfl, trivial⟩ (.cons_cons _ (.cons_cons _ (.cons_cons _ (.cons_cons _ (.cons_cons _ (sub_app hs5010 (sub_app hs5617 (.refl _)))))))) ⟨v5013, hs5010, rfl, rfl, (Base.Le.refl _), (RT.le (RT.ptr (RT.arr 8 (RT.arr 8 (RT.int .i64)))) h5014 hle5615), (h5011.le hle5615), hln5016⟩ ?_
     rintro ⟨x8958, x8959, q8960, l8963⟩ b8953 _ _ oL7727 ⟨v8961, hs8956, rfl, rfl, hle8954, h8962, h8957, hln8964⟩ hstepL7727 houtL7727
     unfold mPlanCheapest_L7727 at hstepL7727
     have hm := (unc4E hstepL7727)
     refine c_seq ?_
     refine c_seq ?_
     refine c_region ?_
     refine t_st rfl (st_move rfl) ?_
     refine t_nil ?_
     refine x_then_normal ?_
     refine c_cond _ rfl (fun hc8965 => ?_) (fun hc8965 => ?_)
     ·
      rw [if_pos hc8965] at hm
      refine c_skip ?_
      refine x_then_normal ?_
      refine c_block ?_
      refine c_seq ?_
      refine c_region ?_
      refine t_st rfl (st_assign rfl) ?_
      refine t_nil ?_
      refine x_then_normal ?_
      refine c_seq ?_
      refine c_region ?_
      refine t_st rfl (st_assign rfl) ?_
      refine t_nil ?_
      refine x_then_normal ?_
      refine c_block ?_
      refine c_pullb 4 rfl ?_
      refine c_pullb 4 rfl ?_
      refine c_pullb 4 rfl ?_
      refine c_pullb 4 rfl ?_
      refine c_pullb 4 rfl ?_
      refine c_front2 [_, _, _, _, _] hs8956 hs5617 R rfl ?_
      refine c_front2 [_, _, _, _, _] hs5617 hs8956 R rfl ?_
      refine c_loopM (unc5 fun x9371 x9372 x9373 q9374 l9377 => fun b9366 e' hp' => ∃ (v9375 : Value), ∃ (hs9369 : Hp), [(3, .pointer (some ⟨g4796, 0, none⟩)), (8, .pointer (some ⟨g4804, 0, none⟩)), (9, .pointer (some ⟨g4811, 0, none⟩)), (10, .pointer (some ⟨g4812, 0, none⟩)), (14, .func (.func 50) #[] #[.pointer (some ⟨g4796, 0, none⟩), .pointer (some ⟨g4804, 0, none⟩), .pointer (some ⟨g4797, 0, none⟩)]), (15, .func (.func 51) #[] #[.pointer (some ⟨g4804, 0, none⟩), .pointer (some ⟨g4812, 0, none⟩), .pointer (some ⟨g4811, 0, none⟩)]), (16, .bool (x9371)), (17, .int .i64 (x9372))] = e' ∧ (g4796, Cl 24 [.int .i64 (s1.Period), .int .i64 (s1.Events), .slice A2 (s1.Rules).length c3]) :: (g4804, Cl 30 [.slice A4802 (l9377).length c4803]) :: (g4811, Cl 30 [.slice A4809 (l5620).length c4810]) :: (g4812, Cl 3 [.int .i64 (x9373)]) :: (g4797, Cl 58 [v9375]) :: (hs9369 ++ (hs5617 ++ R)) = hp' ∧ b8953.Le b9366 ∧ (RT.ptr (RT.arr 8 (RT.arr 8 (RT.int .i64)))).rep b9366.w [v9375] q9374 ∧ OS 3 (OT.fr (RT.int .i64)) b9366.w (.slice A4802 l9377.length c4803) l9377 hs9369 ∧ l9377.length = m4798) hm (e' := [(3, .pointer (some ⟨g4796, 0, none⟩)), (8, .pointer (some ⟨g4804, 0, none⟩)), (9, .pointer (some ⟨g4811, 0, none⟩)), (10, .pointer (some ⟨g4812, 0, none⟩)), (14, .func (.func 50) #[] #[.pointer (some ⟨g4796, 0, none⟩), .pointer (some ⟨g4804, 0, none⟩), .pointer (some ⟨g4797, 0, none⟩)]), (15, .func (.func 51) #[] #[.pointer (some ⟨g4804, 0, none⟩), .pointer (some ⟨g4812, 0, none⟩), .pointer (some ⟨g4811, 0, none⟩)]), (16, .bool (false)), (17, .int .i64 (2))]) (hp' := (g4796, Cl 24 [.int .i64 (s1.Period), .int .i64 (s1.Events), .slice A2 (s1.Rules).length c3]) :: (g4804, Cl 30 [.slice A4802 (l8963).length c4803]) :: (g4811, Cl 30 [.slice A4809 (l5620).length c4810]) :: (g4812, Cl 3 [.int .i64 (x8959)]) :: (g4797, Cl 58 [v8961]) :: (hs8956 ++ (hs5617 ++ R))) ⟨rfl, rfl, rfl, rfl, rfl, rfl, rfl, rfl, trivial⟩ (.cons_cons _ (.cons_cons _ (.cons_cons _ (.cons_cons _ (.cons_cons _ (sub_app hs8956 (sub_app hs5617 (.refl _)))))))) ⟨v8961, hs8956, rfl, rfl, (Base.Le.refl _), h8962, h8957, hln8964⟩ ?_
      rintro ⟨x9371, x9372, x9373, q9374, l9377⟩ b9366 _ _ oL8966 ⟨v9375, hs9369, rfl, rfl, hle9367, h9376, h9370, hln9378⟩ hstepL8966 houtL8966
      unfold mPlanCheapest_L8966 at hstepL8966
      have hm := (unc5E hstepL8966)
      refine c_seq ?_
      refine c_seq ?_
      refine c_region ?_
      refine t_st rfl (st_move rfl) ?_
      refine t_st rfl (st_field rfl fld24_1) ?_
      refine t_st rfl (st_load 0 rfl one3 rfl rfl) ?_
      obtain ⟨_, h9379, hm⟩ := bindS hm
      have h9379 := shN_some h9379
      refine t_st rfl (st_shl rfl rfl h9379) ?_
      refine t_st rfl (st_lss rfl rfl) ?_
      refine t_nil ?_
      refine x_then_normal ?_
      refine c_cond _ rfl (fun hc9380 => ?_) (fun hc9380 => ?_)
      ·
       rw [if_pos (of_decide_eq_true hc9380)] at hm
       refine c_skip ?_
       refine x_then_normal ?_
       obtain ⟨⟨x9475, x9476, q9477, l9480⟩, hj9482, hk9482⟩ := bindS hm
       refine c_join (fun b9470 e' hp' => ∃ (v9478 : Value), ∃ (hs9473 : Hp), [(3, .pointer (some ⟨g4796, 0, none⟩)), (8, .pointer (some ⟨g4804, 0, none⟩)), (9, .pointer (some ⟨g4811, 0, none⟩)), (10, .pointer (some ⟨g4812, 0, none⟩)), (14, .func (.func 50) #[] #[.pointer (some ⟨g4796, 0, none⟩), .pointer (some ⟨g4804, 0, none⟩), .pointer (some ⟨g4797, 0, none⟩)]), (15, .func (.func 51) #[] #[.pointer (some ⟨g4804, 0, none⟩), .pointer (some ⟨g4812, 0, none⟩), .pointer (some ⟨g4811, 0, none⟩)]), (16, .bool (x9475)), (17, .int .i64 (x9372))] = e' ∧ (g4796, Cl 24 [.int .i64 (s1.Period), .int .i64 (s1.Events), .slice A2 (s1.Rules).length c3]) :: (g4804, Cl 30 [.slice A4802 (l9480).length c4803]) :: (g4811, Cl 30 [.slice A4809 (l5620).length c4810]) :: (g4812, Cl 3 [.int .i64 (x9476)]) :: (g4797, Cl 58 [v9478]) :: (hs9473 ++ (hs5617 ++ R)) = hp' ∧ b9366.Le b9470 ∧ (RT.ptr (RT.arr 8 (RT.arr 8 (RT.int .i64)))).rep b9470.w [v9478] q9477 ∧ OS 3 (OT.fr (RT.int .i64)) b9470.w (.slice A4802 l9480.length c4803) l9480 hs9473 ∧ l9480.length = m4798) ?_ ?_
       ·
        have hm := hj9482
        refine c_block ?_
        refine c_seq ?_
        refine c_region ?_
        refine t_st rfl (st_assign rfl) ?_
        refine t_nil ?_
        refine x_then_normal ?_
        refine c_seq ?_
        refine c_seq ?_
        refine c_region ?_
        refine t_st rfl (st_load 1 rfl one30 rfl rfl) ?_
        refine t_st rfl (st_len rfl sl30) ?_
        refine t_st rfl (st_move rfl) ?_
        refine t_nil ?_
        refine x_then_normal ?_
        refine c_block ?_
        have hb9484 : l9377.length ≤ 9223372036854775807 := (OS.len h9370)
        refine c_pullb 4 rfl ?_
        refine c_pullb 4 rfl ?_
        refine c_pullb 4 rfl ?_
        refine c_pullb 4 rfl ?_
        refine c_pullb 4 rfl ?_
        refine c_front2 [_, _, _, _, _] hs9369 hs5617 R rfl ?_
        refine c_front2 [_, _, _, _, _] hs5617 hs9369 R rfl ?_
        obtain ⟨x9526, hl9528, hk9529⟩ := bindS hm
        refine c_forS (fun k9527 => fun x9526 => fun b9524 e' hp' => [(3, .pointer (some ⟨g4796, 0, none⟩)), (8, .pointer (some ⟨g4804, 0, none⟩)), (9, .pointer (some ⟨g4811, 0, none⟩)), (10, .pointer (some ⟨g4812, 0, none⟩)), (14, .func (.func 50) #[] #[.pointer (some ⟨g4796, 0, none⟩), .pointer (some ⟨g4804, 0, none⟩), .pointer (some ⟨g4797, 0, none⟩)]), (15, .func (.func 51) #[] #[.pointer (some ⟨g4804, 0, none⟩), .pointer (some ⟨g4812, 0, none⟩), .pointer (some ⟨g4811, 0, none⟩)]), (16, .bool (x9371)), (17, .int .i64 (x9372)), (18, .int .i64 (x9526)), (109, .int .i64 ((l9377.length : Int))), (110, .int .i64 ((k9527 : Int)))] = e' ∧ (g4796, Cl 24 [.int .i64 (s1.Period), .int .i64 (s1.Events), .slice A2 (s1.Rules).length c3]) :: (g4804, Cl 30 [.slice A4802 (l9377).length c4803]) :: (g4811, Cl 30 [.slice A4809 (l5620).length c4810]) :: (g4812, Cl 3 [.int .i64 (x9373)]) :: (g4797, Cl 58 [v9375]) :: (hs9369 ++ (hs5617 ++ R)) = hp' ∧ b9366.Le b9524) hl9528 (e' := [(3, .pointer (some ⟨g4796, 0, none⟩)), (8, .pointer (some ⟨g4804, 0, none⟩)), (9, .pointer (some ⟨g4811, 0, none⟩)), (10, .pointer (some ⟨g4812, 0, none⟩)), (14, .func (.func 50) #[] #[.pointer (some ⟨g4796, 0, none⟩), .pointer (some ⟨g4804, 0, none⟩), .pointer (some ⟨g4797, 0, none⟩)]), (15, .func (.func 51) #[] #[.pointer (some ⟨g4804, 0, none⟩), .pointer (some ⟨g4812, 0, none⟩), .pointer (some ⟨g4811, 0, none⟩)]), (16, .bool (x9371)), (17, .int .i64 (x9372)), (18, .int .i64 (0)), (109, .int .i64 ((l9377.length : Int))), (110, .int .i64 0)]) (hp' := (g4796, Cl 24 [.int .i64 (s1.Period), .int .i64 (s1.Events), .slice A2 (s1.Rules).length c3]) :: (g4804, Cl 30 [.slice A4802 (l9377).length c4803]) :: (g4811, Cl 30 [.slice A4809 (l5620).length c4810]) :: (g4812, Cl 3 [.int .i64 (x9373)]) :: (g4797, Cl 58 [v9375]) :: (hs9369 ++ (hs5617 ++ R))) ⟨rfl, rfl, rfl, rfl, rfl, rfl, rfl, rfl, rfl, rfl, rfl, trivial⟩ (.cons_cons _ (.cons_cons _ (.cons_cons _ (.cons_cons _ (.cons_cons _ (sub_app hs9369 (sub_app hs5617 (.refl _)))))))) ⟨rfl, rfl, (Base.Le.refl _)⟩ ?_ ?_
        ·
         rintro k9527 x9526 b9524 _ _ oL9483 hknL9483 ⟨rfl, rfl, hle9525⟩ hstepL9483
         unfold mPlanCheapest_L9483 at hstepL9483
         have hm := hstepL9483
         refine c_seq ?_
         refine c_region ?_
         refine t_st rfl (st_lss_t rfl rfl (by omega)) ?_
         refine t_nil ?_
         refine x_then_normal ?_
         refine c_seq ?_
         refine c_cond_t rfl ?_
         refine c_skip ?_
         refine x_then_normal ?_
         refine c_seq ?_
         refine c_block ?_
         refine c_seq ?_
         refine c_region ?_
         refine t_st rfl (st_move rfl) ?_
         refine t_st rfl (st_assign rfl) ?_
         refine t_nil ?_
         refine x_then_normal ?_
         refine c_seq ?_
         refine c_region ?_
         refine t_st rfl (st_move rfl) ?_
         refine t_st rfl (st_move rfl) ?_
         obtain ⟨_, h9530, hm⟩ := bindS hm
         have h9530 := shN_some h9530
         refine t_st rfl (st_shr rfl rfl h9530) ?_
         refine t_st rfl (st_and rfl rfl) ?_
         refine t_st rfl (st_eql rfl rfl) ?_
         refine t_nil ?_
         refine x_then_normal ?_
         refine c_cond _ rfl (fun hc9531 => ?_) (fun hc9531 => ?_)
         ·
          rw [if_pos (of_decide_eq_true hc9531)] at hm
          refine c_region ?_
          refine t_st rfl (st_move rfl) ?_
          refine t_st rfl (st_load 2 rfl one30 rfl rfl) ?_
          refine t_st rfl (st_move rfl) ?_
          obtain ⟨x9532, h9533, hm⟩ := bindS hm
          obtain ⟨j9534, hj9535, hx9536⟩ := idx_some h9533
          obtain ⟨cs9537, hs9542, P9543, P9544, hq9545, hr9538, hcs9539, hA9540, hlt9541, hb9546, hho9547⟩ := OS.get (sz := 1) rfl (by decide) (h5618.le (hle8954.trans (hle9367.trans hle9525))) hx9536
          obtain ⟨rfl, rfl⟩ := hr9538
          refine t_st rfl (st_index_old j9534 rfl rfl hj9535 hlt9541 hA9540 sl30) ?_
          refine t_st rfl (st_load_rd rfl one3 (fun w ho => hcs9539 w _ ho (.cons _ (.cons _ (.cons _ (.cons _ (.cons _ (sub_skip hs9369 (List.sublist_append_left _ _))))))) 0 _ rfl)) ?_
          obtain ⟨_, h9548, hm⟩ := bindS hm
          have h9548 := (chk_some h9548).2
          refine t_st rfl (st_add rfl rfl h9548) ?_
          refine t_st rfl (st_assign rfl) ?_
          refine t_nil ?_
          refine x_block_normal ?_
          refine x_then_normal ?_
          refine c_region ?_
          refine t_st rfl (st_add rfl rfl (by omega)) ?_
          refine t_st rfl (st_move rfl) ?_
          refine t_nil ?_
          refine x_pullb 4 rfl ?_
          refine x_pullb 4 rfl ?_
          refine x_pullb 4 rfl ?_
          refine x_pullb 4 rfl ?_
          refine x_pullb 4 rfl ?_
          refine x_front2 [_, _, _, _, _] hs9369 hs5617 R rfl ?_
          refine x_front2 [_, _, _, _, _] hs5617 hs9369 R rfl ?_
          obtain rfl := some1 hm
          exact x_againS (e' := [(3, .pointer (some ⟨g4796, 0, none⟩)), (8, .pointer (some ⟨g4804, 0, none⟩)), (9, .pointer (some ⟨g4811, 0, none⟩)), (10, .pointer (some ⟨g4812, 0, none⟩)), (14, .func (.func 50) #[] #[.pointer (some ⟨g4796, 0, none⟩), .pointer (some ⟨g4804, 0, none⟩), .pointer (some ⟨g4797, 0, none⟩)]), (15, .func (.func 51) #[] #[.pointer (some ⟨g4804, 0, none⟩), .pointer (some ⟨g4812, 0, none⟩), .pointer (some ⟨g4811, 0, none⟩)]), (16, .bool (x9371)), (17, .int .i64 (x9372)), (18, .int .i64 (x9526 + x9532)), (109, .int .i64 ((l9377.length : Int))), (110, .int .i64 ((k9527 : Int) + 1))]) (hp' := (g4796, Cl 24 [.int .i64 (s1.Period), .int .i64 (s1.Events), .slice A2 (s1.Rules).length c3]) :: (g4804, Cl 30 [.slice A4802 (l9377).length c4803]) :: (g4811, Cl 30 [.slice A4809 (l5620).length c4810]) :: (g4812, Cl 3 [.int .i64 (x9373)]) :: (g4797, Cl 58 [v9375]) :: (hs9369 ++ (hs5617 ++ R))) ⟨rfl, rfl, rfl, rfl, rfl, rfl, rfl, rfl, rfl, rfl, rfl, trivial⟩ (.cons_cons _ (.cons_cons _ (.cons_cons _ (.cons_cons _ (.cons_cons _ (sub_app hs9369 (sub_app hs5617 (.refl _)))))))) ⟨rfl, rfl, (hle9525)⟩
         ·
          rw [if_neg (of_decide_eq_false hc9531)] at hm
          refine c_skip ?_
          refine x_block_normal ?_
          refine x_then_normal ?_
          refine c_region ?_
          refine t_st rfl (st_add rfl rfl (by omega)) ?_
          refine t_st rfl (st_move rfl) ?_
          refine t_nil ?_
          refine x_pullb 4 rfl ?_
          refine x_pullb 4 rfl ?_
          refine x_pullb 4 rfl ?_
          refine x_pullb 4 rfl ?_
          refine x_pullb 4 rfl ?_
          refine x_front2 [_, _, _, _, _] hs9369 hs5617 R rfl ?_
          refine x_front2 [_, _, _, _, _] hs5617 hs9369 R rfl ?_
          obtain rfl := some1 hm
          exact x_againS (e' := [(3, .pointer (some ⟨g4796, 0, none⟩)), (8, .pointer (some ⟨g4804, 0, none⟩)), (9, .pointer (some ⟨g4811, 0, none⟩)), (10, .pointer (some ⟨g4812, 0, none⟩)), (14, .func (.func 50) #[] #[.pointer (some ⟨g4796, 0, none⟩), .pointer (some ⟨g4804, 0, none⟩), .pointer (some ⟨g4797, 0, none⟩)]), (15, .func (.func 51) #[] #[.pointer (some ⟨g4804, 0, none⟩), .pointer (some ⟨g4812, 0, none⟩), .pointer (some ⟨g4811, 0, none⟩)]), (16, .bool (x9371)), (17, .int .i64 (x9372)), (18, .int .i64 (x9526)), (109, .int .i64 ((l9377.length : Int))), (110, .int .i64 ((k9527 : Int) + 1))]) (hp' := (g4796, Cl 24 [.int .i64 (s1.Period), .int .i64 (s1.Events), .slice A2 (s1.Rules).length c3]) :: (g4804, Cl 30 [.slice A4802 (l9377).length c4803]) :: (g4811, Cl 30 [.slice A4809 (l5620).length c4810]) :: (g4812, Cl 3 [.int .i64 (x9373)]) :: (g4797, Cl 58 [v9375]) :: (hs9369 ++ (hs5617 ++ R))) ⟨rfl, rfl, rfl, rfl, rfl, rfl, rfl, rfl, rfl, rfl, rfl, trivial⟩ (.cons_cons _ (.cons_cons _ (.cons_cons _ (.cons_cons _ (.cons_cons _ (sub_app hs9369 (sub_app hs5617 (.refl _)))))))) ⟨rfl, rfl, (hle9525)⟩
        ·
         rintro b9524 _ _ ⟨rfl, rfl, hle9525⟩
         have hm := hk9529
         refine c_seq ?_
         refine c_region ?_
         refine t_st rfl (st_lss_f rfl rfl (by omega)) ?_
         refine t_nil ?_
         refine x_then_normal ?_
         refine c_seq ?_
         refine c_cond_f rfl ?_
         refine c_exit ?_
         refine x_then_exit ?_
         refine x_then_exit ?_
         refine x_block_out ?_
         refine x_then_normal ?_
         refine c_seq ?_
         refine c_region ?_
         refine t_st rfl (st_assign rfl) ?_
         refine t_nil ?_
         refine x_then_normal ?_
         obtain ⟨x9552, hj9553, hk9553⟩ := bindS hm
         refine c_join (fun b9550 e' hp' => [(3, .pointer (some ⟨g4796, 0, none⟩)), (8, .pointer (some ⟨g4804, 0, none⟩)), (9, .pointer (some ⟨g4811, 0, none⟩)), (10, .pointer (some ⟨g4812, 0, none⟩)), (14, .func (.func 50) #[] #[.pointer (some ⟨g4796, 0, none⟩), .pointer (some ⟨g4804, 0, none⟩), .pointer (some ⟨g4797, 0, none⟩)]), (15, .func (.func 51) #[] #[.pointer (some ⟨g4804, 0, none⟩), .pointer (some ⟨g4812, 0, none⟩), .pointer (some ⟨g4811, 0, none⟩)]), (16, .bool (x9371)), (17, .int .i64 (x9372)), (20, .int .i64 (x9552))] = e' ∧ (g4796, Cl 24 [.int .i64 (s1.Period), .int .i64 (s1.Events), .slice A2 (s1.Rules).length c3]) :: (g4804, Cl 30 [.slice A4802 (l9377).length c4803]) :: (g4811, Cl 30 [.slice A4809 (l5620).length c4810]) :: (g4812, Cl 3 [.int .i64 (x9373)]) :: (g4797, Cl 58 [v9375]) :: (hs9369 ++ (hs5617 ++ R)) = hp' ∧ b9524.Le b9550) ?_ ?_
         ·
          have hm := hj9553
          refine c_seq ?_
          refine c_region ?_
          refine t_st rfl (st_move rfl) ?_
          refine t_st rfl (st_lss rfl rfl) ?_
          refine t_nil ?_
          refine x_then_normal ?_
          refine c_cond _ rfl (fun hc9554 => ?_) (fun hc9554 => ?_)
          ·
           rw [if_pos (of_decide_eq_true hc9554)] at hm
           refine c_region ?_
           refine t_st rfl (st_assign rfl) ?_
           refine t_nil ?_
           obtain rfl := some1 hm
           refine x_pullb 4 rfl ?_
           refine x_pullb 4 rfl ?_
           refine x_pullb 4 rfl ?_
           refine x_pullb 4 rfl ?_
           refine x_pullb 4 rfl ?_
           refine x_front2 [_, _, _, _, _] hs9369 hs5617 R rfl ?_
           refine x_front2 [_, _, _, _, _] hs5617 hs9369 R rfl ?_
           exact x_join (e' := [(3, .pointer (some ⟨g4796, 0, none⟩)), (8, .pointer (some ⟨g4804, 0, none⟩)), (9, .pointer (some ⟨g4811, 0, none⟩)), (10, .pointer (some ⟨g4812, 0, none⟩)), (14, .func (.func 50) #[] #[.pointer (some ⟨g4796, 0, none⟩), .pointer (some ⟨g4804, 0, none⟩), .pointer (some ⟨g4797, 0, none⟩)]), (15, .func (.func 51) #[] #[.pointer (some ⟨g4804, 0, none⟩), .pointer (some ⟨g4812, 0, none⟩), .pointer (some ⟨g4811, 0, none⟩)]), (16, .bool (x9371)), (17, .int .i64 (x9372)), (20, .int .i64 (1))]) (hp' := (g4796, Cl 24 [.int .i64 (s1.Period), .int .i64 (s1.Events), .slice A2 (s1.Rules).length c3]) :: (g4804, Cl 30 [.slice A4802 (l9377).length c4803]) :: (g4811, Cl 30 [.slice A4809 (l5620).length c4810]) :: (g4812, Cl 3 [.int .i64 (x9373)]) :: (g4797, Cl 58 [v9375]) :: (hs9369 ++ (hs5617 ++ R))) ⟨rfl, rfl, rfl, rfl, rfl, rfl, rfl, rfl, rfl, trivial⟩ (.cons_cons _ (.cons_cons _ (.cons_cons _ (.cons_cons _ (.cons_cons _ (sub_app hs9369 (sub_app hs5617 (.refl _)))))))) ⟨rfl, rfl, (Base.Le.refl _)⟩
          ·
           rw [if_neg (of_decide_eq_false hc9554)] at hm
           refine c_skip ?_
           obtain rfl := some1 hm
           refine x_pullb 4 rfl ?_
           refine x_pullb 4 rfl ?_
           refine x_pullb 4 rfl ?_
           refine x_pullb 4 rfl ?_
           refine x_pullb 4 rfl ?_
           refine x_front2 [_, _, _, _, _] hs9369 hs5617 R rfl ?_
           refine x_front2 [_, _, _, _, _] hs5617 hs9369 R rfl ?_
           exact x_join (e' := [(3, .pointer (some ⟨g4796, 0, none⟩)), (8, .pointer (some ⟨g4804, 0, none⟩)), (9, .pointer (some ⟨g4811, 0, none⟩)), (10, .pointer (some ⟨g4812, 0, none⟩)), (14, .func (.func 50) #[] #[.pointer (some ⟨g4796, 0, none⟩), .pointer (some ⟨g4804, 0, none⟩), .pointer (some ⟨g4797, 0, none⟩)]), (15, .func (.func 51) #[] #[.pointer (some ⟨g4804, 0, none⟩), .pointer (some ⟨g4812, 0, none⟩), .pointer (some ⟨g4811, 0, none⟩)]), (16, .bool (x9371)), (17, .int .i64 (x9372)), (20, .int .i64 ((-1)))]) (hp' := (g4796, Cl 24 [.int .i64 (s1.Period), .int .i64 (s1.Events), .slice A2 (s1.Rules).length c3]) :: (g4804, Cl 30 [.slice A4802 (l9377).length c4803]) :: (g4811, Cl 30 [.slice A4809 (l5620).length c4810]) :: (g4812, Cl 3 [.int .i64 (x9373)]) :: (g4797, Cl 58 [v9375]) :: (hs9369 ++ (hs5617 ++ R))) ⟨rfl, rfl, rfl, rfl, rfl, rfl, rfl, rfl, rfl, trivial⟩ (.cons_cons _ (.cons_cons _ (.cons_cons _ (.cons_cons _ (.cons_cons _ (sub_app hs9369 (sub_app hs5617 (.refl _)))))))) ⟨rfl, rfl, (Base.Le.refl _)⟩
         ·
          rintro b9550 _ _ ⟨rfl, rfl, hle9551⟩
          have hm := hk9553
          refine c_seq ?_
          refine c_region ?_
          refine t_st rfl (st_move rfl) ?_
          refine t_st rfl (st_move rfl) ?_
          refine t_st rfl (st_move rfl) ?_
          obtain ⟨⟨x9555, q9556⟩, hcl9557, hm⟩ := bindS hm
          have hm := (unc2E hm)
          refine t_pullb 4 rfl ?_
          refine t_pullb 2 rfl ?_
          refine t_pullb 2 rfl ?_
          refine t_out1 [_, _, _] [_, _] hs9369 (hs5617 ++ R) rfl ?_
          refine t_callvG #[] #[.pointer (some ⟨g4796, 0, none⟩), .pointer (some ⟨g4804, 0, none⟩), .pointer (some ⟨g4797, 0, none⟩)] [.int .i64 (x9372), .int .i64 (x9552)] rfl rfl call50 rfl (cPlanCheapest_1 _ _ x9372 x9552 s1.Period s1.Events s1.Rules q9374 l9377 g4796 g4804 g4797 A2 c3 v9375 A4802 c4803 hs9369 (h4.le (hle5008.trans (hle5615.trans (hle8954.trans (hle9367.trans (hle9525.trans hle9551)))))) (RT.le (RT.ptr (RT.arr 8 (RT.arr 8 (RT.int .i64)))) h9376 (hle9525.trans hle9551)) (h9370.le (hle9525.trans hle9551)) x9555 q9556 hcl9557) ?_
          rintro _ b9558 _ hle9559 ⟨v9560, rfl, rfl, h9561⟩
          refine t_in1 [_, _, _] [_, _] hs9369 (hs5617 ++ R) rfl ?_
          refine t_st rfl (st_assign rfl) ?_
          refine t_nil ?_
          refine x_then_normal ?_
          refine c_seq ?_
          refine c_region ?_
          refine t_st rfl (st_move rfl) ?_
          refine t_st rfl (st_gtr rfl rfl) ?_
          refine t_nil ?_
          refine x_then_normal ?_
          refine c_cond _ rfl (fun hc9562 => ?_) (fun hc9562 => ?_)
          ·
           rw [if_pos (of_decide_eq_true hc9562)] at hm
           refine c_seq ?_
           refine c_region ?_
           refine t_st rfl (st_move rfl) ?_
           refine t_st rfl (st_move rfl) ?_
           refine t_st rfl (st_move rfl) ?_
           refine t_st rfl (st_move rfl) ?_
           obtain ⟨_, h9563, hm⟩ := bindS hm
           have h9563 := (chk_some h9563).2
           refine t_st rfl (st_mul rfl rfl h9563) ?_
           obtain ⟨⟨x9564, l9565⟩, hcl9566, hm⟩ := bindS hm
           have hm := (unc2E hm)
           refine t_pullb 3 rfl ?_
           refine t_pullb 4 rfl ?_
           refine t_pullb 3 rfl ?_
           refine t_front2 [_, _, _, _, _] hs9369 hs5617 R rfl ?_
           refine t_front2 [_, _, _, _, _] hs5617 hs9369 R rfl ?_
           refine t_out2 [_, _, _] [_, _] hs9369 hs5617 R rfl ?_
           refine t_callvG #[] #[.pointer (some ⟨g4804, 0, none⟩), .pointer (some ⟨g4812, 0, none⟩), .pointer (some ⟨g4811, 0, none⟩)] [.int .i64 (x9372), .int .i64 (x9552 * x9555)] rfl rfl call51 rfl (cPlanCheapest_2 _ _ x9372 (x9552 * x9555) x9373 l9377 l5620 g4804 g4812 g4811 A4802 c4803 hs9369 A4809 c4810 hs5617 (h9370.le (hle9525.trans (hle9551.trans hle9559))) (h5618.le (hle8954.trans (hle9367.trans (hle9525.trans (hle9551.trans hle9559))))) x9564 l9565 hcl9566) ?_
           rintro _ b9567 _ hle9568 ⟨hs9569, rfl, rfl, h9570, h9571⟩
           refine t_in2 [_, _, _] [_, _] hs9569 hs5617 R rfl ?_
           refine t_hresp 0 rfl (o' := Cl 30 [.slice A4802 (l9565).length c4803]) (by simp only [h9571]) ?_
           refine t_nil ?_
           refine x_then_normal ?_
           refine c_region ?_
           refine t_st rfl (st_assign rfl) ?_
           refine t_nil ?_
           refine x_block_normal ?_
           obtain ⟨rfl, rfl, rfl, rfl⟩ := some4 hm
           refine x_pullb 4 rfl ?_
           refine x_pullb 2 rfl ?_
           refine x_pullb 3 rfl ?_
           refine x_pullb 3 rfl ?_
           refine x_pullb 4 rfl ?_
           refine x_front2 [_, _, _, _, _] hs9569 hs5617 R rfl ?_
           refine x_front2 [_, _, _, _, _] hs5617 hs9569 R rfl ?_
           exact x_join (e' := [(3, .pointer (some ⟨g4796, 0, none⟩)), (8, .pointer (some ⟨g4804, 0, none⟩)), (9, .pointer (some ⟨g4811, 0, none⟩)), (10, .pointer (some ⟨g4812, 0, none⟩)), (14, .func (.func 50) #[] #[.pointer (some ⟨g4796, 0, none⟩), .pointer (some ⟨g4804, 0, none⟩), .pointer (some ⟨g4797, 0, none⟩)]), (15, .func (.func 51) #[] #[.pointer (some ⟨g4804, 0, none⟩), .pointer (some ⟨g4812, 0, none⟩), .pointer (some ⟨g4811, 0, none⟩)]), (16, .bool (true)), (17, .int .i64 (x9372))]) (hp' := (g4796, Cl 24 [.int .i64 (s1.Period), .int .i64 (s1.Events), .slice A2 (s1.Rules).length c3]) :: (g4804, Cl 30 [.slice A4802 (l9565).length c4803]) :: (g4811, Cl 30 [.slice A4809 (l5620).length c4810]) :: (g4812, Cl 3 [.int .i64 (x9564)]) :: (g4797, Cl 58 [v9560]) :: (hs9569 ++ (hs5617 ++ R))) ⟨rfl, rfl, rfl, rfl, rfl, rfl, rfl, rfl, trivial⟩ (.cons_cons _ (.cons_cons _ (.cons_cons _ (.cons_cons _ (.cons_cons _ (sub_app hs9569 (sub_app hs5617 (.refl _)))))))) ⟨v9560, hs9569, rfl, rfl, (hle9525.trans (hle9551.trans (hle9559.trans hle9568))), (RT.le (RT.ptr (RT.arr 8 (RT.arr 8 (RT.int .i64)))) h9561 hle9568), h9570, (h9571.trans hln9378)⟩
          ·
           rw [if_neg (of_decide_eq_false hc9562)] at hm
           refine c_skip ?_
           refine x_block_normal ?_
           obtain ⟨rfl, rfl, rfl, rfl⟩ := some4 hm
           refine x_pullb 2 rfl ?_
           refine x_pullb 4 rfl ?_
           refine x_pullb 4 rfl ?_
           refine x_pullb 4 rfl ?_
           refine x_pullb 4 rfl ?_
           refine x_front2 [_, _, _, _, _] hs9369 hs5617 R rfl ?_
           refine x_front2 [_, _, _, _, _] hs5617 hs9369 R rfl ?_
           exact x_join (e' := [(3, .pointer (some ⟨g4796, 0, none⟩)), (8, .pointer (some ⟨g4804, 0, none⟩)), (9, .pointer (some ⟨g4811, 0, none⟩)), (10, .pointer (some ⟨g4812, 0, none⟩)), (14, .func (.func 50) #[] #[.pointer (some ⟨g4796, 0, none⟩), .pointer (some ⟨g4804, 0, none⟩), .pointer (some ⟨g4797, 0, none⟩)]), (15, .func (.func 51) #[] #[.pointer (some ⟨g4804, 0, none⟩), .pointer (some ⟨g4812, 0, none⟩), .pointer (some ⟨g4811, 0, none⟩)]), (16, .bool (x9371)), (17, .int .i64 (x9372))]) (hp' := (g4796, Cl 24 [.int .i64 (s1.Period), .int .i64 (s1.Events), .slice A2 (s1.Rules).length c3]) :: (g4804, Cl 30 [.slice A4802 (l9377).length c4803]) :: (g4811, Cl 30 [.slice A4809 (l5620).length c4810]) :: (g4812, Cl 3 [.int .i64 (x9373)]) :: (g4797, Cl 58 [v9560]) :: (hs9369 ++ (hs5617 ++ R))) ⟨rfl, rfl, rfl, rfl, rfl, rfl, rfl, rfl, trivial⟩ (.cons_cons _ (.cons_cons _ (.cons_cons _ (.cons_cons _ (.cons_cons _ (sub_app hs9369 (sub_app hs5617 (.refl _)))))))) ⟨v9560, hs9369, rfl, rfl, (hle9525.trans (hle9551.trans hle9559)), h9561, (h9370.le (hle9525.trans (hle9551.trans hle9559))), hln9378⟩
       ·
        rintro b9470 _ _ ⟨v9478, hs9473, rfl, rfl, hle9471, h9479, h9474, hln9481⟩
        have hm := (unc4E hk9482)
        refine c_region ?_
        refine t_st rfl (st_move rfl) ?_
        obtain ⟨_, h9572, hm⟩ := bindS hm
        have h9572 := (chk_some h9572).2
        refine t_st rfl (st_add rfl rfl h9572) ?_
        refine t_st rfl (st_assign rfl) ?_
        refine t_nil ?_
        refine x_pullb 4 rfl ?_
        refine x_pullb 4 rfl ?_
        refine x_pullb 4 rfl ?_
        refine x_pullb 4 rfl ?_
        refine x_pullb 4 rfl ?_
        refine x_front2 [_, _, _, _, _] hs9473 hs5617 R rfl ?_
        refine x_front2 [_, _, _, _, _] hs5617 hs9473 R rfl ?_
        exact x_againM (x9475, x9372 + 2, x9476, q9477, l9480) (Option.some.inj hm).symm (e' := [(3, .pointer (some ⟨g4796, 0, none⟩)), (8, .pointer (some ⟨g4804, 0, none⟩)), (9, .pointer (some ⟨g4811, 0, none⟩)), (10, .pointer (some ⟨g4812, 0, none⟩)), (14, .func (.func 50) #[] #[.pointer (some ⟨g4796, 0, none⟩), .pointer (some ⟨g4804, 0, none⟩), .pointer (some ⟨g4797, 0, none⟩)]), (15, .func (.func 51) #[] #[.pointer (some ⟨g4804, 0, none⟩), .pointer (some ⟨g4812, 0, none⟩), .pointer (some ⟨g4811, 0, none⟩)]), (16, .bool (x9475)), (17, .int .i64 (x9372 + 2))]) (hp' := (g4796, Cl 24 [.int .i64 (s1.Period), .int .i64 (s1.Events), .slice A2 (s1.Rules).length c3]) :: (g4804, Cl 30 [.slice A4802 (l9480).length c4803]) :: (g4811, Cl 30 [.slice A4809 (l5620).length c4810]) :: (g4812, Cl 3 [.int .i64 (x9476)]) :: (g4797, Cl 58 [v9478]) :: (hs9473 ++ (hs5617 ++ R))) ⟨rfl, rfl, rfl, rfl, rfl, rfl, rfl, rfl, trivial⟩ (.cons_cons _ (.cons_cons _ (.cons_cons _ (.cons_cons _ (.cons_cons _ (sub_app hs9473 (sub_app hs5617 (.refl _)))))))) ⟨v9478, hs9473, rfl, rfl, ((hle9367.trans hle9471)), h9479, h9474, hln9481⟩
      ·
       rw [if_neg (of_decide_eq_false hc9380)] at hm
       refine c_exit ?_
       refine x_then_exit ?_
       refine x_then_exit ?_
       refine x_block_out ?_
       have hm := congrArg some (houtL8966 _ (Option.some.inj hm).symm)
       refine x_block_normal ?_
       refine x_pullb 4 rfl ?_
       refine x_pullb 4 rfl ?_
       refine x_pullb 4 rfl ?_
       refine x_pullb 4 rfl ?_
       refine x_pullb 4 rfl ?_
       refine x_front2 [_, _, _, _, _] hs9369 hs5617 R rfl ?_
       refine x_front2 [_, _, _, _, _] hs5617 hs9369 R rfl ?_
       exact x_againM (x9371, x9373, q9374, l9377) (Option.some.inj hm).symm (e' := [(3, .pointer (some ⟨g4796, 0, none⟩)), (8, .pointer (some ⟨g4804, 0, none⟩)), (9, .pointer (some ⟨g4811, 0, none⟩)), (10, .pointer (some ⟨g4812, 0, none⟩)), (14, .func (.func 50) #[] #[.pointer (some ⟨g4796, 0, none⟩), .pointer (some ⟨g4804, 0, none⟩), .pointer (some ⟨g4797, 0, none⟩)]), (15, .func (.func 51) #[] #[.pointer (some ⟨g4804, 0, none⟩), .pointer (some ⟨g4812, 0, none⟩), .pointer (some ⟨g4811, 0, none⟩)]), (16, .bool (x9371))]) (hp' := (g4796, Cl 24 [.int .i64 (s1.Period), .int .i64 (s1.Events), .slice A2 (s1.Rules).length c3]) :: (g4804, Cl 30 [.slice A4802 (l9377).length c4803]) :: (g4811, Cl 30 [.slice A4809 (l5620).length c4810]) :: (g4812, Cl 3 [.int .i64 (x9373)]) :: (g4797, Cl 58 [v9375]) :: (hs9369 ++ (hs5617 ++ R))) ⟨rfl, rfl, rfl, rfl, rfl, rfl, rfl, trivial⟩ (.cons_cons _ (.cons_cons _ (.cons_cons _ (.cons_cons _ (.cons_cons _ (sub_app hs9369 (sub_app hs5617 (.refl _)))))))) ⟨v9375, hs9369, rfl, rfl, ((hle8954.trans hle9367)), h9376, h9370, hln9378⟩
     ·
      rw [if_neg (fun hh => Bool.noConfusion (hh.symm.trans hc8965))] at hm
      refine c_exit ?_
      refine x_then_exit ?_
      refine x_then_exit ?_
      refine x_block_out ?_
      have hm := congrArg some (houtL7727 _ (Option.some.inj hm).symm)
      obtain ⟨rfl, rfl⟩ := some2 hm
      refine x_pullb 3 rfl ?_
      refine x_pullb 2 rfl ?_
      exact x_join (e' := [(8, .pointer (some ⟨g4804, 0, none⟩)), (10, .pointer (some ⟨g4812, 0, none⟩))]) (hp' := (g4804, Cl 30 [.slice A4802 (l8963).length c4803]) :: (g4812, Cl 3 [.int .i64 (x8959)]) :: (hs8956 ++ R)) ⟨rfl, rfl, trivial⟩ (.cons_cons _ (.cons_cons _ (.cons _ (.cons _ (.cons _ (sub_app hs8956 (sub_skip hs5617 (.refl _)))))))) ⟨hs8956, rfl, rfl, hle8954, h8957, hln8964⟩
    ·
     rintro b7718 _ _ ⟨hs7721, rfl, rfl, hle7719, h7722, hln7725⟩
     have hm := (unc2E hk7726)
     refine c_seq ?_
     refine D_drawS ((g4804, Cl 30 [.slice A4802 (l7724).length c4803]) :: (g4812, Cl 3 [.int .i64 (x7723)]) :: (hs7721 ++ R)) mixed ?_
     refine E_in (.cons_cons _ (.cons_cons _ (sub_app hs7721 (.refl _)))) ?_
     refine E_st 0 rfl (st_load 0 rfl one30 rfl rfl) ?_
     refine E_st 1 rfl (st_load 1 rfl one3 rfl rfl) ?_
     refine E_st 2 rfl (st_assign rfl) ?_
     refine E_st 3 rfl (st_assign rfl) ?_
     refine E_out ?_
     refine D_done (by kernel_rfl) ?_
     refine x_then_normal ?_
     refine c_ret ?_
     obtain ⟨rfl, rfl⟩ := some2 hm
     exact retM (rs := [.tmp 6, .tmp 7]) [.slice A4802 (l7724).length c4803, .int .i64 (x7723)] (hle5008.trans (hle5615.trans hle7719)) (by decide) rfl ⟨rfl, ⟨rfl, trivial⟩⟩ rfl (hp' := (hs7721 ++ R)) (.cons _ (.cons _ (sub_app hs7721 (.refl _)))) ⟨A4802, c4803, hs7721, rfl, rfl, h7722⟩

set_option maxRecDepth 20000 in
theorem cPlanBest_2 (b : Base) (R : Hp) (q14 : (Option (List (List Int)))) (x17 : Int) (x18 : Int) (l22 : (List PlanRule)) (x23 : Int) (l24 : (List Int)) (l25 : (List Int)) (g11 : Nat) (g12 : Nat) (g13 : Nat) (v15 : Value) (A19 : Option Addr) (c20 : Nat) (A3 : Option Addr) (c4 : Nat) (hs2 : Hp) (A8 : Option Addr) (c9 : Nat) (hs7 : Hp) (h16 : (RT.ptr (RT.arr 8 (RT.arr 8 (RT.int .i64)))).rep b.w [v15] q14) (h21 : FZ rPlanRule b.w A19 c20 l22) (h5 : OS 3 (OT.fr (RT.int .i64)) b.w (.slice A3 l24.length c4) l24 hs2) (h10 : OS 3 (OT.fr (RT.int .i64)) b.w (.slice A8 l25.length c9) l25 hs7) (hnz26 : (A8 = none ↔ l25 = [])) (x58 : Int) (l59 : (List Int)) (hm : mPlanBest_2 q14 x17 x18 l22 x23 l24 l25 = some (x58, l59)) :
    CallsG Try.prog 38 [v15, .slice A3 (l24).length c4, .pointer (some ⟨g11, 0, none⟩), .pointer (some ⟨g12, 0, none⟩), .pointer (some ⟨g13, 0, none⟩)] b ((g11, Cl 24 [.int .i64 (x17), .int .i64 (x18), .slice A19 (l22).length c20]) :: (g12, Cl 30 [.slice A8 (l25).length c9]) :: (g13, Cl 3 [.int .i64 (x23)]) :: (hs2 ++ (hs7 ++ R))) (fun v b' hp' => ∃ (A55 : Option Addr), ∃ (c56 : Nat), ∃ (hs54 : Hp), .tuple #[] = v ∧ (g11, Cl 24 [.int .i64 (x17), .int .i64 (x18), .slice A19 (l22).length c20]) :: (g12, Cl 30 [.slice A55 (l59).length c56]) :: (g13, Cl 3 [.int .i64 (x58)]) :: (hs2 ++ (hs54 ++ R)) = hp' ∧ OS 3 (OT.fr (RT.int .i64)) b'.w (.slice A55 l59.length c56) l59 hs54 ∧ (A55 = none ↔ l59 = [])) := by
  refine fn_enterG 36 Try.func38 rfl Try.ntmps38 rfl ?_
  unfold mPlanBest_2 at hm
  refine c_seq ?_
  refine c_region ?_
  refine t_st rfl (st_loadD (vs := [_, _, _]) 0 3 rfl agg24 rfl rfl rfl) ?_
  refine t_st rfl (st_move rfl) ?_
  refine t_st rfl (st_move rfl) ?_
  obtain ⟨⟨x61, l62⟩, hcl63, hm⟩ := bindS hm
  have hm := (unc2E hm)
  refine t_do rfl (u_callWF [_, _, _] (hs2 ++ (hs7 ++ R)) _ rfl call39 rfl (fun w ho => cPlanCheapest _ [] (⟨x17, x18, l22⟩ : PlanPeriodic) q14 l24 A19 c20 v15 A3 c4 (h21.old ho) (RT.old (RT.ptr (RT.arr 8 (RT.arr 8 (RT.int .i64)))) h16 ho) (OS.now (o := (OT.fr (RT.int .i64))) (l := l24) (hs := hs2) h5 ho (.cons _ (.cons _ (.cons _ (List.sublist_append_left _ _))))) x61 l62 hcl63)) ?_
  rintro _ _ ⟨_, _, rfl, A64, c65, hs66, rfl, hq69, h67⟩
  obtain rfl := List.append_cancel_right hq69
  have h68 := flat_fz (w' := b.w) (fun _ _ _ _ h => h) h67
  refine t_st rfl (st_move rfl) ?_
  refine t_st rfl (st_extract rfl rfl) ?_
  refine t_st rfl (st_extract rfl rfl) ?_
  refine t_st rfl (st_assign rfl) ?_
  refine t_st rfl (st_assign rfl) ?_
  refine t_nil ?_
  refine x_then_normal ?_
  obtain ⟨x77, hj78, hk78⟩ := bindS hm
  refine c_join (fun b75 e' hp' => [(3, .pointer (some ⟨g12, 0, none⟩)), (4, .pointer (some ⟨g13, 0, none⟩)), (7, .slice A64 (l62).length c65), (8, .int .i64 (x61)), (33, .bool (x77))] = e' ∧ (g12, Cl 30 [.slice A8 (l25).length c9]) :: (g13, Cl 3 [.int .i64 (x23)]) :: (g11, Cl 24 [.int .i64 (x17), .int .i64 (x18), .slice A19 (l22).length c20]) :: (hs66 ++ (hs2 ++ (hs7 ++ R))) = hp' ∧ b.Le b75) ?_ ?_
  ·
   have hm := hj78
   refine c_region ?_
   refine t_st rfl (st_load 1 rfl one30 rfl rfl) ?_
   refine t_st rfl (st_eqnil_z rfl rfl hnz26 sl30) ?_
   rcases Bool.eq_false_or_eq_true l25.isEmpty with hc79 | hc79
   ·
    rw [if_pos hc79] at hm
    refine t_resp 17 rfl (v' := .bool true) (by rw [hc79] <;> rfl) ?_
    refine t_st rfl (st_move rfl) ?_
    refine t_no 18 rfl rfl rfl rfl rfl ?_
    refine t_no 18 rfl rfl rfl rfl rfl ?_
    refine t_no 18 rfl rfl rfl rfl rfl ?_
    refine t_st rfl (st_pick_t rfl rfl) ?_
    refine t_st rfl (st_move rfl) ?_
    refine t_no 23 rfl rfl rfl rfl rfl ?_
    refine t_no 23 rfl rfl rfl rfl rfl ?_
    refine t_no 23 rfl rfl rfl rfl rfl ?_
    refine t_no 23 rfl rfl rfl rfl rfl ?_
    refine t_no 27 rfl rfl rfl rfl rfl ?_
    refine t_no 27 rfl rfl rfl rfl rfl ?_
    refine t_no 27 rfl rfl rfl rfl rfl ?_
    refine t_no 27 rfl rfl rfl rfl rfl ?_
    refine t_no 23 rfl rfl rfl rfl rfl ?_
    refine t_st rfl (st_pick_t rfl rfl) ?_
    refine t_nil ?_
    obtain rfl := some1 hm
    refine x_pullb 2 rfl ?_
    refine x_pullb 2 rfl ?_
    refine x_front3 [_, _, _] hs66 hs2 hs7 R rfl ?_
    refine x_front3 [_, _, _] hs7 hs66 hs2 R rfl ?_
    refine x_front3 [_, _, _] hs2 hs7 hs66 R rfl ?_
    exact x_join (e' := [(3, .pointer (some ⟨g12, 0, none⟩)), (4, .pointer (some ⟨g13, 0, none⟩)), (7, .slice A64 (l62).length c65), (8, .int .i64 (x61)), (33, .bool (true))]) (hp' := (g12, Cl 30 [.slice A8 (l25).length c9]) :: (g13, Cl 3 [.int .i64 (x23)]) :: (g11, Cl 24 [.int .i64 (x17), .int .i64 (x18), .slice A19 (l22).length c20]) :: (hs66 ++ (hs2 ++ (hs7 ++ R)))) ⟨rfl, rfl, rfl, rfl, rfl, trivial⟩ (.cons_cons _ (.cons_cons _ (.cons_cons _ (sub_app hs66 (sub_app hs2 (sub_app hs7 (.refl _))))))) ⟨rfl, rfl, (Base.Le.refl _)⟩
   ·
    rw [if_neg (fun hh => Bool.noConfusion (hh.symm.trans hc79))] at hm
    refine t_resp 17 rfl (v' := .bool false) (by rw [hc79] <;> rfl) ?_
    refine t_st rfl (st_move rfl) ?_
    refine t_yes 18 rfl rfl rfl ?_
    refine t_st rfl (st_move rfl) ?_
    refine t_yes 18 rfl rfl rfl ?_
    refine t_st rfl (st_load 2 rfl one3 rfl rfl) ?_
    refine t_yes 18 rfl rfl rfl ?_
    refine t_bool rfl (st_lss rfl rfl) (fun hc80 => ?_) (fun hc80 => ?_)
    ·
     rw [if_pos hc80] at hm
     refine t_st rfl (st_pick_f rfl rfl) ?_
     refine t_st rfl (st_move rfl) ?_
     refine t_no 23 rfl rfl rfl rfl rfl ?_
     refine t_no 23 rfl rfl rfl rfl rfl ?_
     refine t_no 23 rfl rfl rfl rfl rfl ?_
     refine t_no 23 rfl rfl rfl rfl rfl ?_
     refine t_no 27 rfl rfl rfl rfl rfl ?_
     refine t_no 27 rfl rfl rfl rfl rfl ?_
     refine t_no 27 rfl rfl rfl rfl rfl ?_
     refine t_no 27 rfl rfl rfl rfl rfl ?_
     refine t_no 23 rfl rfl rfl rfl rfl ?_
     refine t_st rfl (st_pick_t rfl rfl) ?_
     refine t_nil ?_
     obtain rfl := some1 hm
     refine x_pullb 2 rfl ?_
     refine x_pullb 2 rfl ?_
     refine x_front3 [_, _, _] hs66 hs2 hs7 R rfl ?_
     refine x_front3 [_, _, _] hs7 hs66 hs2 R rfl ?_
     refine x_front3 [_, _, _] hs2 hs7 hs66 R rfl ?_
     exact x_join (e' := [(3, .pointer (some ⟨g12, 0, none⟩)), (4, .pointer (some ⟨g13, 0, none⟩)), (7, .slice A64 (l62).length c65), (8, .int .i64 (x61)), (33, .bool (true))]) (hp' := (g12, Cl 30 [.slice A8 (l25).length c9]) :: (g13, Cl 3 [.int .i64 (x23)]) :: (g11, Cl 24 [.int .i64 (x17), .int .i64 (x18), .slice A19 (l22).length c20]) :: (hs66 ++ (hs2 ++ (hs7 ++ R)))) ⟨rfl, rfl, rfl, rfl, rfl, trivial⟩ (.cons_cons _ (.cons_cons _ (.cons_cons _ (sub_app hs66 (sub_app hs2 (sub_app hs7 (.refl _))))))) ⟨rfl, rfl, (Base.Le.refl _)⟩
    ·
     rw [if_neg hc80] at hm
     refine t_st rfl (st_pick_f rfl rfl) ?_
     refine t_st rfl (st_move rfl) ?_
     refine t_yes 23 rfl rfl rfl ?_
     refine t_st rfl (st_move rfl) ?_
     refine t_yes 23 rfl rfl rfl ?_
     refine t_st rfl (st_load 2 rfl one3 rfl rfl) ?_
     refine t_yes 23 rfl rfl rfl ?_
     refine t_bool rfl (st_eql rfl rfl) (fun hc81 => ?_) (fun hc81 => ?_)
     ·
      rw [if_pos hc81] at hm
      refine t_yes 23 rfl rfl rfl ?_
      refine t_st rfl (st_move rfl) ?_
      refine t_yes 27 rfl rfl rfl ?_
      refine t_st rfl (st_move rfl) ?_
      refine t_yes 27 rfl rfl rfl ?_
      refine t_st rfl (st_load 1 rfl one30 rfl rfl) ?_
      refine t_yes 27 rfl rfl rfl ?_
      obtain ⟨x82, hcl83, hm⟩ := bindS hm
      refine t_do rfl (u_callW0 _ call16 rfl (fun w ho => cSlicesCompare _ [] l62 l25 A64 c65 A8 c9 (OS.now (o := (OT.fr (RT.int .i64))) (l := l62) (hs := hs66) h68 ho (.cons _ (.cons _ (.cons _ (List.sublist_append_left _ _))))) (OS.now (o := (OT.fr (RT.int .i64))) (l := l25) (hs := hs7) h10 ho (.cons _ (.cons _ (.cons _ (sub_skip hs66 (sub_skip hs2 (List.sublist_append_left _ _))))))) x82 hcl83) (fun _ _ _ h => h.2.symm)) ?_
      rintro _ _ ⟨⟨_, rfl, _⟩, rfl⟩
      refine t_yes 27 rfl rfl rfl ?_
      refine t_st rfl (st_lss rfl rfl) ?_
      refine t_yes 23 rfl rfl rfl ?_
      refine t_st rfl (st_pick_t rfl rfl) ?_
      refine t_st rfl (st_pick_f rfl rfl) ?_
      refine t_nil ?_
      obtain rfl := some1 hm
      refine x_pullb 2 rfl ?_
      refine x_pullb 2 rfl ?_
      refine x_front3 [_, _, _] hs66 hs2 hs7 R rfl ?_
      refine x_front3 [_, _, _] hs7 hs66 hs2 R rfl ?_
      refine x_front3 [_, _, _] hs2 hs7 hs66 R rfl ?_
      exact x_join (e' := [(3, .pointer (some ⟨g12, 0, none⟩)), (4, .pointer (some ⟨g13, 0, none⟩)), (7, .slice A64 (l62).length c65), (8, .int .i64 (x61)), (33, .bool (decide (x82 < 0)))]) (hp' := (g12, Cl 30 [.slice A8 (l25).length c9]) :: (g13, Cl 3 [.int .i64 (x23)]) :: (g11, Cl 24 [.int .i64 (x17), .int .i64 (x18), .slice A19 (l22).length c20]) :: (hs66 ++ (hs2 ++ (hs7 ++ R)))) ⟨rfl, rfl, rfl, rfl, rfl, trivial⟩ (.cons_cons _ (.cons_cons _ (.cons_cons _ (sub_app hs66 (sub_app hs2 (sub_app hs7 (.refl _))))))) ⟨rfl, rfl, (Base.Le.refl _)⟩
     ·
      rw [if_neg hc81] at hm
      refine t_yes 23 rfl rfl rfl ?_
      refine t_st rfl (st_move rfl) ?_
      refine t_no 27 rfl rfl rfl rfl rfl ?_
      refine t_no 27 rfl rfl rfl rfl rfl ?_
      refine t_no 27 rfl rfl rfl rfl rfl ?_
      refine t_no 27 rfl rfl rfl rfl rfl ?_
      refine t_yes 23 rfl rfl rfl ?_
      refine t_st rfl (st_pick_f rfl rfl) ?_
      refine t_st rfl (st_pick_f rfl rfl) ?_
      refine t_nil ?_
      obtain rfl := some1 hm
      refine x_pullb 2 rfl ?_
      refine x_pullb 2 rfl ?_
      refine x_front3 [_, _, _] hs66 hs2 hs7 R rfl ?_
      refine x_front3 [_, _, _] hs7 hs66 hs2 R rfl ?_
      refine x_front3 [_, _, _] hs2 hs7 hs66 R rfl ?_
      exact x_join (e' := [(3, .pointer (some ⟨g12, 0, none⟩)), (4, .pointer (some ⟨g13, 0, none⟩)), (7, .slice A64 (l62).length c65), (8, .int .i64 (x61)), (33, .bool (false))]) (hp' := (g12, Cl 30 [.slice A8 (l25).length c9]) :: (g13, Cl 3 [.int .i64 (x23)]) :: (g11, Cl 24 [.int .i64 (x17), .int .i64 (x18), .slice A19 (l22).length c20]) :: (hs66 ++ (hs2 ++ (hs7 ++ R)))) ⟨rfl, rfl, rfl, rfl, rfl, trivial⟩ (.cons_cons _ (.cons_cons _ (.cons_cons _ (sub_app hs66 (sub_app hs2 (sub_app hs7 (.refl _))))))) ⟨rfl, rfl, (Base.Le.refl _)⟩
  ·
   rintro b75 _ _ ⟨rfl, rfl, hle76⟩
   have hm := hk78
   refine c_cond _ rfl (fun hc84 => ?_) (fun hc84 => ?_)
   ·
    rw [if_pos hc84] at hm
    refine c_region ?_
    refine t_st rfl (st_move rfl) ?_
    refine t_st rfl (st_move rfl) ?_
    obtain ⟨_, h85, hm⟩ := bindS hm
    have hnz86 : (A64 = none ↔ l62 = []) := ⟨fun e => absurd e (OS.ne (h68.le hle76) h85), fun e => absurd e (some?_some h85)⟩
    refine t_do rfl (u_store 0 rfl rfl siz30 rfl rfl (by simp)) ?_
    rintro _ _ rfl
    refine t_do rfl (u_store 1 rfl rfl siz3 rfl rfl (by simp)) ?_
    rintro _ _ rfl
    refine t_nil ?_
    obtain ⟨rfl, rfl⟩ := some2 hm
    refine x_pullb 1 rfl ?_
    refine x_pullb 1 rfl ?_
    refine x_pullb 2 rfl ?_
    refine x_front2 [_, _, _] hs66 hs2 (hs7 ++ R) rfl ?_
    exact endM hle76 rfl (.cons_cons _ (.cons_cons _ (.cons_cons _ (sub_app hs2 (sub_app hs66 (sub_skip hs7 (.refl _))))))) ⟨A64, c65, hs66, rfl, rfl, (h68.le hle76), hnz86⟩
   ·
    rw [if_neg (fun hh => Bool.noConfusion (hh.symm.trans hc84))] at hm
    refine c_skip ?_
    obtain ⟨rfl, rfl⟩ := some2 hm
    refine x_pullb 1 rfl ?_
    refine x_pullb 1 rfl ?_
    refine x_pullb 2 rfl ?_
    refine x_front3 [_, _, _] hs66 hs2 hs7 R rfl ?_
    refine x_front3 [_, _, _] hs7 hs66 hs2 R rfl ?_
    exact endM hle76 rfl (.cons_cons _ (.cons_cons _ (.cons_cons _ (sub_app hs2 (sub_app hs7 (sub_skip hs66 (.refl _))))))) ⟨A8, c9, hs7, rfl, rfl, (h10.le hle76), hnz26⟩

set_option maxRecDepth 20000 in
theorem cPlanSearchRun_2 : ∀ (N : Nat) (b : Base) (R : Hp) (q21 : (Option (List (List Int)))) (x24 : Int) (x25 : Int) (l29 : (List PlanRule)) (x30 : Int) (x31 : Int) (l35 : (List PlanRule)) (x36 : Int) (l37 : (List Int)) (l38 : (List Bool)) (l39 : (List Int)) (g16 : Nat) (g17 : Nat) (g18 : Nat) (g19 : Nat) (g20 : Nat) (v22 : Value) (A26 : Option Addr) (c27 : Nat) (A32 : Option Addr) (c33 : Nat) (A3 : Option Addr) (c4 : Nat) (hs2 : Hp) (A8 : Option Addr) (c9 : Nat) (hs7 : Hp) (A13 : Option Addr) (c14 : Nat) (hs12 : Hp) (h23 : (RT.ptr (RT.arr 8 (RT.arr 8 (RT.int .i64)))).rep b.w [v22] q21) (h28 : FZ rPlanRule b.w A26 c27 l29) (h34 : FZ rPlanRule b.w A32 c33 l35) (h5 : OS 3 (OT.fr (RT.int .i64)) b.w (.slice A3 l37.length c4) l37 hs2) (h10 : OS 4 (OT.fr RT.bool) b.w (.slice A8 l38.length c9) l38 hs7) (h15 : OS 3 (OT.fr (RT.int .i64)) b.w (.slice A13 l39.length c14) l39 hs12) (hnz40 : (A13 = none ↔ l39 = [])) (x1902 : Int) (l1903 : (List Int)) (l1905 : (List Bool)) (l1907 : (List Int)) (hm : mPlanSearchRun_2 N q21 x24 x25 l29 x30 x31 l35 x36 l37 l38 l39 = some (x1902, l1903, l1905, l1907)),
    CallsG Try.prog 41 [.pointer (some ⟨g16, 0, none⟩), v22] b ((g16, Cl 63 [.int .i64 (x24), .int .i64 (x25), .slice A26 (l29).length c27, .func (.func 38) #[] #[.pointer (some ⟨g17, 0, none⟩), .pointer (some ⟨g18, 0, none⟩), .pointer (some ⟨g19, 0, none⟩)], .func (.func 37) #[] #[.pointer (some ⟨g18, 0, none⟩), .pointer (some ⟨g17, 0, none⟩), .pointer (some ⟨g20, 0, none⟩), .pointer (some ⟨g19, 0, none⟩)], .slice A3 (l37).length c4, .slice A8 (l38).length c9]) :: (g17, Cl 24 [.int .i64 (x30), .int .i64 (x31), .slice A32 (l35).length c33]) :: (g18, Cl 30 [.slice A13 (l39).length c14]) :: (g19, Cl 3 [.int .i64 (x36)]) :: (g20, Cl 56 [.pointer (some ⟨g16, 0, none⟩)]) :: (hs2 ++ (hs7 ++ (hs12 ++ R)))) (fun v b' hp' => ∃ (hs1892 : Hp), ∃ (hs1895 : Hp), ∃ (A1899 : Option Addr), ∃ (c1900 : Nat), ∃ (hs1898 : Hp), .tuple #[] = v ∧ (g16, Cl 63 [.int .i64 (x24), .int .i64 (x25), .slice A26 (l29).length c27, .func (.func 38) #[] #[.pointer (some ⟨g17, 0, none⟩), .pointer (some ⟨g18, 0, none⟩), .pointer (some ⟨g19, 0, none⟩)], .func (.func 37) #[] #[.pointer (some ⟨g18, 0, none⟩), .pointer (some ⟨g17, 0, none⟩), .pointer (some ⟨g20, 0, none⟩), .pointer (some ⟨g19, 0, none⟩)], .slice A3 (l1903).length c4, .slice A8 (l1905).length c9]) :: (g17, Cl 24 [.int .i64 (x30), .int .i64 (x31), .slice A32 (l35).length c33]) :: (g18, Cl 30 [.slice A1899 (l1907).length c1900]) :: (g19, Cl 3 [.int .i64 (x1902)]) :: (g20, Cl 56 [.pointer (some ⟨g16, 0, none⟩)]) :: (hs1892 ++ (hs1895 ++ (hs1898 ++ R))) = hp' ∧ OS 3 (OT.fr (RT.int .i64)) b'.w (.slice A3 l1903.length c4) l1903 hs1892 ∧ l1903.length = l37.length ∧ OS 4 (OT.fr RT.bool) b'.w (.slice A8 l1905.length c9) l1905 hs1895 ∧ l1905.length = l38.length ∧ OS 3 (OT.fr (RT.int .i64)) b'.w (.slice A1899 l1907.length c1900) l1907 hs1898 ∧ (A1899 = none ↔ l1907 = [])) := by
  intro N
  induction N with
  | zero =>
    intro b R q21 x24 x25 l29 x30 x31 l35 x36 l37 l38 l39 g16 g17 g18 g19 g20 v22 A26 c27 A32 c33 A3 c4 hs2 A8 c9 hs7 A13 c14 hs12 h23 h28 h34 h5 h10 h15 hnz40 x1902 l1903 l1905 l1907 hm
    unfold mPlanSearchRun_2 at hm
    cases hm
  | succ N ih =>
    intro b R q21 x24 x25 l29 x30 x31 l35 x36 l37 l38 l39 g16 g17 g18 g19 g20 v22 A26 c27 A32 c33 A3 c4 hs2 A8 c9 hs7 A13 c14 hs12 h23 h28 h34 h5 h10 h15 hnz40 x1902 l1903 l1905 l1907 hm
    refine fn_enterG 142 Try.func41 rfl Try.ntmps41 rfl ?_
    unfold mPlanSearchRun_2 at hm
    refine c_seq ?_
    refine c_seq ?_
    refine c_region ?_
    refine t_st rfl (st_move rfl) ?_
    refine t_st rfl (st_nil rfl) ?_
    refine t_st rfl (st_field rfl fld63_2) ?_
    refine t_st rfl (st_load 0 rfl one60 rfl rfl) ?_
    refine t_st rfl (st_move rfl) ?_
    obtain ⟨x1909, hcl1910, hm⟩ := bindS hm
    refine t_pullb 3 rfl ?_
    refine t_pullb 4 rfl ?_
    refine t_pullb 3 rfl ?_
    refine t_pullb 4 rfl ?_
    refine t_front2 [_, _, _, _, _] hs2 hs7 (hs12 ++ R) rfl ?_
    refine t_front2 [_, _, _, _, _] hs7 hs2 (hs12 ++ R) rfl ?_
    refine t_front3 [_, _, _, _, _] hs2 hs7 hs12 R rfl ?_
    refine t_out3 [_, _, _, _, _] [] hs12 hs2 hs7 R rfl ?_
    refine t_callvG #[] #[.pointer (some ⟨g18, 0, none⟩), .pointer (some ⟨g17, 0, none⟩), .pointer (some ⟨g20, 0, none⟩), .pointer (some ⟨g19, 0, none⟩)] [v22] rfl rfl call37 rfl (cPlanBest_1 _ _ q21 x30 x31 l35 x36 x24 x25 l29 l39 l37 l38 g18 g17 g20 g19 g16 v22 A32 c33 A26 c27 A13 c14 hs12 A3 c4 hs2 A8 c9 hs7 h23 h34 h28 h15 hnz40 h5 h10 x1909 hcl1910) ?_
    rintro _ b1911 _ hle1912 ⟨rfl, rfl⟩
    refine t_in3 [_, _, _, _, _] [] hs12 hs2 hs7 R rfl ?_
    refine t_nil ?_
    refine x_then_normal ?_
    refine c_cond _ rfl (fun hc1913 => ?_) (fun hc1913 => ?_)
    ·
     rw [if_pos hc1913] at hm
     refine c_ret ?_
     refine x_then_ret ?_
     obtain ⟨rfl, rfl, rfl, rfl⟩ := some4 hm
     refine x_pullb 2 rfl ?_
     refine x_pullb 3 rfl ?_
     refine x_pullb 2 rfl ?_
     refine x_pullb 3 rfl ?_
     refine x_pullb 4 rfl ?_
     refine x_front3 [_, _, _, _, _] hs12 hs2 hs7 R rfl ?_
     refine x_front3 [_, _, _, _, _] hs7 hs12 hs2 R rfl ?_
     exact retM (rs := []) [] hle1912 (by decide) rfl trivial rfl (hp' := (g16, Cl 63 [.int .i64 (x24), .int .i64 (x25), .slice A26 (l29).length c27, .func (.func 38) #[] #[.pointer (some ⟨g17, 0, none⟩), .pointer (some ⟨g18, 0, none⟩), .pointer (some ⟨g19, 0, none⟩)], .func (.func 37) #[] #[.pointer (some ⟨g18, 0, none⟩), .pointer (some ⟨g17, 0, none⟩), .pointer (some ⟨g20, 0, none⟩), .pointer (some ⟨g19, 0, none⟩)], .slice A3 (l37).length c4, .slice A8 (l38).length c9]) :: (g17, Cl 24 [.int .i64 (x30), .int .i64 (x31), .slice A32 (l35).length c33]) :: (g18, Cl 30 [.slice A13 (l39).length c14]) :: (g19, Cl 3 [.int .i64 (x36)]) :: (g20, Cl 56 [.pointer (some ⟨g16, 0, none⟩)]) :: (hs2 ++ (hs7 ++ (hs12 ++ R)))) (.cons_cons _ (.cons_cons _ (.cons_cons _ (.cons_cons _ (.cons_cons _ (sub_app hs2 (sub_app hs7 (sub_app hs12 (.refl _))))))))) ⟨hs2, hs7, A13, c14, hs12, rfl, rfl, (h5.le hle1912), rfl, (h10.le hle1912), rfl, (h15.le hle1912), hnz40⟩
    ·
     rw [if_neg (fun hh => Bool.noConfusion (hh.symm.trans hc1913))] at hm
     refine c_skip ?_
     refine x_then_normal ?_
     refine c_seq ?_
     refine c_region ?_
     refine t_st rfl (st_assign rfl) ?_
     refine t_st rfl (st_assign rfl) ?_
     refine t_nil ?_
     refine x_then_normal ?_
     refine c_seq ?_
     refine c_seq ?_
     refine c_region ?_
     refine t_st rfl (st_move rfl) ?_
     refine t_st rfl (st_nil rfl) ?_
     refine t_st rfl (st_field rfl fld63_0) ?_
     refine t_st rfl (st_field rfl fld24_2) ?_
     refine t_st rfl (st_load 4 rfl one22 rfl rfl) ?_
     refine t_st rfl (st_len rfl sl22) ?_
     refine t_st rfl (st_move rfl) ?_
     refine t_nil ?_
     refine x_then_normal ?_
     refine c_block ?_
     have hb1915 : l29.length ≤ 9223372036854775807 := (FZ.bd (h28.le hle1912))
     refine c_pullb 2 rfl ?_
     refine c_pullb 3 rfl ?_
     refine c_pullb 2 rfl ?_
     refine c_pullb 3 rfl ?_
     refine c_pullb 4 rfl ?_
     refine c_front3 [_, _, _, _, _] hs12 hs2 hs7 R rfl ?_
     refine c_front3 [_, _, _, _, _] hs7 hs12 hs2 R rfl ?_
     obtain ⟨t2087, hl2088, hk2089⟩ := bindS hm
     refine c_forM (fun k2086 => unc2 fun x2081 l2085 => fun b2079 e' hp' => ∃ (A2082 : Option Addr), ∃ (c2083 : Nat), [(0, .pointer (some ⟨g16, 0, none⟩)), (1, v22), (4, .int .i64 (x2081)), (5, .slice A2082 (l2085).length c2083), (24, .slice A26 (l29).length c27), (25, .int .i64 ((l29.length : Int))), (26, .int .i64 ((k2086 : Int)))] = e' ∧ (g16, Cl 63 [.int .i64 (x24), .int .i64 (x25), .slice A26 (l29).length c27, .func (.func 38) #[] #[.pointer (some ⟨g17, 0, none⟩), .pointer (some ⟨g18, 0, none⟩), .pointer (some ⟨g19, 0, none⟩)], .func (.func 37) #[] #[.pointer (some ⟨g18, 0, none⟩), .pointer (some ⟨g17, 0, none⟩), .pointer (some ⟨g20, 0, none⟩), .pointer (some ⟨g19, 0, none⟩)], .slice A3 (l37).length c4, .slice A8 (l38).length c9]) :: (g17, Cl 24 [.int .i64 (x30), .int .i64 (x31), .slice A32 (l35).length c33]) :: (g18, Cl 30 [.slice A13 (l39).length c14]) :: (g19, Cl 3 [.int .i64 (x36)]) :: (g20, Cl 56 [.pointer (some ⟨g16, 0, none⟩)]) :: (hs2 ++ (hs7 ++ (hs12 ++ R))) = hp' ∧ b1911.Le b2079 ∧ FZ (RT.int .i64) b2079.w A2082 c2083 l2085) hl2088 (e' := [(0, .pointer (some ⟨g16, 0, none⟩)), (1, v22), (4, .int .i64 ((-1))), (5, .slice none 0 0), (24, .slice A26 (l29).length c27), (25, .int .i64 ((l29.length : Int))), (26, .int .i64 0)]) (hp' := (g16, Cl 63 [.int .i64 (x24), .int .i64 (x25), .slice A26 (l29).length c27, .func (.func 38) #[] #[.pointer (some ⟨g17, 0, none⟩), .pointer (some ⟨g18, 0, none⟩), .pointer (some ⟨g19, 0, none⟩)], .func (.func 37) #[] #[.pointer (some ⟨g18, 0, none⟩), .pointer (some ⟨g17, 0, none⟩), .pointer (some ⟨g20, 0, none⟩), .pointer (some ⟨g19, 0, none⟩)], .slice A3 (l37).length c4, .slice A8 (l38).length c9]) :: (g17, Cl 24 [.int .i64 (x30), .int .i64 (x31), .slice A32 (l35).length c33]) :: (g18, Cl 30 [.slice A13 (l39).length c14]) :: (g19, Cl 3 [.int .i64 (x36)]) :: (g20, Cl 56 [.pointer (some ⟨g16, 0, none⟩)]) :: (hs2 ++ (hs7 ++ (hs12 ++ R)))) ⟨rfl, rfl, rfl, rfl, rfl, rfl, rfl, trivial⟩ (.cons_cons _ (.cons_cons _ (.cons_cons _ (.cons_cons _ (.cons_cons _ (sub_app hs2 (sub_app hs7 (sub_app hs12 (.refl _))))))))) ⟨none, 0, rfl, rfl, (Base.Le.refl _), FZ.nil⟩ ?_ ?_
     ·
      rintro k2086 ⟨x2081, l2085⟩ b2079 _ _ oL1914 hknL1914 ⟨A2082, c2083, rfl, rfl, hle2080, h2084⟩ hstepL1914 houtL1914
      unfold mPlanSearchRun_2_L1914 at hstepL1914
      have hm := (unc2E hstepL1914)
      refine c_seq ?_
      refine c_region ?_
      refine t_st rfl (st_lss_t rfl rfl (by omega)) ?_
      refine t_nil ?_
      refine x_then_normal ?_
      refine c_seq ?_
      refine c_cond_t rfl ?_
      refine c_skip ?_
      refine x_then_normal ?_
      refine c_seq ?_
      refine c_block ?_
      refine c_seq ?_
      refine c_region ?_
      refine t_st rfl (st_move rfl) ?_
      obtain ⟨x2090, h2091, hm⟩ := bindS hm
      obtain ⟨j2092, hj2093, hx2094⟩ := idx_some h2091
      obtain ⟨cs2095, hr2096, hcs2097, hA2098, hlt2099⟩ := FZ.get (sz := 5) rfl (by decide) (h28.le (hle1912.trans hle2080)) hx2094
      obtain ⟨_, _, rfl, rfl, ⟨_, _, rfl, rfl, ⟨_, _, rfl, rfl, ⟨_, _, rfl, rfl, rfl⟩⟩⟩⟩ := hr2096
      refine t_st rfl (st_index_old j2092 rfl rfl hj2093 hlt2099 hA2098 sl22) ?_
      refine t_st rfl (st_loadN_old (vs := [.int .i64 (x2090.From), .int .i64 (x2090.To), .int .i64 (x2090.Min), .int .i64 (x2090.Max), .int .i64 (x2090.Weight)]) 5 rfl agg29 hA2098 rfl (fun j u hu => hcs2097 j u hu)) ?_
      refine t_do rfl (u_alloc [.int .i64 0, .int .i64 0, .int .i64 0, .int .i64 0, .int .i64 0] zero29 rfl) ?_
      rintro _ _ ⟨g2100, rfl, rfl⟩
      refine t_st rfl (st_assign rfl) ?_
      refine t_do rfl (u_storeN (vs := [_, _, _, _, _]) 0 5 rfl rfl rfl siz29 rfl (by intro u hu; simp only [List.mem_cons, List.not_mem_nil, or_false] at hu; rcases hu with rfl | rfl | rfl | rfl | rfl <;> rfl) rfl (by simp)) ?_
      rintro _ _ rfl
      refine t_nil ?_
      refine x_then_normal ?_
      refine c_seq ?_
      refine c_seq ?_
      refine c_region ?_
      refine t_st rfl (st_move rfl) ?_
      refine t_st rfl (st_nil rfl) ?_
      refine t_st rfl (st_field rfl fld63_4) ?_
      refine t_st rfl (st_load 1 rfl one61 rfl rfl) ?_
      refine t_st rfl (st_move rfl) ?_
      obtain ⟨x2101, h2102, hm⟩ := bindS hm
      obtain ⟨j2103, hj2104, hx2105⟩ := idx_some h2102
      obtain ⟨cs2106, hs2111, P2112, P2113, hq2114, hr2107, hcs2108, hA2109, hlt2110, hb2115, hho2116⟩ := OS.get (sz := 1) rfl (by decide) (h10.le (hle1912.trans hle2080)) hx2105
      obtain ⟨rfl, rfl⟩ := hr2107
      refine t_st rfl (st_index_old j2103 rfl rfl hj2104 hlt2110 hA2109 sl61) ?_
      refine t_st rfl (st_load_rd rfl one4 (fun w ho => hcs2108 w _ ho (.cons _ (.cons _ (.cons _ (.cons _ (.cons _ (.cons _ (sub_skip hs2 (List.sublist_append_left _ _)))))))) 0 _ rfl)) ?_
      refine t_st rfl (st_not rfl) ?_
      refine t_nil ?_
      refine x_then_normal ?_
      refine c_cond _ rfl (fun hc2117 => ?_) (fun hc2117 => ?_)
      ·
       rw [if_neg (fun hh => Bool.noConfusion (hh.symm.trans (notT hc2117)))] at hm
       refine c_exit ?_
       refine x_then_exit ?_
       refine x_block_out ?_
       refine x_then_normal ?_
       refine c_region ?_
       refine t_st rfl (st_add rfl rfl (by omega)) ?_
       refine t_st rfl (st_move rfl) ?_
       refine t_nil ?_
       refine x_pullb 5 rfl ?_
       refine x_pullb 5 rfl ?_
       refine x_pullb 5 rfl ?_
       refine x_pullb 5 rfl ?_
       refine x_pullb 5 rfl ?_
       refine x_front3 [_, _, _, _, _, _] hs2 hs7 hs12 R rfl ?_
       refine x_front3 [_, _, _, _, _, _] hs12 hs2 hs7 R rfl ?_
       refine x_front3 [_, _, _, _, _, _] hs7 hs12 hs2 R rfl ?_
       exact x_againM (x2081, l2085) (Option.some.inj hm).symm (e' := [(0, .pointer (some ⟨g16, 0, none⟩)), (1, v22), (4, .int .i64 (x2081)), (5, .slice A2082 (l2085).length c2083), (24, .slice A26 (l29).length c27), (25, .int .i64 ((l29.length : Int))), (26, .int .i64 ((k2086 : Int) + 1))]) (hp' := (g16, Cl 63 [.int .i64 (x24), .int .i64 (x25), .slice A26 (l29).length c27, .func (.func 38) #[] #[.pointer (some ⟨g17, 0, none⟩), .pointer (some ⟨g18, 0, none⟩), .pointer (some ⟨g19, 0, none⟩)], .func (.func 37) #[] #[.pointer (some ⟨g18, 0, none⟩), .pointer (some ⟨g17, 0, none⟩), .pointer (some ⟨g20, 0, none⟩), .pointer (some ⟨g19, 0, none⟩)], .slice A3 (l37).length c4, .slice A8 (l38).length c9]) :: (g17, Cl 24 [.int .i64 (x30), .int .i64 (x31), .slice A32 (l35).length c33]) :: (g18, Cl 30 [.slice A13 (l39).length c14]) :: (g19, Cl 3 [.int .i64 (x36)]) :: (g20, Cl 56 [.pointer (some ⟨g16, 0, none⟩)]) :: (hs2 ++ (hs7 ++ (hs12 ++ R)))) ⟨rfl, rfl, rfl, rfl, rfl, rfl, rfl, trivial⟩ (.cons_cons _ (.cons_cons _ (.cons_cons _ (.cons_cons _ (.cons_cons _ (.cons _ (sub_app hs2 (sub_app hs7 (sub_app hs12 (.refl _)))))))))) ⟨A2082, c2083, rfl, rfl, (hle2080), h2084⟩
      ·
       rw [if_pos (notF hc2117)] at hm
       refine c_skip ?_
       refine x_then_normal ?_
       refine c_seq ?_
       refine c_region ?_
       refine t_st rfl (st_move rfl) ?_
       refine t_st rfl (st_move rfl) ?_
       refine t_st rfl (st_loadD (vs := [_, _, _, _, _]) 0 5 rfl agg29 rfl rfl rfl) ?_
       obtain ⟨l2118, hcl2119, hm⟩ := bindS hm
       refine t_pullb 5 rfl ?_
       refine t_pullb 5 rfl ?_
       refine t_pullb 5 rfl ?_
       refine t_pullb 5 rfl ?_
       refine t_pullb 5 rfl ?_
       refine t_front3 [_, _, _, _, _, _] hs2 hs7 hs12 R rfl ?_
       refine t_front3 [_, _, _, _, _, _] hs12 hs2 hs7 R rfl ?_
       refine t_front3 [_, _, _, _, _, _] hs7 hs12 hs2 R rfl ?_
       refine t_out3 [_, _, _, _, _] [_] hs2 hs7 hs12 R rfl ?_
       refine t_callG _ rfl call52 rfl (cPlanSearchChoices_2 _ _ q21 x2090 x24 x25 l29 x30 x31 l35 x36 l37 l38 l39 g16 g17 g18 g19 g20 v22 A26 c27 A32 c33 A3 c4 hs2 A8 c9 hs7 A13 c14 hs12 (RT.le (RT.ptr (RT.arr 8 (RT.arr 8 (RT.int .i64)))) h23 (hle1912.trans hle2080)) (h28.le (hle1912.trans hle2080)) (h34.le (hle1912.trans hle2080)) (h5.le (hle1912.trans hle2080)) (h10.le (hle1912.trans hle2080)) (h15.le (hle1912.trans hle2080)) hnz40 l2118 hcl2119) ?_
       rintro _ b2120 _ hle2121 ⟨A2122, c2123, hs2124, rfl, rfl, h2125⟩
       refine t_in4 [_, _, _, _, _] [_] hs2124 hs2 hs7 hs12 R rfl ?_
       refine t_st rfl (st_assign rfl) ?_
       refine t_nil ?_
       refine x_then_normal ?_
       obtain ⟨⟨x2143, l2147, l2151⟩, hj2152, hk2152⟩ := bindS hm
       refine c_join (fun b2141 e' hp' => ∃ (A2144 : Option Addr), ∃ (c2145 : Nat), ∃ (A2148 : Option Addr), ∃ (c2149 : Nat), [(0, .pointer (some ⟨g16, 0, none⟩)), (1, v22), (4, .int .i64 (x2143)), (5, .slice A2144 (l2147).length c2145), (8, .slice A2148 (l2151).length c2149), (24, .slice A26 (l29).length c27), (25, .int .i64 ((l29.length : Int))), (26, .int .i64 ((k2086 : Int)))] = e' ∧ (g16, Cl 63 [.int .i64 (x24), .int .i64 (x25), .slice A26 (l29).length c27, .func (.func 38) #[] #[.pointer (some ⟨g17, 0, none⟩), .pointer (some ⟨g18, 0, none⟩), .pointer (some ⟨g19, 0, none⟩)], .func (.func 37) #[] #[.pointer (some ⟨g18, 0, none⟩), .pointer (some ⟨g17, 0, none⟩), .pointer (some ⟨g20, 0, none⟩), .pointer (some ⟨g19, 0, none⟩)], .slice A3 (l37).length c4, .slice A8 (l38).length c9]) :: (g17, Cl 24 [.int .i64 (x30), .int .i64 (x31), .slice A32 (l35).length c33]) :: (g18, Cl 30 [.slice A13 (l39).length c14]) :: (g19, Cl 3 [.int .i64 (x36)]) :: (g20, Cl 56 [.pointer (some ⟨g16, 0, none⟩)]) :: (hs2 ++ (hs7 ++ (hs12 ++ R))) = hp' ∧ b2120.Le b2141 ∧ FZ (RT.int .i64) b2141.w A2144 c2145 l2147 ∧ FZ (RT.int .i64) b2141.w A2148 c2149 l2151) ?_ ?_
       ·
        have hm := hj2152
        obtain ⟨x2156, hj2157, hk2157⟩ := bindS hm
        refine c_join (fun b2154 e' hp' => [(0, .pointer (some ⟨g16, 0, none⟩)), (1, v22), (4, .int .i64 (x2081)), (5, .slice A2082 (l2085).length c2083), (6, .int .i64 ((k2086 : Int))), (8, .slice A2122 (l2118).length c2123), (24, .slice A26 (l29).length c27), (25, .int .i64 ((l29.length : Int))), (26, .int .i64 ((k2086 : Int))), (51, .bool (x2156))] = e' ∧ (g16, Cl 63 [.int .i64 (x24), .int .i64 (x25), .slice A26 (l29).length c27, .func (.func 38) #[] #[.pointer (some ⟨g17, 0, none⟩), .pointer (some ⟨g18, 0, none⟩), .pointer (some ⟨g19, 0, none⟩)], .func (.func 37) #[] #[.pointer (some ⟨g18, 0, none⟩), .pointer (some ⟨g17, 0, none⟩), .pointer (some ⟨g20, 0, none⟩), .pointer (some ⟨g19, 0, none⟩)], .slice A3 (l37).length c4, .slice A8 (l38).length c9]) :: (g17, Cl 24 [.int .i64 (x30), .int .i64 (x31), .slice A32 (l35).length c33]) :: (g18, Cl 30 [.slice A13 (l39).length c14]) :: (g19, Cl 3 [.int .i64 (x36)]) :: (g20, Cl 56 [.pointer (some ⟨g16, 0, none⟩)]) :: (hs2124 ++ (hs2 ++ (hs7 ++ (hs12 ++ R)))) = hp' ∧ b2120.Le b2154) ?_ ?_
        ·
         have hm := hj2157
         refine c_region ?_
         refine t_st rfl (st_move rfl) ?_
         refine t_bool rfl (st_lss rfl rfl) (fun hc2158 => ?_) (fun hc2158 => ?_)
         ·
          rw [if_pos hc2158] at hm
          refine t_st rfl (st_move rfl) ?_
          refine t_no 45 rfl rfl rfl rfl rfl ?_
          refine t_no 45 rfl rfl rfl rfl rfl ?_
          refine t_no 45 rfl rfl rfl rfl rfl ?_
          refine t_no 45 rfl rfl rfl rfl rfl ?_
          refine t_no 45 rfl rfl rfl rfl rfl ?_
          refine t_st rfl (st_pick_t rfl rfl) ?_
          refine t_nil ?_
          obtain rfl := some1 hm
          refine x_pullb 4 rfl ?_
          refine x_pullb 4 rfl ?_
          refine x_pullb 4 rfl ?_
          refine x_pullb 4 rfl ?_
          refine x_pullb 4 rfl ?_
          refine x_front4 [_, _, _, _, _, _] hs2124 hs2 hs7 hs12 R rfl ?_
          refine x_front4 [_, _, _, _, _, _] hs12 hs2124 hs2 hs7 R rfl ?_
          refine x_front4 [_, _, _, _, _, _] hs7 hs12 hs2124 hs2 R rfl ?_
          refine x_front4 [_, _, _, _, _, _] hs2 hs7 hs12 hs2124 R rfl ?_
          exact x_join (e' := [(0, .pointer (some ⟨g16, 0, none⟩)), (1, v22), (4, .int .i64 (x2081)), (5, .slice A2082 (l2085).length c2083), (6, .int .i64 ((k2086 : Int))), (8, .slice A2122 (l2118).length c2123), (24, .slice A26 (l29).length c27), (25, .int .i64 ((l29.length : Int))), (26, .int .i64 ((k2086 : Int))), (51, .bool (true))]) (hp' := (g16, Cl 63 [.int .i64 (x24), .int .i64 (x25), .slice A26 (l29).length c27, .func (.func 38) #[] #[.pointer (some ⟨g17, 0, none⟩), .pointer (some ⟨g18, 0, none⟩), .pointer (some ⟨g19, 0, none⟩)], .func (.func 37) #[] #[.pointer (some ⟨g18, 0, none⟩), .pointer (some ⟨g17, 0, none⟩), .pointer (some ⟨g20, 0, none⟩), .pointer (some ⟨g19, 0, none⟩)], .slice A3 (l37).length c4, .slice A8 (l38).length c9]) :: (g17, Cl 24 [.int .i64 (x30), .int .i64 (x31), .slice A32 (l35).length c33]) :: (g18, Cl 30 [.slice A13 (l39).length c14]) :: (g19, Cl 3 [.int .i64 (x36)]) :: (g20, Cl 56 [.pointer (some ⟨g16, 0, none⟩)]) :: (hs2124 ++ (hs2 ++ (hs7 ++ (hs12 ++ R))))) ⟨rfl, rfl, rfl, rfl, rfl, rfl, rfl, rfl, rfl, rfl, trivial⟩ (.cons_cons _ (.cons_cons _ (.cons_cons _ (.cons_cons _ (.cons_cons _ (.cons _ (sub_app hs2124 (sub_app hs2 (sub_app hs7 (sub_app hs12 (.refl _))))))))))) ⟨rfl, rfl, (Base.Le.refl _)⟩
         ·
          rw [if_neg hc2158] at hm
          refine t_st rfl (st_move rfl) ?_
          refine t_yes 45 rfl rfl rfl ?_
          refine t_st rfl (st_move rfl) ?_
          refine t_yes 45 rfl rfl rfl ?_
          refine t_st rfl (st_len rfl sl30) ?_
          refine t_yes 45 rfl rfl rfl ?_
          refine t_st rfl (st_move rfl) ?_
          refine t_yes 45 rfl rfl rfl ?_
          refine t_st rfl (st_len rfl sl30) ?_
          refine t_yes 45 rfl rfl rfl ?_
          refine t_st rfl (st_lss rfl rfl) ?_
          refine t_st rfl (st_pick_f rfl rfl) ?_
          refine t_nil ?_
          obtain rfl := some1 hm
          refine x_pullb 4 rfl ?_
          refine x_pullb 4 rfl ?_
          refine x_pullb 4 rfl ?_
          refine x_pullb 4 rfl ?_
          refine x_pullb 4 rfl ?_
          refine x_front4 [_, _, _, _, _, _] hs2124 hs2 hs7 hs12 R rfl ?_
          refine x_front4 [_, _, _, _, _, _] hs12 hs2124 hs2 hs7 R rfl ?_
          refine x_front4 [_, _, _, _, _, _] hs7 hs12 hs2124 hs2 R rfl ?_
          refine x_front4 [_, _, _, _, _, _] hs2 hs7 hs12 hs2124 R rfl ?_
          exact x_join (e' := [(0, .pointer (some ⟨g16, 0, none⟩)), (1, v22), (4, .int .i64 (x2081)), (5, .slice A2082 (l2085).length c2083), (6, .int .i64 ((k2086 : Int))), (8, .slice A2122 (l2118).length c2123), (24, .slice A26 (l29).length c27), (25, .int .i64 ((l29.length : Int))), (26, .int .i64 ((k2086 : Int))), (51, .bool (decide ((l2118.length : Int) < (l2085.length : Int))))]) (hp' := (g16, Cl 63 [.int .i64 (x24), .int .i64 (x25), .slice A26 (l29).length c27, .func (.func 38) #[] #[.pointer (some ⟨g17, 0, none⟩), .pointer (some ⟨g18, 0, none⟩), .pointer (some ⟨g19, 0, none⟩)], .func (.func 37) #[] #[.pointer (some ⟨g18, 0, none⟩), .pointer (some ⟨g17, 0, none⟩), .pointer (some ⟨g20, 0, none⟩), .pointer (some ⟨g19, 0, none⟩)], .slice A3 (l37).length c4, .slice A8 (l38).length c9]) :: (g17, Cl 24 [.int .i64 (x30), .int .i64 (x31), .slice A32 (l35).length c33]) :: (g18, Cl 30 [.slice A13 (l39).length c14]) :: (g19, Cl 3 [.int .i64 (x36)]) :: (g20, Cl 56 [.pointer (some ⟨g16, 0, none⟩)]) :: (hs2124 ++ (hs2 ++ (hs7 ++ (hs12 ++ R))))) ⟨rfl, rfl, rfl, rfl, rfl, rfl, rfl, rfl, rfl, rfl, trivial⟩ (.cons_cons _ (.cons_cons _ (.cons_cons _ (.cons_cons _ (.cons_cons _ (.cons _ (sub_app hs2124 (sub_app hs2 (sub_app hs7 (sub_app hs12 (.refl _))))))))))) ⟨rfl, rfl, (Base.Le.refl _)⟩
        ·
         rintro b2154 _ _ ⟨rfl, rfl, hle2155⟩
         have hm := hk2157
         refine c_cond _ rfl (fun hc2159 => ?_) (fun hc2159 => ?_)
         ·
          rw [if_pos hc2159] at hm
          refine c_region ?_
          refine t_st rfl (st_move rfl) ?_
          refine t_st rfl (st_move rfl) ?_
          refine t_st rfl (st_assign rfl) ?_
          refine t_st rfl (st_assign rfl) ?_
          refine t_nil ?_
          refine x_frz [_, _, _, _, _] hs2124 (hs2 ++ (hs7 ++ (hs12 ++ R))) rfl ?_
          intro b2160 hle2161 hz2162
          have h2163 := OS.frz (l := l2118) (h2125.le hle2155) hle2161.cells hz2162
          obtain ⟨rfl, rfl, rfl⟩ := some3 hm
          refine x_pullb 4 rfl ?_
          refine x_pullb 4 rfl ?_
          refine x_pullb 4 rfl ?_
          refine x_pullb 4 rfl ?_
          refine x_pullb 4 rfl ?_
          refine x_front3 [_, _, _, _, _] hs2 hs7 hs12 R rfl ?_
          refine x_front3 [_, _, _, _, _] hs12 hs2 hs7 R rfl ?_
          refine x_front3 [_, _, _, _, _] hs7 hs12 hs2 R rfl ?_
          exact x_join (e' := [(0, .pointer (some ⟨g16, 0, none⟩)), (1, v22), (4, .int .i64 ((k2086 : Int))), (5, .slice A2122 (l2118).length c2123), (8, .slice A2122 (l2118).length c2123), (24, .slice A26 (l29).length c27), (25, .int .i64 ((l29.length : Int))), (26, .int .i64 ((k2086 : Int)))]) (hp' := (g16, Cl 63 [.int .i64 (x24), .int .i64 (x25), .slice A26 (l29).length c27, .func (.func 38) #[] #[.pointer (some ⟨g17, 0, none⟩), .pointer (some ⟨g18, 0, none⟩), .pointer (some ⟨g19, 0, none⟩)], .func (.func 37) #[] #[.pointer (some ⟨g18, 0, none⟩), .pointer (some ⟨g17, 0, none⟩), .pointer (some ⟨g20, 0, none⟩), .pointer (some ⟨g19, 0, none⟩)], .slice A3 (l37).length c4, .slice A8 (l38).length c9]) :: (g17, Cl 24 [.int .i64 (x30), .int .i64 (x31), .slice A32 (l35).length c33]) :: (g18, Cl 30 [.slice A13 (l39).length c14]) :: (g19, Cl 3 [.int .i64 (x36)]) :: (g20, Cl 56 [.pointer (some ⟨g16, 0, none⟩)]) :: (hs2 ++ (hs7 ++ (hs12 ++ R)))) ⟨rfl, rfl, rfl, rfl, rfl, rfl, rfl, rfl, trivial⟩ (.cons_cons _ (.cons_cons _ (.cons_cons _ (.cons_cons _ (.cons_cons _ (sub_app hs2 (sub_app hs7 (sub_app hs12 (.refl _))))))))) ⟨A2122, c2123, A2122, c2123, rfl, rfl, (hle2155.trans hle2161), h2163, h2163⟩
         ·
          rw [if_neg (fun hh => Bool.noConfusion (hh.symm.trans hc2159))] at hm
          refine c_skip ?_
          refine x_frz [_, _, _, _, _] hs2124 (hs2 ++ (hs7 ++ (hs12 ++ R))) rfl ?_
          intro b2164 hle2165 hz2166
          have h2167 := OS.frz (l := l2118) (h2125.le hle2155) hle2165.cells hz2166
          obtain ⟨rfl, rfl, rfl⟩ := some3 hm
          refine x_pullb 4 rfl ?_
          refine x_pullb 4 rfl ?_
          refine x_pullb 4 rfl ?_
          refine x_pullb 4 rfl ?_
          refine x_pullb 4 rfl ?_
          refine x_front3 [_, _, _, _, _] hs2 hs7 hs12 R rfl ?_
          refine x_front3 [_, _, _, _, _] hs12 hs2 hs7 R rfl ?_
          refine x_front3 [_, _, _, _, _] hs7 hs12 hs2 R rfl ?_
          exact x_join (e' := [(0, .pointer (some ⟨g16, 0, none⟩)), (1, v22), (4, .int .i64 (x2081)), (5, .slice A2082 (l2085).length c2083), (8, .slice A2122 (l2118).length c2123), (24, .slice A26 (l29).length c27), (25, .int .i64 ((l29.length : Int))), (26, .int .i64 ((k2086 : Int)))]) (hp' := (g16, Cl 63 [.int .i64 (x24), .int .i64 (x25), .slice A26 (l29).length c27, .func (.func 38) #[] #[.pointer (some ⟨g17, 0, none⟩), .pointer (some ⟨g18, 0, none⟩), .pointer (some ⟨g19, 0, none⟩)], .func (.func 37) #[] #[.pointer (some ⟨g18, 0, none⟩), .pointer (some ⟨g17, 0, none⟩), .pointer (some ⟨g20, 0, none⟩), .pointer (some ⟨g19, 0, none⟩)], .slice A3 (l37).length c4, .slice A8 (l38).length c9]) :: (g17, Cl 24 [.int .i64 (x30), .int .i64 (x31), .slice A32 (l35).length c33]) :: (g18, Cl 30 [.slice A13 (l39).length c14]) :: (g19, Cl 3 [.int .i64 (x36)]) :: (g20, Cl 56 [.pointer (some ⟨g16, 0, none⟩)]) :: (hs2 ++ (hs7 ++ (hs12 ++ R)))) ⟨rfl, rfl, rfl, rfl, rfl, rfl, rfl, rfl, trivial⟩ (.cons_cons _ (.cons_cons _ (.cons_cons _ (.cons_cons _ (.cons_cons _ (sub_app hs2 (sub_app hs7 (sub_app hs12 (.refl _))))))))) ⟨A2082, c2083, A2122, c2123, rfl, rfl, (hle2155.trans hle2165), (h2084.le (hle2121.trans (hle2155.trans hle2165))), h2167⟩
       ·
        rintro b2141 _ _ ⟨A2144, c2145, A2148, c2149, rfl, rfl, hle2142, h2146, h2150⟩
        have hm := (unc3E hk2152)
        refine c_seq ?_
        refine c_region ?_
        refine t_st rfl (st_move rfl) ?_
        refine t_st rfl (st_len rfl sl30) ?_
        refine t_st rfl (st_eql rfl rfl) ?_
        refine t_nil ?_
        refine x_then_normal ?_
        refine c_cond _ rfl (fun hc2168 => ?_) (fun hc2168 => ?_)
        ·
         rw [if_pos (of_decide_eq_true hc2168)] at hm
         refine c_ret ?_
         refine x_block_ret ?_
         refine x_then_ret ?_
         refine x_then_ret ?_
         refine x_block_ret ?_
         refine x_then_ret ?_
         have hq2169 := houtL1914 _ (Option.some.inj hm).symm
         rw [hq2169] at hk2089
         have hm := elimR hk2089
         obtain ⟨rfl, rfl, rfl, rfl⟩ := some4 hm
         refine x_pullb 4 rfl ?_
         refine x_pullb 4 rfl ?_
         refine x_pullb 4 rfl ?_
         refine x_pullb 4 rfl ?_
         refine x_pullb 4 rfl ?_
         refine x_front3 [_, _, _, _, _] hs2 hs7 hs12 R rfl ?_
         refine x_front3 [_, _, _, _, _] hs12 hs2 hs7 R rfl ?_
         refine x_front3 [_, _, _, _, _] hs7 hs12 hs2 R rfl ?_
         exact retM (rs := []) [] (hle1912.trans (hle2080.trans (hle2121.trans hle2142))) (by decide) rfl trivial rfl (hp' := (g16, Cl 63 [.int .i64 (x24), .int .i64 (x25), .slice A26 (l29).length c27, .func (.func 38) #[] #[.pointer (some ⟨g17, 0, none⟩), .pointer (some ⟨g18, 0, none⟩), .pointer (some ⟨g19, 0, none⟩)], .func (.func 37) #[] #[.pointer (some ⟨g18, 0, none⟩), .pointer (some ⟨g17, 0, none⟩), .pointer (some ⟨g20, 0, none⟩), .pointer (some ⟨g19, 0, none⟩)], .slice A3 (l37).length c4, .slice A8 (l38).length c9]) :: (g17, Cl 24 [.int .i64 (x30), .int .i64 (x31), .slice A32 (l35).length c33]) :: (g18, Cl 30 [.slice A13 (l39).length c14]) :: (g19, Cl 3 [.int .i64 (x36)]) :: (g20, Cl 56 [.pointer (some ⟨g16, 0, none⟩)]) :: (hs2 ++ (hs7 ++ (hs12 ++ R)))) (.cons_cons _ (.cons_cons _ (.cons_cons _ (.cons_cons _ (.cons_cons _ (sub_app hs2 (sub_app hs7 (sub_app hs12 (.refl _))))))))) ⟨hs2, hs7, A13, c14, hs12, rfl, rfl, (h5.le (hle1912.trans (hle2080.trans (hle2121.trans hle2142)))), rfl, (h10.le (hle1912.trans (hle2080.trans (hle2121.trans hle2142)))), rfl, (h15.le (hle1912.trans (hle2080.trans (hle2121.trans hle2142)))), hnz40⟩
        ·
         rw [if_neg (of_decide_eq_false hc2168)] at hm
         refine c_skip ?_
         refine x_block_normal ?_
         refine x_then_normal ?_
         refine c_region ?_
         refine t_st rfl (st_add rfl rfl (by omega)) ?_
         refine t_st rfl (st_move rfl) ?_
         refine t_nil ?_
         refine x_pullb 4 rfl ?_
         refine x_pullb 4 rfl ?_
         refine x_pullb 4 rfl ?_
         refine x_pullb 4 rfl ?_
         refine x_pullb 4 rfl ?_
         refine x_front3 [_, _, _, _, _] hs2 hs7 hs12 R rfl ?_
         refine x_front3 [_, _, _, _, _] hs12 hs2 hs7 R rfl ?_
         refine x_front3 [_, _, _, _, _] hs7 hs12 hs2 R rfl ?_
         exact x_againM (x2143, l2147) (Option.some.inj hm).symm (e' := [(0, .pointer (some ⟨g16, 0, none⟩)), (1, v22), (4, .int .i64 (x2143)), (5, .slice A2144 (l2147).length c2145), (24, .slice A26 (l29).length c27), (25, .int .i64 ((l29.length : Int))), (26, .int .i64 ((k2086 : Int) + 1))]) (hp' := (g16, Cl 63 [.int .i64 (x24), .int .i64 (x25), .slice A26 (l29).length c27, .func (.func 38) #[] #[.pointer (some ⟨g17, 0, none⟩), .pointer (some ⟨g18, 0, none⟩), .pointer (some ⟨g19, 0, none⟩)], .func (.func 37) #[] #[.pointer (some ⟨g18, 0, none⟩), .pointer (some ⟨g17, 0, none⟩), .pointer (some ⟨g20, 0, none⟩), .pointer (some ⟨g19, 0, none⟩)], .slice A3 (l37).length c4, .slice A8 (l38).length c9]) :: (g17, Cl 24 [.int .i64 (x30), .int .i64 (x31), .slice A32 (l35).length c33]) :: (g18, Cl 30 [.slice A13 (l39).length c14]) :: (g19, Cl 3 [.int .i64 (x36)]) :: (g20, Cl 56 [.pointer (some ⟨g16, 0, none⟩)]) :: (hs2 ++ (hs7 ++ (hs12 ++ R)))) ⟨rfl, rfl, rfl, rfl, rfl, rfl, rfl, trivial⟩ (.cons_cons _ (.cons_cons _ (.cons_cons _ (.cons_cons _ (.cons_cons _ (sub_app hs2 (sub_app hs7 (sub_app hs12 (.refl _))))))))) ⟨A2144, c2145, rfl, rfl, ((hle2080.trans (hle2121.trans hle2142))), h2146⟩
     ·
      rintro ⟨x2081, l2085⟩ b2079 _ _ ⟨A2082, c2083, rfl, rfl, hle2080, h2084⟩ hq2170
      rw [hq2170] at hk2089
      have hm := elimL hk2089
      have hm := (unc2E hm)
      refine c_seq ?_
      refine c_region ?_
      refine t_st rfl (st_lss_f rfl rfl (by omega)) ?_
      refine t_nil ?_
      refine x_then_normal ?_
      refine c_seq ?_
      refine c_cond_f rfl ?_
      refine c_exit ?_
      refine x_then_exit ?_
      refine x_then_exit ?_
      refine x_block_out ?_
      refine x_then_normal ?_
      refine c_seq ?_
      refine c_seq ?_
      refine c_region ?_
      refine t_st rfl (st_move rfl) ?_
      refine t_st rfl (st_lss rfl rfl) ?_
      refine t_nil ?_
      refine x_then_normal ?_
      refine c_cond _ rfl (fun hc2171 => ?_) (fun hc2171 => ?_)
      ·
       rw [if_pos (of_decide_eq_true hc2171)] at hm
       refine c_seq ?_
       obtain ⟨⟨x2182, l2183⟩, hcl2184, hm⟩ := bindS hm
       have hm := (unc2E hm)
       refine D_drawS ((g20, Cl 56 [.pointer (some ⟨g16, 0, none⟩)]) :: (hs7 ++ R)) mixed ?_
       refine E_in (.cons _ (.cons _ (.cons _ (.cons _ (.cons_cons _ (sub_skip hs2 (sub_app hs7 (sub_skip hs12 (.refl _))))))))) ?_
       refine E_st 0 rfl (st_move rfl) ?_
       refine E_st 1 rfl (st_nil rfl) ?_
       refine E_st 2 rfl (st_field rfl fld63_1) ?_
       refine E_st 4 rfl (st_move rfl) ?_
       refine E_st 5 rfl (st_move rfl) ?_
       refine E_st 6 rfl (st_nil rfl) ?_
       refine E_st 7 rfl (st_field rfl fld63_3) ?_
       refine E_out ?_
       refine D_all [3, 8] (by kernel_rfl) rfl ?_
       refine R_do (Base.Le.refl _) rfl rfl (Stable.does (st_load 0 rfl one59 rfl rfl)) ?_ ?_
       ·
        rintro _ _ ⟨rfl, rfl⟩
        refine ⟨.inr (.cons _ (.cons _ (.cons _ (.cons _ (.cons_cons _ (sub_skip hs2 (sub_app hs7 (sub_skip hs12 (.refl _))))))))), ?_⟩
        refine D_all [8] (by kernel_rfl) rfl ?_
        refine R_do (Base.Le.refl _) rfl rfl (Stable.does (st_load 0 rfl one30 rfl rfl)) ?_ ?_
        ·
         rintro _ _ ⟨rfl, rfl⟩
         refine ⟨.inr (.cons _ (.cons _ (.cons _ (.cons _ (.cons_cons _ (sub_skip hs2 (sub_app hs7 (sub_skip hs12 (.refl _))))))))), ?_⟩
         refine d_pullb 3 rfl ?_
         refine d_pullb 3 rfl ?_
         refine d_pullb 3 rfl ?_
         refine d_front3 [_, _, _, _, _] hs2 hs7 hs12 R rfl ?_
         refine d_front2 [_, _, _, _, _] hs12 hs2 (hs7 ++ R) rfl ?_
         refine d_out2 [_, _, _] [_, _] hs2 hs12 (hs7 ++ R) rfl ?_
         refine D_all [9] (by kernel_rfl) rfl ?_
         refine R_callvG (Base.Le.refl _) rfl rfl #[] #[.pointer (some ⟨g17, 0, none⟩), .pointer (some ⟨g18, 0, none⟩), .pointer (some ⟨g19, 0, none⟩)] [v22, .slice A3 (l37).length c4] rfl call38 rfl (cPlanBest_2 _ _ q21 x30 x31 l35 x36 l37 l39 g17 g18 g19 v22 A32 c33 A3 c4 hs2 A13 c14 hs12 (RT.le (RT.ptr (RT.arr 8 (RT.arr 8 (RT.int .i64)))) h23 (hle1912.trans hle2080)) (h34.le (hle1912.trans hle2080)) (h5.le (hle1912.trans hle2080)) (h15.le (hle1912.trans hle2080)) hnz40 x2182 l2183 hcl2184) ?_ ?_
         ·
          rintro _ b2185 _ hle2186 ⟨A2187, c2188, hs2189, rfl, rfl, h2190, h2191⟩
          refine ⟨.inr (.cons _ (.cons _ (.cons _ (sub_skip hs2 (sub_skip hs2189 (.cons _ (.cons_cons _ (sub_app hs7 (.refl _))))))))), ?_⟩
          refine d_in2 [_, _, _] [_, _] hs2 hs2189 (hs7 ++ R) rfl ?_
          refine D_done (by kernel_rfl) ?_
          refine x_then_normal ?_
          refine c_ret ?_
          refine x_then_ret ?_
          obtain ⟨rfl, rfl, rfl, rfl⟩ := some4 hm
          refine x_pullb 4 rfl ?_
          refine x_pullb 3 rfl ?_
          refine x_pullb 3 rfl ?_
          refine x_pullb 3 rfl ?_
          refine x_pullb 4 rfl ?_
          refine x_front2 [_, _, _, _, _] hs2 hs2189 (hs7 ++ R) rfl ?_
          refine x_front3 [_, _, _, _, _] hs2189 hs2 hs7 R rfl ?_
          refine x_front3 [_, _, _, _, _] hs7 hs2189 hs2 R rfl ?_
          exact retM (rs := []) [] (hle1912.trans (hle2080.trans hle2186)) (by decide) rfl trivial rfl (hp' := (g16, Cl 63 [.int .i64 (x24), .int .i64 (x25), .slice A26 (l29).length c27, .func (.func 38) #[] #[.pointer (some ⟨g17, 0, none⟩), .pointer (some ⟨g18, 0, none⟩), .pointer (some ⟨g19, 0, none⟩)], .func (.func 37) #[] #[.pointer (some ⟨g18, 0, none⟩), .pointer (some ⟨g17, 0, none⟩), .pointer (some ⟨g20, 0, none⟩), .pointer (some ⟨g19, 0, none⟩)], .slice A3 (l37).length c4, .slice A8 (l38).length c9]) :: (g17, Cl 24 [.int .i64 (x30), .int .i64 (x31), .slice A32 (l35).length c33]) :: (g18, Cl 30 [.slice A2187 (l2183).length c2188]) :: (g19, Cl 3 [.int .i64 (x2182)]) :: (g20, Cl 56 [.pointer (some ⟨g16, 0, none⟩)]) :: (hs2 ++ (hs7 ++ (hs2189 ++ R)))) (.cons_cons _ (.cons_cons _ (.cons_cons _ (.cons_cons _ (.cons_cons _ (sub_app hs2 (sub_app hs7 (sub_app hs2189 (.refl _))))))))) ⟨hs2, hs7, A2187, c2188, hs2189, rfl, rfl, (h5.le (hle1912.trans (hle2080.trans hle2186))), rfl, (h10.le (hle1912.trans (hle2080.trans hle2186))), rfl, h2190, h2191⟩
         exact R_nil
        exact R_nil
       refine R_do (Base.Le.refl _) rfl rfl (Stable.does (st_load 0 rfl one30 rfl rfl)) ?_ ?_
       ·
        rintro _ _ ⟨rfl, rfl⟩
        refine ⟨.inr (.cons _ (.cons _ (.cons _ (.cons _ (.cons_cons _ (sub_skip hs2 (sub_app hs7 (sub_skip hs12 (.refl _))))))))), ?_⟩
        refine D_all [3] (by kernel_rfl) rfl ?_
        refine R_do (Base.Le.refl _) rfl rfl (Stable.does (st_load 0 rfl one59 rfl rfl)) ?_ ?_
        ·
         rintro _ _ ⟨rfl, rfl⟩
         refine ⟨.inr (.cons _ (.cons _ (.cons _ (.cons _ (.cons_cons _ (sub_skip hs2 (sub_app hs7 (sub_skip hs12 (.refl _))))))))), ?_⟩
         refine d_pullb 3 rfl ?_
         refine d_pullb 3 rfl ?_
         refine d_pullb 3 rfl ?_
         refine d_front3 [_, _, _, _, _] hs2 hs7 hs12 R rfl ?_
         refine d_front2 [_, _, _, _, _] hs12 hs2 (hs7 ++ R) rfl ?_
         refine d_out2 [_, _, _] [_, _] hs2 hs12 (hs7 ++ R) rfl ?_
         refine D_all [9] (by kernel_rfl) rfl ?_
         refine R_callvG (Base.Le.refl _) rfl rfl #[] #[.pointer (some ⟨g17, 0, none⟩), .pointer (some ⟨g18, 0, none⟩), .pointer (some ⟨g19, 0, none⟩)] [v22, .slice A3 (l37).length c4] rfl call38 rfl (cPlanBest_2 _ _ q21 x30 x31 l35 x36 l37 l39 g17 g18 g19 v22 A32 c33 A3 c4 hs2 A13 c14 hs12 (RT.le (RT.ptr (RT.arr 8 (RT.arr 8 (RT.int .i64)))) h23 (hle1912.trans hle2080)) (h34.le (hle1912.trans hle2080)) (h5.le (hle1912.trans hle2080)) (h15.le (hle1912.trans hle2080)) hnz40 x2182 l2183 hcl2184) ?_ ?_
         ·
          rintro _ b2185 _ hle2186 ⟨A2187, c2188, hs2189, rfl, rfl, h2190, h2191⟩
          refine ⟨.inr (.cons _ (.cons _ (.cons _ (sub_skip hs2 (sub_skip hs2189 (.cons _ (.cons_cons _ (sub_app hs7 (.refl _))))))))), ?_⟩
          refine d_in2 [_, _, _] [_, _] hs2 hs2189 (hs7 ++ R) rfl ?_
          refine D_done (by kernel_rfl) ?_
          refine x_then_normal ?_
          refine c_ret ?_
          refine x_then_ret ?_
          obtain ⟨rfl, rfl, rfl, rfl⟩ := some4 hm
          refine x_pullb 4 rfl ?_
          refine x_pullb 3 rfl ?_
          refine x_pullb 3 rfl ?_
          refine x_pullb 3 rfl ?_
          refine x_pullb 4 rfl ?_
          refine x_front2 [_, _, _, _, _] hs2 hs2189 (hs7 ++ R) rfl ?_
          refine x_front3 [_, _, _, _, _] hs2189 hs2 hs7 R rfl ?_
          refine x_front3 [_, _, _, _, _] hs7 hs2189 hs2 R rfl ?_
          exact retM (rs := []) [] (hle1912.trans (hle2080.trans hle2186)) (by decide) rfl trivial rfl (hp' := (g16, Cl 63 [.int .i64 (x24), .int .i64 (x25), .slice A26 (l29).length c27, .func (.func 38) #[] #[.pointer (some ⟨g17, 0, none⟩), .pointer (some ⟨g18, 0, none⟩), .pointer (some ⟨g19, 0, none⟩)], .func (.func 37) #[] #[.pointer (some ⟨g18, 0, none⟩), .pointer (some ⟨g17, 0, none⟩), .pointer (some ⟨g20, 0, none⟩), .pointer (some ⟨g19, 0, none⟩)], .slice A3 (l37).length c4, .slice A8 (l38).length c9]) :: (g17, Cl 24 [.int .i64 (x30), .int .i64 (x31), .slice A32 (l35).length c33]) :: (g18, Cl 30 [.slice A2187 (l2183).length c2188]) :: (g19, Cl 3 [.int .i64 (x2182)]) :: (g20, Cl 56 [.pointer (some ⟨g16, 0, none⟩)]) :: (hs2 ++ (hs7 ++ (hs2189 ++ R)))) (.cons_cons _ (.cons_cons _ (.cons_cons _ (.cons_cons _ (.cons_cons _ (sub_app hs2 (sub_app hs7 (sub_app hs2189 (.refl _))))))))) ⟨hs2, hs7, A2187, c2188, hs2189, rfl, rfl, (h5.le (hle1912.trans (hle2080.trans hle2186))), rfl, (h10.le (hle1912.trans (hle2080.trans hle2186))), rfl, h2190, h2191⟩
         exact R_nil
        exact R_nil
       exact R_nil
      ·
       rw [if_neg (of_decide_eq_false hc2171)] at hm
       refine c_skip ?_
       refine x_then_normal ?_
       refine c_seq ?_
       refine c_region ?_
       refine t_st rfl (st_move rfl) ?_
       refine t_st rfl (st_nil rfl) ?_
       refine t_st rfl (st_field rfl fld63_0) ?_
       refine t_st rfl (st_field rfl fld24_2) ?_
       refine t_st rfl (st_load 0 rfl one22 rfl rfl) ?_
       refine t_st rfl (st_move rfl) ?_
       obtain ⟨x2192, h2193, hm⟩ := bindS hm
       obtain ⟨j2194, hj2195, hx2196⟩ := idx_some h2193
       obtain ⟨cs2197, hr2198, hcs2199, hA2200, hlt2201⟩ := FZ.get (sz := 5) rfl (by decide) (h28.le (hle1912.trans hle2080)) hx2196
       obtain ⟨_, _, rfl, rfl, ⟨_, _, rfl, rfl, ⟨_, _, rfl, rfl, ⟨_, _, rfl, rfl, rfl⟩⟩⟩⟩ := hr2198
       refine t_st rfl (st_index_old j2194 rfl rfl hj2195 hlt2201 hA2200 sl22) ?_
       refine t_st rfl (st_loadN_old (vs := [.int .i64 (x2192.From), .int .i64 (x2192.To), .int .i64 (x2192.Min), .int .i64 (x2192.Max), .int .i64 (x2192.Weight)]) 5 rfl agg29 hA2200 rfl (fun j u hu => hcs2199 j u hu)) ?_
       refine t_do rfl (u_alloc [.int .i64 0, .int .i64 0, .int .i64 0, .int .i64 0, .int .i64 0] zero29 rfl) ?_
       rintro _ _ ⟨g2202, rfl, rfl⟩
       refine t_do rfl (u_storeN (vs := [_, _, _, _, _]) 0 5 rfl rfl rfl siz29 rfl (by intro u hu; simp only [List.mem_cons, List.not_mem_nil, or_false] at hu; rcases hu with rfl | rfl | rfl | rfl | rfl <;> rfl) rfl (by simp)) ?_
       rintro _ _ rfl
       refine t_nil ?_
       refine x_then_normal ?_
       refine c_seq ?_
       refine c_region ?_
       refine t_st rfl (st_move rfl) ?_
       refine t_st rfl (st_nil rfl) ?_
       refine t_st rfl (st_field rfl fld63_4) ?_
       refine t_st rfl (st_load 1 rfl one61 rfl rfl) ?_
       refine t_st rfl (st_move rfl) ?_
       obtain ⟨x2203, h2204, hm⟩ := bindS hm
       obtain ⟨j2205, hj2206, hx2207⟩ := idx_some h2204
       obtain ⟨cs2208, hs2213, P2214, P2215, hq2216, hr2209, hcs2210, hA2211, hlt2212, hb2217, hho2218⟩ := OS.get (sz := 1) rfl (by decide) (h10.le (hle1912.trans hle2080)) hx2207
       obtain ⟨rfl, rfl⟩ := hr2209
       refine t_st rfl (st_index_old j2205 rfl rfl hj2206 hlt2212 hA2211 sl61) ?_
       refine t_front2 [_, _, _, _, _, _] hs2 hs7 (hs12 ++ R) rfl ?_
       refine t_do rfl (u_putOS hj2206 (sz := 1) (a' := false) rfl [_, _, _, _, _, _] (hs2 ++ (hs12 ++ R)) 0 1 [.bool (false)] rfl (h10.le (hle1912.trans hle2080)) hx2207 rfl rfl rfl siz4 rfl (by intro u hu; simp only [List.mem_cons, List.not_mem_nil, or_false] at hu; subst hu; rfl) (fun cs hsj hh => by obtain ⟨rfl, rfl⟩ := hh; exact ⟨by decide, rfl, rfl⟩)) ?_
       rintro _ _ ⟨hs2219, rfl, h2220⟩
       refine t_hresp 1 rfl (o' := Cl 63 [.int .i64 (x24), .int .i64 (x25), .slice A26 (l29).length c27, .func (.func 38) #[] #[.pointer (some ⟨g17, 0, none⟩), .pointer (some ⟨g18, 0, none⟩), .pointer (some ⟨g19, 0, none⟩)], .func (.func 37) #[] #[.pointer (some ⟨g18, 0, none⟩), .pointer (some ⟨g17, 0, none⟩), .pointer (some ⟨g20, 0, none⟩), .pointer (some ⟨g19, 0, none⟩)], .slice A3 (l37).length c4, .slice A8 (put l38 x2081 false).length c9]) (by simp only [put_length]) ?_
       refine t_nil ?_
       refine x_then_normal ?_
       refine c_seq ?_
       refine c_seq ?_
       refine c_region ?_
       refine t_st rfl (st_move rfl) ?_
       refine t_st rfl (st_len rfl sl30) ?_
       refine t_st rfl (st_move rfl) ?_
       refine t_nil ?_
       refine x_then_normal ?_
       refine c_block ?_
       have hb2222 : l2085.length ≤ 9223372036854775807 := (FZ.bd h2084)
       refine c_pullb 5 rfl ?_
       refine c_pullb 5 rfl ?_
       refine c_pullb 5 rfl ?_
       refine c_pullb 5 rfl ?_
       refine c_pullb 4 rfl ?_
       refine c_pullb 5 rfl ?_
       refine c_front3 [_, _, _, _, _, _] hs2219 hs2 hs12 R rfl ?_
       refine c_front2 [_, _, _, _, _, _] hs12 hs2219 (hs2 ++ R) rfl ?_
       refine c_front3 [_, _, _, _, _, _] hs2219 hs12 hs2 R rfl ?_
       obtain ⟨⟨x2450, l2451, l2453, l2455⟩, hl2458, hk2459⟩ := bindS hm
       refine c_forS (fun k2457 => unc4 fun x2450 l2451 l2453 l2455 => fun b2437 e' hp' => ∃ (hs2440 : Hp), ∃ (hs2443 : Hp), ∃ (A2447 : Option Addr), ∃ (c2448 : Nat), ∃ (hs2446 : Hp), [(0, .pointer (some ⟨g16, 0, none⟩)), (1, v22), (4, .int .i64 (x2081)), (9, .pointer (some ⟨g2202, 0, none⟩)), (84, .slice A2082 (l2085).length c2083), (85, .int .i64 ((l2085.length : Int))), (86, .int .i64 ((k2457 : Int)))] = e' ∧ (g16, Cl 63 [.int .i64 (x24), .int .i64 (x25), .slice A26 (l29).length c27, .func (.func 38) #[] #[.pointer (some ⟨g17, 0, none⟩), .pointer (some ⟨g18, 0, none⟩), .pointer (some ⟨g19, 0, none⟩)], .func (.func 37) #[] #[.pointer (some ⟨g18, 0, none⟩), .pointer (some ⟨g17, 0, none⟩), .pointer (some ⟨g20, 0, none⟩), .pointer (some ⟨g19, 0, none⟩)], .slice A3 (l2451).length c4, .slice A8 (l2453).length c9]) :: (g2202, Cl 29 [.int .i64 (x2192.From), .int .i64 (x2192.To), .int .i64 (x2192.Min), .int .i64 (x2192.Max), .int .i64 (x2192.Weight)]) :: (g17, Cl 24 [.int .i64 (x30), .int .i64 (x31), .slice A32 (l35).length c33]) :: (g18, Cl 30 [.slice A2447 (l2455).length c2448]) :: (g19, Cl 3 [.int .i64 (x2450)]) :: (g20, Cl 56 [.pointer (some ⟨g16, 0, none⟩)]) :: (hs2440 ++ (hs2443 ++ (hs2446 ++ R))) = hp' ∧ b2079.Le b2437 ∧ OS 3 (OT.fr (RT.int .i64)) b2437.w (.slice A3 l2451.length c4) l2451 hs2440 ∧ l2451.length = l37.length ∧ OS 4 (OT.fr RT.bool) b2437.w (.slice A8 l2453.length c9) l2453 hs2443 ∧ l2453.length = l38.length ∧ OS 3 (OT.fr (RT.int .i64)) b2437.w (.slice A2447 l2455.length c2448) l2455 hs2446 ∧ (A2447 = none ↔ l2455 = [])) hl2458 (e' := [(0, .pointer (some ⟨g16, 0, none⟩)), (1, v22), (4, .int .i64 (x2081)), (9, .pointer (some ⟨g2202, 0, none⟩)), (84, .slice A2082 (l2085).length c2083), (85, .int .i64 ((l2085.length : Int))), (86, .int .i64 0)]) (hp' := (g16, Cl 63 [.int .i64 (x24), .int .i64 (x25), .slice A26 (l29).length c27, .func (.func 38) #[] #[.pointer (some ⟨g17, 0, none⟩), .pointer (some ⟨g18, 0, none⟩), .pointer (some ⟨g19, 0, none⟩)], .func (.func 37) #[] #[.pointer (some ⟨g18, 0, none⟩), .pointer (some ⟨g17, 0, none⟩), .pointer (some ⟨g20, 0, none⟩), .pointer (some ⟨g19, 0, none⟩)], .slice A3 (l37).length c4, .slice A8 (put l38 x2081 false).length c9]) :: (g2202, Cl 29 [.int .i64 (x2192.From), .int .i64 (x2192.To), .int .i64 (x2192.Min), .int .i64 (x2192.Max), .int .i64 (x2192.Weight)]) :: (g17, Cl 24 [.int .i64 (x30), .int .i64 (x31), .slice A32 (l35).length c33]) :: (g18, Cl 30 [.slice A13 (l39).length c14]) :: (g19, Cl 3 [.int .i64 (x36)]) :: (g20, Cl 56 [.pointer (some ⟨g16, 0, none⟩)]) :: (hs2 ++ (hs2219 ++ (hs12 ++ R)))) ⟨rfl, rfl, rfl, rfl, rfl, rfl, rfl, trivial⟩ (.cons_cons _ (.cons_cons _ (.cons_cons _ (.cons_cons _ (.cons_cons _ (.cons_cons _ (sub_app hs2 (sub_app hs2219 (sub_app hs12 (.refl _)))))))))) ⟨hs2, hs2219, A13, c14, hs12, rfl, rfl, (Base.Le.refl _), (h5.le (hle1912.trans hle2080)), rfl, h2220, ((put_length _ _ _).trans rfl), (h15.le (hle1912.trans hle2080)), hnz40⟩ ?_ ?_
       ·
        rintro k2457 ⟨x2450, l2451, l2453, l2455⟩ b2437 _ _ oL2221 hknL2221 ⟨hs2440, hs2443, A2447, c2448, hs2446, rfl, rfl, hle2438, h2441, hln2452, h2444, hln2454, h2449, hnz2456⟩ hstepL2221
        unfold mPlanSearchRun_2_L2221 at hstepL2221
        have hm := (unc4E hstepL2221)
        refine c_seq ?_
        refine c_region ?_
        refine t_st rfl (st_lss_t rfl rfl (by omega)) ?_
        refine t_nil ?_
        refine x_then_normal ?_
        refine c_seq ?_
        refine c_cond_t rfl ?_
        refine c_skip ?_
        refine x_then_normal ?_
        refine c_seq ?_
        refine c_block ?_
        refine c_seq ?_
        refine c_region ?_
        obtain ⟨x2460, h2461, hm⟩ := bindS hm
        obtain ⟨j2462, hj2463, hx2464⟩ := idx_some h2461
        obtain ⟨cs2465, hr2466, hcs2467, hA2468, hlt2469⟩ := FZ.get (sz := 1) rfl (by decide) (h2084.le hle2438) hx2464
        obtain rfl := hr2466
        refine t_st rfl (st_index_old j2462 rfl rfl hj2463 hlt2469 hA2468 sl30) ?_
        refine t_st rfl (st_load_old rfl one3 (hcs2467 0 _ rfl)) ?_
        refine t_st rfl (st_assign rfl) ?_
        refine t_nil ?_
        refine x_then_normal ?_
        obtain ⟨⟨q2494, x2497⟩, hj2498, hk2498⟩ := bindS hm
        refine c_join (fun b2492 e' hp' => ∃ (v2495 : Value), [(0, .pointer (some ⟨g16, 0, none⟩)), (1, v22), (4, .int .i64 (x2081)), (9, .pointer (some ⟨g2202, 0, none⟩)), (11, .int .i64 (x2460)), (12, v2495), (13, .bool (x2497)), (84, .slice A2082 (l2085).length c2083), (85, .int .i64 ((l2085.length : Int))), (86, .int .i64 ((k2457 : Int)))] = e' ∧ (g16, Cl 63 [.int .i64 (x24), .int .i64 (x25), .slice A26 (l29).length c27, .func (.func 38) #[] #[.pointer (some ⟨g17, 0, none⟩), .pointer (some ⟨g18, 0, none⟩), .pointer (some ⟨g19, 0, none⟩)], .func (.func 37) #[] #[.pointer (some ⟨g18, 0, none⟩), .pointer (some ⟨g17, 0, none⟩), .pointer (some ⟨g20, 0, none⟩), .pointer (some ⟨g19, 0, none⟩)], .slice A3 (l2451).length c4, .slice A8 (l2453).length c9]) :: (g2202, Cl 29 [.int .i64 (x2192.From), .int .i64 (x2192.To), .int .i64 (x2192.Min), .int .i64 (x2192.Max), .int .i64 (x2192.Weight)]) :: (g17, Cl 24 [.int .i64 (x30), .int .i64 (x31), .slice A32 (l35).length c33]) :: (g18, Cl 30 [.slice A2447 (l2455).length c2448]) :: (g19, Cl 3 [.int .i64 (x2450)]) :: (g20, Cl 56 [.pointer (some ⟨g16, 0, none⟩)]) :: (hs2440 ++ (hs2443 ++ (hs2446 ++ R))) = hp' ∧ b2437.Le b2492 ∧ (RT.ptr (RT.arr 8 (RT.arr 8 (RT.int .i64)))).rep b2492.w [v2495] q2494) ?_ ?_
        ·
         have hm := hj2498
         obtain ⟨_, h2510, hm⟩ := bindS hm
         obtain ⟨_, h2511, hm⟩ := bindS hm
         obtain ⟨_, h2512, hm⟩ := bindS hm
         obtain ⟨_, h2513, hm⟩ := bindS hm
         obtain ⟨⟨q2514, x2515⟩, hcl2516, hm⟩ := bindS hm
         have hm := (unc2E hm)
         refine D_drawS ((g16, Cl 63 [.int .i64 (x24), .int .i64 (x25), .slice A26 (l29).length c27, .func (.func 38) #[] #[.pointer (some ⟨g17, 0, none⟩), .pointer (some ⟨g18, 0, none⟩), .pointer (some ⟨g19, 0, none⟩)], .func (.func 37) #[] #[.pointer (some ⟨g18, 0, none⟩), .pointer (some ⟨g17, 0, none⟩), .pointer (some ⟨g20, 0, none⟩), .pointer (some ⟨g19, 0, none⟩)], .slice A3 (l2451).length c4, .slice A8 (l2453).length c9]) :: (g2202, Cl 29 [.int .i64 (x2192.From), .int .i64 (x2192.To), .int .i64 (x2192.Min), .int .i64 (x2192.Max), .int .i64 (x2192.Weight)]) :: (g17, Cl 24 [.int .i64 (x30), .int .i64 (x31), .slice A32 (l35).length c33]) :: (g18, Cl 30 [.slice A2447 (l2455).length c2448]) :: (g19, Cl 3 [.int .i64 (x2450)]) :: (g20, Cl 56 [.pointer (some ⟨g16, 0, none⟩)]) :: (hs2440 ++ (hs2443 ++ (hs2446 ++ R)))) mixed ?_
         refine E_in (.cons_cons _ (.cons_cons _ (.cons_cons _ (.cons_cons _ (.cons_cons _ (.cons_cons _ (sub_app hs2440 (sub_app hs2443 (sub_app hs2446 (.refl _)))))))))) ?_
         refine E_st 0 rfl (st_move rfl) ?_
         refine E_st 1 rfl (st_move rfl) ?_
         refine E_st 2 rfl (st_nil rfl) ?_
         refine E_st 3 rfl (st_field rfl fld63_0) ?_
         refine E_st 4 rfl (st_field rfl fld24_1) ?_
         refine E_st 5 rfl (st_load 0 rfl one3 rfl rfl) ?_
         refine E_st 6 rfl (st_field rfl fld29_0) ?_
         refine E_st 7 rfl (st_load 1 rfl one3 rfl rfl) ?_
         refine E_st 8 rfl (st_field rfl fld29_1) ?_
         refine E_st 9 rfl (st_load 1 rfl one3 rfl rfl) ?_
         refine E_st 10 rfl (st_field rfl fld29_2) ?_
         refine E_st 11 rfl (st_load 1 rfl one3 rfl rfl) ?_
         refine E_st 12 rfl (st_move rfl) ?_
         refine E_st 13 rfl (st_move rfl) ?_
         refine E_st 14 rfl (st_nil rfl) ?_
         refine E_st 15 rfl (st_field rfl fld63_0) ?_
         refine E_st 16 rfl (st_field rfl fld24_0) ?_
         refine E_st 17 rfl (st_load 0 rfl one3 rfl rfl) ?_
         have h2510 := (chk_some h2510).2
         refine E_st 18 rfl (st_mul rfl rfl h2510) ?_
         have h2511 := (chk_some h2511).2
         refine E_st 19 rfl (st_sub rfl rfl h2511) ?_
         refine E_st 20 rfl (st_field rfl fld29_3) ?_
         refine E_st 21 rfl (st_load 1 rfl one3 rfl rfl) ?_
         refine E_st 22 rfl (st_move rfl) ?_
         refine E_st 23 rfl (st_move rfl) ?_
         refine E_st 24 rfl (st_nil rfl) ?_
         refine E_st 25 rfl (st_field rfl fld63_0) ?_
         refine E_st 26 rfl (st_field rfl fld24_0) ?_
         refine E_st 27 rfl (st_load 0 rfl one3 rfl rfl) ?_
         have h2512 := (chk_some h2512).2
         refine E_st 28 rfl (st_mul rfl rfl h2512) ?_
         have h2513 := (chk_some h2513).2
         refine E_st 29 rfl (st_sub rfl rfl h2513) ?_
         refine E_out ?_
         refine D_all [30] (by kernel_rfl) rfl ?_
         refine R_callGl (Base.Le.refl _) rfl rfl _ call45 rfl (cPlanBoundsBetween _ _ q21 x25 x2192.From x2192.To (x2192.Min - (x2460 * x24)) (x2192.Max - (x2460 * x24)) v22 (RT.le (RT.ptr (RT.arr 8 (RT.arr 8 (RT.int .i64)))) h23 (hle1912.trans (hle2080.trans hle2438))) q2514 x2515 hcl2516) ?_ ?_
         ·
          rintro _ b2517 _ hle2518 ⟨v2519, rfl, rfl, h2520⟩
          refine ⟨.inr (.cons_cons _ (.cons_cons _ (.cons_cons _ (.cons_cons _ (.cons_cons _ (.cons_cons _ (sub_app hs2440 (sub_app hs2443 (sub_app hs2446 (.refl _)))))))))), ?_⟩
          refine D_st hle2518 31 rfl (by kernel_rfl) (by kernel_rfl) (by kernel_rfl) rfl (st_move rfl) (.cons_cons _ (.cons_cons _ (.cons_cons _ (.cons_cons _ (.cons_cons _ (.cons_cons _ (sub_app hs2440 (sub_app hs2443 (sub_app hs2446 (.refl _)))))))))) ?_
          refine D_st hle2518 32 rfl (by kernel_rfl) (by kernel_rfl) (by kernel_rfl) rfl (st_extract rfl rfl) (.cons_cons _ (.cons_cons _ (.cons_cons _ (.cons_cons _ (.cons_cons _ (.cons_cons _ (sub_app hs2440 (sub_app hs2443 (sub_app hs2446 (.refl _)))))))))) ?_
          refine D_st hle2518 33 rfl (by kernel_rfl) (by kernel_rfl) (by kernel_rfl) rfl (st_extract rfl rfl) (.cons_cons _ (.cons_cons _ (.cons_cons _ (.cons_cons _ (.cons_cons _ (.cons_cons _ (sub_app hs2440 (sub_app hs2443 (sub_app hs2446 (.refl _)))))))))) ?_
          refine D_st hle2518 34 rfl (by kernel_rfl) (by kernel_rfl) (by kernel_rfl) rfl (st_assign rfl) (.cons_cons _ (.cons_cons _ (.cons_cons _ (.cons_cons _ (.cons_cons _ (.cons_cons _ (sub_app hs2440 (sub_app hs2443 (sub_app hs2446 (.refl _)))))))))) ?_
          refine D_st hle2518 35 rfl (by kernel_rfl) (by kernel_rfl) (by kernel_rfl) rfl (st_assign rfl) (.cons_cons _ (.cons_cons _ (.cons_cons _ (.cons_cons _ (.cons_cons _ (.cons_cons _ (sub_app hs2440 (sub_app hs2443 (sub_app hs2446 (.refl _)))))))))) ?_
          refine D_done (by kernel_rfl) ?_
          obtain ⟨rfl, rfl⟩ := some2 hm
          refine x_pullb 5 rfl ?_
          refine x_pullb 5 rfl ?_
          refine x_pullb 5 rfl ?_
          refine x_pullb 5 rfl ?_
          refine x_pullb 5 rfl ?_
          refine x_pullb 5 rfl ?_
          refine x_front3 [_, _, _, _, _, _] hs2440 hs2443 hs2446 R rfl ?_
          refine x_front3 [_, _, _, _, _, _] hs2446 hs2440 hs2443 R rfl ?_
          refine x_front3 [_, _, _, _, _, _] hs2443 hs2446 hs2440 R rfl ?_
          exact x_join (e' := [(0, .pointer (some ⟨g16, 0, none⟩)), (1, v22), (4, .int .i64 (x2081)), (9, .pointer (some ⟨g2202, 0, none⟩)), (11, .int .i64 (x2460)), (12, v2519), (13, .bool (x2515)), (84, .slice A2082 (l2085).length c2083), (85, .int .i64 ((l2085.length : Int))), (86, .int .i64 ((k2457 : Int)))]) (hp' := (g16, Cl 63 [.int .i64 (x24), .int .i64 (x25), .slice A26 (l29).length c27, .func (.func 38) #[] #[.pointer (some ⟨g17, 0, none⟩), .pointer (some ⟨g18, 0, none⟩), .pointer (some ⟨g19, 0, none⟩)], .func (.func 37) #[] #[.pointer (some ⟨g18, 0, none⟩), .pointer (some ⟨g17, 0, none⟩), .pointer (some ⟨g20, 0, none⟩), .pointer (some ⟨g19, 0, none⟩)], .slice A3 (l2451).length c4, .slice A8 (l2453).length c9]) :: (g2202, Cl 29 [.int .i64 (x2192.From), .int .i64 (x2192.To), .int .i64 (x2192.Min), .int .i64 (x2192.Max), .int .i64 (x2192.Weight)]) :: (g17, Cl 24 [.int .i64 (x30), .int .i64 (x31), .slice A32 (l35).length c33]) :: (g18, Cl 30 [.slice A2447 (l2455).length c2448]) :: (g19, Cl 3 [.int .i64 (x2450)]) :: (g20, Cl 56 [.pointer (some ⟨g16, 0, none⟩)]) :: (hs2440 ++ (hs2443 ++ (hs2446 ++ R)))) ⟨rfl, rfl, rfl, rfl, rfl, rfl, rfl, rfl, rfl, rfl, trivial⟩ (.cons_cons _ (.cons_cons _ (.cons_cons _ (.cons_cons _ (.cons_cons _ (.cons_cons _ (sub_app hs2440 (sub_app hs2443 (sub_app hs2446 (.refl _)))))))))) ⟨v2519, rfl, rfl, hle2518, h2520⟩
         exact R_nil
        ·
         rintro b2492 _ _ ⟨v2495, rfl, rfl, hle2493, h2496⟩
         have hm := (unc2E hk2498)
         refine c_seq ?_
         refine c_region ?_
         refine t_st rfl (st_move rfl) ?_
         refine t_nil ?_
         refine x_then_normal ?_
         refine c_cond _ rfl (fun hc2521 => ?_) (fun hc2521 => ?_)
         ·
          rw [if_pos hc2521] at hm
          refine c_seq ?_
          refine c_region ?_
          refine t_st rfl (st_move rfl) ?_
          refine t_st rfl (st_nil rfl) ?_
          refine t_st rfl (st_field rfl fld63_3) ?_
          refine t_st rfl (st_load 0 rfl one30 rfl rfl) ?_
          refine t_st rfl (st_move rfl) ?_
          refine t_st rfl (st_move rfl) ?_
          obtain ⟨x2522, h2523, hm⟩ := bindS hm
          obtain ⟨j2524, hj2525, hx2526⟩ := idx_some h2523
          obtain ⟨cs2527, hs2532, P2533, P2534, hq2535, hr2528, hcs2529, hA2530, hlt2531, hb2536, hho2537⟩ := OS.get (sz := 1) rfl (by decide) (h2441.le hle2493) hx2526
          obtain ⟨rfl, rfl⟩ := hr2528
          refine t_st rfl (st_index_old j2524 rfl rfl hj2525 hlt2531 hA2530 sl30) ?_
          refine t_do rfl (u_putOS hj2525 (sz := 1) (a' := x2460) rfl [_, _, _, _, _, _] (hs2443 ++ (hs2446 ++ R)) 0 1 [.int .i64 (x2460)] rfl (h2441.le hle2493) hx2526 rfl rfl rfl siz3 rfl (by intro u hu; simp only [List.mem_cons, List.not_mem_nil, or_false] at hu; subst hu; rfl) (fun cs hsj hh => by obtain ⟨rfl, rfl⟩ := hh; exact ⟨by decide, rfl, rfl⟩)) ?_
          rintro _ _ ⟨hs2538, rfl, h2539⟩
          refine t_hresp 0 rfl (o' := Cl 63 [.int .i64 (x24), .int .i64 (x25), .slice A26 (l29).length c27, .func (.func 38) #[] #[.pointer (some ⟨g17, 0, none⟩), .pointer (some ⟨g18, 0, none⟩), .pointer (some ⟨g19, 0, none⟩)], .func (.func 37) #[] #[.pointer (some ⟨g18, 0, none⟩), .pointer (some ⟨g17, 0, none⟩), .pointer (some ⟨g20, 0, none⟩), .pointer (some ⟨g19, 0, none⟩)], .slice A3 (put l2451 x2081 x2460).length c4, .slice A8 (l2453).length c9]) (by simp only [put_length]) ?_
          refine t_nil ?_
          refine x_then_normal ?_
          refine c_region ?_
          refine t_st rfl (st_move rfl) ?_
          refine t_st rfl (st_move rfl) ?_
          obtain ⟨⟨x2540, l2541, l2542, l2543⟩, hcl2544, hm⟩ := bindS hm
          have hm := (unc4E hm)
          refine t_pullb 5 rfl ?_
          refine t_pullb 5 rfl ?_
          refine t_pullb 5 rfl ?_
          refine t_pullb 5 rfl ?_
          refine t_pullb 4 rfl ?_
          refine t_front3 [_, _, _, _, _, _] hs2538 hs2443 hs2446 R rfl ?_
          refine t_front3 [_, _, _, _, _, _] hs2446 hs2538 hs2443 R rfl ?_
          refine t_front3 [_, _, _, _, _, _] hs2443 hs2446 hs2538 R rfl ?_
          refine t_out3 [_, _, _, _, _] [_] hs2538 hs2443 hs2446 R rfl ?_
          refine t_callG _ rfl call41 rfl (ih _ _ q2494 x24 x25 l29 x30 x31 l35 x2450 (put l2451 x2081 x2460) l2453 l2455 g16 g17 g18 g19 g20 v2495 A26 c27 A32 c33 A3 c4 hs2538 A8 c9 hs2443 A2447 c2448 hs2446 h2496 (h28.le (hle1912.trans (hle2080.trans (hle2438.trans hle2493)))) (h34.le (hle1912.trans (hle2080.trans (hle2438.trans hle2493)))) h2539 (h2444.le hle2493) (h2449.le hle2493) hnz2456 x2540 l2541 l2542 l2543 hcl2544) ?_
          rintro _ b2545 _ hle2546 ⟨hs2547, hs2548, A2549, c2550, hs2551, rfl, rfl, h2552, h2553, h2554, h2555, h2556, h2557⟩
          refine t_in3 [_, _, _, _, _] [_] hs2547 hs2548 hs2551 R rfl ?_
          refine t_hresp 0 rfl (o' := Cl 63 [.int .i64 (x24), .int .i64 (x25), .slice A26 (l29).length c27, .func (.func 38) #[] #[.pointer (some ⟨g17, 0, none⟩), .pointer (some ⟨g18, 0, none⟩), .pointer (some ⟨g19, 0, none⟩)], .func (.func 37) #[] #[.pointer (some ⟨g18, 0, none⟩), .pointer (some ⟨g17, 0, none⟩), .pointer (some ⟨g20, 0, none⟩), .pointer (some ⟨g19, 0, none⟩)], .slice A3 (l2541).length c4, .slice A8 (l2542).length c9]) (by simp only [h2553]) ?_
          refine t_hresp 0 rfl (o' := Cl 63 [.int .i64 (x24), .int .i64 (x25), .slice A26 (l29).length c27, .func (.func 38) #[] #[.pointer (some ⟨g17, 0, none⟩), .pointer (some ⟨g18, 0, none⟩), .pointer (some ⟨g19, 0, none⟩)], .func (.func 37) #[] #[.pointer (some ⟨g18, 0, none⟩), .pointer (some ⟨g17, 0, none⟩), .pointer (some ⟨g20, 0, none⟩), .pointer (some ⟨g19, 0, none⟩)], .slice A3 (l2541).length c4, .slice A8 (l2542).length c9]) (by simp only [h2555]) ?_
          refine t_nil ?_
          refine x_block_normal ?_
          refine x_then_normal ?_
          refine c_region ?_
          refine t_st rfl (st_add rfl rfl (by omega)) ?_
          refine t_st rfl (st_move rfl) ?_
          refine t_nil ?_
          refine x_pullb 4 rfl ?_
          refine x_pullb 4 rfl ?_
          refine x_pullb 4 rfl ?_
          refine x_pullb 4 rfl ?_
          refine x_pullb 5 rfl ?_
          refine x_pullb 5 rfl ?_
          refine x_front3 [_, _, _, _, _, _] hs2547 hs2548 hs2551 R rfl ?_
          refine x_front3 [_, _, _, _, _, _] hs2551 hs2547 hs2548 R rfl ?_
          refine x_front3 [_, _, _, _, _, _] hs2548 hs2551 hs2547 R rfl ?_
          obtain rfl := some1 hm
          exact x_againS (e' := [(0, .pointer (some ⟨g16, 0, none⟩)), (1, v22), (4, .int .i64 (x2081)), (9, .pointer (some ⟨g2202, 0, none⟩)), (84, .slice A2082 (l2085).length c2083), (85, .int .i64 ((l2085.length : Int))), (86, .int .i64 ((k2457 : Int) + 1))]) (hp' := (g16, Cl 63 [.int .i64 (x24), .int .i64 (x25), .slice A26 (l29).length c27, .func (.func 38) #[] #[.pointer (some ⟨g17, 0, none⟩), .pointer (some ⟨g18, 0, none⟩), .pointer (some ⟨g19, 0, none⟩)], .func (.func 37) #[] #[.pointer (some ⟨g18, 0, none⟩), .pointer (some ⟨g17, 0, none⟩), .pointer (some ⟨g20, 0, none⟩), .pointer (some ⟨g19, 0, none⟩)], .slice A3 (l2541).length c4, .slice A8 (l2542).length c9]) :: (g2202, Cl 29 [.int .i64 (x2192.From), .int .i64 (x2192.To), .int .i64 (x2192.Min), .int .i64 (x2192.Max), .int .i64 (x2192.Weight)]) :: (g17, Cl 24 [.int .i64 (x30), .int .i64 (x31), .slice A32 (l35).length c33]) :: (g18, Cl 30 [.slice A2549 (l2543).length c2550]) :: (g19, Cl 3 [.int .i64 (x2540)]) :: (g20, Cl 56 [.pointer (some ⟨g16, 0, none⟩)]) :: (hs2547 ++ (hs2548 ++ (hs2551 ++ R)))) ⟨rfl, rfl, rfl, rfl, rfl, rfl, rfl, trivial⟩ (.cons_cons _ (.cons_cons _ (.cons_cons _ (.cons_cons _ (.cons_cons _ (.cons_cons _ (sub_app hs2547 (sub_app hs2548 (sub_app hs2551 (.refl _)))))))))) ⟨hs2547, hs2548, A2549, c2550, hs2551, rfl, rfl, ((hle2438.trans (hle2493.trans hle2546))), h2552, (h2553.trans ((put_length _ _ _).trans hln2452)), h2554, (h2555.trans hln2454), h2556, h2557⟩
         ·
          rw [if_neg (fun hh => Bool.noConfusion (hh.symm.trans hc2521))] at hm
          refine c_skip ?_
          refine x_block_normal ?_
          refine x_then_normal ?_
          refine c_region ?_
          refine t_st rfl (st_add rfl rfl (by omega)) ?_
          refine t_st rfl (st_move rfl) ?_
          refine t_nil ?_
          refine x_pullb 5 rfl ?_
          refine x_pullb 5 rfl ?_
          refine x_pullb 5 rfl ?_
          refine x_pullb 5 rfl ?_
          refine x_pullb 5 rfl ?_
          refine x_pullb 5 rfl ?_
          refine x_front3 [_, _, _, _, _, _] hs2440 hs2443 hs2446 R rfl ?_
          refine x_front3 [_, _, _, _, _, _] hs2446 hs2440 hs2443 R rfl ?_
          refine x_front3 [_, _, _, _, _, _] hs2443 hs2446 hs2440 R rfl ?_
          obtain rfl := some1 hm
          exact x_againS (e' := [(0, .pointer (some ⟨g16, 0, none⟩)), (1, v22), (4, .int .i64 (x2081)), (9, .pointer (some ⟨g2202, 0, none⟩)), (84, .slice A2082 (l2085).length c2083), (85, .int .i64 ((l2085.length : Int))), (86, .int .i64 ((k2457 : Int) + 1))]) (hp' := (g16, Cl 63 [.int .i64 (x24), .int .i64 (x25), .slice A26 (l29).length c27, .func (.func 38) #[] #[.pointer (some ⟨g17, 0, none⟩), .pointer (some ⟨g18, 0, none⟩), .pointer (some ⟨g19, 0, none⟩)], .func (.func 37) #[] #[.pointer (some ⟨g18, 0, none⟩), .pointer (some ⟨g17, 0, none⟩), .pointer (some ⟨g20, 0, none⟩), .pointer (some ⟨g19, 0, none⟩)], .slice A3 (l2451).length c4, .slice A8 (l2453).length c9]) :: (g2202, Cl 29 [.int .i64 (x2192.From), .int .i64 (x2192.To), .int .i64 (x2192.Min), .int .i64 (x2192.Max), .int .i64 (x2192.Weight)]) :: (g17, Cl 24 [.int .i64 (x30), .int .i64 (x31), .slice A32 (l35).length c33]) :: (g18, Cl 30 [.slice A2447 (l2455).length c2448]) :: (g19, Cl 3 [.int .i64 (x2450)]) :: (g20, Cl 56 [.pointer (some ⟨g16, 0, none⟩)]) :: (hs2440 ++ (hs2443 ++ (hs2446 ++ R)))) ⟨rfl, rfl, rfl, rfl, rfl, rfl, rfl, trivial⟩ (.cons_cons _ (.cons_cons _ (.cons_cons _ (.cons_cons _ (.cons_cons _ (.cons_cons _ (sub_app hs2440 (sub_app hs2443 (sub_app hs2446 (.refl _)))))))))) ⟨hs2440, hs2443, A2447, c2448, hs2446, rfl, rfl, ((hle2438.trans hle2493)), (h2441.le hle2493), hln2452, (h2444.le hle2493), hln2454, (h2449.le hle2493), hnz2456⟩
       ·
        rintro b2437 _ _ ⟨hs2440, hs2443, A2447, c2448, hs2446, rfl, rfl, hle2438, h2441, hln2452, h2444, hln2454, h2449, hnz2456⟩
        have hm := (unc4E hk2459)
        refine c_seq ?_
        refine c_region ?_
        refine t_st rfl (st_lss_f rfl rfl (by omega)) ?_
        refine t_nil ?_
        refine x_then_normal ?_
        refine c_seq ?_
        refine c_cond_f rfl ?_
        refine c_exit ?_
        refine x_then_exit ?_
        refine x_then_exit ?_
        refine x_block_out ?_
        refine x_then_normal ?_
        refine c_region ?_
        refine t_st rfl (st_move rfl) ?_
        refine t_st rfl (st_nil rfl) ?_
        refine t_st rfl (st_field rfl fld63_4) ?_
        refine t_st rfl (st_load 0 rfl one61 rfl rfl) ?_
        refine t_st rfl (st_move rfl) ?_
        obtain ⟨x2558, h2559, hm⟩ := bindS hm
        obtain ⟨j2560, hj2561, hx2562⟩ := idx_some h2559
        obtain ⟨cs2563, hs2568, P2569, P2570, hq2571, hr2564, hcs2565, hA2566, hlt2567, hb2572, hho2573⟩ := OS.get (sz := 1) rfl (by decide) h2444 hx2562
        obtain ⟨rfl, rfl⟩ := hr2564
        refine t_st rfl (st_index_old j2560 rfl rfl hj2561 hlt2567 hA2566 sl61) ?_
        refine t_front2 [_, _, _, _, _, _] hs2440 hs2443 (hs2446 ++ R) rfl ?_
        refine t_do rfl (u_putOS hj2561 (sz := 1) (a' := true) rfl [_, _, _, _, _, _] (hs2440 ++ (hs2446 ++ R)) 0 1 [.bool (true)] rfl h2444 hx2562 rfl rfl rfl siz4 rfl (by intro u hu; simp only [List.mem_cons, List.not_mem_nil, or_false] at hu; subst hu; rfl) (fun cs hsj hh => by obtain ⟨rfl, rfl⟩ := hh; exact ⟨by decide, rfl, rfl⟩)) ?_
        rintro _ _ ⟨hs2574, rfl, h2575⟩
        refine t_hresp 0 rfl (o' := Cl 63 [.int .i64 (x24), .int .i64 (x25), .slice A26 (l29).length c27, .func (.func 38) #[] #[.pointer (some ⟨g17, 0, none⟩), .pointer (some ⟨g18, 0, none⟩), .pointer (some ⟨g19, 0, none⟩)], .func (.func 37) #[] #[.pointer (some ⟨g18, 0, none⟩), .pointer (some ⟨g17, 0, none⟩), .pointer (some ⟨g20, 0, none⟩), .pointer (some ⟨g19, 0, none⟩)], .slice A3 (l2451).length c4, .slice A8 (put l2453 x2081 true).length c9]) (by simp only [put_length]) ?_
        refine t_nil ?_
        obtain ⟨rfl, rfl, rfl, rfl⟩ := some4 hm
        refine x_pullb 5 rfl ?_
        refine x_pullb 5 rfl ?_
        refine x_pullb 5 rfl ?_
        refine x_pullb 5 rfl ?_
        refine x_pullb 4 rfl ?_
        refine x_front3 [_, _, _, _, _, _] hs2574 hs2440 hs2446 R rfl ?_
        refine x_front2 [_, _, _, _, _, _] hs2446 hs2574 (hs2440 ++ R) rfl ?_
        refine x_front3 [_, _, _, _, _, _] hs2574 hs2446 hs2440 R rfl ?_
        exact endM (hle1912.trans (hle2080.trans hle2438)) rfl (.cons_cons _ (.cons_cons _ (.cons_cons _ (.cons_cons _ (.cons_cons _ (.cons _ (sub_app hs2440 (sub_app hs2574 (sub_app hs2446 (.refl _)))))))))) ⟨hs2440, hs2574, A2447, c2448, hs2446, rfl, rfl, h2441, hln2452, h2575, ((put_length _ _ _).trans hln2454), h2449, hnz2456⟩

end Go.Proofs.Ytdphlkddelnaiaa
