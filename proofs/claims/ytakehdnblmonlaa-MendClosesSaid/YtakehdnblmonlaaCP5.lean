/- Contracts: the code computes its model (part 5). -/
import Derived.Test.YtakehdnblmonlaaCP4
set_option linter.unusedVariables false
set_option linter.unusedSimpArgs false
namespace Go.Proofs.Ytakehdnblmonlaa
open Go.RowKit Go.Fp

set_option maxRecDepth 20000 in
theorem cMendRoundRing (b : Base) (R : Hp) (s1 : MendRound) (A2 : Option Addr) (c3 : Nat) (A5 : Option Addr) (c6 : Nat) (h4 : FZ (RT.int .i64) b.w A2 c3 s1.Plan) (h7 : FZ rMendLink b.w A5 c6 s1.Links) (x2058 : Bool) (hm : mMendRoundRing s1 = some x2058) :
    CallsG Try.prog 67 [.agg #[.int .i64 (s1.Period), .slice A2 (s1.Plan).length c3, .slice A5 (s1.Links).length c6]] b (R) (fun v b' hp' => .bool (x2058) = v ∧ R = hp') := by
  refine fn_enterG 54 Try.func67 rfl Try.ntmps67 rfl ?_
  unfold mMendRoundRing at hm
  refine c_seq ?_
  refine c_region ?_
  refine t_do rfl (u_box _ rfl rfl) ?_
  rintro _ _ ⟨g2059, rfl, rfl⟩
  refine t_st rfl (st_assign rfl) ?_
  refine t_nil ?_
  refine x_then_normal ?_
  refine c_seq ?_
  refine c_region ?_
  refine t_st rfl (st_field rfl fld54_1) ?_
  refine t_st rfl (st_load 0 rfl one22 rfl rfl) ?_
  refine t_st rfl (st_len rfl sl22) ?_
  obtain ⟨m2060, h2061, hm⟩ := bindS hm
  have h2061 := mkLen_some h2061
  refine t_do rfl (u_mkOS (r := (RT.int .i64)) [_] R [.int .i64 (0)] 0 m2060 rfl h2061.1 rfl rfl sl22 inf3 rfl rfl rfl (by decide) rfl h2061.2.1 h2061.2.2) ?_
  rintro _ _ ⟨hs2062, rfl, h2063⟩
  obtain ⟨A2064, c2065, rfl, _⟩ := h2063.form
  refine t_st rfl (st_assign rfl) ?_
  refine t_nil ?_
  refine x_then_normal ?_
  refine c_seq ?_
  refine c_seq ?_
  refine c_region ?_
  refine t_st rfl (st_field rfl fld54_1) ?_
  refine t_st rfl (st_load 0 rfl one22 rfl rfl) ?_
  refine t_st rfl (st_len rfl sl22) ?_
  obtain ⟨_, h2066, hm⟩ := bindS hm
  have h2066 := (chk_some h2066).2
  refine t_st rfl (st_add rfl rfl h2066) ?_
  refine t_st rfl (st_move rfl) ?_
  refine t_nil ?_
  refine x_then_normal ?_
  refine c_block ?_
  obtain ⟨_, h2068, hm⟩ := bindS hm
  have h2068 := (chk_some h2068).2
  obtain ⟨t3430, hl3431, hk3432⟩ := bindS hm
  refine c_forM (fun k3429 => fun l3427 => fun b3422 e' hp' => ∃ (hs3425 : Hp), [(1, .pointer (some ⟨g2059, 0, none⟩)), (3, .slice A2064 (l3427).length c2065), (14, .int .i64 ((s1.Plan.length : Int) + 1)), (15, .int .i64 ((k3429 : Int)))] = e' ∧ (g2059, Cl 54 [.int .i64 (s1.Period), .slice A2 (s1.Plan).length c3, .slice A5 (s1.Links).length c6]) :: (hs3425 ++ R) = hp' ∧ b.Le b3422 ∧ OS 3 (OT.fr (RT.int .i64)) b3422.w (.slice A2064 l3427.length c2065) l3427 hs3425 ∧ l3427.length = m2060) hl3431 (e' := [(1, .pointer (some ⟨g2059, 0, none⟩)), (3, .slice A2064 (List.replicate m2060 (0 : Int)).length c2065), (14, .int .i64 ((s1.Plan.length : Int) + 1)), (15, .int .i64 0)]) (hp' := (g2059, Cl 54 [.int .i64 (s1.Period), .slice A2 (s1.Plan).length c3, .slice A5 (s1.Links).length c6]) :: (hs2062 ++ R)) ⟨rfl, rfl, rfl, rfl, trivial⟩ (.cons_cons _ (sub_app hs2062 (.refl _))) ⟨hs2062, rfl, rfl, (Base.Le.refl _), h2063, List.length_replicate⟩ ?_ ?_
  ·
    rintro k3429 l3427 b3422 _ _ oL2067 hknL2067 ⟨hs3425, rfl, rfl, hle3423, h3426, hln3428⟩ hstepL2067 houtL2067
    unfold mMendRoundRing_L2067 at hstepL2067
    have hm := hstepL2067
    refine c_seq ?_
    refine c_region ?_
    refine t_st rfl (st_lss_t rfl rfl (by omega)) ?_
    refine t_nil ?_
    refine x_then_normal ?_
    refine c_seq ?_
    refine c_cond_t rfl ?_
    refine c_skip ?_
    refine x_then_normal ?_
    refine c_seq ?_
    refine c_block ?_
    refine c_seq ?_
    refine c_region ?_
    refine t_st rfl (st_assign rfl) ?_
    refine t_nil ?_
    refine x_then_normal ?_
    refine c_seq ?_
    refine c_seq ?_
    refine c_region ?_
    refine t_st rfl (st_field rfl fld54_2) ?_
    refine t_st rfl (st_load 0 rfl one52 rfl rfl) ?_
    refine t_st rfl (st_len rfl sl52) ?_
    refine t_st rfl (st_move rfl) ?_
    refine t_nil ?_
    refine x_then_normal ?_
    refine c_block ?_
    have hb3434 := (FZ.bd (h7.le hle3423))
    obtain ⟨⟨x3882, l3883⟩, hl3886, hk3887⟩ := bindS hm
    refine c_forS (fun k3885 => unc2 fun x3882 l3883 => fun b3877 e' hp' => ∃ (hs3880 : Hp), [(1, .pointer (some ⟨g2059, 0, none⟩)), (3, .slice A2064 (l3883).length c2065), (4, .bool (x3882)), (14, .int .i64 ((s1.Plan.length : Int) + 1)), (15, .int .i64 ((k3429 : Int))), (18, .slice A5 (s1.Links).length c6), (19, .int .i64 ((s1.Links.length : Int))), (20, .int .i64 ((k3885 : Int)))] = e' ∧ (g2059, Cl 54 [.int .i64 (s1.Period), .slice A2 (s1.Plan).length c3, .slice A5 (s1.Links).length c6]) :: (hs3880 ++ R) = hp' ∧ b3422.Le b3877 ∧ OS 3 (OT.fr (RT.int .i64)) b3877.w (.slice A2064 l3883.length c2065) l3883 hs3880 ∧ l3883.length = m2060) hl3886 (e' := [(1, .pointer (some ⟨g2059, 0, none⟩)), (3, .slice A2064 (l3427).length c2065), (4, .bool (false)), (14, .int .i64 ((s1.Plan.length : Int) + 1)), (15, .int .i64 ((k3429 : Int))), (18, .slice A5 (s1.Links).length c6), (19, .int .i64 ((s1.Links.length : Int))), (20, .int .i64 0)]) (hp' := (g2059, Cl 54 [.int .i64 (s1.Period), .slice A2 (s1.Plan).length c3, .slice A5 (s1.Links).length c6]) :: (hs3425 ++ R)) ⟨rfl, rfl, rfl, rfl, rfl, rfl, rfl, rfl, trivial⟩ (.cons_cons _ (sub_app hs3425 (.refl _))) ⟨hs3425, rfl, rfl, (Base.Le.refl _), h3426, hln3428⟩ ?_ ?_
    ·
      rintro k3885 ⟨x3882, l3883⟩ b3877 _ _ oL3433 hknL3433 ⟨hs3880, rfl, rfl, hle3878, h3881, hln3884⟩ hstepL3433
      unfold mMendRoundRing_L3433 at hstepL3433
      have hm := (unc2E hstepL3433)
      refine c_seq ?_
      refine c_region ?_
      refine t_st rfl (st_lss_t rfl rfl (by omega)) ?_
      refine t_nil ?_
      refine x_then_normal ?_
      refine c_seq ?_
      refine c_cond_t rfl ?_
      refine c_skip ?_
      refine x_then_normal ?_
      refine c_seq ?_
      refine c_block ?_
      refine c_seq ?_
      refine c_region ?_
      obtain ⟨x3888, h3889, hm⟩ := bindS hm
      obtain ⟨j3890, hj3891, hx3892⟩ := idx_some h3889
      obtain ⟨cs3893, hr3894, hcs3895, hA3896, hlt3897⟩ := FZ.get (sz := 4) rfl (by decide) (h7.le (hle3423.trans hle3878)) hx3892
      obtain ⟨_, _, rfl, rfl, ⟨_, _, rfl, rfl, ⟨_, _, rfl, rfl, rfl⟩⟩⟩ := hr3894
      refine t_st rfl (st_index_old j3890 rfl rfl hj3891 hlt3897 hA3896 sl52) ?_
      refine t_st rfl (st_loadN_old (vs := [.int .i64 (x3888.From), .int .i64 (x3888.To), .int .i64 (x3888.Len), .int .i64 (x3888.Back)]) 4 rfl agg83 hA3896 rfl (fun j u hu => hcs3895 j u hu)) ?_
      refine t_do rfl (u_alloc [.int .i64 0, .int .i64 0, .int .i64 0, .int .i64 0] zero83 rfl) ?_
      rintro _ _ ⟨g3898, rfl, rfl⟩
      refine t_do rfl (u_storeN (vs := [_, _, _, _]) 0 4 rfl rfl rfl siz83 rfl (by intro u hu; simp only [List.mem_cons, List.not_mem_nil, or_false] at hu; rcases hu with rfl | rfl | rfl | rfl <;> rfl) rfl (by simp)) ?_
      rintro _ _ rfl
      refine t_nil ?_
      refine x_then_normal ?_
      obtain ⟨x3967, hj3968, hk3968⟩ := bindS hm
      refine c_join (fun b3965 e' hp' => [(1, .pointer (some ⟨g2059, 0, none⟩)), (3, .slice A2064 (l3883).length c2065), (4, .bool (x3882)), (6, .pointer (some ⟨g3898, 0, none⟩)), (14, .int .i64 ((s1.Plan.length : Int) + 1)), (15, .int .i64 ((k3429 : Int))), (18, .slice A5 (s1.Links).length c6), (19, .int .i64 ((s1.Links.length : Int))), (20, .int .i64 ((k3885 : Int))), (39, .bool (x3967))] = e' ∧ (g2059, Cl 54 [.int .i64 (s1.Period), .slice A2 (s1.Plan).length c3, .slice A5 (s1.Links).length c6]) :: (g3898, Cl 83 [.int .i64 (x3888.From), .int .i64 (x3888.To), .int .i64 (x3888.Len), .int .i64 (x3888.Back)]) :: (hs3880 ++ R) = hp' ∧ b3877.Le b3965) ?_ ?_
      ·
        have hm := hj3968
        by_cases hc4002 : x3888.Back = 0
        ·
          rw [if_pos hc4002] at hm
          obtain ⟨x4003, h4004, hm⟩ := bindS hm
          obtain ⟨x4019, h4020, hm⟩ := bindS hm
          refine D_drawS ((g3898, Cl 83 [.int .i64 (x3888.From), .int .i64 (x3888.To), .int .i64 (x3888.Len), .int .i64 (x3888.Back)]) :: (g2059, Cl 54 [.int .i64 (s1.Period), .slice A2 (s1.Plan).length c3, .slice A5 (s1.Links).length c6]) :: (hs3880 ++ R)) mixed ?_
          refine D_st (Base.Le.refl _) 0 rfl (by kernel_rfl) (by kernel_rfl) (by kernel_rfl) rfl (st_field rfl fld83_3) (.cons_cons _ (.cons_cons _ (sub_app hs3880 (.refl _)))) ?_
          refine D_st (Base.Le.refl _) 1 rfl (by kernel_rfl) (by kernel_rfl) (by kernel_rfl) rfl (st_load 0 rfl one3 rfl rfl) (.cons_cons _ (.cons_cons _ (sub_app hs3880 (.refl _)))) ?_
          refine D_st (Base.Le.refl _) 2 rfl (by kernel_rfl) (by kernel_rfl) (by kernel_rfl) rfl (st_eql_t rfl rfl hc4002) (.cons_cons _ (.cons_cons _ (sub_app hs3880 (.refl _)))) ?_
          refine D_st (Base.Le.refl _) 3 rfl (by kernel_rfl) (by kernel_rfl) (by kernel_rfl) rfl (st_move rfl) (.cons_cons _ (.cons_cons _ (sub_app hs3880 (.refl _)))) ?_
          refine D_yes (Base.Le.refl _) 4 27 rfl (by kernel_rfl) (by kernel_rfl) (by kernel_rfl) rfl rfl rfl rfl (st_move rfl) (.cons_cons _ (.cons_cons _ (sub_app hs3880 (.refl _)))) ?_
          refine D_yes (Base.Le.refl _) 5 27 rfl (by kernel_rfl) (by kernel_rfl) (by kernel_rfl) rfl rfl rfl rfl (st_field rfl fld83_1) (.cons_cons _ (.cons_cons _ (sub_app hs3880 (.refl _)))) ?_
          refine D_yes (Base.Le.refl _) 6 27 rfl (by kernel_rfl) (by kernel_rfl) (by kernel_rfl) rfl rfl rfl rfl (st_load 0 rfl one3 rfl rfl) (.cons_cons _ (.cons_cons _ (sub_app hs3880 (.refl _)))) ?_
          obtain ⟨j4005, hj4006, hx4007⟩ := idx_some h4004
          obtain ⟨cs4008, hs4013, P4014, P4015, hq4016, hr4009, hcs4010, hA4011, hlt4012, hb4017, hho4018⟩ := OS.get (sz := 1) rfl (by decide) h3881 hx4007
          obtain ⟨rfl, rfl⟩ := hr4009
          refine D_yes (Base.Le.refl _) 7 27 rfl (by kernel_rfl) (by kernel_rfl) (by kernel_rfl) rfl rfl rfl rfl (st_index_old j4005 rfl rfl hj4006 hlt4012 hA4011 sl22) (.cons_cons _ (.cons_cons _ (sub_app hs3880 (.refl _)))) ?_
          refine D_yes (Base.Le.refl _) 8 27 rfl (by kernel_rfl) (by kernel_rfl) (by kernel_rfl) rfl rfl rfl rfl (st_load_rd rfl one3 (fun w ho => hcs4010 w _ ho (.cons _ (.cons _ (List.sublist_append_left _ _))) 0 _ rfl)) (.cons_cons _ (.cons_cons _ (sub_app hs3880 (.refl _)))) ?_
          refine D_yes (Base.Le.refl _) 9 27 rfl (by kernel_rfl) (by kernel_rfl) (by kernel_rfl) rfl rfl rfl rfl (st_move rfl) (.cons_cons _ (.cons_cons _ (sub_app hs3880 (.refl _)))) ?_
          refine D_yes (Base.Le.refl _) 10 27 rfl (by kernel_rfl) (by kernel_rfl) (by kernel_rfl) rfl rfl rfl rfl (st_field rfl fld83_0) (.cons_cons _ (.cons_cons _ (sub_app hs3880 (.refl _)))) ?_
          refine D_yes (Base.Le.refl _) 11 27 rfl (by kernel_rfl) (by kernel_rfl) (by kernel_rfl) rfl rfl rfl rfl (st_load 0 rfl one3 rfl rfl) (.cons_cons _ (.cons_cons _ (sub_app hs3880 (.refl _)))) ?_
          obtain ⟨j4021, hj4022, hx4023⟩ := idx_some h4020
          obtain ⟨cs4024, hs4029, P4030, P4031, hq4032, hr4025, hcs4026, hA4027, hlt4028, hb4033, hho4034⟩ := OS.get (sz := 1) rfl (by decide) h3881 hx4023
          obtain ⟨rfl, rfl⟩ := hr4025
          refine D_yes (Base.Le.refl _) 12 27 rfl (by kernel_rfl) (by kernel_rfl) (by kernel_rfl) rfl rfl rfl rfl (st_index_old j4021 rfl rfl hj4022 hlt4028 hA4027 sl22) (.cons_cons _ (.cons_cons _ (sub_app hs3880 (.refl _)))) ?_
          refine D_yes (Base.Le.refl _) 13 27 rfl (by kernel_rfl) (by kernel_rfl) (by kernel_rfl) rfl rfl rfl rfl (st_load_rd rfl one3 (fun w ho => hcs4026 w _ ho (.cons _ (.cons _ (List.sublist_append_left _ _))) 0 _ rfl)) (.cons_cons _ (.cons_cons _ (sub_app hs3880 (.refl _)))) ?_
          refine D_yes (Base.Le.refl _) 14 27 rfl (by kernel_rfl) (by kernel_rfl) (by kernel_rfl) rfl rfl rfl rfl (st_leq rfl rfl) (.cons_cons _ (.cons_cons _ (sub_app hs3880 (.refl _)))) ?_
          refine D_st (Base.Le.refl _) 15 rfl (by kernel_rfl) (by kernel_rfl) (by kernel_rfl) rfl (st_pick_t rfl rfl) (.cons_cons _ (.cons_cons _ (sub_app hs3880 (.refl _)))) ?_
          refine D_done (by kernel_rfl) ?_
          obtain rfl := some1 hm
          refine x_pullb 1 rfl ?_
          exact x_join (e' := [(1, .pointer (some ⟨g2059, 0, none⟩)), (3, .slice A2064 (l3883).length c2065), (4, .bool (x3882)), (6, .pointer (some ⟨g3898, 0, none⟩)), (14, .int .i64 ((s1.Plan.length : Int) + 1)), (15, .int .i64 ((k3429 : Int))), (18, .slice A5 (s1.Links).length c6), (19, .int .i64 ((s1.Links.length : Int))), (20, .int .i64 ((k3885 : Int))), (39, .bool (decide (x4003 ≤ x4019)))]) (hp' := (g2059, Cl 54 [.int .i64 (s1.Period), .slice A2 (s1.Plan).length c3, .slice A5 (s1.Links).length c6]) :: (g3898, Cl 83 [.int .i64 (x3888.From), .int .i64 (x3888.To), .int .i64 (x3888.Len), .int .i64 (x3888.Back)]) :: (hs3880 ++ R)) ⟨rfl, rfl, rfl, rfl, rfl, rfl, rfl, rfl, rfl, rfl, trivial⟩ (.cons_cons _ (.cons_cons _ (sub_app hs3880 (.refl _)))) ⟨rfl, rfl, (Base.Le.refl _)⟩
        ·
          rw [if_neg hc4002] at hm
          refine D_drawS ((g3898, Cl 83 [.int .i64 (x3888.From), .int .i64 (x3888.To), .int .i64 (x3888.Len), .int .i64 (x3888.Back)]) :: (g2059, Cl 54 [.int .i64 (s1.Period), .slice A2 (s1.Plan).length c3, .slice A5 (s1.Links).length c6]) :: (hs3880 ++ R)) mixed ?_
          refine D_st (Base.Le.refl _) 0 rfl (by kernel_rfl) (by kernel_rfl) (by kernel_rfl) rfl (st_field rfl fld83_3) (.cons_cons _ (.cons_cons _ (sub_app hs3880 (.refl _)))) ?_
          refine D_st (Base.Le.refl _) 1 rfl (by kernel_rfl) (by kernel_rfl) (by kernel_rfl) rfl (st_load 0 rfl one3 rfl rfl) (.cons_cons _ (.cons_cons _ (sub_app hs3880 (.refl _)))) ?_
          refine D_st (Base.Le.refl _) 2 rfl (by kernel_rfl) (by kernel_rfl) (by kernel_rfl) rfl (st_eql_f rfl rfl hc4002) (.cons_cons _ (.cons_cons _ (sub_app hs3880 (.refl _)))) ?_
          refine D_st (Base.Le.refl _) 3 rfl (by kernel_rfl) (by kernel_rfl) (by kernel_rfl) rfl (st_move rfl) (.cons_cons _ (.cons_cons _ (sub_app hs3880 (.refl _)))) ?_
          refine D_no (Base.Le.refl _) 4 27 rfl (by kernel_rfl) (by kernel_rfl) (by kernel_rfl) rfl rfl rfl rfl rfl (.cons_cons _ (.cons_cons _ (sub_app hs3880 (.refl _)))) ?_
          refine D_no (Base.Le.refl _) 5 27 rfl (by kernel_rfl) (by kernel_rfl) (by kernel_rfl) rfl rfl rfl rfl rfl (.cons_cons _ (.cons_cons _ (sub_app hs3880 (.refl _)))) ?_
          refine D_no (Base.Le.refl _) 6 27 rfl (by kernel_rfl) (by kernel_rfl) (by kernel_rfl) rfl rfl rfl rfl rfl (.cons_cons _ (.cons_cons _ (sub_app hs3880 (.refl _)))) ?_
          refine D_no (Base.Le.refl _) 7 27 rfl (by kernel_rfl) (by kernel_rfl) (by kernel_rfl) rfl rfl rfl rfl rfl (.cons_cons _ (.cons_cons _ (sub_app hs3880 (.refl _)))) ?_
          refine D_no (Base.Le.refl _) 8 27 rfl (by kernel_rfl) (by kernel_rfl) (by kernel_rfl) rfl rfl rfl rfl rfl (.cons_cons _ (.cons_cons _ (sub_app hs3880 (.refl _)))) ?_
          refine D_no (Base.Le.refl _) 9 27 rfl (by kernel_rfl) (by kernel_rfl) (by kernel_rfl) rfl rfl rfl rfl rfl (.cons_cons _ (.cons_cons _ (sub_app hs3880 (.refl _)))) ?_
          refine D_no (Base.Le.refl _) 10 27 rfl (by kernel_rfl) (by kernel_rfl) (by kernel_rfl) rfl rfl rfl rfl rfl (.cons_cons _ (.cons_cons _ (sub_app hs3880 (.refl _)))) ?_
          refine D_no (Base.Le.refl _) 11 27 rfl (by kernel_rfl) (by kernel_rfl) (by kernel_rfl) rfl rfl rfl rfl rfl (.cons_cons _ (.cons_cons _ (sub_app hs3880 (.refl _)))) ?_
          refine D_no (Base.Le.refl _) 12 27 rfl (by kernel_rfl) (by kernel_rfl) (by kernel_rfl) rfl rfl rfl rfl rfl (.cons_cons _ (.cons_cons _ (sub_app hs3880 (.refl _)))) ?_
          refine D_no (Base.Le.refl _) 13 27 rfl (by kernel_rfl) (by kernel_rfl) (by kernel_rfl) rfl rfl rfl rfl rfl (.cons_cons _ (.cons_cons _ (sub_app hs3880 (.refl _)))) ?_
          refine D_no (Base.Le.refl _) 14 27 rfl (by kernel_rfl) (by kernel_rfl) (by kernel_rfl) rfl rfl rfl rfl rfl (.cons_cons _ (.cons_cons _ (sub_app hs3880 (.refl _)))) ?_
          refine D_st (Base.Le.refl _) 15 rfl (by kernel_rfl) (by kernel_rfl) (by kernel_rfl) rfl (st_pick_f rfl rfl) (.cons_cons _ (.cons_cons _ (sub_app hs3880 (.refl _)))) ?_
          refine D_done (by kernel_rfl) ?_
          obtain rfl := some1 hm
          refine x_pullb 1 rfl ?_
          exact x_join (e' := [(1, .pointer (some ⟨g2059, 0, none⟩)), (3, .slice A2064 (l3883).length c2065), (4, .bool (x3882)), (6, .pointer (some ⟨g3898, 0, none⟩)), (14, .int .i64 ((s1.Plan.length : Int) + 1)), (15, .int .i64 ((k3429 : Int))), (18, .slice A5 (s1.Links).length c6), (19, .int .i64 ((s1.Links.length : Int))), (20, .int .i64 ((k3885 : Int))), (39, .bool (false))]) (hp' := (g2059, Cl 54 [.int .i64 (s1.Period), .slice A2 (s1.Plan).length c3, .slice A5 (s1.Links).length c6]) :: (g3898, Cl 83 [.int .i64 (x3888.From), .int .i64 (x3888.To), .int .i64 (x3888.Len), .int .i64 (x3888.Back)]) :: (hs3880 ++ R)) ⟨rfl, rfl, rfl, rfl, rfl, rfl, rfl, rfl, rfl, rfl, trivial⟩ (.cons_cons _ (.cons_cons _ (sub_app hs3880 (.refl _)))) ⟨rfl, rfl, (Base.Le.refl _)⟩
      ·
        rintro b3965 _ _ ⟨rfl, rfl, hle3966⟩
        have hm := hk3968
        refine c_cond _ rfl (fun hc4035 => ?_) (fun hc4035 => ?_)
        ·
          rw [if_pos hc4035] at hm
          obtain ⟨x4071, h4072, hm⟩ := bindS hm
          obtain ⟨_, h4087, hm⟩ := bindS hm
          obtain ⟨x4088, h4089, hm⟩ := bindS hm
          refine D_drawS ((g2059, Cl 54 [.int .i64 (s1.Period), .slice A2 (s1.Plan).length c3, .slice A5 (s1.Links).length c6]) :: (g3898, Cl 83 [.int .i64 (x3888.From), .int .i64 (x3888.To), .int .i64 (x3888.Len), .int .i64 (x3888.Back)]) :: R) mixed ?_
          refine D_st (Base.Le.refl _) 0 rfl (by kernel_rfl) (by kernel_rfl) (by kernel_rfl) rfl (st_move rfl) (.cons_cons _ (.cons_cons _ (sub_skip hs3880 (.refl _)))) ?_
          refine D_st (Base.Le.refl _) 1 rfl (by kernel_rfl) (by kernel_rfl) (by kernel_rfl) rfl (st_field rfl fld83_1) (.cons_cons _ (.cons_cons _ (sub_skip hs3880 (.refl _)))) ?_
          refine D_st (Base.Le.refl _) 2 rfl (by kernel_rfl) (by kernel_rfl) (by kernel_rfl) rfl (st_load 1 rfl one3 rfl rfl) (.cons_cons _ (.cons_cons _ (sub_skip hs3880 (.refl _)))) ?_
          refine D_st (Base.Le.refl _) 3 rfl (by kernel_rfl) (by kernel_rfl) (by kernel_rfl) rfl (st_move rfl) (.cons_cons _ (.cons_cons _ (sub_skip hs3880 (.refl _)))) ?_
          refine D_st (Base.Le.refl _) 4 rfl (by kernel_rfl) (by kernel_rfl) (by kernel_rfl) rfl (st_field rfl fld83_0) (.cons_cons _ (.cons_cons _ (sub_skip hs3880 (.refl _)))) ?_
          refine D_st (Base.Le.refl _) 5 rfl (by kernel_rfl) (by kernel_rfl) (by kernel_rfl) rfl (st_load 1 rfl one3 rfl rfl) (.cons_cons _ (.cons_cons _ (sub_skip hs3880 (.refl _)))) ?_
          obtain ⟨j4073, hj4074, hx4075⟩ := idx_some h4072
          obtain ⟨cs4076, hs4081, P4082, P4083, hq4084, hr4077, hcs4078, hA4079, hlt4080, hb4085, hho4086⟩ := OS.get (sz := 1) rfl (by decide) (h3881.le hle3966) hx4075
          obtain ⟨rfl, rfl⟩ := hr4077
          refine D_st (Base.Le.refl _) 6 rfl (by kernel_rfl) (by kernel_rfl) (by kernel_rfl) rfl (st_index_old j4073 rfl rfl hj4074 hlt4080 hA4079 sl22) (.cons_cons _ (.cons_cons _ (sub_skip hs3880 (.refl _)))) ?_
          refine D_all [7] (by kernel_rfl) rfl ?_
          refine R_do (Base.Le.refl _) rfl rfl (Stable.does (st_load_rd rfl one3 (fun w ho => hcs4078 w _ ho (.cons _ (.cons _ (List.sublist_append_left _ _))) 0 _ rfl))) ?_ ?_
          ·
            rintro _ _ ⟨rfl, rfl⟩
            refine ⟨.inr (.cons_cons _ (.cons_cons _ (sub_skip hs3880 (.refl _)))), ?_⟩
            have h4087 := (chk_some h4087).2
            refine D_st (Base.Le.refl _) 8 rfl (by kernel_rfl) (by kernel_rfl) (by kernel_rfl) rfl (st_add rfl rfl h4087) (.cons_cons _ (.cons_cons _ (sub_skip hs3880 (.refl _)))) ?_
            obtain ⟨j4090, hj4091, hx4092⟩ := idx_some h4089
            obtain ⟨cs4093, hs4098, P4099, P4100, hq4101, hr4094, hcs4095, hA4096, hlt4097, hb4102, hho4103⟩ := OS.get (sz := 1) rfl (by decide) (h3881.le hle3966) hx4092
            obtain ⟨rfl, rfl⟩ := hr4094
            refine D_st (Base.Le.refl _) 9 rfl (by kernel_rfl) (by kernel_rfl) (by kernel_rfl) rfl (st_index_old j4090 rfl rfl hj4091 hlt4097 hA4096 sl22) (.cons_cons _ (.cons_cons _ (sub_skip hs3880 (.refl _)))) ?_
            refine D_all [10] (by kernel_rfl) rfl ?_
            refine R_do (Base.Le.refl _) rfl rfl (u_putOS hj4091 (sz := 1) (a' := x4071 + 1) rfl [_, _] R 0 1 [.int .i64 (x4071 + 1)] rfl (h3881.le hle3966) hx4092 rfl rfl rfl siz3 rfl (by intro u hu; simp only [List.mem_cons, List.not_mem_nil, or_false] at hu; subst hu; rfl) (fun cs hsj hh => by obtain ⟨rfl, rfl⟩ := hh; exact ⟨by decide, rfl, rfl⟩)) ?_ ?_
            ·
              rintro _ _ ⟨hs4104, rfl, h4105⟩
              refine ⟨.inr (.cons_cons _ (.cons_cons _ (sub_skip hs4104 (.refl _)))), ?_⟩
              refine d_resp 3 rfl (v' := .slice A2064 (put l3883 x3888.To (x4071 + 1)).length c2065) (by simp only [put_length]) ?_
              refine D_st (Base.Le.refl _) 11 rfl (by kernel_rfl) (by kernel_rfl) (by kernel_rfl) rfl (st_assign rfl) (.cons_cons _ (.cons_cons _ (sub_skip hs4104 (.refl _)))) ?_
              refine D_done (by kernel_rfl) ?_
              refine x_block_normal ?_
              refine x_then_normal ?_
              refine c_region ?_
              refine t_st rfl (st_add rfl rfl (by omega)) ?_
              refine t_st rfl (st_move rfl) ?_
              refine t_nil ?_
              obtain rfl := some1 hm
              exact x_againS (e' := [(1, .pointer (some ⟨g2059, 0, none⟩)), (3, .slice A2064 (put l3883 x3888.To (x4071 + 1)).length c2065), (4, .bool (true)), (14, .int .i64 ((s1.Plan.length : Int) + 1)), (15, .int .i64 ((k3429 : Int))), (18, .slice A5 (s1.Links).length c6), (19, .int .i64 ((s1.Links.length : Int))), (20, .int .i64 ((k3885 : Int) + 1))]) (hp' := (g2059, Cl 54 [.int .i64 (s1.Period), .slice A2 (s1.Plan).length c3, .slice A5 (s1.Links).length c6]) :: (hs4104 ++ R)) ⟨rfl, rfl, rfl, rfl, rfl, rfl, rfl, rfl, trivial⟩ (.cons_cons _ (.cons _ (sub_app hs4104 (.refl _)))) ⟨hs4104, rfl, rfl, ((hle3878.trans hle3966)), h4105, ((put_length _ _ _).trans hln3884)⟩
            exact R_nil
          exact R_nil
        ·
          rw [if_neg (fun hh => Bool.noConfusion (hh.symm.trans hc4035))] at hm
          refine c_skip ?_
          refine x_block_normal ?_
          refine x_then_normal ?_
          refine c_region ?_
          refine t_st rfl (st_add rfl rfl (by omega)) ?_
          refine t_st rfl (st_move rfl) ?_
          refine t_nil ?_
          obtain rfl := some1 hm
          exact x_againS (e' := [(1, .pointer (some ⟨g2059, 0, none⟩)), (3, .slice A2064 (l3883).length c2065), (4, .bool (x3882)), (14, .int .i64 ((s1.Plan.length : Int) + 1)), (15, .int .i64 ((k3429 : Int))), (18, .slice A5 (s1.Links).length c6), (19, .int .i64 ((s1.Links.length : Int))), (20, .int .i64 ((k3885 : Int) + 1))]) (hp' := (g2059, Cl 54 [.int .i64 (s1.Period), .slice A2 (s1.Plan).length c3, .slice A5 (s1.Links).length c6]) :: (hs3880 ++ R)) ⟨rfl, rfl, rfl, rfl, rfl, rfl, rfl, rfl, trivial⟩ (.cons_cons _ (.cons _ (sub_app hs3880 (.refl _)))) ⟨hs3880, rfl, rfl, ((hle3878.trans hle3966)), (h3881.le hle3966), hln3884⟩
    ·
      rintro b3877 _ _ ⟨hs3880, rfl, rfl, hle3878, h3881, hln3884⟩
      have hm := (unc2E hk3887)
      refine c_seq ?_
      refine c_region ?_
      refine t_st rfl (st_lss_f rfl rfl (by omega)) ?_
      refine t_nil ?_
      refine x_then_normal ?_
      refine c_seq ?_
      refine c_cond_f rfl ?_
      refine c_exit ?_
      refine x_then_exit ?_
      refine x_then_exit ?_
      refine x_block_out ?_
      refine x_then_normal ?_
      refine c_seq ?_
      refine c_region ?_
      refine t_st rfl (st_move rfl) ?_
      refine t_st rfl (st_not rfl) ?_
      refine t_nil ?_
      refine x_then_normal ?_
      refine c_cond _ rfl (fun hc4106 => ?_) (fun hc4106 => ?_)
      ·
        rw [if_neg (fun hh => Bool.noConfusion (hh.symm.trans (notT hc4106)))] at hm
        refine c_seq ?_
        refine c_region ?_
        refine t_st rfl (st_assign rfl) ?_
        refine t_nil ?_
        refine x_then_normal ?_
        refine c_ret ?_
        refine x_block_ret ?_
        refine x_then_ret ?_
        refine x_then_ret ?_
        refine x_block_ret ?_
        refine x_then_ret ?_
        have hq4107 := houtL2067 _ (Option.some.inj hm).symm
        rw [hq4107] at hk3432
        have hm := elimR hk3432
        obtain rfl := some1 hm
        exact retM (rs := [.tmp 2]) [.bool (false)] (hle3423.trans hle3878) (by decide) rfl ⟨rfl, trivial⟩ rfl (hp' := R) (.cons _ (sub_skip hs3880 (.refl _))) ⟨rfl, rfl⟩
      ·
        rw [if_pos (notF hc4106)] at hm
        refine c_skip ?_
        refine x_block_normal ?_
        refine x_then_normal ?_
        refine c_region ?_
        refine t_st rfl (st_add rfl rfl (by omega)) ?_
        refine t_st rfl (st_move rfl) ?_
        refine t_nil ?_
        exact x_againM l3883 (Option.some.inj hm).symm (e' := [(1, .pointer (some ⟨g2059, 0, none⟩)), (3, .slice A2064 (l3883).length c2065), (14, .int .i64 ((s1.Plan.length : Int) + 1)), (15, .int .i64 ((k3429 : Int) + 1))]) (hp' := (g2059, Cl 54 [.int .i64 (s1.Period), .slice A2 (s1.Plan).length c3, .slice A5 (s1.Links).length c6]) :: (hs3880 ++ R)) ⟨rfl, rfl, rfl, rfl, trivial⟩ (.cons_cons _ (sub_app hs3880 (.refl _))) ⟨hs3880, rfl, rfl, ((hle3423.trans hle3878)), h3881, hln3884⟩
  ·
    rintro l3427 b3422 _ _ ⟨hs3425, rfl, rfl, hle3423, h3426, hln3428⟩ hq4108
    rw [hq4108] at hk3432
    have hm := elimL hk3432
    refine c_seq ?_
    refine c_region ?_
    refine t_st rfl (st_lss_f rfl rfl (by omega)) ?_
    refine t_nil ?_
    refine x_then_normal ?_
    refine c_seq ?_
    refine c_cond_f rfl ?_
    refine c_exit ?_
    refine x_then_exit ?_
    refine x_then_exit ?_
    refine x_block_out ?_
    refine x_then_normal ?_
    refine c_seq ?_
    refine c_region ?_
    refine t_st rfl (st_assign rfl) ?_
    refine t_nil ?_
    refine x_then_normal ?_
    refine c_ret ?_
    obtain rfl := some1 hm
    exact retM (rs := [.tmp 2]) [.bool (true)] hle3423 (by decide) rfl ⟨rfl, trivial⟩ rfl (hp' := R) (.cons _ (sub_skip hs3425 (.refl _))) ⟨rfl, rfl⟩

set_option maxRecDepth 20000 in
theorem cMendCheckRound (b : Base) (R : Hp) (s1 : MendRound) (A2 : Option Addr) (c3 : Nat) (A5 : Option Addr) (c6 : Nat) (h4 : FZ (RT.int .i64) b.w A2 c3 s1.Plan) (h7 : FZ rMendLink b.w A5 c6 s1.Links) (x172 : Int) (hm : mMendCheckRound s1 = some x172) :
    CallsG Try.prog 51 [.agg #[.int .i64 (s1.Period), .slice A2 (s1.Plan).length c3, .slice A5 (s1.Links).length c6]] b (R) (fun v b' hp' => .int .i64 (x172) = v ∧ R = hp') := by
  refine fn_enterG 83 Try.func51 rfl Try.ntmps51 rfl ?_
  unfold mMendCheckRound at hm
  refine c_seq ?_
  refine c_region ?_
  refine t_do rfl (u_box _ rfl rfl) ?_
  rintro _ _ ⟨g173, rfl, rfl⟩
  refine t_st rfl (st_assign rfl) ?_
  refine t_nil ?_
  refine x_then_normal ?_
  refine c_seq ?_
  refine c_block ?_
  refine c_seq ?_
  refine c_region ?_
  refine t_st rfl (st_field rfl fld54_0) ?_
  refine t_st rfl (st_load 0 rfl one3 rfl rfl) ?_
  obtain ⟨x174, hcl175, hm⟩ := bindS hm
  refine t_do rfl (u_callW0 _ call37 rfl (fun w ho => cMendWithin _ [] s1.Period 1 3600 x174 hcl175) (fun _ _ _ h => h.2.symm)) ?_
  rintro _ _ ⟨⟨_, rfl, _⟩, rfl⟩
  refine t_st rfl (st_not rfl) ?_
  refine t_st rfl (st_assign rfl) ?_
  refine t_nil ?_
  refine x_then_normal ?_
  refine c_cond _ rfl (fun hc176 => ?_) (fun hc176 => ?_)
  ·
    rw [if_neg (fun hh => Bool.noConfusion (hh.symm.trans (notT hc176)))] at hm
    refine c_seq ?_
    refine c_region ?_
    refine t_st rfl (st_assign rfl) ?_
    refine t_nil ?_
    refine x_then_normal ?_
    refine c_ret ?_
    refine x_block_ret ?_
    refine x_then_ret ?_
    obtain rfl := some1 hm
    exact retM (rs := [.tmp 2]) [.int .i64 (2)] (Base.Le.refl _) (by decide) rfl ⟨rfl, trivial⟩ rfl (hp' := R) (.cons _ (.refl _)) ⟨rfl, rfl⟩
  ·
    rw [if_pos (notF hc176)] at hm
    obtain ⟨x182, hj183, hk183⟩ := bindS hm
    refine c_join (fun b180 e' hp' => [(1, .pointer (some ⟨g173, 0, none⟩)), (12, .bool (x182))] = e' ∧ (g173, Cl 54 [.int .i64 (s1.Period), .slice A2 (s1.Plan).length c3, .slice A5 (s1.Links).length c6]) :: R = hp' ∧ b.Le b180) ?_ ?_
    ·
      have hm := hj183
      refine c_region ?_
      refine t_st rfl (st_field rfl fld54_1) ?_
      refine t_st rfl (st_load 0 rfl one22 rfl rfl) ?_
      refine t_st rfl (st_len rfl sl22) ?_
      obtain ⟨x184, hcl185, hm⟩ := bindS hm
      refine t_do rfl (u_callW0 _ call37 rfl (fun w ho => cMendWithin _ [] (s1.Plan.length : Int) 1 8 x184 hcl185) (fun _ _ _ h => h.2.symm)) ?_
      rintro _ _ ⟨⟨_, rfl, _⟩, rfl⟩
      rcases Bool.eq_false_or_eq_true x184 with hc186 | hc186
      ·
        rw [if_pos hc186] at hm
        refine t_resp 16 rfl (v' := .bool true) (by rw [hc186] <;> rfl) ?_
        refine t_st rfl (st_not_t rfl) ?_
        refine t_st rfl (st_move rfl) ?_
        refine t_yes 18 rfl rfl rfl ?_
        refine t_st rfl (st_field rfl fld54_2) ?_
        refine t_yes 18 rfl rfl rfl ?_
        refine t_st rfl (st_load 0 rfl one52 rfl rfl) ?_
        refine t_yes 18 rfl rfl rfl ?_
        refine t_st rfl (st_len rfl sl52) ?_
        refine t_yes 18 rfl rfl rfl ?_
        refine t_st rfl (st_gtr rfl rfl) ?_
        refine t_st rfl (st_pick_f rfl rfl) ?_
        refine t_st rfl (st_assign rfl) ?_
        refine t_nil ?_
        obtain rfl := some1 hm
        exact x_join (e' := [(1, .pointer (some ⟨g173, 0, none⟩)), (12, .bool (decide (24 < (s1.Links.length : Int))))]) (hp' := (g173, Cl 54 [.int .i64 (s1.Period), .slice A2 (s1.Plan).length c3, .slice A5 (s1.Links).length c6]) :: R) ⟨rfl, rfl, trivial⟩ (.cons_cons _ (.refl _)) ⟨rfl, rfl, (Base.Le.refl _)⟩
      ·
        rw [if_neg (fun hh => Bool.noConfusion (hh.symm.trans hc186))] at hm
        refine t_resp 16 rfl (v' := .bool false) (by rw [hc186] <;> rfl) ?_
        refine t_st rfl (st_not_f rfl) ?_
        refine t_st rfl (st_move rfl) ?_
        refine t_no 18 rfl rfl rfl rfl rfl ?_
        refine t_no 18 rfl rfl rfl rfl rfl ?_
        refine t_no 18 rfl rfl rfl rfl rfl ?_
        refine t_no 18 rfl rfl rfl rfl rfl ?_
        refine t_st rfl (st_pick_t rfl rfl) ?_
        refine t_st rfl (st_assign rfl) ?_
        refine t_nil ?_
        obtain rfl := some1 hm
        exact x_join (e' := [(1, .pointer (some ⟨g173, 0, none⟩)), (12, .bool (true))]) (hp' := (g173, Cl 54 [.int .i64 (s1.Period), .slice A2 (s1.Plan).length c3, .slice A5 (s1.Links).length c6]) :: R) ⟨rfl, rfl, trivial⟩ (.cons_cons _ (.refl _)) ⟨rfl, rfl, (Base.Le.refl _)⟩
    ·
      rintro b180 _ _ ⟨rfl, rfl, hle181⟩
      have hm := hk183
      refine c_cond _ rfl (fun hc187 => ?_) (fun hc187 => ?_)
      ·
        rw [if_pos hc187] at hm
        refine c_seq ?_
        refine c_region ?_
        refine t_st rfl (st_assign rfl) ?_
        refine t_nil ?_
        refine x_then_normal ?_
        refine c_ret ?_
        refine x_block_ret ?_
        refine x_then_ret ?_
        obtain rfl := some1 hm
        exact retM (rs := [.tmp 2]) [.int .i64 (4)] hle181 (by decide) rfl ⟨rfl, trivial⟩ rfl (hp' := R) (.cons _ (.refl _)) ⟨rfl, rfl⟩
      ·
        rw [if_neg (fun hh => Bool.noConfusion (hh.symm.trans hc187))] at hm
        refine c_skip ?_
        refine x_block_normal ?_
        refine x_then_normal ?_
        refine c_seq ?_
        refine c_seq ?_
        refine c_region ?_
        refine t_st rfl (st_field rfl fld54_1) ?_
        refine t_st rfl (st_load 0 rfl one22 rfl rfl) ?_
        refine t_st rfl (st_len rfl sl22) ?_
        refine t_st rfl (st_move rfl) ?_
        refine t_nil ?_
        refine x_then_normal ?_
        refine c_block ?_
        have hb189 := (FZ.bd (h4.le hle181))
        obtain ⟨t207, hl208, hk209⟩ := bindS hm
        refine c_forM (fun k206 => fun _ => fun b204 e' hp' => [(1, .pointer (some ⟨g173, 0, none⟩)), (25, .slice A2 (s1.Plan).length c3), (26, .int .i64 ((s1.Plan.length : Int))), (27, .int .i64 ((k206 : Int)))] = e' ∧ (g173, Cl 54 [.int .i64 (s1.Period), .slice A2 (s1.Plan).length c3, .slice A5 (s1.Links).length c6]) :: R = hp' ∧ b180.Le b204) hl208 (e' := [(1, .pointer (some ⟨g173, 0, none⟩)), (25, .slice A2 (s1.Plan).length c3), (26, .int .i64 ((s1.Plan.length : Int))), (27, .int .i64 0)]) (hp' := (g173, Cl 54 [.int .i64 (s1.Period), .slice A2 (s1.Plan).length c3, .slice A5 (s1.Links).length c6]) :: R) ⟨rfl, rfl, rfl, rfl, trivial⟩ (.cons_cons _ (.refl _)) ⟨rfl, rfl, (Base.Le.refl _)⟩ ?_ ?_
        ·
          rintro k206 _ b204 _ _ oL188 hknL188 ⟨rfl, rfl, hle205⟩ hstepL188 houtL188
          unfold mMendCheckRound_L188 at hstepL188
          have hm := hstepL188
          refine c_seq ?_
          refine c_region ?_
          refine t_st rfl (st_lss_t rfl rfl (by omega)) ?_
          refine t_nil ?_
          refine x_then_normal ?_
          refine c_seq ?_
          refine c_cond_t rfl ?_
          refine c_skip ?_
          refine x_then_normal ?_
          refine c_seq ?_
          refine c_block ?_
          refine c_seq ?_
          refine c_region ?_
          obtain ⟨x210, h211, hm⟩ := bindS hm
          obtain ⟨j212, hj213, hx214⟩ := idx_some h211
          obtain ⟨cs215, hr216, hcs217, hA218, hlt219⟩ := FZ.get (sz := 1) rfl (by decide) (h4.le (hle181.trans hle205)) hx214
          obtain rfl := hr216
          refine t_st rfl (st_index_old j212 rfl rfl hj213 hlt219 hA218 sl22) ?_
          refine t_st rfl (st_load_old rfl one3 (hcs217 0 _ rfl)) ?_
          refine t_st rfl (st_assign rfl) ?_
          refine t_nil ?_
          refine x_then_normal ?_
          refine c_seq ?_
          refine c_region ?_
          refine t_st rfl (st_move rfl) ?_
          refine t_st rfl (st_field rfl fld54_0) ?_
          refine t_st rfl (st_load 0 rfl one3 rfl rfl) ?_
          obtain ⟨_, h220, hm⟩ := bindS hm
          have h220 := (chk_some h220).2
          refine t_st rfl (st_sub rfl rfl h220) ?_
          obtain ⟨x221, hcl222, hm⟩ := bindS hm
          refine t_do rfl (u_callW0 _ call37 rfl (fun w ho => cMendWithin _ [] x210 0 (s1.Period - 1) x221 hcl222) (fun _ _ _ h => h.2.symm)) ?_
          rintro _ _ ⟨⟨_, rfl, _⟩, rfl⟩
          refine t_st rfl (st_not rfl) ?_
          refine t_nil ?_
          refine x_then_normal ?_
          refine c_cond _ rfl (fun hc223 => ?_) (fun hc223 => ?_)
          ·
            rw [if_neg (fun hh => Bool.noConfusion (hh.symm.trans (notT hc223)))] at hm
            refine c_seq ?_
            refine c_region ?_
            refine t_st rfl (st_assign rfl) ?_
            refine t_nil ?_
            refine x_then_normal ?_
            refine c_ret ?_
            refine x_block_ret ?_
            refine x_then_ret ?_
            refine x_then_ret ?_
            refine x_block_ret ?_
            refine x_then_ret ?_
            have hq224 := houtL188 _ (Option.some.inj hm).symm
            rw [hq224] at hk209
            have hm := elimR hk209
            obtain rfl := some1 hm
            exact retM (rs := [.tmp 2]) [.int .i64 (2)] (hle181.trans hle205) (by decide) rfl ⟨rfl, trivial⟩ rfl (hp' := R) (.cons _ (.refl _)) ⟨rfl, rfl⟩
          ·
            rw [if_pos (notF hc223)] at hm
            refine c_skip ?_
            refine x_block_normal ?_
            refine x_then_normal ?_
            refine c_region ?_
            refine t_st rfl (st_add rfl rfl (by omega)) ?_
            refine t_st rfl (st_move rfl) ?_
            refine t_nil ?_
            exact x_againM () (Option.some.inj hm).symm (e' := [(1, .pointer (some ⟨g173, 0, none⟩)), (25, .slice A2 (s1.Plan).length c3), (26, .int .i64 ((s1.Plan.length : Int))), (27, .int .i64 ((k206 : Int) + 1))]) (hp' := (g173, Cl 54 [.int .i64 (s1.Period), .slice A2 (s1.Plan).length c3, .slice A5 (s1.Links).length c6]) :: R) ⟨rfl, rfl, rfl, rfl, trivial⟩ (.cons_cons _ (.refl _)) ⟨rfl, rfl, (hle205)⟩
        ·
          rintro _ b204 _ _ ⟨rfl, rfl, hle205⟩ hq225
          rw [hq225] at hk209
          have hm := elimL hk209
          refine c_seq ?_
          refine c_region ?_
          refine t_st rfl (st_lss_f rfl rfl (by omega)) ?_
          refine t_nil ?_
          refine x_then_normal ?_
          refine c_seq ?_
          refine c_cond_f rfl ?_
          refine c_exit ?_
          refine x_then_exit ?_
          refine x_then_exit ?_
          refine x_block_out ?_
          refine x_then_normal ?_
          refine c_seq ?_
          refine c_seq ?_
          refine c_region ?_
          refine t_st rfl (st_field rfl fld54_2) ?_
          refine t_st rfl (st_load 0 rfl one52 rfl rfl) ?_
          refine t_st rfl (st_len rfl sl52) ?_
          refine t_st rfl (st_move rfl) ?_
          refine t_nil ?_
          refine x_then_normal ?_
          refine c_block ?_
          have hb227 := (FZ.bd (h7.le (hle181.trans hle205)))
          obtain ⟨t279, hl280, hk281⟩ := bindS hm
          refine c_forM (fun k278 => fun _ => fun b276 e' hp' => [(1, .pointer (some ⟨g173, 0, none⟩)), (39, .slice A5 (s1.Links).length c6), (40, .int .i64 ((s1.Links.length : Int))), (41, .int .i64 ((k278 : Int)))] = e' ∧ (g173, Cl 54 [.int .i64 (s1.Period), .slice A2 (s1.Plan).length c3, .slice A5 (s1.Links).length c6]) :: R = hp' ∧ b204.Le b276) hl280 (e' := [(1, .pointer (some ⟨g173, 0, none⟩)), (39, .slice A5 (s1.Links).length c6), (40, .int .i64 ((s1.Links.length : Int))), (41, .int .i64 0)]) (hp' := (g173, Cl 54 [.int .i64 (s1.Period), .slice A2 (s1.Plan).length c3, .slice A5 (s1.Links).length c6]) :: R) ⟨rfl, rfl, rfl, rfl, trivial⟩ (.cons_cons _ (.refl _)) ⟨rfl, rfl, (Base.Le.refl _)⟩ ?_ ?_
          ·
            rintro k278 _ b276 _ _ oL226 hknL226 ⟨rfl, rfl, hle277⟩ hstepL226 houtL226
            unfold mMendCheckRound_L226 at hstepL226
            have hm := hstepL226
            refine c_seq ?_
            refine c_region ?_
            refine t_st rfl (st_lss_t rfl rfl (by omega)) ?_
            refine t_nil ?_
            refine x_then_normal ?_
            refine c_seq ?_
            refine c_cond_t rfl ?_
            refine c_skip ?_
            refine x_then_normal ?_
            refine c_seq ?_
            refine c_block ?_
            refine c_seq ?_
            refine c_region ?_
            obtain ⟨x282, h283, hm⟩ := bindS hm
            obtain ⟨j284, hj285, hx286⟩ := idx_some h283
            obtain ⟨cs287, hr288, hcs289, hA290, hlt291⟩ := FZ.get (sz := 4) rfl (by decide) (h7.le (hle181.trans (hle205.trans hle277))) hx286
            obtain ⟨_, _, rfl, rfl, ⟨_, _, rfl, rfl, ⟨_, _, rfl, rfl, rfl⟩⟩⟩ := hr288
            refine t_st rfl (st_index_old j284 rfl rfl hj285 hlt291 hA290 sl52) ?_
            refine t_st rfl (st_loadN_old (vs := [.int .i64 (x282.From), .int .i64 (x282.To), .int .i64 (x282.Len), .int .i64 (x282.Back)]) 4 rfl agg83 hA290 rfl (fun j u hu => hcs289 j u hu)) ?_
            refine t_do rfl (u_alloc [.int .i64 0, .int .i64 0, .int .i64 0, .int .i64 0] zero83 rfl) ?_
            rintro _ _ ⟨g292, rfl, rfl⟩
            refine t_do rfl (u_storeN (vs := [_, _, _, _]) 0 4 rfl rfl rfl siz83 rfl (by intro u hu; simp only [List.mem_cons, List.not_mem_nil, or_false] at hu; rcases hu with rfl | rfl | rfl | rfl <;> rfl) rfl (by simp)) ?_
            rintro _ _ rfl
            refine t_nil ?_
            refine x_then_normal ?_
            refine c_block ?_
            obtain ⟨x302, hj303, hk303⟩ := bindS hm
            refine c_join (fun b300 e' hp' => [(1, .pointer (some ⟨g173, 0, none⟩)), (6, .pointer (some ⟨g292, 0, none⟩)), (39, .slice A5 (s1.Links).length c6), (40, .int .i64 ((s1.Links.length : Int))), (41, .int .i64 ((k278 : Int))), (45, .bool (x302))] = e' ∧ (g173, Cl 54 [.int .i64 (s1.Period), .slice A2 (s1.Plan).length c3, .slice A5 (s1.Links).length c6]) :: (g292, Cl 83 [.int .i64 (x282.From), .int .i64 (x282.To), .int .i64 (x282.Len), .int .i64 (x282.Back)]) :: R = hp' ∧ b276.Le b300) ?_ ?_
            ·
              have hm := hj303
              refine c_region ?_
              refine t_st rfl (st_field rfl fld83_0) ?_
              refine t_st rfl (st_load 0 rfl one3 rfl rfl) ?_
              refine t_st rfl (st_field rfl fld54_1) ?_
              refine t_st rfl (st_load 1 rfl one22 rfl rfl) ?_
              refine t_st rfl (st_len rfl sl22) ?_
              obtain ⟨_, h304, hm⟩ := bindS hm
              have h304 := (chk_some h304).2
              refine t_st rfl (st_sub rfl rfl h304) ?_
              obtain ⟨x305, hcl306, hm⟩ := bindS hm
              refine t_do rfl (u_callW0 _ call37 rfl (fun w ho => cMendWithin _ [] x282.From 0 ((s1.Plan.length : Int) - 1) x305 hcl306) (fun _ _ _ h => h.2.symm)) ?_
              rintro _ _ ⟨⟨_, rfl, _⟩, rfl⟩
              rcases Bool.eq_false_or_eq_true x305 with hc307 | hc307
              ·
                rw [if_pos hc307] at hm
                refine t_resp 52 rfl (v' := .bool true) (by rw [hc307] <;> rfl) ?_
                refine t_st rfl (st_not_t rfl) ?_
                refine t_st rfl (st_move rfl) ?_
                refine t_yes 54 rfl rfl rfl ?_
                refine t_st rfl (st_field rfl fld83_1) ?_
                refine t_yes 54 rfl rfl rfl ?_
                refine t_st rfl (st_load 0 rfl one3 rfl rfl) ?_
                refine t_yes 54 rfl rfl rfl ?_
                refine t_st rfl (st_field rfl fld54_1) ?_
                refine t_yes 54 rfl rfl rfl ?_
                refine t_st rfl (st_load 1 rfl one22 rfl rfl) ?_
                refine t_yes 54 rfl rfl rfl ?_
                refine t_st rfl (st_len rfl sl22) ?_
                refine t_yes 54 rfl rfl rfl ?_
                obtain ⟨_, h308, hm⟩ := bindS hm
                have h308 := (chk_some h308).2
                refine t_st rfl (st_sub rfl rfl h308) ?_
                refine t_yes 54 rfl rfl rfl ?_
                obtain ⟨x309, hcl310, hm⟩ := bindS hm
                refine t_do rfl (u_callW0 _ call37 rfl (fun w ho => cMendWithin _ [] x282.To 0 ((s1.Plan.length : Int) - 1) x309 hcl310) (fun _ _ _ h => h.2.symm)) ?_
                rintro _ _ ⟨⟨_, rfl, _⟩, rfl⟩
                refine t_yes 54 rfl rfl rfl ?_
                refine t_st rfl (st_not rfl) ?_
                refine t_st rfl (st_pick_f rfl rfl) ?_
                refine t_st rfl (st_assign rfl) ?_
                refine t_nil ?_
                obtain rfl := some1 hm
                refine x_pullb 1 rfl ?_
                exact x_join (e' := [(1, .pointer (some ⟨g173, 0, none⟩)), (6, .pointer (some ⟨g292, 0, none⟩)), (39, .slice A5 (s1.Links).length c6), (40, .int .i64 ((s1.Links.length : Int))), (41, .int .i64 ((k278 : Int))), (45, .bool (!x309))]) (hp' := (g173, Cl 54 [.int .i64 (s1.Period), .slice A2 (s1.Plan).length c3, .slice A5 (s1.Links).length c6]) :: (g292, Cl 83 [.int .i64 (x282.From), .int .i64 (x282.To), .int .i64 (x282.Len), .int .i64 (x282.Back)]) :: R) ⟨rfl, rfl, rfl, rfl, rfl, rfl, trivial⟩ (.cons_cons _ (.cons_cons _ (.refl _))) ⟨rfl, rfl, (Base.Le.refl _)⟩
              ·
                rw [if_neg (fun hh => Bool.noConfusion (hh.symm.trans hc307))] at hm
                refine t_resp 52 rfl (v' := .bool false) (by rw [hc307] <;> rfl) ?_
                refine t_st rfl (st_not_f rfl) ?_
                refine t_st rfl (st_move rfl) ?_
                refine t_no 54 rfl rfl rfl rfl rfl ?_
                refine t_no 54 rfl rfl rfl rfl rfl ?_
                refine t_no 54 rfl rfl rfl rfl rfl ?_
                refine t_no 54 rfl rfl rfl rfl rfl ?_
                refine t_no 54 rfl rfl rfl rfl rfl ?_
                refine t_no 54 rfl rfl rfl rfl rfl ?_
                refine t_no 54 rfl rfl rfl rfl rfl ?_
                refine t_no 54 rfl rfl rfl rfl rfl ?_
                refine t_st rfl (st_pick_t rfl rfl) ?_
                refine t_st rfl (st_assign rfl) ?_
                refine t_nil ?_
                obtain rfl := some1 hm
                refine x_pullb 1 rfl ?_
                exact x_join (e' := [(1, .pointer (some ⟨g173, 0, none⟩)), (6, .pointer (some ⟨g292, 0, none⟩)), (39, .slice A5 (s1.Links).length c6), (40, .int .i64 ((s1.Links.length : Int))), (41, .int .i64 ((k278 : Int))), (45, .bool (true))]) (hp' := (g173, Cl 54 [.int .i64 (s1.Period), .slice A2 (s1.Plan).length c3, .slice A5 (s1.Links).length c6]) :: (g292, Cl 83 [.int .i64 (x282.From), .int .i64 (x282.To), .int .i64 (x282.Len), .int .i64 (x282.Back)]) :: R) ⟨rfl, rfl, rfl, rfl, rfl, rfl, trivial⟩ (.cons_cons _ (.cons_cons _ (.refl _))) ⟨rfl, rfl, (Base.Le.refl _)⟩
            ·
              rintro b300 _ _ ⟨rfl, rfl, hle301⟩
              have hm := hk303
              refine c_cond _ rfl (fun hc311 => ?_) (fun hc311 => ?_)
              ·
                rw [if_pos hc311] at hm
                refine c_seq ?_
                refine c_region ?_
                refine t_st rfl (st_assign rfl) ?_
                refine t_nil ?_
                refine x_then_normal ?_
                refine c_ret ?_
                refine x_block_ret ?_
                refine x_block_ret ?_
                refine x_then_ret ?_
                refine x_then_ret ?_
                refine x_block_ret ?_
                refine x_then_ret ?_
                have hq312 := houtL226 _ (Option.some.inj hm).symm
                rw [hq312] at hk281
                have hm := elimR hk281
                obtain rfl := some1 hm
                exact retM (rs := [.tmp 2]) [.int .i64 (3)] (hle181.trans (hle205.trans (hle277.trans hle301))) (by decide) rfl ⟨rfl, trivial⟩ rfl (hp' := R) (.cons _ (.cons _ (.refl _))) ⟨rfl, rfl⟩
              ·
                rw [if_neg (fun hh => Bool.noConfusion (hh.symm.trans hc311))] at hm
                obtain ⟨x320, hj321, hk321⟩ := bindS hm
                refine c_join (fun b318 e' hp' => [(1, .pointer (some ⟨g173, 0, none⟩)), (6, .pointer (some ⟨g292, 0, none⟩)), (39, .slice A5 (s1.Links).length c6), (40, .int .i64 ((s1.Links.length : Int))), (41, .int .i64 ((k278 : Int))), (64, .bool (x320))] = e' ∧ (g173, Cl 54 [.int .i64 (s1.Period), .slice A2 (s1.Plan).length c3, .slice A5 (s1.Links).length c6]) :: (g292, Cl 83 [.int .i64 (x282.From), .int .i64 (x282.To), .int .i64 (x282.Len), .int .i64 (x282.Back)]) :: R = hp' ∧ b300.Le b318) ?_ ?_
                ·
                  have hm := hj321
                  refine c_region ?_
                  refine t_st rfl (st_field rfl fld83_2) ?_
                  refine t_st rfl (st_load 1 rfl one3 rfl rfl) ?_
                  obtain ⟨x322, hcl323, hm⟩ := bindS hm
                  refine t_do rfl (u_callW0 _ call37 rfl (fun w ho => cMendWithin _ [] x282.Len 0 28800 x322 hcl323) (fun _ _ _ h => h.2.symm)) ?_
                  rintro _ _ ⟨⟨_, rfl, _⟩, rfl⟩
                  rcases Bool.eq_false_or_eq_true x322 with hc324 | hc324
                  ·
                    rw [if_pos hc324] at hm
                    refine t_resp 67 rfl (v' := .bool true) (by rw [hc324] <;> rfl) ?_
                    refine t_st rfl (st_not_t rfl) ?_
                    refine t_st rfl (st_move rfl) ?_
                    refine t_yes 69 rfl rfl rfl ?_
                    refine t_st rfl (st_field rfl fld83_3) ?_
                    refine t_yes 69 rfl rfl rfl ?_
                    refine t_st rfl (st_load 1 rfl one3 rfl rfl) ?_
                    refine t_yes 69 rfl rfl rfl ?_
                    obtain ⟨x325, hcl326, hm⟩ := bindS hm
                    refine t_do rfl (u_callW0 _ call37 rfl (fun w ho => cMendWithin _ [] x282.Back 0 3 x325 hcl326) (fun _ _ _ h => h.2.symm)) ?_
                    rintro _ _ ⟨⟨_, rfl, _⟩, rfl⟩
                    refine t_yes 69 rfl rfl rfl ?_
                    refine t_st rfl (st_not rfl) ?_
                    refine t_st rfl (st_pick_f rfl rfl) ?_
                    refine t_st rfl (st_assign rfl) ?_
                    refine t_nil ?_
                    obtain rfl := some1 hm
                    refine x_pullb 1 rfl ?_
                    refine x_pullb 1 rfl ?_
                    exact x_join (e' := [(1, .pointer (some ⟨g173, 0, none⟩)), (6, .pointer (some ⟨g292, 0, none⟩)), (39, .slice A5 (s1.Links).length c6), (40, .int .i64 ((s1.Links.length : Int))), (41, .int .i64 ((k278 : Int))), (64, .bool (!x325))]) (hp' := (g173, Cl 54 [.int .i64 (s1.Period), .slice A2 (s1.Plan).length c3, .slice A5 (s1.Links).length c6]) :: (g292, Cl 83 [.int .i64 (x282.From), .int .i64 (x282.To), .int .i64 (x282.Len), .int .i64 (x282.Back)]) :: R) ⟨rfl, rfl, rfl, rfl, rfl, rfl, trivial⟩ (.cons_cons _ (.cons_cons _ (.refl _))) ⟨rfl, rfl, (Base.Le.refl _)⟩
                  ·
                    rw [if_neg (fun hh => Bool.noConfusion (hh.symm.trans hc324))] at hm
                    refine t_resp 67 rfl (v' := .bool false) (by rw [hc324] <;> rfl) ?_
                    refine t_st rfl (st_not_f rfl) ?_
                    refine t_st rfl (st_move rfl) ?_
                    refine t_no 69 rfl rfl rfl rfl rfl ?_
                    refine t_no 69 rfl rfl rfl rfl rfl ?_
                    refine t_no 69 rfl rfl rfl rfl rfl ?_
                    refine t_no 69 rfl rfl rfl rfl rfl ?_
                    refine t_st rfl (st_pick_t rfl rfl) ?_
                    refine t_st rfl (st_assign rfl) ?_
                    refine t_nil ?_
                    obtain rfl := some1 hm
                    refine x_pullb 1 rfl ?_
                    refine x_pullb 1 rfl ?_
                    exact x_join (e' := [(1, .pointer (some ⟨g173, 0, none⟩)), (6, .pointer (some ⟨g292, 0, none⟩)), (39, .slice A5 (s1.Links).length c6), (40, .int .i64 ((s1.Links.length : Int))), (41, .int .i64 ((k278 : Int))), (64, .bool (true))]) (hp' := (g173, Cl 54 [.int .i64 (s1.Period), .slice A2 (s1.Plan).length c3, .slice A5 (s1.Links).length c6]) :: (g292, Cl 83 [.int .i64 (x282.From), .int .i64 (x282.To), .int .i64 (x282.Len), .int .i64 (x282.Back)]) :: R) ⟨rfl, rfl, rfl, rfl, rfl, rfl, trivial⟩ (.cons_cons _ (.cons_cons _ (.refl _))) ⟨rfl, rfl, (Base.Le.refl _)⟩
                ·
                  rintro b318 _ _ ⟨rfl, rfl, hle319⟩
                  have hm := hk321
                  refine c_cond _ rfl (fun hc327 => ?_) (fun hc327 => ?_)
                  ·
                    rw [if_pos hc327] at hm
                    refine c_seq ?_
                    refine c_region ?_
                    refine t_st rfl (st_assign rfl) ?_
                    refine t_nil ?_
                    refine x_then_normal ?_
                    refine c_ret ?_
                    refine x_block_ret ?_
                    refine x_block_ret ?_
                    refine x_then_ret ?_
                    refine x_then_ret ?_
                    refine x_block_ret ?_
                    refine x_then_ret ?_
                    have hq328 := houtL226 _ (Option.some.inj hm).symm
                    rw [hq328] at hk281
                    have hm := elimR hk281
                    obtain rfl := some1 hm
                    exact retM (rs := [.tmp 2]) [.int .i64 (2)] (hle181.trans (hle205.trans (hle277.trans (hle301.trans hle319)))) (by decide) rfl ⟨rfl, trivial⟩ rfl (hp' := R) (.cons _ (.cons _ (.refl _))) ⟨rfl, rfl⟩
                  ·
                    rw [if_neg (fun hh => Bool.noConfusion (hh.symm.trans hc327))] at hm
                    refine c_seq ?_
                    refine c_region ?_
                    refine t_st rfl (st_loadD (vs := [_, _, _]) 0 3 rfl agg54 rfl rfl rfl) ?_
                    refine t_st rfl (st_loadD (vs := [_, _, _, _]) 1 4 rfl agg83 rfl rfl rfl) ?_
                    obtain ⟨x329, hcl330, hm⟩ := bindS hm
                    refine t_do rfl (u_callW0 _ call55 rfl (fun w ho => cMendRoundSlack _ [] s1 x282 A2 c3 A5 c6 ((h4.le (hle181.trans (hle205.trans (hle277.trans (hle301.trans hle319))))).old ho) ((h7.le (hle181.trans (hle205.trans (hle277.trans (hle301.trans hle319))))).old ho) x329 hcl330) (fun _ _ _ h => h.2.symm)) ?_
                    rintro _ _ ⟨⟨_, rfl, _⟩, rfl⟩
                    refine t_st rfl (st_lss rfl rfl) ?_
                    refine t_st rfl (st_assign rfl) ?_
                    refine t_nil ?_
                    refine x_then_normal ?_
                    refine c_cond _ rfl (fun hc331 => ?_) (fun hc331 => ?_)
                    ·
                      rw [if_pos (of_decide_eq_true hc331)] at hm
                      refine c_seq ?_
                      refine c_region ?_
                      refine t_st rfl (st_assign rfl) ?_
                      refine t_nil ?_
                      refine x_then_normal ?_
                      refine c_ret ?_
                      refine x_block_ret ?_
                      refine x_block_ret ?_
                      refine x_then_ret ?_
                      refine x_then_ret ?_
                      refine x_block_ret ?_
                      refine x_then_ret ?_
                      have hq332 := houtL226 _ (Option.some.inj hm).symm
                      rw [hq332] at hk281
                      have hm := elimR hk281
                      obtain rfl := some1 hm
                      exact retM (rs := [.tmp 2]) [.int .i64 (13)] (hle181.trans (hle205.trans (hle277.trans (hle301.trans hle319)))) (by decide) rfl ⟨rfl, trivial⟩ rfl (hp' := R) (.cons _ (.cons _ (.refl _))) ⟨rfl, rfl⟩
                    ·
                      rw [if_neg (of_decide_eq_false hc331)] at hm
                      refine c_skip ?_
                      refine x_block_normal ?_
                      refine x_block_normal ?_
                      refine x_then_normal ?_
                      refine c_region ?_
                      refine t_st rfl (st_add rfl rfl (by omega)) ?_
                      refine t_st rfl (st_move rfl) ?_
                      refine t_nil ?_
                      exact x_againM () (Option.some.inj hm).symm (e' := [(1, .pointer (some ⟨g173, 0, none⟩)), (39, .slice A5 (s1.Links).length c6), (40, .int .i64 ((s1.Links.length : Int))), (41, .int .i64 ((k278 : Int) + 1))]) (hp' := (g173, Cl 54 [.int .i64 (s1.Period), .slice A2 (s1.Plan).length c3, .slice A5 (s1.Links).length c6]) :: R) ⟨rfl, rfl, rfl, rfl, trivial⟩ (.cons_cons _ (.cons _ (.refl _))) ⟨rfl, rfl, ((hle277.trans (hle301.trans hle319)))⟩
          ·
            rintro _ b276 _ _ ⟨rfl, rfl, hle277⟩ hq333
            rw [hq333] at hk281
            have hm := elimL hk281
            refine c_seq ?_
            refine c_region ?_
            refine t_st rfl (st_lss_f rfl rfl (by omega)) ?_
            refine t_nil ?_
            refine x_then_normal ?_
            refine c_seq ?_
            refine c_cond_f rfl ?_
            refine c_exit ?_
            refine x_then_exit ?_
            refine x_then_exit ?_
            refine x_block_out ?_
            refine x_then_normal ?_
            refine c_seq ?_
            refine c_seq ?_
            refine c_region ?_
            refine t_st rfl (st_loadD (vs := [_, _, _]) 0 3 rfl agg54 rfl rfl rfl) ?_
            obtain ⟨x334, hcl335, hm⟩ := bindS hm
            refine t_do rfl (u_callW0 _ call67 rfl (fun w ho => cMendRoundRing _ [] s1 A2 c3 A5 c6 ((h4.le (hle181.trans (hle205.trans hle277))).old ho) ((h7.le (hle181.trans (hle205.trans hle277))).old ho) x334 hcl335) (fun _ _ _ h => h.2.symm)) ?_
            rintro _ _ ⟨⟨_, rfl, _⟩, rfl⟩
            refine t_nil ?_
            refine x_then_normal ?_
            refine c_cond _ rfl (fun hc336 => ?_) (fun hc336 => ?_)
            ·
              rw [if_pos hc336] at hm
              refine c_seq ?_
              refine c_region ?_
              refine t_st rfl (st_assign rfl) ?_
              refine t_nil ?_
              refine x_then_normal ?_
              refine c_ret ?_
              refine x_then_ret ?_
              obtain rfl := some1 hm
              exact retM (rs := [.tmp 2]) [.int .i64 (5)] (hle181.trans (hle205.trans hle277)) (by decide) rfl ⟨rfl, trivial⟩ rfl (hp' := R) (.cons _ (.refl _)) ⟨rfl, rfl⟩
            ·
              rw [if_neg (fun hh => Bool.noConfusion (hh.symm.trans hc336))] at hm
              refine c_skip ?_
              refine x_then_normal ?_
              refine c_seq ?_
              refine c_region ?_
              refine t_st rfl (st_assign rfl) ?_
              refine t_nil ?_
              refine x_then_normal ?_
              refine c_ret ?_
              obtain rfl := some1 hm
              exact retM (rs := [.tmp 2]) [.int .i64 (0)] (hle181.trans (hle205.trans hle277)) (by decide) rfl ⟨rfl, trivial⟩ rfl (hp' := R) (.cons _ (.refl _)) ⟨rfl, rfl⟩

set_option maxRecDepth 20000 in
theorem cBitsMul64 (b : Base) (R : Hp) (x1 : Int) (x2 : Int) (x8 : Int) (x9 : Int) (hm : mBitsMul64 x1 x2 = some (x8, x9)) :
    CallsG Try.prog 71 [.int .u64 (x1), .int .u64 (x2)] b (R) (fun v b' hp' => .tuple #[.int .u64 (x8), .int .u64 (x9)] = v ∧ R = hp') := by
  refine fn_enterG 51 Try.func71 rfl Try.ntmps71 rfl ?_
  unfold mBitsMul64 at hm
  refine c_seq ?_
  refine c_region ?_
  refine t_st rfl (st_assign rfl) ?_
  refine t_st rfl (st_assign rfl) ?_
  refine t_nil ?_
  refine x_then_normal ?_
  refine c_seq ?_
  refine c_region ?_
  refine t_st rfl (st_move rfl) ?_
  refine t_st rfl (st_and rfl rfl) ?_
  refine t_st rfl (st_assign rfl) ?_
  refine t_nil ?_
  refine x_then_normal ?_
  refine c_seq ?_
  refine c_region ?_
  refine t_st rfl (st_move rfl) ?_
  obtain ⟨_, h10, hm⟩ := bindS hm
  have h10 := shN_some h10
  refine t_st rfl (st_shr rfl rfl h10) ?_
  refine t_st rfl (st_assign rfl) ?_
  refine t_nil ?_
  refine x_then_normal ?_
  refine c_seq ?_
  refine c_region ?_
  refine t_st rfl (st_move rfl) ?_
  refine t_st rfl (st_and rfl rfl) ?_
  refine t_st rfl (st_assign rfl) ?_
  refine t_nil ?_
  refine x_then_normal ?_
  refine c_seq ?_
  refine c_region ?_
  refine t_st rfl (st_move rfl) ?_
  obtain ⟨_, h11, hm⟩ := bindS hm
  have h11 := shN_some h11
  refine t_st rfl (st_shr rfl rfl h11) ?_
  refine t_st rfl (st_assign rfl) ?_
  refine t_nil ?_
  refine x_then_normal ?_
  refine c_seq ?_
  refine c_region ?_
  refine t_st rfl (st_move rfl) ?_
  refine t_st rfl (st_move rfl) ?_
  refine t_st rfl (st_mul_w rfl rfl) ?_
  refine t_st rfl (st_assign rfl) ?_
  refine t_nil ?_
  refine x_then_normal ?_
  refine c_seq ?_
  refine c_region ?_
  refine t_st rfl (st_move rfl) ?_
  refine t_st rfl (st_move rfl) ?_
  refine t_st rfl (st_mul_w rfl rfl) ?_
  refine t_st rfl (st_move rfl) ?_
  obtain ⟨_, h12, hm⟩ := bindS hm
  have h12 := shN_some h12
  refine t_st rfl (st_shr rfl rfl h12) ?_
  refine t_st rfl (st_add_w rfl rfl) ?_
  refine t_st rfl (st_assign rfl) ?_
  refine t_nil ?_
  refine x_then_normal ?_
  refine c_seq ?_
  refine c_region ?_
  refine t_st rfl (st_move rfl) ?_
  refine t_st rfl (st_and rfl rfl) ?_
  refine t_st rfl (st_assign rfl) ?_
  refine t_nil ?_
  refine x_then_normal ?_
  refine c_seq ?_
  refine c_region ?_
  refine t_st rfl (st_move rfl) ?_
  obtain ⟨_, h13, hm⟩ := bindS hm
  have h13 := shN_some h13
  refine t_st rfl (st_shr rfl rfl h13) ?_
  refine t_st rfl (st_assign rfl) ?_
  refine t_nil ?_
  refine x_then_normal ?_
  refine c_seq ?_
  refine c_region ?_
  refine t_st rfl (st_move rfl) ?_
  refine t_st rfl (st_move rfl) ?_
  refine t_st rfl (st_move rfl) ?_
  refine t_st rfl (st_mul_w rfl rfl) ?_
  refine t_st rfl (st_add_w rfl rfl) ?_
  refine t_st rfl (st_assign rfl) ?_
  refine t_nil ?_
  refine x_then_normal ?_
  refine c_seq ?_
  refine c_region ?_
  refine t_st rfl (st_move rfl) ?_
  refine t_st rfl (st_move rfl) ?_
  refine t_st rfl (st_mul_w rfl rfl) ?_
  refine t_st rfl (st_move rfl) ?_
  refine t_st rfl (st_add_w rfl rfl) ?_
  refine t_st rfl (st_move rfl) ?_
  obtain ⟨_, h14, hm⟩ := bindS hm
  have h14 := shN_some h14
  refine t_st rfl (st_shr rfl rfl h14) ?_
  refine t_st rfl (st_add_w rfl rfl) ?_
  refine t_st rfl (st_assign rfl) ?_
  refine t_nil ?_
  refine x_then_normal ?_
  refine c_seq ?_
  refine c_region ?_
  refine t_st rfl (st_move rfl) ?_
  refine t_st rfl (st_move rfl) ?_
  refine t_st rfl (st_mul_w rfl rfl) ?_
  refine t_st rfl (st_assign rfl) ?_
  refine t_nil ?_
  refine x_then_normal ?_
  refine c_ret ?_
  obtain ⟨rfl, rfl⟩ := some2 hm
  exact retM (rs := [.tmp 4, .tmp 5]) [.int .u64 (IntKind.wrap .u64 ((IntKind.wrap .u64 ((IntKind.wrap .u64 ((shrI .u64 x1 32) * (shrI .u64 x2 32))) + (shrI .u64 (IntKind.wrap .u64 ((IntKind.wrap .u64 ((shrI .u64 x1 32) * (andI .u64 x2 4294967295))) + (shrI .u64 (IntKind.wrap .u64 ((andI .u64 x1 4294967295) * (andI .u64 x2 4294967295))) 32))) 32))) + (shrI .u64 (IntKind.wrap .u64 ((andI .u64 (IntKind.wrap .u64 ((IntKind.wrap .u64 ((shrI .u64 x1 32) * (andI .u64 x2 4294967295))) + (shrI .u64 (IntKind.wrap .u64 ((andI .u64 x1 4294967295) * (andI .u64 x2 4294967295))) 32))) 4294967295) + (IntKind.wrap .u64 ((andI .u64 x1 4294967295) * (shrI .u64 x2 32))))) 32))), .int .u64 (IntKind.wrap .u64 (x1 * x2))] (Base.Le.refl _) (by decide) rfl ⟨rfl, ⟨rfl, trivial⟩⟩ rfl (hp' := R) (.refl _) ⟨rfl, rfl⟩

set_option maxRecDepth 20000 in
theorem cBitsMul (b : Base) (R : Hp) (x1 : Int) (x2 : Int) (x6 : Int) (x7 : Int) (hm : mBitsMul x1 x2 = some (x6, x7)) :
    CallsG Try.prog 65 [.int .u64 (x1), .int .u64 (x2)] b (R) (fun v b' hp' => .tuple #[.int .u64 (x6), .int .u64 (x7)] = v ∧ R = hp') := by
  refine fn_enterG 30 Try.func65 rfl Try.ntmps65 rfl ?_
  unfold mBitsMul at hm
  refine c_seq ?_
  refine c_region ?_
  refine t_st rfl (st_assign rfl) ?_
  refine t_st rfl (st_assign rfl) ?_
  refine t_nil ?_
  refine x_then_normal ?_
  refine c_seq ?_
  refine c_cond_f rfl ?_
  refine c_skip ?_
  refine x_then_normal ?_
  refine c_seq ?_
  refine c_region ?_
  refine t_st rfl (st_move rfl) ?_
  refine t_st rfl (st_move rfl) ?_
  obtain ⟨⟨x8, x9⟩, hcl10, hm⟩ := bindS hm
  have hm := (unc2E hm)
  refine t_do rfl (u_callW0 _ call71 rfl (fun w ho => cBitsMul64 _ [] x1 x2 x8 x9 hcl10) (fun _ _ _ h => h.2.symm)) ?_
  rintro _ _ ⟨⟨_, rfl, _⟩, rfl⟩
  refine t_st rfl (st_move rfl) ?_
  refine t_st rfl (st_extract rfl rfl) ?_
  refine t_st rfl (st_extract rfl rfl) ?_
  refine t_st rfl (st_assign rfl) ?_
  refine t_st rfl (st_assign rfl) ?_
  refine t_nil ?_
  refine x_then_normal ?_
  refine c_seq ?_
  refine c_region ?_
  refine t_st rfl (st_move rfl) ?_
  refine t_st rfl (st_move rfl) ?_
  refine t_st rfl (st_assign rfl) ?_
  refine t_st rfl (st_assign rfl) ?_
  refine t_nil ?_
  refine x_then_normal ?_
  refine c_ret ?_
  obtain ⟨rfl, rfl⟩ := some2 hm
  exact retM (rs := [.tmp 4, .tmp 5]) [.int .u64 (x8), .int .u64 (x9)] (Base.Le.refl _) (by decide) rfl ⟨rfl, ⟨rfl, trivial⟩⟩ rfl (hp' := R) (.refl _) ⟨rfl, rfl⟩

set_option maxRecDepth 20000 in
theorem cSlicesRepeat (b : Base) (R : Hp) (l4 : (List Int)) (x5 : Int) (A1 : Option Addr) (c2 : Nat) (h3 : FZ (RT.int .i64) b.w A1 c2 l4) (l401 : (List Int)) (hm : mSlicesRepeat l4 x5 = some l401) :
    CallsG Try.prog 47 [.slice A1 (l4).length c2, .int .i64 (x5)] b (R) (fun v b' hp' => ∃ (A398 : Option Addr), ∃ (c399 : Nat), ∃ (hs397 : Hp), .slice A398 (l401).length c399 = v ∧ (hs397 ++ R) = hp' ∧ OS 3 (OT.fr (RT.int .i64)) b'.w (.slice A398 l401.length c399) l401 hs397) := by
  refine fn_enterG 48 Try.func47 rfl Try.ntmps47 rfl ?_
  unfold mSlicesRepeat at hm
  refine c_seq ?_
  refine c_region ?_
  refine t_st rfl (st_assign rfl) ?_
  refine t_nil ?_
  refine x_then_normal ?_
  refine c_seq ?_
  refine c_seq ?_
  refine c_region ?_
  refine t_st rfl (st_move rfl) ?_
  refine t_st rfl (st_lss rfl rfl) ?_
  refine t_nil ?_
  refine x_then_normal ?_
  refine c_cond _ rfl (fun hc402 => ?_) (fun hc402 => ?_)
  ·
    rw [if_pos (of_decide_eq_true hc402)] at hm
    cases hm
  ·
    rw [if_neg (of_decide_eq_false hc402)] at hm
    refine c_skip ?_
    refine x_then_normal ?_
    refine c_seq ?_
    refine c_region ?_
    refine t_st rfl (st_move rfl) ?_
    refine t_st rfl (st_len rfl sl22) ?_
    refine t_st rfl (st_conv rfl int3_i64 int103_u64) ?_
    refine t_st rfl (st_move rfl) ?_
    refine t_st rfl (st_conv rfl int3_i64 int103_u64) ?_
    obtain ⟨⟨x403, x404⟩, hcl405, hm⟩ := bindS hm
    have hm := (unc2E hm)
    refine t_do rfl (u_callW0 _ call65 rfl (fun w ho => cBitsMul _ [] (IntKind.wrap .u64 (l4.length : Int)) (IntKind.wrap .u64 x5) x403 x404 hcl405) (fun _ _ _ h => h.2.symm)) ?_
    rintro _ _ ⟨⟨_, rfl, _⟩, rfl⟩
    refine t_st rfl (st_move rfl) ?_
    refine t_st rfl (st_extract rfl rfl) ?_
    refine t_st rfl (st_extract rfl rfl) ?_
    refine t_st rfl (st_assign rfl) ?_
    refine t_st rfl (st_assign rfl) ?_
    refine t_nil ?_
    refine x_then_normal ?_
    refine c_seq ?_
    obtain ⟨x409, hj410, hk410⟩ := bindS hm
    refine c_join (fun b407 e' hp' => [(0, .slice A1 (l4).length c2), (6, .int .u64 (x404)), (26, .bool (x409))] = e' ∧ R = hp' ∧ b.Le b407) ?_ ?_
    ·
      have hm := hj410
      refine c_region ?_
      refine t_st rfl (st_move rfl) ?_
      refine t_bool rfl (st_gtr rfl rfl) (fun hc411 => ?_) (fun hc411 => ?_)
      ·
        rw [if_pos hc411] at hm
        refine t_st rfl (st_move rfl) ?_
        refine t_no 23 rfl rfl rfl rfl rfl ?_
        refine t_no 23 rfl rfl rfl rfl rfl ?_
        refine t_st rfl (st_pick_t rfl rfl) ?_
        refine t_nil ?_
        obtain rfl := some1 hm
        exact x_join (e' := [(0, .slice A1 (l4).length c2), (6, .int .u64 (x404)), (26, .bool (true))]) (hp' := R) ⟨rfl, rfl, rfl, trivial⟩ (.refl _) ⟨rfl, rfl, (Base.Le.refl _)⟩
      ·
        rw [if_neg hc411] at hm
        refine t_st rfl (st_move rfl) ?_
        refine t_yes 23 rfl rfl rfl ?_
        refine t_st rfl (st_move rfl) ?_
        refine t_yes 23 rfl rfl rfl ?_
        refine t_st rfl (st_gtr rfl rfl) ?_
        refine t_st rfl (st_pick_f rfl rfl) ?_
        refine t_nil ?_
        obtain rfl := some1 hm
        exact x_join (e' := [(0, .slice A1 (l4).length c2), (6, .int .u64 (x404)), (26, .bool (decide (9223372036854775807 < x404)))]) (hp' := R) ⟨rfl, rfl, rfl, trivial⟩ (.refl _) ⟨rfl, rfl, (Base.Le.refl _)⟩
    ·
      rintro b407 _ _ ⟨rfl, rfl, hle408⟩
      have hm := hk410
      refine c_cond _ rfl (fun hc412 => ?_) (fun hc412 => ?_)
      ·
        rw [if_pos hc412] at hm
        cases hm
      ·
        rw [if_neg (fun hh => Bool.noConfusion (hh.symm.trans hc412))] at hm
        refine c_skip ?_
        refine x_then_normal ?_
        refine c_seq ?_
        refine c_region ?_
        refine t_st rfl (st_move rfl) ?_
        refine t_st rfl (st_conv rfl int103_u64 int3_i64) ?_
        obtain ⟨m413, h414, hm⟩ := bindS hm
        have h414 := mkLen_some h414
        refine t_do rfl (u_mkOS (r := (RT.int .i64)) [] R [.int .i64 (0)] 0 m413 rfl h414.1 rfl rfl sl22 inf3 rfl rfl rfl (by decide) rfl h414.2.1 h414.2.2) ?_
        rintro _ _ ⟨hs415, rfl, h416⟩
        obtain ⟨A417, c418, rfl, _⟩ := h416.form
        refine t_st rfl (st_assign rfl) ?_
        refine t_nil ?_
        refine x_then_normal ?_
        refine c_seq ?_
        refine c_region ?_
        refine t_st rfl (st_move rfl) ?_
        refine t_st rfl (st_move rfl) ?_
        obtain ⟨css419, h420, h421⟩ := rd_src (h3.le hle408)
        refine t_do rfl (u_copyI (r := (RT.int .i64)) (m := l4) (show (0 : Int) = ((0 : Nat) : Int) from rfl) rfl [] R css419 rfl sl22 rfl rfl (subA_zero _ _ _).symm (Nat.sub_zero _).symm rfl (Nat.zero_le _) (Nat.le_refl _) h416 rfl (fun w ho => h420.old ho) h421) ?_
        rintro _ _ ⟨rfl, hs422, rfl, h423⟩
        refine t_resp 7 rfl (v' := .slice A417 (cpyI (List.replicate m413 (0 : Int)) 0 ((List.replicate m413 (0 : Int)).length : Int) l4).length c418) (by rw [(cpyI_length (show (0 : Int) = ((0 : Nat) : Int) from rfl) rfl (Nat.zero_le _) (Nat.le_refl _))]) ?_
        refine t_st rfl (st_assign rfl) ?_
        refine t_nil ?_
        refine x_then_normal ?_
        obtain ⟨l609, hj611, hk611⟩ := bindS hm
        refine c_join (fun b604 e' hp' => ∃ (hs607 : Hp), [(7, .slice A417 (l609).length c418)] = e' ∧ (hs607 ++ R) = hp' ∧ b407.Le b604 ∧ OS 3 (OT.fr (RT.int .i64)) b604.w (.slice A417 l609.length c418) l609 hs607 ∧ l609.length = m413) ?_ ?_
        ·
          have hm := hj611
          refine c_block ?_
          refine c_loopM (unc2 fun x734 l735 => fun b729 e' hp' => ∃ (hs732 : Hp), [(7, .slice A417 (l735).length c418), (8, .int .i64 (x734))] = e' ∧ (hs732 ++ R) = hp' ∧ b407.Le b729 ∧ OS 3 (OT.fr (RT.int .i64)) b729.w (.slice A417 l735.length c418) l735 hs732 ∧ l735.length = m413) hm (e' := [(7, .slice A417 (cpyI (List.replicate m413 (0 : Int)) 0 ((List.replicate m413 (0 : Int)).length : Int) l4).length c418), (8, .int .i64 (cpyN 0 ((List.replicate m413 (0 : Int)).length : Int) l4))]) (hp' := (hs422 ++ R)) ⟨rfl, rfl, trivial⟩ (sub_app hs422 (.refl _)) ⟨hs422, rfl, rfl, (Base.Le.refl _), h423, ((cpyI_length (show (0 : Int) = ((0 : Nat) : Int) from rfl) rfl (Nat.zero_le _) (Nat.le_refl _)).trans List.length_replicate)⟩ ?_
          rintro ⟨x734, l735⟩ b729 _ _ oL612 ⟨hs732, rfl, rfl, hle730, h733, hln736⟩ hstepL612 houtL612
          unfold mSlicesRepeat_L612 at hstepL612
          have hm := (unc2E hstepL612)
          refine c_seq ?_
          refine c_seq ?_
          refine c_region ?_
          refine t_st rfl (st_move rfl) ?_
          refine t_st rfl (st_move rfl) ?_
          refine t_st rfl (st_len rfl sl22) ?_
          refine t_st rfl (st_lss rfl rfl) ?_
          refine t_nil ?_
          refine x_then_normal ?_
          refine c_cond _ rfl (fun hc737 => ?_) (fun hc737 => ?_)
          ·
            rw [if_pos (of_decide_eq_true hc737)] at hm
            refine c_skip ?_
            refine x_then_normal ?_
            refine c_block ?_
            obtain ⟨l765, h766, hm⟩ := bindS hm
            obtain ⟨l775, h776, hm⟩ := bindS hm
            obtain ⟨_, h791, hm⟩ := bindS hm
            refine D_drawS (R) mixed ?_
            refine D_st (Base.Le.refl _) 0 rfl (by kernel_rfl) (by kernel_rfl) (by kernel_rfl) rfl (st_move rfl) (sub_skip hs732 (.refl _)) ?_
            refine D_st (Base.Le.refl _) 1 rfl (by kernel_rfl) (by kernel_rfl) (by kernel_rfl) rfl (st_move rfl) (sub_skip hs732 (.refl _)) ?_
            refine D_st (Base.Le.refl _) 2 rfl (by kernel_rfl) (by kernel_rfl) (by kernel_rfl) rfl (st_move rfl) (sub_skip hs732 (.refl _)) ?_
            obtain ⟨j767, j768, hj769, hj770, hj771, hj772, hx773⟩ := cutS_some h766
            have h774 := OS.lc h733
            refine D_st (Base.Le.refl _) 3 rfl (by kernel_rfl) (by kernel_rfl) (by kernel_rfl) rfl (hx773 ▸ st_part (l := l735) j767 j768 rfl (.inr ⟨_, _, _, rfl, rfl, hj769⟩) (.inl ⟨rfl, by omega⟩) hj771 hj772 h774 sl22) (sub_skip hs732 (.refl _)) ?_
            refine D_st (Base.Le.refl _) 4 rfl (by kernel_rfl) (by kernel_rfl) (by kernel_rfl) rfl (st_move rfl) (sub_skip hs732 (.refl _)) ?_
            refine D_st (Base.Le.refl _) 5 rfl (by kernel_rfl) (by kernel_rfl) (by kernel_rfl) rfl (st_move rfl) (sub_skip hs732 (.refl _)) ?_
            obtain ⟨j777, j778, hj779, hj780, hj781, hj782, hx783⟩ := cutS_some h776
            have h784 := OS.lc h733
            refine D_st (Base.Le.refl _) 6 rfl (by kernel_rfl) (by kernel_rfl) (by kernel_rfl) rfl (hx783 ▸ st_part (l := l735) j777 j778 rfl (.inl ⟨rfl, by omega⟩) (.inr ⟨_, _, _, rfl, rfl, hj780⟩) hj781 hj782 h784 sl22) (sub_skip hs732 (.refl _)) ?_
            obtain ⟨css785, h786, h787⟩ := rd_own h733 (List.sublist_append_left _ _)
            have h788 := OS.lc h733
            refine D_all [7] (by kernel_rfl) rfl ?_
            refine R_do (Base.Le.refl _) rfl rfl (u_copyI (r := (RT.int .i64)) (m := l775) hj769 hj770 [] R ((css785.take j778).drop j777) rfl sl22 rfl rfl rfl (cut_len hx773 hj771 hj772) rfl hj771 hj772 h733 rfl (fun w ho => rd_part rfl hj781 hj782 h788 (h786 w ho) ⟨_, h787⟩) (cut_all hx783 h787)) ?_ ?_
            ·
              rintro _ _ ⟨rfl, hs789, rfl, h790⟩
              refine ⟨.inr (sub_skip hs789 (.refl _)), ?_⟩
              refine d_resp 7 rfl (v' := .slice A417 (cpyI l735 x734 (l735.length : Int) l775).length c418) (by rw [(cpyI_length hj769 hj770 hj771 hj772)]) ?_
              have h791 := (chk_some h791).2
              refine D_st (Base.Le.refl _) 8 rfl (by kernel_rfl) (by kernel_rfl) (by kernel_rfl) rfl (st_add rfl rfl h791) (sub_skip hs789 (.refl _)) ?_
              refine D_st (Base.Le.refl _) 9 rfl (by kernel_rfl) (by kernel_rfl) (by kernel_rfl) rfl (st_assign rfl) (sub_skip hs789 (.refl _)) ?_
              refine D_done (by kernel_rfl) ?_
              refine x_block_normal ?_
              exact x_againM (x734 + (cpyN x734 (l735.length : Int) l775), cpyI l735 x734 (l735.length : Int) l775) (Option.some.inj hm).symm (e' := [(7, .slice A417 (cpyI l735 x734 (l735.length : Int) l775).length c418), (8, .int .i64 (x734 + (cpyN x734 (l735.length : Int) l775)))]) (hp' := (hs789 ++ R)) ⟨rfl, rfl, trivial⟩ (sub_app hs789 (.refl _)) ⟨hs789, rfl, rfl, (hle730), h790, ((cpyI_length hj769 hj770 hj771 hj772).trans hln736)⟩
            exact R_nil
          ·
            rw [if_neg (of_decide_eq_false hc737)] at hm
            refine c_exit ?_
            refine x_then_exit ?_
            refine x_then_exit ?_
            refine x_block_out ?_
            have hm := congrArg some (houtL612 _ (Option.some.inj hm).symm)
            obtain rfl := some1 hm
            exact x_join (e' := [(7, .slice A417 (l735).length c418)]) (hp' := (hs732 ++ R)) ⟨rfl, trivial⟩ (sub_app hs732 (.refl _)) ⟨hs732, rfl, rfl, hle730, h733, hln736⟩
        ·
          rintro b604 _ _ ⟨hs607, rfl, rfl, hle605, h608, hln610⟩
          have hm := hk611
          refine c_seq ?_
          refine c_region ?_
          refine t_st rfl (st_move rfl) ?_
          refine t_st rfl (st_assign rfl) ?_
          refine t_nil ?_
          refine x_then_normal ?_
          refine c_ret ?_
          obtain rfl := some1 hm
          exact retM (rs := [.tmp 4]) [.slice A417 (l609).length c418] (hle408.trans hle605) (by decide) rfl ⟨rfl, trivial⟩ rfl (hp' := (hs607 ++ R)) (sub_app hs607 (.refl _)) ⟨A417, c418, hs607, rfl, rfl, h608⟩

set_option maxRecDepth 20000 in
theorem cMendRoom (b : Base) (R : Hp) (s1 : MendRound) (A2 : Option Addr) (c3 : Nat) (A5 : Option Addr) (c6 : Nat) (h4 : FZ (RT.int .i64) b.w A2 c3 s1.Plan) (h7 : FZ rMendLink b.w A5 c6 s1.Links) (x29824 : Int) (l29825 : (List (List Int))) (hm : mMendRoom s1 = some (x29824, l29825)) :
    CallsG Try.prog 28 [.agg #[.int .i64 (s1.Period), .slice A2 (s1.Plan).length c3, .slice A5 (s1.Links).length c6]] b (R) (fun v b' hp' => ∃ (A29821 : Option Addr), ∃ (c29822 : Nat), ∃ (hs29820 : Hp), .tuple #[.slice A29821 (l29825).length c29822, .int .i64 (x29824)] = v ∧ (hs29820 ++ R) = hp' ∧ OS 22 (OT.list 3 (OT.fr (RT.int .i64))) b'.w (.slice A29821 l29825.length c29822) l29825 hs29820) := by
  refine fn_enterG 100 Try.func28 rfl Try.ntmps28 rfl ?_
  unfold mMendRoom at hm
  refine c_seq ?_
  refine c_region ?_
  refine t_do rfl (u_box _ rfl rfl) ?_
  rintro _ _ ⟨g29826, rfl, rfl⟩
  refine t_st rfl (st_assign rfl) ?_
  refine t_st rfl (st_assign rfl) ?_
  refine t_nil ?_
  refine x_then_normal ?_
  refine c_seq ?_
  refine c_seq ?_
  refine c_region ?_
  refine t_st rfl (st_loadD (vs := [_, _, _]) 0 3 rfl agg54 rfl rfl rfl) ?_
  obtain ⟨x29827, hcl29828, hm⟩ := bindS hm
  refine t_do rfl (u_callW0 _ call51 rfl (fun w ho => cMendCheckRound _ [] s1 A2 c3 A5 c6 (h4.old ho) (h7.old ho) x29827 hcl29828) (fun _ _ _ h => h.2.symm)) ?_
  rintro _ _ ⟨⟨_, rfl, _⟩, rfl⟩
  refine t_st rfl (st_assign rfl) ?_
  refine t_nil ?_
  refine x_then_normal ?_
  refine c_seq ?_
  refine c_region ?_
  refine t_st rfl (st_move rfl) ?_
  refine t_st rfl (st_neq rfl rfl) ?_
  refine t_nil ?_
  refine x_then_normal ?_
  refine c_cond _ rfl (fun hc29829 => ?_) (fun hc29829 => ?_)
  ·
    rw [if_pos (of_decide_eq_true hc29829)] at hm
    refine c_seq ?_
    refine c_region ?_
    refine t_st rfl (st_move rfl) ?_
    refine t_st rfl (st_assign rfl) ?_
    refine t_st rfl (st_assign rfl) ?_
    refine t_nil ?_
    refine x_then_normal ?_
    refine c_ret ?_
    refine x_then_ret ?_
    obtain ⟨rfl, rfl⟩ := some2 hm
    exact retM (rs := [.tmp 2, .tmp 3]) [.slice none 0 0, .int .i64 (x29827)] (Base.Le.refl _) (by decide) rfl ⟨rfl, ⟨rfl, trivial⟩⟩ rfl (hp' := ([] ++ R)) (.cons _ (.refl _)) ⟨none, 0, [], rfl, rfl, OS.nil⟩
  ·
    rw [if_neg (of_decide_eq_false hc29829)] at hm
    refine c_skip ?_
    refine x_then_normal ?_
    refine c_seq ?_
    refine c_region ?_
    refine t_st rfl (st_field rfl fld54_1) ?_
    refine t_st rfl (st_load 0 rfl one22 rfl rfl) ?_
    refine t_st rfl (st_len rfl sl22) ?_
    obtain ⟨m29830, h29831, hm⟩ := bindS hm
    have h29831 := mkLen_some h29831
    refine t_do rfl (u_mkOO (o := (OT.list 3 (OT.fr (RT.int .i64)))) [_] R [.slice none 0 0] ([] : List Int) m29830 rfl h29831.1 rfl rfl sl45 inf22 rfl rfl rfl (by decide) ⟨_, rfl, OS.nil⟩ h29831.2.1 h29831.2.2) ?_
    rintro _ _ ⟨hs29832, rfl, h29833⟩
    obtain ⟨A29834, c29835, rfl, _⟩ := h29833.form
    refine t_st rfl (st_assign rfl) ?_
    refine t_nil ?_
    refine x_then_normal ?_
    refine c_seq ?_
    refine c_seq ?_
    refine c_region ?_
    refine t_st rfl (st_move rfl) ?_
    refine t_st rfl (st_len rfl sl45) ?_
    refine t_st rfl (st_move rfl) ?_
    refine t_nil ?_
    refine x_then_normal ?_
    refine c_block ?_
    have hb29837 := (OS.len h29833)
    obtain ⟨l49704, hl49707, hk49708⟩ := bindS hm
    refine c_forS (fun k49706 => fun l49704 => fun b49699 e' hp' => ∃ (hs49702 : Hp), [(1, .pointer (some ⟨g29826, 0, none⟩)), (5, .slice A29834 (l49704).length c29835), (21, .int .i64 (((List.replicate m29830 (([] : List Int) : (List Int))).length : Int))), (22, .int .i64 ((k49706 : Int)))] = e' ∧ (g29826, Cl 54 [.int .i64 (s1.Period), .slice A2 (s1.Plan).length c3, .slice A5 (s1.Links).length c6]) :: (hs49702 ++ R) = hp' ∧ b.Le b49699 ∧ OS 22 (OT.list 3 (OT.fr (RT.int .i64))) b49699.w (.slice A29834 l49704.length c29835) l49704 hs49702 ∧ l49704.length = m29830) hl49707 (e' := [(1, .pointer (some ⟨g29826, 0, none⟩)), (5, .slice A29834 (List.replicate m29830 (([] : List Int) : (List Int))).length c29835), (21, .int .i64 (((List.replicate m29830 (([] : List Int) : (List Int))).length : Int))), (22, .int .i64 0)]) (hp' := (g29826, Cl 54 [.int .i64 (s1.Period), .slice A2 (s1.Plan).length c3, .slice A5 (s1.Links).length c6]) :: (hs29832 ++ R)) ⟨rfl, rfl, rfl, rfl, trivial⟩ (.cons_cons _ (sub_app hs29832 (.refl _))) ⟨hs29832, rfl, rfl, (Base.Le.refl _), h29833, List.length_replicate⟩ ?_ ?_
    ·
      rintro k49706 l49704 b49699 _ _ oL29836 hknL29836 ⟨hs49702, rfl, rfl, hle49700, h49703, hln49705⟩ hstepL29836
      unfold mMendRoom_L29836 at hstepL29836
      have hm := hstepL29836
      refine c_seq ?_
      refine c_region ?_
      refine t_st rfl (st_lss_t rfl rfl (by omega)) ?_
      refine t_nil ?_
      refine x_then_normal ?_
      refine c_seq ?_
      refine c_cond_t rfl ?_
      refine c_skip ?_
      refine x_then_normal ?_
      obtain ⟨l54674, hj54676, hk54676⟩ := bindS hm
      refine c_join (fun b54669 e' hp' => ∃ (hs54672 : Hp), [(1, .pointer (some ⟨g29826, 0, none⟩)), (5, .slice A29834 (l54674).length c29835), (21, .int .i64 (((List.replicate m29830 (([] : List Int) : (List Int))).length : Int))), (22, .int .i64 ((k49706 : Int)))] = e' ∧ (g29826, Cl 54 [.int .i64 (s1.Period), .slice A2 (s1.Plan).length c3, .slice A5 (s1.Links).length c6]) :: (hs54672 ++ R) = hp' ∧ b49699.Le b54669 ∧ OS 22 (OT.list 3 (OT.fr (RT.int .i64))) b54669.w (.slice A29834 l54674.length c29835) l54674 hs54672 ∧ l54674.length = m29830) ?_ ?_
      ·
        have hm := hj54676
        refine c_block ?_
        refine c_seq ?_
        refine c_region ?_
        refine t_st rfl (st_move rfl) ?_
        refine t_st rfl (st_assign rfl) ?_
        refine t_nil ?_
        refine x_then_normal ?_
        refine c_seq ?_
        refine c_region ?_
        refine t_st rfl (st_move rfl) ?_
        refine t_st rfl (st_move rfl) ?_
        refine t_do rfl (u_bslice (el := 3) [(0, .int .i64 ((-1)))] [.int .i64 ((-1))] rfl (fun _ => by kernel_rfl)) ?_
        rintro _ _ ⟨g54677, rfl, rfl⟩
        refine t_st rfl (st_field rfl fld54_1) ?_
        refine t_st rfl (st_load 1 rfl one22 rfl rfl) ?_
        refine t_st rfl (st_len rfl sl22) ?_
        refine t_seg 0 [_] (hs49702 ++ R) rfl rfl ?_
        have h54679 : OS 3 (OT.fr (RT.int .i64)) b49699.w (.slice (some ⟨g54677, 0, none⟩) 1 1) [(-1)] [(g54677, Cl 3 [.int .i64 ((-1))])] := OS.lit [[.int .i64 ((-1))]] rfl ⟨rfl, trivial⟩ rfl (by decide)
        obtain ⟨l54680, hcl54681, hm⟩ := bindS hm
        refine t_do rfl (u_callWF [_] ([(g54677, Cl 3 [.int .i64 ((-1))])] ++ (hs49702 ++ R)) _ rfl call47 rfl (fun w ho => cSlicesRepeat _ [] [(-1)] (s1.Plan.length : Int) (some ⟨g54677, 0, none⟩) 1 (OS.now (o := (OT.fr (RT.int .i64))) (l := [(-1)]) (hs := [(g54677, Cl 3 [.int .i64 ((-1))])]) h54679 ho (.cons _ (List.sublist_append_left _ _))) l54680 hcl54681)) ?_
        rintro _ _ ⟨_, _, rfl, A54682, c54683, hs54684, rfl, hq54687, h54685⟩
        obtain rfl := List.append_cancel_right hq54687
        have h54686 := flat_fz (w' := b49699.w) (fun _ _ _ _ h => h) h54685
        obtain ⟨x54688, h54689, hm⟩ := bindS hm
        obtain ⟨j54690, hj54691, hx54692⟩ := idx_some h54689
        obtain ⟨cs54693, hs54698, P54699, P54700, hq54701, hr54694, hcs54695, hA54696, hlt54697, hb54702, hho54703⟩ := OS.get (sz := 1) rfl (by decide) h49703 hx54692
        obtain ⟨v54704, rfl, h54705⟩ := hr54694
        obtain ⟨A54706, c54707, rfl, _⟩ := h54705.form
        refine t_st rfl (st_index_old j54690 rfl rfl hj54691 hlt54697 hA54696 sl45) ?_
        refine t_front3 [_] hs54684 [(g54677, Cl 3 [.int .i64 ((-1))])] hs49702 R rfl ?_
        refine t_do rfl (u_putOO hj54691 (sz := 1) (a' := l54680) rfl [_] hs54684 ([(g54677, Cl 3 [.int .i64 ((-1))])] ++ R) 1 [.slice A54682 (l54680).length c54683] rfl h49703 hx54692 rfl rfl rfl siz22 rfl (by decide) ⟨_, rfl, h54686⟩) ?_
        rintro _ _ ⟨hs54708, rfl, h54709⟩
        refine t_resp 5 rfl (v' := .slice A29834 (put l49704 (k49706 : Int) l54680).length c29835) (by simp only [put_length]) ?_
        refine t_nil ?_
        refine x_then_normal ?_
        refine c_seq ?_
        refine c_region ?_
        refine t_st rfl (st_move rfl) ?_
        refine t_st rfl (st_move rfl) ?_
        obtain ⟨x54710, h54711, hm⟩ := bindS hm
        obtain ⟨j54712, hj54713, hx54714⟩ := idx_some h54711
        obtain ⟨cs54715, hs54720, P54721, P54722, hq54723, hr54716, hcs54717, hA54718, hlt54719, hb54724, hho54725⟩ := OS.get (sz := 1) rfl (by decide) h54709 hx54714
        obtain ⟨v54726, rfl, h54727⟩ := hr54716
        obtain ⟨A54728, c54729, rfl, _⟩ := h54727.form
        refine t_st rfl (st_index_old j54712 rfl rfl hj54713 hlt54719 hA54718 sl45) ?_
        refine t_st rfl (st_load_rd rfl one22 (fun w ho => hcs54717 w _ ho (.cons _ (List.sublist_append_left _ _)) 0 _ rfl)) ?_
        refine t_st rfl (st_move rfl) ?_
        obtain ⟨x54730, h54731, hm⟩ := bindS hm
        obtain ⟨j54732, hj54733, hx54734⟩ := idx_some h54731
        obtain ⟨cs54735, hs54740, P54741, P54742, hq54743, hr54736, hcs54737, hA54738, hlt54739, hb54744, _⟩ := OS.get (sz := 1) rfl (by decide) h54727 hx54734
        obtain ⟨rfl, rfl⟩ := hr54736
        have hcs54745 := fun (w : World) (hp : Hp) (ho : Own b49699 hp w) (hh : hs54708.Sublist hp) => hcs54737 w hp ho ((show hs54720.Sublist hs54708 by rw [hq54723]; exact sub_skip _ (List.sublist_append_left _ _)).trans hh)
        refine t_st rfl (st_index_old j54732 rfl rfl hj54733 hlt54739 hA54738 sl22) ?_
        refine t_do rfl (u_putIn hj54713 hj54733 (z' := 0) (sz := 1) rfl [_] ([(g54677, Cl 3 [.int .i64 ((-1))])] ++ R) 0 1 [.int .i64 (0)] rfl rfl hq54723 h54727 hb54724 hx54734 rfl rfl rfl siz3 rfl (by intro u hu; simp only [List.mem_cons, List.not_mem_nil, or_false] at hu; subst hu; rfl) (fun cs hsj hh => by obtain ⟨rfl, rfl⟩ := hh; exact ⟨by decide, rfl, rfl⟩)) ?_
        rintro _ _ ⟨hs54746, rfl, h54747⟩
        refine t_resp 5 rfl (v' := .slice A29834 (put (put l49704 (k49706 : Int) l54680) (k49706 : Int) (put x54710 (k49706 : Int) 0)).length c29835) (by simp only [put_length]) ?_
        refine t_nil ?_
        refine x_then_normal ?_
        refine c_seq ?_
        refine c_region ?_
        refine t_st rfl (st_assign rfl) ?_
        refine t_nil ?_
        refine x_then_normal ?_
        refine c_block ?_
        refine c_loopM (unc2 fun x58009 l58010 => fun b58004 e' hp' => ∃ (hs58007 : Hp), [(1, .pointer (some ⟨g29826, 0, none⟩)), (5, .slice A29834 (l58010).length c29835), (6, .int .i64 ((k49706 : Int))), (7, .bool (x58009)), (21, .int .i64 (((List.replicate m29830 (([] : List Int) : (List Int))).length : Int))), (22, .int .i64 ((k49706 : Int)))] = e' ∧ (g29826, Cl 54 [.int .i64 (s1.Period), .slice A2 (s1.Plan).length c3, .slice A5 (s1.Links).length c6]) :: (hs58007 ++ R) = hp' ∧ b49699.Le b58004 ∧ OS 22 (OT.list 3 (OT.fr (RT.int .i64))) b58004.w (.slice A29834 l58010.length c29835) l58010 hs58007 ∧ l58010.length = m29830) hm (e' := [(1, .pointer (some ⟨g29826, 0, none⟩)), (5, .slice A29834 (put (put l49704 (k49706 : Int) l54680) (k49706 : Int) (put x54710 (k49706 : Int) 0)).length c29835), (6, .int .i64 ((k49706 : Int))), (7, .bool (true)), (21, .int .i64 (((List.replicate m29830 (([] : List Int) : (List Int))).length : Int))), (22, .int .i64 ((k49706 : Int)))]) (hp' := (g29826, Cl 54 [.int .i64 (s1.Period), .slice A2 (s1.Plan).length c3, .slice A5 (s1.Links).length c6]) :: (hs54746 ++ R)) ⟨rfl, rfl, rfl, rfl, rfl, rfl, trivial⟩ (.cons_cons _ (sub_app hs54746 (sub_skip [(g54677, Cl 3 [.int .i64 ((-1))])] (.refl _)))) ⟨hs54746, rfl, rfl, (Base.Le.refl _), h54747, ((put_length _ _ _).trans ((put_length _ _ _).trans hln49705))⟩ ?_
        rintro ⟨x58009, l58010⟩ b58004 _ _ oL54748 ⟨hs58007, rfl, rfl, hle58005, h58008, hln58011⟩ hstepL54748 houtL54748
        unfold mMendRoom_L54748 at hstepL54748
        have hm := (unc2E hstepL54748)
        refine c_seq ?_
        refine c_seq ?_
        refine c_region ?_
        refine t_st rfl (st_move rfl) ?_
        refine t_nil ?_
        refine x_then_normal ?_
        refine c_cond _ rfl (fun hc58012 => ?_) (fun hc58012 => ?_)
        ·
          rw [if_pos hc58012] at hm
          refine c_skip ?_
          refine x_then_normal ?_
          refine c_block ?_
          refine c_seq ?_
          refine c_region ?_
          refine t_st rfl (st_assign rfl) ?_
          refine t_nil ?_
          refine x_then_normal ?_
          refine c_seq ?_
          refine c_region ?_
          refine t_st rfl (st_field rfl fld54_2) ?_
          refine t_st rfl (st_load 0 rfl one52 rfl rfl) ?_
          refine t_st rfl (st_len rfl sl52) ?_
          refine t_st rfl (st_move rfl) ?_
          refine t_nil ?_
          refine x_then_normal ?_
          refine c_block ?_
          have hb58014 := (FZ.bd (h7.le (hle49700.trans hle58005)))
          obtain ⟨⟨x59096, l59097⟩, hl59100, hk59101⟩ := bindS hm
          refine c_forS (fun k59099 => unc2 fun x59096 l59097 => fun b59091 e' hp' => ∃ (hs59094 : Hp), [(1, .pointer (some ⟨g29826, 0, none⟩)), (5, .slice A29834 (l59097).length c29835), (6, .int .i64 ((k49706 : Int))), (7, .bool (x59096)), (21, .int .i64 (((List.replicate m29830 (([] : List Int) : (List Int))).length : Int))), (22, .int .i64 ((k49706 : Int))), (41, .slice A5 (s1.Links).length c6), (42, .int .i64 ((s1.Links.length : Int))), (43, .int .i64 ((k59099 : Int)))] = e' ∧ (g29826, Cl 54 [.int .i64 (s1.Period), .slice A2 (s1.Plan).length c3, .slice A5 (s1.Links).length c6]) :: (hs59094 ++ R) = hp' ∧ b58004.Le b59091 ∧ OS 22 (OT.list 3 (OT.fr (RT.int .i64))) b59091.w (.slice A29834 l59097.length c29835) l59097 hs59094 ∧ l59097.length = m29830) hl59100 (e' := [(1, .pointer (some ⟨g29826, 0, none⟩)), (5, .slice A29834 (l58010).length c29835), (6, .int .i64 ((k49706 : Int))), (7, .bool (false)), (21, .int .i64 (((List.replicate m29830 (([] : List Int) : (List Int))).length : Int))), (22, .int .i64 ((k49706 : Int))), (41, .slice A5 (s1.Links).length c6), (42, .int .i64 ((s1.Links.length : Int))), (43, .int .i64 0)]) (hp' := (g29826, Cl 54 [.int .i64 (s1.Period), .slice A2 (s1.Plan).length c3, .slice A5 (s1.Links).length c6]) :: (hs58007 ++ R)) ⟨rfl, rfl, rfl, rfl, rfl, rfl, rfl, rfl, rfl, trivial⟩ (.cons_cons _ (sub_app hs58007 (.refl _))) ⟨hs58007, rfl, rfl, (Base.Le.refl _), h58008, hln58011⟩ ?_ ?_
          ·
            rintro k59099 ⟨x59096, l59097⟩ b59091 _ _ oL58013 hknL58013 ⟨hs59094, rfl, rfl, hle59092, h59095, hln59098⟩ hstepL58013
            unfold mMendRoom_L58013 at hstepL58013
            have hm := (unc2E hstepL58013)
            refine c_seq ?_
            refine c_region ?_
            refine t_st rfl (st_lss_t rfl rfl (by omega)) ?_
            refine t_nil ?_
            refine x_then_normal ?_
            refine c_seq ?_
            refine c_cond_t rfl ?_
            refine c_skip ?_
            refine x_then_normal ?_
            refine c_seq ?_
            refine c_block ?_
            refine c_seq ?_
            refine c_region ?_
            obtain ⟨x59102, h59103, hm⟩ := bindS hm
            obtain ⟨j59104, hj59105, hx59106⟩ := idx_some h59103
            obtain ⟨cs59107, hr59108, hcs59109, hA59110, hlt59111⟩ := FZ.get (sz := 4) rfl (by decide) (h7.le (hle49700.trans (hle58005.trans hle59092))) hx59106
            obtain ⟨_, _, rfl, rfl, ⟨_, _, rfl, rfl, ⟨_, _, rfl, rfl, rfl⟩⟩⟩ := hr59108
            refine t_st rfl (st_index_old j59104 rfl rfl hj59105 hlt59111 hA59110 sl52) ?_
            refine t_st rfl (st_loadN_old (vs := [.int .i64 (x59102.From), .int .i64 (x59102.To), .int .i64 (x59102.Len), .int .i64 (x59102.Back)]) 4 rfl agg83 hA59110 rfl (fun j u hu => hcs59109 j u hu)) ?_
            refine t_do rfl (u_alloc [.int .i64 0, .int .i64 0, .int .i64 0, .int .i64 0] zero83 rfl) ?_
            rintro _ _ ⟨g59112, rfl, rfl⟩
            refine t_do rfl (u_storeN (vs := [_, _, _, _]) 0 4 rfl rfl rfl siz83 rfl (by intro u hu; simp only [List.mem_cons, List.not_mem_nil, or_false] at hu; rcases hu with rfl | rfl | rfl | rfl <;> rfl) rfl (by simp)) ?_
            rintro _ _ rfl
            refine t_nil ?_
            refine x_then_normal ?_
            refine c_seq ?_
            refine c_seq ?_
            obtain ⟨x59149, h59150, hm⟩ := bindS hm
            obtain ⟨x59169, h59170, hm⟩ := bindS hm
            refine D_drawS ((g59112, Cl 83 [.int .i64 (x59102.From), .int .i64 (x59102.To), .int .i64 (x59102.Len), .int .i64 (x59102.Back)]) :: (g29826, Cl 54 [.int .i64 (s1.Period), .slice A2 (s1.Plan).length c3, .slice A5 (s1.Links).length c6]) :: (hs59094 ++ R)) mixed ?_
            refine D_st (Base.Le.refl _) 0 rfl (by kernel_rfl) (by kernel_rfl) (by kernel_rfl) rfl (st_move rfl) (.cons_cons _ (.cons_cons _ (sub_app hs59094 (.refl _)))) ?_
            refine D_st (Base.Le.refl _) 1 rfl (by kernel_rfl) (by kernel_rfl) (by kernel_rfl) rfl (st_move rfl) (.cons_cons _ (.cons_cons _ (sub_app hs59094 (.refl _)))) ?_
            obtain ⟨j59151, hj59152, hx59153⟩ := idx_some h59150
            obtain ⟨cs59154, hs59159, P59160, P59161, hq59162, hr59155, hcs59156, hA59157, hlt59158, hb59163, hho59164⟩ := OS.get (sz := 1) rfl (by decide) h59095 hx59153
            obtain ⟨v59165, rfl, h59166⟩ := hr59155
            obtain ⟨A59167, c59168, rfl, _⟩ := h59166.form
            refine D_st (Base.Le.refl _) 2 rfl (by kernel_rfl) (by kernel_rfl) (by kernel_rfl) rfl (st_index_old j59151 rfl rfl hj59152 hlt59158 hA59157 sl45) (.cons_cons _ (.cons_cons _ (sub_app hs59094 (.refl _)))) ?_
            refine D_st (Base.Le.refl _) 3 rfl (by kernel_rfl) (by kernel_rfl) (by kernel_rfl) rfl (st_load_rd rfl one22 (fun w ho => hcs59156 w _ ho (.cons _ (.cons _ (List.sublist_append_left _ _))) 0 _ rfl)) (.cons_cons _ (.cons_cons _ (sub_app hs59094 (.refl _)))) ?_
            refine D_st (Base.Le.refl _) 4 rfl (by kernel_rfl) (by kernel_rfl) (by kernel_rfl) rfl (st_field rfl fld83_0) (.cons_cons _ (.cons_cons _ (sub_app hs59094 (.refl _)))) ?_
            refine D_st (Base.Le.refl _) 5 rfl (by kernel_rfl) (by kernel_rfl) (by kernel_rfl) rfl (st_load 0 rfl one3 rfl rfl) (.cons_cons _ (.cons_cons _ (sub_app hs59094 (.refl _)))) ?_
            obtain ⟨j59171, hj59172, hx59173⟩ := idx_some h59170
            obtain ⟨cs59174, hs59179, P59180, P59181, hq59182, hr59175, hcs59176, hA59177, hlt59178, hb59183, _⟩ := OS.get (sz := 1) rfl (by decide) h59166 hx59173
            obtain ⟨rfl, rfl⟩ := hr59175
            have hcs59184 := fun (w : World) (hp : Hp) (ho : Own b59091 hp w) (hh : hs59094.Sublist hp) => hcs59176 w hp ho ((show hs59159.Sublist hs59094 by rw [hq59162]; exact sub_skip _ (List.sublist_append_left _ _)).trans hh)
            refine D_st (Base.Le.refl _) 6 rfl (by kernel_rfl) (by kernel_rfl) (by kernel_rfl) rfl (st_index_old j59171 rfl rfl hj59172 hlt59178 hA59177 sl22) (.cons_cons _ (.cons_cons _ (sub_app hs59094 (.refl _)))) ?_
            refine D_st (Base.Le.refl _) 7 rfl (by kernel_rfl) (by kernel_rfl) (by kernel_rfl) rfl (st_load_rd rfl one3 (fun w ho => hcs59184 w _ ho (.cons _ (.cons _ (List.sublist_append_left _ _))) 0 _ rfl)) (.cons_cons _ (.cons_cons _ (sub_app hs59094 (.refl _)))) ?_
            refine D_st (Base.Le.refl _) 8 rfl (by kernel_rfl) (by kernel_rfl) (by kernel_rfl) rfl (st_lss rfl rfl) (.cons_cons _ (.cons_cons _ (sub_app hs59094 (.refl _)))) ?_
            refine D_done (by kernel_rfl) ?_
            refine x_then_normal ?_
            refine c_cond _ rfl (fun hc59185 => ?_) (fun hc59185 => ?_)
            ·
              rw [if_pos (of_decide_eq_true hc59185)] at hm
              refine c_exit ?_
              refine x_then_exit ?_
              refine x_block_out ?_
              refine x_then_normal ?_
              refine c_region ?_
              refine t_st rfl (st_add rfl rfl (by omega)) ?_
              refine t_st rfl (st_move rfl) ?_
              refine t_nil ?_
              refine x_pullb 1 rfl ?_
              obtain rfl := some1 hm
              exact x_againS (e' := [(1, .pointer (some ⟨g29826, 0, none⟩)), (5, .slice A29834 (l59097).length c29835), (6, .int .i64 ((k49706 : Int))), (7, .bool (x59096)), (21, .int .i64 (((List.replicate m29830 (([] : List Int) : (List Int))).length : Int))), (22, .int .i64 ((k49706 : Int))), (41, .slice A5 (s1.Links).length c6), (42, .int .i64 ((s1.Links.length : Int))), (43, .int .i64 ((k59099 : Int) + 1))]) (hp' := (g29826, Cl 54 [.int .i64 (s1.Period), .slice A2 (s1.Plan).length c3, .slice A5 (s1.Links).length c6]) :: (hs59094 ++ R)) ⟨rfl, rfl, rfl, rfl, rfl, rfl, rfl, rfl, rfl, trivial⟩ (.cons_cons _ (.cons _ (sub_app hs59094 (.refl _)))) ⟨hs59094, rfl, rfl, (hle59092), h59095, hln59098⟩
            ·
              rw [if_neg (of_decide_eq_false hc59185)] at hm
              refine c_skip ?_
              refine x_then_normal ?_
              refine c_seq ?_
              obtain ⟨x59225, h59226, hm⟩ := bindS hm
              obtain ⟨x59245, h59246, hm⟩ := bindS hm
              obtain ⟨x59261, hcl59262, hm⟩ := bindS hm
              obtain ⟨_, h59263, hm⟩ := bindS hm
              refine D_drawS ((g59112, Cl 83 [.int .i64 (x59102.From), .int .i64 (x59102.To), .int .i64 (x59102.Len), .int .i64 (x59102.Back)]) :: (g29826, Cl 54 [.int .i64 (s1.Period), .slice A2 (s1.Plan).length c3, .slice A5 (s1.Links).length c6]) :: (hs59094 ++ R)) mixed ?_
              refine D_st (Base.Le.refl _) 0 rfl (by kernel_rfl) (by kernel_rfl) (by kernel_rfl) rfl (st_move rfl) (.cons_cons _ (.cons_cons _ (sub_app hs59094 (.refl _)))) ?_
              refine D_st (Base.Le.refl _) 1 rfl (by kernel_rfl) (by kernel_rfl) (by kernel_rfl) rfl (st_move rfl) (.cons_cons _ (.cons_cons _ (sub_app hs59094 (.refl _)))) ?_
              obtain ⟨j59227, hj59228, hx59229⟩ := idx_some h59226
              obtain ⟨cs59230, hs59235, P59236, P59237, hq59238, hr59231, hcs59232, hA59233, hlt59234, hb59239, hho59240⟩ := OS.get (sz := 1) rfl (by decide) h59095 hx59229
              obtain ⟨v59241, rfl, h59242⟩ := hr59231
              obtain ⟨A59243, c59244, rfl, _⟩ := h59242.form
              refine D_st (Base.Le.refl _) 2 rfl (by kernel_rfl) (by kernel_rfl) (by kernel_rfl) rfl (st_index_old j59227 rfl rfl hj59228 hlt59234 hA59233 sl45) (.cons_cons _ (.cons_cons _ (sub_app hs59094 (.refl _)))) ?_
              refine D_st (Base.Le.refl _) 3 rfl (by kernel_rfl) (by kernel_rfl) (by kernel_rfl) rfl (st_load_rd rfl one22 (fun w ho => hcs59232 w _ ho (.cons _ (.cons _ (List.sublist_append_left _ _))) 0 _ rfl)) (.cons_cons _ (.cons_cons _ (sub_app hs59094 (.refl _)))) ?_
              refine D_st (Base.Le.refl _) 4 rfl (by kernel_rfl) (by kernel_rfl) (by kernel_rfl) rfl (st_field rfl fld83_0) (.cons_cons _ (.cons_cons _ (sub_app hs59094 (.refl _)))) ?_
              refine D_st (Base.Le.refl _) 5 rfl (by kernel_rfl) (by kernel_rfl) (by kernel_rfl) rfl (st_load 0 rfl one3 rfl rfl) (.cons_cons _ (.cons_cons _ (sub_app hs59094 (.refl _)))) ?_
              obtain ⟨j59247, hj59248, hx59249⟩ := idx_some h59246
              obtain ⟨cs59250, hs59255, P59256, P59257, hq59258, hr59251, hcs59252, hA59253, hlt59254, hb59259, _⟩ := OS.get (sz := 1) rfl (by decide) h59242 hx59249
              obtain ⟨rfl, rfl⟩ := hr59251
              have hcs59260 := fun (w : World) (hp : Hp) (ho : Own b59091 hp w) (hh : hs59094.Sublist hp) => hcs59252 w hp ho ((show hs59235.Sublist hs59094 by rw [hq59238]; exact sub_skip _ (List.sublist_append_left _ _)).trans hh)
              refine D_st (Base.Le.refl _) 6 rfl (by kernel_rfl) (by kernel_rfl) (by kernel_rfl) rfl (st_index_old j59247 rfl rfl hj59248 hlt59254 hA59253 sl22) (.cons_cons _ (.cons_cons _ (sub_app hs59094 (.refl _)))) ?_
              refine D_st (Base.Le.refl _) 7 rfl (by kernel_rfl) (by kernel_rfl) (by kernel_rfl) rfl (st_load_rd rfl one3 (fun w ho => hcs59260 w _ ho (.cons _ (.cons _ (List.sublist_append_left _ _))) 0 _ rfl)) (.cons_cons _ (.cons_cons _ (sub_app hs59094 (.refl _)))) ?_
              refine D_st (Base.Le.refl _) 8 rfl (by kernel_rfl) (by kernel_rfl) (by kernel_rfl) rfl (st_loadD (vs := [_, _, _]) 1 3 rfl agg54 rfl rfl rfl) (.cons_cons _ (.cons_cons _ (sub_app hs59094 (.refl _)))) ?_
              refine D_st (Base.Le.refl _) 9 rfl (by kernel_rfl) (by kernel_rfl) (by kernel_rfl) rfl (st_loadD (vs := [_, _, _, _]) 0 4 rfl agg83 rfl rfl rfl) (.cons_cons _ (.cons_cons _ (sub_app hs59094 (.refl _)))) ?_
              refine D_all [10] (by kernel_rfl) rfl ?_
              refine R_do (Base.Le.refl _) rfl rfl (u_callW0 _ call55 rfl (fun w ho => cMendRoundSlack _ [] s1 x59102 A2 c3 A5 c6 ((h4.le (hle49700.trans (hle58005.trans hle59092))).old ho) ((h7.le (hle49700.trans (hle58005.trans hle59092))).old ho) x59261 hcl59262) (fun _ _ _ h => h.2.symm)) ?_ ?_
              ·
                rintro _ _ ⟨⟨_, rfl, _⟩, rfl⟩
                refine ⟨.inr (.cons_cons _ (.cons_cons _ (sub_app hs59094 (.refl _)))), ?_⟩
                have h59263 := (chk_some h59263).2
                refine D_st (Base.Le.refl _) 11 rfl (by kernel_rfl) (by kernel_rfl) (by kernel_rfl) rfl (st_add rfl rfl h59263) (.cons_cons _ (.cons_cons _ (sub_app hs59094 (.refl _)))) ?_
                refine D_st (Base.Le.refl _) 12 rfl (by kernel_rfl) (by kernel_rfl) (by kernel_rfl) rfl (st_assign rfl) (.cons_cons _ (.cons_cons _ (sub_app hs59094 (.refl _)))) ?_
                refine D_done (by kernel_rfl) ?_
                refine x_then_normal ?_
                obtain ⟨x59412, hj59413, hk59413⟩ := bindS hm
                refine c_join (fun b59410 e' hp' => [(1, .pointer (some ⟨g29826, 0, none⟩)), (5, .slice A29834 (l59097).length c29835), (6, .int .i64 ((k49706 : Int))), (7, .bool (x59096)), (9, .pointer (some ⟨g59112, 0, none⟩)), (10, .int .i64 (x59245 + x59261)), (21, .int .i64 (((List.replicate m29830 (([] : List Int) : (List Int))).length : Int))), (22, .int .i64 ((k49706 : Int))), (41, .slice A5 (s1.Links).length c6), (42, .int .i64 ((s1.Links.length : Int))), (43, .int .i64 ((k59099 : Int))), (88, .bool (x59412))] = e' ∧ (g29826, Cl 54 [.int .i64 (s1.Period), .slice A2 (s1.Plan).length c3, .slice A5 (s1.Links).length c6]) :: (g59112, Cl 83 [.int .i64 (x59102.From), .int .i64 (x59102.To), .int .i64 (x59102.Len), .int .i64 (x59102.Back)]) :: (hs59094 ++ R) = hp' ∧ b59091.Le b59410) ?_ ?_
                ·
                  have hm := hj59413
                  obtain ⟨x59487, h59488, hm⟩ := bindS hm
                  obtain ⟨x59507, h59508, hm⟩ := bindS hm
                  by_cases hc59523 : x59507 < 0
                  ·
                    rw [if_pos hc59523] at hm
                    refine D_drawS ((g59112, Cl 83 [.int .i64 (x59102.From), .int .i64 (x59102.To), .int .i64 (x59102.Len), .int .i64 (x59102.Back)]) :: (g29826, Cl 54 [.int .i64 (s1.Period), .slice A2 (s1.Plan).length c3, .slice A5 (s1.Links).length c6]) :: (hs59094 ++ R)) mixed ?_
                    refine D_st (Base.Le.refl _) 0 rfl (by kernel_rfl) (by kernel_rfl) (by kernel_rfl) rfl (st_move rfl) (.cons_cons _ (.cons_cons _ (sub_app hs59094 (.refl _)))) ?_
                    refine D_st (Base.Le.refl _) 1 rfl (by kernel_rfl) (by kernel_rfl) (by kernel_rfl) rfl (st_move rfl) (.cons_cons _ (.cons_cons _ (sub_app hs59094 (.refl _)))) ?_
                    obtain ⟨j59489, hj59490, hx59491⟩ := idx_some h59488
                    obtain ⟨cs59492, hs59497, P59498, P59499, hq59500, hr59493, hcs59494, hA59495, hlt59496, hb59501, hho59502⟩ := OS.get (sz := 1) rfl (by decide) h59095 hx59491
                    obtain ⟨v59503, rfl, h59504⟩ := hr59493
                    obtain ⟨A59505, c59506, rfl, _⟩ := h59504.form
                    refine D_st (Base.Le.refl _) 2 rfl (by kernel_rfl) (by kernel_rfl) (by kernel_rfl) rfl (st_index_old j59489 rfl rfl hj59490 hlt59496 hA59495 sl45) (.cons_cons _ (.cons_cons _ (sub_app hs59094 (.refl _)))) ?_
                    refine D_st (Base.Le.refl _) 3 rfl (by kernel_rfl) (by kernel_rfl) (by kernel_rfl) rfl (st_load_rd rfl one22 (fun w ho => hcs59494 w _ ho (.cons _ (.cons _ (List.sublist_append_left _ _))) 0 _ rfl)) (.cons_cons _ (.cons_cons _ (sub_app hs59094 (.refl _)))) ?_
                    refine D_st (Base.Le.refl _) 4 rfl (by kernel_rfl) (by kernel_rfl) (by kernel_rfl) rfl (st_field rfl fld83_1) (.cons_cons _ (.cons_cons _ (sub_app hs59094 (.refl _)))) ?_
                    refine D_st (Base.Le.refl _) 5 rfl (by kernel_rfl) (by kernel_rfl) (by kernel_rfl) rfl (st_load 0 rfl one3 rfl rfl) (.cons_cons _ (.cons_cons _ (sub_app hs59094 (.refl _)))) ?_
                    obtain ⟨j59509, hj59510, hx59511⟩ := idx_some h59508
                    obtain ⟨cs59512, hs59517, P59518, P59519, hq59520, hr59513, hcs59514, hA59515, hlt59516, hb59521, _⟩ := OS.get (sz := 1) rfl (by decide) h59504 hx59511
                    obtain ⟨rfl, rfl⟩ := hr59513
                    have hcs59522 := fun (w : World) (hp : Hp) (ho : Own b59091 hp w) (hh : hs59094.Sublist hp) => hcs59514 w hp ho ((show hs59497.Sublist hs59094 by rw [hq59500]; exact sub_skip _ (List.sublist_append_left _ _)).trans hh)
                    refine D_st (Base.Le.refl _) 6 rfl (by kernel_rfl) (by kernel_rfl) (by kernel_rfl) rfl (st_index_old j59509 rfl rfl hj59510 hlt59516 hA59515 sl22) (.cons_cons _ (.cons_cons _ (sub_app hs59094 (.refl _)))) ?_
                    refine D_st (Base.Le.refl _) 7 rfl (by kernel_rfl) (by kernel_rfl) (by kernel_rfl) rfl (st_load_rd rfl one3 (fun w ho => hcs59522 w _ ho (.cons _ (.cons _ (List.sublist_append_left _ _))) 0 _ rfl)) (.cons_cons _ (.cons_cons _ (sub_app hs59094 (.refl _)))) ?_
                    refine D_st (Base.Le.refl _) 8 rfl (by kernel_rfl) (by kernel_rfl) (by kernel_rfl) rfl (st_lss_t rfl rfl hc59523) (.cons_cons _ (.cons_cons _ (sub_app hs59094 (.refl _)))) ?_
                    refine D_st (Base.Le.refl _) 9 rfl (by kernel_rfl) (by kernel_rfl) (by kernel_rfl) rfl (st_move rfl) (.cons_cons _ (.cons_cons _ (sub_app hs59094 (.refl _)))) ?_
                    refine D_no (Base.Le.refl _) 10 77 rfl (by kernel_rfl) (by kernel_rfl) (by kernel_rfl) rfl rfl rfl rfl rfl (.cons_cons _ (.cons_cons _ (sub_app hs59094 (.refl _)))) ?_
                    refine D_no (Base.Le.refl _) 11 77 rfl (by kernel_rfl) (by kernel_rfl) (by kernel_rfl) rfl rfl rfl rfl rfl (.cons_cons _ (.cons_cons _ (sub_app hs59094 (.refl _)))) ?_
                    refine D_no (Base.Le.refl _) 12 77 rfl (by kernel_rfl) (by kernel_rfl) (by kernel_rfl) rfl rfl rfl rfl rfl (.cons_cons _ (.cons_cons _ (sub_app hs59094 (.refl _)))) ?_
                    refine D_no (Base.Le.refl _) 13 77 rfl (by kernel_rfl) (by kernel_rfl) (by kernel_rfl) rfl rfl rfl rfl rfl (.cons_cons _ (.cons_cons _ (sub_app hs59094 (.refl _)))) ?_
                    refine D_no (Base.Le.refl _) 14 77 rfl (by kernel_rfl) (by kernel_rfl) (by kernel_rfl) rfl rfl rfl rfl rfl (.cons_cons _ (.cons_cons _ (sub_app hs59094 (.refl _)))) ?_
                    refine D_no (Base.Le.refl _) 15 77 rfl (by kernel_rfl) (by kernel_rfl) (by kernel_rfl) rfl rfl rfl rfl rfl (.cons_cons _ (.cons_cons _ (sub_app hs59094 (.refl _)))) ?_
                    refine D_no (Base.Le.refl _) 16 77 rfl (by kernel_rfl) (by kernel_rfl) (by kernel_rfl) rfl rfl rfl rfl rfl (.cons_cons _ (.cons_cons _ (sub_app hs59094 (.refl _)))) ?_
                    refine D_no (Base.Le.refl _) 17 77 rfl (by kernel_rfl) (by kernel_rfl) (by kernel_rfl) rfl rfl rfl rfl rfl (.cons_cons _ (.cons_cons _ (sub_app hs59094 (.refl _)))) ?_
                    refine D_no (Base.Le.refl _) 18 77 rfl (by kernel_rfl) (by kernel_rfl) (by kernel_rfl) rfl rfl rfl rfl rfl (.cons_cons _ (.cons_cons _ (sub_app hs59094 (.refl _)))) ?_
                    refine D_no (Base.Le.refl _) 19 77 rfl (by kernel_rfl) (by kernel_rfl) (by kernel_rfl) rfl rfl rfl rfl rfl (.cons_cons _ (.cons_cons _ (sub_app hs59094 (.refl _)))) ?_
                    refine D_st (Base.Le.refl _) 20 rfl (by kernel_rfl) (by kernel_rfl) (by kernel_rfl) rfl (st_pick_t rfl rfl) (.cons_cons _ (.cons_cons _ (sub_app hs59094 (.refl _)))) ?_
                    refine D_done (by kernel_rfl) ?_
                    obtain rfl := some1 hm
                    refine x_pullb 1 rfl ?_
                    exact x_join (e' := [(1, .pointer (some ⟨g29826, 0, none⟩)), (5, .slice A29834 (l59097).length c29835), (6, .int .i64 ((k49706 : Int))), (7, .bool (x59096)), (9, .pointer (some ⟨g59112, 0, none⟩)), (10, .int .i64 (x59245 + x59261)), (21, .int .i64 (((List.replicate m29830 (([] : List Int) : (List Int))).length : Int))), (22, .int .i64 ((k49706 : Int))), (41, .slice A5 (s1.Links).length c6), (42, .int .i64 ((s1.Links.length : Int))), (43, .int .i64 ((k59099 : Int))), (88, .bool (true))]) (hp' := (g29826, Cl 54 [.int .i64 (s1.Period), .slice A2 (s1.Plan).length c3, .slice A5 (s1.Links).length c6]) :: (g59112, Cl 83 [.int .i64 (x59102.From), .int .i64 (x59102.To), .int .i64 (x59102.Len), .int .i64 (x59102.Back)]) :: (hs59094 ++ R)) ⟨rfl, rfl, rfl, rfl, rfl, rfl, rfl, rfl, rfl, rfl, rfl, rfl, trivial⟩ (.cons_cons _ (.cons_cons _ (sub_app hs59094 (.refl _)))) ⟨rfl, rfl, (Base.Le.refl _)⟩
                  ·
                    rw [if_neg hc59523] at hm
                    obtain ⟨x59524, h59525, hm⟩ := bindS hm
                    obtain ⟨x59544, h59545, hm⟩ := bindS hm
                    refine D_drawS ((g59112, Cl 83 [.int .i64 (x59102.From), .int .i64 (x59102.To), .int .i64 (x59102.Len), .int .i64 (x59102.Back)]) :: (g29826, Cl 54 [.int .i64 (s1.Period), .slice A2 (s1.Plan).length c3, .slice A5 (s1.Links).length c6]) :: (hs59094 ++ R)) mixed ?_
                    refine D_st (Base.Le.refl _) 0 rfl (by kernel_rfl) (by kernel_rfl) (by kernel_rfl) rfl (st_move rfl) (.cons_cons _ (.cons_cons _ (sub_app hs59094 (.refl _)))) ?_
                    refine D_st (Base.Le.refl _) 1 rfl (by kernel_rfl) (by kernel_rfl) (by kernel_rfl) rfl (st_move rfl) (.cons_cons _ (.cons_cons _ (sub_app hs59094 (.refl _)))) ?_
                    obtain ⟨j59489, hj59490, hx59491⟩ := idx_some h59488
                    obtain ⟨cs59492, hs59497, P59498, P59499, hq59500, hr59493, hcs59494, hA59495, hlt59496, hb59501, hho59502⟩ := OS.get (sz := 1) rfl (by decide) h59095 hx59491
                    obtain ⟨v59503, rfl, h59504⟩ := hr59493
                    obtain ⟨A59505, c59506, rfl, _⟩ := h59504.form
                    refine D_st (Base.Le.refl _) 2 rfl (by kernel_rfl) (by kernel_rfl) (by kernel_rfl) rfl (st_index_old j59489 rfl rfl hj59490 hlt59496 hA59495 sl45) (.cons_cons _ (.cons_cons _ (sub_app hs59094 (.refl _)))) ?_
                    refine D_st (Base.Le.refl _) 3 rfl (by kernel_rfl) (by kernel_rfl) (by kernel_rfl) rfl (st_load_rd rfl one22 (fun w ho => hcs59494 w _ ho (.cons _ (.cons _ (List.sublist_append_left _ _))) 0 _ rfl)) (.cons_cons _ (.cons_cons _ (sub_app hs59094 (.refl _)))) ?_
                    refine D_st (Base.Le.refl _) 4 rfl (by kernel_rfl) (by kernel_rfl) (by kernel_rfl) rfl (st_field rfl fld83_1) (.cons_cons _ (.cons_cons _ (sub_app hs59094 (.refl _)))) ?_
                    refine D_st (Base.Le.refl _) 5 rfl (by kernel_rfl) (by kernel_rfl) (by kernel_rfl) rfl (st_load 0 rfl one3 rfl rfl) (.cons_cons _ (.cons_cons _ (sub_app hs59094 (.refl _)))) ?_
                    obtain ⟨j59509, hj59510, hx59511⟩ := idx_some h59508
                    obtain ⟨cs59512, hs59517, P59518, P59519, hq59520, hr59513, hcs59514, hA59515, hlt59516, hb59521, _⟩ := OS.get (sz := 1) rfl (by decide) h59504 hx59511
                    obtain ⟨rfl, rfl⟩ := hr59513
                    have hcs59522 := fun (w : World) (hp : Hp) (ho : Own b59091 hp w) (hh : hs59094.Sublist hp) => hcs59514 w hp ho ((show hs59497.Sublist hs59094 by rw [hq59500]; exact sub_skip _ (List.sublist_append_left _ _)).trans hh)
                    refine D_st (Base.Le.refl _) 6 rfl (by kernel_rfl) (by kernel_rfl) (by kernel_rfl) rfl (st_index_old j59509 rfl rfl hj59510 hlt59516 hA59515 sl22) (.cons_cons _ (.cons_cons _ (sub_app hs59094 (.refl _)))) ?_
                    refine D_st (Base.Le.refl _) 7 rfl (by kernel_rfl) (by kernel_rfl) (by kernel_rfl) rfl (st_load_rd rfl one3 (fun w ho => hcs59522 w _ ho (.cons _ (.cons _ (List.sublist_append_left _ _))) 0 _ rfl)) (.cons_cons _ (.cons_cons _ (sub_app hs59094 (.refl _)))) ?_
                    refine D_st (Base.Le.refl _) 8 rfl (by kernel_rfl) (by kernel_rfl) (by kernel_rfl) rfl (st_lss_f rfl rfl hc59523) (.cons_cons _ (.cons_cons _ (sub_app hs59094 (.refl _)))) ?_
                    refine D_st (Base.Le.refl _) 9 rfl (by kernel_rfl) (by kernel_rfl) (by kernel_rfl) rfl (st_move rfl) (.cons_cons _ (.cons_cons _ (sub_app hs59094 (.refl _)))) ?_
                    refine D_yes (Base.Le.refl _) 10 77 rfl (by kernel_rfl) (by kernel_rfl) (by kernel_rfl) rfl rfl rfl rfl (st_move rfl) (.cons_cons _ (.cons_cons _ (sub_app hs59094 (.refl _)))) ?_
                    refine D_yes (Base.Le.refl _) 11 77 rfl (by kernel_rfl) (by kernel_rfl) (by kernel_rfl) rfl rfl rfl rfl (st_move rfl) (.cons_cons _ (.cons_cons _ (sub_app hs59094 (.refl _)))) ?_
                    refine D_yes (Base.Le.refl _) 12 77 rfl (by kernel_rfl) (by kernel_rfl) (by kernel_rfl) rfl rfl rfl rfl (st_move rfl) (.cons_cons _ (.cons_cons _ (sub_app hs59094 (.refl _)))) ?_
                    obtain ⟨j59526, hj59527, hx59528⟩ := idx_some h59525
                    obtain ⟨cs59529, hs59534, P59535, P59536, hq59537, hr59530, hcs59531, hA59532, hlt59533, hb59538, hho59539⟩ := OS.get (sz := 1) rfl (by decide) h59095 hx59528
                    obtain ⟨v59540, rfl, h59541⟩ := hr59530
                    obtain ⟨A59542, c59543, rfl, _⟩ := h59541.form
                    refine D_yes (Base.Le.refl _) 13 77 rfl (by kernel_rfl) (by kernel_rfl) (by kernel_rfl) rfl rfl rfl rfl (st_index_old j59526 rfl rfl hj59527 hlt59533 hA59532 sl45) (.cons_cons _ (.cons_cons _ (sub_app hs59094 (.refl _)))) ?_
                    refine D_yes (Base.Le.refl _) 14 77 rfl (by kernel_rfl) (by kernel_rfl) (by kernel_rfl) rfl rfl rfl rfl (st_load_rd rfl one22 (fun w ho => hcs59531 w _ ho (.cons _ (.cons _ (List.sublist_append_left _ _))) 0 _ rfl)) (.cons_cons _ (.cons_cons _ (sub_app hs59094 (.refl _)))) ?_
                    refine D_yes (Base.Le.refl _) 15 77 rfl (by kernel_rfl) (by kernel_rfl) (by kernel_rfl) rfl rfl rfl rfl (st_field rfl fld83_1) (.cons_cons _ (.cons_cons _ (sub_app hs59094 (.refl _)))) ?_
                    refine D_yes (Base.Le.refl _) 16 77 rfl (by kernel_rfl) (by kernel_rfl) (by kernel_rfl) rfl rfl rfl rfl (st_load 0 rfl one3 rfl rfl) (.cons_cons _ (.cons_cons _ (sub_app hs59094 (.refl _)))) ?_
                    obtain ⟨j59546, hj59547, hx59548⟩ := idx_some h59545
                    obtain ⟨cs59549, hs59554, P59555, P59556, hq59557, hr59550, hcs59551, hA59552, hlt59553, hb59558, _⟩ := OS.get (sz := 1) rfl (by decide) h59541 hx59548
                    obtain ⟨rfl, rfl⟩ := hr59550
                    have hcs59559 := fun (w : World) (hp : Hp) (ho : Own b59091 hp w) (hh : hs59094.Sublist hp) => hcs59551 w hp ho ((show hs59534.Sublist hs59094 by rw [hq59537]; exact sub_skip _ (List.sublist_append_left _ _)).trans hh)
                    refine D_yes (Base.Le.refl _) 17 77 rfl (by kernel_rfl) (by kernel_rfl) (by kernel_rfl) rfl rfl rfl rfl (st_index_old j59546 rfl rfl hj59547 hlt59553 hA59552 sl22) (.cons_cons _ (.cons_cons _ (sub_app hs59094 (.refl _)))) ?_
                    refine D_yes (Base.Le.refl _) 18 77 rfl (by kernel_rfl) (by kernel_rfl) (by kernel_rfl) rfl rfl rfl rfl (st_load_rd rfl one3 (fun w ho => hcs59559 w _ ho (.cons _ (.cons _ (List.sublist_append_left _ _))) 0 _ rfl)) (.cons_cons _ (.cons_cons _ (sub_app hs59094 (.refl _)))) ?_
                    refine D_yes (Base.Le.refl _) 19 77 rfl (by kernel_rfl) (by kernel_rfl) (by kernel_rfl) rfl rfl rfl rfl (st_lss rfl rfl) (.cons_cons _ (.cons_cons _ (sub_app hs59094 (.refl _)))) ?_
                    refine D_st (Base.Le.refl _) 20 rfl (by kernel_rfl) (by kernel_rfl) (by kernel_rfl) rfl (st_pick_f rfl rfl) (.cons_cons _ (.cons_cons _ (sub_app hs59094 (.refl _)))) ?_
                    refine D_done (by kernel_rfl) ?_
                    obtain rfl := some1 hm
                    refine x_pullb 1 rfl ?_
                    exact x_join (e' := [(1, .pointer (some ⟨g29826, 0, none⟩)), (5, .slice A29834 (l59097).length c29835), (6, .int .i64 ((k49706 : Int))), (7, .bool (x59096)), (9, .pointer (some ⟨g59112, 0, none⟩)), (10, .int .i64 (x59245 + x59261)), (21, .int .i64 (((List.replicate m29830 (([] : List Int) : (List Int))).length : Int))), (22, .int .i64 ((k49706 : Int))), (41, .slice A5 (s1.Links).length c6), (42, .int .i64 ((s1.Links.length : Int))), (43, .int .i64 ((k59099 : Int))), (88, .bool (decide ((x59245 + x59261) < x59544)))]) (hp' := (g29826, Cl 54 [.int .i64 (s1.Period), .slice A2 (s1.Plan).length c3, .slice A5 (s1.Links).length c6]) :: (g59112, Cl 83 [.int .i64 (x59102.From), .int .i64 (x59102.To), .int .i64 (x59102.Len), .int .i64 (x59102.Back)]) :: (hs59094 ++ R)) ⟨rfl, rfl, rfl, rfl, rfl, rfl, rfl, rfl, rfl, rfl, rfl, rfl, trivial⟩ (.cons_cons _ (.cons_cons _ (sub_app hs59094 (.refl _)))) ⟨rfl, rfl, (Base.Le.refl _)⟩
                ·
                  rintro b59410 _ _ ⟨rfl, rfl, hle59411⟩
                  have hm := hk59413
                  refine c_cond _ rfl (fun hc59560 => ?_) (fun hc59560 => ?_)
                  ·
                    rw [if_pos hc59560] at hm
                    obtain ⟨x59599, h59600, hm⟩ := bindS hm
                    obtain ⟨x59619, h59620, hm⟩ := bindS hm
                    refine D_drawS ((g29826, Cl 54 [.int .i64 (s1.Period), .slice A2 (s1.Plan).length c3, .slice A5 (s1.Links).length c6]) :: (g59112, Cl 83 [.int .i64 (x59102.From), .int .i64 (x59102.To), .int .i64 (x59102.Len), .int .i64 (x59102.Back)]) :: R) mixed ?_
                    refine D_st (Base.Le.refl _) 0 rfl (by kernel_rfl) (by kernel_rfl) (by kernel_rfl) rfl (st_move rfl) (.cons_cons _ (.cons_cons _ (sub_skip hs59094 (.refl _)))) ?_
                    refine D_st (Base.Le.refl _) 1 rfl (by kernel_rfl) (by kernel_rfl) (by kernel_rfl) rfl (st_move rfl) (.cons_cons _ (.cons_cons _ (sub_skip hs59094 (.refl _)))) ?_
                    obtain ⟨j59601, hj59602, hx59603⟩ := idx_some h59600
                    obtain ⟨cs59604, hs59609, P59610, P59611, hq59612, hr59605, hcs59606, hA59607, hlt59608, hb59613, hho59614⟩ := OS.get (sz := 1) rfl (by decide) (h59095.le hle59411) hx59603
                    obtain ⟨v59615, rfl, h59616⟩ := hr59605
                    obtain ⟨A59617, c59618, rfl, _⟩ := h59616.form
                    refine D_st (Base.Le.refl _) 2 rfl (by kernel_rfl) (by kernel_rfl) (by kernel_rfl) rfl (st_index_old j59601 rfl rfl hj59602 hlt59608 hA59607 sl45) (.cons_cons _ (.cons_cons _ (sub_skip hs59094 (.refl _)))) ?_
                    refine D_st (Base.Le.refl _) 4 rfl (by kernel_rfl) (by kernel_rfl) (by kernel_rfl) rfl (st_field rfl fld83_1) (.cons_cons _ (.cons_cons _ (sub_skip hs59094 (.refl _)))) ?_
                    refine D_st (Base.Le.refl _) 5 rfl (by kernel_rfl) (by kernel_rfl) (by kernel_rfl) rfl (st_load 1 rfl one3 rfl rfl) (.cons_cons _ (.cons_cons _ (sub_skip hs59094 (.refl _)))) ?_
                    refine D_st (Base.Le.refl _) 6 rfl (by kernel_rfl) (by kernel_rfl) (by kernel_rfl) rfl (st_move rfl) (.cons_cons _ (.cons_cons _ (sub_skip hs59094 (.refl _)))) ?_
                    refine D_all [3] (by kernel_rfl) rfl ?_
                    refine R_do (Base.Le.refl _) rfl rfl (Stable.does (st_load_rd rfl one22 (fun w ho => hcs59606 w _ ho (.cons _ (.cons _ (List.sublist_append_left _ _))) 0 _ rfl))) ?_ ?_
                    ·
                      rintro _ _ ⟨rfl, rfl⟩
                      refine ⟨.inr (.cons_cons _ (.cons_cons _ (sub_skip hs59094 (.refl _)))), ?_⟩
                      obtain ⟨j59621, hj59622, hx59623⟩ := idx_some h59620
                      obtain ⟨cs59624, hs59629, P59630, P59631, hq59632, hr59625, hcs59626, hA59627, hlt59628, hb59633, _⟩ := OS.get (sz := 1) rfl (by decide) h59616 hx59623
                      obtain ⟨rfl, rfl⟩ := hr59625
                      have hcs59634 := fun (w : World) (hp : Hp) (ho : Own b59410 hp w) (hh : hs59094.Sublist hp) => hcs59626 w hp ho ((show hs59609.Sublist hs59094 by rw [hq59612]; exact sub_skip _ (List.sublist_append_left _ _)).trans hh)
                      refine D_st (Base.Le.refl _) 7 rfl (by kernel_rfl) (by kernel_rfl) (by kernel_rfl) rfl (st_index_old j59621 rfl rfl hj59622 hlt59628 hA59627 sl22) (.cons_cons _ (.cons_cons _ (sub_skip hs59094 (.refl _)))) ?_
                      refine D_all [8] (by kernel_rfl) rfl ?_
                      refine R_do (Base.Le.refl _) rfl rfl (u_putIn hj59602 hj59622 (z' := x59245 + x59261) (sz := 1) rfl [_, _] R 0 1 [.int .i64 (x59245 + x59261)] rfl rfl hq59612 h59616 hb59613 hx59623 rfl rfl rfl siz3 rfl (by intro u hu; simp only [List.mem_cons, List.not_mem_nil, or_false] at hu; subst hu; rfl) (fun cs hsj hh => by obtain ⟨rfl, rfl⟩ := hh; exact ⟨by decide, rfl, rfl⟩)) ?_ ?_
                      ·
                        rintro _ _ ⟨hs59635, rfl, h59636⟩
                        refine ⟨.inr (.cons_cons _ (.cons_cons _ (sub_skip hs59635 (.refl _)))), ?_⟩
                        refine d_resp 5 rfl (v' := .slice A29834 (put l59097 (k49706 : Int) (put x59599 x59102.To (x59245 + x59261))).length c29835) (by simp only [put_length]) ?_
                        refine D_st (Base.Le.refl _) 9 rfl (by kernel_rfl) (by kernel_rfl) (by kernel_rfl) rfl (st_assign rfl) (.cons_cons _ (.cons_cons _ (sub_skip hs59635 (.refl _)))) ?_
                        refine D_done (by kernel_rfl) ?_
                        refine x_block_normal ?_
                        refine x_then_normal ?_
                        refine c_region ?_
                        refine t_st rfl (st_add rfl rfl (by omega)) ?_
                        refine t_st rfl (st_move rfl) ?_
                        refine t_nil ?_
                        obtain rfl := some1 hm
                        exact x_againS (e' := [(1, .pointer (some ⟨g29826, 0, none⟩)), (5, .slice A29834 (put l59097 (k49706 : Int) (put x59599 x59102.To (x59245 + x59261))).length c29835), (6, .int .i64 ((k49706 : Int))), (7, .bool (true)), (21, .int .i64 (((List.replicate m29830 (([] : List Int) : (List Int))).length : Int))), (22, .int .i64 ((k49706 : Int))), (41, .slice A5 (s1.Links).length c6), (42, .int .i64 ((s1.Links.length : Int))), (43, .int .i64 ((k59099 : Int) + 1))]) (hp' := (g29826, Cl 54 [.int .i64 (s1.Period), .slice A2 (s1.Plan).length c3, .slice A5 (s1.Links).length c6]) :: (hs59635 ++ R)) ⟨rfl, rfl, rfl, rfl, rfl, rfl, rfl, rfl, rfl, trivial⟩ (.cons_cons _ (.cons _ (sub_app hs59635 (.refl _)))) ⟨hs59635, rfl, rfl, ((hle59092.trans hle59411)), h59636, ((put_length _ _ _).trans hln59098)⟩
                      exact R_nil
                    exact R_nil
                  ·
                    rw [if_neg (fun hh => Bool.noConfusion (hh.symm.trans hc59560))] at hm
                    refine c_skip ?_
                    refine x_block_normal ?_
                    refine x_then_normal ?_
                    refine c_region ?_
                    refine t_st rfl (st_add rfl rfl (by omega)) ?_
                    refine t_st rfl (st_move rfl) ?_
                    refine t_nil ?_
                    obtain rfl := some1 hm
                    exact x_againS (e' := [(1, .pointer (some ⟨g29826, 0, none⟩)), (5, .slice A29834 (l59097).length c29835), (6, .int .i64 ((k49706 : Int))), (7, .bool (x59096)), (21, .int .i64 (((List.replicate m29830 (([] : List Int) : (List Int))).length : Int))), (22, .int .i64 ((k49706 : Int))), (41, .slice A5 (s1.Links).length c6), (42, .int .i64 ((s1.Links.length : Int))), (43, .int .i64 ((k59099 : Int) + 1))]) (hp' := (g29826, Cl 54 [.int .i64 (s1.Period), .slice A2 (s1.Plan).length c3, .slice A5 (s1.Links).length c6]) :: (hs59094 ++ R)) ⟨rfl, rfl, rfl, rfl, rfl, rfl, rfl, rfl, rfl, trivial⟩ (.cons_cons _ (.cons _ (sub_app hs59094 (.refl _)))) ⟨hs59094, rfl, rfl, ((hle59092.trans hle59411)), (h59095.le hle59411), hln59098⟩
              exact R_nil
          ·
            rintro b59091 _ _ ⟨hs59094, rfl, rfl, hle59092, h59095, hln59098⟩
            have hm := (unc2E hk59101)
            refine c_seq ?_
            refine c_region ?_
            refine t_st rfl (st_lss_f rfl rfl (by omega)) ?_
            refine t_nil ?_
            refine x_then_normal ?_
            refine c_seq ?_
            refine c_cond_f rfl ?_
            refine c_exit ?_
            refine x_then_exit ?_
            refine x_then_exit ?_
            refine x_block_out ?_
            refine x_block_normal ?_
            exact x_againM (x59096, l59097) (Option.some.inj hm).symm (e' := [(1, .pointer (some ⟨g29826, 0, none⟩)), (5, .slice A29834 (l59097).length c29835), (6, .int .i64 ((k49706 : Int))), (7, .bool (x59096)), (21, .int .i64 (((List.replicate m29830 (([] : List Int) : (List Int))).length : Int))), (22, .int .i64 ((k49706 : Int)))]) (hp' := (g29826, Cl 54 [.int .i64 (s1.Period), .slice A2 (s1.Plan).length c3, .slice A5 (s1.Links).length c6]) :: (hs59094 ++ R)) ⟨rfl, rfl, rfl, rfl, rfl, rfl, trivial⟩ (.cons_cons _ (sub_app hs59094 (.refl _))) ⟨hs59094, rfl, rfl, ((hle58005.trans hle59092)), h59095, hln59098⟩
        ·
          rw [if_neg (fun hh => Bool.noConfusion (hh.symm.trans hc58012))] at hm
          refine c_exit ?_
          refine x_then_exit ?_
          refine x_then_exit ?_
          refine x_block_out ?_
          have hm := congrArg some (houtL54748 _ (Option.some.inj hm).symm)
          refine x_block_normal ?_
          obtain rfl := some1 hm
          exact x_join (e' := [(1, .pointer (some ⟨g29826, 0, none⟩)), (5, .slice A29834 (l58010).length c29835), (21, .int .i64 (((List.replicate m29830 (([] : List Int) : (List Int))).length : Int))), (22, .int .i64 ((k49706 : Int)))]) (hp' := (g29826, Cl 54 [.int .i64 (s1.Period), .slice A2 (s1.Plan).length c3, .slice A5 (s1.Links).length c6]) :: (hs58007 ++ R)) ⟨rfl, rfl, rfl, rfl, trivial⟩ (.cons_cons _ (sub_app hs58007 (.refl _))) ⟨hs58007, rfl, rfl, hle58005, h58008, hln58011⟩
      ·
        rintro b54669 _ _ ⟨hs54672, rfl, rfl, hle54670, h54673, hln54675⟩
        have hm := hk54676
        refine c_region ?_
        refine t_st rfl (st_add rfl rfl (by omega)) ?_
        refine t_st rfl (st_move rfl) ?_
        refine t_nil ?_
        obtain rfl := some1 hm
        exact x_againS (e' := [(1, .pointer (some ⟨g29826, 0, none⟩)), (5, .slice A29834 (l54674).length c29835), (21, .int .i64 (((List.replicate m29830 (([] : List Int) : (List Int))).length : Int))), (22, .int .i64 ((k49706 : Int) + 1))]) (hp' := (g29826, Cl 54 [.int .i64 (s1.Period), .slice A2 (s1.Plan).length c3, .slice A5 (s1.Links).length c6]) :: (hs54672 ++ R)) ⟨rfl, rfl, rfl, rfl, trivial⟩ (.cons_cons _ (sub_app hs54672 (.refl _))) ⟨hs54672, rfl, rfl, ((hle49700.trans hle54670)), h54673, hln54675⟩
    ·
      rintro b49699 _ _ ⟨hs49702, rfl, rfl, hle49700, h49703, hln49705⟩
      have hm := hk49708
      refine c_seq ?_
      refine c_region ?_
      refine t_st rfl (st_lss_f rfl rfl (by omega)) ?_
      refine t_nil ?_
      refine x_then_normal ?_
      refine c_seq ?_
      refine c_cond_f rfl ?_
      refine c_exit ?_
      refine x_then_exit ?_
      refine x_then_exit ?_
      refine x_block_out ?_
      refine x_then_normal ?_
      refine c_seq ?_
      refine c_region ?_
      refine t_st rfl (st_move rfl) ?_
      refine t_st rfl (st_assign rfl) ?_
      refine t_st rfl (st_assign rfl) ?_
      refine t_nil ?_
      refine x_then_normal ?_
      refine c_ret ?_
      obtain ⟨rfl, rfl⟩ := some2 hm
      exact retM (rs := [.tmp 2, .tmp 3]) [.slice A29834 (l49704).length c29835, .int .i64 (0)] hle49700 (by decide) rfl ⟨rfl, ⟨rfl, trivial⟩⟩ rfl (hp' := (hs49702 ++ R)) (.cons _ (sub_app hs49702 (.refl _))) ⟨A29834, c29835, hs49702, rfl, rfl, h49703⟩

set_option maxRecDepth 20000 in
theorem cSlicesEqual (b : Base) (R : Hp) (l4 : (List Int)) (l8 : (List Int)) (A1 : Option Addr) (c2 : Nat) (A5 : Option Addr) (c6 : Nat) (h3 : FZ (RT.int .i64) b.w A1 c2 l4) (h7 : FZ (RT.int .i64) b.w A5 c6 l8) (x102 : Bool) (hm : mSlicesEqual l4 l8 = some x102) :
    CallsG Try.prog 22 [.slice A1 (l4).length c2, .slice A5 (l8).length c6] b (R) (fun v b' hp' => .bool (x102) = v ∧ R = hp') := by
  refine fn_enterG 26 Try.func22 rfl Try.ntmps22 rfl ?_
  unfold mSlicesEqual at hm
  refine c_seq ?_
  refine c_region ?_
  refine t_st rfl (st_assign rfl) ?_
  refine t_nil ?_
  refine x_then_normal ?_
  refine c_seq ?_
  refine c_seq ?_
  refine c_region ?_
  refine t_st rfl (st_move rfl) ?_
  refine t_st rfl (st_len rfl sl22) ?_
  refine t_st rfl (st_move rfl) ?_
  refine t_st rfl (st_len rfl sl22) ?_
  refine t_st rfl (st_neq rfl rfl) ?_
  refine t_nil ?_
  refine x_then_normal ?_
  refine c_cond _ rfl (fun hc103 => ?_) (fun hc103 => ?_)
  ·
    rw [if_pos (of_decide_eq_true hc103)] at hm
    refine c_seq ?_
    refine c_region ?_
    refine t_st rfl (st_assign rfl) ?_
    refine t_nil ?_
    refine x_then_normal ?_
    refine c_ret ?_
    refine x_then_ret ?_
    obtain rfl := some1 hm
    exact retM (rs := [.tmp 4]) [.bool (false)] (Base.Le.refl _) (by decide) rfl ⟨rfl, trivial⟩ rfl (hp' := R) (.refl _) ⟨rfl, rfl⟩
  ·
    rw [if_neg (of_decide_eq_false hc103)] at hm
    refine c_skip ?_
    refine x_then_normal ?_
    refine c_seq ?_
    refine c_seq ?_
    refine c_region ?_
    refine t_st rfl (st_move rfl) ?_
    refine t_st rfl (st_len rfl sl22) ?_
    refine t_st rfl (st_move rfl) ?_
    refine t_nil ?_
    refine x_then_normal ?_
    refine c_block ?_
    have hb105 := (FZ.bd h3)
    obtain ⟨t150, hl151, hk152⟩ := bindS hm
    refine c_forM (fun k149 => fun _ => fun b147 e' hp' => [(0, .slice A1 (l4).length c2), (1, .slice A5 (l8).length c6), (12, .int .i64 ((l4.length : Int))), (13, .int .i64 ((k149 : Int)))] = e' ∧ R = hp' ∧ b.Le b147) hl151 (e' := [(0, .slice A1 (l4).length c2), (1, .slice A5 (l8).length c6), (12, .int .i64 ((l4.length : Int))), (13, .int .i64 0)]) (hp' := R) ⟨rfl, rfl, rfl, rfl, trivial⟩ (.refl _) ⟨rfl, rfl, (Base.Le.refl _)⟩ ?_ ?_
    ·
      rintro k149 _ b147 _ _ oL104 hknL104 ⟨rfl, rfl, hle148⟩ hstepL104 houtL104
      unfold mSlicesEqual_L104 at hstepL104
      have hm := hstepL104
      refine c_seq ?_
      refine c_region ?_
      refine t_st rfl (st_lss_t rfl rfl (by omega)) ?_
      refine t_nil ?_
      refine x_then_normal ?_
      refine c_seq ?_
      refine c_cond_t rfl ?_
      refine c_skip ?_
      refine x_then_normal ?_
      refine c_seq ?_
      refine c_block ?_
      refine c_seq ?_
      refine c_region ?_
      refine t_st rfl (st_move rfl) ?_
      refine t_st rfl (st_assign rfl) ?_
      refine t_nil ?_
      refine x_then_normal ?_
      refine c_seq ?_
      obtain ⟨x173, h174, hm⟩ := bindS hm
      obtain ⟨x183, h184, hm⟩ := bindS hm
      refine D_drawS (R) mixed ?_
      refine D_st (Base.Le.refl _) 0 rfl (by kernel_rfl) (by kernel_rfl) (by kernel_rfl) rfl (st_move rfl) (.refl _) ?_
      refine D_st (Base.Le.refl _) 1 rfl (by kernel_rfl) (by kernel_rfl) (by kernel_rfl) rfl (st_move rfl) (.refl _) ?_
      obtain ⟨j175, hj176, hx177⟩ := idx_some h174
      obtain ⟨cs178, hr179, hcs180, hA181, hlt182⟩ := FZ.get (sz := 1) rfl (by decide) (h3.le hle148) hx177
      obtain rfl := hr179
      refine D_st (Base.Le.refl _) 2 rfl (by kernel_rfl) (by kernel_rfl) (by kernel_rfl) rfl (st_index_old j175 rfl rfl hj176 hlt182 hA181 sl22) (.refl _) ?_
      refine D_st (Base.Le.refl _) 3 rfl (by kernel_rfl) (by kernel_rfl) (by kernel_rfl) rfl (st_load_old rfl one3 (hcs180 0 _ rfl)) (.refl _) ?_
      refine D_st (Base.Le.refl _) 4 rfl (by kernel_rfl) (by kernel_rfl) (by kernel_rfl) rfl (st_move rfl) (.refl _) ?_
      refine D_st (Base.Le.refl _) 5 rfl (by kernel_rfl) (by kernel_rfl) (by kernel_rfl) rfl (st_move rfl) (.refl _) ?_
      obtain ⟨j185, hj186, hx187⟩ := idx_some h184
      obtain ⟨cs188, hr189, hcs190, hA191, hlt192⟩ := FZ.get (sz := 1) rfl (by decide) (h7.le hle148) hx187
      obtain rfl := hr189
      refine D_st (Base.Le.refl _) 6 rfl (by kernel_rfl) (by kernel_rfl) (by kernel_rfl) rfl (st_index_old j185 rfl rfl hj186 hlt192 hA191 sl22) (.refl _) ?_
      refine D_st (Base.Le.refl _) 7 rfl (by kernel_rfl) (by kernel_rfl) (by kernel_rfl) rfl (st_load_old rfl one3 (hcs190 0 _ rfl)) (.refl _) ?_
      refine D_st (Base.Le.refl _) 8 rfl (by kernel_rfl) (by kernel_rfl) (by kernel_rfl) rfl (st_neq rfl rfl) (.refl _) ?_
      refine D_done (by kernel_rfl) ?_
      refine x_then_normal ?_
      refine c_cond _ rfl (fun hc193 => ?_) (fun hc193 => ?_)
      ·
        rw [if_pos (of_decide_eq_true hc193)] at hm
        refine c_seq ?_
        refine c_region ?_
        refine t_st rfl (st_assign rfl) ?_
        refine t_nil ?_
        refine x_then_normal ?_
        refine c_ret ?_
        refine x_block_ret ?_
        refine x_then_ret ?_
        refine x_then_ret ?_
        refine x_block_ret ?_
        refine x_then_ret ?_
        have hq194 := houtL104 _ (Option.some.inj hm).symm
        rw [hq194] at hk152
        have hm := elimR hk152
        obtain rfl := some1 hm
        exact retM (rs := [.tmp 4]) [.bool (false)] hle148 (by decide) rfl ⟨rfl, trivial⟩ rfl (hp' := R) (.refl _) ⟨rfl, rfl⟩
      ·
        rw [if_neg (of_decide_eq_false hc193)] at hm
        refine c_skip ?_
        refine x_block_normal ?_
        refine x_then_normal ?_
        refine c_region ?_
        refine t_st rfl (st_add rfl rfl (by omega)) ?_
        refine t_st rfl (st_move rfl) ?_
        refine t_nil ?_
        exact x_againM () (Option.some.inj hm).symm (e' := [(0, .slice A1 (l4).length c2), (1, .slice A5 (l8).length c6), (12, .int .i64 ((l4.length : Int))), (13, .int .i64 ((k149 : Int) + 1))]) (hp' := R) ⟨rfl, rfl, rfl, rfl, trivial⟩ (.refl _) ⟨rfl, rfl, (hle148)⟩
    ·
      rintro _ b147 _ _ ⟨rfl, rfl, hle148⟩ hq195
      rw [hq195] at hk152
      have hm := elimL hk152
      refine c_seq ?_
      refine c_region ?_
      refine t_st rfl (st_lss_f rfl rfl (by omega)) ?_
      refine t_nil ?_
      refine x_then_normal ?_
      refine c_seq ?_
      refine c_cond_f rfl ?_
      refine c_exit ?_
      refine x_then_exit ?_
      refine x_then_exit ?_
      refine x_block_out ?_
      refine x_then_normal ?_
      refine c_seq ?_
      refine c_region ?_
      refine t_st rfl (st_assign rfl) ?_
      refine t_nil ?_
      refine x_then_normal ?_
      refine c_ret ?_
      obtain rfl := some1 hm
      exact retM (rs := [.tmp 4]) [.bool (true)] hle148 (by decide) rfl ⟨rfl, trivial⟩ rfl (hp' := R) (.refl _) ⟨rfl, rfl⟩

set_option maxRecDepth 20000 in
theorem cFishkeep2Rounds (b : Base) (R : Hp) (x135 : Bool) (hm : mFishkeep2Rounds = some x135) :
    CallsG Try.prog 18 [] b (R) (fun v b' hp' => .bool (x135) = v ∧ R = hp') := by
  refine fn_enterG 34 Try.func18 rfl Try.ntmps18 rfl ?_
  unfold mFishkeep2Rounds at hm
  refine c_seq ?_
  refine c_region ?_
  refine t_st rfl (st_assign rfl) ?_
  refine t_nil ?_
  refine x_then_normal ?_
  refine c_seq ?_
  refine c_region ?_
  refine t_do rfl (u_bslice (el := 3) [(0, .int .i64 (0)), (1, .int .i64 (5))] [.int .i64 (0), .int .i64 (5)] rfl (fun _ => by kernel_rfl)) ?_
  rintro _ _ ⟨g136, rfl, rfl⟩
  refine t_st rfl (st_build (v := .agg #[.int .i64 (0), .int .i64 (1), .int .i64 (3), .int .i64 (0)]) [(0, .int .i64 (0)), (1, .int .i64 (1)), (2, .int .i64 (3))] rfl (fun _ => by kernel_rfl)) ?_
  refine t_do rfl (u_bslice (el := 83) [(0, .agg #[.int .i64 (0), .int .i64 (1), .int .i64 (3), .int .i64 (0)])] [.int .i64 (0), .int .i64 (1), .int .i64 (3), .int .i64 (0)] rfl (fun _ => by kernel_rfl)) ?_
  rintro _ _ ⟨g137, rfl, rfl⟩
  refine t_st rfl (st_build (v := .agg #[.int .i64 (9), .slice (some ⟨g136, 0, none⟩) 2 2, .slice (some ⟨g137, 0, none⟩) 1 1]) [(0, .int .i64 (9)), (1, .slice (some ⟨g136, 0, none⟩) 2 2), (2, .slice (some ⟨g137, 0, none⟩) 1 1)] rfl (fun _ => by kernel_rfl)) ?_
  refine t_do rfl (u_alloc [.int .i64 0, .slice none 0 0, .slice none 0 0] zero54 rfl) ?_
  rintro _ _ ⟨g138, rfl, rfl⟩
  refine t_seg 2 [_, _] R rfl rfl ?_
  have h140 : OS 3 (OT.fr (RT.int .i64)) b.w (.slice (some ⟨g136, 0, none⟩) 2 2) [0, 5] [(g136, Cl 3 [.int .i64 (0), .int .i64 (5)])] := OS.lit [[.int .i64 (0)], [.int .i64 (5)]] rfl ⟨rfl, ⟨rfl, trivial⟩⟩ rfl (by decide)
  refine t_seg 1 [_] ([(g136, Cl 3 [.int .i64 (0), .int .i64 (5)])] ++ R) rfl rfl ?_
  have h142 : OS 83 (OT.fr rMendLink) b.w (.slice (some ⟨g137, 0, none⟩) 1 1) [(⟨0, 1, 3, 0⟩ : MendLink)] [(g137, Cl 83 [.int .i64 (0), .int .i64 (1), .int .i64 (3), .int .i64 (0)])] := OS.lit [[.int .i64 (0), .int .i64 (1), .int .i64 (3), .int .i64 (0)]] rfl ⟨⟨[.int .i64 (0)], _, rfl, rfl, ⟨[.int .i64 (1)], _, rfl, rfl, ⟨[.int .i64 (3)], _, rfl, rfl, rfl⟩⟩⟩, trivial⟩ rfl (by decide)
  refine t_do rfl (u_storeN (vs := [_, _, _]) 0 3 rfl rfl rfl siz54 rfl (by intro u hu; simp only [List.mem_cons, List.not_mem_nil, or_false] at hu; rcases hu with rfl | rfl | rfl <;> rfl) rfl (by simp)) ?_
  rintro _ _ rfl
  refine t_nil ?_
  refine x_then_normal ?_
  refine c_seq ?_
  refine c_region ?_
  refine t_st rfl (st_loadD (vs := [_, _, _]) 0 3 rfl agg54 rfl rfl rfl) ?_
  refine t_front2 [_] [(g137, Cl 83 [.int .i64 (0), .int .i64 (1), .int .i64 (3), .int .i64 (0)])] [(g136, Cl 3 [.int .i64 (0), .int .i64 (5)])] R rfl ?_
  refine t_frz [_] [(g136, Cl 3 [.int .i64 (0), .int .i64 (5)])] ([(g137, Cl 83 [.int .i64 (0), .int .i64 (1), .int .i64 (3), .int .i64 (0)])] ++ R) rfl ?_
  intro b143 hle144 hz145
  have h146 := OS.frz (l := [0, 5]) h140 hle144.cells hz145
  refine t_frz [_] [(g137, Cl 83 [.int .i64 (0), .int .i64 (1), .int .i64 (3), .int .i64 (0)])] R rfl ?_
  intro b147 hle148 hz149
  have h150 := OS.frz (l := [(⟨0, 1, 3, 0⟩ : MendLink)]) (h142.le hle144) hle148.cells hz149
  obtain ⟨⟨x151, l152⟩, hcl153, hm⟩ := bindS hm
  have hm := (unc2E hm)
  refine t_callG _ rfl call28 rfl (cMendRoom _ _ (⟨9, [0, 5], [(⟨0, 1, 3, 0⟩ : MendLink)]⟩ : MendRound) (some ⟨g136, 0, none⟩) 2 (some ⟨g137, 0, none⟩) 1 (h146.le hle148) h150 x151 l152 hcl153) ?_
  rintro _ b154 _ hle155 ⟨A156, c157, hs158, rfl, rfl, h159⟩
  refine t_in1 [] [_] hs158 R rfl ?_
  refine t_st rfl (st_move rfl) ?_
  refine t_st rfl (st_extract rfl rfl) ?_
  refine t_st rfl (st_extract rfl rfl) ?_
  refine t_st rfl (st_assign rfl) ?_
  refine t_st rfl (st_assign rfl) ?_
  refine t_nil ?_
  refine x_then_normal ?_
  obtain ⟨x215, hj216, hk216⟩ := bindS hm
  refine c_join (fun b213 e' hp' => [(0, .bool (x215))] = e' ∧ R = hp' ∧ b154.Le b213) ?_ ?_
  ·
    have hm := hj216
    refine c_region ?_
    refine t_st rfl (st_move rfl) ?_
    refine t_bool rfl (st_eql rfl rfl) (fun hc217 => ?_) (fun hc217 => ?_)
    ·
      rw [if_pos hc217] at hm
      refine t_st rfl (st_move rfl) ?_
      refine t_yes 15 rfl rfl rfl ?_
      refine t_st rfl (st_move rfl) ?_
      refine t_yes 15 rfl rfl rfl ?_
      refine t_st rfl (st_len rfl sl45) ?_
      refine t_yes 15 rfl rfl rfl ?_
      refine t_bool rfl (st_eql rfl rfl) (fun hc218 => ?_) (fun hc218 => ?_)
      ·
        rw [if_pos hc218] at hm
        refine t_st rfl (st_pick_t rfl rfl) ?_
        refine t_st rfl (st_move rfl) ?_
        refine t_yes 20 rfl rfl rfl ?_
        refine t_st rfl (st_move rfl) ?_
        refine t_yes 20 rfl rfl rfl ?_
        obtain ⟨x219, h220, hm⟩ := bindS hm
        obtain ⟨j221, hj222, hx223⟩ := idx_some h220
        obtain ⟨cs224, hs229, P230, P231, hq232, hr225, hcs226, hA227, hlt228, hb233, hho234⟩ := OS.get (sz := 1) rfl (by decide) h159 hx223
        obtain ⟨v235, rfl, h236⟩ := hr225
        obtain ⟨A237, c238, rfl, _⟩ := h236.form
        refine t_st rfl (st_index_old j221 rfl rfl hj222 hlt228 hA227 sl45) ?_
        refine t_yes 20 rfl rfl rfl ?_
        refine t_st rfl (st_load_rd rfl one22 (fun w ho => hcs226 w _ ho (.cons _ (List.sublist_append_left _ _)) 0 _ rfl)) ?_
        refine t_yes 20 rfl rfl rfl ?_
        refine t_do rfl (u_bslice (el := 3) [(0, .int .i64 (0)), (1, .int .i64 (2))] [.int .i64 (0), .int .i64 (2)] rfl (fun _ => by kernel_rfl)) ?_
        rintro _ _ ⟨g239, rfl, rfl⟩
        refine t_yes 20 rfl rfl rfl ?_
        refine t_seg 0 [_] (hs158 ++ R) rfl rfl ?_
        have h241 : OS 3 (OT.fr (RT.int .i64)) b154.w (.slice (some ⟨g239, 0, none⟩) 2 2) [0, 2] [(g239, Cl 3 [.int .i64 (0), .int .i64 (2)])] := OS.lit [[.int .i64 (0)], [.int .i64 (2)]] rfl ⟨rfl, ⟨rfl, trivial⟩⟩ rfl (by decide)
        obtain ⟨x242, hcl243, hm⟩ := bindS hm
        refine t_do rfl (u_callW0 _ call22 rfl (fun w ho => cSlicesEqual _ [] x219 [0, 2] A237 c238 (some ⟨g239, 0, none⟩) 2 (OS.now h236 ho ((show hs229.Sublist hs158 by rw [hq232]; exact sub_skip _ (List.sublist_append_left _ _)).trans (.cons _ (sub_skip [(g239, Cl 3 [.int .i64 (0), .int .i64 (2)])] (List.sublist_append_left _ _))))) (OS.now (o := (OT.fr (RT.int .i64))) (l := [0, 2]) (hs := [(g239, Cl 3 [.int .i64 (0), .int .i64 (2)])]) h241 ho (.cons _ (List.sublist_append_left _ _))) x242 hcl243) (fun _ _ _ h => h.2.symm)) ?_
        rintro _ _ ⟨⟨_, rfl, _⟩, rfl⟩
        rcases Bool.eq_false_or_eq_true x242 with hc244 | hc244
        ·
          rw [if_pos hc244] at hm
          refine t_resp 25 rfl (v' := .bool true) (by rw [hc244] <;> rfl) ?_
          refine t_st rfl (st_pick_t rfl rfl) ?_
          refine t_st rfl (st_move rfl) ?_
          refine t_yes 27 rfl rfl rfl ?_
          refine t_st rfl (st_move rfl) ?_
          refine t_yes 27 rfl rfl rfl ?_
          obtain ⟨x245, h246, hm⟩ := bindS hm
          obtain ⟨j247, hj248, hx249⟩ := idx_some h246
          obtain ⟨cs250, hs255, P256, P257, hq258, hr251, hcs252, hA253, hlt254, hb259, hho260⟩ := OS.get (sz := 1) rfl (by decide) h159 hx249
          obtain ⟨v261, rfl, h262⟩ := hr251
          obtain ⟨A263, c264, rfl, _⟩ := h262.form
          refine t_st rfl (st_index_old j247 rfl rfl hj248 hlt254 hA253 sl45) ?_
          refine t_yes 27 rfl rfl rfl ?_
          refine t_st rfl (st_load_rd rfl one22 (fun w ho => hcs252 w _ ho (.cons _ (sub_skip [(g239, Cl 3 [.int .i64 (0), .int .i64 (2)])] (List.sublist_append_left _ _))) 0 _ rfl)) ?_
          refine t_yes 27 rfl rfl rfl ?_
          refine t_do rfl (u_bslice (el := 3) [(0, .int .i64 ((-1))), (1, .int .i64 (0))] [.int .i64 ((-1)), .int .i64 (0)] rfl (fun _ => by kernel_rfl)) ?_
          rintro _ _ ⟨g265, rfl, rfl⟩
          refine t_yes 27 rfl rfl rfl ?_
          refine t_seg 0 [_] ([(g239, Cl 3 [.int .i64 (0), .int .i64 (2)])] ++ (hs158 ++ R)) rfl rfl ?_
          have h267 : OS 3 (OT.fr (RT.int .i64)) b154.w (.slice (some ⟨g265, 0, none⟩) 2 2) [(-1), 0] [(g265, Cl 3 [.int .i64 ((-1)), .int .i64 (0)])] := OS.lit [[.int .i64 ((-1))], [.int .i64 (0)]] rfl ⟨rfl, ⟨rfl, trivial⟩⟩ rfl (by decide)
          obtain ⟨x268, hcl269, hm⟩ := bindS hm
          refine t_do rfl (u_callW0 _ call22 rfl (fun w ho => cSlicesEqual _ [] x245 [(-1), 0] A263 c264 (some ⟨g265, 0, none⟩) 2 (OS.now h262 ho ((show hs255.Sublist hs158 by rw [hq258]; exact sub_skip _ (List.sublist_append_left _ _)).trans (.cons _ (sub_skip [(g265, Cl 3 [.int .i64 ((-1)), .int .i64 (0)])] (sub_skip [(g239, Cl 3 [.int .i64 (0), .int .i64 (2)])] (List.sublist_append_left _ _)))))) (OS.now (o := (OT.fr (RT.int .i64))) (l := [(-1), 0]) (hs := [(g265, Cl 3 [.int .i64 ((-1)), .int .i64 (0)])]) h267 ho (.cons _ (List.sublist_append_left _ _))) x268 hcl269) (fun _ _ _ h => h.2.symm)) ?_
          rintro _ _ ⟨⟨_, rfl, _⟩, rfl⟩
          refine t_st rfl (st_pick_t rfl rfl) ?_
          refine t_st rfl (st_assign rfl) ?_
          refine t_nil ?_
          obtain rfl := some1 hm
          exact x_join (e' := [(0, .bool (x268))]) (hp' := R) ⟨rfl, trivial⟩ (.cons _ (sub_skip [(g265, Cl 3 [.int .i64 ((-1)), .int .i64 (0)])] (sub_skip [(g239, Cl 3 [.int .i64 (0), .int .i64 (2)])] (sub_skip hs158 (.refl _))))) ⟨rfl, rfl, (Base.Le.refl _)⟩
        ·
          rw [if_neg (fun hh => Bool.noConfusion (hh.symm.trans hc244))] at hm
          refine t_resp 25 rfl (v' := .bool false) (by rw [hc244] <;> rfl) ?_
          refine t_st rfl (st_pick_t rfl rfl) ?_
          refine t_st rfl (st_move rfl) ?_
          refine t_no 27 rfl rfl rfl rfl rfl ?_
          refine t_no 27 rfl rfl rfl rfl rfl ?_
          refine t_no 27 rfl rfl rfl rfl rfl ?_
          refine t_no 27 rfl rfl rfl rfl rfl ?_
          refine t_no 27 rfl rfl rfl rfl rfl ?_
          refine t_st rfl (st_pick_f rfl rfl) ?_
          refine t_st rfl (st_assign rfl) ?_
          refine t_nil ?_
          obtain rfl := some1 hm
          exact x_join (e' := [(0, .bool (false))]) (hp' := R) ⟨rfl, trivial⟩ (.cons _ (sub_skip [(g239, Cl 3 [.int .i64 (0), .int .i64 (2)])] (sub_skip hs158 (.refl _)))) ⟨rfl, rfl, (Base.Le.refl _)⟩
      ·
        rw [if_neg hc218] at hm
        refine t_st rfl (st_pick_t rfl rfl) ?_
        refine t_st rfl (st_move rfl) ?_
        refine t_no 20 rfl rfl rfl rfl rfl ?_
        refine t_no 20 rfl rfl rfl rfl rfl ?_
        refine t_no 20 rfl rfl rfl rfl rfl ?_
        refine t_no 20 rfl rfl rfl rfl rfl ?_
        refine t_no 20 rfl rfl rfl rfl rfl ?_
        refine t_st rfl (st_pick_f rfl rfl) ?_
        refine t_st rfl (st_move rfl) ?_
        refine t_no 27 rfl rfl rfl rfl rfl ?_
        refine t_no 27 rfl rfl rfl rfl rfl ?_
        refine t_no 27 rfl rfl rfl rfl rfl ?_
        refine t_no 27 rfl rfl rfl rfl rfl ?_
        refine t_no 27 rfl rfl rfl rfl rfl ?_
        refine t_st rfl (st_pick_f rfl rfl) ?_
        refine t_st rfl (st_assign rfl) ?_
        refine t_nil ?_
        obtain rfl := some1 hm
        exact x_join (e' := [(0, .bool (false))]) (hp' := R) ⟨rfl, trivial⟩ (.cons _ (sub_skip hs158 (.refl _))) ⟨rfl, rfl, (Base.Le.refl _)⟩
    ·
      rw [if_neg hc217] at hm
      refine t_st rfl (st_move rfl) ?_
      refine t_no 15 rfl rfl rfl rfl rfl ?_
      refine t_no 15 rfl rfl rfl rfl rfl ?_
      refine t_no 15 rfl rfl rfl rfl rfl ?_
      refine t_st rfl (st_pick_f rfl rfl) ?_
      refine t_st rfl (st_move rfl) ?_
      refine t_no 20 rfl rfl rfl rfl rfl ?_
      refine t_no 20 rfl rfl rfl rfl rfl ?_
      refine t_no 20 rfl rfl rfl rfl rfl ?_
      refine t_no 20 rfl rfl rfl rfl rfl ?_
      refine t_no 20 rfl rfl rfl rfl rfl ?_
      refine t_st rfl (st_pick_f rfl rfl) ?_
      refine t_st rfl (st_move rfl) ?_
      refine t_no 27 rfl rfl rfl rfl rfl ?_
      refine t_no 27 rfl rfl rfl rfl rfl ?_
      refine t_no 27 rfl rfl rfl rfl rfl ?_
      refine t_no 27 rfl rfl rfl rfl rfl ?_
      refine t_no 27 rfl rfl rfl rfl rfl ?_
      refine t_st rfl (st_pick_f rfl rfl) ?_
      refine t_st rfl (st_assign rfl) ?_
      refine t_nil ?_
      obtain rfl := some1 hm
      exact x_join (e' := [(0, .bool (false))]) (hp' := R) ⟨rfl, trivial⟩ (.cons _ (sub_skip hs158 (.refl _))) ⟨rfl, rfl, (Base.Le.refl _)⟩
  ·
    rintro b213 _ _ ⟨rfl, rfl, hle214⟩
    have hm := hk216
    refine c_ret ?_
    obtain rfl := some1 hm
    exact retM (rs := [.tmp 0]) [.bool (x215)] (hle144.trans (hle148.trans (hle155.trans hle214))) (by decide) rfl ⟨rfl, trivial⟩ rfl (hp' := R) (.refl _) ⟨rfl, rfl⟩

set_option maxRecDepth 20000 in
theorem cMendClosure_1 (b : Base) (R : Hp) (l5 : (List Int)) (l9 : (List (List Int))) (g1 : Nat) (A2 : Option Addr) (c3 : Nat) (A6 : Option Addr) (c7 : Nat) (h4 : FZ (RT.int .i64) b.w A2 c3 l5) (h8 : FZ (RT.list (RT.int .i64)) b.w A6 c7 l9) (x10 : Bool) (hm : mMendClosure_1 l5 l9 = some x10) :
    CallsG Try.prog 43 [.slice A2 (l5).length c3, .pointer (some ⟨g1, 0, none⟩)] b ((g1, Cl 45 [.slice A6 (l9).length c7]) :: R) (fun v b' hp' => .bool (x10) = v ∧ (g1, Cl 45 [.slice A6 (l9).length c7]) :: R = hp') := by
  refine fn_enterG 9 Try.func43 rfl Try.ntmps43 rfl ?_
  unfold mMendClosure_1 at hm
  refine c_seq ?_
  refine c_region ?_
  refine t_st rfl (st_assign rfl) ?_
  refine t_nil ?_
  refine x_then_normal ?_
  refine c_seq ?_
  refine c_region ?_
  refine t_st rfl (st_move rfl) ?_
  refine t_st rfl (st_len rfl sl22) ?_
  refine t_st rfl (st_load 0 rfl one45 rfl rfl) ?_
  refine t_st rfl (st_len rfl sl45) ?_
  refine t_st rfl (st_neq rfl rfl) ?_
  refine t_st rfl (st_assign rfl) ?_
  refine t_nil ?_
  refine x_then_normal ?_
  refine c_ret ?_
  obtain rfl := some1 hm
  exact retM (rs := [.tmp 3]) [.bool (decide ((l5.length : Int) ≠ (l9.length : Int)))] (Base.Le.refl _) (by decide) rfl ⟨rfl, trivial⟩ rfl (hp' := (g1, Cl 45 [.slice A6 (l9).length c7]) :: R) (.cons_cons _ (.refl _)) ⟨rfl, rfl⟩

end Go.Proofs.Ytakehdnblmonlaa
