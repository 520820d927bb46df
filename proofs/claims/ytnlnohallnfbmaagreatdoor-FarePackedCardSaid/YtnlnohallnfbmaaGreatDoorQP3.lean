/- Contracts: the code computes its model (part 3). -/
import Derived.Test.YtnlnohallnfbmaaGreatDoorQP2
set_option linter.unusedVariables false
set_option linter.unusedSimpArgs false
namespace Go.Proofs.YtnlnohallnfbmaaGreatDoor
open Go.RowKit Go.Fp

set_option maxRecDepth 20000 in
theorem cSlicesSwapRangeCmpFunc (b : Base) (R : Hp) (x7 : Int) (x8 : Int) (x9 : Int) (l13 : (List FareSpan)) (l14 : (List Int)) (g6 : Nat) (A10 : Option Addr) (c11 : Nat) (A3 : Option Addr) (c4 : Nat) (hs2 : Hp) (h12 : FZ rFareSpan b.w A10 c11 l13) (h5 : OS 3 (OT.fr (RT.int .i64)) b.w (.slice A3 l14.length c4) l14 hs2) (l474 : (List Int)) (hm : mSlicesSwapRangeCmpFunc x7 x8 x9 l13 l14 = some l474) :
    CallsG Tryz.prog 123 [.slice A3 (l14).length c4, .int .i64 (x7), .int .i64 (x8), .int .i64 (x9), .func (.func 37) #[] #[.pointer (some ⟨g6, 0, none⟩)]] b ((g6, Cl 43 [.slice A10 (l13).length c11]) :: (hs2 ++ R)) (fun v b' hp' => ∃ (hs472 : Hp), .tuple #[] = v ∧ (g6, Cl 43 [.slice A10 (l13).length c11]) :: (hs472 ++ R) = hp' ∧ OS 3 (OT.fr (RT.int .i64)) b'.w (.slice A3 l474.length c4) l474 hs472 ∧ l474.length = l14.length) := by
  refine fn_enterG 38 Tryz.func123 rfl Tryz.ntmps123 rfl ?_
  unfold mSlicesSwapRangeCmpFunc at hm
  refine c_sr ?_
  refine t_as rfl rfl ?_
  refine t_ne ?_
  refine c_block ?_
  refine c_loopM (unc2 fun x782 l783 => fun b777 e' hp' => ∃ (hs780 : Hp), [(0, .slice A3 (l783).length c4), (1, .int .i64 (x7)), (2, .int .i64 (x8)), (3, .int .i64 (x9)), (10, .int .i64 (x782))] = e' ∧ (g6, Cl 43 [.slice A10 (l13).length c11]) :: (hs780 ++ R) = hp' ∧ b.Le b777 ∧ OS 3 (OT.fr (RT.int .i64)) b777.w (.slice A3 l783.length c4) l783 hs780 ∧ l783.length = l14.length) hm (e' := [(0, .slice A3 (l14).length c4), (1, .int .i64 (x7)), (2, .int .i64 (x8)), (3, .int .i64 (x9)), (10, .int .i64 (0))]) ⟨rfl, rfl, rfl, rfl, rfl, trivial⟩ (.refl _) ⟨hs2, rfl, rfl, (Base.Le.refl _), h5, rfl⟩ ?_
  rintro ⟨x782, l783⟩ b777 _ _ oL476 ⟨hs780, rfl, rfl, hle778, h781, hln784⟩ hstepL476 houtL476
  unfold mSlicesSwapRangeCmpFunc_L476 at hstepL476
  have hm := (unc2E hstepL476)
  refine c_seq ?_
  refine c_sr ?_
  refine t_mv rfl rfl ?_
  refine t_mv rfl rfl ?_
  refine t_st rfl (st_lss rfl rfl) ?_
  refine t_ne ?_
  refine c_cond _ rfl (fun hc785 => ?_) (fun hc785 => ?_)
  ·
   rw [if_pos (of_decide_eq_true hc785)] at hm
   refine c_skip ?_
   refine x_then_normal ?_
   refine c_seq ?_
   refine c_block ?_
   obtain ⟨_, h858, hm⟩ := bindS hm
   obtain ⟨_, h859, hm⟩ := bindS hm
   obtain ⟨_, h860, hm⟩ := bindS hm
   obtain ⟨x861, h862, hm⟩ := bindS hm
   obtain ⟨_, h877, hm⟩ := bindS hm
   obtain ⟨x878, h879, hm⟩ := bindS hm
   obtain ⟨x894, h895, hm⟩ := bindS hm
   obtain ⟨x912, h913, hm⟩ := bindS hm
   refine D_drawI mixed (.cons_cons _ (sub_skip hs780 (.refl _))) ?_
   refine E_st 0 rfl (st_move rfl) ?_
   refine E_st 1 rfl (st_move rfl) ?_
   refine E_st 2 rfl (st_move rfl) ?_
   have h858 := (chk_some h858).2
   refine E_st 3 rfl (st_add rfl rfl h858) ?_
   refine E_st 4 rfl (st_move rfl) ?_
   refine E_st 5 rfl (st_move rfl) ?_
   refine E_st 6 rfl (st_move rfl) ?_
   have h859 := (chk_some h859).2
   refine E_st 7 rfl (st_add rfl rfl h859) ?_
   refine E_st 8 rfl (st_move rfl) ?_
   refine E_st 9 rfl (st_move rfl) ?_
   refine E_st 10 rfl (st_move rfl) ?_
   have h860 := (chk_some h860).2
   refine E_st 11 rfl (st_add rfl rfl h860) ?_
   obtain ⟨j863, hj864, hx865⟩ := idx_some h862
   obtain ⟨cs866, hs871, P872, P873, hq874, hr867, hcs868, hA869, hlt870, hb875, hho876⟩ := OS.get (sz := 1) rfl (by decide) h781 hx865
   obtain ⟨rfl, rfl⟩ := hr867
   refine E_st 12 rfl (st_index_old j863 rfl rfl hj864 hlt870 hA869 sl22) ?_
   refine E_st 14 rfl (st_move rfl) ?_
   refine E_st 15 rfl (st_move rfl) ?_
   refine E_st 16 rfl (st_move rfl) ?_
   have h877 := (chk_some h877).2
   refine E_st 17 rfl (st_add rfl rfl h877) ?_
   obtain ⟨j880, hj881, hx882⟩ := idx_some h879
   obtain ⟨cs883, hs888, P889, P890, hq891, hr884, hcs885, hA886, hlt887, hb892, hho893⟩ := OS.get (sz := 1) rfl (by decide) h781 hx882
   obtain ⟨rfl, rfl⟩ := hr884
   refine E_st 18 rfl (st_index_old j880 rfl rfl hj881 hlt887 hA886 sl22) ?_
   refine E_out ?_
   refine D_all [13, 19] (by kernel_rfl) rfl ?_
   refine R_do (Base.Le.refl _) rfl rfl (Stable.does (st_load_rd rfl one3 (fun w ho => hcs868 w _ ho (.cons _ (List.sublist_append_left _ _)) 0 _ rfl))) ?_ ?_
   ·
    rintro _ _ ⟨rfl, rfl⟩
    refine ⟨.inr (.cons_cons _ (sub_skip hs780 (.refl _))), ?_⟩
    refine D_all [19] (by kernel_rfl) rfl ?_
    refine R_do (Base.Le.refl _) rfl rfl (Stable.does (st_load_rd rfl one3 (fun w ho => hcs885 w _ ho (.cons _ (List.sublist_append_left _ _)) 0 _ rfl))) ?_ ?_
    ·
     rintro _ _ ⟨rfl, rfl⟩
     refine ⟨.inr (.cons_cons _ (sub_skip hs780 (.refl _))), ?_⟩
     obtain ⟨j896, hj897, hx898⟩ := idx_some h895
     obtain ⟨cs899, hs904, P905, P906, hq907, hr900, hcs901, hA902, hlt903, hb908, hho909⟩ := OS.get (sz := 1) rfl (by decide) h781 hx898
     obtain ⟨rfl, rfl⟩ := hr900
     refine E_in (.cons_cons _ (sub_skip hs780 (.refl _))) ?_
     refine E_st 20 rfl (st_index_old j896 rfl rfl hj897 hlt903 hA902 sl22) ?_
     refine E_out ?_
     refine D_all [21] (by kernel_rfl) rfl ?_
     refine R_do (Base.Le.refl _) rfl rfl (u_putOS hj897 (sz := 1) (a' := x861) rfl [_] R 0 1 [.int .i64 (x861)] rfl h781 hx898 rfl rfl rfl siz3 rfl (mem_c rfl mem_n) (fun cs hsj hh => by obtain ⟨rfl, rfl⟩ := hh; exact ⟨by decide, rfl, rfl⟩)) ?_ ?_
     ·
      rintro _ _ ⟨hs910, rfl, h911⟩
      refine ⟨.inr (.cons_cons _ (sub_skip hs910 (.refl _))), ?_⟩
      refine d_resp 0 rfl (v' := .slice A3 (put l783 (x7 + x782) x861).length c4) (by simp only [put_length]) ?_
      refine d_resp 20 rfl (v' := .slice A3 (put l783 (x7 + x782) x861).length c4) (by simp only [put_length]) ?_
      obtain ⟨j914, hj915, hx916⟩ := idx_some h913
      obtain ⟨cs917, hs922, P923, P924, hq925, hr918, hcs919, hA920, hlt921, hb926, hho927⟩ := OS.get (sz := 1) rfl (by decide) h911 hx916
      obtain ⟨rfl, rfl⟩ := hr918
      refine E_in (.cons_cons _ (sub_skip hs910 (.refl _))) ?_
      refine E_st 22 rfl (st_index_old j914 rfl rfl hj915 hlt921 hA920 sl22) ?_
      refine E_out ?_
      refine D_all [23] (by kernel_rfl) rfl ?_
      refine R_do (Base.Le.refl _) rfl rfl (u_putOS hj915 (sz := 1) (a' := x878) rfl [_] R 0 1 [.int .i64 (x878)] rfl h911 hx916 rfl rfl rfl siz3 rfl (mem_c rfl mem_n) (fun cs hsj hh => by obtain ⟨rfl, rfl⟩ := hh; exact ⟨by decide, rfl, rfl⟩)) ?_ ?_
      ·
       rintro _ _ ⟨hs928, rfl, h929⟩
       refine ⟨.inl (by kernel_rfl), ?_⟩
       refine d_resp 0 rfl (v' := .slice A3 (put (put l783 (x7 + x782) x861) (x8 + x782) x878).length c4) (by simp only [put_length]) ?_
       refine D_done (by kernel_rfl) ?_
       refine x_block_normal ?_
       refine x_then_normal ?_
       refine c_region ?_
       refine t_mv rfl rfl ?_
       obtain ⟨_, h930, hm⟩ := bindS hm
       have h930 := (chk_some h930).2
       refine t_st rfl (st_add rfl rfl h930) ?_
       refine t_as rfl rfl ?_
       refine t_nil ?_
       exact x_againM (x782 + 1, put (put l783 (x7 + x782) x861) (x8 + x782) x878) (Option.some.inj hm).symm (e' := [(0, .slice A3 (put (put l783 (x7 + x782) x861) (x8 + x782) x878).length c4), (1, .int .i64 (x7)), (2, .int .i64 (x8)), (3, .int .i64 (x9)), (10, .int .i64 (x782 + 1))]) ⟨rfl, rfl, rfl, rfl, rfl, trivial⟩ (.refl _) ⟨hs928, rfl, rfl, (hle778), h929, ((put_length _ _ _).trans ((put_length _ _ _).trans hln784))⟩
      exact R_nil
     exact R_nil
    exact R_nil
   refine R_do (Base.Le.refl _) rfl rfl (Stable.does (st_load_rd rfl one3 (fun w ho => hcs885 w _ ho (.cons _ (List.sublist_append_left _ _)) 0 _ rfl))) ?_ ?_
   ·
    rintro _ _ ⟨rfl, rfl⟩
    refine ⟨.inr (.cons_cons _ (sub_skip hs780 (.refl _))), ?_⟩
    refine D_all [13] (by kernel_rfl) rfl ?_
    refine R_do (Base.Le.refl _) rfl rfl (Stable.does (st_load_rd rfl one3 (fun w ho => hcs868 w _ ho (.cons _ (List.sublist_append_left _ _)) 0 _ rfl))) ?_ ?_
    ·
     rintro _ _ ⟨rfl, rfl⟩
     refine ⟨.inr (.cons_cons _ (sub_skip hs780 (.refl _))), ?_⟩
     obtain ⟨j896, hj897, hx898⟩ := idx_some h895
     obtain ⟨cs899, hs904, P905, P906, hq907, hr900, hcs901, hA902, hlt903, hb908, hho909⟩ := OS.get (sz := 1) rfl (by decide) h781 hx898
     obtain ⟨rfl, rfl⟩ := hr900
     refine E_in (.cons_cons _ (sub_skip hs780 (.refl _))) ?_
     refine E_st 20 rfl (st_index_old j896 rfl rfl hj897 hlt903 hA902 sl22) ?_
     refine E_out ?_
     refine D_all [21] (by kernel_rfl) rfl ?_
     refine R_do (Base.Le.refl _) rfl rfl (u_putOS hj897 (sz := 1) (a' := x861) rfl [_] R 0 1 [.int .i64 (x861)] rfl h781 hx898 rfl rfl rfl siz3 rfl (mem_c rfl mem_n) (fun cs hsj hh => by obtain ⟨rfl, rfl⟩ := hh; exact ⟨by decide, rfl, rfl⟩)) ?_ ?_
     ·
      rintro _ _ ⟨hs910, rfl, h911⟩
      refine ⟨.inr (.cons_cons _ (sub_skip hs910 (.refl _))), ?_⟩
      refine d_resp 0 rfl (v' := .slice A3 (put l783 (x7 + x782) x861).length c4) (by simp only [put_length]) ?_
      refine d_resp 20 rfl (v' := .slice A3 (put l783 (x7 + x782) x861).length c4) (by simp only [put_length]) ?_
      obtain ⟨j914, hj915, hx916⟩ := idx_some h913
      obtain ⟨cs917, hs922, P923, P924, hq925, hr918, hcs919, hA920, hlt921, hb926, hho927⟩ := OS.get (sz := 1) rfl (by decide) h911 hx916
      obtain ⟨rfl, rfl⟩ := hr918
      refine E_in (.cons_cons _ (sub_skip hs910 (.refl _))) ?_
      refine E_st 22 rfl (st_index_old j914 rfl rfl hj915 hlt921 hA920 sl22) ?_
      refine E_out ?_
      refine D_all [23] (by kernel_rfl) rfl ?_
      refine R_do (Base.Le.refl _) rfl rfl (u_putOS hj915 (sz := 1) (a' := x878) rfl [_] R 0 1 [.int .i64 (x878)] rfl h911 hx916 rfl rfl rfl siz3 rfl (mem_c rfl mem_n) (fun cs hsj hh => by obtain ⟨rfl, rfl⟩ := hh; exact ⟨by decide, rfl, rfl⟩)) ?_ ?_
      ·
       rintro _ _ ⟨hs928, rfl, h929⟩
       refine ⟨.inl (by kernel_rfl), ?_⟩
       refine d_resp 0 rfl (v' := .slice A3 (put (put l783 (x7 + x782) x861) (x8 + x782) x878).length c4) (by simp only [put_length]) ?_
       refine D_done (by kernel_rfl) ?_
       refine x_block_normal ?_
       refine x_then_normal ?_
       refine c_region ?_
       refine t_mv rfl rfl ?_
       obtain ⟨_, h931, hm⟩ := bindS hm
       have h931 := (chk_some h931).2
       refine t_st rfl (st_add rfl rfl h931) ?_
       refine t_as rfl rfl ?_
       refine t_nil ?_
       exact x_againM (x782 + 1, put (put l783 (x7 + x782) x861) (x8 + x782) x878) (Option.some.inj hm).symm (e' := [(0, .slice A3 (put (put l783 (x7 + x782) x861) (x8 + x782) x878).length c4), (1, .int .i64 (x7)), (2, .int .i64 (x8)), (3, .int .i64 (x9)), (10, .int .i64 (x782 + 1))]) ⟨rfl, rfl, rfl, rfl, rfl, trivial⟩ (.refl _) ⟨hs928, rfl, rfl, (hle778), h929, ((put_length _ _ _).trans ((put_length _ _ _).trans hln784))⟩
      exact R_nil
     exact R_nil
    exact R_nil
   exact R_nil
  ·
   rw [if_neg (of_decide_eq_false hc785)] at hm
   refine c_exit ?_
   refine x_then_exit ?_
   refine x_then_exit ?_
   refine x_block_out ?_
   have hm := congrArg some (houtL476 _ (Option.some.inj hm).symm)
   obtain rfl := some1 hm
   exact endM hle778 rfl (.refl _) ⟨hs780, rfl, rfl, h781, hln784⟩

set_option maxRecDepth 20000 in
theorem cSlicesRotateCmpFunc (b : Base) (R : Hp) (x7 : Int) (x8 : Int) (x9 : Int) (l13 : (List FareSpan)) (l14 : (List Int)) (g6 : Nat) (A10 : Option Addr) (c11 : Nat) (A3 : Option Addr) (c4 : Nat) (hs2 : Hp) (h12 : FZ rFareSpan b.w A10 c11 l13) (h5 : OS 3 (OT.fr (RT.int .i64)) b.w (.slice A3 l14.length c4) l14 hs2) (l203 : (List Int)) (hm : mSlicesRotateCmpFunc x7 x8 x9 l13 l14 = some l203) :
    CallsG Tryz.prog 99 [.slice A3 (l14).length c4, .int .i64 (x7), .int .i64 (x8), .int .i64 (x9), .func (.func 37) #[] #[.pointer (some ⟨g6, 0, none⟩)]] b ((g6, Cl 43 [.slice A10 (l13).length c11]) :: (hs2 ++ R)) (fun v b' hp' => ∃ (hs201 : Hp), .tuple #[] = v ∧ (g6, Cl 43 [.slice A10 (l13).length c11]) :: (hs201 ++ R) = hp' ∧ OS 3 (OT.fr (RT.int .i64)) b'.w (.slice A3 l203.length c4) l203 hs201 ∧ l203.length = l14.length) := by
  refine fn_enterG 58 Tryz.func99 rfl Tryz.ntmps99 rfl ?_
  unfold mSlicesRotateCmpFunc at hm
  refine c_sr ?_
  refine t_mv rfl rfl ?_
  refine t_mv rfl rfl ?_
  obtain ⟨_, h205, hm⟩ := bindS hm
  have h205 := (chk_some h205).2
  refine t_st rfl (st_sub rfl rfl h205) ?_
  refine t_as rfl rfl ?_
  refine t_ne ?_
  refine c_sr ?_
  refine t_mv rfl rfl ?_
  refine t_mv rfl rfl ?_
  obtain ⟨_, h206, hm⟩ := bindS hm
  have h206 := (chk_some h206).2
  refine t_st rfl (st_sub rfl rfl h206) ?_
  refine t_as rfl rfl ?_
  refine t_ne ?_
  obtain ⟨⟨x295, l296⟩, hj298, hk298⟩ := bindS hm
  refine c_join (fun b290 e' hp' => ∃ (hs293 : Hp), [(0, .slice A3 (l296).length c4), (2, .int .i64 (x8)), (4, .func (.func 37) #[] #[.pointer (some ⟨g6, 0, none⟩)]), (10, .int .i64 (x295))] = e' ∧ (g6, Cl 43 [.slice A10 (l13).length c11]) :: (hs293 ++ R) = hp' ∧ b.Le b290 ∧ OS 3 (OT.fr (RT.int .i64)) b290.w (.slice A3 l296.length c4) l296 hs293 ∧ l296.length = l14.length) ?_ ?_
  ·
   have hm := hj298
   refine c_block ?_
   refine c_loopM (unc3 fun x356 x357 l358 => fun b351 e' hp' => ∃ (hs354 : Hp), [(0, .slice A3 (l358).length c4), (2, .int .i64 (x8)), (4, .func (.func 37) #[] #[.pointer (some ⟨g6, 0, none⟩)]), (10, .int .i64 (x356)), (11, .int .i64 (x357))] = e' ∧ (g6, Cl 43 [.slice A10 (l13).length c11]) :: (hs354 ++ R) = hp' ∧ b.Le b351 ∧ OS 3 (OT.fr (RT.int .i64)) b351.w (.slice A3 l358.length c4) l358 hs354 ∧ l358.length = l14.length) hm (e' := [(0, .slice A3 (l14).length c4), (2, .int .i64 (x8)), (4, .func (.func 37) #[] #[.pointer (some ⟨g6, 0, none⟩)]), (10, .int .i64 (x8 - x7)), (11, .int .i64 (x9 - x8))]) ⟨rfl, rfl, rfl, rfl, rfl, trivial⟩ (.refl _) ⟨hs2, rfl, rfl, (Base.Le.refl _), h5, rfl⟩ ?_
   rintro ⟨x356, x357, l358⟩ b351 _ _ oL299 ⟨hs354, rfl, rfl, hle352, h355, hln359⟩ hstepL299 houtL299
   unfold mSlicesRotateCmpFunc_L299 at hstepL299
   have hm := (unc3E hstepL299)
   refine c_seq ?_
   refine c_sr ?_
   refine t_mv rfl rfl ?_
   refine t_mv rfl rfl ?_
   refine t_st rfl (st_neq rfl rfl) ?_
   refine t_ne ?_
   refine c_cond _ rfl (fun hc360 => ?_) (fun hc360 => ?_)
   ·
    rw [if_pos (of_decide_eq_true hc360)] at hm
    refine c_skip ?_
    refine x_then_normal ?_
    refine c_block ?_
    refine c_sr ?_
    refine t_mv rfl rfl ?_
    refine t_mv rfl rfl ?_
    refine t_st rfl (st_gtr rfl rfl) ?_
    refine t_ne ?_
    refine c_cond _ rfl (fun hc361 => ?_) (fun hc361 => ?_)
    ·
     rw [if_pos (of_decide_eq_true hc361)] at hm
     refine c_sr ?_
     refine t_mv rfl rfl ?_
     refine t_mv rfl rfl ?_
     refine t_mv rfl rfl ?_
     obtain ⟨_, h362, hm⟩ := bindS hm
     have h362 := (chk_some h362).2
     refine t_st rfl (st_sub rfl rfl h362) ?_
     refine t_mv rfl rfl ?_
     refine t_mv rfl rfl ?_
     refine t_mv rfl rfl ?_
     obtain ⟨l363, hcl364, hm⟩ := bindS hm
     refine t_out1 [_] [] hs354 R rfl ?_
     refine t_callG _ rfl call123 rfl (cSlicesSwapRangeCmpFunc _ _ (x8 - x356) x8 x357 l13 l358 g6 A10 c11 A3 c4 hs354 (h12.le hle352) h355 l363 hcl364) ?_
     rintro _ b365 _ hle366 ⟨hs367, rfl, rfl, h368, h369⟩
     refine t_in1 [_] [] hs367 R rfl ?_
     refine t_resp 0 rfl (v' := .slice A3 (l363).length c4) (by rw [h369]) ?_
     refine t_ne ?_
     refine c_region ?_
     refine t_mv rfl rfl ?_
     refine t_mv rfl rfl ?_
     obtain ⟨_, h370, hm⟩ := bindS hm
     have h370 := (chk_some h370).2
     refine t_st rfl (st_sub rfl rfl h370) ?_
     refine t_as rfl rfl ?_
     refine t_nil ?_
     refine x_block_normal ?_
     exact x_againM (x356 - x357, x357, l363) (Option.some.inj hm).symm (e' := [(0, .slice A3 (l363).length c4), (2, .int .i64 (x8)), (4, .func (.func 37) #[] #[.pointer (some ⟨g6, 0, none⟩)]), (10, .int .i64 (x356 - x357)), (11, .int .i64 (x357))]) ⟨rfl, rfl, rfl, rfl, rfl, trivial⟩ (.refl _) ⟨hs367, rfl, rfl, ((hle352.trans hle366)), h368, (h369.trans hln359)⟩
    ·
     rw [if_neg (of_decide_eq_false hc361)] at hm
     refine c_sr ?_
     refine t_mv rfl rfl ?_
     refine t_mv rfl rfl ?_
     refine t_mv rfl rfl ?_
     obtain ⟨_, h371, hm⟩ := bindS hm
     have h371 := (chk_some h371).2
     refine t_st rfl (st_sub rfl rfl h371) ?_
     refine t_mv rfl rfl ?_
     refine t_mv rfl rfl ?_
     obtain ⟨_, h372, hm⟩ := bindS hm
     have h372 := (chk_some h372).2
     refine t_st rfl (st_add rfl rfl h372) ?_
     refine t_mv rfl rfl ?_
     obtain ⟨_, h373, hm⟩ := bindS hm
     have h373 := (chk_some h373).2
     refine t_st rfl (st_sub rfl rfl h373) ?_
     refine t_mv rfl rfl ?_
     refine t_mv rfl rfl ?_
     obtain ⟨l374, hcl375, hm⟩ := bindS hm
     refine t_out1 [_] [] hs354 R rfl ?_
     refine t_callG _ rfl call123 rfl (cSlicesSwapRangeCmpFunc _ _ (x8 - x356) ((x8 + x357) - x356) x356 l13 l358 g6 A10 c11 A3 c4 hs354 (h12.le hle352) h355 l374 hcl375) ?_
     rintro _ b376 _ hle377 ⟨hs378, rfl, rfl, h379, h380⟩
     refine t_in1 [_] [] hs378 R rfl ?_
     refine t_resp 0 rfl (v' := .slice A3 (l374).length c4) (by rw [h380]) ?_
     refine t_ne ?_
     refine c_region ?_
     refine t_mv rfl rfl ?_
     refine t_mv rfl rfl ?_
     obtain ⟨_, h381, hm⟩ := bindS hm
     have h381 := (chk_some h381).2
     refine t_st rfl (st_sub rfl rfl h381) ?_
     refine t_as rfl rfl ?_
     refine t_nil ?_
     refine x_block_normal ?_
     exact x_againM (x356, x357 - x356, l374) (Option.some.inj hm).symm (e' := [(0, .slice A3 (l374).length c4), (2, .int .i64 (x8)), (4, .func (.func 37) #[] #[.pointer (some ⟨g6, 0, none⟩)]), (10, .int .i64 (x356)), (11, .int .i64 (x357 - x356))]) ⟨rfl, rfl, rfl, rfl, rfl, trivial⟩ (.refl _) ⟨hs378, rfl, rfl, ((hle352.trans hle377)), h379, (h380.trans hln359)⟩
   ·
    rw [if_neg (of_decide_eq_false hc360)] at hm
    refine c_exit ?_
    refine x_then_exit ?_
    refine x_then_exit ?_
    refine x_block_out ?_
    have hm := congrArg some (houtL299 _ (Option.some.inj hm).symm)
    obtain ⟨rfl, rfl⟩ := some2 hm
    exact x_join (e' := [(0, .slice A3 (l358).length c4), (2, .int .i64 (x8)), (4, .func (.func 37) #[] #[.pointer (some ⟨g6, 0, none⟩)]), (10, .int .i64 (x356))]) ⟨rfl, rfl, rfl, rfl, trivial⟩ (.refl _) ⟨hs354, rfl, rfl, hle352, h355, hln359⟩
  ·
   rintro b290 _ _ ⟨hs293, rfl, rfl, hle291, h294, hln297⟩
   have hm := (unc2E hk298)
   refine c_region ?_
   refine t_mv rfl rfl ?_
   refine t_mv rfl rfl ?_
   refine t_mv rfl rfl ?_
   obtain ⟨_, h382, hm⟩ := bindS hm
   have h382 := (chk_some h382).2
   refine t_st rfl (st_sub rfl rfl h382) ?_
   refine t_mv rfl rfl ?_
   refine t_mv rfl rfl ?_
   refine t_mv rfl rfl ?_
   obtain ⟨l383, hcl384, hm⟩ := bindS hm
   refine t_out1 [_] [] hs293 R rfl ?_
   refine t_callG _ rfl call123 rfl (cSlicesSwapRangeCmpFunc _ _ (x8 - x295) x8 x295 l13 l296 g6 A10 c11 A3 c4 hs293 (h12.le hle291) h294 l383 hcl384) ?_
   rintro _ b385 _ hle386 ⟨hs387, rfl, rfl, h388, h389⟩
   refine t_in1 [_] [] hs387 R rfl ?_
   refine t_nil ?_
   obtain rfl := some1 hm
   exact endM (hle291.trans hle386) rfl (.refl _) ⟨hs387, rfl, rfl, h388, (h389.trans hln297)⟩

set_option maxRecDepth 20000 in
theorem cSlicesSymMergeCmpFunc : ∀ (N : Nat) (b : Base) (R : Hp) (x7 : Int) (x8 : Int) (x9 : Int) (l13 : (List FareSpan)) (l14 : (List Int)) (g6 : Nat) (A10 : Option Addr) (c11 : Nat) (A3 : Option Addr) (c4 : Nat) (hs2 : Hp) (h12 : FZ rFareSpan b.w A10 c11 l13) (h5 : OS 3 (OT.fr (RT.int .i64)) b.w (.slice A3 l14.length c4) l14 hs2) (l6705 : (List Int)) (hm : mSlicesSymMergeCmpFunc N x7 x8 x9 l13 l14 = some l6705),
    CallsG Tryz.prog 73 [.slice A3 (l14).length c4, .int .i64 (x7), .int .i64 (x8), .int .i64 (x9), .func (.func 37) #[] #[.pointer (some ⟨g6, 0, none⟩)]] b ((g6, Cl 43 [.slice A10 (l13).length c11]) :: (hs2 ++ R)) (fun v b' hp' => ∃ (hs6703 : Hp), .tuple #[] = v ∧ (g6, Cl 43 [.slice A10 (l13).length c11]) :: (hs6703 ++ R) = hp' ∧ OS 3 (OT.fr (RT.int .i64)) b'.w (.slice A3 l6705.length c4) l6705 hs6703 ∧ l6705.length = l14.length) := by
  intro N
  induction N with
  | zero =>
    intro b R x7 x8 x9 l13 l14 g6 A10 c11 A3 c4 hs2 h12 h5 l6705 hm
    unfold mSlicesSymMergeCmpFunc at hm
    cases hm
  | succ N ih =>
    intro b R x7 x8 x9 l13 l14 g6 A10 c11 A3 c4 hs2 h12 h5 l6705 hm
    refine fn_enterG 220 Tryz.func73 rfl Tryz.ntmps73 rfl ?_
    unfold mSlicesSymMergeCmpFunc at hm
    refine c_seq ?_
    refine c_sr ?_
    refine t_mv rfl rfl ?_
    refine t_mv rfl rfl ?_
    obtain ⟨_, h6707, hm⟩ := bindS hm
    have h6707 := (chk_some h6707).2
    refine t_st rfl (st_sub rfl rfl h6707) ?_
    refine t_st rfl (st_eql rfl rfl) ?_
    refine t_ne ?_
    refine c_cond _ rfl (fun hc6708 => ?_) (fun hc6708 => ?_)
    ·
     rw [if_pos (of_decide_eq_true hc6708)] at hm
     refine c_sr ?_
     refine t_mv rfl rfl ?_
     refine t_as rfl rfl ?_
     refine t_ne ?_
     refine c_sr ?_
     refine t_mv rfl rfl ?_
     refine t_as rfl rfl ?_
     refine t_ne ?_
     obtain ⟨x6949, hj6950, hk6950⟩ := bindS hm
     refine c_join (fun b6947 e' hp' => [(0, .slice A3 (l14).length c4), (1, .int .i64 (x7)), (10, .int .i64 (x6949))] = e' ∧ (g6, Cl 43 [.slice A10 (l13).length c11]) :: (hs2 ++ R) = hp' ∧ b.Le b6947) ?_ ?_
     ·
      have hm := hj6950
      refine c_block ?_
      refine c_loopM (unc2 fun x7110 x7111 => fun b7108 e' hp' => [(0, .slice A3 (l14).length c4), (1, .int .i64 (x7)), (4, .func (.func 37) #[] #[.pointer (some ⟨g6, 0, none⟩)]), (10, .int .i64 (x7110)), (11, .int .i64 (x7111))] = e' ∧ (g6, Cl 43 [.slice A10 (l13).length c11]) :: (hs2 ++ R) = hp' ∧ b.Le b7108) hm (e' := [(0, .slice A3 (l14).length c4), (1, .int .i64 (x7)), (4, .func (.func 37) #[] #[.pointer (some ⟨g6, 0, none⟩)]), (10, .int .i64 (x8)), (11, .int .i64 (x9))]) ⟨rfl, rfl, rfl, rfl, rfl, trivial⟩ (.refl _) ⟨rfl, rfl, (Base.Le.refl _)⟩ ?_
      rintro ⟨x7110, x7111⟩ b7108 _ _ oL6951 ⟨rfl, rfl, hle7109⟩ hstepL6951 houtL6951
      unfold mSlicesSymMergeCmpFunc_L6951 at hstepL6951
      have hm := (unc2E hstepL6951)
      refine c_seq ?_
      refine c_sr ?_
      refine t_mv rfl rfl ?_
      refine t_mv rfl rfl ?_
      refine t_st rfl (st_lss rfl rfl) ?_
      refine t_ne ?_
      refine c_cond _ rfl (fun hc7112 => ?_) (fun hc7112 => ?_)
      ·
       rw [if_pos (of_decide_eq_true hc7112)] at hm
       refine c_skip ?_
       refine x_then_normal ?_
       refine c_block ?_
       refine c_sr ?_
       refine t_mv rfl rfl ?_
       refine t_mv rfl rfl ?_
       obtain ⟨_, h7113, hm⟩ := bindS hm
       have h7113 := (chk_some h7113).2
       refine t_st rfl (st_add rfl rfl h7113) ?_
       refine t_st rfl (st_conv rfl int3_i64 int101_u64) ?_
       obtain ⟨_, h7114, hm⟩ := bindS hm
       have h7114 := shN_some h7114
       refine t_st rfl (st_shr rfl rfl h7114) ?_
       refine t_st rfl (st_conv rfl int101_u64 int3_i64) ?_
       refine t_as rfl rfl ?_
       refine t_ne ?_
       refine c_seq ?_
       obtain ⟨x7151, h7152, hm⟩ := bindS hm
       obtain ⟨x7167, h7168, hm⟩ := bindS hm
       obtain ⟨x7183, hcl7184, hm⟩ := bindS hm
       refine D_drawI mixed (.cons _ (.refl _)) ?_
       refine E_st 0 rfl (st_move rfl) ?_
       refine E_st 1 rfl (st_move rfl) ?_
       refine E_st 2 rfl (st_move rfl) ?_
       obtain ⟨j7153, hj7154, hx7155⟩ := idx_some h7152
       obtain ⟨cs7156, hs7161, P7162, P7163, hq7164, hr7157, hcs7158, hA7159, hlt7160, hb7165, hho7166⟩ := OS.get (sz := 1) rfl (by decide) (h5.le hle7109) hx7155
       obtain ⟨rfl, rfl⟩ := hr7157
       refine E_st 3 rfl (st_index_old j7153 rfl rfl hj7154 hlt7160 hA7159 sl22) ?_
       refine E_st 4 rfl (st_load_rd rfl one3 (fun w ho => hcs7158 w _ ho (List.sublist_append_left _ _) 0 _ rfl)) ?_
       refine E_st 5 rfl (st_move rfl) ?_
       refine E_st 6 rfl (st_move rfl) ?_
       obtain ⟨j7169, hj7170, hx7171⟩ := idx_some h7168
       obtain ⟨cs7172, hs7177, P7178, P7179, hq7180, hr7173, hcs7174, hA7175, hlt7176, hb7181, hho7182⟩ := OS.get (sz := 1) rfl (by decide) (h5.le hle7109) hx7171
       obtain ⟨rfl, rfl⟩ := hr7173
       refine E_st 7 rfl (st_index_old j7169 rfl rfl hj7170 hlt7176 hA7175 sl22) ?_
       refine E_st 8 rfl (st_load_rd rfl one3 (fun w ho => hcs7174 w _ ho (List.sublist_append_left _ _) 0 _ rfl)) ?_
       refine E_out ?_
       refine D_all [9] (by kernel_rfl) rfl ?_
       refine R_callvG (Base.Le.refl _) rfl rfl #[] #[.pointer (some ⟨g6, 0, none⟩)] [.int .i64 (x7151), .int .i64 (x7167)] rfl call37 rfl (cFarePack_1 _ _ x7151 x7167 l13 g6 A10 c11 (h12.le hle7109) x7183 hcl7184) ?_ ?_
       ·
        rintro _ b7185 _ hle7186 ⟨rfl, rfl⟩
        refine ⟨.inr (.cons _ (.refl _)), ?_⟩
        refine D_st hle7186 10 rfl (by kernel_rfl) (by kernel_rfl) (by kernel_rfl) rfl (st_lss rfl rfl) (.cons _ (.refl _)) ?_
        refine D_done (by kernel_rfl) ?_
        refine x_then_normal ?_
        refine c_cond _ rfl (fun hc7187 => ?_) (fun hc7187 => ?_)
        ·
         rw [if_pos (of_decide_eq_true hc7187)] at hm
         refine c_region ?_
         refine t_mv rfl rfl ?_
         obtain ⟨_, h7188, hm⟩ := bindS hm
         have h7188 := (chk_some h7188).2
         refine t_st rfl (st_add rfl rfl h7188) ?_
         refine t_as rfl rfl ?_
         refine t_nil ?_
         refine x_block_normal ?_
         exact x_againM ((IntKind.wrap .i64 (shrI .u64 (IntKind.wrap .u64 (x7110 + x7111)) 1)) + 1, x7111) (Option.some.inj hm).symm (e' := [(0, .slice A3 (l14).length c4), (1, .int .i64 (x7)), (4, .func (.func 37) #[] #[.pointer (some ⟨g6, 0, none⟩)]), (10, .int .i64 ((IntKind.wrap .i64 (shrI .u64 (IntKind.wrap .u64 (x7110 + x7111)) 1)) + 1)), (11, .int .i64 (x7111))]) ⟨rfl, rfl, rfl, rfl, rfl, trivial⟩ (.refl _) ⟨rfl, rfl, ((hle7109.trans hle7186))⟩
        ·
         rw [if_neg (of_decide_eq_false hc7187)] at hm
         refine c_region ?_
         refine t_mv rfl rfl ?_
         refine t_as rfl rfl ?_
         refine t_nil ?_
         refine x_block_normal ?_
         exact x_againM (x7110, IntKind.wrap .i64 (shrI .u64 (IntKind.wrap .u64 (x7110 + x7111)) 1)) (Option.some.inj hm).symm (e' := [(0, .slice A3 (l14).length c4), (1, .int .i64 (x7)), (4, .func (.func 37) #[] #[.pointer (some ⟨g6, 0, none⟩)]), (10, .int .i64 (x7110)), (11, .int .i64 (IntKind.wrap .i64 (shrI .u64 (IntKind.wrap .u64 (x7110 + x7111)) 1)))]) ⟨rfl, rfl, rfl, rfl, rfl, trivial⟩ (.refl _) ⟨rfl, rfl, ((hle7109.trans hle7186))⟩
       exact R_nil
      ·
       rw [if_neg (of_decide_eq_false hc7112)] at hm
       refine c_exit ?_
       refine x_then_exit ?_
       refine x_then_exit ?_
       refine x_block_out ?_
       have hm := congrArg some (houtL6951 _ (Option.some.inj hm).symm)
       obtain rfl := some1 hm
       exact x_join (e' := [(0, .slice A3 (l14).length c4), (1, .int .i64 (x7)), (10, .int .i64 (x7110))]) ⟨rfl, rfl, rfl, trivial⟩ (.refl _) ⟨rfl, rfl, hle7109⟩
     ·
      rintro b6947 _ _ ⟨rfl, rfl, hle6948⟩
      have hm := hk6950
      obtain ⟨l7641, hj7643, hk7643⟩ := bindS hm
      refine c_join (fun b7636 e' hp' => ∃ (hs7639 : Hp), [] = e' ∧ (g6, Cl 43 [.slice A10 (l13).length c11]) :: (hs7639 ++ R) = hp' ∧ b6947.Le b7636 ∧ OS 3 (OT.fr (RT.int .i64)) b7636.w (.slice A3 l7641.length c4) l7641 hs7639 ∧ l7641.length = l14.length) ?_ ?_
      ·
       have hm := hj7643
       refine c_sr ?_
       refine t_mv rfl rfl ?_
       refine t_as rfl rfl ?_
       refine t_ne ?_
       refine c_block ?_
       refine c_loopM (unc2 fun x7944 l7945 => fun b7939 e' hp' => ∃ (hs7942 : Hp), [(0, .slice A3 (l7945).length c4), (10, .int .i64 (x6949)), (13, .int .i64 (x7944))] = e' ∧ (g6, Cl 43 [.slice A10 (l13).length c11]) :: (hs7942 ++ R) = hp' ∧ b6947.Le b7939 ∧ OS 3 (OT.fr (RT.int .i64)) b7939.w (.slice A3 l7945.length c4) l7945 hs7942 ∧ l7945.length = l14.length) hm (e' := [(0, .slice A3 (l14).length c4), (10, .int .i64 (x6949)), (13, .int .i64 (x7))]) ⟨rfl, rfl, rfl, trivial⟩ (.refl _) ⟨hs2, rfl, rfl, (Base.Le.refl _), (h5.le hle6948), rfl⟩ ?_
       rintro ⟨x7944, l7945⟩ b7939 _ _ oL7644 ⟨hs7942, rfl, rfl, hle7940, h7943, hln7946⟩ hstepL7644 houtL7644
       unfold mSlicesSymMergeCmpFunc_L7644 at hstepL7644
       have hm := (unc2E hstepL7644)
       refine c_seq ?_
       refine c_sr ?_
       refine t_mv rfl rfl ?_
       refine t_mv rfl rfl ?_
       obtain ⟨_, h7947, hm⟩ := bindS hm
       have h7947 := (chk_some h7947).2
       refine t_st rfl (st_sub rfl rfl h7947) ?_
       refine t_st rfl (st_lss rfl rfl) ?_
       refine t_ne ?_
       refine c_cond _ rfl (fun hc7948 => ?_) (fun hc7948 => ?_)
       ·
        rw [if_pos (of_decide_eq_true hc7948)] at hm
        refine c_skip ?_
        refine x_then_normal ?_
        refine c_seq ?_
        refine c_block ?_
        obtain ⟨_, h8019, hm⟩ := bindS hm
        obtain ⟨_, h8020, hm⟩ := bindS hm
        obtain ⟨x8021, h8022, hm⟩ := bindS hm
        obtain ⟨x8037, h8038, hm⟩ := bindS hm
        obtain ⟨x8053, h8054, hm⟩ := bindS hm
        obtain ⟨x8071, h8072, hm⟩ := bindS hm
        refine D_drawI mixed (.cons_cons _ (sub_skip hs7942 (.refl _))) ?_
        refine E_st 0 rfl (st_move rfl) ?_
        refine E_st 1 rfl (st_move rfl) ?_
        refine E_st 2 rfl (st_move rfl) ?_
        refine E_st 3 rfl (st_move rfl) ?_
        have h8019 := (chk_some h8019).2
        refine E_st 4 rfl (st_add rfl rfl h8019) ?_
        refine E_st 5 rfl (st_move rfl) ?_
        refine E_st 6 rfl (st_move rfl) ?_
        have h8020 := (chk_some h8020).2
        refine E_st 7 rfl (st_add rfl rfl h8020) ?_
        obtain ⟨j8023, hj8024, hx8025⟩ := idx_some h8022
        obtain ⟨cs8026, hs8031, P8032, P8033, hq8034, hr8027, hcs8028, hA8029, hlt8030, hb8035, hho8036⟩ := OS.get (sz := 1) rfl (by decide) h7943 hx8025
        obtain ⟨rfl, rfl⟩ := hr8027
        refine E_st 8 rfl (st_index_old j8023 rfl rfl hj8024 hlt8030 hA8029 sl22) ?_
        refine E_st 10 rfl (st_move rfl) ?_
        refine E_st 11 rfl (st_move rfl) ?_
        obtain ⟨j8039, hj8040, hx8041⟩ := idx_some h8038
        obtain ⟨cs8042, hs8047, P8048, P8049, hq8050, hr8043, hcs8044, hA8045, hlt8046, hb8051, hho8052⟩ := OS.get (sz := 1) rfl (by decide) h7943 hx8041
        obtain ⟨rfl, rfl⟩ := hr8043
        refine E_st 12 rfl (st_index_old j8039 rfl rfl hj8040 hlt8046 hA8045 sl22) ?_
        refine E_out ?_
        refine D_all [9, 13] (by kernel_rfl) rfl ?_
        refine R_do (Base.Le.refl _) rfl rfl (Stable.does (st_load_rd rfl one3 (fun w ho => hcs8028 w _ ho (.cons _ (List.sublist_append_left _ _)) 0 _ rfl))) ?_ ?_
        ·
         rintro _ _ ⟨rfl, rfl⟩
         refine ⟨.inr (.cons_cons _ (sub_skip hs7942 (.refl _))), ?_⟩
         refine D_all [13] (by kernel_rfl) rfl ?_
         refine R_do (Base.Le.refl _) rfl rfl (Stable.does (st_load_rd rfl one3 (fun w ho => hcs8044 w _ ho (.cons _ (List.sublist_append_left _ _)) 0 _ rfl))) ?_ ?_
         ·
          rintro _ _ ⟨rfl, rfl⟩
          refine ⟨.inr (.cons_cons _ (sub_skip hs7942 (.refl _))), ?_⟩
          obtain ⟨j8055, hj8056, hx8057⟩ := idx_some h8054
          obtain ⟨cs8058, hs8063, P8064, P8065, hq8066, hr8059, hcs8060, hA8061, hlt8062, hb8067, hho8068⟩ := OS.get (sz := 1) rfl (by decide) h7943 hx8057
          obtain ⟨rfl, rfl⟩ := hr8059
          refine E_in (.cons_cons _ (sub_skip hs7942 (.refl _))) ?_
          refine E_st 14 rfl (st_index_old j8055 rfl rfl hj8056 hlt8062 hA8061 sl22) ?_
          refine E_out ?_
          refine D_all [15] (by kernel_rfl) rfl ?_
          refine R_do (Base.Le.refl _) rfl rfl (u_putOS hj8056 (sz := 1) (a' := x8021) rfl [_] R 0 1 [.int .i64 (x8021)] rfl h7943 hx8057 rfl rfl rfl siz3 rfl (mem_c rfl mem_n) (fun cs hsj hh => by obtain ⟨rfl, rfl⟩ := hh; exact ⟨by decide, rfl, rfl⟩)) ?_ ?_
          ·
           rintro _ _ ⟨hs8069, rfl, h8070⟩
           refine ⟨.inr (.cons_cons _ (sub_skip hs8069 (.refl _))), ?_⟩
           refine d_resp 0 rfl (v' := .slice A3 (put l7945 x7944 x8021).length c4) (by simp only [put_length]) ?_
           refine d_resp 63 rfl (v' := .slice A3 (put l7945 x7944 x8021).length c4) (by simp only [put_length]) ?_
           obtain ⟨j8073, hj8074, hx8075⟩ := idx_some h8072
           obtain ⟨cs8076, hs8081, P8082, P8083, hq8084, hr8077, hcs8078, hA8079, hlt8080, hb8085, hho8086⟩ := OS.get (sz := 1) rfl (by decide) h8070 hx8075
           obtain ⟨rfl, rfl⟩ := hr8077
           refine E_in (.cons_cons _ (sub_skip hs8069 (.refl _))) ?_
           refine E_st 16 rfl (st_index_old j8073 rfl rfl hj8074 hlt8080 hA8079 sl22) ?_
           refine E_out ?_
           refine D_all [17] (by kernel_rfl) rfl ?_
           refine R_do (Base.Le.refl _) rfl rfl (u_putOS hj8074 (sz := 1) (a' := x8037) rfl [_] R 0 1 [.int .i64 (x8037)] rfl h8070 hx8075 rfl rfl rfl siz3 rfl (mem_c rfl mem_n) (fun cs hsj hh => by obtain ⟨rfl, rfl⟩ := hh; exact ⟨by decide, rfl, rfl⟩)) ?_ ?_
           ·
            rintro _ _ ⟨hs8087, rfl, h8088⟩
            refine ⟨.inl (by kernel_rfl), ?_⟩
            refine d_resp 0 rfl (v' := .slice A3 (put (put l7945 x7944 x8021) (x7944 + 1) x8037).length c4) (by simp only [put_length]) ?_
            refine D_done (by kernel_rfl) ?_
            refine x_block_normal ?_
            refine x_then_normal ?_
            refine c_region ?_
            refine t_mv rfl rfl ?_
            obtain ⟨_, h8089, hm⟩ := bindS hm
            have h8089 := (chk_some h8089).2
            refine t_st rfl (st_add rfl rfl h8089) ?_
            refine t_as rfl rfl ?_
            refine t_nil ?_
            exact x_againM (x7944 + 1, put (put l7945 x7944 x8021) (x7944 + 1) x8037) (Option.some.inj hm).symm (e' := [(0, .slice A3 (put (put l7945 x7944 x8021) (x7944 + 1) x8037).length c4), (10, .int .i64 (x6949)), (13, .int .i64 (x7944 + 1))]) ⟨rfl, rfl, rfl, trivial⟩ (.refl _) ⟨hs8087, rfl, rfl, (hle7940), h8088, ((put_length _ _ _).trans ((put_length _ _ _).trans hln7946))⟩
           exact R_nil
          exact R_nil
         exact R_nil
        refine R_do (Base.Le.refl _) rfl rfl (Stable.does (st_load_rd rfl one3 (fun w ho => hcs8044 w _ ho (.cons _ (List.sublist_append_left _ _)) 0 _ rfl))) ?_ ?_
        ·
         rintro _ _ ⟨rfl, rfl⟩
         refine ⟨.inr (.cons_cons _ (sub_skip hs7942 (.refl _))), ?_⟩
         refine D_all [9] (by kernel_rfl) rfl ?_
         refine R_do (Base.Le.refl _) rfl rfl (Stable.does (st_load_rd rfl one3 (fun w ho => hcs8028 w _ ho (.cons _ (List.sublist_append_left _ _)) 0 _ rfl))) ?_ ?_
         ·
          rintro _ _ ⟨rfl, rfl⟩
          refine ⟨.inr (.cons_cons _ (sub_skip hs7942 (.refl _))), ?_⟩
          obtain ⟨j8055, hj8056, hx8057⟩ := idx_some h8054
          obtain ⟨cs8058, hs8063, P8064, P8065, hq8066, hr8059, hcs8060, hA8061, hlt8062, hb8067, hho8068⟩ := OS.get (sz := 1) rfl (by decide) h7943 hx8057
          obtain ⟨rfl, rfl⟩ := hr8059
          refine E_in (.cons_cons _ (sub_skip hs7942 (.refl _))) ?_
          refine E_st 14 rfl (st_index_old j8055 rfl rfl hj8056 hlt8062 hA8061 sl22) ?_
          refine E_out ?_
          refine D_all [15] (by kernel_rfl) rfl ?_
          refine R_do (Base.Le.refl _) rfl rfl (u_putOS hj8056 (sz := 1) (a' := x8021) rfl [_] R 0 1 [.int .i64 (x8021)] rfl h7943 hx8057 rfl rfl rfl siz3 rfl (mem_c rfl mem_n) (fun cs hsj hh => by obtain ⟨rfl, rfl⟩ := hh; exact ⟨by decide, rfl, rfl⟩)) ?_ ?_
          ·
           rintro _ _ ⟨hs8069, rfl, h8070⟩
           refine ⟨.inr (.cons_cons _ (sub_skip hs8069 (.refl _))), ?_⟩
           refine d_resp 0 rfl (v' := .slice A3 (put l7945 x7944 x8021).length c4) (by simp only [put_length]) ?_
           refine d_resp 63 rfl (v' := .slice A3 (put l7945 x7944 x8021).length c4) (by simp only [put_length]) ?_
           obtain ⟨j8073, hj8074, hx8075⟩ := idx_some h8072
           obtain ⟨cs8076, hs8081, P8082, P8083, hq8084, hr8077, hcs8078, hA8079, hlt8080, hb8085, hho8086⟩ := OS.get (sz := 1) rfl (by decide) h8070 hx8075
           obtain ⟨rfl, rfl⟩ := hr8077
           refine E_in (.cons_cons _ (sub_skip hs8069 (.refl _))) ?_
           refine E_st 16 rfl (st_index_old j8073 rfl rfl hj8074 hlt8080 hA8079 sl22) ?_
           refine E_out ?_
           refine D_all [17] (by kernel_rfl) rfl ?_
           refine R_do (Base.Le.refl _) rfl rfl (u_putOS hj8074 (sz := 1) (a' := x8037) rfl [_] R 0 1 [.int .i64 (x8037)] rfl h8070 hx8075 rfl rfl rfl siz3 rfl (mem_c rfl mem_n) (fun cs hsj hh => by obtain ⟨rfl, rfl⟩ := hh; exact ⟨by decide, rfl, rfl⟩)) ?_ ?_
           ·
            rintro _ _ ⟨hs8087, rfl, h8088⟩
            refine ⟨.inl (by kernel_rfl), ?_⟩
            refine d_resp 0 rfl (v' := .slice A3 (put (put l7945 x7944 x8021) (x7944 + 1) x8037).length c4) (by simp only [put_length]) ?_
            refine D_done (by kernel_rfl) ?_
            refine x_block_normal ?_
            refine x_then_normal ?_
            refine c_region ?_
            refine t_mv rfl rfl ?_
            obtain ⟨_, h8090, hm⟩ := bindS hm
            have h8090 := (chk_some h8090).2
            refine t_st rfl (st_add rfl rfl h8090) ?_
            refine t_as rfl rfl ?_
            refine t_nil ?_
            exact x_againM (x7944 + 1, put (put l7945 x7944 x8021) (x7944 + 1) x8037) (Option.some.inj hm).symm (e' := [(0, .slice A3 (put (put l7945 x7944 x8021) (x7944 + 1) x8037).length c4), (10, .int .i64 (x6949)), (13, .int .i64 (x7944 + 1))]) ⟨rfl, rfl, rfl, trivial⟩ (.refl _) ⟨hs8087, rfl, rfl, (hle7940), h8088, ((put_length _ _ _).trans ((put_length _ _ _).trans hln7946))⟩
           exact R_nil
          exact R_nil
         exact R_nil
        exact R_nil
       ·
        rw [if_neg (of_decide_eq_false hc7948)] at hm
        refine c_exit ?_
        refine x_then_exit ?_
        refine x_then_exit ?_
        refine x_block_out ?_
        have hm := congrArg some (houtL7644 _ (Option.some.inj hm).symm)
        obtain rfl := some1 hm
        exact x_join (e' := []) trivial (.refl _) ⟨hs7942, rfl, rfl, hle7940, h7943, hln7946⟩
      ·
       rintro b7636 _ _ ⟨hs7639, rfl, rfl, hle7637, h7640, hln7642⟩
       have hm := hk7643
       refine c_ret ?_
       refine x_then_ret ?_
       obtain rfl := some1 hm
       exact retM (rs := []) [] (hle6948.trans hle7637) (by decide) rfl trivial rfl (.refl _) ⟨hs7639, rfl, rfl, h7640, hln7642⟩
    ·
     rw [if_neg (of_decide_eq_false hc6708)] at hm
     refine c_skip ?_
     refine x_then_normal ?_
     refine c_seq ?_
     refine c_sr ?_
     refine t_mv rfl rfl ?_
     refine t_mv rfl rfl ?_
     obtain ⟨_, h8091, hm⟩ := bindS hm
     have h8091 := (chk_some h8091).2
     refine t_st rfl (st_sub rfl rfl h8091) ?_
     refine t_st rfl (st_eql rfl rfl) ?_
     refine t_ne ?_
     refine c_cond _ rfl (fun hc8092 => ?_) (fun hc8092 => ?_)
     ·
      rw [if_pos (of_decide_eq_true hc8092)] at hm
      refine c_sr ?_
      refine t_mv rfl rfl ?_
      refine t_as rfl rfl ?_
      refine t_ne ?_
      refine c_sr ?_
      refine t_mv rfl rfl ?_
      refine t_as rfl rfl ?_
      refine t_ne ?_
      obtain ⟨x8333, hj8334, hk8334⟩ := bindS hm
      refine c_join (fun b8331 e' hp' => [(0, .slice A3 (l14).length c4), (2, .int .i64 (x8)), (14, .int .i64 (x8333))] = e' ∧ (g6, Cl 43 [.slice A10 (l13).length c11]) :: (hs2 ++ R) = hp' ∧ b.Le b8331) ?_ ?_
      ·
       have hm := hj8334
       refine c_block ?_
       refine c_loopM (unc2 fun x8494 x8495 => fun b8492 e' hp' => [(0, .slice A3 (l14).length c4), (2, .int .i64 (x8)), (4, .func (.func 37) #[] #[.pointer (some ⟨g6, 0, none⟩)]), (14, .int .i64 (x8494)), (15, .int .i64 (x8495))] = e' ∧ (g6, Cl 43 [.slice A10 (l13).length c11]) :: (hs2 ++ R) = hp' ∧ b.Le b8492) hm (e' := [(0, .slice A3 (l14).length c4), (2, .int .i64 (x8)), (4, .func (.func 37) #[] #[.pointer (some ⟨g6, 0, none⟩)]), (14, .int .i64 (x7)), (15, .int .i64 (x8))]) ⟨rfl, rfl, rfl, rfl, rfl, trivial⟩ (.refl _) ⟨rfl, rfl, (Base.Le.refl _)⟩ ?_
       rintro ⟨x8494, x8495⟩ b8492 _ _ oL8335 ⟨rfl, rfl, hle8493⟩ hstepL8335 houtL8335
       unfold mSlicesSymMergeCmpFunc_L8335 at hstepL8335
       have hm := (unc2E hstepL8335)
       refine c_seq ?_
       refine c_sr ?_
       refine t_mv rfl rfl ?_
       refine t_mv rfl rfl ?_
       refine t_st rfl (st_lss rfl rfl) ?_
       refine t_ne ?_
       refine c_cond _ rfl (fun hc8496 => ?_) (fun hc8496 => ?_)
       ·
        rw [if_pos (of_decide_eq_true hc8496)] at hm
        refine c_skip ?_
        refine x_then_normal ?_
        refine c_block ?_
        refine c_sr ?_
        refine t_mv rfl rfl ?_
        refine t_mv rfl rfl ?_
        obtain ⟨_, h8497, hm⟩ := bindS hm
        have h8497 := (chk_some h8497).2
        refine t_st rfl (st_add rfl rfl h8497) ?_
        refine t_st rfl (st_conv rfl int3_i64 int101_u64) ?_
        obtain ⟨_, h8498, hm⟩ := bindS hm
        have h8498 := shN_some h8498
        refine t_st rfl (st_shr rfl rfl h8498) ?_
        refine t_st rfl (st_conv rfl int101_u64 int3_i64) ?_
        refine t_as rfl rfl ?_
        refine t_ne ?_
        refine c_seq ?_
        obtain ⟨x8535, h8536, hm⟩ := bindS hm
        obtain ⟨x8551, h8552, hm⟩ := bindS hm
        obtain ⟨x8567, hcl8568, hm⟩ := bindS hm
        refine D_drawI mixed (.cons _ (.refl _)) ?_
        refine E_st 0 rfl (st_move rfl) ?_
        refine E_st 1 rfl (st_move rfl) ?_
        refine E_st 2 rfl (st_move rfl) ?_
        obtain ⟨j8537, hj8538, hx8539⟩ := idx_some h8536
        obtain ⟨cs8540, hs8545, P8546, P8547, hq8548, hr8541, hcs8542, hA8543, hlt8544, hb8549, hho8550⟩ := OS.get (sz := 1) rfl (by decide) (h5.le hle8493) hx8539
        obtain ⟨rfl, rfl⟩ := hr8541
        refine E_st 3 rfl (st_index_old j8537 rfl rfl hj8538 hlt8544 hA8543 sl22) ?_
        refine E_st 4 rfl (st_load_rd rfl one3 (fun w ho => hcs8542 w _ ho (List.sublist_append_left _ _) 0 _ rfl)) ?_
        refine E_st 5 rfl (st_move rfl) ?_
        refine E_st 6 rfl (st_move rfl) ?_
        obtain ⟨j8553, hj8554, hx8555⟩ := idx_some h8552
        obtain ⟨cs8556, hs8561, P8562, P8563, hq8564, hr8557, hcs8558, hA8559, hlt8560, hb8565, hho8566⟩ := OS.get (sz := 1) rfl (by decide) (h5.le hle8493) hx8555
        obtain ⟨rfl, rfl⟩ := hr8557
        refine E_st 7 rfl (st_index_old j8553 rfl rfl hj8554 hlt8560 hA8559 sl22) ?_
        refine E_st 8 rfl (st_load_rd rfl one3 (fun w ho => hcs8558 w _ ho (List.sublist_append_left _ _) 0 _ rfl)) ?_
        refine E_out ?_
        refine D_all [9] (by kernel_rfl) rfl ?_
        refine R_callvG (Base.Le.refl _) rfl rfl #[] #[.pointer (some ⟨g6, 0, none⟩)] [.int .i64 (x8535), .int .i64 (x8551)] rfl call37 rfl (cFarePack_1 _ _ x8535 x8551 l13 g6 A10 c11 (h12.le hle8493) x8567 hcl8568) ?_ ?_
        ·
         rintro _ b8569 _ hle8570 ⟨rfl, rfl⟩
         refine ⟨.inr (.cons _ (.refl _)), ?_⟩
         refine D_st hle8570 10 rfl (by kernel_rfl) (by kernel_rfl) (by kernel_rfl) rfl (st_lss rfl rfl) (.cons _ (.refl _)) ?_
         refine D_st hle8570 11 rfl (by kernel_rfl) (by kernel_rfl) (by kernel_rfl) rfl (st_not rfl) (.cons _ (.refl _)) ?_
         refine D_done (by kernel_rfl) ?_
         refine x_then_normal ?_
         refine c_cond _ rfl (fun hc8571 => ?_) (fun hc8571 => ?_)
         ·
          rw [if_neg (of_decide_eq_false (notT hc8571))] at hm
          refine c_region ?_
          refine t_mv rfl rfl ?_
          obtain ⟨_, h8572, hm⟩ := bindS hm
          have h8572 := (chk_some h8572).2
          refine t_st rfl (st_add rfl rfl h8572) ?_
          refine t_as rfl rfl ?_
          refine t_nil ?_
          refine x_block_normal ?_
          exact x_againM ((IntKind.wrap .i64 (shrI .u64 (IntKind.wrap .u64 (x8494 + x8495)) 1)) + 1, x8495) (Option.some.inj hm).symm (e' := [(0, .slice A3 (l14).length c4), (2, .int .i64 (x8)), (4, .func (.func 37) #[] #[.pointer (some ⟨g6, 0, none⟩)]), (14, .int .i64 ((IntKind.wrap .i64 (shrI .u64 (IntKind.wrap .u64 (x8494 + x8495)) 1)) + 1)), (15, .int .i64 (x8495))]) ⟨rfl, rfl, rfl, rfl, rfl, trivial⟩ (.refl _) ⟨rfl, rfl, ((hle8493.trans hle8570))⟩
         ·
          rw [if_pos (of_decide_eq_true (notF hc8571))] at hm
          refine c_region ?_
          refine t_mv rfl rfl ?_
          refine t_as rfl rfl ?_
          refine t_nil ?_
          refine x_block_normal ?_
          exact x_againM (x8494, IntKind.wrap .i64 (shrI .u64 (IntKind.wrap .u64 (x8494 + x8495)) 1)) (Option.some.inj hm).symm (e' := [(0, .slice A3 (l14).length c4), (2, .int .i64 (x8)), (4, .func (.func 37) #[] #[.pointer (some ⟨g6, 0, none⟩)]), (14, .int .i64 (x8494)), (15, .int .i64 (IntKind.wrap .i64 (shrI .u64 (IntKind.wrap .u64 (x8494 + x8495)) 1)))]) ⟨rfl, rfl, rfl, rfl, rfl, trivial⟩ (.refl _) ⟨rfl, rfl, ((hle8493.trans hle8570))⟩
        exact R_nil
       ·
        rw [if_neg (of_decide_eq_false hc8496)] at hm
        refine c_exit ?_
        refine x_then_exit ?_
        refine x_then_exit ?_
        refine x_block_out ?_
        have hm := congrArg some (houtL8335 _ (Option.some.inj hm).symm)
        obtain rfl := some1 hm
        exact x_join (e' := [(0, .slice A3 (l14).length c4), (2, .int .i64 (x8)), (14, .int .i64 (x8494))]) ⟨rfl, rfl, rfl, trivial⟩ (.refl _) ⟨rfl, rfl, hle8493⟩
      ·
       rintro b8331 _ _ ⟨rfl, rfl, hle8332⟩
       have hm := hk8334
       obtain ⟨l9022, hj9024, hk9024⟩ := bindS hm
       refine c_join (fun b9017 e' hp' => ∃ (hs9020 : Hp), [] = e' ∧ (g6, Cl 43 [.slice A10 (l13).length c11]) :: (hs9020 ++ R) = hp' ∧ b8331.Le b9017 ∧ OS 3 (OT.fr (RT.int .i64)) b9017.w (.slice A3 l9022.length c4) l9022 hs9020 ∧ l9022.length = l14.length) ?_ ?_
       ·
        have hm := hj9024
        refine c_sr ?_
        refine t_mv rfl rfl ?_
        refine t_as rfl rfl ?_
        refine t_ne ?_
        refine c_block ?_
        refine c_loopM (unc2 fun x9323 l9324 => fun b9318 e' hp' => ∃ (hs9321 : Hp), [(0, .slice A3 (l9324).length c4), (14, .int .i64 (x8333)), (17, .int .i64 (x9323))] = e' ∧ (g6, Cl 43 [.slice A10 (l13).length c11]) :: (hs9321 ++ R) = hp' ∧ b8331.Le b9318 ∧ OS 3 (OT.fr (RT.int .i64)) b9318.w (.slice A3 l9324.length c4) l9324 hs9321 ∧ l9324.length = l14.length) hm (e' := [(0, .slice A3 (l14).length c4), (14, .int .i64 (x8333)), (17, .int .i64 (x8))]) ⟨rfl, rfl, rfl, trivial⟩ (.refl _) ⟨hs2, rfl, rfl, (Base.Le.refl _), (h5.le hle8332), rfl⟩ ?_
        rintro ⟨x9323, l9324⟩ b9318 _ _ oL9025 ⟨hs9321, rfl, rfl, hle9319, h9322, hln9325⟩ hstepL9025 houtL9025
        unfold mSlicesSymMergeCmpFunc_L9025 at hstepL9025
        have hm := (unc2E hstepL9025)
        refine c_seq ?_
        refine c_sr ?_
        refine t_mv rfl rfl ?_
        refine t_mv rfl rfl ?_
        refine t_st rfl (st_gtr rfl rfl) ?_
        refine t_ne ?_
        refine c_cond _ rfl (fun hc9326 => ?_) (fun hc9326 => ?_)
        ·
         rw [if_pos (of_decide_eq_true hc9326)] at hm
         refine c_skip ?_
         refine x_then_normal ?_
         refine c_seq ?_
         refine c_block ?_
         obtain ⟨_, h9397, hm⟩ := bindS hm
         obtain ⟨_, h9398, hm⟩ := bindS hm
         obtain ⟨x9399, h9400, hm⟩ := bindS hm
         obtain ⟨x9415, h9416, hm⟩ := bindS hm
         obtain ⟨x9431, h9432, hm⟩ := bindS hm
         obtain ⟨x9449, h9450, hm⟩ := bindS hm
         refine D_drawI mixed (.cons_cons _ (sub_skip hs9321 (.refl _))) ?_
         refine E_st 0 rfl (st_move rfl) ?_
         refine E_st 1 rfl (st_move rfl) ?_
         refine E_st 2 rfl (st_move rfl) ?_
         refine E_st 3 rfl (st_move rfl) ?_
         have h9397 := (chk_some h9397).2
         refine E_st 4 rfl (st_sub rfl rfl h9397) ?_
         refine E_st 5 rfl (st_move rfl) ?_
         refine E_st 6 rfl (st_move rfl) ?_
         have h9398 := (chk_some h9398).2
         refine E_st 7 rfl (st_sub rfl rfl h9398) ?_
         obtain ⟨j9401, hj9402, hx9403⟩ := idx_some h9400
         obtain ⟨cs9404, hs9409, P9410, P9411, hq9412, hr9405, hcs9406, hA9407, hlt9408, hb9413, hho9414⟩ := OS.get (sz := 1) rfl (by decide) h9322 hx9403
         obtain ⟨rfl, rfl⟩ := hr9405
         refine E_st 8 rfl (st_index_old j9401 rfl rfl hj9402 hlt9408 hA9407 sl22) ?_
         refine E_st 10 rfl (st_move rfl) ?_
         refine E_st 11 rfl (st_move rfl) ?_
         obtain ⟨j9417, hj9418, hx9419⟩ := idx_some h9416
         obtain ⟨cs9420, hs9425, P9426, P9427, hq9428, hr9421, hcs9422, hA9423, hlt9424, hb9429, hho9430⟩ := OS.get (sz := 1) rfl (by decide) h9322 hx9419
         obtain ⟨rfl, rfl⟩ := hr9421
         refine E_st 12 rfl (st_index_old j9417 rfl rfl hj9418 hlt9424 hA9423 sl22) ?_
         refine E_out ?_
         refine D_all [9, 13] (by kernel_rfl) rfl ?_
         refine R_do (Base.Le.refl _) rfl rfl (Stable.does (st_load_rd rfl one3 (fun w ho => hcs9406 w _ ho (.cons _ (List.sublist_append_left _ _)) 0 _ rfl))) ?_ ?_
         ·
          rintro _ _ ⟨rfl, rfl⟩
          refine ⟨.inr (.cons_cons _ (sub_skip hs9321 (.refl _))), ?_⟩
          refine D_all [13] (by kernel_rfl) rfl ?_
          refine R_do (Base.Le.refl _) rfl rfl (Stable.does (st_load_rd rfl one3 (fun w ho => hcs9422 w _ ho (.cons _ (List.sublist_append_left _ _)) 0 _ rfl))) ?_ ?_
          ·
           rintro _ _ ⟨rfl, rfl⟩
           refine ⟨.inr (.cons_cons _ (sub_skip hs9321 (.refl _))), ?_⟩
           obtain ⟨j9433, hj9434, hx9435⟩ := idx_some h9432
           obtain ⟨cs9436, hs9441, P9442, P9443, hq9444, hr9437, hcs9438, hA9439, hlt9440, hb9445, hho9446⟩ := OS.get (sz := 1) rfl (by decide) h9322 hx9435
           obtain ⟨rfl, rfl⟩ := hr9437
           refine E_in (.cons_cons _ (sub_skip hs9321 (.refl _))) ?_
           refine E_st 14 rfl (st_index_old j9433 rfl rfl hj9434 hlt9440 hA9439 sl22) ?_
           refine E_out ?_
           refine D_all [15] (by kernel_rfl) rfl ?_
           refine R_do (Base.Le.refl _) rfl rfl (u_putOS hj9434 (sz := 1) (a' := x9399) rfl [_] R 0 1 [.int .i64 (x9399)] rfl h9322 hx9435 rfl rfl rfl siz3 rfl (mem_c rfl mem_n) (fun cs hsj hh => by obtain ⟨rfl, rfl⟩ := hh; exact ⟨by decide, rfl, rfl⟩)) ?_ ?_
           ·
            rintro _ _ ⟨hs9447, rfl, h9448⟩
            refine ⟨.inr (.cons_cons _ (sub_skip hs9447 (.refl _))), ?_⟩
            refine d_resp 0 rfl (v' := .slice A3 (put l9324 x9323 x9399).length c4) (by simp only [put_length]) ?_
            refine d_resp 115 rfl (v' := .slice A3 (put l9324 x9323 x9399).length c4) (by simp only [put_length]) ?_
            obtain ⟨j9451, hj9452, hx9453⟩ := idx_some h9450
            obtain ⟨cs9454, hs9459, P9460, P9461, hq9462, hr9455, hcs9456, hA9457, hlt9458, hb9463, hho9464⟩ := OS.get (sz := 1) rfl (by decide) h9448 hx9453
            obtain ⟨rfl, rfl⟩ := hr9455
            refine E_in (.cons_cons _ (sub_skip hs9447 (.refl _))) ?_
            refine E_st 16 rfl (st_index_old j9451 rfl rfl hj9452 hlt9458 hA9457 sl22) ?_
            refine E_out ?_
            refine D_all [17] (by kernel_rfl) rfl ?_
            refine R_do (Base.Le.refl _) rfl rfl (u_putOS hj9452 (sz := 1) (a' := x9415) rfl [_] R 0 1 [.int .i64 (x9415)] rfl h9448 hx9453 rfl rfl rfl siz3 rfl (mem_c rfl mem_n) (fun cs hsj hh => by obtain ⟨rfl, rfl⟩ := hh; exact ⟨by decide, rfl, rfl⟩)) ?_ ?_
            ·
             rintro _ _ ⟨hs9465, rfl, h9466⟩
             refine ⟨.inl (by kernel_rfl), ?_⟩
             refine d_resp 0 rfl (v' := .slice A3 (put (put l9324 x9323 x9399) (x9323 - 1) x9415).length c4) (by simp only [put_length]) ?_
             refine D_done (by kernel_rfl) ?_
             refine x_block_normal ?_
             refine x_then_normal ?_
             refine c_region ?_
             refine t_mv rfl rfl ?_
             obtain ⟨_, h9467, hm⟩ := bindS hm
             have h9467 := (chk_some h9467).2
             refine t_st rfl (st_sub rfl rfl h9467) ?_
             refine t_as rfl rfl ?_
             refine t_nil ?_
             exact x_againM (x9323 - 1, put (put l9324 x9323 x9399) (x9323 - 1) x9415) (Option.some.inj hm).symm (e' := [(0, .slice A3 (put (put l9324 x9323 x9399) (x9323 - 1) x9415).length c4), (14, .int .i64 (x8333)), (17, .int .i64 (x9323 - 1))]) ⟨rfl, rfl, rfl, trivial⟩ (.refl _) ⟨hs9465, rfl, rfl, (hle9319), h9466, ((put_length _ _ _).trans ((put_length _ _ _).trans hln9325))⟩
            exact R_nil
           exact R_nil
          exact R_nil
         refine R_do (Base.Le.refl _) rfl rfl (Stable.does (st_load_rd rfl one3 (fun w ho => hcs9422 w _ ho (.cons _ (List.sublist_append_left _ _)) 0 _ rfl))) ?_ ?_
         ·
          rintro _ _ ⟨rfl, rfl⟩
          refine ⟨.inr (.cons_cons _ (sub_skip hs9321 (.refl _))), ?_⟩
          refine D_all [9] (by kernel_rfl) rfl ?_
          refine R_do (Base.Le.refl _) rfl rfl (Stable.does (st_load_rd rfl one3 (fun w ho => hcs9406 w _ ho (.cons _ (List.sublist_append_left _ _)) 0 _ rfl))) ?_ ?_
          ·
           rintro _ _ ⟨rfl, rfl⟩
           refine ⟨.inr (.cons_cons _ (sub_skip hs9321 (.refl _))), ?_⟩
           obtain ⟨j9433, hj9434, hx9435⟩ := idx_some h9432
           obtain ⟨cs9436, hs9441, P9442, P9443, hq9444, hr9437, hcs9438, hA9439, hlt9440, hb9445, hho9446⟩ := OS.get (sz := 1) rfl (by decide) h9322 hx9435
           obtain ⟨rfl, rfl⟩ := hr9437
           refine E_in (.cons_cons _ (sub_skip hs9321 (.refl _))) ?_
           refine E_st 14 rfl (st_index_old j9433 rfl rfl hj9434 hlt9440 hA9439 sl22) ?_
           refine E_out ?_
           refine D_all [15] (by kernel_rfl) rfl ?_
           refine R_do (Base.Le.refl _) rfl rfl (u_putOS hj9434 (sz := 1) (a' := x9399) rfl [_] R 0 1 [.int .i64 (x9399)] rfl h9322 hx9435 rfl rfl rfl siz3 rfl (mem_c rfl mem_n) (fun cs hsj hh => by obtain ⟨rfl, rfl⟩ := hh; exact ⟨by decide, rfl, rfl⟩)) ?_ ?_
           ·
            rintro _ _ ⟨hs9447, rfl, h9448⟩
            refine ⟨.inr (.cons_cons _ (sub_skip hs9447 (.refl _))), ?_⟩
            refine d_resp 0 rfl (v' := .slice A3 (put l9324 x9323 x9399).length c4) (by simp only [put_length]) ?_
            refine d_resp 115 rfl (v' := .slice A3 (put l9324 x9323 x9399).length c4) (by simp only [put_length]) ?_
            obtain ⟨j9451, hj9452, hx9453⟩ := idx_some h9450
            obtain ⟨cs9454, hs9459, P9460, P9461, hq9462, hr9455, hcs9456, hA9457, hlt9458, hb9463, hho9464⟩ := OS.get (sz := 1) rfl (by decide) h9448 hx9453
            obtain ⟨rfl, rfl⟩ := hr9455
            refine E_in (.cons_cons _ (sub_skip hs9447 (.refl _))) ?_
            refine E_st 16 rfl (st_index_old j9451 rfl rfl hj9452 hlt9458 hA9457 sl22) ?_
            refine E_out ?_
            refine D_all [17] (by kernel_rfl) rfl ?_
            refine R_do (Base.Le.refl _) rfl rfl (u_putOS hj9452 (sz := 1) (a' := x9415) rfl [_] R 0 1 [.int .i64 (x9415)] rfl h9448 hx9453 rfl rfl rfl siz3 rfl (mem_c rfl mem_n) (fun cs hsj hh => by obtain ⟨rfl, rfl⟩ := hh; exact ⟨by decide, rfl, rfl⟩)) ?_ ?_
            ·
             rintro _ _ ⟨hs9465, rfl, h9466⟩
             refine ⟨.inl (by kernel_rfl), ?_⟩
             refine d_resp 0 rfl (v' := .slice A3 (put (put l9324 x9323 x9399) (x9323 - 1) x9415).length c4) (by simp only [put_length]) ?_
             refine D_done (by kernel_rfl) ?_
             refine x_block_normal ?_
             refine x_then_normal ?_
             refine c_region ?_
             refine t_mv rfl rfl ?_
             obtain ⟨_, h9468, hm⟩ := bindS hm
             have h9468 := (chk_some h9468).2
             refine t_st rfl (st_sub rfl rfl h9468) ?_
             refine t_as rfl rfl ?_
             refine t_nil ?_
             exact x_againM (x9323 - 1, put (put l9324 x9323 x9399) (x9323 - 1) x9415) (Option.some.inj hm).symm (e' := [(0, .slice A3 (put (put l9324 x9323 x9399) (x9323 - 1) x9415).length c4), (14, .int .i64 (x8333)), (17, .int .i64 (x9323 - 1))]) ⟨rfl, rfl, rfl, trivial⟩ (.refl _) ⟨hs9465, rfl, rfl, (hle9319), h9466, ((put_length _ _ _).trans ((put_length _ _ _).trans hln9325))⟩
            exact R_nil
           exact R_nil
          exact R_nil
         exact R_nil
        ·
         rw [if_neg (of_decide_eq_false hc9326)] at hm
         refine c_exit ?_
         refine x_then_exit ?_
         refine x_then_exit ?_
         refine x_block_out ?_
         have hm := congrArg some (houtL9025 _ (Option.some.inj hm).symm)
         obtain rfl := some1 hm
         exact x_join (e' := []) trivial (.refl _) ⟨hs9321, rfl, rfl, hle9319, h9322, hln9325⟩
       ·
        rintro b9017 _ _ ⟨hs9020, rfl, rfl, hle9018, h9021, hln9023⟩
        have hm := hk9024
        refine c_ret ?_
        refine x_then_ret ?_
        obtain rfl := some1 hm
        exact retM (rs := []) [] (hle8332.trans hle9018) (by decide) rfl trivial rfl (.refl _) ⟨hs9020, rfl, rfl, h9021, hln9023⟩
     ·
      rw [if_neg (of_decide_eq_false hc8092)] at hm
      refine c_skip ?_
      refine x_then_normal ?_
      refine c_sr ?_
      refine t_mv rfl rfl ?_
      refine t_mv rfl rfl ?_
      obtain ⟨_, h9469, hm⟩ := bindS hm
      have h9469 := (chk_some h9469).2
      refine t_st rfl (st_add rfl rfl h9469) ?_
      refine t_st rfl (st_conv rfl int3_i64 int101_u64) ?_
      obtain ⟨_, h9470, hm⟩ := bindS hm
      have h9470 := shN_some h9470
      refine t_st rfl (st_shr rfl rfl h9470) ?_
      refine t_st rfl (st_conv rfl int101_u64 int3_i64) ?_
      refine t_as rfl rfl ?_
      refine t_ne ?_
      refine c_sr ?_
      refine t_mv rfl rfl ?_
      refine t_mv rfl rfl ?_
      obtain ⟨_, h9471, hm⟩ := bindS hm
      have h9471 := (chk_some h9471).2
      refine t_st rfl (st_add rfl rfl h9471) ?_
      refine t_as rfl rfl ?_
      refine t_ne ?_
      refine c_sr ?_
      refine t_as rfl rfl ?_
      refine t_as rfl rfl ?_
      refine t_ne ?_
      obtain ⟨⟨x9476, x9477⟩, hj9478, hk9478⟩ := bindS hm
      refine c_join (fun b9474 e' hp' => [(0, .slice A3 (l14).length c4), (1, .int .i64 (x7)), (2, .int .i64 (x8)), (3, .int .i64 (x9)), (4, .func (.func 37) #[] #[.pointer (some ⟨g6, 0, none⟩)]), (18, .int .i64 (IntKind.wrap .i64 (shrI .u64 (IntKind.wrap .u64 (x7 + x9)) 1))), (19, .int .i64 ((IntKind.wrap .i64 (shrI .u64 (IntKind.wrap .u64 (x7 + x9)) 1)) + x8)), (20, .int .i64 (x9476)), (21, .int .i64 (x9477))] = e' ∧ (g6, Cl 43 [.slice A10 (l13).length c11]) :: (hs2 ++ R) = hp' ∧ b.Le b9474) ?_ ?_
      ·
       have hm := hj9478
       refine c_sr ?_
       refine t_mv rfl rfl ?_
       refine t_mv rfl rfl ?_
       refine t_st rfl (st_gtr rfl rfl) ?_
       refine t_ne ?_
       refine c_cond _ rfl (fun hc9479 => ?_) (fun hc9479 => ?_)
       ·
        rw [if_pos (of_decide_eq_true hc9479)] at hm
        refine c_sr ?_
        refine t_mv rfl rfl ?_
        refine t_mv rfl rfl ?_
        obtain ⟨_, h9480, hm⟩ := bindS hm
        have h9480 := (chk_some h9480).2
        refine t_st rfl (st_sub rfl rfl h9480) ?_
        refine t_as rfl rfl ?_
        refine t_ne ?_
        refine c_region ?_
        refine t_mv rfl rfl ?_
        refine t_as rfl rfl ?_
        refine t_nil ?_
        obtain ⟨rfl, rfl⟩ := some2 hm
        exact x_join (e' := [(0, .slice A3 (l14).length c4), (1, .int .i64 (x7)), (2, .int .i64 (x8)), (3, .int .i64 (x9)), (4, .func (.func 37) #[] #[.pointer (some ⟨g6, 0, none⟩)]), (18, .int .i64 (IntKind.wrap .i64 (shrI .u64 (IntKind.wrap .u64 (x7 + x9)) 1))), (19, .int .i64 ((IntKind.wrap .i64 (shrI .u64 (IntKind.wrap .u64 (x7 + x9)) 1)) + x8)), (20, .int .i64 (((IntKind.wrap .i64 (shrI .u64 (IntKind.wrap .u64 (x7 + x9)) 1)) + x8) - x9)), (21, .int .i64 (IntKind.wrap .i64 (shrI .u64 (IntKind.wrap .u64 (x7 + x9)) 1)))]) ⟨rfl, rfl, rfl, rfl, rfl, rfl, rfl, rfl, rfl, trivial⟩ (.refl _) ⟨rfl, rfl, (Base.Le.refl _)⟩
       ·
        rw [if_neg (of_decide_eq_false hc9479)] at hm
        refine c_sr ?_
        refine t_mv rfl rfl ?_
        refine t_as rfl rfl ?_
        refine t_ne ?_
        refine c_region ?_
        refine t_mv rfl rfl ?_
        refine t_as rfl rfl ?_
        refine t_nil ?_
        obtain ⟨rfl, rfl⟩ := some2 hm
        exact x_join (e' := [(0, .slice A3 (l14).length c4), (1, .int .i64 (x7)), (2, .int .i64 (x8)), (3, .int .i64 (x9)), (4, .func (.func 37) #[] #[.pointer (some ⟨g6, 0, none⟩)]), (18, .int .i64 (IntKind.wrap .i64 (shrI .u64 (IntKind.wrap .u64 (x7 + x9)) 1))), (19, .int .i64 ((IntKind.wrap .i64 (shrI .u64 (IntKind.wrap .u64 (x7 + x9)) 1)) + x8)), (20, .int .i64 (x7)), (21, .int .i64 (x8))]) ⟨rfl, rfl, rfl, rfl, rfl, rfl, rfl, rfl, rfl, trivial⟩ (.refl _) ⟨rfl, rfl, (Base.Le.refl _)⟩
      ·
       rintro b9474 _ _ ⟨rfl, rfl, hle9475⟩
       have hm := (unc2E hk9478)
       refine c_sr ?_
       refine t_mv rfl rfl ?_
       obtain ⟨_, h9481, hm⟩ := bindS hm
       have h9481 := (chk_some h9481).2
       refine t_st rfl (st_sub rfl rfl h9481) ?_
       refine t_as rfl rfl ?_
       refine t_ne ?_
       obtain ⟨x9728, hj9729, hk9729⟩ := bindS hm
       refine c_join (fun b9726 e' hp' => [(0, .slice A3 (l14).length c4), (1, .int .i64 (x7)), (2, .int .i64 (x8)), (3, .int .i64 (x9)), (4, .func (.func 37) #[] #[.pointer (some ⟨g6, 0, none⟩)]), (18, .int .i64 (IntKind.wrap .i64 (shrI .u64 (IntKind.wrap .u64 (x7 + x9)) 1))), (19, .int .i64 ((IntKind.wrap .i64 (shrI .u64 (IntKind.wrap .u64 (x7 + x9)) 1)) + x8)), (20, .int .i64 (x9728))] = e' ∧ (g6, Cl 43 [.slice A10 (l13).length c11]) :: (hs2 ++ R) = hp' ∧ b9474.Le b9726) ?_ ?_
       ·
        have hm := hj9729
        refine c_block ?_
        refine c_loopM (unc2 fun x9893 x9894 => fun b9891 e' hp' => [(0, .slice A3 (l14).length c4), (1, .int .i64 (x7)), (2, .int .i64 (x8)), (3, .int .i64 (x9)), (4, .func (.func 37) #[] #[.pointer (some ⟨g6, 0, none⟩)]), (18, .int .i64 (IntKind.wrap .i64 (shrI .u64 (IntKind.wrap .u64 (x7 + x9)) 1))), (19, .int .i64 ((IntKind.wrap .i64 (shrI .u64 (IntKind.wrap .u64 (x7 + x9)) 1)) + x8)), (20, .int .i64 (x9893)), (21, .int .i64 (x9894)), (22, .int .i64 (((IntKind.wrap .i64 (shrI .u64 (IntKind.wrap .u64 (x7 + x9)) 1)) + x8) - 1))] = e' ∧ (g6, Cl 43 [.slice A10 (l13).length c11]) :: (hs2 ++ R) = hp' ∧ b9474.Le b9891) hm (e' := [(0, .slice A3 (l14).length c4), (1, .int .i64 (x7)), (2, .int .i64 (x8)), (3, .int .i64 (x9)), (4, .func (.func 37) #[] #[.pointer (some ⟨g6, 0, none⟩)]), (18, .int .i64 (IntKind.wrap .i64 (shrI .u64 (IntKind.wrap .u64 (x7 + x9)) 1))), (19, .int .i64 ((IntKind.wrap .i64 (shrI .u64 (IntKind.wrap .u64 (x7 + x9)) 1)) + x8)), (20, .int .i64 (x9476)), (21, .int .i64 (x9477)), (22, .int .i64 (((IntKind.wrap .i64 (shrI .u64 (IntKind.wrap .u64 (x7 + x9)) 1)) + x8) - 1))]) ⟨rfl, rfl, rfl, rfl, rfl, rfl, rfl, rfl, rfl, rfl, trivial⟩ (.refl _) ⟨rfl, rfl, (Base.Le.refl _)⟩ ?_
        rintro ⟨x9893, x9894⟩ b9891 _ _ oL9730 ⟨rfl, rfl, hle9892⟩ hstepL9730 houtL9730
        unfold mSlicesSymMergeCmpFunc_L9730 at hstepL9730
        have hm := (unc2E hstepL9730)
        refine c_seq ?_
        refine c_sr ?_
        refine t_mv rfl rfl ?_
        refine t_mv rfl rfl ?_
        refine t_st rfl (st_lss rfl rfl) ?_
        refine t_ne ?_
        refine c_cond _ rfl (fun hc9895 => ?_) (fun hc9895 => ?_)
        ·
         rw [if_pos (of_decide_eq_true hc9895)] at hm
         refine c_skip ?_
         refine x_then_normal ?_
         refine c_block ?_
         refine c_sr ?_
         refine t_mv rfl rfl ?_
         refine t_mv rfl rfl ?_
         obtain ⟨_, h9896, hm⟩ := bindS hm
         have h9896 := (chk_some h9896).2
         refine t_st rfl (st_add rfl rfl h9896) ?_
         refine t_st rfl (st_conv rfl int3_i64 int101_u64) ?_
         obtain ⟨_, h9897, hm⟩ := bindS hm
         have h9897 := shN_some h9897
         refine t_st rfl (st_shr rfl rfl h9897) ?_
         refine t_st rfl (st_conv rfl int101_u64 int3_i64) ?_
         refine t_as rfl rfl ?_
         refine t_ne ?_
         refine c_seq ?_
         obtain ⟨_, h9935, hm⟩ := bindS hm
         obtain ⟨x9936, h9937, hm⟩ := bindS hm
         obtain ⟨x9952, h9953, hm⟩ := bindS hm
         obtain ⟨x9968, hcl9969, hm⟩ := bindS hm
         refine D_drawI mixed (.cons _ (.refl _)) ?_
         refine E_st 0 rfl (st_move rfl) ?_
         refine E_st 1 rfl (st_move rfl) ?_
         refine E_st 2 rfl (st_move rfl) ?_
         refine E_st 3 rfl (st_move rfl) ?_
         have h9935 := (chk_some h9935).2
         refine E_st 4 rfl (st_sub rfl rfl h9935) ?_
         obtain ⟨j9938, hj9939, hx9940⟩ := idx_some h9937
         obtain ⟨cs9941, hs9946, P9947, P9948, hq9949, hr9942, hcs9943, hA9944, hlt9945, hb9950, hho9951⟩ := OS.get (sz := 1) rfl (by decide) (h5.le (hle9475.trans hle9892)) hx9940
         obtain ⟨rfl, rfl⟩ := hr9942
         refine E_st 5 rfl (st_index_old j9938 rfl rfl hj9939 hlt9945 hA9944 sl22) ?_
         refine E_st 6 rfl (st_load_rd rfl one3 (fun w ho => hcs9943 w _ ho (List.sublist_append_left _ _) 0 _ rfl)) ?_
         refine E_st 7 rfl (st_move rfl) ?_
         refine E_st 8 rfl (st_move rfl) ?_
         obtain ⟨j9954, hj9955, hx9956⟩ := idx_some h9953
         obtain ⟨cs9957, hs9962, P9963, P9964, hq9965, hr9958, hcs9959, hA9960, hlt9961, hb9966, hho9967⟩ := OS.get (sz := 1) rfl (by decide) (h5.le (hle9475.trans hle9892)) hx9956
         obtain ⟨rfl, rfl⟩ := hr9958
         refine E_st 9 rfl (st_index_old j9954 rfl rfl hj9955 hlt9961 hA9960 sl22) ?_
         refine E_st 10 rfl (st_load_rd rfl one3 (fun w ho => hcs9959 w _ ho (List.sublist_append_left _ _) 0 _ rfl)) ?_
         refine E_out ?_
         refine D_all [11] (by kernel_rfl) rfl ?_
         refine R_callvG (Base.Le.refl _) rfl rfl #[] #[.pointer (some ⟨g6, 0, none⟩)] [.int .i64 (x9936), .int .i64 (x9952)] rfl call37 rfl (cFarePack_1 _ _ x9936 x9952 l13 g6 A10 c11 (h12.le (hle9475.trans hle9892)) x9968 hcl9969) ?_ ?_
         ·
          rintro _ b9970 _ hle9971 ⟨rfl, rfl⟩
          refine ⟨.inr (.cons _ (.refl _)), ?_⟩
          refine D_st hle9971 12 rfl (by kernel_rfl) (by kernel_rfl) (by kernel_rfl) rfl (st_lss rfl rfl) (.cons _ (.refl _)) ?_
          refine D_st hle9971 13 rfl (by kernel_rfl) (by kernel_rfl) (by kernel_rfl) rfl (st_not rfl) (.cons _ (.refl _)) ?_
          refine D_done (by kernel_rfl) ?_
          refine x_then_normal ?_
          refine c_cond _ rfl (fun hc9972 => ?_) (fun hc9972 => ?_)
          ·
           rw [if_neg (of_decide_eq_false (notT hc9972))] at hm
           refine c_region ?_
           refine t_mv rfl rfl ?_
           obtain ⟨_, h9973, hm⟩ := bindS hm
           have h9973 := (chk_some h9973).2
           refine t_st rfl (st_add rfl rfl h9973) ?_
           refine t_as rfl rfl ?_
           refine t_nil ?_
           refine x_block_normal ?_
           exact x_againM ((IntKind.wrap .i64 (shrI .u64 (IntKind.wrap .u64 (x9893 + x9894)) 1)) + 1, x9894) (Option.some.inj hm).symm (e' := [(0, .slice A3 (l14).length c4), (1, .int .i64 (x7)), (2, .int .i64 (x8)), (3, .int .i64 (x9)), (4, .func (.func 37) #[] #[.pointer (some ⟨g6, 0, none⟩)]), (18, .int .i64 (IntKind.wrap .i64 (shrI .u64 (IntKind.wrap .u64 (x7 + x9)) 1))), (19, .int .i64 ((IntKind.wrap .i64 (shrI .u64 (IntKind.wrap .u64 (x7 + x9)) 1)) + x8)), (20, .int .i64 ((IntKind.wrap .i64 (shrI .u64 (IntKind.wrap .u64 (x9893 + x9894)) 1)) + 1)), (21, .int .i64 (x9894)), (22, .int .i64 (((IntKind.wrap .i64 (shrI .u64 (IntKind.wrap .u64 (x7 + x9)) 1)) + x8) - 1))]) ⟨rfl, rfl, rfl, rfl, rfl, rfl, rfl, rfl, rfl, rfl, trivial⟩ (.refl _) ⟨rfl, rfl, ((hle9892.trans hle9971))⟩
          ·
           rw [if_pos (of_decide_eq_true (notF hc9972))] at hm
           refine c_region ?_
           refine t_mv rfl rfl ?_
           refine t_as rfl rfl ?_
           refine t_nil ?_
           refine x_block_normal ?_
           exact x_againM (x9893, IntKind.wrap .i64 (shrI .u64 (IntKind.wrap .u64 (x9893 + x9894)) 1)) (Option.some.inj hm).symm (e' := [(0, .slice A3 (l14).length c4), (1, .int .i64 (x7)), (2, .int .i64 (x8)), (3, .int .i64 (x9)), (4, .func (.func 37) #[] #[.pointer (some ⟨g6, 0, none⟩)]), (18, .int .i64 (IntKind.wrap .i64 (shrI .u64 (IntKind.wrap .u64 (x7 + x9)) 1))), (19, .int .i64 ((IntKind.wrap .i64 (shrI .u64 (IntKind.wrap .u64 (x7 + x9)) 1)) + x8)), (20, .int .i64 (x9893)), (21, .int .i64 (IntKind.wrap .i64 (shrI .u64 (IntKind.wrap .u64 (x9893 + x9894)) 1))), (22, .int .i64 (((IntKind.wrap .i64 (shrI .u64 (IntKind.wrap .u64 (x7 + x9)) 1)) + x8) - 1))]) ⟨rfl, rfl, rfl, rfl, rfl, rfl, rfl, rfl, rfl, rfl, trivial⟩ (.refl _) ⟨rfl, rfl, ((hle9892.trans hle9971))⟩
         exact R_nil
        ·
         rw [if_neg (of_decide_eq_false hc9895)] at hm
         refine c_exit ?_
         refine x_then_exit ?_
         refine x_then_exit ?_
         refine x_block_out ?_
         have hm := congrArg some (houtL9730 _ (Option.some.inj hm).symm)
         obtain rfl := some1 hm
         exact x_join (e' := [(0, .slice A3 (l14).length c4), (1, .int .i64 (x7)), (2, .int .i64 (x8)), (3, .int .i64 (x9)), (4, .func (.func 37) #[] #[.pointer (some ⟨g6, 0, none⟩)]), (18, .int .i64 (IntKind.wrap .i64 (shrI .u64 (IntKind.wrap .u64 (x7 + x9)) 1))), (19, .int .i64 ((IntKind.wrap .i64 (shrI .u64 (IntKind.wrap .u64 (x7 + x9)) 1)) + x8)), (20, .int .i64 (x9893))]) ⟨rfl, rfl, rfl, rfl, rfl, rfl, rfl, rfl, trivial⟩ (.refl _) ⟨rfl, rfl, hle9892⟩
       ·
        rintro b9726 _ _ ⟨rfl, rfl, hle9727⟩
        have hm := hk9729
        refine c_sr ?_
        refine t_mv rfl rfl ?_
        refine t_mv rfl rfl ?_
        obtain ⟨_, h9974, hm⟩ := bindS hm
        have h9974 := (chk_some h9974).2
        refine t_st rfl (st_sub rfl rfl h9974) ?_
        refine t_as rfl rfl ?_
        refine t_ne ?_
        obtain ⟨l9994, hj9996, hk9996⟩ := bindS hm
        refine c_join (fun b9989 e' hp' => ∃ (hs9992 : Hp), [(0, .slice A3 (l9994).length c4), (1, .int .i64 (x7)), (3, .int .i64 (x9)), (4, .func (.func 37) #[] #[.pointer (some ⟨g6, 0, none⟩)]), (18, .int .i64 (IntKind.wrap .i64 (shrI .u64 (IntKind.wrap .u64 (x7 + x9)) 1))), (20, .int .i64 (x9728)), (24, .int .i64 (((IntKind.wrap .i64 (shrI .u64 (IntKind.wrap .u64 (x7 + x9)) 1)) + x8) - x9728))] = e' ∧ (g6, Cl 43 [.slice A10 (l13).length c11]) :: (hs9992 ++ R) = hp' ∧ b9726.Le b9989 ∧ OS 3 (OT.fr (RT.int .i64)) b9989.w (.slice A3 l9994.length c4) l9994 hs9992 ∧ l9994.length = l14.length) ?_ ?_
        ·
         have hm := hj9996
         obtain ⟨x10000, hj10001, hk10001⟩ := bindS hm
         refine c_join (fun b9998 e' hp' => [(0, .slice A3 (l14).length c4), (1, .int .i64 (x7)), (2, .int .i64 (x8)), (3, .int .i64 (x9)), (4, .func (.func 37) #[] #[.pointer (some ⟨g6, 0, none⟩)]), (18, .int .i64 (IntKind.wrap .i64 (shrI .u64 (IntKind.wrap .u64 (x7 + x9)) 1))), (20, .int .i64 (x9728)), (24, .int .i64 (((IntKind.wrap .i64 (shrI .u64 (IntKind.wrap .u64 (x7 + x9)) 1)) + x8) - x9728)), (185, .bool (x10000))] = e' ∧ (g6, Cl 43 [.slice A10 (l13).length c11]) :: (hs2 ++ R) = hp' ∧ b9726.Le b9998) ?_ ?_
         ·
          have hm := hj10001
          refine c_region ?_
          refine t_mv rfl rfl ?_
          refine t_mv rfl rfl ?_
          refine t_bool rfl (st_lss rfl rfl) (fun hc10002 => ?_) (fun hc10002 => ?_)
          ·
           rw [if_pos hc10002] at hm
           refine t_mv rfl rfl ?_
           refine t_yes 181 rfl rfl rfl ?_
           refine t_mv rfl rfl ?_
           refine t_yes 181 rfl rfl rfl ?_
           refine t_mv rfl rfl ?_
           refine t_yes 181 rfl rfl rfl ?_
           refine t_st rfl (st_lss rfl rfl) ?_
           refine t_st rfl (st_pick_t rfl rfl) ?_
           refine t_nil ?_
           obtain rfl := some1 hm
           exact x_join (e' := [(0, .slice A3 (l14).length c4), (1, .int .i64 (x7)), (2, .int .i64 (x8)), (3, .int .i64 (x9)), (4, .func (.func 37) #[] #[.pointer (some ⟨g6, 0, none⟩)]), (18, .int .i64 (IntKind.wrap .i64 (shrI .u64 (IntKind.wrap .u64 (x7 + x9)) 1))), (20, .int .i64 (x9728)), (24, .int .i64 (((IntKind.wrap .i64 (shrI .u64 (IntKind.wrap .u64 (x7 + x9)) 1)) + x8) - x9728)), (185, .bool (decide (x8 < (((IntKind.wrap .i64 (shrI .u64 (IntKind.wrap .u64 (x7 + x9)) 1)) + x8) - x9728))))]) ⟨rfl, rfl, rfl, rfl, rfl, rfl, rfl, rfl, rfl, trivial⟩ (.refl _) ⟨rfl, rfl, (Base.Le.refl _)⟩
          ·
           rw [if_neg hc10002] at hm
           refine t_mv rfl rfl ?_
           refine t_no 181 rfl rfl rfl rfl rfl ?_
           refine t_no 181 rfl rfl rfl rfl rfl ?_
           refine t_no 181 rfl rfl rfl rfl rfl ?_
           refine t_st rfl (st_pick_f rfl rfl) ?_
           refine t_nil ?_
           obtain rfl := some1 hm
           exact x_join (e' := [(0, .slice A3 (l14).length c4), (1, .int .i64 (x7)), (2, .int .i64 (x8)), (3, .int .i64 (x9)), (4, .func (.func 37) #[] #[.pointer (some ⟨g6, 0, none⟩)]), (18, .int .i64 (IntKind.wrap .i64 (shrI .u64 (IntKind.wrap .u64 (x7 + x9)) 1))), (20, .int .i64 (x9728)), (24, .int .i64 (((IntKind.wrap .i64 (shrI .u64 (IntKind.wrap .u64 (x7 + x9)) 1)) + x8) - x9728)), (185, .bool (false))]) ⟨rfl, rfl, rfl, rfl, rfl, rfl, rfl, rfl, rfl, trivial⟩ (.refl _) ⟨rfl, rfl, (Base.Le.refl _)⟩
         ·
          rintro b9998 _ _ ⟨rfl, rfl, hle9999⟩
          have hm := hk10001
          refine c_cond _ rfl (fun hc10003 => ?_) (fun hc10003 => ?_)
          ·
           rw [if_pos hc10003] at hm
           refine c_region ?_
           refine t_mv rfl rfl ?_
           refine t_mv rfl rfl ?_
           refine t_mv rfl rfl ?_
           refine t_mv rfl rfl ?_
           refine t_mv rfl rfl ?_
           obtain ⟨l10004, hcl10005, hm⟩ := bindS hm
           refine t_out1 [_] [] hs2 R rfl ?_
           refine t_callG _ rfl call99 rfl (cSlicesRotateCmpFunc _ _ x9728 x8 (((IntKind.wrap .i64 (shrI .u64 (IntKind.wrap .u64 (x7 + x9)) 1)) + x8) - x9728) l13 l14 g6 A10 c11 A3 c4 hs2 (h12.le (hle9475.trans (hle9727.trans hle9999))) (h5.le (hle9475.trans (hle9727.trans hle9999))) l10004 hcl10005) ?_
           rintro _ b10006 _ hle10007 ⟨hs10008, rfl, rfl, h10009, h10010⟩
           refine t_in1 [_] [] hs10008 R rfl ?_
           refine t_resp 0 rfl (v' := .slice A3 (l10004).length c4) (by rw [h10010]) ?_
           refine t_nil ?_
           obtain rfl := some1 hm
           exact x_join (e' := [(0, .slice A3 (l10004).length c4), (1, .int .i64 (x7)), (3, .int .i64 (x9)), (4, .func (.func 37) #[] #[.pointer (some ⟨g6, 0, none⟩)]), (18, .int .i64 (IntKind.wrap .i64 (shrI .u64 (IntKind.wrap .u64 (x7 + x9)) 1))), (20, .int .i64 (x9728)), (24, .int .i64 (((IntKind.wrap .i64 (shrI .u64 (IntKind.wrap .u64 (x7 + x9)) 1)) + x8) - x9728))]) ⟨rfl, rfl, rfl, rfl, rfl, rfl, rfl, trivial⟩ (.refl _) ⟨hs10008, rfl, rfl, (hle9999.trans hle10007), h10009, (h10010.trans rfl)⟩
          ·
           rw [if_neg (fun hh => Bool.noConfusion (hh.symm.trans hc10003))] at hm
           refine c_skip ?_
           obtain rfl := some1 hm
           exact x_join (e' := [(0, .slice A3 (l14).length c4), (1, .int .i64 (x7)), (3, .int .i64 (x9)), (4, .func (.func 37) #[] #[.pointer (some ⟨g6, 0, none⟩)]), (18, .int .i64 (IntKind.wrap .i64 (shrI .u64 (IntKind.wrap .u64 (x7 + x9)) 1))), (20, .int .i64 (x9728)), (24, .int .i64 (((IntKind.wrap .i64 (shrI .u64 (IntKind.wrap .u64 (x7 + x9)) 1)) + x8) - x9728))]) ⟨rfl, rfl, rfl, rfl, rfl, rfl, rfl, trivial⟩ (.refl _) ⟨hs2, rfl, rfl, hle9999, (h5.le (hle9475.trans (hle9727.trans hle9999))), rfl⟩
        ·
         rintro b9989 _ _ ⟨hs9992, rfl, rfl, hle9990, h9993, hln9995⟩
         have hm := hk9996
         obtain ⟨l10030, hj10032, hk10032⟩ := bindS hm
         refine c_join (fun b10025 e' hp' => ∃ (hs10028 : Hp), [(0, .slice A3 (l10030).length c4), (3, .int .i64 (x9)), (4, .func (.func 37) #[] #[.pointer (some ⟨g6, 0, none⟩)]), (18, .int .i64 (IntKind.wrap .i64 (shrI .u64 (IntKind.wrap .u64 (x7 + x9)) 1))), (24, .int .i64 (((IntKind.wrap .i64 (shrI .u64 (IntKind.wrap .u64 (x7 + x9)) 1)) + x8) - x9728))] = e' ∧ (g6, Cl 43 [.slice A10 (l13).length c11]) :: (hs10028 ++ R) = hp' ∧ b9989.Le b10025 ∧ OS 3 (OT.fr (RT.int .i64)) b10025.w (.slice A3 l10030.length c4) l10030 hs10028 ∧ l10030.length = l14.length) ?_ ?_
         ·
          have hm := hj10032
          obtain ⟨x10036, hj10037, hk10037⟩ := bindS hm
          refine c_join (fun b10034 e' hp' => [(0, .slice A3 (l9994).length c4), (1, .int .i64 (x7)), (3, .int .i64 (x9)), (4, .func (.func 37) #[] #[.pointer (some ⟨g6, 0, none⟩)]), (18, .int .i64 (IntKind.wrap .i64 (shrI .u64 (IntKind.wrap .u64 (x7 + x9)) 1))), (20, .int .i64 (x9728)), (24, .int .i64 (((IntKind.wrap .i64 (shrI .u64 (IntKind.wrap .u64 (x7 + x9)) 1)) + x8) - x9728)), (199, .bool (x10036))] = e' ∧ (g6, Cl 43 [.slice A10 (l13).length c11]) :: (hs9992 ++ R) = hp' ∧ b9989.Le b10034) ?_ ?_
          ·
           have hm := hj10037
           refine c_region ?_
           refine t_mv rfl rfl ?_
           refine t_mv rfl rfl ?_
           refine t_bool rfl (st_lss rfl rfl) (fun hc10038 => ?_) (fun hc10038 => ?_)
           ·
            rw [if_pos hc10038] at hm
            refine t_mv rfl rfl ?_
            refine t_yes 195 rfl rfl rfl ?_
            refine t_mv rfl rfl ?_
            refine t_yes 195 rfl rfl rfl ?_
            refine t_mv rfl rfl ?_
            refine t_yes 195 rfl rfl rfl ?_
            refine t_st rfl (st_lss rfl rfl) ?_
            refine t_st rfl (st_pick_t rfl rfl) ?_
            refine t_nil ?_
            obtain rfl := some1 hm
            exact x_join (e' := [(0, .slice A3 (l9994).length c4), (1, .int .i64 (x7)), (3, .int .i64 (x9)), (4, .func (.func 37) #[] #[.pointer (some ⟨g6, 0, none⟩)]), (18, .int .i64 (IntKind.wrap .i64 (shrI .u64 (IntKind.wrap .u64 (x7 + x9)) 1))), (20, .int .i64 (x9728)), (24, .int .i64 (((IntKind.wrap .i64 (shrI .u64 (IntKind.wrap .u64 (x7 + x9)) 1)) + x8) - x9728)), (199, .bool (decide (x9728 < (IntKind.wrap .i64 (shrI .u64 (IntKind.wrap .u64 (x7 + x9)) 1)))))]) ⟨rfl, rfl, rfl, rfl, rfl, rfl, rfl, rfl, trivial⟩ (.refl _) ⟨rfl, rfl, (Base.Le.refl _)⟩
           ·
            rw [if_neg hc10038] at hm
            refine t_mv rfl rfl ?_
            refine t_no 195 rfl rfl rfl rfl rfl ?_
            refine t_no 195 rfl rfl rfl rfl rfl ?_
            refine t_no 195 rfl rfl rfl rfl rfl ?_
            refine t_st rfl (st_pick_f rfl rfl) ?_
            refine t_nil ?_
            obtain rfl := some1 hm
            exact x_join (e' := [(0, .slice A3 (l9994).length c4), (1, .int .i64 (x7)), (3, .int .i64 (x9)), (4, .func (.func 37) #[] #[.pointer (some ⟨g6, 0, none⟩)]), (18, .int .i64 (IntKind.wrap .i64 (shrI .u64 (IntKind.wrap .u64 (x7 + x9)) 1))), (20, .int .i64 (x9728)), (24, .int .i64 (((IntKind.wrap .i64 (shrI .u64 (IntKind.wrap .u64 (x7 + x9)) 1)) + x8) - x9728)), (199, .bool (false))]) ⟨rfl, rfl, rfl, rfl, rfl, rfl, rfl, rfl, trivial⟩ (.refl _) ⟨rfl, rfl, (Base.Le.refl _)⟩
          ·
           rintro b10034 _ _ ⟨rfl, rfl, hle10035⟩
           have hm := hk10037
           refine c_cond _ rfl (fun hc10039 => ?_) (fun hc10039 => ?_)
           ·
            rw [if_pos hc10039] at hm
            refine c_region ?_
            refine t_mv rfl rfl ?_
            refine t_mv rfl rfl ?_
            refine t_mv rfl rfl ?_
            refine t_mv rfl rfl ?_
            refine t_mv rfl rfl ?_
            obtain ⟨l10040, hcl10041, hm⟩ := bindS hm
            refine t_out1 [_] [] hs9992 R rfl ?_
            refine t_callG _ rfl call73 rfl (ih _ _ x7 x9728 (IntKind.wrap .i64 (shrI .u64 (IntKind.wrap .u64 (x7 + x9)) 1)) l13 l9994 g6 A10 c11 A3 c4 hs9992 (h12.le (hle9475.trans (hle9727.trans (hle9990.trans hle10035)))) (h9993.le hle10035) l10040 hcl10041) ?_
            rintro _ b10042 _ hle10043 ⟨hs10044, rfl, rfl, h10045, h10046⟩
            refine t_in1 [_] [] hs10044 R rfl ?_
            refine t_resp 0 rfl (v' := .slice A3 (l10040).length c4) (by rw [h10046]) ?_
            refine t_nil ?_
            obtain rfl := some1 hm
            exact x_join (e' := [(0, .slice A3 (l10040).length c4), (3, .int .i64 (x9)), (4, .func (.func 37) #[] #[.pointer (some ⟨g6, 0, none⟩)]), (18, .int .i64 (IntKind.wrap .i64 (shrI .u64 (IntKind.wrap .u64 (x7 + x9)) 1))), (24, .int .i64 (((IntKind.wrap .i64 (shrI .u64 (IntKind.wrap .u64 (x7 + x9)) 1)) + x8) - x9728))]) ⟨rfl, rfl, rfl, rfl, rfl, trivial⟩ (.refl _) ⟨hs10044, rfl, rfl, (hle10035.trans hle10043), h10045, (h10046.trans hln9995)⟩
           ·
            rw [if_neg (fun hh => Bool.noConfusion (hh.symm.trans hc10039))] at hm
            refine c_skip ?_
            obtain rfl := some1 hm
            exact x_join (e' := [(0, .slice A3 (l9994).length c4), (3, .int .i64 (x9)), (4, .func (.func 37) #[] #[.pointer (some ⟨g6, 0, none⟩)]), (18, .int .i64 (IntKind.wrap .i64 (shrI .u64 (IntKind.wrap .u64 (x7 + x9)) 1))), (24, .int .i64 (((IntKind.wrap .i64 (shrI .u64 (IntKind.wrap .u64 (x7 + x9)) 1)) + x8) - x9728))]) ⟨rfl, rfl, rfl, rfl, rfl, trivial⟩ (.refl _) ⟨hs9992, rfl, rfl, hle10035, (h9993.le hle10035), hln9995⟩
         ·
          rintro b10025 _ _ ⟨hs10028, rfl, rfl, hle10026, h10029, hln10031⟩
          have hm := hk10032
          obtain ⟨x10050, hj10051, hk10051⟩ := bindS hm
          refine c_join (fun b10048 e' hp' => [(0, .slice A3 (l10030).length c4), (3, .int .i64 (x9)), (4, .func (.func 37) #[] #[.pointer (some ⟨g6, 0, none⟩)]), (18, .int .i64 (IntKind.wrap .i64 (shrI .u64 (IntKind.wrap .u64 (x7 + x9)) 1))), (24, .int .i64 (((IntKind.wrap .i64 (shrI .u64 (IntKind.wrap .u64 (x7 + x9)) 1)) + x8) - x9728)), (213, .bool (x10050))] = e' ∧ (g6, Cl 43 [.slice A10 (l13).length c11]) :: (hs10028 ++ R) = hp' ∧ b10025.Le b10048) ?_ ?_
          ·
           have hm := hj10051
           refine c_region ?_
           refine t_mv rfl rfl ?_
           refine t_mv rfl rfl ?_
           refine t_bool rfl (st_lss rfl rfl) (fun hc10052 => ?_) (fun hc10052 => ?_)
           ·
            rw [if_pos hc10052] at hm
            refine t_mv rfl rfl ?_
            refine t_yes 209 rfl rfl rfl ?_
            refine t_mv rfl rfl ?_
            refine t_yes 209 rfl rfl rfl ?_
            refine t_mv rfl rfl ?_
            refine t_yes 209 rfl rfl rfl ?_
            refine t_st rfl (st_lss rfl rfl) ?_
            refine t_st rfl (st_pick_t rfl rfl) ?_
            refine t_nil ?_
            obtain rfl := some1 hm
            exact x_join (e' := [(0, .slice A3 (l10030).length c4), (3, .int .i64 (x9)), (4, .func (.func 37) #[] #[.pointer (some ⟨g6, 0, none⟩)]), (18, .int .i64 (IntKind.wrap .i64 (shrI .u64 (IntKind.wrap .u64 (x7 + x9)) 1))), (24, .int .i64 (((IntKind.wrap .i64 (shrI .u64 (IntKind.wrap .u64 (x7 + x9)) 1)) + x8) - x9728)), (213, .bool (decide ((((IntKind.wrap .i64 (shrI .u64 (IntKind.wrap .u64 (x7 + x9)) 1)) + x8) - x9728) < x9)))]) ⟨rfl, rfl, rfl, rfl, rfl, rfl, trivial⟩ (.refl _) ⟨rfl, rfl, (Base.Le.refl _)⟩
           ·
            rw [if_neg hc10052] at hm
            refine t_mv rfl rfl ?_
            refine t_no 209 rfl rfl rfl rfl rfl ?_
            refine t_no 209 rfl rfl rfl rfl rfl ?_
            refine t_no 209 rfl rfl rfl rfl rfl ?_
            refine t_st rfl (st_pick_f rfl rfl) ?_
            refine t_nil ?_
            obtain rfl := some1 hm
            exact x_join (e' := [(0, .slice A3 (l10030).length c4), (3, .int .i64 (x9)), (4, .func (.func 37) #[] #[.pointer (some ⟨g6, 0, none⟩)]), (18, .int .i64 (IntKind.wrap .i64 (shrI .u64 (IntKind.wrap .u64 (x7 + x9)) 1))), (24, .int .i64 (((IntKind.wrap .i64 (shrI .u64 (IntKind.wrap .u64 (x7 + x9)) 1)) + x8) - x9728)), (213, .bool (false))]) ⟨rfl, rfl, rfl, rfl, rfl, rfl, trivial⟩ (.refl _) ⟨rfl, rfl, (Base.Le.refl _)⟩
          ·
           rintro b10048 _ _ ⟨rfl, rfl, hle10049⟩
           have hm := hk10051
           refine c_cond _ rfl (fun hc10053 => ?_) (fun hc10053 => ?_)
           ·
            rw [if_pos hc10053] at hm
            refine c_region ?_
            refine t_mv rfl rfl ?_
            refine t_mv rfl rfl ?_
            refine t_mv rfl rfl ?_
            refine t_mv rfl rfl ?_
            refine t_mv rfl rfl ?_
            obtain ⟨l10054, hcl10055, hm⟩ := bindS hm
            refine t_out1 [_] [] hs10028 R rfl ?_
            refine t_callG _ rfl call73 rfl (ih _ _ (IntKind.wrap .i64 (shrI .u64 (IntKind.wrap .u64 (x7 + x9)) 1)) (((IntKind.wrap .i64 (shrI .u64 (IntKind.wrap .u64 (x7 + x9)) 1)) + x8) - x9728) x9 l13 l10030 g6 A10 c11 A3 c4 hs10028 (h12.le (hle9475.trans (hle9727.trans (hle9990.trans (hle10026.trans hle10049))))) (h10029.le hle10049) l10054 hcl10055) ?_
            rintro _ b10056 _ hle10057 ⟨hs10058, rfl, rfl, h10059, h10060⟩
            refine t_in1 [_] [] hs10058 R rfl ?_
            refine t_nil ?_
            obtain rfl := some1 hm
            exact endM (hle9475.trans (hle9727.trans (hle9990.trans (hle10026.trans (hle10049.trans hle10057))))) rfl (.refl _) ⟨hs10058, rfl, rfl, h10059, (h10060.trans hln10031)⟩
           ·
            rw [if_neg (fun hh => Bool.noConfusion (hh.symm.trans hc10053))] at hm
            refine c_skip ?_
            obtain rfl := some1 hm
            have he10061 := (h10029.le hle10049)
            exact endM (hle9475.trans (hle9727.trans (hle9990.trans (hle10026.trans hle10049)))) rfl (.refl _) ⟨hs10028, rfl, rfl, he10061, hln10031⟩

set_option maxRecDepth 20000 in
theorem cSlicesStableCmpFunc (b : Base) (R : Hp) (x7 : Int) (l11 : (List FareSpan)) (l12 : (List Int)) (g6 : Nat) (A8 : Option Addr) (c9 : Nat) (A3 : Option Addr) (c4 : Nat) (hs2 : Hp) (h10 : FZ rFareSpan b.w A8 c9 l11) (h5 : OS 3 (OT.fr (RT.int .i64)) b.w (.slice A3 l12.length c4) l12 hs2) (l549 : (List Int)) (hm : mSlicesStableCmpFunc x7 l11 l12 = some l549) :
    CallsG Tryz.prog 54 [.slice A3 (l12).length c4, .int .i64 (x7), .func (.func 37) #[] #[.pointer (some ⟨g6, 0, none⟩)]] b ((g6, Cl 43 [.slice A8 (l11).length c9]) :: (hs2 ++ R)) (fun v b' hp' => ∃ (hs547 : Hp), .tuple #[] = v ∧ (g6, Cl 43 [.slice A8 (l11).length c9]) :: (hs547 ++ R) = hp' ∧ OS 3 (OT.fr (RT.int .i64)) b'.w (.slice A3 l549.length c4) l549 hs547 ∧ l549.length = l12.length) := by
  refine fn_enterG 63 Tryz.func54 rfl Tryz.ntmps54 rfl ?_
  unfold mSlicesStableCmpFunc at hm
  refine c_sr ?_
  refine t_as rfl rfl ?_
  refine t_ne ?_
  refine c_sr ?_
  refine t_mv rfl rfl ?_
  refine t_as rfl rfl ?_
  refine t_as rfl rfl ?_
  refine t_ne ?_
  obtain ⟨⟨x600, l601⟩, hj603, hk603⟩ := bindS hm
  refine c_join (fun b595 e' hp' => ∃ (hs598 : Hp), [(0, .slice A3 (l601).length c4), (1, .int .i64 (x7)), (2, .func (.func 37) #[] #[.pointer (some ⟨g6, 0, none⟩)]), (6, .int .i64 (20)), (7, .int .i64 (x600))] = e' ∧ (g6, Cl 43 [.slice A8 (l11).length c9]) :: (hs598 ++ R) = hp' ∧ b.Le b595 ∧ OS 3 (OT.fr (RT.int .i64)) b595.w (.slice A3 l601.length c4) l601 hs598 ∧ l601.length = l12.length) ?_ ?_
  ·
   have hm := hj603
   refine c_block ?_
   refine c_loopM (unc3 fun x635 x636 l637 => fun b630 e' hp' => ∃ (hs633 : Hp), [(0, .slice A3 (l637).length c4), (1, .int .i64 (x7)), (2, .func (.func 37) #[] #[.pointer (some ⟨g6, 0, none⟩)]), (6, .int .i64 (20)), (7, .int .i64 (x635)), (8, .int .i64 (x636))] = e' ∧ (g6, Cl 43 [.slice A8 (l11).length c9]) :: (hs633 ++ R) = hp' ∧ b.Le b630 ∧ OS 3 (OT.fr (RT.int .i64)) b630.w (.slice A3 l637.length c4) l637 hs633 ∧ l637.length = l12.length) hm (e' := [(0, .slice A3 (l12).length c4), (1, .int .i64 (x7)), (2, .func (.func 37) #[] #[.pointer (some ⟨g6, 0, none⟩)]), (6, .int .i64 (20)), (7, .int .i64 (0)), (8, .int .i64 (20))]) ⟨rfl, rfl, rfl, rfl, rfl, rfl, trivial⟩ (.refl _) ⟨hs2, rfl, rfl, (Base.Le.refl _), h5, rfl⟩ ?_
   rintro ⟨x635, x636, l637⟩ b630 _ _ oL604 ⟨hs633, rfl, rfl, hle631, h634, hln638⟩ hstepL604 houtL604
   unfold mSlicesStableCmpFunc_L604 at hstepL604
   have hm := (unc3E hstepL604)
   refine c_seq ?_
   refine c_sr ?_
   refine t_mv rfl rfl ?_
   refine t_mv rfl rfl ?_
   refine t_st rfl (st_leq rfl rfl) ?_
   refine t_ne ?_
   refine c_cond _ rfl (fun hc639 => ?_) (fun hc639 => ?_)
   ·
    rw [if_pos (of_decide_eq_true hc639)] at hm
    refine c_skip ?_
    refine x_then_normal ?_
    refine c_block ?_
    refine c_sr ?_
    refine t_mv rfl rfl ?_
    refine t_mv rfl rfl ?_
    refine t_mv rfl rfl ?_
    refine t_mv rfl rfl ?_
    obtain ⟨l640, hcl641, hm⟩ := bindS hm
    refine t_out1 [_] [] hs633 R rfl ?_
    refine t_callG _ rfl call72 rfl (cSlicesInsertionSortCmpFunc _ _ x635 x636 l11 l637 g6 A8 c9 A3 c4 hs633 (h10.le hle631) h634 l640 hcl641) ?_
    rintro _ b642 _ hle643 ⟨hs644, rfl, rfl, h645, h646⟩
    refine t_in1 [_] [] hs644 R rfl ?_
    refine t_resp 0 rfl (v' := .slice A3 (l640).length c4) (by rw [h646]) ?_
    refine t_ne ?_
    refine c_sr ?_
    refine t_mv rfl rfl ?_
    refine t_as rfl rfl ?_
    refine t_ne ?_
    refine c_region ?_
    refine t_mv rfl rfl ?_
    refine t_mv rfl rfl ?_
    obtain ⟨_, h647, hm⟩ := bindS hm
    have h647 := (chk_some h647).2
    refine t_st rfl (st_add rfl rfl h647) ?_
    refine t_as rfl rfl ?_
    refine t_nil ?_
    refine x_block_normal ?_
    exact x_againM (x636, x636 + 20, l640) (Option.some.inj hm).symm (e' := [(0, .slice A3 (l640).length c4), (1, .int .i64 (x7)), (2, .func (.func 37) #[] #[.pointer (some ⟨g6, 0, none⟩)]), (6, .int .i64 (20)), (7, .int .i64 (x636)), (8, .int .i64 (x636 + 20))]) ⟨rfl, rfl, rfl, rfl, rfl, rfl, trivial⟩ (.refl _) ⟨hs644, rfl, rfl, ((hle631.trans hle643)), h645, (h646.trans hln638)⟩
   ·
    rw [if_neg (of_decide_eq_false hc639)] at hm
    refine c_exit ?_
    refine x_then_exit ?_
    refine x_then_exit ?_
    refine x_block_out ?_
    have hm := congrArg some (houtL604 _ (Option.some.inj hm).symm)
    obtain ⟨rfl, rfl⟩ := some2 hm
    exact x_join (e' := [(0, .slice A3 (l637).length c4), (1, .int .i64 (x7)), (2, .func (.func 37) #[] #[.pointer (some ⟨g6, 0, none⟩)]), (6, .int .i64 (20)), (7, .int .i64 (x635))]) ⟨rfl, rfl, rfl, rfl, rfl, trivial⟩ (.refl _) ⟨hs633, rfl, rfl, hle631, h634, hln638⟩
  ·
   rintro b595 _ _ ⟨hs598, rfl, rfl, hle596, h599, hln602⟩
   have hm := (unc2E hk603)
   refine c_sr ?_
   refine t_mv rfl rfl ?_
   refine t_mv rfl rfl ?_
   refine t_mv rfl rfl ?_
   refine t_mv rfl rfl ?_
   obtain ⟨l648, hcl649, hm⟩ := bindS hm
   refine t_out1 [_] [] hs598 R rfl ?_
   refine t_callG _ rfl call72 rfl (cSlicesInsertionSortCmpFunc _ _ x600 x7 l11 l601 g6 A8 c9 A3 c4 hs598 (h10.le hle596) h599 l648 hcl649) ?_
   rintro _ b650 _ hle651 ⟨hs652, rfl, rfl, h653, h654⟩
   refine t_in1 [_] [] hs652 R rfl ?_
   refine t_resp 0 rfl (v' := .slice A3 (l648).length c4) (by rw [h654]) ?_
   refine t_ne ?_
   refine c_block ?_
   refine c_loopM (unc2 fun x943 l944 => fun b938 e' hp' => ∃ (hs941 : Hp), [(0, .slice A3 (l944).length c4), (1, .int .i64 (x7)), (2, .func (.func 37) #[] #[.pointer (some ⟨g6, 0, none⟩)]), (6, .int .i64 (x943))] = e' ∧ (g6, Cl 43 [.slice A8 (l11).length c9]) :: (hs941 ++ R) = hp' ∧ b650.Le b938 ∧ OS 3 (OT.fr (RT.int .i64)) b938.w (.slice A3 l944.length c4) l944 hs941 ∧ l944.length = l12.length) hm (e' := [(0, .slice A3 (l648).length c4), (1, .int .i64 (x7)), (2, .func (.func 37) #[] #[.pointer (some ⟨g6, 0, none⟩)]), (6, .int .i64 (20))]) ⟨rfl, rfl, rfl, rfl, trivial⟩ (.refl _) ⟨hs652, rfl, rfl, (Base.Le.refl _), h653, (h654.trans hln602)⟩ ?_
   rintro ⟨x943, l944⟩ b938 _ _ oL655 ⟨hs941, rfl, rfl, hle939, h942, hln945⟩ hstepL655 houtL655
   unfold mSlicesStableCmpFunc_L655 at hstepL655
   have hm := (unc2E hstepL655)
   refine c_seq ?_
   refine c_sr ?_
   refine t_mv rfl rfl ?_
   refine t_mv rfl rfl ?_
   refine t_st rfl (st_lss rfl rfl) ?_
   refine t_ne ?_
   refine c_cond _ rfl (fun hc946 => ?_) (fun hc946 => ?_)
   ·
    rw [if_pos (of_decide_eq_true hc946)] at hm
    refine c_skip ?_
    refine x_then_normal ?_
    refine c_block ?_
    refine c_sr ?_
    refine t_mv rfl rfl ?_
    obtain ⟨_, h947, hm⟩ := bindS hm
    have h947 := (chk_some h947).2
    refine t_st rfl (st_mul rfl rfl h947) ?_
    refine t_as rfl rfl ?_
    refine t_as rfl rfl ?_
    refine t_ne ?_
    obtain ⟨⟨x1003, l1004⟩, hj1006, hk1006⟩ := bindS hm
    refine c_join (fun b998 e' hp' => ∃ (hs1001 : Hp), [(0, .slice A3 (l1004).length c4), (1, .int .i64 (x7)), (2, .func (.func 37) #[] #[.pointer (some ⟨g6, 0, none⟩)]), (6, .int .i64 (x943)), (7, .int .i64 (x1003))] = e' ∧ (g6, Cl 43 [.slice A8 (l11).length c9]) :: (hs1001 ++ R) = hp' ∧ b938.Le b998 ∧ OS 3 (OT.fr (RT.int .i64)) b998.w (.slice A3 l1004.length c4) l1004 hs1001 ∧ l1004.length = l12.length) ?_ ?_
    ·
     have hm := hj1006
     refine c_block ?_
     refine c_loopM (unc3 fun x1042 x1043 l1044 => fun b1037 e' hp' => ∃ (hs1040 : Hp), [(0, .slice A3 (l1044).length c4), (1, .int .i64 (x7)), (2, .func (.func 37) #[] #[.pointer (some ⟨g6, 0, none⟩)]), (6, .int .i64 (x943)), (7, .int .i64 (x1042)), (8, .int .i64 (x1043))] = e' ∧ (g6, Cl 43 [.slice A8 (l11).length c9]) :: (hs1040 ++ R) = hp' ∧ b938.Le b1037 ∧ OS 3 (OT.fr (RT.int .i64)) b1037.w (.slice A3 l1044.length c4) l1044 hs1040 ∧ l1044.length = l12.length) hm (e' := [(0, .slice A3 (l944).length c4), (1, .int .i64 (x7)), (2, .func (.func 37) #[] #[.pointer (some ⟨g6, 0, none⟩)]), (6, .int .i64 (x943)), (7, .int .i64 (0)), (8, .int .i64 (2 * x943))]) ⟨rfl, rfl, rfl, rfl, rfl, rfl, trivial⟩ (.refl _) ⟨hs941, rfl, rfl, (Base.Le.refl _), h942, hln945⟩ ?_
     rintro ⟨x1042, x1043, l1044⟩ b1037 _ _ oL1007 ⟨hs1040, rfl, rfl, hle1038, h1041, hln1045⟩ hstepL1007 houtL1007
     unfold mSlicesStableCmpFunc_L1007 at hstepL1007
     have hm := (unc3E hstepL1007)
     refine c_seq ?_
     refine c_sr ?_
     refine t_mv rfl rfl ?_
     refine t_mv rfl rfl ?_
     refine t_st rfl (st_leq rfl rfl) ?_
     refine t_ne ?_
     refine c_cond _ rfl (fun hc1046 => ?_) (fun hc1046 => ?_)
     ·
      rw [if_pos (of_decide_eq_true hc1046)] at hm
      refine c_skip ?_
      refine x_then_normal ?_
      refine c_block ?_
      refine c_sr ?_
      refine t_mv rfl rfl ?_
      refine t_mv rfl rfl ?_
      refine t_mv rfl rfl ?_
      refine t_mv rfl rfl ?_
      obtain ⟨_, h1047, hm⟩ := bindS hm
      have h1047 := (chk_some h1047).2
      refine t_st rfl (st_add rfl rfl h1047) ?_
      refine t_mv rfl rfl ?_
      refine t_mv rfl rfl ?_
      obtain ⟨l1048, hcl1049, hm⟩ := bindS hm
      obtain ⟨Nhcl1049, hcl1049⟩ := lim_some hcl1049
      refine t_out1 [_] [] hs1040 R rfl ?_
      refine t_callG _ rfl call73 rfl (cSlicesSymMergeCmpFunc Nhcl1049 _ _ x1042 (x1042 + x943) x1043 l11 l1044 g6 A8 c9 A3 c4 hs1040 (h10.le (hle596.trans (hle651.trans (hle939.trans hle1038)))) h1041 l1048 hcl1049) ?_
      rintro _ b1050 _ hle1051 ⟨hs1052, rfl, rfl, h1053, h1054⟩
      refine t_in1 [_] [] hs1052 R rfl ?_
      refine t_resp 0 rfl (v' := .slice A3 (l1048).length c4) (by rw [h1054]) ?_
      refine t_ne ?_
      refine c_sr ?_
      refine t_mv rfl rfl ?_
      refine t_as rfl rfl ?_
      refine t_ne ?_
      refine c_region ?_
      refine t_mv rfl rfl ?_
      refine t_mv rfl rfl ?_
      obtain ⟨_, h1055, hm⟩ := bindS hm
      have h1055 := (chk_some h1055).2
      refine t_st rfl (st_mul rfl rfl h1055) ?_
      obtain ⟨_, h1056, hm⟩ := bindS hm
      have h1056 := (chk_some h1056).2
      refine t_st rfl (st_add rfl rfl h1056) ?_
      refine t_as rfl rfl ?_
      refine t_nil ?_
      refine x_block_normal ?_
      exact x_againM (x1043, x1043 + (2 * x943), l1048) (Option.some.inj hm).symm (e' := [(0, .slice A3 (l1048).length c4), (1, .int .i64 (x7)), (2, .func (.func 37) #[] #[.pointer (some ⟨g6, 0, none⟩)]), (6, .int .i64 (x943)), (7, .int .i64 (x1043)), (8, .int .i64 (x1043 + (2 * x943)))]) ⟨rfl, rfl, rfl, rfl, rfl, rfl, trivial⟩ (.refl _) ⟨hs1052, rfl, rfl, ((hle1038.trans hle1051)), h1053, (h1054.trans hln1045)⟩
     ·
      rw [if_neg (of_decide_eq_false hc1046)] at hm
      refine c_exit ?_
      refine x_then_exit ?_
      refine x_then_exit ?_
      refine x_block_out ?_
      have hm := congrArg some (houtL1007 _ (Option.some.inj hm).symm)
      obtain ⟨rfl, rfl⟩ := some2 hm
      exact x_join (e' := [(0, .slice A3 (l1044).length c4), (1, .int .i64 (x7)), (2, .func (.func 37) #[] #[.pointer (some ⟨g6, 0, none⟩)]), (6, .int .i64 (x943)), (7, .int .i64 (x1042))]) ⟨rfl, rfl, rfl, rfl, rfl, trivial⟩ (.refl _) ⟨hs1040, rfl, rfl, hle1038, h1041, hln1045⟩
    ·
     rintro b998 _ _ ⟨hs1001, rfl, rfl, hle999, h1002, hln1005⟩
     have hm := (unc2E hk1006)
     obtain ⟨l1071, hj1073, hk1073⟩ := bindS hm
     refine c_join (fun b1066 e' hp' => ∃ (hs1069 : Hp), [(0, .slice A3 (l1071).length c4), (1, .int .i64 (x7)), (2, .func (.func 37) #[] #[.pointer (some ⟨g6, 0, none⟩)]), (6, .int .i64 (x943))] = e' ∧ (g6, Cl 43 [.slice A8 (l11).length c9]) :: (hs1069 ++ R) = hp' ∧ b998.Le b1066 ∧ OS 3 (OT.fr (RT.int .i64)) b1066.w (.slice A3 l1071.length c4) l1071 hs1069 ∧ l1071.length = l12.length) ?_ ?_
     ·
      have hm := hj1073
      refine c_sr ?_
      refine t_mv rfl rfl ?_
      refine t_mv rfl rfl ?_
      obtain ⟨_, h1074, hm⟩ := bindS hm
      have h1074 := (chk_some h1074).2
      refine t_st rfl (st_add rfl rfl h1074) ?_
      refine t_as rfl rfl ?_
      refine t_ne ?_
      refine c_sr ?_
      refine t_mv rfl rfl ?_
      refine t_mv rfl rfl ?_
      refine t_st rfl (st_lss rfl rfl) ?_
      refine t_ne ?_
      refine c_cond _ rfl (fun hc1075 => ?_) (fun hc1075 => ?_)
      ·
       rw [if_pos (of_decide_eq_true hc1075)] at hm
       refine c_region ?_
       refine t_mv rfl rfl ?_
       refine t_mv rfl rfl ?_
       refine t_mv rfl rfl ?_
       refine t_mv rfl rfl ?_
       refine t_mv rfl rfl ?_
       obtain ⟨l1076, hcl1077, hm⟩ := bindS hm
       obtain ⟨Nhcl1077, hcl1077⟩ := lim_some hcl1077
       refine t_out1 [_] [] hs1001 R rfl ?_
       refine t_callG _ rfl call73 rfl (cSlicesSymMergeCmpFunc Nhcl1077 _ _ x1003 (x1003 + x943) x7 l11 l1004 g6 A8 c9 A3 c4 hs1001 (h10.le (hle596.trans (hle651.trans (hle939.trans hle999)))) h1002 l1076 hcl1077) ?_
       rintro _ b1078 _ hle1079 ⟨hs1080, rfl, rfl, h1081, h1082⟩
       refine t_in1 [_] [] hs1080 R rfl ?_
       refine t_resp 0 rfl (v' := .slice A3 (l1076).length c4) (by rw [h1082]) ?_
       refine t_nil ?_
       obtain rfl := some1 hm
       exact x_join (e' := [(0, .slice A3 (l1076).length c4), (1, .int .i64 (x7)), (2, .func (.func 37) #[] #[.pointer (some ⟨g6, 0, none⟩)]), (6, .int .i64 (x943))]) ⟨rfl, rfl, rfl, rfl, trivial⟩ (.refl _) ⟨hs1080, rfl, rfl, hle1079, h1081, (h1082.trans hln1005)⟩
      ·
       rw [if_neg (of_decide_eq_false hc1075)] at hm
       refine c_skip ?_
       obtain rfl := some1 hm
       exact x_join (e' := [(0, .slice A3 (l1004).length c4), (1, .int .i64 (x7)), (2, .func (.func 37) #[] #[.pointer (some ⟨g6, 0, none⟩)]), (6, .int .i64 (x943))]) ⟨rfl, rfl, rfl, rfl, trivial⟩ (.refl _) ⟨hs1001, rfl, rfl, (Base.Le.refl _), h1002, hln1005⟩
     ·
      rintro b1066 _ _ ⟨hs1069, rfl, rfl, hle1067, h1070, hln1072⟩
      have hm := hk1073
      refine c_region ?_
      refine t_mv rfl rfl ?_
      obtain ⟨_, h1083, hm⟩ := bindS hm
      have h1083 := (chk_some h1083).2
      refine t_st rfl (st_mul rfl rfl h1083) ?_
      refine t_as rfl rfl ?_
      refine t_nil ?_
      refine x_block_normal ?_
      exact x_againM (x943 * 2, l1071) (Option.some.inj hm).symm (e' := [(0, .slice A3 (l1071).length c4), (1, .int .i64 (x7)), (2, .func (.func 37) #[] #[.pointer (some ⟨g6, 0, none⟩)]), (6, .int .i64 (x943 * 2))]) ⟨rfl, rfl, rfl, rfl, trivial⟩ (.refl _) ⟨hs1069, rfl, rfl, ((hle939.trans (hle999.trans hle1067))), h1070, hln1072⟩
   ·
    rw [if_neg (of_decide_eq_false hc946)] at hm
    refine c_exit ?_
    refine x_then_exit ?_
    refine x_then_exit ?_
    refine x_block_out ?_
    have hm := congrArg some (houtL655 _ (Option.some.inj hm).symm)
    obtain rfl := some1 hm
    exact endM (hle596.trans (hle651.trans hle939)) rfl (.refl _) ⟨hs941, rfl, rfl, h942, hln945⟩

set_option maxRecDepth 20000 in
theorem cSlicesSortStableFunc (b : Base) (R : Hp) (l10 : (List FareSpan)) (l11 : (List Int)) (g6 : Nat) (A7 : Option Addr) (c8 : Nat) (A3 : Option Addr) (c4 : Nat) (hs2 : Hp) (h9 : FZ rFareSpan b.w A7 c8 l10) (h5 : OS 3 (OT.fr (RT.int .i64)) b.w (.slice A3 l11.length c4) l11 hs2) (l22 : (List Int)) (hm : mSlicesSortStableFunc l10 l11 = some l22) :
    CallsG Tryz.prog 32 [.slice A3 (l11).length c4, .func (.func 37) #[] #[.pointer (some ⟨g6, 0, none⟩)]] b ((g6, Cl 43 [.slice A7 (l10).length c8]) :: (hs2 ++ R)) (fun v b' hp' => ∃ (hs20 : Hp), .tuple #[] = v ∧ (g6, Cl 43 [.slice A7 (l10).length c8]) :: (hs20 ++ R) = hp' ∧ OS 3 (OT.fr (RT.int .i64)) b'.w (.slice A3 l22.length c4) l22 hs20 ∧ l22.length = l11.length) := by
  refine fn_enterG 9 Tryz.func32 rfl Tryz.ntmps32 rfl ?_
  unfold mSlicesSortStableFunc at hm
  refine c_region ?_
  refine t_mv rfl rfl ?_
  refine t_mv rfl rfl ?_
  refine t_st rfl (st_len rfl sl22) ?_
  refine t_mv rfl rfl ?_
  obtain ⟨l24, hcl25, hm⟩ := bindS hm
  refine t_out1 [_] [] hs2 R rfl ?_
  refine t_callG _ rfl call54 rfl (cSlicesStableCmpFunc _ _ (l11.length : Int) l10 l11 g6 A7 c8 A3 c4 hs2 h9 h5 l24 hcl25) ?_
  rintro _ b26 _ hle27 ⟨hs28, rfl, rfl, h29, h30⟩
  refine t_in1 [_] [] hs28 R rfl ?_
  refine t_nil ?_
  obtain rfl := some1 hm
  exact endM hle27 rfl (.refl _) ⟨hs28, rfl, rfl, h29, (h30.trans rfl)⟩

set_option maxRecDepth 20000 in
theorem cFarePack_2 (b : Base) (R : Hp) (x3 : Int) (l7 : (List FareSpan)) (x8 : Int) (g1 : Nat) (g2 : Nat) (A4 : Option Addr) (c5 : Nat) (h6 : FZ rFareSpan b.w A4 c5 l7) (x19 : Bool) (hm : mFarePack_2 x3 l7 x8 = some x19) :
    CallsG Tryz.prog 39 [.int .i64 (x3), .pointer (some ⟨g1, 0, none⟩), .pointer (some ⟨g2, 0, none⟩)] b ((g1, Cl 43 [.slice A4 (l7).length c5]) :: (g2, Cl 3 [.int .i64 (x8)]) :: R) (fun v b' hp' => .bool (x19) = v ∧ (g1, Cl 43 [.slice A4 (l7).length c5]) :: (g2, Cl 3 [.int .i64 (x8)]) :: R = hp') := by
  refine fn_enterG 12 Tryz.func39 rfl Tryz.ntmps39 rfl ?_
  unfold mFarePack_2 at hm
  refine c_sr ?_
  refine t_as rfl rfl ?_
  refine t_ne ?_
  refine c_sr ?_
  refine t_mv rfl rfl ?_
  refine t_st rfl (st_load 0 rfl one43 rfl rfl) ?_
  refine t_st rfl (st_load 1 rfl one3 rfl rfl) ?_
  obtain ⟨x20, h21, hm⟩ := bindS hm
  obtain ⟨j22, hj23, hx24⟩ := idx_some h21
  obtain ⟨cs25, hr26, hcs27, hA28, hlt29⟩ := FZ.get (sz := 2) rfl (by decide) h6 hx24
  obtain ⟨_, _, rfl, rfl, rfl⟩ := hr26
  refine t_st rfl (st_index_old j22 rfl rfl hj23 hlt29 hA28 sl43) ?_
  refine t_st rfl (st_field_old rfl hA28 fld46_0) ?_
  refine t_st rfl (st_load_old rfl one3 (hcs27 0 _ rfl)) ?_
  refine t_st rfl (st_leq rfl rfl) ?_
  refine t_as rfl rfl ?_
  refine t_ne ?_
  refine c_ret ?_
  obtain rfl := some1 hm
  refine x_pullb 1 rfl ?_
  refine x_pullb 1 rfl ?_
  exact retM (rs := [.tmp 4]) [.bool (decide (x3 ≤ x20.From))] (Base.Le.refl _) (by decide) rfl ⟨rfl, trivial⟩ rfl (.refl _) ⟨rfl, rfl⟩

set_option maxRecDepth 20000 in
theorem cSlicesIndexFunc_4 (b : Base) (R : Hp) (l11 : (List FareSpan)) (x12 : Int) (l13 : (List Int)) (g6 : Nat) (g7 : Nat) (A8 : Option Addr) (c9 : Nat) (A3 : Option Addr) (c4 : Nat) (hs2 : Hp) (h10 : FZ rFareSpan b.w A8 c9 l11) (h5 : OS 3 (OT.fr (RT.int .i64)) b.w (.slice A3 l13.length c4) l13 hs2) (x66 : Int) (hm : mSlicesIndexFunc_4 l11 x12 l13 = some x66) :
    CallsG Tryz.prog 38 [.slice A3 (l13).length c4, .func (.func 39) #[] #[.pointer (some ⟨g6, 0, none⟩), .pointer (some ⟨g7, 0, none⟩)]] b ((g6, Cl 43 [.slice A8 (l11).length c9]) :: (g7, Cl 3 [.int .i64 (x12)]) :: (hs2 ++ R)) (fun v b' hp' => .int .i64 (x66) = v ∧ (g6, Cl 43 [.slice A8 (l11).length c9]) :: (g7, Cl 3 [.int .i64 (x12)]) :: (hs2 ++ R) = hp') := by
  refine fn_enterG 19 Tryz.func38 rfl Tryz.ntmps38 rfl ?_
  unfold mSlicesIndexFunc_4 at hm
  refine c_sr ?_
  refine t_as rfl rfl ?_
  refine t_ne ?_
  refine c_seq ?_
  refine c_sr ?_
  refine t_mv rfl rfl ?_
  refine t_st rfl (st_len rfl sl22) ?_
  refine t_mv rfl rfl ?_
  refine t_ne ?_
  refine c_block ?_
  have hb68 : l13.length ≤ 9223372036854775807 := (OS.len h5)
  refine c_pullb 1 rfl ?_
  refine c_pullb 1 rfl ?_
  obtain ⟨t93, hl94, hk95⟩ := bindS hm
  refine c_forM (fun k92 => fun _ => fun b90 e' hp' => [(0, .slice A3 (l13).length c4), (1, .func (.func 39) #[] #[.pointer (some ⟨g6, 0, none⟩), .pointer (some ⟨g7, 0, none⟩)]), (7, .int .i64 ((l13.length : Int))), (8, .int .i64 ((k92 : Int)))] = e' ∧ (g6, Cl 43 [.slice A8 (l11).length c9]) :: (g7, Cl 3 [.int .i64 (x12)]) :: (hs2 ++ R) = hp' ∧ b.Le b90) hl94 (e' := [(0, .slice A3 (l13).length c4), (1, .func (.func 39) #[] #[.pointer (some ⟨g6, 0, none⟩), .pointer (some ⟨g7, 0, none⟩)]), (7, .int .i64 ((l13.length : Int))), (8, .int .i64 0)]) ⟨rfl, rfl, rfl, rfl, trivial⟩ (.refl _) ⟨rfl, rfl, (Base.Le.refl _)⟩ ?_ ?_
  ·
   rintro k92 _ b90 _ _ oL67 hknL67 ⟨rfl, rfl, hle91⟩ hstepL67 houtL67
   unfold mSlicesIndexFunc_4_L67 at hstepL67
   have hm := hstepL67
   refine c_sr ?_
   refine t_st rfl (st_lss_t rfl rfl (by omega)) ?_
   refine t_ne ?_
   refine c_seq ?_
   refine c_cond_t rfl ?_
   refine c_skip ?_
   refine x_then_normal ?_
   refine c_seq ?_
   refine c_block ?_
   refine c_sr ?_
   refine t_mv rfl rfl ?_
   refine t_as rfl rfl ?_
   refine t_ne ?_
   refine c_sr ?_
   refine t_mv rfl rfl ?_
   refine t_mv rfl rfl ?_
   refine t_mv rfl rfl ?_
   obtain ⟨x96, h97, hm⟩ := bindS hm
   obtain ⟨j98, hj99, hx100⟩ := idx_some h97
   obtain ⟨cs101, hs106, P107, P108, hq109, hr102, hcs103, hA104, hlt105, hb110, hho111⟩ := OS.get (sz := 1) rfl (by decide) (h5.le hle91) hx100
   obtain ⟨rfl, rfl⟩ := hr102
   refine t_st rfl (st_index_old j98 rfl rfl hj99 hlt105 hA104 sl22) ?_
   refine t_st rfl (st_load_rd rfl one3 (fun w ho => hcs103 w _ ho (.cons _ (.cons _ (List.sublist_append_left _ _))) 0 _ rfl)) ?_
   obtain ⟨x112, hcl113, hm⟩ := bindS hm
   refine t_pullb 1 rfl ?_
   refine t_pullb 1 rfl ?_
   refine t_callvG #[] #[.pointer (some ⟨g6, 0, none⟩), .pointer (some ⟨g7, 0, none⟩)] [.int .i64 (x96)] rfl rfl call39 rfl (cFarePack_2 _ _ x96 l11 x12 g6 g7 A8 c9 (h10.le hle91) x112 hcl113) ?_
   rintro _ b114 _ hle115 ⟨rfl, rfl⟩
   refine t_ne ?_
   refine c_cond _ rfl (fun hc116 => ?_) (fun hc116 => ?_)
   ·
    rw [if_pos hc116] at hm
    refine c_sr ?_
    refine t_mv rfl rfl ?_
    refine t_as rfl rfl ?_
    refine t_ne ?_
    refine c_ret ?_
    refine x_block_ret ?_
    refine x_then_ret ?_
    refine x_then_ret ?_
    refine x_block_ret ?_
    refine x_then_ret ?_
    have hq117 := houtL67 _ (Option.some.inj hm).symm
    rw [hq117] at hk95
    have hm := elimR hk95
    obtain rfl := some1 hm
    refine x_pullb 1 rfl ?_
    refine x_pullb 1 rfl ?_
    exact retM (rs := [.tmp 4]) [.int .i64 ((k92 : Int))] (hle91.trans hle115) (by decide) rfl ⟨rfl, trivial⟩ rfl (.refl _) ⟨rfl, rfl⟩
   ·
    rw [if_neg (fun hh => Bool.noConfusion (hh.symm.trans hc116))] at hm
    refine c_skip ?_
    refine x_block_normal ?_
    refine x_then_normal ?_
    refine c_region ?_
    refine t_st rfl (st_add rfl rfl (by omega)) ?_
    refine t_mv rfl rfl ?_
    refine t_nil ?_
    refine x_pullb 1 rfl ?_
    refine x_pullb 1 rfl ?_
    exact x_againM () (Option.some.inj hm).symm (e' := [(0, .slice A3 (l13).length c4), (1, .func (.func 39) #[] #[.pointer (some ⟨g6, 0, none⟩), .pointer (some ⟨g7, 0, none⟩)]), (7, .int .i64 ((l13.length : Int))), (8, .int .i64 ((k92 : Int) + 1))]) ⟨rfl, rfl, rfl, rfl, trivial⟩ (.refl _) ⟨rfl, rfl, ((hle91.trans hle115))⟩
  ·
   rintro _ b90 _ _ ⟨rfl, rfl, hle91⟩ hq118
   rw [hq118] at hk95
   have hm := elimL hk95
   refine c_sr ?_
   refine t_st rfl (st_lss_f rfl rfl (by omega)) ?_
   refine t_ne ?_
   refine c_seq ?_
   refine c_cond_f rfl ?_
   refine c_exit ?_
   refine x_then_exit ?_
   refine x_then_exit ?_
   refine x_block_out ?_
   refine x_then_normal ?_
   refine c_sr ?_
   refine t_as rfl rfl ?_
   refine t_ne ?_
   refine c_ret ?_
   obtain rfl := some1 hm
   refine x_pullb 1 rfl ?_
   refine x_pullb 1 rfl ?_
   exact retM (rs := [.tmp 4]) [.int .i64 ((-1))] hle91 (by decide) rfl ⟨rfl, trivial⟩ rfl (.refl _) ⟨rfl, rfl⟩

set_option maxRecDepth 20000 in
theorem cFarePack (b : Base) (R : Hp) (l4 : (List FareSpan)) (x5 : Int) (x6 : Int) (A1 : Option Addr) (c2 : Nat) (h3 : FZ rFareSpan b.w A1 c2 l4) (x542 : Int) (l543 : (List Int)) (hm : mFarePack l4 x5 x6 = some (x542, l543)) :
    CallsG Tryz.prog 16 [.slice A1 (l4).length c2, .int .i64 (x5), .int .i64 (x6)] b (R) (fun v b' hp' => ∃ (A539 : Option Addr), ∃ (c540 : Nat), ∃ (hs538 : Hp), .tuple #[.slice A539 (l543).length c540, .int .i64 (x542)] = v ∧ (hs538 ++ R) = hp' ∧ OS 3 (OT.fr (RT.int .i64)) b'.w (.slice A539 l543.length c540) l543 hs538) := by
  refine fn_enterG 82 Tryz.func16 rfl Tryz.ntmps16 rfl ?_
  unfold mFarePack at hm
  refine c_sr ?_
  refine t_do rfl (u_box _ rfl rfl) ?_
  rintro _ _ ⟨g544, rfl, rfl⟩
  refine t_as rfl rfl ?_
  refine t_as rfl rfl ?_
  refine t_ne ?_
  refine c_seq ?_
  refine c_sr ?_
  refine t_st rfl (st_load 0 rfl one43 rfl rfl) ?_
  refine t_st rfl (st_len rfl sl43) ?_
  refine t_st rfl (st_gtr rfl rfl) ?_
  refine t_ne ?_
  refine c_cond _ rfl (fun hc545 => ?_) (fun hc545 => ?_)
  ·
   rw [if_pos (of_decide_eq_true hc545)] at hm
   refine c_sr ?_
   refine t_as rfl rfl ?_
   refine t_as rfl rfl ?_
   refine t_ne ?_
   refine c_ret ?_
   refine x_then_ret ?_
   obtain ⟨rfl, rfl⟩ := some2 hm
   exact retM (rs := [.tmp 6, .tmp 7]) [.slice none 0 0, .int .i64 (4)] (Base.Le.refl _) (by decide) rfl ⟨rfl, ⟨rfl, trivial⟩⟩ rfl (.cons _ (.refl _)) ⟨none, 0, [], rfl, rfl, OS.nil⟩
  ·
   rw [if_neg (of_decide_eq_false hc545)] at hm
   refine c_skip ?_
   refine x_then_normal ?_
   refine c_seq ?_
   obtain ⟨x553, hj554, hk554⟩ := bindS hm
   refine c_join (fun b551 e' hp' => [(1, .int .i64 (x5)), (2, .int .i64 (x6)), (3, .pointer (some ⟨g544, 0, none⟩)), (26, .bool (x553))] = e' ∧ (g544, Cl 43 [.slice A1 (l4).length c2]) :: R = hp' ∧ b.Le b551) ?_ ?_
   ·
    have hm := hj554
    refine c_region ?_
    refine t_mv rfl rfl ?_
    obtain ⟨x555, hcl556, hm⟩ := bindS hm
    refine t_do rfl (u_callW0 _ call19 rfl (fun w ho => cFareWithin _ [] x5 1 80 x555 hcl556) (fun _ _ _ h => h.2.symm)) ?_
    rintro _ _ ⟨⟨_, rfl, _⟩, rfl⟩
    rcases Bool.eq_false_or_eq_true x555 with hc557 | hc557
    ·
     rw [if_pos hc557] at hm
     refine t_resp 20 rfl (v' := .bool true) (by rw [hc557] <;> rfl) ?_
     refine t_st rfl (st_not_t rfl) ?_
     refine t_mv rfl rfl ?_
     refine t_yes 22 rfl rfl rfl ?_
     refine t_mv rfl rfl ?_
     refine t_yes 22 rfl rfl rfl ?_
     obtain ⟨x558, hcl559, hm⟩ := bindS hm
     refine t_do rfl (u_callW0 _ call19 rfl (fun w ho => cFareWithin _ [] x6 2 12 x558 hcl559) (fun _ _ _ h => h.2.symm)) ?_
     rintro _ _ ⟨⟨_, rfl, _⟩, rfl⟩
     refine t_yes 22 rfl rfl rfl ?_
     refine t_st rfl (st_not rfl) ?_
     refine t_st rfl (st_pick_f rfl rfl) ?_
     refine t_nil ?_
     obtain rfl := some1 hm
     exact x_join (e' := [(1, .int .i64 (x5)), (2, .int .i64 (x6)), (3, .pointer (some ⟨g544, 0, none⟩)), (26, .bool (!x558))]) ⟨rfl, rfl, rfl, rfl, trivial⟩ (.refl _) ⟨rfl, rfl, (Base.Le.refl _)⟩
    ·
     rw [if_neg (fun hh => Bool.noConfusion (hh.symm.trans hc557))] at hm
     refine t_resp 20 rfl (v' := .bool false) (by rw [hc557] <;> rfl) ?_
     refine t_st rfl (st_not_f rfl) ?_
     refine t_mv rfl rfl ?_
     refine t_no 22 rfl rfl rfl rfl rfl ?_
     refine t_no 22 rfl rfl rfl rfl rfl ?_
     refine t_no 22 rfl rfl rfl rfl rfl ?_
     refine t_st rfl (st_pick_t rfl rfl) ?_
     refine t_nil ?_
     obtain rfl := some1 hm
     exact x_join (e' := [(1, .int .i64 (x5)), (2, .int .i64 (x6)), (3, .pointer (some ⟨g544, 0, none⟩)), (26, .bool (true))]) ⟨rfl, rfl, rfl, rfl, trivial⟩ (.refl _) ⟨rfl, rfl, (Base.Le.refl _)⟩
   ·
    rintro b551 _ _ ⟨rfl, rfl, hle552⟩
    have hm := hk554
    refine c_cond _ rfl (fun hc560 => ?_) (fun hc560 => ?_)
    ·
     rw [if_pos hc560] at hm
     refine c_sr ?_
     refine t_as rfl rfl ?_
     refine t_as rfl rfl ?_
     refine t_ne ?_
     refine c_ret ?_
     refine x_then_ret ?_
     obtain ⟨rfl, rfl⟩ := some2 hm
     exact retM (rs := [.tmp 6, .tmp 7]) [.slice none 0 0, .int .i64 (2)] hle552 (by decide) rfl ⟨rfl, ⟨rfl, trivial⟩⟩ rfl (.cons _ (.refl _)) ⟨none, 0, [], rfl, rfl, OS.nil⟩
    ·
     rw [if_neg (fun hh => Bool.noConfusion (hh.symm.trans hc560))] at hm
     refine c_skip ?_
     refine x_then_normal ?_
     refine c_sr ?_
     refine t_st rfl (st_load 0 rfl one43 rfl rfl) ?_
     refine t_st rfl (st_len rfl sl43) ?_
     obtain ⟨m561, h562, hm⟩ := bindS hm
     have h562 := mkLen_some h562
     refine t_do rfl (u_mkOS (r := (RT.int .i64)) [_] R [.int .i64 (0)] 0 m561 rfl h562.1 rfl rfl sl22 inf3 rfl rfl rfl (by decide) rfl h562.2.1 h562.2.2) ?_
     rintro _ _ ⟨hs563, rfl, h564⟩
     obtain ⟨A565, c566, rfl, _⟩ := h564.form
     refine t_as rfl rfl ?_
     refine t_ne ?_
     refine c_seq ?_
     refine c_sr ?_
     refine t_st rfl (st_load 0 rfl one43 rfl rfl) ?_
     refine t_st rfl (st_len rfl sl43) ?_
     refine t_mv rfl rfl ?_
     refine t_ne ?_
     refine c_block ?_
     have hb568 : l4.length ≤ 9223372036854775807 := (FZ.bd (h3.le hle552))
     obtain ⟨t646, hl647, hk648⟩ := bindS hm
     refine c_forM (fun k645 => fun l643 => fun b638 e' hp' => ∃ (hs641 : Hp), [(1, .int .i64 (x5)), (2, .int .i64 (x6)), (3, .pointer (some ⟨g544, 0, none⟩)), (8, .slice A565 (l643).length c566), (30, .slice A1 (l4).length c2), (31, .int .i64 ((l4.length : Int))), (32, .int .i64 ((k645 : Int)))] = e' ∧ (g544, Cl 43 [.slice A1 (l4).length c2]) :: (hs641 ++ R) = hp' ∧ b551.Le b638 ∧ OS 3 (OT.fr (RT.int .i64)) b638.w (.slice A565 l643.length c566) l643 hs641 ∧ l643.length = m561) hl647 (e' := [(1, .int .i64 (x5)), (2, .int .i64 (x6)), (3, .pointer (some ⟨g544, 0, none⟩)), (8, .slice A565 (List.replicate m561 (0 : Int)).length c566), (30, .slice A1 (l4).length c2), (31, .int .i64 ((l4.length : Int))), (32, .int .i64 0)]) ⟨rfl, rfl, rfl, rfl, rfl, rfl, rfl, trivial⟩ (.refl _) ⟨hs563, rfl, rfl, (Base.Le.refl _), h564, List.length_replicate⟩ ?_ ?_
     ·
      rintro k645 l643 b638 _ _ oL567 hknL567 ⟨hs641, rfl, rfl, hle639, h642, hln644⟩ hstepL567 houtL567
      unfold mFarePack_L567 at hstepL567
      have hm := hstepL567
      refine c_sr ?_
      refine t_st rfl (st_lss_t rfl rfl (by omega)) ?_
      refine t_ne ?_
      refine c_seq ?_
      refine c_cond_t rfl ?_
      refine c_skip ?_
      refine x_then_normal ?_
      refine c_seq ?_
      refine c_block ?_
      refine c_sr ?_
      refine t_mv rfl rfl ?_
      obtain ⟨x649, h650, hm⟩ := bindS hm
      obtain ⟨j651, hj652, hx653⟩ := idx_some h650
      obtain ⟨cs654, hr655, hcs656, hA657, hlt658⟩ := FZ.get (sz := 2) rfl (by decide) (h3.le (hle552.trans hle639)) hx653
      obtain ⟨_, _, rfl, rfl, rfl⟩ := hr655
      refine t_st rfl (st_index_old j651 rfl rfl hj652 hlt658 hA657 sl43) ?_
      refine t_st rfl (st_loadN_old (vs := [.int .i64 (x649.From), .int .i64 (x649.To)]) 2 rfl agg46 hA657 rfl (fun j u hu => hcs656 j u hu)) ?_
      refine t_do rfl (u_alloc [.int .i64 0, .int .i64 0] zero46 rfl) ?_
      rintro _ _ ⟨g659, rfl, rfl⟩
      refine t_as rfl rfl ?_
      refine t_do rfl (u_storeN (vs := [_, _]) 0 2 rfl rfl rfl siz46 rfl (mem_c rfl (mem_c rfl mem_n)) rfl (by simp)) ?_
      rintro _ _ rfl
      refine t_ne ?_
      refine c_seq ?_
      refine c_sr ?_
      refine t_st rfl (st_field rfl fld46_0) ?_
      refine t_st rfl (st_load 0 rfl one3 rfl rfl) ?_
      refine t_st rfl (st_field rfl fld46_1) ?_
      refine t_st rfl (st_load 0 rfl one3 rfl rfl) ?_
      refine t_mv rfl rfl ?_
      obtain ⟨x660, hcl661, hm⟩ := bindS hm
      refine t_do rfl (u_callW0 _ call36 rfl (fun w ho => cFareSpan _ [] x649.From x649.To x6 x660 hcl661) (fun _ _ _ h => h.2.symm)) ?_
      rintro _ _ ⟨⟨_, rfl, _⟩, rfl⟩
      refine t_st rfl (st_not rfl) ?_
      refine t_ne ?_
      refine c_cond _ rfl (fun hc662 => ?_) (fun hc662 => ?_)
      ·
       rw [if_neg (fun hh => Bool.noConfusion (hh.symm.trans (notT hc662)))] at hm
       refine c_sr ?_
       refine t_as rfl rfl ?_
       refine t_as rfl rfl ?_
       refine t_ne ?_
       refine c_ret ?_
       refine x_then_ret ?_
       refine x_block_ret ?_
       refine x_then_ret ?_
       refine x_then_ret ?_
       refine x_block_ret ?_
       refine x_then_ret ?_
       have hq663 := houtL567 _ (Option.some.inj hm).symm
       rw [hq663] at hk648
       have hm := elimR hk648
       obtain ⟨rfl, rfl⟩ := some2 hm
       exact retM (rs := [.tmp 6, .tmp 7]) [.slice none 0 0, .int .i64 (2)] (hle552.trans hle639) (by decide) rfl ⟨rfl, ⟨rfl, trivial⟩⟩ rfl (.cons _ (.cons _ (sub_skip hs641 (.refl _)))) ⟨none, 0, [], rfl, rfl, OS.nil⟩
      ·
       rw [if_pos (notF hc662)] at hm
       refine c_skip ?_
       refine x_then_normal ?_
       refine c_region ?_
       refine t_mv rfl rfl ?_
       refine t_mv rfl rfl ?_
       refine t_mv rfl rfl ?_
       obtain ⟨x664, h665, hm⟩ := bindS hm
       obtain ⟨j666, hj667, hx668⟩ := idx_some h665
       obtain ⟨cs669, hs674, P675, P676, hq677, hr670, hcs671, hA672, hlt673, hb678, hho679⟩ := OS.get (sz := 1) rfl (by decide) h642 hx668
       obtain ⟨rfl, rfl⟩ := hr670
       refine t_st rfl (st_index_old j666 rfl rfl hj667 hlt673 hA672 sl22) ?_
       refine t_do rfl (u_putOS hj667 (sz := 1) (a' := (k645 : Int)) rfl [_, _] R 0 1 [.int .i64 ((k645 : Int))] rfl h642 hx668 rfl rfl rfl siz3 rfl (mem_c rfl mem_n) (fun cs hsj hh => by obtain ⟨rfl, rfl⟩ := hh; exact ⟨by decide, rfl, rfl⟩)) ?_
       rintro _ _ ⟨hs680, rfl, h681⟩
       refine t_resp 8 rfl (v' := .slice A565 (put l643 (k645 : Int) (k645 : Int)).length c566) (by simp only [put_length]) ?_
       refine t_nil ?_
       refine x_block_normal ?_
       refine x_then_normal ?_
       refine c_region ?_
       refine t_st rfl (st_add rfl rfl (by omega)) ?_
       refine t_mv rfl rfl ?_
       refine t_nil ?_
       refine x_pullb 1 rfl ?_
       exact x_againM (put l643 (k645 : Int) (k645 : Int)) (Option.some.inj hm).symm (e' := [(1, .int .i64 (x5)), (2, .int .i64 (x6)), (3, .pointer (some ⟨g544, 0, none⟩)), (8, .slice A565 (put l643 (k645 : Int) (k645 : Int)).length c566), (30, .slice A1 (l4).length c2), (31, .int .i64 ((l4.length : Int))), (32, .int .i64 ((k645 : Int) + 1))]) ⟨rfl, rfl, rfl, rfl, rfl, rfl, rfl, trivial⟩ (.cons_cons _ (.cons _ (.refl _))) ⟨hs680, rfl, rfl, (hle639), h681, ((put_length _ _ _).trans hln644)⟩
     ·
      rintro l643 b638 _ _ ⟨hs641, rfl, rfl, hle639, h642, hln644⟩ hq682
      rw [hq682] at hk648
      have hm := elimL hk648
      refine c_sr ?_
      refine t_st rfl (st_lss_f rfl rfl (by omega)) ?_
      refine t_ne ?_
      refine c_seq ?_
      refine c_cond_f rfl ?_
      refine c_exit ?_
      refine x_then_exit ?_
      refine x_then_exit ?_
      refine x_block_out ?_
      refine x_then_normal ?_
      refine c_sr ?_
      refine t_mv rfl rfl ?_
      refine t_st rfl (st_func _ _ rfl rfl) ?_
      obtain ⟨l683, hcl684, hm⟩ := bindS hm
      refine t_out1 [_] [] hs641 R rfl ?_
      refine t_callG _ rfl call32 rfl (cSlicesSortStableFunc _ _ l4 l643 g544 A1 c2 A565 c566 hs641 (h3.le (hle552.trans hle639)) h642 l683 hcl684) ?_
      rintro _ b685 _ hle686 ⟨hs687, rfl, rfl, h688, h689⟩
      refine t_in1 [_] [] hs687 R rfl ?_
      refine t_resp 8 rfl (v' := .slice A565 (l683).length c566) (by rw [h689]) ?_
      refine t_ne ?_
      refine c_sr ?_
      refine t_mv rfl rfl ?_
      obtain ⟨m690, h691, hm⟩ := bindS hm
      have h691 := mkLen_some h691
      refine t_do rfl (u_mkOS (r := (RT.int .i64)) [_] (hs687 ++ R) [.int .i64 (0)] 0 m690 rfl h691.1 rfl rfl sl22 inf3 rfl rfl rfl (by decide) rfl h691.2.1 h691.2.2) ?_
      rintro _ _ ⟨hs692, rfl, h693⟩
      obtain ⟨A694, c695, rfl, _⟩ := h693.form
      refine t_as rfl rfl ?_
      refine t_ne ?_
      refine c_sr ?_
      refine t_st rfl (st_load 0 rfl one43 rfl rfl) ?_
      refine t_st rfl (st_len rfl sl43) ?_
      obtain ⟨m696, h697, hm⟩ := bindS hm
      have h697 := mkLen_some h697
      refine t_do rfl (u_mkOS (r := (RT.int .i64)) [_] (hs692 ++ (hs687 ++ R)) [.int .i64 (0)] 0 m696 rfl h697.1 rfl rfl sl22 inf3 rfl rfl rfl (by decide) rfl h697.2.1 h697.2.2) ?_
      rintro _ _ ⟨hs698, rfl, h699⟩
      obtain ⟨A700, c701, rfl, _⟩ := h699.form
      refine t_as rfl rfl ?_
      refine t_ne ?_
      refine c_seq ?_
      refine c_sr ?_
      refine t_mv rfl rfl ?_
      refine t_st rfl (st_len rfl sl22) ?_
      refine t_mv rfl rfl ?_
      refine t_ne ?_
      refine c_block ?_
      have hb703 : l683.length ≤ 9223372036854775807 := (OS.len h688)
      refine c_front3 [_] hs698 hs692 hs687 R rfl ?_
      refine c_front2 [_] hs687 hs698 (hs692 ++ R) rfl ?_
      refine c_front3 [_] hs698 hs687 hs692 R rfl ?_
      obtain ⟨t955, hl956, hk957⟩ := bindS hm
      refine c_forM (fun k954 => unc2 fun l950 l952 => fun b942 e' hp' => ∃ (hs945 : Hp), ∃ (hs948 : Hp), [(3, .pointer (some ⟨g544, 0, none⟩)), (11, .slice A694 (l950).length c695), (12, .slice A700 (l952).length c701), (57, .slice A565 (l683).length c566), (58, .int .i64 ((l683.length : Int))), (59, .int .i64 ((k954 : Int)))] = e' ∧ (g544, Cl 43 [.slice A1 (l4).length c2]) :: (hs945 ++ (hs948 ++ (hs687 ++ R))) = hp' ∧ b685.Le b942 ∧ OS 3 (OT.fr (RT.int .i64)) b942.w (.slice A694 l950.length c695) l950 hs945 ∧ l950.length = m690 ∧ OS 3 (OT.fr (RT.int .i64)) b942.w (.slice A700 l952.length c701) l952 hs948 ∧ l952.length = m696) hl956 (e' := [(3, .pointer (some ⟨g544, 0, none⟩)), (11, .slice A694 (List.replicate m690 (0 : Int)).length c695), (12, .slice A700 (List.replicate m696 (0 : Int)).length c701), (57, .slice A565 (l683).length c566), (58, .int .i64 ((l683.length : Int))), (59, .int .i64 0)]) ⟨rfl, rfl, rfl, rfl, rfl, rfl, trivial⟩ (.refl _) ⟨hs692, hs698, rfl, rfl, (Base.Le.refl _), h693, List.length_replicate, h699, List.length_replicate⟩ ?_ ?_
      ·
       rintro k954 ⟨l950, l952⟩ b942 _ _ oL702 hknL702 ⟨hs945, hs948, rfl, rfl, hle943, h946, hln951, h949, hln953⟩ hstepL702 houtL702
       unfold mFarePack_L702 at hstepL702
       have hm := (unc2E hstepL702)
       refine c_sr ?_
       refine t_st rfl (st_lss_t rfl rfl (by omega)) ?_
       refine t_ne ?_
       refine c_seq ?_
       refine c_cond_t rfl ?_
       refine c_skip ?_
       refine x_then_normal ?_
       refine c_seq ?_
       refine c_block ?_
       refine c_sr ?_
       obtain ⟨x958, h959, hm⟩ := bindS hm
       obtain ⟨j960, hj961, hx962⟩ := idx_some h959
       obtain ⟨cs963, hs968, P969, P970, hq971, hr964, hcs965, hA966, hlt967, hb972, hho973⟩ := OS.get (sz := 1) rfl (by decide) (h688.le hle943) hx962
       obtain ⟨rfl, rfl⟩ := hr964
       refine t_st rfl (st_index_old j960 rfl rfl hj961 hlt967 hA966 sl22) ?_
       refine t_st rfl (st_load_rd rfl one3 (fun w ho => hcs965 w _ ho (.cons _ (sub_skip hs945 (sub_skip hs948 (List.sublist_append_left _ _)))) 0 _ rfl)) ?_
       refine t_do rfl (u_alloc [.int .i64 0] zero3 rfl) ?_
       rintro _ _ ⟨g974, rfl, rfl⟩
       refine t_do rfl (u_store 0 rfl rfl siz3 rfl rfl (by simp)) ?_
       rintro _ _ rfl
       refine t_ne ?_
       refine c_sr ?_
       refine t_mv rfl rfl ?_
       refine t_st rfl (st_func _ _ rfl rfl) ?_
       obtain ⟨x975, hcl976, hm⟩ := bindS hm
       refine t_pullb 1 rfl ?_
       refine t_out1 [_, _] [] hs945 (hs948 ++ (hs687 ++ R)) rfl ?_
       refine t_callG _ rfl call38 rfl (cSlicesIndexFunc_4 _ _ l4 x958 l950 g544 g974 A1 c2 A694 c695 hs945 (h3.le (hle552.trans (hle639.trans (hle686.trans hle943)))) h946 x975 hcl976) ?_
       rintro _ b977 _ hle978 ⟨rfl, rfl⟩
       refine t_in1 [_, _] [] hs945 (hs948 ++ (hs687 ++ R)) rfl ?_
       refine t_as rfl rfl ?_
       refine t_ne ?_
       refine c_seq ?_
       refine c_sr ?_
       refine t_mv rfl rfl ?_
       refine t_st rfl (st_lss rfl rfl) ?_
       refine t_ne ?_
       refine c_cond _ rfl (fun hc979 => ?_) (fun hc979 => ?_)
       ·
        rw [if_pos (of_decide_eq_true hc979)] at hm
        refine c_sr ?_
        refine t_as rfl rfl ?_
        refine t_as rfl rfl ?_
        refine t_ne ?_
        refine c_ret ?_
        refine x_then_ret ?_
        refine x_block_ret ?_
        refine x_then_ret ?_
        refine x_then_ret ?_
        refine x_block_ret ?_
        refine x_then_ret ?_
        have hq980 := houtL702 _ (Option.some.inj hm).symm
        rw [hq980] at hk957
        have hm := elimR hk957
        obtain ⟨rfl, rfl⟩ := some2 hm
        exact retM (rs := [.tmp 6, .tmp 7]) [.slice none 0 0, .int .i64 (14)] (hle552.trans (hle639.trans (hle686.trans (hle943.trans hle978)))) (by decide) rfl ⟨rfl, ⟨rfl, trivial⟩⟩ rfl (.cons _ (.cons _ (sub_skip hs945 (sub_skip hs948 (sub_skip hs687 (.refl _)))))) ⟨none, 0, [], rfl, rfl, OS.nil⟩
       ·
        rw [if_neg (of_decide_eq_false hc979)] at hm
        refine c_skip ?_
        refine x_then_normal ?_
        obtain ⟨x1027, h1028, hm⟩ := bindS hm
        obtain ⟨x1037, h1038, hm⟩ := bindS hm
        obtain ⟨x1055, h1056, hm⟩ := bindS hm
        refine c_front2 [_, _] hs945 hs948 (hs687 ++ R) rfl ?_
        refine D_drawI mixed (.cons_cons _ (.cons_cons _ (sub_app hs948 (sub_skip hs945 (.refl _))))) ?_
        refine E_st 0 rfl (st_move rfl) ?_
        refine E_st 1 rfl (st_move rfl) ?_
        refine E_st 2 rfl (st_move rfl) ?_
        refine E_st 3 rfl (st_load 1 rfl one3 rfl rfl) ?_
        refine E_st 4 rfl (st_load 0 rfl one43 rfl rfl) ?_
        refine E_st 5 rfl (st_load 1 rfl one3 rfl rfl) ?_
        obtain ⟨j1029, hj1030, hx1031⟩ := idx_some h1028
        obtain ⟨cs1032, hr1033, hcs1034, hA1035, hlt1036⟩ := FZ.get (sz := 2) rfl (by decide) (h3.le (hle552.trans (hle639.trans (hle686.trans (hle943.trans hle978))))) hx1031
        obtain ⟨_, _, rfl, rfl, rfl⟩ := hr1033
        refine E_st 6 rfl (st_index_old j1029 rfl rfl hj1030 hlt1036 hA1035 sl43) ?_
        refine E_st 7 rfl (st_field_old rfl hA1035 fld46_1) ?_
        refine E_st 8 rfl (st_load_old rfl one3 (hcs1034 1 _ rfl)) ?_
        refine E_st 9 rfl (st_move rfl) ?_
        obtain ⟨j1039, hj1040, hx1041⟩ := idx_some h1038
        obtain ⟨cs1042, hs1047, P1048, P1049, hq1050, hr1043, hcs1044, hA1045, hlt1046, hb1051, hho1052⟩ := OS.get (sz := 1) rfl (by decide) (h946.le hle978) hx1041
        obtain ⟨rfl, rfl⟩ := hr1043
        refine E_st 10 rfl (st_index_old j1039 rfl rfl hj1040 hlt1046 hA1045 sl22) ?_
        refine E_out ?_
        refine d_front2 [_, _] hs948 hs945 (hs687 ++ R) rfl ?_
        refine D_all [11] (by kernel_rfl) rfl ?_
        refine R_do (Base.Le.refl _) rfl rfl (u_putOS hj1040 (sz := 1) (a' := x1027.To) rfl [_, _] (hs948 ++ (hs687 ++ R)) 0 1 [.int .i64 (x1027.To)] rfl (h946.le hle978) hx1041 rfl rfl rfl siz3 rfl (mem_c rfl mem_n) (fun cs hsj hh => by obtain ⟨rfl, rfl⟩ := hh; exact ⟨by decide, rfl, rfl⟩)) ?_ ?_
        ·
         rintro _ _ ⟨hs1053, rfl, h1054⟩
         refine ⟨.inr (.cons_cons _ (.cons_cons _ (sub_skip hs1053 (.refl _)))), ?_⟩
         refine d_resp 11 rfl (v' := .slice A694 (put l950 x975 x1027.To).length c695) (by simp only [put_length]) ?_
         obtain ⟨j1057, hj1058, hx1059⟩ := idx_some h1056
         obtain ⟨cs1060, hs1065, P1066, P1067, hq1068, hr1061, hcs1062, hA1063, hlt1064, hb1069, hho1070⟩ := OS.get (sz := 1) rfl (by decide) (h949.le hle978) hx1059
         obtain ⟨rfl, rfl⟩ := hr1061
         refine E_in (.cons_cons _ (.cons_cons _ (sub_skip hs1053 (.refl _)))) ?_
         refine E_st 12 rfl (st_index_old j1057 rfl rfl hj1058 hlt1064 hA1063 sl22) ?_
         refine E_out ?_
         refine d_front2 [_, _] hs1053 hs948 (hs687 ++ R) rfl ?_
         refine D_all [13] (by kernel_rfl) rfl ?_
         refine R_do (Base.Le.refl _) rfl rfl (u_putOS hj1058 (sz := 1) (a' := x975) rfl [_, _] (hs1053 ++ (hs687 ++ R)) 0 1 [.int .i64 (x975)] rfl (h949.le hle978) hx1059 rfl rfl rfl siz3 rfl (mem_c rfl mem_n) (fun cs hsj hh => by obtain ⟨rfl, rfl⟩ := hh; exact ⟨by decide, rfl, rfl⟩)) ?_ ?_
         ·
          rintro _ _ ⟨hs1071, rfl, h1072⟩
          refine ⟨.inl (by kernel_rfl), ?_⟩
          refine d_resp 12 rfl (v' := .slice A700 (put l952 x958 x975).length c701) (by simp only [put_length]) ?_
          refine D_done (by kernel_rfl) ?_
          refine x_block_normal ?_
          refine x_then_normal ?_
          refine c_region ?_
          refine t_st rfl (st_add rfl rfl (by omega)) ?_
          refine t_mv rfl rfl ?_
          refine t_nil ?_
          refine x_front3 [_, _] hs1071 hs1053 hs687 R rfl ?_
          refine x_front2 [_, _] hs687 hs1071 (hs1053 ++ R) rfl ?_
          refine x_front3 [_, _] hs1071 hs687 hs1053 R rfl ?_
          exact x_againM (put l950 x975 x1027.To, put l952 x958 x975) (Option.some.inj hm).symm (e' := [(3, .pointer (some ⟨g544, 0, none⟩)), (11, .slice A694 (put l950 x975 x1027.To).length c695), (12, .slice A700 (put l952 x958 x975).length c701), (57, .slice A565 (l683).length c566), (58, .int .i64 ((l683.length : Int))), (59, .int .i64 ((k954 : Int) + 1))]) ⟨rfl, rfl, rfl, rfl, rfl, rfl, trivial⟩ (.cons_cons _ (.cons _ (.refl _))) ⟨hs1053, hs1071, rfl, rfl, ((hle943.trans hle978)), h1054, ((put_length _ _ _).trans hln951), h1072, ((put_length _ _ _).trans hln953)⟩
         exact R_nil
        exact R_nil
      ·
       rintro ⟨l950, l952⟩ b942 _ _ ⟨hs945, hs948, rfl, rfl, hle943, h946, hln951, h949, hln953⟩ hq1073
       rw [hq1073] at hk957
       have hm := elimL hk957
       have hm := (unc2E hm)
       refine c_sr ?_
       refine t_st rfl (st_lss_f rfl rfl (by omega)) ?_
       refine t_ne ?_
       refine c_seq ?_
       refine c_cond_f rfl ?_
       refine c_exit ?_
       refine x_then_exit ?_
       refine x_then_exit ?_
       refine x_block_out ?_
       refine x_then_normal ?_
       refine c_sr ?_
       refine t_mv rfl rfl ?_
       refine t_as rfl rfl ?_
       refine t_as rfl rfl ?_
       refine t_ne ?_
       refine c_ret ?_
       obtain ⟨rfl, rfl⟩ := some2 hm
       refine x_front2 [_] hs945 hs948 (hs687 ++ R) rfl ?_
       exact retM (rs := [.tmp 6, .tmp 7]) [.slice A700 (l952).length c701, .int .i64 (0)] (hle552.trans (hle639.trans (hle686.trans hle943))) (by decide) rfl ⟨rfl, ⟨rfl, trivial⟩⟩ rfl (.cons _ (sub_app hs948 (sub_skip hs945 (sub_skip hs687 (.refl _))))) ⟨A700, c701, hs948, rfl, rfl, h949⟩

set_option maxRecDepth 20000 in
theorem cSlicesMax (b : Base) (R : Hp) (l4 : (List Int)) (A1 : Option Addr) (c2 : Nat) (h3 : FZ (RT.int .i64) b.w A1 c2 l4) (x106 : Int) (hm : mSlicesMax l4 = some x106) :
    CallsG Tryz.prog 17 [.slice A1 (l4).length c2] b (R) (fun v b' hp' => .int .i64 (x106) = v ∧ R = hp') := by
  refine fn_enterG 25 Tryz.func17 rfl Tryz.ntmps17 rfl ?_
  unfold mSlicesMax at hm
  refine c_sr ?_
  refine t_as rfl rfl ?_
  refine t_ne ?_
  refine c_seq ?_
  refine c_sr ?_
  refine t_mv rfl rfl ?_
  refine t_st rfl (st_len rfl sl22) ?_
  refine t_st rfl (st_lss rfl rfl) ?_
  refine t_ne ?_
  refine c_cond _ rfl (fun hc107 => ?_) (fun hc107 => ?_)
  ·
   rw [if_pos (of_decide_eq_true hc107)] at hm
   cases hm
  ·
   rw [if_neg (of_decide_eq_false hc107)] at hm
   refine c_skip ?_
   refine x_then_normal ?_
   refine c_sr ?_
   refine t_mv rfl rfl ?_
   obtain ⟨x108, h109, hm⟩ := bindS hm
   obtain ⟨j110, hj111, hx112⟩ := idx_some h109
   obtain ⟨cs113, hr114, hcs115, hA116, hlt117⟩ := FZ.get (sz := 1) rfl (by decide) h3 hx112
   obtain rfl := hr114
   refine t_st rfl (st_index_old j110 rfl rfl hj111 hlt117 hA116 sl22) ?_
   refine t_st rfl (st_load_old rfl one3 (hcs115 0 _ rfl)) ?_
   refine t_as rfl rfl ?_
   refine t_ne ?_
   obtain ⟨x163, hj164, hk164⟩ := bindS hm
   refine c_join (fun b161 e' hp' => [(3, .int .i64 (x163))] = e' ∧ R = hp' ∧ b.Le b161) ?_ ?_
   ·
    have hm := hj164
    refine c_sr ?_
    refine t_as rfl rfl ?_
    refine t_ne ?_
    refine c_block ?_
    refine c_loopM (unc2 fun x194 x195 => fun b192 e' hp' => [(0, .slice A1 (l4).length c2), (3, .int .i64 (x194)), (4, .int .i64 (x195))] = e' ∧ R = hp' ∧ b.Le b192) hm (e' := [(0, .slice A1 (l4).length c2), (3, .int .i64 (x108)), (4, .int .i64 (1))]) ⟨rfl, rfl, rfl, trivial⟩ (.refl _) ⟨rfl, rfl, (Base.Le.refl _)⟩ ?_
    rintro ⟨x194, x195⟩ b192 _ _ oL165 ⟨rfl, rfl, hle193⟩ hstepL165 houtL165
    unfold mSlicesMax_L165 at hstepL165
    have hm := (unc2E hstepL165)
    refine c_seq ?_
    refine c_sr ?_
    refine t_mv rfl rfl ?_
    refine t_mv rfl rfl ?_
    refine t_st rfl (st_len rfl sl22) ?_
    refine t_st rfl (st_lss rfl rfl) ?_
    refine t_ne ?_
    refine c_cond _ rfl (fun hc196 => ?_) (fun hc196 => ?_)
    ·
     rw [if_pos (of_decide_eq_true hc196)] at hm
     refine c_skip ?_
     refine x_then_normal ?_
     refine c_seq ?_
     refine c_block ?_
     refine c_region ?_
     refine t_mv rfl rfl ?_
     refine t_mv rfl rfl ?_
     refine t_mv rfl rfl ?_
     obtain ⟨x197, h198, hm⟩ := bindS hm
     obtain ⟨j199, hj200, hx201⟩ := idx_some h198
     obtain ⟨cs202, hr203, hcs204, hA205, hlt206⟩ := FZ.get (sz := 1) rfl (by decide) (h3.le hle193) hx201
     obtain rfl := hr203
     refine t_st rfl (st_index_old j199 rfl rfl hj200 hlt206 hA205 sl22) ?_
     refine t_st rfl (st_load_old rfl one3 (hcs204 0 _ rfl)) ?_
     refine t_st rfl (st_max rfl rfl) ?_
     refine t_as rfl rfl ?_
     refine t_nil ?_
     refine x_block_normal ?_
     refine x_then_normal ?_
     refine c_region ?_
     refine t_mv rfl rfl ?_
     obtain ⟨_, h207, hm⟩ := bindS hm
     have h207 := (chk_some h207).2
     refine t_st rfl (st_add rfl rfl h207) ?_
     refine t_as rfl rfl ?_
     refine t_nil ?_
     exact x_againM (max x194 x197, x195 + 1) (Option.some.inj hm).symm (e' := [(0, .slice A1 (l4).length c2), (3, .int .i64 (max x194 x197)), (4, .int .i64 (x195 + 1))]) ⟨rfl, rfl, rfl, trivial⟩ (.refl _) ⟨rfl, rfl, (hle193)⟩
    ·
     rw [if_neg (of_decide_eq_false hc196)] at hm
     refine c_exit ?_
     refine x_then_exit ?_
     refine x_then_exit ?_
     refine x_block_out ?_
     have hm := congrArg some (houtL165 _ (Option.some.inj hm).symm)
     obtain rfl := some1 hm
     exact x_join (e' := [(3, .int .i64 (x194))]) ⟨rfl, trivial⟩ (.refl _) ⟨rfl, rfl, hle193⟩
   ·
    rintro b161 _ _ ⟨rfl, rfl, hle162⟩
    have hm := hk164
    refine c_sr ?_
    refine t_mv rfl rfl ?_
    refine t_as rfl rfl ?_
    refine t_ne ?_
    refine c_ret ?_
    obtain rfl := some1 hm
    exact retM (rs := [.tmp 2]) [.int .i64 (x163)] hle162 (by decide) rfl ⟨rfl, trivial⟩ rfl (.refl _) ⟨rfl, rfl⟩

end Go.Proofs.YtnlnohallnfbmaaGreatDoor
