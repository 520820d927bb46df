/- Contracts: the code computes its model (part 2). -/
import Derived.Test.YtljcafilceachaaDoorFP1
set_option linter.unusedVariables false
set_option linter.unusedSimpArgs false
namespace Go.Proofs.YtljcafilceachaaDoor
open Go.RowKit Go.Fp

set_option maxRecDepth 20000 in
theorem cGuardRead (b : Base) (R : Hp) (l4 : (List Int)) (A1 : Option Addr) (c2 : Nat) (h3 : FZ (RT.int .u8) b.w A1 c2 l4) (x317 : Int) (x318 : Int) (x319 : Int) (x320 : Int) (hm : mGuardRead l4 = some (x317, x318, x319, x320)) :
    CallsG Tryd.prog 16 [.slice A1 (l4).length c2] b (R) (fun v b' hp' => .tuple #[.agg #[.int .i64 (x317), .int .i64 (x318), .int .i64 (x319)], .int .i64 (x320)] = v ∧ R = hp') := by
  refine fn_enterG 65 Tryd.func16 rfl Tryd.ntmps16 rfl ?_
  unfold mGuardRead at hm
  refine c_seq ?_
  refine c_region ?_
  refine t_do rfl (u_alloc [.int .i64 0, .int .i64 0, .int .i64 0] zero23 rfl) ?_
  rintro _ _ ⟨g321, rfl, rfl⟩
  refine t_st rfl (st_assign rfl) ?_
  refine t_nil ?_
  refine x_then_normal ?_
  refine c_seq ?_
  refine c_block ?_
  refine c_seq ?_
  refine c_region ?_
  refine t_st rfl (st_move rfl) ?_
  refine t_st rfl (st_len rfl sl26) ?_
  refine t_st rfl (st_neq rfl rfl) ?_
  refine t_st rfl (st_assign rfl) ?_
  refine t_nil ?_
  refine x_then_normal ?_
  refine c_cond _ rfl (fun hc322 => ?_) (fun hc322 => ?_)
  ·
    rw [if_pos (of_decide_eq_true hc322)] at hm
    refine c_seq ?_
    refine c_region ?_
    refine t_st rfl (st_build (v := .agg #[.int .i64 (0), .int .i64 (0), .int .i64 (0)]) [] rfl (fun _ => by kernel_rfl)) ?_
    refine t_do rfl (u_storeN (vs := [_, _, _]) 0 3 rfl rfl rfl siz23 rfl (by intro u hu; simp only [List.mem_cons, List.not_mem_nil, or_false] at hu; rcases hu with rfl | rfl | rfl <;> rfl) rfl (by simp)) ?_
    rintro _ _ rfl
    refine t_st rfl (st_assign rfl) ?_
    refine t_nil ?_
    refine x_then_normal ?_
    refine c_ret ?_
    refine x_block_ret ?_
    refine x_then_ret ?_
    obtain ⟨rfl, rfl, rfl, rfl⟩ := some4 hm
    exact retM (rs := [.cell 2 23, .tmp 3]) [.agg #[.int .i64 (0), .int .i64 (0), .int .i64 (0)], .int .i64 (1)] (Base.Le.refl _) (by decide) rfl ⟨⟨_, rfl, fun w ho => cell_agg (vs := [_, _, _]) 0 3 agg23 rfl rfl rfl w ho⟩, ⟨rfl, trivial⟩⟩ rfl (hp' := R) (.cons _ (.refl _)) ⟨rfl, rfl⟩
  ·
    rw [if_neg (of_decide_eq_false hc322)] at hm
    refine c_seq ?_
    obtain ⟨l361, h362, hm⟩ := bindS hm
    obtain ⟨x376, hcl377, hm⟩ := bindS hm
    obtain ⟨x378, h379, hm⟩ := bindS hm
    obtain ⟨_, h388, hm⟩ := bindS hm
    obtain ⟨x389, h390, hm⟩ := bindS hm
    refine D_drawS ((g321, Cl 23 [.int .i64 (0), .int .i64 (0), .int .i64 (0)]) :: R) mixed ?_
    refine D_st (Base.Le.refl _) 0 rfl (by kernel_rfl) (by kernel_rfl) (by kernel_rfl) rfl (st_move rfl) (.cons_cons _ (.refl _)) ?_
    obtain ⟨j363, j364, hj365, hj366, hj367, hj368, hx369⟩ := cutS_some h362
    have h370 := FZ.sub (sz := 1) rfl h3 hj367 hj368
    have h371 := h3.1.1
    rw [← hx369] at h370
    refine D_st (Base.Le.refl _) 1 rfl (by kernel_rfl) (by kernel_rfl) (by kernel_rfl) rfl (hx369 ▸ st_part (l := l4) j363 j364 rfl (.inl ⟨rfl, by omega⟩) (.inr ⟨_, _, _, rfl, rfl, hj366⟩) hj367 hj368 h371 sl26) (.cons_cons _ (.refl _)) ?_
    refine D_st (Base.Le.refl _) 3 rfl (by kernel_rfl) (by kernel_rfl) (by kernel_rfl) rfl (st_move rfl) (.cons_cons _ (.refl _)) ?_
    obtain ⟨j380, hj381, hx382⟩ := idx_some h379
    obtain ⟨cs383, hr384, hcs385, hA386, hlt387⟩ := FZ.get (sz := 1) rfl (by decide) h3 hx382
    obtain rfl := hr384
    refine D_st (Base.Le.refl _) 4 rfl (by kernel_rfl) (by kernel_rfl) (by kernel_rfl) rfl (st_index_old j380 rfl rfl hj381 hlt387 hA386 sl26) (.cons_cons _ (.refl _)) ?_
    refine D_st (Base.Le.refl _) 5 rfl (by kernel_rfl) (by kernel_rfl) (by kernel_rfl) rfl (st_load_old rfl one5 (hcs385 0 _ rfl)) (.cons_cons _ (.refl _)) ?_
    refine D_st (Base.Le.refl _) 6 rfl (by kernel_rfl) (by kernel_rfl) (by kernel_rfl) rfl (st_conv rfl int5_u8 int3_i64) (.cons_cons _ (.refl _)) ?_
    have h388 := shN_some h388
    refine D_st (Base.Le.refl _) 7 rfl (by kernel_rfl) (by kernel_rfl) (by kernel_rfl) rfl (st_shl rfl rfl h388) (.cons_cons _ (.refl _)) ?_
    refine D_st (Base.Le.refl _) 8 rfl (by kernel_rfl) (by kernel_rfl) (by kernel_rfl) rfl (st_move rfl) (.cons_cons _ (.refl _)) ?_
    obtain ⟨j391, hj392, hx393⟩ := idx_some h390
    obtain ⟨cs394, hr395, hcs396, hA397, hlt398⟩ := FZ.get (sz := 1) rfl (by decide) h3 hx393
    obtain rfl := hr395
    refine D_st (Base.Le.refl _) 9 rfl (by kernel_rfl) (by kernel_rfl) (by kernel_rfl) rfl (st_index_old j391 rfl rfl hj392 hlt398 hA397 sl26) (.cons_cons _ (.refl _)) ?_
    refine D_st (Base.Le.refl _) 10 rfl (by kernel_rfl) (by kernel_rfl) (by kernel_rfl) rfl (st_load_old rfl one5 (hcs396 0 _ rfl)) (.cons_cons _ (.refl _)) ?_
    refine D_st (Base.Le.refl _) 11 rfl (by kernel_rfl) (by kernel_rfl) (by kernel_rfl) rfl (st_conv rfl int5_u8 int3_i64) (.cons_cons _ (.refl _)) ?_
    refine D_st (Base.Le.refl _) 12 rfl (by kernel_rfl) (by kernel_rfl) (by kernel_rfl) rfl (st_or rfl rfl) (.cons_cons _ (.refl _)) ?_
    refine D_all [2] (by kernel_rfl) rfl ?_
    refine R_do (Base.Le.refl _) rfl rfl (u_callW0 _ call49 rfl (fun w ho => cGuardSum _ [] l361 (subA A1 c2 j363 1) (c2 - j363) (h370.old ho) x376 hcl377) (fun _ _ _ h => h.2.symm)) ?_ ?_
    ·
      rintro _ _ ⟨⟨_, rfl, _⟩, rfl⟩
      refine ⟨.inr (.cons_cons _ (.refl _)), ?_⟩
      refine D_st (Base.Le.refl _) 13 rfl (by kernel_rfl) (by kernel_rfl) (by kernel_rfl) rfl (st_neq rfl rfl) (.cons_cons _ (.refl _)) ?_
      refine D_st (Base.Le.refl _) 14 rfl (by kernel_rfl) (by kernel_rfl) (by kernel_rfl) rfl (st_assign rfl) (.cons_cons _ (.refl _)) ?_
      refine D_done (by kernel_rfl) ?_
      refine x_then_normal ?_
      refine c_cond _ rfl (fun hc399 => ?_) (fun hc399 => ?_)
      ·
        rw [if_pos (of_decide_eq_true hc399)] at hm
        refine c_seq ?_
        refine c_region ?_
        refine t_st rfl (st_build (v := .agg #[.int .i64 (0), .int .i64 (0), .int .i64 (0)]) [] rfl (fun _ => by kernel_rfl)) ?_
        refine t_do rfl (u_storeN (vs := [_, _, _]) 0 3 rfl rfl rfl siz23 rfl (by intro u hu; simp only [List.mem_cons, List.not_mem_nil, or_false] at hu; rcases hu with rfl | rfl | rfl <;> rfl) rfl (by simp)) ?_
        rintro _ _ rfl
        refine t_st rfl (st_assign rfl) ?_
        refine t_nil ?_
        refine x_then_normal ?_
        refine c_ret ?_
        refine x_block_ret ?_
        refine x_then_ret ?_
        obtain ⟨rfl, rfl, rfl, rfl⟩ := some4 hm
        exact retM (rs := [.cell 2 23, .tmp 3]) [.agg #[.int .i64 (0), .int .i64 (0), .int .i64 (0)], .int .i64 (11)] (Base.Le.refl _) (by decide) rfl ⟨⟨_, rfl, fun w ho => cell_agg (vs := [_, _, _]) 0 3 agg23 rfl rfl rfl w ho⟩, ⟨rfl, trivial⟩⟩ rfl (hp' := R) (.cons _ (.refl _)) ⟨rfl, rfl⟩
      ·
        rw [if_neg (of_decide_eq_false hc399)] at hm
        refine c_seq ?_
        refine c_region ?_
        refine t_st rfl (st_move rfl) ?_
        obtain ⟨x400, h401, hm⟩ := bindS hm
        obtain ⟨j402, hj403, hx404⟩ := idx_some h401
        obtain ⟨cs405, hr406, hcs407, hA408, hlt409⟩ := FZ.get (sz := 1) rfl (by decide) h3 hx404
        obtain rfl := hr406
        refine t_st rfl (st_index_old j402 rfl rfl hj403 hlt409 hA408 sl26) ?_
        refine t_st rfl (st_load_old rfl one5 (hcs407 0 _ rfl)) ?_
        refine t_st rfl (st_neq rfl rfl) ?_
        refine t_st rfl (st_assign rfl) ?_
        refine t_nil ?_
        refine x_then_normal ?_
        refine c_cond _ rfl (fun hc410 => ?_) (fun hc410 => ?_)
        ·
          rw [if_pos (of_decide_eq_true hc410)] at hm
          refine c_seq ?_
          refine c_region ?_
          refine t_st rfl (st_build (v := .agg #[.int .i64 (0), .int .i64 (0), .int .i64 (0)]) [] rfl (fun _ => by kernel_rfl)) ?_
          refine t_do rfl (u_storeN (vs := [_, _, _]) 0 3 rfl rfl rfl siz23 rfl (by intro u hu; simp only [List.mem_cons, List.not_mem_nil, or_false] at hu; rcases hu with rfl | rfl | rfl <;> rfl) rfl (by simp)) ?_
          rintro _ _ rfl
          refine t_st rfl (st_assign rfl) ?_
          refine t_nil ?_
          refine x_then_normal ?_
          refine c_ret ?_
          refine x_block_ret ?_
          refine x_then_ret ?_
          obtain ⟨rfl, rfl, rfl, rfl⟩ := some4 hm
          exact retM (rs := [.cell 2 23, .tmp 3]) [.agg #[.int .i64 (0), .int .i64 (0), .int .i64 (0)], .int .i64 (1)] (Base.Le.refl _) (by decide) rfl ⟨⟨_, rfl, fun w ho => cell_agg (vs := [_, _, _]) 0 3 agg23 rfl rfl rfl w ho⟩, ⟨rfl, trivial⟩⟩ rfl (hp' := R) (.cons _ (.refl _)) ⟨rfl, rfl⟩
        ·
          rw [if_neg (of_decide_eq_false hc410)] at hm
          refine c_skip ?_
          refine x_block_normal ?_
          refine x_then_normal ?_
          obtain ⟨⟨x520, x521, x522⟩, hj523, hk523⟩ := bindS hm
          refine c_join (fun b517 e' hp' => ∃ (g519 : Nat), [(2, .pointer (some ⟨g321, 0, none⟩)), (4, .pointer (some ⟨g519, 0, none⟩))] = e' ∧ (g321, Cl 23 [.int .i64 (0), .int .i64 (0), .int .i64 (0)]) :: (g519, Cl 23 [.int .i64 (x520), .int .i64 (x521), .int .i64 (x522)]) :: R = hp' ∧ b.Le b517) ?_ ?_
          ·
            have hm := hj523
            obtain ⟨x577, h578, hm⟩ := bindS hm
            obtain ⟨_, h587, hm⟩ := bindS hm
            obtain ⟨x588, h589, hm⟩ := bindS hm
            obtain ⟨x598, h599, hm⟩ := bindS hm
            obtain ⟨x608, h609, hm⟩ := bindS hm
            obtain ⟨_, h618, hm⟩ := bindS hm
            obtain ⟨x619, h620, hm⟩ := bindS hm
            refine D_drawS ((g321, Cl 23 [.int .i64 (0), .int .i64 (0), .int .i64 (0)]) :: R) mixed ?_
            refine D_st (Base.Le.refl _) 0 rfl (by kernel_rfl) (by kernel_rfl) (by kernel_rfl) rfl (st_move rfl) (.cons_cons _ (.refl _)) ?_
            obtain ⟨j579, hj580, hx581⟩ := idx_some h578
            obtain ⟨cs582, hr583, hcs584, hA585, hlt586⟩ := FZ.get (sz := 1) rfl (by decide) h3 hx581
            obtain rfl := hr583
            refine D_st (Base.Le.refl _) 1 rfl (by kernel_rfl) (by kernel_rfl) (by kernel_rfl) rfl (st_index_old j579 rfl rfl hj580 hlt586 hA585 sl26) (.cons_cons _ (.refl _)) ?_
            refine D_st (Base.Le.refl _) 2 rfl (by kernel_rfl) (by kernel_rfl) (by kernel_rfl) rfl (st_load_old rfl one5 (hcs584 0 _ rfl)) (.cons_cons _ (.refl _)) ?_
            refine D_st (Base.Le.refl _) 3 rfl (by kernel_rfl) (by kernel_rfl) (by kernel_rfl) rfl (st_conv rfl int5_u8 int3_i64) (.cons_cons _ (.refl _)) ?_
            have h587 := shN_some h587
            refine D_st (Base.Le.refl _) 4 rfl (by kernel_rfl) (by kernel_rfl) (by kernel_rfl) rfl (st_shl rfl rfl h587) (.cons_cons _ (.refl _)) ?_
            refine D_st (Base.Le.refl _) 5 rfl (by kernel_rfl) (by kernel_rfl) (by kernel_rfl) rfl (st_move rfl) (.cons_cons _ (.refl _)) ?_
            obtain ⟨j590, hj591, hx592⟩ := idx_some h589
            obtain ⟨cs593, hr594, hcs595, hA596, hlt597⟩ := FZ.get (sz := 1) rfl (by decide) h3 hx592
            obtain rfl := hr594
            refine D_st (Base.Le.refl _) 6 rfl (by kernel_rfl) (by kernel_rfl) (by kernel_rfl) rfl (st_index_old j590 rfl rfl hj591 hlt597 hA596 sl26) (.cons_cons _ (.refl _)) ?_
            refine D_st (Base.Le.refl _) 7 rfl (by kernel_rfl) (by kernel_rfl) (by kernel_rfl) rfl (st_load_old rfl one5 (hcs595 0 _ rfl)) (.cons_cons _ (.refl _)) ?_
            refine D_st (Base.Le.refl _) 8 rfl (by kernel_rfl) (by kernel_rfl) (by kernel_rfl) rfl (st_conv rfl int5_u8 int3_i64) (.cons_cons _ (.refl _)) ?_
            refine D_st (Base.Le.refl _) 9 rfl (by kernel_rfl) (by kernel_rfl) (by kernel_rfl) rfl (st_or rfl rfl) (.cons_cons _ (.refl _)) ?_
            refine D_st (Base.Le.refl _) 10 rfl (by kernel_rfl) (by kernel_rfl) (by kernel_rfl) rfl (st_move rfl) (.cons_cons _ (.refl _)) ?_
            obtain ⟨j600, hj601, hx602⟩ := idx_some h599
            obtain ⟨cs603, hr604, hcs605, hA606, hlt607⟩ := FZ.get (sz := 1) rfl (by decide) h3 hx602
            obtain rfl := hr604
            refine D_st (Base.Le.refl _) 11 rfl (by kernel_rfl) (by kernel_rfl) (by kernel_rfl) rfl (st_index_old j600 rfl rfl hj601 hlt607 hA606 sl26) (.cons_cons _ (.refl _)) ?_
            refine D_st (Base.Le.refl _) 12 rfl (by kernel_rfl) (by kernel_rfl) (by kernel_rfl) rfl (st_load_old rfl one5 (hcs605 0 _ rfl)) (.cons_cons _ (.refl _)) ?_
            refine D_st (Base.Le.refl _) 13 rfl (by kernel_rfl) (by kernel_rfl) (by kernel_rfl) rfl (st_conv rfl int5_u8 int3_i64) (.cons_cons _ (.refl _)) ?_
            refine D_st (Base.Le.refl _) 14 rfl (by kernel_rfl) (by kernel_rfl) (by kernel_rfl) rfl (st_move rfl) (.cons_cons _ (.refl _)) ?_
            obtain ⟨j610, hj611, hx612⟩ := idx_some h609
            obtain ⟨cs613, hr614, hcs615, hA616, hlt617⟩ := FZ.get (sz := 1) rfl (by decide) h3 hx612
            obtain rfl := hr614
            refine D_st (Base.Le.refl _) 15 rfl (by kernel_rfl) (by kernel_rfl) (by kernel_rfl) rfl (st_index_old j610 rfl rfl hj611 hlt617 hA616 sl26) (.cons_cons _ (.refl _)) ?_
            refine D_st (Base.Le.refl _) 16 rfl (by kernel_rfl) (by kernel_rfl) (by kernel_rfl) rfl (st_load_old rfl one5 (hcs615 0 _ rfl)) (.cons_cons _ (.refl _)) ?_
            refine D_st (Base.Le.refl _) 17 rfl (by kernel_rfl) (by kernel_rfl) (by kernel_rfl) rfl (st_conv rfl int5_u8 int3_i64) (.cons_cons _ (.refl _)) ?_
            have h618 := shN_some h618
            refine D_st (Base.Le.refl _) 18 rfl (by kernel_rfl) (by kernel_rfl) (by kernel_rfl) rfl (st_shl rfl rfl h618) (.cons_cons _ (.refl _)) ?_
            refine D_st (Base.Le.refl _) 19 rfl (by kernel_rfl) (by kernel_rfl) (by kernel_rfl) rfl (st_move rfl) (.cons_cons _ (.refl _)) ?_
            obtain ⟨j621, hj622, hx623⟩ := idx_some h620
            obtain ⟨cs624, hr625, hcs626, hA627, hlt628⟩ := FZ.get (sz := 1) rfl (by decide) h3 hx623
            obtain rfl := hr625
            refine D_st (Base.Le.refl _) 20 rfl (by kernel_rfl) (by kernel_rfl) (by kernel_rfl) rfl (st_index_old j621 rfl rfl hj622 hlt628 hA627 sl26) (.cons_cons _ (.refl _)) ?_
            refine D_st (Base.Le.refl _) 21 rfl (by kernel_rfl) (by kernel_rfl) (by kernel_rfl) rfl (st_load_old rfl one5 (hcs626 0 _ rfl)) (.cons_cons _ (.refl _)) ?_
            refine D_st (Base.Le.refl _) 22 rfl (by kernel_rfl) (by kernel_rfl) (by kernel_rfl) rfl (st_conv rfl int5_u8 int3_i64) (.cons_cons _ (.refl _)) ?_
            refine D_st (Base.Le.refl _) 23 rfl (by kernel_rfl) (by kernel_rfl) (by kernel_rfl) rfl (st_or rfl rfl) (.cons_cons _ (.refl _)) ?_
            refine D_st (Base.Le.refl _) 24 rfl (by kernel_rfl) (by kernel_rfl) (by kernel_rfl) rfl (st_build (v := .agg #[.int .i64 (orI .i64 (shlI .i64 (IntKind.wrap .i64 x577) 8) (IntKind.wrap .i64 x588)), .int .i64 (IntKind.wrap .i64 x598), .int .i64 (orI .i64 (shlI .i64 (IntKind.wrap .i64 x608) 8) (IntKind.wrap .i64 x619))]) [(0, .int .i64 (orI .i64 (shlI .i64 (IntKind.wrap .i64 x577) 8) (IntKind.wrap .i64 x588))), (1, .int .i64 (IntKind.wrap .i64 x598)), (2, .int .i64 (orI .i64 (shlI .i64 (IntKind.wrap .i64 x608) 8) (IntKind.wrap .i64 x619)))] rfl (fun _ => by kernel_rfl)) (.cons_cons _ (.refl _)) ?_
            refine D_all [25] (by kernel_rfl) rfl ?_
            refine R_do (Base.Le.refl _) rfl rfl (u_alloc [.int .i64 0, .int .i64 0, .int .i64 0] zero23 rfl) ?_ ?_
            ·
              rintro _ _ ⟨g629, rfl, rfl⟩
              refine ⟨.inr (.cons _ (.cons_cons _ (.refl _))), ?_⟩
              refine D_all [26] (by kernel_rfl) rfl ?_
              refine R_do (Base.Le.refl _) rfl rfl (u_storeN (vs := [_, _, _]) 0 3 rfl rfl rfl siz23 rfl (by intro u hu; simp only [List.mem_cons, List.not_mem_nil, or_false] at hu; rcases hu with rfl | rfl | rfl <;> rfl) rfl (by simp)) ?_ ?_
              ·
                rintro _ _ rfl
                refine ⟨.inl (by kernel_rfl), ?_⟩
                refine D_done (by kernel_rfl) ?_
                obtain ⟨rfl, rfl, rfl⟩ := some3 hm
                refine x_pullb 1 rfl ?_
                exact x_join (e' := [(2, .pointer (some ⟨g321, 0, none⟩)), (4, .pointer (some ⟨g629, 0, none⟩))]) (hp' := (g321, Cl 23 [.int .i64 (0), .int .i64 (0), .int .i64 (0)]) :: (g629, Cl 23 [.int .i64 (orI .i64 (shlI .i64 (IntKind.wrap .i64 x577) 8) (IntKind.wrap .i64 x588)), .int .i64 (IntKind.wrap .i64 x598), .int .i64 (orI .i64 (shlI .i64 (IntKind.wrap .i64 x608) 8) (IntKind.wrap .i64 x619))]) :: R) ⟨rfl, rfl, trivial⟩ (.cons_cons _ (.cons_cons _ (.refl _))) ⟨g629, rfl, rfl, (Base.Le.refl _)⟩
              exact R_nil
            exact R_nil
          ·
            rintro b517 _ _ ⟨g519, rfl, rfl, hle518⟩
            have hm := (unc3E hk523)
            refine c_seq ?_
            refine c_seq ?_
            refine c_region ?_
            refine t_st rfl (st_loadD (vs := [_, _, _]) 1 3 rfl agg23 rfl rfl rfl) ?_
            obtain ⟨x630, hcl631, hm⟩ := bindS hm
            refine t_do rfl (u_callW0 _ call48 rfl (fun w ho => cGuardTelegramCheck _ [] (⟨x520, x521, x522⟩ : GuardTelegram) x630 hcl631) (fun _ _ _ h => h.2.symm)) ?_
            rintro _ _ ⟨⟨_, rfl, _⟩, rfl⟩
            refine t_st rfl (st_assign rfl) ?_
            refine t_nil ?_
            refine x_then_normal ?_
            refine c_seq ?_
            refine c_region ?_
            refine t_st rfl (st_move rfl) ?_
            refine t_st rfl (st_neq rfl rfl) ?_
            refine t_nil ?_
            refine x_then_normal ?_
            refine c_cond _ rfl (fun hc632 => ?_) (fun hc632 => ?_)
            ·
              rw [if_pos (of_decide_eq_true hc632)] at hm
              refine c_seq ?_
              refine c_region ?_
              refine t_st rfl (st_build (v := .agg #[.int .i64 (0), .int .i64 (0), .int .i64 (0)]) [] rfl (fun _ => by kernel_rfl)) ?_
              refine t_st rfl (st_move rfl) ?_
              refine t_do rfl (u_storeN (vs := [_, _, _]) 0 3 rfl rfl rfl siz23 rfl (by intro u hu; simp only [List.mem_cons, List.not_mem_nil, or_false] at hu; rcases hu with rfl | rfl | rfl <;> rfl) rfl (by simp)) ?_
              rintro _ _ rfl
              refine t_st rfl (st_assign rfl) ?_
              refine t_nil ?_
              refine x_then_normal ?_
              refine c_ret ?_
              refine x_then_ret ?_
              obtain ⟨rfl, rfl, rfl, rfl⟩ := some4 hm
              exact retM (rs := [.cell 2 23, .tmp 3]) [.agg #[.int .i64 (0), .int .i64 (0), .int .i64 (0)], .int .i64 (x630)] hle518 (by decide) rfl ⟨⟨_, rfl, fun w ho => cell_agg (vs := [_, _, _]) 0 3 agg23 rfl rfl rfl w ho⟩, ⟨rfl, trivial⟩⟩ rfl (hp' := R) (.cons _ (.cons _ (.refl _))) ⟨rfl, rfl⟩
            ·
              rw [if_neg (of_decide_eq_false hc632)] at hm
              refine c_skip ?_
              refine x_then_normal ?_
              refine c_seq ?_
              refine c_region ?_
              refine t_st rfl (st_loadD (vs := [_, _, _]) 1 3 rfl agg23 rfl rfl rfl) ?_
              refine t_do rfl (u_storeN (vs := [_, _, _]) 0 3 rfl rfl rfl siz23 rfl (by intro u hu; simp only [List.mem_cons, List.not_mem_nil, or_false] at hu; rcases hu with rfl | rfl | rfl <;> rfl) rfl (by simp)) ?_
              rintro _ _ rfl
              refine t_st rfl (st_assign rfl) ?_
              refine t_nil ?_
              refine x_then_normal ?_
              refine c_ret ?_
              obtain ⟨rfl, rfl, rfl, rfl⟩ := some4 hm
              exact retM (rs := [.cell 2 23, .tmp 3]) [.agg #[.int .i64 (x520), .int .i64 (x521), .int .i64 (x522)], .int .i64 (0)] hle518 (by decide) rfl ⟨⟨_, rfl, fun w ho => cell_agg (vs := [_, _, _]) 0 3 agg23 rfl rfl rfl w ho⟩, ⟨rfl, trivial⟩⟩ rfl (hp' := R) (.cons _ (.cons _ (.refl _))) ⟨rfl, rfl⟩
    exact R_nil

set_option maxRecDepth 20000 in
theorem clSlicesClone (A : Option Addr) (n c : Nat) (xs : List Value) (w : World) (hR : Rd w A xs) (hl : xs.length = n * 1) (hn : n * 1 ≤ 140737488355328 ∧ n ≤ 9223372036854775807) :
    CallsH Tryd.prog 17 [.slice A n c] w [] (fun v hp' => Seg0 5 1 v n xs hp') := by
  refine fn_enter 8 Tryd.func17 rfl Tryd.ntmps17 rfl ?_
  refine c_seq ?_
  refine c_region ?_
  refine t_st rfl (st_assign rfl) ?_
  refine t_nil ?_
  refine x_then_normal ?_
  refine c_seq ?_
  refine c_seq ?_
  refine c_region ?_
  refine t_st rfl (st_move rfl) ?_
  refine t_bool rfl (st_eqnil rfl rfl sl26) (fun hc1 => ?_) (fun hc1 => ?_)
  ·
    refine t_nil ?_
    refine x_then_normal ?_
    refine c_cond_t rfl ?_
    refine c_seq ?_
    refine c_region ?_
    refine t_st rfl (st_assign rfl) ?_
    refine t_nil ?_
    refine x_then_normal ?_
    refine c_ret ?_
    refine x_then_ret ?_
    subst hc1
    obtain rfl := hR.none_nil
    obtain rfl : n = 0 := by simp at hl; omega
    refine x_drop (hp' := []) (by repeat (first | exact List.Sublist.refl _ | exact List.nil_sublist _ | exact List.sublist_append_left _ _ | exact List.sublist_append_right _ _ | exact (List.sublist_append_right _ _).trans (List.sublist_append_right _ _) | apply List.Sublist.cons_cons | apply List.Sublist.cons)) ?_
    exact ret1 (Base.Le.refl _) rfl rfl (Seg0.nil)
  ·
    refine t_nil ?_
    refine x_then_normal ?_
    refine c_cond_f rfl ?_
    refine c_skip ?_
    refine x_then_normal ?_
    refine c_seq ?_
    refine c_region ?_
    refine t_do rfl (u_bslice (el := 5) [] [] rfl (fun _ => by kernel_rfl)) ?_
    rintro _ _ ⟨g0, rfl, rfl⟩
    refine t_st rfl (st_move rfl) ?_
    refine t_do rfl (u_app0 xs sl26 inf5 rfl (by decide) rfl rfl hl (fun w ho => hR.old ho) hn.2 hn.1) ?_
    rintro _ _ ⟨hs, rfl, hseg⟩
    refine t_st rfl (st_assign rfl) ?_
    refine t_nil ?_
    refine x_then_normal ?_
    refine c_ret ?_
    refine x_drop (hp' := hs) (by repeat (first | exact List.Sublist.refl _ | exact List.nil_sublist _ | exact List.sublist_append_left _ _ | exact List.sublist_append_right _ _ | exact (List.sublist_append_right _ _).trans (List.sublist_append_right _ _) | apply List.Sublist.cons_cons | apply List.Sublist.cons)) ?_
    exact ret1 (Base.Le.refl _) rfl rfl hseg

set_option maxRecDepth 20000 in
theorem cSlicesClone (b : Base) (R : Hp) (l4 : (List Int)) (A1 : Option Addr) (c2 : Nat) (h3 : FZ (RT.int .u8) b.w A1 c2 l4) (l10 : (List Int)) (hm : mSlicesClone l4 = some l10) :
    CallsG Tryd.prog 17 [.slice A1 (l4).length c2] b (R) (fun v b' hp' => ∃ (A7 : Option Addr), ∃ (c8 : Nat), ∃ (hs6 : Hp), .slice A7 (l10).length c8 = v ∧ (hs6 ++ R) = hp' ∧ OS 5 (OT.fr (RT.int .u8)) b'.w (.slice A7 l10.length c8) l10 hs6) := by
  unfold mSlicesClone at hm
  obtain ⟨_, hroom, hm⟩ := bindS hm
  have hroom := room_some hroom
  obtain rfl := some1 hm
  exact clone_of (r := (RT.int .u8)) (sz := 1) (by_ := 1) rfl (by decide) clSlicesClone h3 hroom

set_option maxRecDepth 20000 in
theorem cSlicesIndex (b : Base) (R : Hp) (l4 : (List Int)) (x5 : Int) (A1 : Option Addr) (c2 : Nat) (h3 : FZ (RT.int .i64) b.w A1 c2 l4) (x38 : Int) (hm : mSlicesIndex l4 x5 = some x38) :
    CallsG Tryd.prog 50 [.slice A1 (l4).length c2, .int .i64 (x5)] b (R) (fun v b' hp' => .int .i64 (x38) = v ∧ R = hp') := by
  refine fn_enterG 19 Tryd.func50 rfl Tryd.ntmps50 rfl ?_
  unfold mSlicesIndex at hm
  refine c_seq ?_
  refine c_region ?_
  refine t_st rfl (st_assign rfl) ?_
  refine t_nil ?_
  refine x_then_normal ?_
  refine c_seq ?_
  refine c_seq ?_
  refine c_region ?_
  refine t_st rfl (st_move rfl) ?_
  refine t_st rfl (st_len rfl sl24) ?_
  refine t_st rfl (st_move rfl) ?_
  refine t_nil ?_
  refine x_then_normal ?_
  refine c_block ?_
  have hb40 := (FZ.bd h3)
  obtain ⟨t55, hl56, hk57⟩ := bindS hm
  refine c_forM (fun k54 => fun _ => fun b52 e' hp' => [(0, .slice A1 (l4).length c2), (1, .int .i64 (x5)), (7, .int .i64 ((l4.length : Int))), (8, .int .i64 ((k54 : Int)))] = e' ∧ R = hp' ∧ b.Le b52) hl56 (e' := [(0, .slice A1 (l4).length c2), (1, .int .i64 (x5)), (7, .int .i64 ((l4.length : Int))), (8, .int .i64 0)]) (hp' := R) ⟨rfl, rfl, rfl, rfl, trivial⟩ (.refl _) ⟨rfl, rfl, (Base.Le.refl _)⟩ ?_ ?_
  ·
    rintro k54 _ b52 _ _ oL39 hknL39 ⟨rfl, rfl, hle53⟩ hstepL39 houtL39
    unfold mSlicesIndex_L39 at hstepL39
    have hm := hstepL39
    refine c_seq ?_
    refine c_region ?_
    refine t_st rfl (st_lss_t rfl rfl (by omega)) ?_
    refine t_nil ?_
    refine x_then_normal ?_
    refine c_seq ?_
    refine c_cond_t rfl ?_
    refine c_skip ?_
    refine x_then_normal ?_
    refine c_seq ?_
    refine c_block ?_
    refine c_seq ?_
    refine c_region ?_
    refine t_st rfl (st_move rfl) ?_
    refine t_st rfl (st_assign rfl) ?_
    refine t_nil ?_
    refine x_then_normal ?_
    refine c_seq ?_
    refine c_region ?_
    refine t_st rfl (st_move rfl) ?_
    refine t_st rfl (st_move rfl) ?_
    refine t_st rfl (st_move rfl) ?_
    obtain ⟨x58, h59, hm⟩ := bindS hm
    obtain ⟨j60, hj61, hx62⟩ := idx_some h59
    obtain ⟨cs63, hr64, hcs65, hA66, hlt67⟩ := FZ.get (sz := 1) rfl (by decide) (h3.le hle53) hx62
    obtain rfl := hr64
    refine t_st rfl (st_index_old j60 rfl rfl hj61 hlt67 hA66 sl24) ?_
    refine t_st rfl (st_load_old rfl one3 (hcs65 0 _ rfl)) ?_
    refine t_st rfl (st_eql rfl rfl) ?_
    refine t_nil ?_
    refine x_then_normal ?_
    refine c_cond _ rfl (fun hc68 => ?_) (fun hc68 => ?_)
    ·
      rw [if_pos (of_decide_eq_true hc68)] at hm
      refine c_seq ?_
      refine c_region ?_
      refine t_st rfl (st_move rfl) ?_
      refine t_st rfl (st_assign rfl) ?_
      refine t_nil ?_
      refine x_then_normal ?_
      refine c_ret ?_
      refine x_block_ret ?_
      refine x_then_ret ?_
      refine x_then_ret ?_
      refine x_block_ret ?_
      refine x_then_ret ?_
      have hq69 := houtL39 _ (Option.some.inj hm).symm
      rw [hq69] at hk57
      have hm := elimR hk57
      obtain rfl := some1 hm
      exact retM (rs := [.tmp 4]) [.int .i64 ((k54 : Int))] hle53 (by decide) rfl ⟨rfl, trivial⟩ rfl (hp' := R) (.refl _) ⟨rfl, rfl⟩
    ·
      rw [if_neg (of_decide_eq_false hc68)] at hm
      refine c_skip ?_
      refine x_block_normal ?_
      refine x_then_normal ?_
      refine c_region ?_
      refine t_st rfl (st_add rfl rfl (by omega)) ?_
      refine t_st rfl (st_move rfl) ?_
      refine t_nil ?_
      exact x_againM () (Option.some.inj hm).symm (e' := [(0, .slice A1 (l4).length c2), (1, .int .i64 (x5)), (7, .int .i64 ((l4.length : Int))), (8, .int .i64 ((k54 : Int) + 1))]) (hp' := R) ⟨rfl, rfl, rfl, rfl, trivial⟩ (.refl _) ⟨rfl, rfl, (hle53)⟩
  ·
    rintro _ b52 _ _ ⟨rfl, rfl, hle53⟩ hq70
    rw [hq70] at hk57
    have hm := elimL hk57
    refine c_seq ?_
    refine c_region ?_
    refine t_st rfl (st_lss_f rfl rfl (by omega)) ?_
    refine t_nil ?_
    refine x_then_normal ?_
    refine c_seq ?_
    refine c_cond_f rfl ?_
    refine c_exit ?_
    refine x_then_exit ?_
    refine x_then_exit ?_
    refine x_block_out ?_
    refine x_then_normal ?_
    refine c_seq ?_
    refine c_region ?_
    refine t_st rfl (st_assign rfl) ?_
    refine t_nil ?_
    refine x_then_normal ?_
    refine c_ret ?_
    obtain rfl := some1 hm
    exact retM (rs := [.tmp 4]) [.int .i64 ((-1))] hle53 (by decide) rfl ⟨rfl, trivial⟩ rfl (hp' := R) (.refl _) ⟨rfl, rfl⟩

set_option maxRecDepth 20000 in
theorem cSlicesContains (b : Base) (R : Hp) (l4 : (List Int)) (x5 : Int) (A1 : Option Addr) (c2 : Nat) (h3 : FZ (RT.int .i64) b.w A1 c2 l4) (x8 : Bool) (hm : mSlicesContains l4 x5 = some x8) :
    CallsG Tryd.prog 18 [.slice A1 (l4).length c2, .int .i64 (x5)] b (R) (fun v b' hp' => .bool (x8) = v ∧ R = hp') := by
  refine fn_enterG 9 Tryd.func18 rfl Tryd.ntmps18 rfl ?_
  unfold mSlicesContains at hm
  refine c_seq ?_
  refine c_region ?_
  refine t_st rfl (st_assign rfl) ?_
  refine t_nil ?_
  refine x_then_normal ?_
  refine c_seq ?_
  refine c_region ?_
  refine t_st rfl (st_move rfl) ?_
  refine t_st rfl (st_move rfl) ?_
  obtain ⟨x9, hcl10, hm⟩ := bindS hm
  refine t_do rfl (u_callW0 _ call50 rfl (fun w ho => cSlicesIndex _ [] l4 x5 A1 c2 (h3.old ho) x9 hcl10) (fun _ _ _ h => h.2.symm)) ?_
  rintro _ _ ⟨⟨_, rfl, _⟩, rfl⟩
  refine t_st rfl (st_geq rfl rfl) ?_
  refine t_st rfl (st_assign rfl) ?_
  refine t_nil ?_
  refine x_then_normal ?_
  refine c_ret ?_
  obtain rfl := some1 hm
  exact retM (rs := [.tmp 4]) [.bool (decide (0 ≤ x9))] (Base.Le.refl _) (by decide) rfl ⟨rfl, trivial⟩ rfl (hp' := R) (.refl _) ⟨rfl, rfl⟩

set_option maxRecDepth 20000 in
theorem cFishkeep1GuardFlips (b : Base) (R : Hp) (hG : GLo 2 3 b.w) (s1 : GuardTelegram) (l5 : (List Int)) (A2 : Option Addr) (c3 : Nat) (h4 : FZ (RT.int .i64) b.w A2 c3 l5) (x476 : Bool) (hm : mFishkeep1GuardFlips s1 l5 = some x476) :
    CallsG Tryd.prog 3 [.agg #[.int .i64 (s1.Link), .int .i64 (s1.Section), .int .i64 (s1.Away)], .slice A2 (l5).length c3] b (R) (fun v b' hp' => .bool (x476) = v ∧ R = hp') := by
  refine fn_enterG 88 Tryd.func3 rfl Tryd.ntmps3 rfl ?_
  unfold mFishkeep1GuardFlips at hm
  refine c_seq ?_
  refine c_region ?_
  refine t_do rfl (u_box _ rfl rfl) ?_
  rintro _ _ ⟨g477, rfl, rfl⟩
  refine t_st rfl (st_assign rfl) ?_
  refine t_nil ?_
  refine x_then_normal ?_
  refine c_seq ?_
  refine c_seq ?_
  refine c_region ?_
  obtain ⟨x478, hcl479, hm⟩ := bindS hm
  refine t_do rfl (u_callW0 _ call14 rfl (fun w ho => cFishkeep1AwakeGuard _ [] ((hG.le (Base.Le.refl _)).old ho) x478 hcl479) (fun _ _ _ h => h.2.symm)) ?_
  rintro _ _ ⟨⟨_, rfl, _⟩, rfl⟩
  refine t_st rfl (st_not rfl) ?_
  refine t_nil ?_
  refine x_then_normal ?_
  refine c_cond _ rfl (fun hc480 => ?_) (fun hc480 => ?_)
  ·
    rw [if_neg (fun hh => Bool.noConfusion (hh.symm.trans (notT hc480)))] at hm
    refine c_seq ?_
    refine c_region ?_
    refine t_st rfl (st_assign rfl) ?_
    refine t_nil ?_
    refine x_then_normal ?_
    refine c_ret ?_
    refine x_then_ret ?_
    obtain rfl := some1 hm
    exact retM (rs := [.tmp 4]) [.bool (false)] (Base.Le.refl _) (by decide) rfl ⟨rfl, trivial⟩ rfl (hp' := R) (.cons _ (.refl _)) ⟨rfl, rfl⟩
  ·
    rw [if_pos (notF hc480)] at hm
    refine c_skip ?_
    refine x_then_normal ?_
    refine c_seq ?_
    refine c_region ?_
    refine t_st rfl (st_loadD (vs := [_, _, _]) 0 3 rfl agg23 rfl rfl rfl) ?_
    obtain ⟨⟨x481, l482⟩, hcl483, hm⟩ := bindS hm
    have hm := (unc2E hm)
    refine t_callG _ rfl call15 rfl (cGuardWrite _ _ s1 x481 l482 hcl483) ?_
    rintro _ b484 _ hle485 ⟨A486, c487, hs488, rfl, rfl, h489⟩
    refine t_in1 [] [_] hs488 R rfl ?_
    refine t_st rfl (st_move rfl) ?_
    refine t_st rfl (st_extract rfl rfl) ?_
    refine t_st rfl (st_extract rfl rfl) ?_
    refine t_st rfl (st_assign rfl) ?_
    refine t_st rfl (st_assign rfl) ?_
    refine t_nil ?_
    refine x_then_normal ?_
    refine c_seq ?_
    refine c_seq ?_
    refine c_region ?_
    refine t_st rfl (st_move rfl) ?_
    refine t_st rfl (st_neq rfl rfl) ?_
    refine t_nil ?_
    refine x_then_normal ?_
    refine c_cond _ rfl (fun hc490 => ?_) (fun hc490 => ?_)
    ·
      rw [if_pos (of_decide_eq_true hc490)] at hm
      refine c_seq ?_
      refine c_region ?_
      refine t_st rfl (st_move rfl) ?_
      refine t_st rfl (st_len rfl sl26) ?_
      refine t_st rfl (st_eql rfl rfl) ?_
      refine t_st rfl (st_assign rfl) ?_
      refine t_nil ?_
      refine x_then_normal ?_
      refine c_ret ?_
      refine x_then_ret ?_
      obtain rfl := some1 hm
      exact retM (rs := [.tmp 4]) [.bool (decide ((l482.length : Int) = 0))] hle485 (by decide) rfl ⟨rfl, trivial⟩ rfl (hp' := R) (.cons _ (sub_skip hs488 (.refl _))) ⟨rfl, rfl⟩
    ·
      rw [if_neg (of_decide_eq_false hc490)] at hm
      refine c_skip ?_
      refine x_then_normal ?_
      refine c_seq ?_
      refine c_region ?_
      refine t_st rfl (st_move rfl) ?_
      refine t_frz [_] hs488 R rfl ?_
      intro b491 hle492 hz493
      have h494 := OS.frz (l := l482) h489 hle492.cells hz493
      obtain ⟨⟨x495, x496, x497, x498⟩, hcl499, hm⟩ := bindS hm
      have hm := (unc4E hm)
      refine t_callG _ rfl call16 rfl (cGuardRead _ _ l482 A486 c487 h494 x495 x496 x497 x498 hcl499) ?_
      rintro _ b500 _ hle501 ⟨rfl, rfl⟩
      refine t_st rfl (st_move rfl) ?_
      refine t_st rfl (st_extract rfl rfl) ?_
      refine t_st rfl (st_extract rfl rfl) ?_
      refine t_do rfl (u_alloc [.int .i64 0, .int .i64 0, .int .i64 0] zero23 rfl) ?_
      rintro _ _ ⟨g502, rfl, rfl⟩
      refine t_do rfl (u_storeN (vs := [_, _, _]) 0 3 rfl rfl rfl siz23 rfl (by intro u hu; simp only [List.mem_cons, List.not_mem_nil, or_false] at hu; rcases hu with rfl | rfl | rfl <;> rfl) rfl (by simp)) ?_
      rintro _ _ rfl
      refine t_st rfl (st_assign rfl) ?_
      refine t_nil ?_
      refine x_then_normal ?_
      refine c_seq ?_
      obtain ⟨x507, hj508, hk508⟩ := bindS hm
      refine c_join (fun b505 e' hp' => [(1, .slice A2 (l5).length c3), (5, .slice A486 (l482).length c487), (39, .bool (x507))] = e' ∧ R = hp' ∧ b500.Le b505) ?_ ?_
      ·
        have hm := hj508
        refine c_region ?_
        refine t_st rfl (st_move rfl) ?_
        refine t_bool rfl (st_neq rfl rfl) (fun hc509 => ?_) (fun hc509 => ?_)
        ·
          rw [if_pos hc509] at hm
          refine t_st rfl (st_move rfl) ?_
          refine t_no 30 rfl rfl rfl rfl rfl ?_
          refine t_no 30 rfl rfl rfl rfl rfl ?_
          refine t_no 30 rfl rfl rfl rfl rfl ?_
          refine t_st rfl (st_pick_t rfl rfl) ?_
          refine t_st rfl (st_move rfl) ?_
          refine t_no 35 rfl rfl rfl rfl rfl ?_
          refine t_no 35 rfl rfl rfl rfl rfl ?_
          refine t_no 35 rfl rfl rfl rfl rfl ?_
          refine t_st rfl (st_pick_t rfl rfl) ?_
          refine t_nil ?_
          obtain rfl := some1 hm
          exact x_join (e' := [(1, .slice A2 (l5).length c3), (5, .slice A486 (l482).length c487), (39, .bool (true))]) (hp' := R) ⟨rfl, rfl, rfl, trivial⟩ (.cons _ (.cons _ (.refl _))) ⟨rfl, rfl, (Base.Le.refl _)⟩
        ·
          rw [if_neg hc509] at hm
          refine t_st rfl (st_move rfl) ?_
          refine t_yes 30 rfl rfl rfl ?_
          refine t_st rfl (st_loadD (vs := [_, _, _]) 0 3 rfl agg23 rfl rfl rfl) ?_
          refine t_yes 30 rfl rfl rfl ?_
          refine t_st rfl (st_loadD (vs := [_, _, _]) 1 3 rfl agg23 rfl rfl rfl) ?_
          refine t_yes 30 rfl rfl rfl ?_
          refine t_st rfl (st_neqA (xs := [.int .i64 (x495), .int .i64 (x496), .int .i64 (x497)]) (ys := [.int .i64 (s1.Link), .int .i64 (s1.Section), .int .i64 (s1.Away)]) (p := x495 = s1.Link ∧ x496 = s1.Section ∧ x497 = s1.Away) rfl rfl eqt23 ⟨⟨_, rfl⟩, ⟨⟨_, rfl⟩, ⟨⟨_, rfl⟩, trivial⟩⟩⟩ ⟨⟨_, rfl⟩, ⟨⟨_, rfl⟩, ⟨⟨_, rfl⟩, trivial⟩⟩⟩ (by simp [eqCells, eqCell, Bool.decide_and, beq_dec])) ?_
          rcases Bool.eq_false_or_eq_true (!(decide (x495 = s1.Link ∧ x496 = s1.Section ∧ x497 = s1.Away))) with hc510 | hc510
          ·
            rw [if_neg (of_decide_eq_false (notT hc510))] at hm
            refine t_resp 33 rfl (v' := .bool true) (by rw [hc510] <;> rfl) ?_
            refine t_st rfl (st_pick_f rfl rfl) ?_
            refine t_st rfl (st_move rfl) ?_
            refine t_no 35 rfl rfl rfl rfl rfl ?_
            refine t_no 35 rfl rfl rfl rfl rfl ?_
            refine t_no 35 rfl rfl rfl rfl rfl ?_
            refine t_st rfl (st_pick_t rfl rfl) ?_
            refine t_nil ?_
            obtain rfl := some1 hm
            exact x_join (e' := [(1, .slice A2 (l5).length c3), (5, .slice A486 (l482).length c487), (39, .bool (true))]) (hp' := R) ⟨rfl, rfl, rfl, trivial⟩ (.cons _ (.cons _ (.refl _))) ⟨rfl, rfl, (Base.Le.refl _)⟩
          ·
            rw [if_pos (of_decide_eq_true (notF hc510))] at hm
            refine t_resp 33 rfl (v' := .bool false) (by rw [hc510] <;> rfl) ?_
            refine t_st rfl (st_pick_f rfl rfl) ?_
            refine t_st rfl (st_move rfl) ?_
            refine t_yes 35 rfl rfl rfl ?_
            refine t_st rfl (st_move rfl) ?_
            refine t_yes 35 rfl rfl rfl ?_
            refine t_st rfl (st_len rfl sl26) ?_
            refine t_yes 35 rfl rfl rfl ?_
            refine t_st rfl (st_neq rfl rfl) ?_
            refine t_st rfl (st_pick_f rfl rfl) ?_
            refine t_nil ?_
            obtain rfl := some1 hm
            exact x_join (e' := [(1, .slice A2 (l5).length c3), (5, .slice A486 (l482).length c487), (39, .bool (decide ((l482.length : Int) ≠ 8)))]) (hp' := R) ⟨rfl, rfl, rfl, trivial⟩ (.cons _ (.cons _ (.refl _))) ⟨rfl, rfl, (Base.Le.refl _)⟩
      ·
        rintro b505 _ _ ⟨rfl, rfl, hle506⟩
        have hm := hk508
        refine c_cond _ rfl (fun hc511 => ?_) (fun hc511 => ?_)
        ·
          rw [if_pos hc511] at hm
          refine c_seq ?_
          refine c_region ?_
          refine t_st rfl (st_assign rfl) ?_
          refine t_nil ?_
          refine x_then_normal ?_
          refine c_ret ?_
          refine x_then_ret ?_
          obtain rfl := some1 hm
          exact retM (rs := [.tmp 4]) [.bool (false)] (hle485.trans (hle492.trans (hle501.trans hle506))) (by decide) rfl ⟨rfl, trivial⟩ rfl (hp' := R) (.refl _) ⟨rfl, rfl⟩
        ·
          rw [if_neg (fun hh => Bool.noConfusion (hh.symm.trans hc511))] at hm
          refine c_skip ?_
          refine x_then_normal ?_
          refine c_seq ?_
          refine c_region ?_
          refine t_st rfl (st_move rfl) ?_
          obtain ⟨l512, hcl513, hm⟩ := bindS hm
          refine t_callG _ rfl call17 rfl (cSlicesClone _ _ l482 A486 c487 (h494.le (hle501.trans hle506)) l512 hcl513) ?_
          rintro _ b514 _ hle515 ⟨A516, c517, hs518, rfl, rfl, h519⟩
          refine t_in1 [] [] hs518 R rfl ?_
          refine t_st rfl (st_assign rfl) ?_
          refine t_nil ?_
          refine x_then_normal ?_
          refine c_seq ?_
          refine c_seq ?_
          refine c_region ?_
          refine t_st rfl (st_move rfl) ?_
          refine t_st rfl (st_len rfl sl24) ?_
          refine t_st rfl (st_move rfl) ?_
          refine t_nil ?_
          refine x_then_normal ?_
          refine c_block ?_
          have hb521 := (FZ.bd (h4.le (hle485.trans (hle492.trans (hle501.trans (hle506.trans hle515))))))
          obtain ⟨t795, hl796, hk797⟩ := bindS hm
          refine c_forM (fun k794 => fun l793 => fun b786 e' hp' => ∃ (A790 : Option Addr), ∃ (c791 : Nat), ∃ (hs789 : Hp), [(1, .slice A2 (l5).length c3), (8, .slice A790 (l793).length c791), (42, .slice A2 (l5).length c3), (43, .int .i64 ((l5.length : Int))), (44, .int .i64 ((k794 : Int)))] = e' ∧ (hs789 ++ R) = hp' ∧ b514.Le b786 ∧ OS 5 (OT.fr (RT.int .u8)) b786.w (.slice A790 l793.length c791) l793 hs789) hl796 (e' := [(1, .slice A2 (l5).length c3), (8, .slice A516 (l512).length c517), (42, .slice A2 (l5).length c3), (43, .int .i64 ((l5.length : Int))), (44, .int .i64 0)]) (hp' := (hs518 ++ R)) ⟨rfl, rfl, rfl, rfl, rfl, trivial⟩ (sub_app hs518 (.refl _)) ⟨A516, c517, hs518, rfl, rfl, (Base.Le.refl _), h519⟩ ?_ ?_
          ·
            rintro k794 l793 b786 _ _ oL520 hknL520 ⟨A790, c791, hs789, rfl, rfl, hle787, h792⟩ hstepL520 houtL520
            unfold mFishkeep1GuardFlips_L520 at hstepL520
            have hm := hstepL520
            refine c_seq ?_
            refine c_region ?_
            refine t_st rfl (st_lss_t rfl rfl (by omega)) ?_
            refine t_nil ?_
            refine x_then_normal ?_
            refine c_seq ?_
            refine c_cond_t rfl ?_
            refine c_skip ?_
            refine x_then_normal ?_
            refine c_seq ?_
            refine c_block ?_
            refine c_seq ?_
            refine c_region ?_
            refine t_st rfl (st_move rfl) ?_
            obtain ⟨x798, h799, hm⟩ := bindS hm
            obtain ⟨j800, hj801, hx802⟩ := idx_some h799
            obtain ⟨cs803, hr804, hcs805, hA806, hlt807⟩ := FZ.get (sz := 1) rfl (by decide) (h4.le (hle485.trans (hle492.trans (hle501.trans (hle506.trans (hle515.trans hle787)))))) hx802
            obtain rfl := hr804
            refine t_st rfl (st_index_old j800 rfl rfl hj801 hlt807 hA806 sl24) ?_
            refine t_st rfl (st_load_old rfl one3 (hcs805 0 _ rfl)) ?_
            refine t_st rfl (st_assign rfl) ?_
            refine t_st rfl (st_assign rfl) ?_
            refine t_nil ?_
            refine x_then_normal ?_
            refine c_seq ?_
            obtain ⟨x829, hj830, hk830⟩ := bindS hm
            refine c_join (fun b827 e' hp' => [(1, .slice A2 (l5).length c3), (8, .slice A790 (l793).length c791), (10, .int .i64 (x798)), (42, .slice A2 (l5).length c3), (43, .int .i64 ((l5.length : Int))), (44, .int .i64 ((k794 : Int))), (61, .bool (x829))] = e' ∧ (hs789 ++ R) = hp' ∧ b786.Le b827) ?_ ?_
            ·
              have hm := hj830
              refine c_region ?_
              refine t_st rfl (st_move rfl) ?_
              refine t_bool rfl (st_lss rfl rfl) (fun hc831 => ?_) (fun hc831 => ?_)
              ·
                rw [if_pos hc831] at hm
                refine t_st rfl (st_move rfl) ?_
                refine t_no 51 rfl rfl rfl rfl rfl ?_
                refine t_no 51 rfl rfl rfl rfl rfl ?_
                refine t_st rfl (st_pick_t rfl rfl) ?_
                refine t_st rfl (st_move rfl) ?_
                refine t_no 55 rfl rfl rfl rfl rfl ?_
                refine t_no 55 rfl rfl rfl rfl rfl ?_
                refine t_no 55 rfl rfl rfl rfl rfl ?_
                refine t_no 55 rfl rfl rfl rfl rfl ?_
                refine t_no 55 rfl rfl rfl rfl rfl ?_
                refine t_st rfl (st_pick_t rfl rfl) ?_
                refine t_nil ?_
                obtain rfl := some1 hm
                exact x_join (e' := [(1, .slice A2 (l5).length c3), (8, .slice A790 (l793).length c791), (10, .int .i64 (x798)), (42, .slice A2 (l5).length c3), (43, .int .i64 ((l5.length : Int))), (44, .int .i64 ((k794 : Int))), (61, .bool (true))]) (hp' := (hs789 ++ R)) ⟨rfl, rfl, rfl, rfl, rfl, rfl, rfl, trivial⟩ (sub_app hs789 (.refl _)) ⟨rfl, rfl, (Base.Le.refl _)⟩
              ·
                rw [if_neg hc831] at hm
                refine t_st rfl (st_move rfl) ?_
                refine t_yes 51 rfl rfl rfl ?_
                refine t_st rfl (st_move rfl) ?_
                refine t_yes 51 rfl rfl rfl ?_
                refine t_bool rfl (st_geq rfl rfl) (fun hc832 => ?_) (fun hc832 => ?_)
                ·
                  rw [if_pos hc832] at hm
                  refine t_st rfl (st_pick_f rfl rfl) ?_
                  refine t_st rfl (st_move rfl) ?_
                  refine t_no 55 rfl rfl rfl rfl rfl ?_
                  refine t_no 55 rfl rfl rfl rfl rfl ?_
                  refine t_no 55 rfl rfl rfl rfl rfl ?_
                  refine t_no 55 rfl rfl rfl rfl rfl ?_
                  refine t_no 55 rfl rfl rfl rfl rfl ?_
                  refine t_st rfl (st_pick_t rfl rfl) ?_
                  refine t_nil ?_
                  obtain rfl := some1 hm
                  exact x_join (e' := [(1, .slice A2 (l5).length c3), (8, .slice A790 (l793).length c791), (10, .int .i64 (x798)), (42, .slice A2 (l5).length c3), (43, .int .i64 ((l5.length : Int))), (44, .int .i64 ((k794 : Int))), (61, .bool (true))]) (hp' := (hs789 ++ R)) ⟨rfl, rfl, rfl, rfl, rfl, rfl, rfl, trivial⟩ (sub_app hs789 (.refl _)) ⟨rfl, rfl, (Base.Le.refl _)⟩
                ·
                  rw [if_neg hc832] at hm
                  refine t_st rfl (st_pick_f rfl rfl) ?_
                  refine t_st rfl (st_move rfl) ?_
                  refine t_yes 55 rfl rfl rfl ?_
                  refine t_st rfl (st_move rfl) ?_
                  refine t_yes 55 rfl rfl rfl ?_
                  refine t_st rfl (st_move rfl) ?_
                  refine t_yes 55 rfl rfl rfl ?_
                  obtain ⟨l833, h834, hm⟩ := bindS hm
                  obtain ⟨j835, j836, hj837, hj838, hj839, hj840, hx841⟩ := cutS_some h834
                  have h842 := FZ.sub (sz := 1) rfl (h4.le (hle485.trans (hle492.trans (hle501.trans (hle506.trans (hle515.trans hle787)))))) hj839 hj840
                  have h843 := (h4.le (hle485.trans (hle492.trans (hle501.trans (hle506.trans (hle515.trans hle787)))))).1.1
                  rw [← hx841] at h842
                  refine t_st rfl (hx841 ▸ st_part (l := l5) j835 j836 rfl (.inl ⟨rfl, by omega⟩) (.inr ⟨_, _, _, rfl, rfl, hj838⟩) hj839 hj840 h843 sl24) ?_
                  refine t_yes 55 rfl rfl rfl ?_
                  refine t_st rfl (st_move rfl) ?_
                  refine t_yes 55 rfl rfl rfl ?_
                  obtain ⟨x848, hcl849, hm⟩ := bindS hm
                  refine t_do rfl (u_callW0 _ call18 rfl (fun w ho => cSlicesContains _ [] l833 x798 (subA A2 c3 j835 1) (c3 - j835) (h842.old ho) x848 hcl849) (fun _ _ _ h => h.2.symm)) ?_
                  rintro _ _ ⟨⟨_, rfl, _⟩, rfl⟩
                  refine t_st rfl (st_pick_f rfl rfl) ?_
                  refine t_nil ?_
                  obtain rfl := some1 hm
                  exact x_join (e' := [(1, .slice A2 (l5).length c3), (8, .slice A790 (l793).length c791), (10, .int .i64 (x798)), (42, .slice A2 (l5).length c3), (43, .int .i64 ((l5.length : Int))), (44, .int .i64 ((k794 : Int))), (61, .bool (x848))]) (hp' := (hs789 ++ R)) ⟨rfl, rfl, rfl, rfl, rfl, rfl, rfl, trivial⟩ (sub_app hs789 (.refl _)) ⟨rfl, rfl, (Base.Le.refl _)⟩
            ·
              rintro b827 _ _ ⟨rfl, rfl, hle828⟩
              have hm := hk830
              refine c_cond _ rfl (fun hc850 => ?_) (fun hc850 => ?_)
              ·
                rw [if_pos hc850] at hm
                refine c_seq ?_
                refine c_region ?_
                refine t_st rfl (st_assign rfl) ?_
                refine t_nil ?_
                refine x_then_normal ?_
                refine c_ret ?_
                refine x_then_ret ?_
                refine x_block_ret ?_
                refine x_then_ret ?_
                refine x_then_ret ?_
                refine x_block_ret ?_
                refine x_then_ret ?_
                have hq851 := houtL520 _ (Option.some.inj hm).symm
                rw [hq851] at hk797
                have hm := elimR hk797
                obtain rfl := some1 hm
                exact retM (rs := [.tmp 4]) [.bool (true)] (hle485.trans (hle492.trans (hle501.trans (hle506.trans (hle515.trans (hle787.trans hle828)))))) (by decide) rfl ⟨rfl, trivial⟩ rfl (hp' := R) (sub_skip hs789 (.refl _)) ⟨rfl, rfl⟩
              ·
                rw [if_neg (fun hh => Bool.noConfusion (hh.symm.trans hc850))] at hm
                refine c_skip ?_
                refine x_then_normal ?_
                obtain ⟨_, h890, hm⟩ := bindS hm
                obtain ⟨_, h891, hm⟩ := bindS hm
                obtain ⟨x892, h893, hm⟩ := bindS hm
                obtain ⟨_, h908, hm⟩ := bindS hm
                obtain ⟨_, h909, hm⟩ := bindS hm
                obtain ⟨x910, h911, hm⟩ := bindS hm
                refine D_drawS ((hs789 ++ R)) mixed ?_
                refine D_st (Base.Le.refl _) 0 rfl (by kernel_rfl) (by kernel_rfl) (by kernel_rfl) rfl (st_move rfl) (sub_app hs789 (.refl _)) ?_
                refine D_st (Base.Le.refl _) 1 rfl (by kernel_rfl) (by kernel_rfl) (by kernel_rfl) rfl (st_move rfl) (sub_app hs789 (.refl _)) ?_
                have h891 := (chk_some h891).2
                refine D_st (Base.Le.refl _) 2 rfl (by kernel_rfl) (by kernel_rfl) (by kernel_rfl) rfl (st_quo rfl rfl (ne0_some h890) h891) (sub_app hs789 (.refl _)) ?_
                obtain ⟨j894, hj895, hx896⟩ := idx_some h893
                obtain ⟨cs897, hs902, P903, P904, hq905, hr898, hcs899, hA900, hlt901, hb906, hho907⟩ := OS.get (sz := 1) rfl (by decide) (h792.le hle828) hx896
                obtain ⟨rfl, rfl⟩ := hr898
                refine D_st (Base.Le.refl _) 3 rfl (by kernel_rfl) (by kernel_rfl) (by kernel_rfl) rfl (st_index_old j894 rfl rfl hj895 hlt901 hA900 sl26) (sub_app hs789 (.refl _)) ?_
                refine D_st (Base.Le.refl _) 4 rfl (by kernel_rfl) (by kernel_rfl) (by kernel_rfl) rfl (st_load_rd rfl one5 (fun w ho => hcs899 w _ ho (List.sublist_append_left _ _) 0 _ rfl)) (sub_app hs789 (.refl _)) ?_
                refine D_st (Base.Le.refl _) 5 rfl (by kernel_rfl) (by kernel_rfl) (by kernel_rfl) rfl (st_move rfl) (sub_app hs789 (.refl _)) ?_
                refine D_st (Base.Le.refl _) 6 rfl (by kernel_rfl) (by kernel_rfl) (by kernel_rfl) rfl (st_rem rfl rfl (ne0_some h908)) (sub_app hs789 (.refl _)) ?_
                have h909 := shN_some h909
                refine D_st (Base.Le.refl _) 7 rfl (by kernel_rfl) (by kernel_rfl) (by kernel_rfl) rfl (st_shl rfl rfl h909) (sub_app hs789 (.refl _)) ?_
                refine D_st (Base.Le.refl _) 8 rfl (by kernel_rfl) (by kernel_rfl) (by kernel_rfl) rfl (st_xor rfl rfl) (sub_app hs789 (.refl _)) ?_
                obtain ⟨j912, hj913, hx914⟩ := idx_some h911
                obtain ⟨cs915, hs920, P921, P922, hq923, hr916, hcs917, hA918, hlt919, hb924, hho925⟩ := OS.get (sz := 1) rfl (by decide) (h792.le hle828) hx914
                obtain ⟨rfl, rfl⟩ := hr916
                refine D_st (Base.Le.refl _) 9 rfl (by kernel_rfl) (by kernel_rfl) (by kernel_rfl) rfl (st_index_old j912 rfl rfl hj913 hlt919 hA918 sl26) (sub_app hs789 (.refl _)) ?_
                refine D_all [10] (by kernel_rfl) rfl ?_
                refine R_do (Base.Le.refl _) rfl rfl (u_putOS hj913 (sz := 1) (a' := xorI .u8 x892 (shlI .u8 1 (Int.tmod x798 8))) rfl [] R 0 1 [.int .u8 (xorI .u8 x892 (shlI .u8 1 (Int.tmod x798 8)))] rfl (h792.le hle828) hx914 rfl rfl rfl siz5 rfl (by intro u hu; simp only [List.mem_cons, List.not_mem_nil, or_false] at hu; subst hu; rfl) (fun cs hsj hh => by obtain ⟨rfl, rfl⟩ := hh; exact ⟨by decide, rfl, rfl⟩)) ?_ ?_
                ·
                  rintro _ _ ⟨hs926, rfl, h927⟩
                  refine ⟨.inl (by kernel_rfl), ?_⟩
                  refine d_resp 8 rfl (v' := .slice A790 (put l793 (Int.tdiv x798 8) (xorI .u8 x892 (shlI .u8 1 (Int.tmod x798 8)))).length c791) (by simp only [put_length]) ?_
                  refine D_done (by kernel_rfl) ?_
                  refine x_block_normal ?_
                  refine x_then_normal ?_
                  refine c_region ?_
                  refine t_st rfl (st_add rfl rfl (by omega)) ?_
                  refine t_st rfl (st_move rfl) ?_
                  refine t_nil ?_
                  exact x_againM (put l793 (Int.tdiv x798 8) (xorI .u8 x892 (shlI .u8 1 (Int.tmod x798 8)))) (Option.some.inj hm).symm (e' := [(1, .slice A2 (l5).length c3), (8, .slice A790 (put l793 (Int.tdiv x798 8) (xorI .u8 x892 (shlI .u8 1 (Int.tmod x798 8)))).length c791), (42, .slice A2 (l5).length c3), (43, .int .i64 ((l5.length : Int))), (44, .int .i64 ((k794 : Int) + 1))]) (hp' := (hs926 ++ R)) ⟨rfl, rfl, rfl, rfl, rfl, trivial⟩ (sub_app hs926 (.refl _)) ⟨A790, c791, hs926, rfl, rfl, ((hle787.trans hle828)), h927⟩
                exact R_nil
          ·
            rintro l793 b786 _ _ ⟨A790, c791, hs789, rfl, rfl, hle787, h792⟩ hq928
            rw [hq928] at hk797
            have hm := elimL hk797
            refine c_seq ?_
            refine c_region ?_
            refine t_st rfl (st_lss_f rfl rfl (by omega)) ?_
            refine t_nil ?_
            refine x_then_normal ?_
            refine c_seq ?_
            refine c_cond_f rfl ?_
            refine c_exit ?_
            refine x_then_exit ?_
            refine x_then_exit ?_
            refine x_block_out ?_
            refine x_then_normal ?_
            refine c_seq ?_
            obtain ⟨x932, hj933, hk933⟩ := bindS hm
            refine c_join (fun b930 e' hp' => [(8, .slice A790 (l793).length c791), (80, .bool (x932))] = e' ∧ (hs789 ++ R) = hp' ∧ b786.Le b930) ?_ ?_
            ·
              have hm := hj933
              refine c_region ?_
              refine t_st rfl (st_move rfl) ?_
              refine t_st rfl (st_len rfl sl24) ?_
              refine t_bool rfl (st_lss rfl rfl) (fun hc934 => ?_) (fun hc934 => ?_)
              ·
                rw [if_pos hc934] at hm
                refine t_st rfl (st_move rfl) ?_
                refine t_no 76 rfl rfl rfl rfl rfl ?_
                refine t_no 76 rfl rfl rfl rfl rfl ?_
                refine t_no 76 rfl rfl rfl rfl rfl ?_
                refine t_st rfl (st_pick_t rfl rfl) ?_
                refine t_nil ?_
                obtain rfl := some1 hm
                exact x_join (e' := [(8, .slice A790 (l793).length c791), (80, .bool (true))]) (hp' := (hs789 ++ R)) ⟨rfl, rfl, trivial⟩ (sub_app hs789 (.refl _)) ⟨rfl, rfl, (Base.Le.refl _)⟩
              ·
                rw [if_neg hc934] at hm
                refine t_st rfl (st_move rfl) ?_
                refine t_yes 76 rfl rfl rfl ?_
                refine t_st rfl (st_move rfl) ?_
                refine t_yes 76 rfl rfl rfl ?_
                refine t_st rfl (st_len rfl sl24) ?_
                refine t_yes 76 rfl rfl rfl ?_
                refine t_st rfl (st_gtr rfl rfl) ?_
                refine t_st rfl (st_pick_f rfl rfl) ?_
                refine t_nil ?_
                obtain rfl := some1 hm
                exact x_join (e' := [(8, .slice A790 (l793).length c791), (80, .bool (decide (3 < (l5.length : Int))))]) (hp' := (hs789 ++ R)) ⟨rfl, rfl, trivial⟩ (sub_app hs789 (.refl _)) ⟨rfl, rfl, (Base.Le.refl _)⟩
            ·
              rintro b930 _ _ ⟨rfl, rfl, hle931⟩
              have hm := hk933
              refine c_cond _ rfl (fun hc935 => ?_) (fun hc935 => ?_)
              ·
                rw [if_pos hc935] at hm
                refine c_seq ?_
                refine c_region ?_
                refine t_st rfl (st_assign rfl) ?_
                refine t_nil ?_
                refine x_then_normal ?_
                refine c_ret ?_
                refine x_then_ret ?_
                obtain rfl := some1 hm
                exact retM (rs := [.tmp 4]) [.bool (true)] (hle485.trans (hle492.trans (hle501.trans (hle506.trans (hle515.trans (hle787.trans hle931)))))) (by decide) rfl ⟨rfl, trivial⟩ rfl (hp' := R) (sub_skip hs789 (.refl _)) ⟨rfl, rfl⟩
              ·
                rw [if_neg (fun hh => Bool.noConfusion (hh.symm.trans hc935))] at hm
                refine c_skip ?_
                refine x_then_normal ?_
                refine c_seq ?_
                refine c_region ?_
                refine t_st rfl (st_move rfl) ?_
                refine t_frz [] hs789 R rfl ?_
                intro b936 hle937 hz938
                have h939 := OS.frz (l := l793) (h792.le hle931) hle937.cells hz938
                obtain ⟨⟨x940, x941, x942, x943⟩, hcl944, hm⟩ := bindS hm
                have hm := (unc4E hm)
                refine t_callG _ rfl call16 rfl (cGuardRead _ _ l793 A790 c791 h939 x940 x941 x942 x943 hcl944) ?_
                rintro _ b945 _ hle946 ⟨rfl, rfl⟩
                refine t_st rfl (st_move rfl) ?_
                refine t_st rfl (st_extract rfl rfl) ?_
                refine t_st rfl (st_extract rfl rfl) ?_
                refine t_st rfl (st_assign rfl) ?_
                refine t_nil ?_
                refine x_then_normal ?_
                refine c_seq ?_
                refine c_region ?_
                refine t_st rfl (st_move rfl) ?_
                refine t_st rfl (st_eql rfl rfl) ?_
                refine t_st rfl (st_assign rfl) ?_
                refine t_nil ?_
                refine x_then_normal ?_
                refine c_ret ?_
                obtain rfl := some1 hm
                exact retM (rs := [.tmp 4]) [.bool (decide (x943 = 11))] (hle485.trans (hle492.trans (hle501.trans (hle506.trans (hle515.trans (hle787.trans (hle931.trans (hle937.trans hle946)))))))) (by decide) rfl ⟨rfl, trivial⟩ rfl (hp' := R) (.refl _) ⟨rfl, rfl⟩

end Go.Proofs.YtljcafilceachaaDoor
