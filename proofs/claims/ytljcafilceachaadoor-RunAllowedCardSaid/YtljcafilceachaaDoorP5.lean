/- Contracts: the code computes its model (part 5). -/
import Derived.Test.YtljcafilceachaaDoorP4
set_option linter.unusedVariables false
set_option linter.unusedSimpArgs false
namespace Go.Proofs.YtljcafilceachaaDoor
open Go.RowKit Go.Fp

set_option maxRecDepth 20000 in
theorem cRunRunnerSecond (b : Base) (R : Hp) (s11 : ApiState) (x12 : ByteArray) (x13 : Int) (x14 : Int) (x15 : Int) (x16 : Int) (x17 : Int) (x18 : Int) (x19 : Int) (x20 : Int) (x21 : Int) (l25 : (List ApiPiece)) (x26 : Int) (x27 : Int) (l28 : (List Int)) (l29 : (List (Int × (List Int)))) (g10 : Nat) (A22 : Option Addr) (c23 : Nat) (A3 : Option Addr) (c4 : Nat) (hs2 : Hp) (g8 : Nat) (hs7 : Hp) (h24 : FZ rApiPiece b.w A22 c23 l25) (h5 : OS 3 (OT.fr (RT.int .i64)) b.w (.slice A3 l28.length c4) l28 hs2) (h9 : OM (RT.int .i64) (OT.list 3 (OT.fr (RT.int .i64))) false false b.w g8 l29 hs7) (x576 : Int) (x577 : Int) (x578 : Int) (l579 : (List (Int × (List Int)))) (hm : mRunRunnerSecond s11 x12 x13 x14 x15 x16 x17 x18 x19 x20 x21 l25 x26 x27 l28 l29 = some (x576, x577, x578, l579)) :
    CallsG Tryd.prog 71 [.pointer (some ⟨g10, 0, none⟩), .agg #[.int .i64 (s11.At), .int .i64 (s11.Speed), .int .i64 (s11.Work)]] b ((g10, Cl 170 [.string (x12), .int .i64 (x13), .int .i64 (x14), .int .i64 (x15), .int .i64 (x16), .int .i64 (x17), .int .i64 (x18), .int .i64 (x19), .int .i64 (x20), .int .i64 (x21), .slice A22 (l25).length c23, .slice A3 (l28).length c4, .int .i64 (x26), .int .i64 (x27), .map (some g8)]) :: (hs2 ++ (hs7 ++ R))) (fun v b' hp' => ∃ (g574 : Nat), ∃ (hs573 : Hp), .agg #[.int .i64 (x576), .int .i64 (x577), .int .i64 (x578)] = v ∧ (g10, Cl 170 [.string (x12), .int .i64 (x13), .int .i64 (x14), .int .i64 (x15), .int .i64 (x16), .int .i64 (x17), .int .i64 (x18), .int .i64 (x19), .int .i64 (x20), .int .i64 (x21), .slice A22 (l25).length c23, .slice A3 (l28).length c4, .int .i64 (x26), .int .i64 (x27), .map (some g574)]) :: (hs2 ++ (hs573 ++ R)) = hp' ∧ OM (RT.int .i64) (OT.list 3 (OT.fr (RT.int .i64))) false false b'.w g574 l579 hs573) := by
  refine fn_enterG 121 Tryd.func71 rfl Tryd.ntmps71 rfl ?_
  unfold mRunRunnerSecond at hm
  refine c_seq ?_
  refine c_region ?_
  refine t_do rfl (u_box _ rfl rfl) ?_
  rintro _ _ ⟨g580, rfl, rfl⟩
  refine t_do rfl (u_alloc [.int .i64 0, .int .i64 0, .int .i64 0] zero82 rfl) ?_
  rintro _ _ ⟨g581, rfl, rfl⟩
  refine t_nil ?_
  refine x_then_normal ?_
  obtain ⟨x592, hj593, hk593⟩ := bindS hm
  refine c_join (fun b590 e' hp' => [(0, .pointer (some ⟨g10, 0, none⟩)), (3, .pointer (some ⟨g580, 0, none⟩)), (4, .pointer (some ⟨g581, 0, none⟩)), (5, .int .i64 (s11.Speed)), (6, .int .i64 (x592))] = e' ∧ (g10, Cl 170 [.string (x12), .int .i64 (x13), .int .i64 (x14), .int .i64 (x15), .int .i64 (x16), .int .i64 (x17), .int .i64 (x18), .int .i64 (x19), .int .i64 (x20), .int .i64 (x21), .slice A22 (l25).length c23, .slice A3 (l28).length c4, .int .i64 (x26), .int .i64 (x27), .map (some g8)]) :: (g580, Cl 82 [.int .i64 (s11.At), .int .i64 (s11.Speed), .int .i64 (s11.Work)]) :: (g581, Cl 82 [.int .i64 (0), .int .i64 (0), .int .i64 (0)]) :: (hs2 ++ (hs7 ++ R)) = hp' ∧ b.Le b590) ?_ ?_
  ·
    have hm := hj593
    obtain ⟨x598, hcl599, hm⟩ := bindS hm
    refine D_drawS ((g581, Cl 82 [.int .i64 (0), .int .i64 (0), .int .i64 (0)]) :: (g580, Cl 82 [.int .i64 (s11.At), .int .i64 (s11.Speed), .int .i64 (s11.Work)]) :: R) mixed ?_
    refine D_st (Base.Le.refl _) 0 rfl (by kernel_rfl) (by kernel_rfl) (by kernel_rfl) rfl (st_field rfl fld82_1) (.cons_cons _ (.cons_cons _ (.cons _ (sub_skip hs2 (sub_skip hs7 (.refl _)))))) ?_
    refine D_st (Base.Le.refl _) 1 rfl (by kernel_rfl) (by kernel_rfl) (by kernel_rfl) rfl (st_load 1 rfl one3 rfl rfl) (.cons_cons _ (.cons_cons _ (.cons _ (sub_skip hs2 (sub_skip hs7 (.refl _)))))) ?_
    refine D_st (Base.Le.refl _) 2 rfl (by kernel_rfl) (by kernel_rfl) (by kernel_rfl) rfl (st_move rfl) (.cons_cons _ (.cons_cons _ (.cons _ (sub_skip hs2 (sub_skip hs7 (.refl _)))))) ?_
    refine D_st (Base.Le.refl _) 3 rfl (by kernel_rfl) (by kernel_rfl) (by kernel_rfl) rfl (st_field rfl fld82_0) (.cons_cons _ (.cons_cons _ (.cons _ (sub_skip hs2 (sub_skip hs7 (.refl _)))))) ?_
    refine D_st (Base.Le.refl _) 4 rfl (by kernel_rfl) (by kernel_rfl) (by kernel_rfl) rfl (st_load 1 rfl one3 rfl rfl) (.cons_cons _ (.cons_cons _ (.cons _ (sub_skip hs2 (sub_skip hs7 (.refl _)))))) ?_
    refine d_pullb 2 rfl ?_
    refine d_front2 [_, _, _] hs2 hs7 R rfl ?_
    refine d_front2 [_, _, _] hs7 hs2 R rfl ?_
    refine d_out2 [_] [_, _] hs2 hs7 R rfl ?_
    refine D_all [5] (by kernel_rfl) rfl ?_
    refine R_callGl (Base.Le.refl _) rfl rfl _ call95 rfl (cRunRunnerGrade _ _ s11.At x12 x13 x14 x15 x16 x17 x18 x19 x20 x21 l25 x26 x27 l28 l29 g10 A22 c23 A3 c4 hs2 g8 hs7 h24 h5 h9 x598 hcl599) ?_ ?_
    ·
      rintro _ b600 _ hle601 ⟨rfl, rfl⟩
      refine ⟨.inr (.cons _ (sub_skip hs2 (sub_skip hs7 (.cons_cons _ (.cons_cons _ (.refl _)))))), ?_⟩
      refine d_in2 [_] [_, _] hs2 hs7 R rfl ?_
      refine D_st hle601 6 rfl (by kernel_rfl) (by kernel_rfl) (by kernel_rfl) rfl (st_assign rfl) (.cons _ (.cons_cons _ (.cons_cons _ (sub_skip hs2 (sub_skip hs7 (.refl _)))))) ?_
      refine D_st hle601 7 rfl (by kernel_rfl) (by kernel_rfl) (by kernel_rfl) rfl (st_assign rfl) (.cons _ (.cons_cons _ (.cons_cons _ (sub_skip hs2 (sub_skip hs7 (.refl _)))))) ?_
      refine D_done (by kernel_rfl) ?_
      obtain rfl := some1 hm
      refine x_pullb 1 rfl ?_
      refine x_pullb 2 rfl ?_
      refine x_pullb 2 rfl ?_
      refine x_front2 [_, _, _] hs2 hs7 R rfl ?_
      refine x_front2 [_, _, _] hs7 hs2 R rfl ?_
      exact x_join (e' := [(0, .pointer (some ⟨g10, 0, none⟩)), (3, .pointer (some ⟨g580, 0, none⟩)), (4, .pointer (some ⟨g581, 0, none⟩)), (5, .int .i64 (s11.Speed)), (6, .int .i64 (x598))]) (hp' := (g10, Cl 170 [.string (x12), .int .i64 (x13), .int .i64 (x14), .int .i64 (x15), .int .i64 (x16), .int .i64 (x17), .int .i64 (x18), .int .i64 (x19), .int .i64 (x20), .int .i64 (x21), .slice A22 (l25).length c23, .slice A3 (l28).length c4, .int .i64 (x26), .int .i64 (x27), .map (some g8)]) :: (g580, Cl 82 [.int .i64 (s11.At), .int .i64 (s11.Speed), .int .i64 (s11.Work)]) :: (g581, Cl 82 [.int .i64 (0), .int .i64 (0), .int .i64 (0)]) :: (hs2 ++ (hs7 ++ R))) ⟨rfl, rfl, rfl, rfl, rfl, trivial⟩ (.cons_cons _ (.cons_cons _ (.cons_cons _ (sub_app hs2 (sub_app hs7 (.refl _)))))) ⟨rfl, rfl, hle601⟩
    exact R_nil
  ·
    rintro b590 _ _ ⟨rfl, rfl, hle591⟩
    have hm := hk593
    refine c_seq ?_
    refine c_region ?_
    refine t_st rfl (st_move rfl) ?_
    refine t_st rfl (st_move rfl) ?_
    refine t_st rfl (st_nil rfl) ?_
    refine t_st rfl (st_field rfl fld170_0) ?_
    refine t_st rfl (st_field rfl fld43_7) ?_
    refine t_st rfl (st_load 0 rfl one3 rfl rfl) ?_
    refine t_st rfl (st_move rfl) ?_
    obtain ⟨_, h602, hm⟩ := bindS hm
    have h602 := (chk_some h602).2
    refine t_st rfl (st_add rfl rfl h602) ?_
    obtain ⟨_, h603, hm⟩ := bindS hm
    have h603 := (chk_some h603).2
    refine t_st rfl (st_sub rfl rfl h603) ?_
    refine t_st rfl (st_max rfl rfl) ?_
    refine t_st rfl (st_assign rfl) ?_
    refine t_nil ?_
    refine x_then_normal ?_
    refine c_seq ?_
    obtain ⟨x607, hcl608, hm⟩ := bindS hm
    obtain ⟨_, h609, hm⟩ := bindS hm
    refine D_drawS ((g10, Cl 170 [.string (x12), .int .i64 (x13), .int .i64 (x14), .int .i64 (x15), .int .i64 (x16), .int .i64 (x17), .int .i64 (x18), .int .i64 (x19), .int .i64 (x20), .int .i64 (x21), .slice A22 (l25).length c23, .slice A3 (l28).length c4, .int .i64 (x26), .int .i64 (x27), .map (some g8)]) :: (g580, Cl 82 [.int .i64 (s11.At), .int .i64 (s11.Speed), .int .i64 (s11.Work)]) :: (g581, Cl 82 [.int .i64 (0), .int .i64 (0), .int .i64 (0)]) :: (hs2 ++ (hs7 ++ R))) mixed ?_
    refine D_st (Base.Le.refl _) 0 rfl (by kernel_rfl) (by kernel_rfl) (by kernel_rfl) rfl (st_move rfl) (.cons_cons _ (.cons_cons _ (.cons_cons _ (sub_app hs2 (sub_app hs7 (.refl _)))))) ?_
    refine D_st (Base.Le.refl _) 1 rfl (by kernel_rfl) (by kernel_rfl) (by kernel_rfl) rfl (st_move rfl) (.cons_cons _ (.cons_cons _ (.cons_cons _ (sub_app hs2 (sub_app hs7 (.refl _)))))) ?_
    refine D_st (Base.Le.refl _) 2 rfl (by kernel_rfl) (by kernel_rfl) (by kernel_rfl) rfl (st_nil rfl) (.cons_cons _ (.cons_cons _ (.cons_cons _ (sub_app hs2 (sub_app hs7 (.refl _)))))) ?_
    refine D_st (Base.Le.refl _) 3 rfl (by kernel_rfl) (by kernel_rfl) (by kernel_rfl) rfl (st_field rfl fld170_0) (.cons_cons _ (.cons_cons _ (.cons_cons _ (sub_app hs2 (sub_app hs7 (.refl _)))))) ?_
    refine D_st (Base.Le.refl _) 4 rfl (by kernel_rfl) (by kernel_rfl) (by kernel_rfl) rfl (st_loadD (vs := [_, _, _, _, _, _, _, _, _, _]) 0 10 rfl agg43 rfl rfl rfl) (.cons_cons _ (.cons_cons _ (.cons_cons _ (sub_app hs2 (sub_app hs7 (.refl _)))))) ?_
    refine D_st (Base.Le.refl _) 5 rfl (by kernel_rfl) (by kernel_rfl) (by kernel_rfl) rfl (st_move rfl) (.cons_cons _ (.cons_cons _ (.cons_cons _ (sub_app hs2 (sub_app hs7 (.refl _)))))) ?_
    refine D_st (Base.Le.refl _) 6 rfl (by kernel_rfl) (by kernel_rfl) (by kernel_rfl) rfl (st_move rfl) (.cons_cons _ (.cons_cons _ (.cons_cons _ (sub_app hs2 (sub_app hs7 (.refl _)))))) ?_
    refine D_st (Base.Le.refl _) 9 rfl (by kernel_rfl) (by kernel_rfl) (by kernel_rfl) rfl (st_move rfl) (.cons_cons _ (.cons_cons _ (.cons_cons _ (sub_app hs2 (sub_app hs7 (.refl _)))))) ?_
    refine D_st (Base.Le.refl _) 10 rfl (by kernel_rfl) (by kernel_rfl) (by kernel_rfl) rfl (st_nil rfl) (.cons_cons _ (.cons_cons _ (.cons_cons _ (sub_app hs2 (sub_app hs7 (.refl _)))))) ?_
    refine D_st (Base.Le.refl _) 11 rfl (by kernel_rfl) (by kernel_rfl) (by kernel_rfl) rfl (st_field rfl fld170_4) (.cons_cons _ (.cons_cons _ (.cons_cons _ (sub_app hs2 (sub_app hs7 (.refl _)))))) ?_
    refine D_st (Base.Le.refl _) 12 rfl (by kernel_rfl) (by kernel_rfl) (by kernel_rfl) rfl (st_load 0 rfl one3 rfl rfl) (.cons_cons _ (.cons_cons _ (.cons_cons _ (sub_app hs2 (sub_app hs7 (.refl _)))))) ?_
    refine D_all [7] (by kernel_rfl) rfl ?_
    refine R_do (Base.Le.refl _) rfl rfl (u_callW0 _ call96 rfl (fun w ho => cRunGain _ [] (⟨x12, x13, x14, x15, x16, x17, x18, x19, x20, x21⟩ : ApiStock) s11.Speed x592 x607 hcl608) (fun _ _ _ h => h.2.symm)) ?_ ?_
    ·
      rintro _ _ ⟨⟨_, rfl, _⟩, rfl⟩
      refine ⟨.inr (.cons_cons _ (.cons_cons _ (.cons_cons _ (sub_app hs2 (sub_app hs7 (.refl _)))))), ?_⟩
      have h609 := (chk_some h609).2
      refine D_st (Base.Le.refl _) 8 rfl (by kernel_rfl) (by kernel_rfl) (by kernel_rfl) rfl (st_add rfl rfl h609) (.cons_cons _ (.cons_cons _ (.cons_cons _ (sub_app hs2 (sub_app hs7 (.refl _)))))) ?_
      refine D_st (Base.Le.refl _) 13 rfl (by kernel_rfl) (by kernel_rfl) (by kernel_rfl) rfl (st_min rfl rfl) (.cons_cons _ (.cons_cons _ (.cons_cons _ (sub_app hs2 (sub_app hs7 (.refl _)))))) ?_
      refine D_st (Base.Le.refl _) 14 rfl (by kernel_rfl) (by kernel_rfl) (by kernel_rfl) rfl (st_assign rfl) (.cons_cons _ (.cons_cons _ (.cons_cons _ (sub_app hs2 (sub_app hs7 (.refl _)))))) ?_
      refine D_done (by kernel_rfl) ?_
      refine x_then_normal ?_
      obtain ⟨⟨x832, l833⟩, hj834, hk834⟩ := bindS hm
      refine c_join (fun b826 e' hp' => ∃ (g830 : Nat), ∃ (hs829 : Hp), [(0, .pointer (some ⟨g10, 0, none⟩)), (3, .pointer (some ⟨g580, 0, none⟩)), (4, .pointer (some ⟨g581, 0, none⟩)), (5, .int .i64 (s11.Speed)), (6, .int .i64 (x592)), (7, .int .i64 (max 0 (s11.Speed - (x19 + x592)))), (8, .int .i64 (x832))] = e' ∧ (g10, Cl 170 [.string (x12), .int .i64 (x13), .int .i64 (x14), .int .i64 (x15), .int .i64 (x16), .int .i64 (x17), .int .i64 (x18), .int .i64 (x19), .int .i64 (x20), .int .i64 (x21), .slice A22 (l25).length c23, .slice A3 (l28).length c4, .int .i64 (x26), .int .i64 (x27), .map (some g830)]) :: (g580, Cl 82 [.int .i64 (s11.At), .int .i64 (s11.Speed), .int .i64 (s11.Work)]) :: (g581, Cl 82 [.int .i64 (0), .int .i64 (0), .int .i64 (0)]) :: (hs2 ++ (hs829 ++ R)) = hp' ∧ b590.Le b826 ∧ OM (RT.int .i64) (OT.list 3 (OT.fr (RT.int .i64))) false false b826.w g830 l833 hs829) ?_ ?_
      ·
        have hm := hj834
        refine c_block ?_
        refine c_pullb 2 rfl ?_
        refine c_pullb 2 rfl ?_
        refine c_pullb 2 rfl ?_
        refine c_front2 [_, _, _] hs2 hs7 R rfl ?_
        refine c_front2 [_, _, _] hs7 hs2 R rfl ?_
        refine c_loopM (unc2 fun x982 l983 => fun b976 e' hp' => ∃ (g980 : Nat), ∃ (hs979 : Hp), [(0, .pointer (some ⟨g10, 0, none⟩)), (3, .pointer (some ⟨g580, 0, none⟩)), (4, .pointer (some ⟨g581, 0, none⟩)), (5, .int .i64 (s11.Speed)), (6, .int .i64 (x592)), (7, .int .i64 (max 0 (s11.Speed - (x19 + x592)))), (8, .int .i64 (x982))] = e' ∧ (g10, Cl 170 [.string (x12), .int .i64 (x13), .int .i64 (x14), .int .i64 (x15), .int .i64 (x16), .int .i64 (x17), .int .i64 (x18), .int .i64 (x19), .int .i64 (x20), .int .i64 (x21), .slice A22 (l25).length c23, .slice A3 (l28).length c4, .int .i64 (x26), .int .i64 (x27), .map (some g980)]) :: (g580, Cl 82 [.int .i64 (s11.At), .int .i64 (s11.Speed), .int .i64 (s11.Work)]) :: (g581, Cl 82 [.int .i64 (0), .int .i64 (0), .int .i64 (0)]) :: (hs2 ++ (hs979 ++ R)) = hp' ∧ b590.Le b976 ∧ OM (RT.int .i64) (OT.list 3 (OT.fr (RT.int .i64))) false false b976.w g980 l983 hs979) hm (e' := [(0, .pointer (some ⟨g10, 0, none⟩)), (3, .pointer (some ⟨g580, 0, none⟩)), (4, .pointer (some ⟨g581, 0, none⟩)), (5, .int .i64 (s11.Speed)), (6, .int .i64 (x592)), (7, .int .i64 (max 0 (s11.Speed - (x19 + x592)))), (8, .int .i64 (min (s11.Speed + x607) x27))]) (hp' := (g10, Cl 170 [.string (x12), .int .i64 (x13), .int .i64 (x14), .int .i64 (x15), .int .i64 (x16), .int .i64 (x17), .int .i64 (x18), .int .i64 (x19), .int .i64 (x20), .int .i64 (x21), .slice A22 (l25).length c23, .slice A3 (l28).length c4, .int .i64 (x26), .int .i64 (x27), .map (some g8)]) :: (g580, Cl 82 [.int .i64 (s11.At), .int .i64 (s11.Speed), .int .i64 (s11.Work)]) :: (g581, Cl 82 [.int .i64 (0), .int .i64 (0), .int .i64 (0)]) :: (hs2 ++ (hs7 ++ R))) ⟨rfl, rfl, rfl, rfl, rfl, rfl, rfl, trivial⟩ (.cons_cons _ (.cons_cons _ (.cons_cons _ (sub_app hs2 (sub_app hs7 (.refl _)))))) ⟨g8, hs7, rfl, rfl, (Base.Le.refl _), (h9.le hle591)⟩ ?_
        rintro ⟨x982, l983⟩ b976 _ _ oL835 ⟨g980, hs979, rfl, rfl, hle977, h981⟩ hstepL835 houtL835
        unfold mRunRunnerSecond_L835 at hstepL835
        have hm := (unc2E hstepL835)
        refine c_seq ?_
        obtain ⟨⟨x1018, l1019⟩, hj1020, hk1020⟩ := bindS hm
        refine c_join (fun b1012 e' hp' => ∃ (g1016 : Nat), ∃ (hs1015 : Hp), [(0, .pointer (some ⟨g10, 0, none⟩)), (3, .pointer (some ⟨g580, 0, none⟩)), (4, .pointer (some ⟨g581, 0, none⟩)), (5, .int .i64 (s11.Speed)), (6, .int .i64 (x592)), (7, .int .i64 (max 0 (s11.Speed - (x19 + x592)))), (8, .int .i64 (x982)), (64, .bool (x1018))] = e' ∧ (g10, Cl 170 [.string (x12), .int .i64 (x13), .int .i64 (x14), .int .i64 (x15), .int .i64 (x16), .int .i64 (x17), .int .i64 (x18), .int .i64 (x19), .int .i64 (x20), .int .i64 (x21), .slice A22 (l25).length c23, .slice A3 (l28).length c4, .int .i64 (x26), .int .i64 (x27), .map (some g1016)]) :: (g580, Cl 82 [.int .i64 (s11.At), .int .i64 (s11.Speed), .int .i64 (s11.Work)]) :: (g581, Cl 82 [.int .i64 (0), .int .i64 (0), .int .i64 (0)]) :: (hs2 ++ (hs1015 ++ R)) = hp' ∧ b976.Le b1012 ∧ OM (RT.int .i64) (OT.list 3 (OT.fr (RT.int .i64))) false false b1012.w g1016 l1019 hs1015) ?_ ?_
        ·
          have hm := hj1020
          by_cases hc1035 : (max 0 (s11.Speed - (x19 + x592))) ≤ x982
          ·
            rw [if_pos hc1035] at hm
            obtain ⟨_, h1036, hm⟩ := bindS hm
            obtain ⟨_, h1037, hm⟩ := bindS hm
            obtain ⟨x1038, hcl1039, hm⟩ := bindS hm
            obtain ⟨_, h1040, hm⟩ := bindS hm
            obtain ⟨⟨x1041, l1042⟩, hcl1043, hm⟩ := bindS hm
            have hm := (unc2E hm)
            refine D_drawS ((g580, Cl 82 [.int .i64 (s11.At), .int .i64 (s11.Speed), .int .i64 (s11.Work)]) :: (g581, Cl 82 [.int .i64 (0), .int .i64 (0), .int .i64 (0)]) :: R) mixed ?_
            refine D_st (Base.Le.refl _) 0 rfl (by kernel_rfl) (by kernel_rfl) (by kernel_rfl) rfl (st_move rfl) (.cons _ (.cons_cons _ (.cons_cons _ (sub_skip hs2 (sub_skip hs979 (.refl _)))))) ?_
            refine D_st (Base.Le.refl _) 1 rfl (by kernel_rfl) (by kernel_rfl) (by kernel_rfl) rfl (st_move rfl) (.cons _ (.cons_cons _ (.cons_cons _ (sub_skip hs2 (sub_skip hs979 (.refl _)))))) ?_
            refine D_st (Base.Le.refl _) 2 rfl (by kernel_rfl) (by kernel_rfl) (by kernel_rfl) rfl (st_geq_t rfl rfl hc1035) (.cons _ (.cons_cons _ (.cons_cons _ (sub_skip hs2 (sub_skip hs979 (.refl _)))))) ?_
            refine D_st (Base.Le.refl _) 3 rfl (by kernel_rfl) (by kernel_rfl) (by kernel_rfl) rfl (st_move rfl) (.cons _ (.cons_cons _ (.cons_cons _ (sub_skip hs2 (sub_skip hs979 (.refl _)))))) ?_
            refine D_yes (Base.Le.refl _) 4 44 rfl (by kernel_rfl) (by kernel_rfl) (by kernel_rfl) rfl rfl rfl rfl (st_move rfl) (.cons _ (.cons_cons _ (.cons_cons _ (sub_skip hs2 (sub_skip hs979 (.refl _)))))) ?_
            refine D_yes (Base.Le.refl _) 5 44 rfl (by kernel_rfl) (by kernel_rfl) (by kernel_rfl) rfl rfl rfl rfl (st_field rfl fld82_0) (.cons _ (.cons_cons _ (.cons_cons _ (sub_skip hs2 (sub_skip hs979 (.refl _)))))) ?_
            refine D_yes (Base.Le.refl _) 6 44 rfl (by kernel_rfl) (by kernel_rfl) (by kernel_rfl) rfl rfl rfl rfl (st_load 0 rfl one3 rfl rfl) (.cons _ (.cons_cons _ (.cons_cons _ (sub_skip hs2 (sub_skip hs979 (.refl _)))))) ?_
            refine D_yes (Base.Le.refl _) 7 44 rfl (by kernel_rfl) (by kernel_rfl) (by kernel_rfl) rfl rfl rfl rfl (st_move rfl) (.cons _ (.cons_cons _ (.cons_cons _ (sub_skip hs2 (sub_skip hs979 (.refl _)))))) ?_
            refine D_yes (Base.Le.refl _) 8 44 rfl (by kernel_rfl) (by kernel_rfl) (by kernel_rfl) rfl rfl rfl rfl (st_nil rfl) (.cons _ (.cons_cons _ (.cons_cons _ (sub_skip hs2 (sub_skip hs979 (.refl _)))))) ?_
            refine D_yes (Base.Le.refl _) 9 44 rfl (by kernel_rfl) (by kernel_rfl) (by kernel_rfl) rfl rfl rfl rfl (st_field rfl fld170_0) (.cons _ (.cons_cons _ (.cons_cons _ (sub_skip hs2 (sub_skip hs979 (.refl _)))))) ?_
            refine D_yes (Base.Le.refl _) 10 44 rfl (by kernel_rfl) (by kernel_rfl) (by kernel_rfl) rfl rfl rfl rfl (st_field rfl fld43_1) (.cons _ (.cons_cons _ (.cons_cons _ (sub_skip hs2 (sub_skip hs979 (.refl _)))))) ?_
            refine D_yes (Base.Le.refl _) 14 44 rfl (by kernel_rfl) (by kernel_rfl) (by kernel_rfl) rfl rfl rfl rfl (st_field rfl fld82_0) (.cons _ (.cons_cons _ (.cons_cons _ (sub_skip hs2 (sub_skip hs979 (.refl _)))))) ?_
            refine D_yes (Base.Le.refl _) 15 44 rfl (by kernel_rfl) (by kernel_rfl) (by kernel_rfl) rfl rfl rfl rfl (st_load 0 rfl one3 rfl rfl) (.cons _ (.cons_cons _ (.cons_cons _ (sub_skip hs2 (sub_skip hs979 (.refl _)))))) ?_
            refine D_yes (Base.Le.refl _) 16 44 rfl (by kernel_rfl) (by kernel_rfl) (by kernel_rfl) rfl rfl rfl rfl (st_move rfl) (.cons _ (.cons_cons _ (.cons_cons _ (sub_skip hs2 (sub_skip hs979 (.refl _)))))) ?_
            refine D_yes (Base.Le.refl _) 17 44 rfl (by kernel_rfl) (by kernel_rfl) (by kernel_rfl) rfl rfl rfl rfl (st_move rfl) (.cons _ (.cons_cons _ (.cons_cons _ (sub_skip hs2 (sub_skip hs979 (.refl _)))))) ?_
            refine D_yes (Base.Le.refl _) 20 44 rfl (by kernel_rfl) (by kernel_rfl) (by kernel_rfl) rfl rfl rfl rfl (st_move rfl) (.cons _ (.cons_cons _ (.cons_cons _ (sub_skip hs2 (sub_skip hs979 (.refl _)))))) ?_
            refine D_all [11, 18] (by kernel_rfl) rfl ?_
            refine R_doY (Base.Le.refl _) rfl rfl 44 rfl rfl rfl (Stable.does (st_load 0 rfl one3 rfl rfl)) ?_ ?_
            ·
              rintro _ _ ⟨rfl, rfl⟩
              refine ⟨.inr (.cons _ (.cons_cons _ (.cons_cons _ (sub_skip hs2 (sub_skip hs979 (.refl _)))))), ?_⟩
              have h1036 := (chk_some h1036).2
              refine D_yes (Base.Le.refl _) 12 44 rfl (by kernel_rfl) (by kernel_rfl) (by kernel_rfl) rfl rfl rfl rfl (st_mul rfl rfl h1036) (.cons _ (.cons_cons _ (.cons_cons _ (sub_skip hs2 (sub_skip hs979 (.refl _)))))) ?_
              have h1037 := (chk_some h1037).2
              refine D_yes (Base.Le.refl _) 13 44 rfl (by kernel_rfl) (by kernel_rfl) (by kernel_rfl) rfl rfl rfl rfl (st_sub rfl rfl h1037) (.cons _ (.cons_cons _ (.cons_cons _ (sub_skip hs2 (sub_skip hs979 (.refl _)))))) ?_
              refine D_all [18] (by kernel_rfl) rfl ?_
              refine R_doY (Base.Le.refl _) rfl rfl 44 rfl rfl rfl (u_callW0 _ call84 rfl (fun w ho => cRunGone _ [] s11.Speed x982 x1038 hcl1039) (fun _ _ _ h => h.2.symm)) ?_ ?_
              ·
                rintro _ _ ⟨⟨_, rfl, _⟩, rfl⟩
                refine ⟨.inr (.cons _ (.cons_cons _ (.cons_cons _ (sub_skip hs2 (sub_skip hs979 (.refl _)))))), ?_⟩
                have h1040 := (chk_some h1040).2
                refine D_yes (Base.Le.refl _) 19 44 rfl (by kernel_rfl) (by kernel_rfl) (by kernel_rfl) rfl rfl rfl rfl (st_add rfl rfl h1040) (.cons _ (.cons_cons _ (.cons_cons _ (sub_skip hs2 (sub_skip hs979 (.refl _)))))) ?_
                refine d_front2 [_, _, _] hs2 hs979 R rfl ?_
                refine d_front2 [_, _, _] hs979 hs2 R rfl ?_
                refine d_out2 [_] [_, _] hs2 hs979 R rfl ?_
                refine D_all [21] (by kernel_rfl) rfl ?_
                refine R_callGlY (Base.Le.refl _) rfl rfl 44 rfl rfl rfl _ call97 rfl (cRunRunnerMay _ _ (s11.At - (100 * x13)) (s11.At + x1038) x982 x12 x13 x14 x15 x16 x17 x18 x19 x20 x21 l25 x26 x27 l28 l983 g10 A22 c23 A3 c4 hs2 g980 hs979 (h24.le (hle591.trans hle977)) (h5.le (hle591.trans hle977)) h981 x1041 l1042 hcl1043) ?_ ?_
                ·
                  rintro _ b1044 _ hle1045 ⟨g1046, hs1047, rfl, rfl, h1048⟩
                  refine ⟨.inr (.cons _ (sub_skip hs2 (sub_skip hs1047 (.cons_cons _ (.cons_cons _ (.refl _)))))), ?_⟩
                  refine d_in2 [_] [_, _] hs2 hs1047 R rfl ?_
                  refine D_yes hle1045 22 44 rfl (by kernel_rfl) (by kernel_rfl) (by kernel_rfl) rfl rfl rfl rfl (st_not rfl) (.cons _ (.cons_cons _ (.cons_cons _ (sub_skip hs2 (sub_skip hs1047 (.refl _)))))) ?_
                  refine D_st hle1045 23 rfl (by kernel_rfl) (by kernel_rfl) (by kernel_rfl) rfl (st_pick_t rfl rfl) (.cons _ (.cons_cons _ (.cons_cons _ (sub_skip hs2 (sub_skip hs1047 (.refl _)))))) ?_
                  refine D_done (by kernel_rfl) ?_
                  obtain ⟨rfl, rfl⟩ := some2 hm
                  refine x_pullb 2 rfl ?_
                  refine x_pullb 2 rfl ?_
                  refine x_pullb 2 rfl ?_
                  refine x_front2 [_, _, _] hs2 hs1047 R rfl ?_
                  refine x_front2 [_, _, _] hs1047 hs2 R rfl ?_
                  exact x_join (e' := [(0, .pointer (some ⟨g10, 0, none⟩)), (3, .pointer (some ⟨g580, 0, none⟩)), (4, .pointer (some ⟨g581, 0, none⟩)), (5, .int .i64 (s11.Speed)), (6, .int .i64 (x592)), (7, .int .i64 (max 0 (s11.Speed - (x19 + x592)))), (8, .int .i64 (x982)), (64, .bool (!x1041))]) (hp' := (g10, Cl 170 [.string (x12), .int .i64 (x13), .int .i64 (x14), .int .i64 (x15), .int .i64 (x16), .int .i64 (x17), .int .i64 (x18), .int .i64 (x19), .int .i64 (x20), .int .i64 (x21), .slice A22 (l25).length c23, .slice A3 (l28).length c4, .int .i64 (x26), .int .i64 (x27), .map (some g1046)]) :: (g580, Cl 82 [.int .i64 (s11.At), .int .i64 (s11.Speed), .int .i64 (s11.Work)]) :: (g581, Cl 82 [.int .i64 (0), .int .i64 (0), .int .i64 (0)]) :: (hs2 ++ (hs1047 ++ R))) ⟨rfl, rfl, rfl, rfl, rfl, rfl, rfl, rfl, trivial⟩ (.cons_cons _ (.cons_cons _ (.cons_cons _ (sub_app hs2 (sub_app hs1047 (.refl _)))))) ⟨g1046, hs1047, rfl, rfl, hle1045, h1048⟩
                exact R_nil
              exact R_nil
            refine R_doY (Base.Le.refl _) rfl rfl 44 rfl rfl rfl (u_callW0 _ call84 rfl (fun w ho => cRunGone _ [] s11.Speed x982 x1038 hcl1039) (fun _ _ _ h => h.2.symm)) ?_ ?_
            ·
              rintro _ _ ⟨⟨_, rfl, _⟩, rfl⟩
              refine ⟨.inr (.cons _ (.cons_cons _ (.cons_cons _ (sub_skip hs2 (sub_skip hs979 (.refl _)))))), ?_⟩
              have h1040 := (chk_some h1040).2
              refine D_yes (Base.Le.refl _) 19 44 rfl (by kernel_rfl) (by kernel_rfl) (by kernel_rfl) rfl rfl rfl rfl (st_add rfl rfl h1040) (.cons _ (.cons_cons _ (.cons_cons _ (sub_skip hs2 (sub_skip hs979 (.refl _)))))) ?_
              refine D_all [11] (by kernel_rfl) rfl ?_
              refine R_doY (Base.Le.refl _) rfl rfl 44 rfl rfl rfl (Stable.does (st_load 0 rfl one3 rfl rfl)) ?_ ?_
              ·
                rintro _ _ ⟨rfl, rfl⟩
                refine ⟨.inr (.cons _ (.cons_cons _ (.cons_cons _ (sub_skip hs2 (sub_skip hs979 (.refl _)))))), ?_⟩
                have h1036 := (chk_some h1036).2
                refine D_yes (Base.Le.refl _) 12 44 rfl (by kernel_rfl) (by kernel_rfl) (by kernel_rfl) rfl rfl rfl rfl (st_mul rfl rfl h1036) (.cons _ (.cons_cons _ (.cons_cons _ (sub_skip hs2 (sub_skip hs979 (.refl _)))))) ?_
                have h1037 := (chk_some h1037).2
                refine D_yes (Base.Le.refl _) 13 44 rfl (by kernel_rfl) (by kernel_rfl) (by kernel_rfl) rfl rfl rfl rfl (st_sub rfl rfl h1037) (.cons _ (.cons_cons _ (.cons_cons _ (sub_skip hs2 (sub_skip hs979 (.refl _)))))) ?_
                refine d_front2 [_, _, _] hs2 hs979 R rfl ?_
                refine d_front2 [_, _, _] hs979 hs2 R rfl ?_
                refine d_out2 [_] [_, _] hs2 hs979 R rfl ?_
                refine D_all [21] (by kernel_rfl) rfl ?_
                refine R_callGlY (Base.Le.refl _) rfl rfl 44 rfl rfl rfl _ call97 rfl (cRunRunnerMay _ _ (s11.At - (100 * x13)) (s11.At + x1038) x982 x12 x13 x14 x15 x16 x17 x18 x19 x20 x21 l25 x26 x27 l28 l983 g10 A22 c23 A3 c4 hs2 g980 hs979 (h24.le (hle591.trans hle977)) (h5.le (hle591.trans hle977)) h981 x1041 l1042 hcl1043) ?_ ?_
                ·
                  rintro _ b1044 _ hle1045 ⟨g1046, hs1047, rfl, rfl, h1048⟩
                  refine ⟨.inr (.cons _ (sub_skip hs2 (sub_skip hs1047 (.cons_cons _ (.cons_cons _ (.refl _)))))), ?_⟩
                  refine d_in2 [_] [_, _] hs2 hs1047 R rfl ?_
                  refine D_yes hle1045 22 44 rfl (by kernel_rfl) (by kernel_rfl) (by kernel_rfl) rfl rfl rfl rfl (st_not rfl) (.cons _ (.cons_cons _ (.cons_cons _ (sub_skip hs2 (sub_skip hs1047 (.refl _)))))) ?_
                  refine D_st hle1045 23 rfl (by kernel_rfl) (by kernel_rfl) (by kernel_rfl) rfl (st_pick_t rfl rfl) (.cons _ (.cons_cons _ (.cons_cons _ (sub_skip hs2 (sub_skip hs1047 (.refl _)))))) ?_
                  refine D_done (by kernel_rfl) ?_
                  obtain ⟨rfl, rfl⟩ := some2 hm
                  refine x_pullb 2 rfl ?_
                  refine x_pullb 2 rfl ?_
                  refine x_pullb 2 rfl ?_
                  refine x_front2 [_, _, _] hs2 hs1047 R rfl ?_
                  refine x_front2 [_, _, _] hs1047 hs2 R rfl ?_
                  exact x_join (e' := [(0, .pointer (some ⟨g10, 0, none⟩)), (3, .pointer (some ⟨g580, 0, none⟩)), (4, .pointer (some ⟨g581, 0, none⟩)), (5, .int .i64 (s11.Speed)), (6, .int .i64 (x592)), (7, .int .i64 (max 0 (s11.Speed - (x19 + x592)))), (8, .int .i64 (x982)), (64, .bool (!x1041))]) (hp' := (g10, Cl 170 [.string (x12), .int .i64 (x13), .int .i64 (x14), .int .i64 (x15), .int .i64 (x16), .int .i64 (x17), .int .i64 (x18), .int .i64 (x19), .int .i64 (x20), .int .i64 (x21), .slice A22 (l25).length c23, .slice A3 (l28).length c4, .int .i64 (x26), .int .i64 (x27), .map (some g1046)]) :: (g580, Cl 82 [.int .i64 (s11.At), .int .i64 (s11.Speed), .int .i64 (s11.Work)]) :: (g581, Cl 82 [.int .i64 (0), .int .i64 (0), .int .i64 (0)]) :: (hs2 ++ (hs1047 ++ R))) ⟨rfl, rfl, rfl, rfl, rfl, rfl, rfl, rfl, trivial⟩ (.cons_cons _ (.cons_cons _ (.cons_cons _ (sub_app hs2 (sub_app hs1047 (.refl _)))))) ⟨g1046, hs1047, rfl, rfl, hle1045, h1048⟩
                exact R_nil
              exact R_nil
            exact R_nil
          ·
            rw [if_neg hc1035] at hm
            refine D_drawS ((g10, Cl 170 [.string (x12), .int .i64 (x13), .int .i64 (x14), .int .i64 (x15), .int .i64 (x16), .int .i64 (x17), .int .i64 (x18), .int .i64 (x19), .int .i64 (x20), .int .i64 (x21), .slice A22 (l25).length c23, .slice A3 (l28).length c4, .int .i64 (x26), .int .i64 (x27), .map (some g980)]) :: (g580, Cl 82 [.int .i64 (s11.At), .int .i64 (s11.Speed), .int .i64 (s11.Work)]) :: (g581, Cl 82 [.int .i64 (0), .int .i64 (0), .int .i64 (0)]) :: (hs2 ++ (hs979 ++ R))) mixed ?_
            refine D_st (Base.Le.refl _) 0 rfl (by kernel_rfl) (by kernel_rfl) (by kernel_rfl) rfl (st_move rfl) (.cons_cons _ (.cons_cons _ (.cons_cons _ (sub_app hs2 (sub_app hs979 (.refl _)))))) ?_
            refine D_st (Base.Le.refl _) 1 rfl (by kernel_rfl) (by kernel_rfl) (by kernel_rfl) rfl (st_move rfl) (.cons_cons _ (.cons_cons _ (.cons_cons _ (sub_app hs2 (sub_app hs979 (.refl _)))))) ?_
            refine D_st (Base.Le.refl _) 2 rfl (by kernel_rfl) (by kernel_rfl) (by kernel_rfl) rfl (st_geq_f rfl rfl hc1035) (.cons_cons _ (.cons_cons _ (.cons_cons _ (sub_app hs2 (sub_app hs979 (.refl _)))))) ?_
            refine D_st (Base.Le.refl _) 3 rfl (by kernel_rfl) (by kernel_rfl) (by kernel_rfl) rfl (st_move rfl) (.cons_cons _ (.cons_cons _ (.cons_cons _ (sub_app hs2 (sub_app hs979 (.refl _)))))) ?_
            refine D_no (Base.Le.refl _) 4 44 rfl (by kernel_rfl) (by kernel_rfl) (by kernel_rfl) rfl rfl rfl rfl rfl (.cons_cons _ (.cons_cons _ (.cons_cons _ (sub_app hs2 (sub_app hs979 (.refl _)))))) ?_
            refine D_no (Base.Le.refl _) 5 44 rfl (by kernel_rfl) (by kernel_rfl) (by kernel_rfl) rfl rfl rfl rfl rfl (.cons_cons _ (.cons_cons _ (.cons_cons _ (sub_app hs2 (sub_app hs979 (.refl _)))))) ?_
            refine D_no (Base.Le.refl _) 6 44 rfl (by kernel_rfl) (by kernel_rfl) (by kernel_rfl) rfl rfl rfl rfl rfl (.cons_cons _ (.cons_cons _ (.cons_cons _ (sub_app hs2 (sub_app hs979 (.refl _)))))) ?_
            refine D_no (Base.Le.refl _) 7 44 rfl (by kernel_rfl) (by kernel_rfl) (by kernel_rfl) rfl rfl rfl rfl rfl (.cons_cons _ (.cons_cons _ (.cons_cons _ (sub_app hs2 (sub_app hs979 (.refl _)))))) ?_
            refine D_no (Base.Le.refl _) 8 44 rfl (by kernel_rfl) (by kernel_rfl) (by kernel_rfl) rfl rfl rfl rfl rfl (.cons_cons _ (.cons_cons _ (.cons_cons _ (sub_app hs2 (sub_app hs979 (.refl _)))))) ?_
            refine D_no (Base.Le.refl _) 9 44 rfl (by kernel_rfl) (by kernel_rfl) (by kernel_rfl) rfl rfl rfl rfl rfl (.cons_cons _ (.cons_cons _ (.cons_cons _ (sub_app hs2 (sub_app hs979 (.refl _)))))) ?_
            refine D_no (Base.Le.refl _) 10 44 rfl (by kernel_rfl) (by kernel_rfl) (by kernel_rfl) rfl rfl rfl rfl rfl (.cons_cons _ (.cons_cons _ (.cons_cons _ (sub_app hs2 (sub_app hs979 (.refl _)))))) ?_
            refine D_no (Base.Le.refl _) 11 44 rfl (by kernel_rfl) (by kernel_rfl) (by kernel_rfl) rfl rfl rfl rfl rfl (.cons_cons _ (.cons_cons _ (.cons_cons _ (sub_app hs2 (sub_app hs979 (.refl _)))))) ?_
            refine D_no (Base.Le.refl _) 12 44 rfl (by kernel_rfl) (by kernel_rfl) (by kernel_rfl) rfl rfl rfl rfl rfl (.cons_cons _ (.cons_cons _ (.cons_cons _ (sub_app hs2 (sub_app hs979 (.refl _)))))) ?_
            refine D_no (Base.Le.refl _) 13 44 rfl (by kernel_rfl) (by kernel_rfl) (by kernel_rfl) rfl rfl rfl rfl rfl (.cons_cons _ (.cons_cons _ (.cons_cons _ (sub_app hs2 (sub_app hs979 (.refl _)))))) ?_
            refine D_no (Base.Le.refl _) 14 44 rfl (by kernel_rfl) (by kernel_rfl) (by kernel_rfl) rfl rfl rfl rfl rfl (.cons_cons _ (.cons_cons _ (.cons_cons _ (sub_app hs2 (sub_app hs979 (.refl _)))))) ?_
            refine D_no (Base.Le.refl _) 15 44 rfl (by kernel_rfl) (by kernel_rfl) (by kernel_rfl) rfl rfl rfl rfl rfl (.cons_cons _ (.cons_cons _ (.cons_cons _ (sub_app hs2 (sub_app hs979 (.refl _)))))) ?_
            refine D_no (Base.Le.refl _) 16 44 rfl (by kernel_rfl) (by kernel_rfl) (by kernel_rfl) rfl rfl rfl rfl rfl (.cons_cons _ (.cons_cons _ (.cons_cons _ (sub_app hs2 (sub_app hs979 (.refl _)))))) ?_
            refine D_no (Base.Le.refl _) 17 44 rfl (by kernel_rfl) (by kernel_rfl) (by kernel_rfl) rfl rfl rfl rfl rfl (.cons_cons _ (.cons_cons _ (.cons_cons _ (sub_app hs2 (sub_app hs979 (.refl _)))))) ?_
            refine D_no (Base.Le.refl _) 18 44 rfl (by kernel_rfl) (by kernel_rfl) (by kernel_rfl) rfl rfl rfl rfl rfl (.cons_cons _ (.cons_cons _ (.cons_cons _ (sub_app hs2 (sub_app hs979 (.refl _)))))) ?_
            refine D_no (Base.Le.refl _) 19 44 rfl (by kernel_rfl) (by kernel_rfl) (by kernel_rfl) rfl rfl rfl rfl rfl (.cons_cons _ (.cons_cons _ (.cons_cons _ (sub_app hs2 (sub_app hs979 (.refl _)))))) ?_
            refine D_no (Base.Le.refl _) 20 44 rfl (by kernel_rfl) (by kernel_rfl) (by kernel_rfl) rfl rfl rfl rfl rfl (.cons_cons _ (.cons_cons _ (.cons_cons _ (sub_app hs2 (sub_app hs979 (.refl _)))))) ?_
            refine D_no (Base.Le.refl _) 21 44 rfl (by kernel_rfl) (by kernel_rfl) (by kernel_rfl) rfl rfl rfl rfl rfl (.cons_cons _ (.cons_cons _ (.cons_cons _ (sub_app hs2 (sub_app hs979 (.refl _)))))) ?_
            refine D_no (Base.Le.refl _) 22 44 rfl (by kernel_rfl) (by kernel_rfl) (by kernel_rfl) rfl rfl rfl rfl rfl (.cons_cons _ (.cons_cons _ (.cons_cons _ (sub_app hs2 (sub_app hs979 (.refl _)))))) ?_
            refine D_st (Base.Le.refl _) 23 rfl (by kernel_rfl) (by kernel_rfl) (by kernel_rfl) rfl (st_pick_f rfl rfl) (.cons_cons _ (.cons_cons _ (.cons_cons _ (sub_app hs2 (sub_app hs979 (.refl _)))))) ?_
            refine D_done (by kernel_rfl) ?_
            obtain ⟨rfl, rfl⟩ := some2 hm
            refine x_pullb 2 rfl ?_
            refine x_pullb 2 rfl ?_
            refine x_pullb 2 rfl ?_
            refine x_front2 [_, _, _] hs2 hs979 R rfl ?_
            refine x_front2 [_, _, _] hs979 hs2 R rfl ?_
            exact x_join (e' := [(0, .pointer (some ⟨g10, 0, none⟩)), (3, .pointer (some ⟨g580, 0, none⟩)), (4, .pointer (some ⟨g581, 0, none⟩)), (5, .int .i64 (s11.Speed)), (6, .int .i64 (x592)), (7, .int .i64 (max 0 (s11.Speed - (x19 + x592)))), (8, .int .i64 (x982)), (64, .bool (false))]) (hp' := (g10, Cl 170 [.string (x12), .int .i64 (x13), .int .i64 (x14), .int .i64 (x15), .int .i64 (x16), .int .i64 (x17), .int .i64 (x18), .int .i64 (x19), .int .i64 (x20), .int .i64 (x21), .slice A22 (l25).length c23, .slice A3 (l28).length c4, .int .i64 (x26), .int .i64 (x27), .map (some g980)]) :: (g580, Cl 82 [.int .i64 (s11.At), .int .i64 (s11.Speed), .int .i64 (s11.Work)]) :: (g581, Cl 82 [.int .i64 (0), .int .i64 (0), .int .i64 (0)]) :: (hs2 ++ (hs979 ++ R))) ⟨rfl, rfl, rfl, rfl, rfl, rfl, rfl, rfl, trivial⟩ (.cons_cons _ (.cons_cons _ (.cons_cons _ (sub_app hs2 (sub_app hs979 (.refl _)))))) ⟨g980, hs979, rfl, rfl, (Base.Le.refl _), h981⟩
        ·
          rintro b1012 _ _ ⟨g1016, hs1015, rfl, rfl, hle1013, h1017⟩
          have hm := (unc2E hk1020)
          refine c_cond _ rfl (fun hc1049 => ?_) (fun hc1049 => ?_)
          ·
            rw [if_pos hc1049] at hm
            refine c_skip ?_
            refine x_then_normal ?_
            refine c_block ?_
            refine c_region ?_
            refine t_st rfl (st_move rfl) ?_
            obtain ⟨_, h1050, hm⟩ := bindS hm
            have h1050 := (chk_some h1050).2
            refine t_st rfl (st_sub rfl rfl h1050) ?_
            refine t_st rfl (st_assign rfl) ?_
            refine t_nil ?_
            refine x_block_normal ?_
            refine x_pullb 2 rfl ?_
            refine x_pullb 2 rfl ?_
            refine x_pullb 2 rfl ?_
            refine x_front2 [_, _, _] hs2 hs1015 R rfl ?_
            refine x_front2 [_, _, _] hs1015 hs2 R rfl ?_
            exact x_againM (x982 - 1, l1019) (Option.some.inj hm).symm (e' := [(0, .pointer (some ⟨g10, 0, none⟩)), (3, .pointer (some ⟨g580, 0, none⟩)), (4, .pointer (some ⟨g581, 0, none⟩)), (5, .int .i64 (s11.Speed)), (6, .int .i64 (x592)), (7, .int .i64 (max 0 (s11.Speed - (x19 + x592)))), (8, .int .i64 (x982 - 1))]) (hp' := (g10, Cl 170 [.string (x12), .int .i64 (x13), .int .i64 (x14), .int .i64 (x15), .int .i64 (x16), .int .i64 (x17), .int .i64 (x18), .int .i64 (x19), .int .i64 (x20), .int .i64 (x21), .slice A22 (l25).length c23, .slice A3 (l28).length c4, .int .i64 (x26), .int .i64 (x27), .map (some g1016)]) :: (g580, Cl 82 [.int .i64 (s11.At), .int .i64 (s11.Speed), .int .i64 (s11.Work)]) :: (g581, Cl 82 [.int .i64 (0), .int .i64 (0), .int .i64 (0)]) :: (hs2 ++ (hs1015 ++ R))) ⟨rfl, rfl, rfl, rfl, rfl, rfl, rfl, trivial⟩ (.cons_cons _ (.cons_cons _ (.cons_cons _ (sub_app hs2 (sub_app hs1015 (.refl _)))))) ⟨g1016, hs1015, rfl, rfl, ((hle977.trans hle1013)), h1017⟩
          ·
            rw [if_neg (fun hh => Bool.noConfusion (hh.symm.trans hc1049))] at hm
            refine c_exit ?_
            refine x_then_exit ?_
            refine x_then_exit ?_
            refine x_block_out ?_
            have hm := congrArg some (houtL835 _ (Option.some.inj hm).symm)
            obtain ⟨rfl, rfl⟩ := some2 hm
            refine x_pullb 2 rfl ?_
            refine x_pullb 2 rfl ?_
            refine x_pullb 2 rfl ?_
            refine x_front2 [_, _, _] hs2 hs1015 R rfl ?_
            refine x_front2 [_, _, _] hs1015 hs2 R rfl ?_
            exact x_join (e' := [(0, .pointer (some ⟨g10, 0, none⟩)), (3, .pointer (some ⟨g580, 0, none⟩)), (4, .pointer (some ⟨g581, 0, none⟩)), (5, .int .i64 (s11.Speed)), (6, .int .i64 (x592)), (7, .int .i64 (max 0 (s11.Speed - (x19 + x592)))), (8, .int .i64 (x982))]) (hp' := (g10, Cl 170 [.string (x12), .int .i64 (x13), .int .i64 (x14), .int .i64 (x15), .int .i64 (x16), .int .i64 (x17), .int .i64 (x18), .int .i64 (x19), .int .i64 (x20), .int .i64 (x21), .slice A22 (l25).length c23, .slice A3 (l28).length c4, .int .i64 (x26), .int .i64 (x27), .map (some g1016)]) :: (g580, Cl 82 [.int .i64 (s11.At), .int .i64 (s11.Speed), .int .i64 (s11.Work)]) :: (g581, Cl 82 [.int .i64 (0), .int .i64 (0), .int .i64 (0)]) :: (hs2 ++ (hs1015 ++ R))) ⟨rfl, rfl, rfl, rfl, rfl, rfl, rfl, trivial⟩ (.cons_cons _ (.cons_cons _ (.cons_cons _ (sub_app hs2 (sub_app hs1015 (.refl _)))))) ⟨g1016, hs1015, rfl, rfl, (hle977.trans hle1013), h1017⟩
      ·
        rintro b826 _ _ ⟨g830, hs829, rfl, rfl, hle827, h831⟩
        have hm := (unc2E hk834)
        refine c_seq ?_
        refine c_region ?_
        refine t_st rfl (st_move rfl) ?_
        refine t_st rfl (st_move rfl) ?_
        refine t_st rfl (st_max rfl rfl) ?_
        refine t_st rfl (st_assign rfl) ?_
        refine t_nil ?_
        refine x_then_normal ?_
        obtain ⟨x1062, hj1063, hk1063⟩ := bindS hm
        refine c_join (fun b1059 e' hp' => ∃ (g1061 : Nat), [(0, .pointer (some ⟨g10, 0, none⟩)), (3, .pointer (some ⟨g580, 0, none⟩)), (4, .pointer (some ⟨g581, 0, none⟩)), (5, .int .i64 (s11.Speed)), (6, .int .i64 (x592)), (8, .int .i64 (max x832 (max 0 (s11.Speed - (x19 + x592))))), (9, .pointer (some ⟨g1061, 0, none⟩))] = e' ∧ (g10, Cl 170 [.string (x12), .int .i64 (x13), .int .i64 (x14), .int .i64 (x15), .int .i64 (x16), .int .i64 (x17), .int .i64 (x18), .int .i64 (x19), .int .i64 (x20), .int .i64 (x21), .slice A22 (l25).length c23, .slice A3 (l28).length c4, .int .i64 (x26), .int .i64 (x27), .map (some g830)]) :: (g580, Cl 82 [.int .i64 (s11.At), .int .i64 (s11.Speed), .int .i64 (s11.Work)]) :: (g581, Cl 82 [.int .i64 (0), .int .i64 (0), .int .i64 (0)]) :: (g1061, Cl 82 [.int .i64 (x1062), .int .i64 (max x832 (max 0 (s11.Speed - (x19 + x592)))), .int .i64 (s11.Work)]) :: (hs2 ++ (hs829 ++ R)) = hp' ∧ b826.Le b1059) ?_ ?_
        ·
          have hm := hj1063
          obtain ⟨x1068, hcl1069, hm⟩ := bindS hm
          obtain ⟨_, h1070, hm⟩ := bindS hm
          refine D_drawS ((g10, Cl 170 [.string (x12), .int .i64 (x13), .int .i64 (x14), .int .i64 (x15), .int .i64 (x16), .int .i64 (x17), .int .i64 (x18), .int .i64 (x19), .int .i64 (x20), .int .i64 (x21), .slice A22 (l25).length c23, .slice A3 (l28).length c4, .int .i64 (x26), .int .i64 (x27), .map (some g830)]) :: (g580, Cl 82 [.int .i64 (s11.At), .int .i64 (s11.Speed), .int .i64 (s11.Work)]) :: (g581, Cl 82 [.int .i64 (0), .int .i64 (0), .int .i64 (0)]) :: (hs2 ++ (hs829 ++ R))) mixed ?_
          refine D_st (Base.Le.refl _) 0 rfl (by kernel_rfl) (by kernel_rfl) (by kernel_rfl) rfl (st_field rfl fld82_0) (.cons_cons _ (.cons_cons _ (.cons_cons _ (sub_app hs2 (sub_app hs829 (.refl _)))))) ?_
          refine D_st (Base.Le.refl _) 1 rfl (by kernel_rfl) (by kernel_rfl) (by kernel_rfl) rfl (st_load 1 rfl one3 rfl rfl) (.cons_cons _ (.cons_cons _ (.cons_cons _ (sub_app hs2 (sub_app hs829 (.refl _)))))) ?_
          refine D_st (Base.Le.refl _) 2 rfl (by kernel_rfl) (by kernel_rfl) (by kernel_rfl) rfl (st_move rfl) (.cons_cons _ (.cons_cons _ (.cons_cons _ (sub_app hs2 (sub_app hs829 (.refl _)))))) ?_
          refine D_st (Base.Le.refl _) 3 rfl (by kernel_rfl) (by kernel_rfl) (by kernel_rfl) rfl (st_move rfl) (.cons_cons _ (.cons_cons _ (.cons_cons _ (sub_app hs2 (sub_app hs829 (.refl _)))))) ?_
          refine D_st (Base.Le.refl _) 6 rfl (by kernel_rfl) (by kernel_rfl) (by kernel_rfl) rfl (st_move rfl) (.cons_cons _ (.cons_cons _ (.cons_cons _ (sub_app hs2 (sub_app hs829 (.refl _)))))) ?_
          refine D_st (Base.Le.refl _) 7 rfl (by kernel_rfl) (by kernel_rfl) (by kernel_rfl) rfl (st_field rfl fld82_2) (.cons_cons _ (.cons_cons _ (.cons_cons _ (sub_app hs2 (sub_app hs829 (.refl _)))))) ?_
          refine D_st (Base.Le.refl _) 8 rfl (by kernel_rfl) (by kernel_rfl) (by kernel_rfl) rfl (st_load 1 rfl one3 rfl rfl) (.cons_cons _ (.cons_cons _ (.cons_cons _ (sub_app hs2 (sub_app hs829 (.refl _)))))) ?_
          refine D_all [4, 10] (by kernel_rfl) rfl ?_
          refine R_do (Base.Le.refl _) rfl rfl (u_callW0 _ call84 rfl (fun w ho => cRunGone _ [] s11.Speed (max x832 (max 0 (s11.Speed - (x19 + x592)))) x1068 hcl1069) (fun _ _ _ h => h.2.symm)) ?_ ?_
          ·
            rintro _ _ ⟨⟨_, rfl, _⟩, rfl⟩
            refine ⟨.inr (.cons_cons _ (.cons_cons _ (.cons_cons _ (sub_app hs2 (sub_app hs829 (.refl _)))))), ?_⟩
            have h1070 := (chk_some h1070).2
            refine D_st (Base.Le.refl _) 5 rfl (by kernel_rfl) (by kernel_rfl) (by kernel_rfl) rfl (st_add rfl rfl h1070) (.cons_cons _ (.cons_cons _ (.cons_cons _ (sub_app hs2 (sub_app hs829 (.refl _)))))) ?_
            refine D_st (Base.Le.refl _) 9 rfl (by kernel_rfl) (by kernel_rfl) (by kernel_rfl) rfl (st_build (v := .agg #[.int .i64 (s11.At + x1068), .int .i64 (max x832 (max 0 (s11.Speed - (x19 + x592)))), .int .i64 (s11.Work)]) [(0, .int .i64 (s11.At + x1068)), (1, .int .i64 (max x832 (max 0 (s11.Speed - (x19 + x592))))), (2, .int .i64 (s11.Work))] rfl (fun _ => by kernel_rfl)) (.cons_cons _ (.cons_cons _ (.cons_cons _ (sub_app hs2 (sub_app hs829 (.refl _)))))) ?_
            refine D_all [10] (by kernel_rfl) rfl ?_
            refine R_do (Base.Le.refl _) rfl rfl (u_alloc [.int .i64 0, .int .i64 0, .int .i64 0] zero82 rfl) ?_ ?_
            ·
              rintro _ _ ⟨g1071, rfl, rfl⟩
              refine ⟨.inr (.cons _ (.cons_cons _ (.cons_cons _ (.cons_cons _ (sub_app hs2 (sub_app hs829 (.refl _))))))), ?_⟩
              refine D_all [11] (by kernel_rfl) rfl ?_
              refine R_do (Base.Le.refl _) rfl rfl (u_storeN (vs := [_, _, _]) 0 3 rfl rfl rfl siz82 rfl (by intro u hu; simp only [List.mem_cons, List.not_mem_nil, or_false] at hu; rcases hu with rfl | rfl | rfl <;> rfl) rfl (by simp)) ?_ ?_
              ·
                rintro _ _ rfl
                refine ⟨.inl (by kernel_rfl), ?_⟩
                refine D_done (by kernel_rfl) ?_
                obtain rfl := some1 hm
                refine x_pullb 3 rfl ?_
                refine x_pullb 3 rfl ?_
                refine x_pullb 3 rfl ?_
                refine x_front2 [_, _, _, _] hs2 hs829 R rfl ?_
                refine x_front2 [_, _, _, _] hs829 hs2 R rfl ?_
                exact x_join (e' := [(0, .pointer (some ⟨g10, 0, none⟩)), (3, .pointer (some ⟨g580, 0, none⟩)), (4, .pointer (some ⟨g581, 0, none⟩)), (5, .int .i64 (s11.Speed)), (6, .int .i64 (x592)), (8, .int .i64 (max x832 (max 0 (s11.Speed - (x19 + x592))))), (9, .pointer (some ⟨g1071, 0, none⟩))]) (hp' := (g10, Cl 170 [.string (x12), .int .i64 (x13), .int .i64 (x14), .int .i64 (x15), .int .i64 (x16), .int .i64 (x17), .int .i64 (x18), .int .i64 (x19), .int .i64 (x20), .int .i64 (x21), .slice A22 (l25).length c23, .slice A3 (l28).length c4, .int .i64 (x26), .int .i64 (x27), .map (some g830)]) :: (g580, Cl 82 [.int .i64 (s11.At), .int .i64 (s11.Speed), .int .i64 (s11.Work)]) :: (g581, Cl 82 [.int .i64 (0), .int .i64 (0), .int .i64 (0)]) :: (g1071, Cl 82 [.int .i64 (s11.At + x1068), .int .i64 (max x832 (max 0 (s11.Speed - (x19 + x592)))), .int .i64 (s11.Work)]) :: (hs2 ++ (hs829 ++ R))) ⟨rfl, rfl, rfl, rfl, rfl, rfl, rfl, trivial⟩ (.cons_cons _ (.cons_cons _ (.cons_cons _ (.cons_cons _ (sub_app hs2 (sub_app hs829 (.refl _))))))) ⟨g1071, rfl, rfl, (Base.Le.refl _)⟩
              exact R_nil
            exact R_nil
          refine R_do (Base.Le.refl _) rfl rfl (u_alloc [.int .i64 0, .int .i64 0, .int .i64 0] zero82 rfl) ?_ ?_
          ·
            rintro _ _ ⟨g1071, rfl, rfl⟩
            refine ⟨.inr (.cons _ (.cons_cons _ (.cons_cons _ (.cons_cons _ (sub_app hs2 (sub_app hs829 (.refl _))))))), ?_⟩
            refine D_all [4] (by kernel_rfl) rfl ?_
            refine R_do (Base.Le.refl _) rfl rfl (u_callW0 _ call84 rfl (fun w ho => cRunGone _ [] s11.Speed (max x832 (max 0 (s11.Speed - (x19 + x592)))) x1068 hcl1069) (fun _ _ _ h => h.2.symm)) ?_ ?_
            ·
              rintro _ _ ⟨⟨_, rfl, _⟩, rfl⟩
              refine ⟨.inr (.cons _ (.cons_cons _ (.cons_cons _ (.cons_cons _ (sub_app hs2 (sub_app hs829 (.refl _))))))), ?_⟩
              have h1070 := (chk_some h1070).2
              refine D_st (Base.Le.refl _) 5 rfl (by kernel_rfl) (by kernel_rfl) (by kernel_rfl) rfl (st_add rfl rfl h1070) (.cons _ (.cons_cons _ (.cons_cons _ (.cons_cons _ (sub_app hs2 (sub_app hs829 (.refl _))))))) ?_
              refine D_st (Base.Le.refl _) 9 rfl (by kernel_rfl) (by kernel_rfl) (by kernel_rfl) rfl (st_build (v := .agg #[.int .i64 (s11.At + x1068), .int .i64 (max x832 (max 0 (s11.Speed - (x19 + x592)))), .int .i64 (s11.Work)]) [(0, .int .i64 (s11.At + x1068)), (1, .int .i64 (max x832 (max 0 (s11.Speed - (x19 + x592))))), (2, .int .i64 (s11.Work))] rfl (fun _ => by kernel_rfl)) (.cons _ (.cons_cons _ (.cons_cons _ (.cons_cons _ (sub_app hs2 (sub_app hs829 (.refl _))))))) ?_
              refine D_all [11] (by kernel_rfl) rfl ?_
              refine R_do (Base.Le.refl _) rfl rfl (u_storeN (vs := [_, _, _]) 0 3 rfl rfl rfl siz82 rfl (by intro u hu; simp only [List.mem_cons, List.not_mem_nil, or_false] at hu; rcases hu with rfl | rfl | rfl <;> rfl) rfl (by simp)) ?_ ?_
              ·
                rintro _ _ rfl
                refine ⟨.inl (by kernel_rfl), ?_⟩
                refine D_done (by kernel_rfl) ?_
                obtain rfl := some1 hm
                refine x_pullb 3 rfl ?_
                refine x_pullb 3 rfl ?_
                refine x_pullb 3 rfl ?_
                refine x_front2 [_, _, _, _] hs2 hs829 R rfl ?_
                refine x_front2 [_, _, _, _] hs829 hs2 R rfl ?_
                exact x_join (e' := [(0, .pointer (some ⟨g10, 0, none⟩)), (3, .pointer (some ⟨g580, 0, none⟩)), (4, .pointer (some ⟨g581, 0, none⟩)), (5, .int .i64 (s11.Speed)), (6, .int .i64 (x592)), (8, .int .i64 (max x832 (max 0 (s11.Speed - (x19 + x592))))), (9, .pointer (some ⟨g1071, 0, none⟩))]) (hp' := (g10, Cl 170 [.string (x12), .int .i64 (x13), .int .i64 (x14), .int .i64 (x15), .int .i64 (x16), .int .i64 (x17), .int .i64 (x18), .int .i64 (x19), .int .i64 (x20), .int .i64 (x21), .slice A22 (l25).length c23, .slice A3 (l28).length c4, .int .i64 (x26), .int .i64 (x27), .map (some g830)]) :: (g580, Cl 82 [.int .i64 (s11.At), .int .i64 (s11.Speed), .int .i64 (s11.Work)]) :: (g581, Cl 82 [.int .i64 (0), .int .i64 (0), .int .i64 (0)]) :: (g1071, Cl 82 [.int .i64 (s11.At + x1068), .int .i64 (max x832 (max 0 (s11.Speed - (x19 + x592)))), .int .i64 (s11.Work)]) :: (hs2 ++ (hs829 ++ R))) ⟨rfl, rfl, rfl, rfl, rfl, rfl, rfl, trivial⟩ (.cons_cons _ (.cons_cons _ (.cons_cons _ (.cons_cons _ (sub_app hs2 (sub_app hs829 (.refl _))))))) ⟨g1071, rfl, rfl, (Base.Le.refl _)⟩
              exact R_nil
            exact R_nil
          exact R_nil
        ·
          rintro b1059 _ _ ⟨g1061, rfl, rfl, hle1060⟩
          have hm := hk1063
          obtain ⟨x1097, hj1098, hk1098⟩ := bindS hm
          refine c_join (fun b1095 e' hp' => [(4, .pointer (some ⟨g581, 0, none⟩)), (9, .pointer (some ⟨g1061, 0, none⟩))] = e' ∧ (g581, Cl 82 [.int .i64 (0), .int .i64 (0), .int .i64 (0)]) :: (g1061, Cl 82 [.int .i64 (x1062), .int .i64 (max x832 (max 0 (s11.Speed - (x19 + x592)))), .int .i64 (x1097)]) :: (g10, Cl 170 [.string (x12), .int .i64 (x13), .int .i64 (x14), .int .i64 (x15), .int .i64 (x16), .int .i64 (x17), .int .i64 (x18), .int .i64 (x19), .int .i64 (x20), .int .i64 (x21), .slice A22 (l25).length c23, .slice A3 (l28).length c4, .int .i64 (x26), .int .i64 (x27), .map (some g830)]) :: (hs2 ++ (hs829 ++ R)) = hp' ∧ b1059.Le b1095) ?_ ?_
          ·
            have hm := hj1098
            refine c_seq ?_
            obtain ⟨_, h1106, hm⟩ := bindS hm
            obtain ⟨_, h1107, hm⟩ := bindS hm
            obtain ⟨_, h1108, hm⟩ := bindS hm
            obtain ⟨_, h1109, hm⟩ := bindS hm
            obtain ⟨_, h1110, hm⟩ := bindS hm
            obtain ⟨_, h1111, hm⟩ := bindS hm
            obtain ⟨_, h1112, hm⟩ := bindS hm
            refine D_drawS ((g10, Cl 170 [.string (x12), .int .i64 (x13), .int .i64 (x14), .int .i64 (x15), .int .i64 (x16), .int .i64 (x17), .int .i64 (x18), .int .i64 (x19), .int .i64 (x20), .int .i64 (x21), .slice A22 (l25).length c23, .slice A3 (l28).length c4, .int .i64 (x26), .int .i64 (x27), .map (some g830)]) :: (g580, Cl 82 [.int .i64 (s11.At), .int .i64 (s11.Speed), .int .i64 (s11.Work)]) :: (g581, Cl 82 [.int .i64 (0), .int .i64 (0), .int .i64 (0)]) :: (g1061, Cl 82 [.int .i64 (x1062), .int .i64 (max x832 (max 0 (s11.Speed - (x19 + x592)))), .int .i64 (s11.Work)]) :: (hs2 ++ (hs829 ++ R))) mixed ?_
            refine D_st (Base.Le.refl _) 0 rfl (by kernel_rfl) (by kernel_rfl) (by kernel_rfl) rfl (st_move rfl) (.cons_cons _ (.cons_cons _ (.cons_cons _ (.cons_cons _ (sub_app hs2 (sub_app hs829 (.refl _))))))) ?_
            refine D_st (Base.Le.refl _) 1 rfl (by kernel_rfl) (by kernel_rfl) (by kernel_rfl) rfl (st_move rfl) (.cons_cons _ (.cons_cons _ (.cons_cons _ (.cons_cons _ (sub_app hs2 (sub_app hs829 (.refl _))))))) ?_
            have h1106 := (chk_some h1106).2
            refine D_st (Base.Le.refl _) 2 rfl (by kernel_rfl) (by kernel_rfl) (by kernel_rfl) rfl (st_sub rfl rfl h1106) (.cons_cons _ (.cons_cons _ (.cons_cons _ (.cons_cons _ (sub_app hs2 (sub_app hs829 (.refl _))))))) ?_
            refine D_st (Base.Le.refl _) 3 rfl (by kernel_rfl) (by kernel_rfl) (by kernel_rfl) rfl (st_move rfl) (.cons_cons _ (.cons_cons _ (.cons_cons _ (.cons_cons _ (sub_app hs2 (sub_app hs829 (.refl _))))))) ?_
            refine D_st (Base.Le.refl _) 4 rfl (by kernel_rfl) (by kernel_rfl) (by kernel_rfl) rfl (st_nil rfl) (.cons_cons _ (.cons_cons _ (.cons_cons _ (.cons_cons _ (sub_app hs2 (sub_app hs829 (.refl _))))))) ?_
            refine D_st (Base.Le.refl _) 5 rfl (by kernel_rfl) (by kernel_rfl) (by kernel_rfl) rfl (st_field rfl fld170_0) (.cons_cons _ (.cons_cons _ (.cons_cons _ (.cons_cons _ (sub_app hs2 (sub_app hs829 (.refl _))))))) ?_
            refine D_st (Base.Le.refl _) 6 rfl (by kernel_rfl) (by kernel_rfl) (by kernel_rfl) rfl (st_field rfl fld43_5) (.cons_cons _ (.cons_cons _ (.cons_cons _ (.cons_cons _ (sub_app hs2 (sub_app hs829 (.refl _))))))) ?_
            refine D_st (Base.Le.refl _) 7 rfl (by kernel_rfl) (by kernel_rfl) (by kernel_rfl) rfl (st_load 0 rfl one3 rfl rfl) (.cons_cons _ (.cons_cons _ (.cons_cons _ (.cons_cons _ (sub_app hs2 (sub_app hs829 (.refl _))))))) ?_
            have h1107 := (chk_some h1107).2
            refine D_st (Base.Le.refl _) 8 rfl (by kernel_rfl) (by kernel_rfl) (by kernel_rfl) rfl (st_add rfl rfl h1107) (.cons_cons _ (.cons_cons _ (.cons_cons _ (.cons_cons _ (sub_app hs2 (sub_app hs829 (.refl _))))))) ?_
            refine D_st (Base.Le.refl _) 9 rfl (by kernel_rfl) (by kernel_rfl) (by kernel_rfl) rfl (st_move rfl) (.cons_cons _ (.cons_cons _ (.cons_cons _ (.cons_cons _ (sub_app hs2 (sub_app hs829 (.refl _))))))) ?_
            refine D_st (Base.Le.refl _) 10 rfl (by kernel_rfl) (by kernel_rfl) (by kernel_rfl) rfl (st_move rfl) (.cons_cons _ (.cons_cons _ (.cons_cons _ (.cons_cons _ (sub_app hs2 (sub_app hs829 (.refl _))))))) ?_
            have h1108 := (chk_some h1108).2
            refine D_st (Base.Le.refl _) 11 rfl (by kernel_rfl) (by kernel_rfl) (by kernel_rfl) rfl (st_mul rfl rfl h1108) (.cons_cons _ (.cons_cons _ (.cons_cons _ (.cons_cons _ (sub_app hs2 (sub_app hs829 (.refl _))))))) ?_
            refine D_st (Base.Le.refl _) 12 rfl (by kernel_rfl) (by kernel_rfl) (by kernel_rfl) rfl (st_move rfl) (.cons_cons _ (.cons_cons _ (.cons_cons _ (.cons_cons _ (sub_app hs2 (sub_app hs829 (.refl _))))))) ?_
            refine D_st (Base.Le.refl _) 13 rfl (by kernel_rfl) (by kernel_rfl) (by kernel_rfl) rfl (st_nil rfl) (.cons_cons _ (.cons_cons _ (.cons_cons _ (.cons_cons _ (sub_app hs2 (sub_app hs829 (.refl _))))))) ?_
            refine D_st (Base.Le.refl _) 14 rfl (by kernel_rfl) (by kernel_rfl) (by kernel_rfl) rfl (st_field rfl fld170_0) (.cons_cons _ (.cons_cons _ (.cons_cons _ (.cons_cons _ (sub_app hs2 (sub_app hs829 (.refl _))))))) ?_
            refine D_st (Base.Le.refl _) 15 rfl (by kernel_rfl) (by kernel_rfl) (by kernel_rfl) rfl (st_field rfl fld43_6) (.cons_cons _ (.cons_cons _ (.cons_cons _ (.cons_cons _ (sub_app hs2 (sub_app hs829 (.refl _))))))) ?_
            refine D_st (Base.Le.refl _) 16 rfl (by kernel_rfl) (by kernel_rfl) (by kernel_rfl) rfl (st_load 0 rfl one3 rfl rfl) (.cons_cons _ (.cons_cons _ (.cons_cons _ (.cons_cons _ (sub_app hs2 (sub_app hs829 (.refl _))))))) ?_
            have h1110 := (chk_some h1110).2
            refine D_st (Base.Le.refl _) 17 rfl (by kernel_rfl) (by kernel_rfl) (by kernel_rfl) rfl (st_quo rfl rfl (ne0_some h1109) h1110) (.cons_cons _ (.cons_cons _ (.cons_cons _ (.cons_cons _ (sub_app hs2 (sub_app hs829 (.refl _))))))) ?_
            have h1111 := (chk_some h1111).2
            refine D_st (Base.Le.refl _) 18 rfl (by kernel_rfl) (by kernel_rfl) (by kernel_rfl) rfl (st_add rfl rfl h1111) (.cons_cons _ (.cons_cons _ (.cons_cons _ (.cons_cons _ (sub_app hs2 (sub_app hs829 (.refl _))))))) ?_
            refine D_st (Base.Le.refl _) 19 rfl (by kernel_rfl) (by kernel_rfl) (by kernel_rfl) rfl (st_move rfl) (.cons_cons _ (.cons_cons _ (.cons_cons _ (.cons_cons _ (sub_app hs2 (sub_app hs829 (.refl _))))))) ?_
            have h1112 := (chk_some h1112).2
            refine D_st (Base.Le.refl _) 20 rfl (by kernel_rfl) (by kernel_rfl) (by kernel_rfl) rfl (st_add rfl rfl h1112) (.cons_cons _ (.cons_cons _ (.cons_cons _ (.cons_cons _ (sub_app hs2 (sub_app hs829 (.refl _))))))) ?_
            refine D_st (Base.Le.refl _) 21 rfl (by kernel_rfl) (by kernel_rfl) (by kernel_rfl) rfl (st_assign rfl) (.cons_cons _ (.cons_cons _ (.cons_cons _ (.cons_cons _ (sub_app hs2 (sub_app hs829 (.refl _))))))) ?_
            refine D_done (by kernel_rfl) ?_
            refine x_then_normal ?_
            refine c_seq ?_
            refine c_region ?_
            refine t_st rfl (st_move rfl) ?_
            refine t_st rfl (st_gtr rfl rfl) ?_
            refine t_nil ?_
            refine x_then_normal ?_
            refine c_cond _ rfl (fun hc1113 => ?_) (fun hc1113 => ?_)
            ·
              rw [if_pos (of_decide_eq_true hc1113)] at hm
              obtain ⟨_, h1118, hm⟩ := bindS hm
              obtain ⟨_, h1119, hm⟩ := bindS hm
              obtain ⟨_, h1120, hm⟩ := bindS hm
              obtain ⟨_, h1121, hm⟩ := bindS hm
              refine D_drawS ((g10, Cl 170 [.string (x12), .int .i64 (x13), .int .i64 (x14), .int .i64 (x15), .int .i64 (x16), .int .i64 (x17), .int .i64 (x18), .int .i64 (x19), .int .i64 (x20), .int .i64 (x21), .slice A22 (l25).length c23, .slice A3 (l28).length c4, .int .i64 (x26), .int .i64 (x27), .map (some g830)]) :: (g580, Cl 82 [.int .i64 (s11.At), .int .i64 (s11.Speed), .int .i64 (s11.Work)]) :: (g581, Cl 82 [.int .i64 (0), .int .i64 (0), .int .i64 (0)]) :: (g1061, Cl 82 [.int .i64 (x1062), .int .i64 (max x832 (max 0 (s11.Speed - (x19 + x592)))), .int .i64 (s11.Work)]) :: (hs2 ++ (hs829 ++ R))) mixed ?_
              refine D_st (Base.Le.refl _) 0 rfl (by kernel_rfl) (by kernel_rfl) (by kernel_rfl) rfl (st_field rfl fld82_2) (.cons_cons _ (.cons_cons _ (.cons_cons _ (.cons_cons _ (sub_app hs2 (sub_app hs829 (.refl _))))))) ?_
              refine D_st (Base.Le.refl _) 1 rfl (by kernel_rfl) (by kernel_rfl) (by kernel_rfl) rfl (st_load 3 rfl one3 rfl rfl) (.cons_cons _ (.cons_cons _ (.cons_cons _ (.cons_cons _ (sub_app hs2 (sub_app hs829 (.refl _))))))) ?_
              refine D_st (Base.Le.refl _) 2 rfl (by kernel_rfl) (by kernel_rfl) (by kernel_rfl) rfl (st_move rfl) (.cons_cons _ (.cons_cons _ (.cons_cons _ (.cons_cons _ (sub_app hs2 (sub_app hs829 (.refl _))))))) ?_
              refine D_st (Base.Le.refl _) 3 rfl (by kernel_rfl) (by kernel_rfl) (by kernel_rfl) rfl (st_nil rfl) (.cons_cons _ (.cons_cons _ (.cons_cons _ (.cons_cons _ (sub_app hs2 (sub_app hs829 (.refl _))))))) ?_
              refine D_st (Base.Le.refl _) 4 rfl (by kernel_rfl) (by kernel_rfl) (by kernel_rfl) rfl (st_field rfl fld170_0) (.cons_cons _ (.cons_cons _ (.cons_cons _ (.cons_cons _ (sub_app hs2 (sub_app hs829 (.refl _))))))) ?_
              refine D_st (Base.Le.refl _) 5 rfl (by kernel_rfl) (by kernel_rfl) (by kernel_rfl) rfl (st_field rfl fld43_2) (.cons_cons _ (.cons_cons _ (.cons_cons _ (.cons_cons _ (sub_app hs2 (sub_app hs829 (.refl _))))))) ?_
              refine D_st (Base.Le.refl _) 6 rfl (by kernel_rfl) (by kernel_rfl) (by kernel_rfl) rfl (st_load 0 rfl one3 rfl rfl) (.cons_cons _ (.cons_cons _ (.cons_cons _ (.cons_cons _ (sub_app hs2 (sub_app hs829 (.refl _))))))) ?_
              refine D_st (Base.Le.refl _) 7 rfl (by kernel_rfl) (by kernel_rfl) (by kernel_rfl) rfl (st_move rfl) (.cons_cons _ (.cons_cons _ (.cons_cons _ (.cons_cons _ (sub_app hs2 (sub_app hs829 (.refl _))))))) ?_
              have h1118 := (chk_some h1118).2
              refine D_st (Base.Le.refl _) 8 rfl (by kernel_rfl) (by kernel_rfl) (by kernel_rfl) rfl (st_mul rfl rfl h1118) (.cons_cons _ (.cons_cons _ (.cons_cons _ (.cons_cons _ (sub_app hs2 (sub_app hs829 (.refl _))))))) ?_
              refine D_st (Base.Le.refl _) 9 rfl (by kernel_rfl) (by kernel_rfl) (by kernel_rfl) rfl (st_field rfl fld82_0) (.cons_cons _ (.cons_cons _ (.cons_cons _ (.cons_cons _ (sub_app hs2 (sub_app hs829 (.refl _))))))) ?_
              refine D_st (Base.Le.refl _) 10 rfl (by kernel_rfl) (by kernel_rfl) (by kernel_rfl) rfl (st_load 3 rfl one3 rfl rfl) (.cons_cons _ (.cons_cons _ (.cons_cons _ (.cons_cons _ (sub_app hs2 (sub_app hs829 (.refl _))))))) ?_
              refine D_st (Base.Le.refl _) 11 rfl (by kernel_rfl) (by kernel_rfl) (by kernel_rfl) rfl (st_field rfl fld82_0) (.cons_cons _ (.cons_cons _ (.cons_cons _ (.cons_cons _ (sub_app hs2 (sub_app hs829 (.refl _))))))) ?_
              refine D_st (Base.Le.refl _) 12 rfl (by kernel_rfl) (by kernel_rfl) (by kernel_rfl) rfl (st_load 1 rfl one3 rfl rfl) (.cons_cons _ (.cons_cons _ (.cons_cons _ (.cons_cons _ (sub_app hs2 (sub_app hs829 (.refl _))))))) ?_
              have h1119 := (chk_some h1119).2
              refine D_st (Base.Le.refl _) 13 rfl (by kernel_rfl) (by kernel_rfl) (by kernel_rfl) rfl (st_sub rfl rfl h1119) (.cons_cons _ (.cons_cons _ (.cons_cons _ (.cons_cons _ (sub_app hs2 (sub_app hs829 (.refl _))))))) ?_
              have h1120 := (chk_some h1120).2
              refine D_st (Base.Le.refl _) 14 rfl (by kernel_rfl) (by kernel_rfl) (by kernel_rfl) rfl (st_mul rfl rfl h1120) (.cons_cons _ (.cons_cons _ (.cons_cons _ (.cons_cons _ (sub_app hs2 (sub_app hs829 (.refl _))))))) ?_
              have h1121 := (chk_some h1121).2
              refine D_st (Base.Le.refl _) 15 rfl (by kernel_rfl) (by kernel_rfl) (by kernel_rfl) rfl (st_add rfl rfl h1121) (.cons_cons _ (.cons_cons _ (.cons_cons _ (.cons_cons _ (sub_app hs2 (sub_app hs829 (.refl _))))))) ?_
              refine D_st (Base.Le.refl _) 16 rfl (by kernel_rfl) (by kernel_rfl) (by kernel_rfl) rfl (st_field rfl fld82_2) (.cons_cons _ (.cons_cons _ (.cons_cons _ (.cons_cons _ (sub_app hs2 (sub_app hs829 (.refl _))))))) ?_
              refine D_all [17] (by kernel_rfl) rfl ?_
              refine R_do (Base.Le.refl _) rfl rfl (u_store 3 rfl rfl siz3 rfl rfl (by simp)) ?_ ?_
              ·
                rintro _ _ rfl
                refine ⟨.inl (by kernel_rfl), ?_⟩
                refine D_done (by kernel_rfl) ?_
                obtain rfl := some1 hm
                refine x_pullb 3 rfl ?_
                refine x_pullb 3 rfl ?_
                refine x_front2 [_, _, _, _] hs2 hs829 R rfl ?_
                refine x_front2 [_, _, _, _] hs829 hs2 R rfl ?_
                exact x_join (e' := [(4, .pointer (some ⟨g581, 0, none⟩)), (9, .pointer (some ⟨g1061, 0, none⟩))]) (hp' := (g581, Cl 82 [.int .i64 (0), .int .i64 (0), .int .i64 (0)]) :: (g1061, Cl 82 [.int .i64 (x1062), .int .i64 (max x832 (max 0 (s11.Speed - (x19 + x592)))), .int .i64 (s11.Work + ((x14 * (((((max x832 (max 0 (s11.Speed - (x19 + x592)))) - s11.Speed) + x17) + (Int.tdiv (s11.Speed * s11.Speed) x18)) + x592)) * (x1062 - s11.At)))]) :: (g10, Cl 170 [.string (x12), .int .i64 (x13), .int .i64 (x14), .int .i64 (x15), .int .i64 (x16), .int .i64 (x17), .int .i64 (x18), .int .i64 (x19), .int .i64 (x20), .int .i64 (x21), .slice A22 (l25).length c23, .slice A3 (l28).length c4, .int .i64 (x26), .int .i64 (x27), .map (some g830)]) :: (hs2 ++ (hs829 ++ R))) ⟨rfl, rfl, trivial⟩ (.cons_cons _ (.cons_cons _ (.cons_cons _ (.cons _ (sub_app hs2 (sub_app hs829 (.refl _))))))) ⟨rfl, rfl, (Base.Le.refl _)⟩
              exact R_nil
            ·
              rw [if_neg (of_decide_eq_false hc1113)] at hm
              refine c_skip ?_
              obtain rfl := some1 hm
              refine x_pullb 3 rfl ?_
              refine x_pullb 3 rfl ?_
              refine x_front2 [_, _, _, _] hs2 hs829 R rfl ?_
              refine x_front2 [_, _, _, _] hs829 hs2 R rfl ?_
              exact x_join (e' := [(4, .pointer (some ⟨g581, 0, none⟩)), (9, .pointer (some ⟨g1061, 0, none⟩))]) (hp' := (g581, Cl 82 [.int .i64 (0), .int .i64 (0), .int .i64 (0)]) :: (g1061, Cl 82 [.int .i64 (x1062), .int .i64 (max x832 (max 0 (s11.Speed - (x19 + x592)))), .int .i64 (s11.Work)]) :: (g10, Cl 170 [.string (x12), .int .i64 (x13), .int .i64 (x14), .int .i64 (x15), .int .i64 (x16), .int .i64 (x17), .int .i64 (x18), .int .i64 (x19), .int .i64 (x20), .int .i64 (x21), .slice A22 (l25).length c23, .slice A3 (l28).length c4, .int .i64 (x26), .int .i64 (x27), .map (some g830)]) :: (hs2 ++ (hs829 ++ R))) ⟨rfl, rfl, trivial⟩ (.cons_cons _ (.cons_cons _ (.cons_cons _ (.cons _ (sub_app hs2 (sub_app hs829 (.refl _))))))) ⟨rfl, rfl, (Base.Le.refl _)⟩
          ·
            rintro b1095 _ _ ⟨rfl, rfl, hle1096⟩
            have hm := hk1098
            refine c_seq ?_
            refine c_region ?_
            refine t_st rfl (st_loadD (vs := [_, _, _]) 1 3 rfl agg82 rfl rfl rfl) ?_
            refine t_do rfl (u_storeN (vs := [_, _, _]) 0 3 rfl rfl rfl siz82 rfl (by intro u hu; simp only [List.mem_cons, List.not_mem_nil, or_false] at hu; rcases hu with rfl | rfl | rfl <;> rfl) rfl (by simp)) ?_
            rintro _ _ rfl
            refine t_nil ?_
            refine x_then_normal ?_
            refine c_ret ?_
            obtain ⟨rfl, rfl, rfl, rfl⟩ := some4 hm
            refine x_pullb 2 rfl ?_
            refine x_front2 [_, _, _] hs2 hs829 R rfl ?_
            refine x_front2 [_, _, _] hs829 hs2 R rfl ?_
            exact retM (rs := [.cell 4 82]) [.agg #[.int .i64 (x1062), .int .i64 (max x832 (max 0 (s11.Speed - (x19 + x592)))), .int .i64 (x1097)]] (hle591.trans (hle827.trans (hle1060.trans hle1096))) (by decide) rfl ⟨⟨_, rfl, fun w ho => cell_agg (vs := [_, _, _]) 1 3 agg82 rfl rfl rfl w ho⟩, trivial⟩ rfl (hp' := (g10, Cl 170 [.string (x12), .int .i64 (x13), .int .i64 (x14), .int .i64 (x15), .int .i64 (x16), .int .i64 (x17), .int .i64 (x18), .int .i64 (x19), .int .i64 (x20), .int .i64 (x21), .slice A22 (l25).length c23, .slice A3 (l28).length c4, .int .i64 (x26), .int .i64 (x27), .map (some g830)]) :: (hs2 ++ (hs829 ++ R))) (.cons_cons _ (.cons _ (.cons _ (sub_app hs2 (sub_app hs829 (.refl _)))))) ⟨g830, hs829, rfl, rfl, (h831.le (hle1060.trans hle1096))⟩
    exact R_nil

set_option maxRecDepth 20000 in
theorem cRunRunnerStates (b : Base) (R : Hp) (x11 : Int) (x12 : ByteArray) (x13 : Int) (x14 : Int) (x15 : Int) (x16 : Int) (x17 : Int) (x18 : Int) (x19 : Int) (x20 : Int) (x21 : Int) (l25 : (List ApiPiece)) (x26 : Int) (x27 : Int) (l28 : (List Int)) (l29 : (List (Int × (List Int)))) (g10 : Nat) (A22 : Option Addr) (c23 : Nat) (A3 : Option Addr) (c4 : Nat) (hs2 : Hp) (g8 : Nat) (hs7 : Hp) (h24 : FZ rApiPiece b.w A22 c23 l25) (h5 : OS 3 (OT.fr (RT.int .i64)) b.w (.slice A3 l28.length c4) l28 hs2) (h9 : OM (RT.int .i64) (OT.list 3 (OT.fr (RT.int .i64))) false false b.w g8 l29 hs7) (x217 : Bool) (l218 : (List ApiState)) (l219 : (List (Int × (List Int)))) (hm : mRunRunnerStates x11 x12 x13 x14 x15 x16 x17 x18 x19 x20 x21 l25 x26 x27 l28 l29 = some (x217, l218, l219)) :
    CallsG Tryd.prog 99 [.pointer (some ⟨g10, 0, none⟩), .int .i64 (x11)] b ((g10, Cl 170 [.string (x12), .int .i64 (x13), .int .i64 (x14), .int .i64 (x15), .int .i64 (x16), .int .i64 (x17), .int .i64 (x18), .int .i64 (x19), .int .i64 (x20), .int .i64 (x21), .slice A22 (l25).length c23, .slice A3 (l28).length c4, .int .i64 (x26), .int .i64 (x27), .map (some g8)]) :: (hs2 ++ (hs7 ++ R))) (fun v b' hp' => ∃ (A210 : Option Addr), ∃ (c211 : Nat), ∃ (hs209 : Hp), ∃ (g215 : Nat), ∃ (hs214 : Hp), .tuple #[.slice A210 (l218).length c211, .bool (x217)] = v ∧ (g10, Cl 170 [.string (x12), .int .i64 (x13), .int .i64 (x14), .int .i64 (x15), .int .i64 (x16), .int .i64 (x17), .int .i64 (x18), .int .i64 (x19), .int .i64 (x20), .int .i64 (x21), .slice A22 (l25).length c23, .slice A3 (l28).length c4, .int .i64 (x26), .int .i64 (x27), .map (some g215)]) :: (hs209 ++ (hs2 ++ (hs214 ++ R))) = hp' ∧ OS 82 (OT.fr rApiState) b'.w (.slice A210 l218.length c211) l218 hs209 ∧ OM (RT.int .i64) (OT.list 3 (OT.fr (RT.int .i64))) false false b'.w g215 l219 hs214) := by
  refine fn_enterG 52 Tryd.func99 rfl Tryd.ntmps99 rfl ?_
  unfold mRunRunnerStates at hm
  refine c_seq ?_
  refine c_region ?_
  refine t_st rfl (st_assign rfl) ?_
  refine t_st rfl (st_assign rfl) ?_
  refine t_nil ?_
  refine x_then_normal ?_
  refine c_seq ?_
  refine c_region ?_
  refine t_st rfl (st_move rfl) ?_
  refine t_st rfl (st_build (v := .agg #[.int .i64 (x11), .int .i64 (0), .int .i64 (0)]) [(0, .int .i64 (x11))] rfl (fun _ => by kernel_rfl)) ?_
  refine t_do rfl (u_bslice (el := 82) [(0, .agg #[.int .i64 (x11), .int .i64 (0), .int .i64 (0)])] [.int .i64 (x11), .int .i64 (0), .int .i64 (0)] rfl (fun _ => by kernel_rfl)) ?_
  rintro _ _ ⟨g220, rfl, rfl⟩
  refine t_st rfl (st_assign rfl) ?_
  refine t_nil ?_
  refine x_then_normal ?_
  refine c_seq ?_
  refine c_seq ?_
  refine c_region ?_
  refine t_st rfl (st_move rfl) ?_
  refine t_nil ?_
  refine x_then_normal ?_
  refine c_block ?_
  refine c_seg 0 [_] (hs2 ++ (hs7 ++ R)) rfl rfl ?_
  have h223 : OS 82 (OT.fr rApiState) b.w (.slice (some ⟨g220, 0, none⟩) 1 1) [(⟨x11, 0, 0⟩ : ApiState)] [(g220, Cl 82 [.int .i64 (x11), .int .i64 (0), .int .i64 (0)])] := OS.lit [[.int .i64 (x11), .int .i64 (0), .int .i64 (0)]] rfl ⟨⟨[.int .i64 (x11)], _, rfl, rfl, ⟨[.int .i64 (0)], _, rfl, rfl, rfl⟩⟩, trivial⟩ rfl (by decide)
  refine c_front3 [_] [(g220, Cl 82 [.int .i64 (x11), .int .i64 (0), .int .i64 (0)])] hs2 hs7 R rfl ?_
  refine c_front3 [_] hs7 [(g220, Cl 82 [.int .i64 (x11), .int .i64 (0), .int .i64 (0)])] hs2 R rfl ?_
  refine c_front3 [_] hs2 hs7 [(g220, Cl 82 [.int .i64 (x11), .int .i64 (0), .int .i64 (0)])] R rfl ?_
  obtain ⟨t345, hl346, hk347⟩ := bindS hm
  refine c_forM (fun k344 => unc2 fun l342 l343 => fun b331 e' hp' => ∃ (A335 : Option Addr), ∃ (c336 : Nat), ∃ (hs334 : Hp), ∃ (g340 : Nat), ∃ (hs339 : Hp), [(0, .pointer (some ⟨g10, 0, none⟩)), (6, .slice A335 (l342).length c336), (11, .int .i64 ((k344 : Int)))] = e' ∧ (g10, Cl 170 [.string (x12), .int .i64 (x13), .int .i64 (x14), .int .i64 (x15), .int .i64 (x16), .int .i64 (x17), .int .i64 (x18), .int .i64 (x19), .int .i64 (x20), .int .i64 (x21), .slice A22 (l25).length c23, .slice A3 (l28).length c4, .int .i64 (x26), .int .i64 (x27), .map (some g340)]) :: (hs334 ++ (hs2 ++ (hs339 ++ R))) = hp' ∧ b.Le b331 ∧ OS 82 (OT.fr rApiState) b331.w (.slice A335 l342.length c336) l342 hs334 ∧ OM (RT.int .i64) (OT.list 3 (OT.fr (RT.int .i64))) false false b331.w g340 l343 hs339) hl346 (e' := [(0, .pointer (some ⟨g10, 0, none⟩)), (6, .slice (some ⟨g220, 0, none⟩) ([(⟨x11, 0, 0⟩ : ApiState)]).length 1), (11, .int .i64 0)]) (hp' := (g10, Cl 170 [.string (x12), .int .i64 (x13), .int .i64 (x14), .int .i64 (x15), .int .i64 (x16), .int .i64 (x17), .int .i64 (x18), .int .i64 (x19), .int .i64 (x20), .int .i64 (x21), .slice A22 (l25).length c23, .slice A3 (l28).length c4, .int .i64 (x26), .int .i64 (x27), .map (some g8)]) :: ([(g220, Cl 82 [.int .i64 (x11), .int .i64 (0), .int .i64 (0)])] ++ (hs2 ++ (hs7 ++ R)))) ⟨rfl, rfl, rfl, trivial⟩ (.cons_cons _ (sub_app [(g220, Cl 82 [.int .i64 (x11), .int .i64 (0), .int .i64 (0)])] (sub_app hs2 (sub_app hs7 (.refl _))))) ⟨(some ⟨g220, 0, none⟩), 1, [(g220, Cl 82 [.int .i64 (x11), .int .i64 (0), .int .i64 (0)])], g8, hs7, rfl, rfl, (Base.Le.refl _), h223, h9⟩ ?_ ?_
  ·
    rintro k344 ⟨l342, l343⟩ b331 _ _ oL221 hknL221 ⟨A335, c336, hs334, g340, hs339, rfl, rfl, hle332, h337, h341⟩ hstepL221 houtL221
    unfold mRunRunnerStates_L221 at hstepL221
    have hm := (unc2E hstepL221)
    refine c_seq ?_
    refine c_region ?_
    refine t_st rfl (st_lss_t rfl rfl (by omega)) ?_
    refine t_nil ?_
    refine x_then_normal ?_
    refine c_seq ?_
    refine c_cond_t rfl ?_
    refine c_skip ?_
    refine x_then_normal ?_
    refine c_seq ?_
    refine c_block ?_
    refine c_seq ?_
    refine c_region ?_
    refine t_st rfl (st_move rfl) ?_
    refine t_st rfl (st_move rfl) ?_
    refine t_st rfl (st_len rfl sl87) ?_
    obtain ⟨_, h348, hm⟩ := bindS hm
    have h348 := (chk_some h348).2
    refine t_st rfl (st_sub rfl rfl h348) ?_
    obtain ⟨x349, h350, hm⟩ := bindS hm
    obtain ⟨j351, hj352, hx353⟩ := idx_some h350
    obtain ⟨cs354, hs359, P360, P361, hq362, hr355, hcs356, hA357, hlt358, hb363, hho364⟩ := OS.get (sz := 3) rfl (by decide) h337 hx353
    obtain ⟨⟨_, _, rfl, rfl, ⟨_, _, rfl, rfl, rfl⟩⟩, rfl⟩ := hr355
    refine t_st rfl (st_index_old j351 rfl rfl hj352 hlt358 hA357 sl87) ?_
    refine t_st rfl (st_assign rfl) ?_
    refine t_nil ?_
    refine x_then_normal ?_
    refine c_seq ?_
    obtain ⟨x371, hj372, hk372⟩ := bindS hm
    refine c_join (fun b369 e' hp' => [(0, .pointer (some ⟨g10, 0, none⟩)), (6, .slice A335 (l342).length c336), (7, .pointer (Option.map (fun (x : Addr) => x.add (j351 * 3)) A335)), (11, .int .i64 ((k344 : Int))), (34, .bool (x371))] = e' ∧ (g10, Cl 170 [.string (x12), .int .i64 (x13), .int .i64 (x14), .int .i64 (x15), .int .i64 (x16), .int .i64 (x17), .int .i64 (x18), .int .i64 (x19), .int .i64 (x20), .int .i64 (x21), .slice A22 (l25).length c23, .slice A3 (l28).length c4, .int .i64 (x26), .int .i64 (x27), .map (some g340)]) :: (hs334 ++ (hs2 ++ (hs339 ++ R))) = hp' ∧ b331.Le b369) ?_ ?_
    ·
      have hm := hj372
      by_cases hc375 : x349.Speed = 0
      ·
        rw [if_pos hc375] at hm
        obtain ⟨_, h376, hm⟩ := bindS hm
        refine D_drawS ((g10, Cl 170 [.string (x12), .int .i64 (x13), .int .i64 (x14), .int .i64 (x15), .int .i64 (x16), .int .i64 (x17), .int .i64 (x18), .int .i64 (x19), .int .i64 (x20), .int .i64 (x21), .slice A22 (l25).length c23, .slice A3 (l28).length c4, .int .i64 (x26), .int .i64 (x27), .map (some g340)]) :: (hs334 ++ (hs2 ++ (hs339 ++ R)))) mixed ?_
        refine D_st (Base.Le.refl _) 0 rfl (by kernel_rfl) (by kernel_rfl) (by kernel_rfl) rfl (st_move rfl) (.cons_cons _ (sub_app hs334 (sub_app hs2 (sub_app hs339 (.refl _))))) ?_
        refine D_st (Base.Le.refl _) 1 rfl (by kernel_rfl) (by kernel_rfl) (by kernel_rfl) rfl (st_nil_el rfl hA357) (.cons_cons _ (sub_app hs334 (sub_app hs2 (sub_app hs339 (.refl _))))) ?_
        refine D_st (Base.Le.refl _) 2 rfl (by kernel_rfl) (by kernel_rfl) (by kernel_rfl) rfl (st_field_old rfl hA357 fld82_1) (.cons_cons _ (sub_app hs334 (sub_app hs2 (sub_app hs339 (.refl _))))) ?_
        refine D_st (Base.Le.refl _) 3 rfl (by kernel_rfl) (by kernel_rfl) (by kernel_rfl) rfl (st_load_rd rfl one3 (fun w ho => hcs356 w _ ho (.cons _ (List.sublist_append_left _ _)) 1 _ rfl)) (.cons_cons _ (sub_app hs334 (sub_app hs2 (sub_app hs339 (.refl _))))) ?_
        refine D_st (Base.Le.refl _) 4 rfl (by kernel_rfl) (by kernel_rfl) (by kernel_rfl) rfl (st_eql_t rfl rfl hc375) (.cons_cons _ (sub_app hs334 (sub_app hs2 (sub_app hs339 (.refl _))))) ?_
        refine D_st (Base.Le.refl _) 5 rfl (by kernel_rfl) (by kernel_rfl) (by kernel_rfl) rfl (st_move rfl) (.cons_cons _ (sub_app hs334 (sub_app hs2 (sub_app hs339 (.refl _))))) ?_
        refine D_yes (Base.Le.refl _) 6 23 rfl (by kernel_rfl) (by kernel_rfl) (by kernel_rfl) rfl rfl rfl rfl (st_move rfl) (.cons_cons _ (sub_app hs334 (sub_app hs2 (sub_app hs339 (.refl _))))) ?_
        refine D_yes (Base.Le.refl _) 7 23 rfl (by kernel_rfl) (by kernel_rfl) (by kernel_rfl) rfl rfl rfl rfl (st_nil rfl) (.cons_cons _ (sub_app hs334 (sub_app hs2 (sub_app hs339 (.refl _))))) ?_
        refine D_yes (Base.Le.refl _) 8 23 rfl (by kernel_rfl) (by kernel_rfl) (by kernel_rfl) rfl rfl rfl rfl (st_field rfl fld170_3) (.cons_cons _ (sub_app hs334 (sub_app hs2 (sub_app hs339 (.refl _))))) ?_
        refine D_yes (Base.Le.refl _) 9 23 rfl (by kernel_rfl) (by kernel_rfl) (by kernel_rfl) rfl rfl rfl rfl (st_load 0 rfl one3 rfl rfl) (.cons_cons _ (sub_app hs334 (sub_app hs2 (sub_app hs339 (.refl _))))) ?_
        refine D_yes (Base.Le.refl _) 10 23 rfl (by kernel_rfl) (by kernel_rfl) (by kernel_rfl) rfl rfl rfl rfl (st_move rfl) (.cons_cons _ (sub_app hs334 (sub_app hs2 (sub_app hs339 (.refl _))))) ?_
        refine D_yes (Base.Le.refl _) 11 23 rfl (by kernel_rfl) (by kernel_rfl) (by kernel_rfl) rfl rfl rfl rfl (st_nil_el rfl hA357) (.cons_cons _ (sub_app hs334 (sub_app hs2 (sub_app hs339 (.refl _))))) ?_
        refine D_yes (Base.Le.refl _) 12 23 rfl (by kernel_rfl) (by kernel_rfl) (by kernel_rfl) rfl rfl rfl rfl (st_field_old rfl hA357 fld82_0) (.cons_cons _ (sub_app hs334 (sub_app hs2 (sub_app hs339 (.refl _))))) ?_
        refine D_yes (Base.Le.refl _) 13 23 rfl (by kernel_rfl) (by kernel_rfl) (by kernel_rfl) rfl rfl rfl rfl (st_load_rd rfl one3 (fun w ho => hcs356 w _ ho (.cons _ (List.sublist_append_left _ _)) 0 _ rfl)) (.cons_cons _ (sub_app hs334 (sub_app hs2 (sub_app hs339 (.refl _))))) ?_
        have h376 := (chk_some h376).2
        refine D_yes (Base.Le.refl _) 14 23 rfl (by kernel_rfl) (by kernel_rfl) (by kernel_rfl) rfl rfl rfl rfl (st_sub rfl rfl h376) (.cons_cons _ (sub_app hs334 (sub_app hs2 (sub_app hs339 (.refl _))))) ?_
        refine D_yes (Base.Le.refl _) 15 23 rfl (by kernel_rfl) (by kernel_rfl) (by kernel_rfl) rfl rfl rfl rfl (st_leq rfl rfl) (.cons_cons _ (sub_app hs334 (sub_app hs2 (sub_app hs339 (.refl _))))) ?_
        refine D_st (Base.Le.refl _) 16 rfl (by kernel_rfl) (by kernel_rfl) (by kernel_rfl) rfl (st_pick_t rfl rfl) (.cons_cons _ (sub_app hs334 (sub_app hs2 (sub_app hs339 (.refl _))))) ?_
        refine D_done (by kernel_rfl) ?_
        obtain rfl := some1 hm
        refine x_front3 [_] hs334 hs2 hs339 R rfl ?_
        refine x_front3 [_] hs339 hs334 hs2 R rfl ?_
        refine x_front3 [_] hs2 hs339 hs334 R rfl ?_
        exact x_join (e' := [(0, .pointer (some ⟨g10, 0, none⟩)), (6, .slice A335 (l342).length c336), (7, .pointer (Option.map (fun (x : Addr) => x.add (j351 * 3)) A335)), (11, .int .i64 ((k344 : Int))), (34, .bool (decide ((x26 - x349.At) ≤ 100)))]) (hp' := (g10, Cl 170 [.string (x12), .int .i64 (x13), .int .i64 (x14), .int .i64 (x15), .int .i64 (x16), .int .i64 (x17), .int .i64 (x18), .int .i64 (x19), .int .i64 (x20), .int .i64 (x21), .slice A22 (l25).length c23, .slice A3 (l28).length c4, .int .i64 (x26), .int .i64 (x27), .map (some g340)]) :: (hs334 ++ (hs2 ++ (hs339 ++ R)))) ⟨rfl, rfl, rfl, rfl, rfl, trivial⟩ (.cons_cons _ (sub_app hs334 (sub_app hs2 (sub_app hs339 (.refl _))))) ⟨rfl, rfl, (Base.Le.refl _)⟩
      ·
        rw [if_neg hc375] at hm
        refine D_drawS ((g10, Cl 170 [.string (x12), .int .i64 (x13), .int .i64 (x14), .int .i64 (x15), .int .i64 (x16), .int .i64 (x17), .int .i64 (x18), .int .i64 (x19), .int .i64 (x20), .int .i64 (x21), .slice A22 (l25).length c23, .slice A3 (l28).length c4, .int .i64 (x26), .int .i64 (x27), .map (some g340)]) :: (hs334 ++ (hs2 ++ (hs339 ++ R)))) mixed ?_
        refine D_st (Base.Le.refl _) 0 rfl (by kernel_rfl) (by kernel_rfl) (by kernel_rfl) rfl (st_move rfl) (.cons_cons _ (sub_app hs334 (sub_app hs2 (sub_app hs339 (.refl _))))) ?_
        refine D_st (Base.Le.refl _) 1 rfl (by kernel_rfl) (by kernel_rfl) (by kernel_rfl) rfl (st_nil_el rfl hA357) (.cons_cons _ (sub_app hs334 (sub_app hs2 (sub_app hs339 (.refl _))))) ?_
        refine D_st (Base.Le.refl _) 2 rfl (by kernel_rfl) (by kernel_rfl) (by kernel_rfl) rfl (st_field_old rfl hA357 fld82_1) (.cons_cons _ (sub_app hs334 (sub_app hs2 (sub_app hs339 (.refl _))))) ?_
        refine D_st (Base.Le.refl _) 3 rfl (by kernel_rfl) (by kernel_rfl) (by kernel_rfl) rfl (st_load_rd rfl one3 (fun w ho => hcs356 w _ ho (.cons _ (List.sublist_append_left _ _)) 1 _ rfl)) (.cons_cons _ (sub_app hs334 (sub_app hs2 (sub_app hs339 (.refl _))))) ?_
        refine D_st (Base.Le.refl _) 4 rfl (by kernel_rfl) (by kernel_rfl) (by kernel_rfl) rfl (st_eql_f rfl rfl hc375) (.cons_cons _ (sub_app hs334 (sub_app hs2 (sub_app hs339 (.refl _))))) ?_
        refine D_st (Base.Le.refl _) 5 rfl (by kernel_rfl) (by kernel_rfl) (by kernel_rfl) rfl (st_move rfl) (.cons_cons _ (sub_app hs334 (sub_app hs2 (sub_app hs339 (.refl _))))) ?_
        refine D_no (Base.Le.refl _) 6 23 rfl (by kernel_rfl) (by kernel_rfl) (by kernel_rfl) rfl rfl rfl rfl rfl (.cons_cons _ (sub_app hs334 (sub_app hs2 (sub_app hs339 (.refl _))))) ?_
        refine D_no (Base.Le.refl _) 7 23 rfl (by kernel_rfl) (by kernel_rfl) (by kernel_rfl) rfl rfl rfl rfl rfl (.cons_cons _ (sub_app hs334 (sub_app hs2 (sub_app hs339 (.refl _))))) ?_
        refine D_no (Base.Le.refl _) 8 23 rfl (by kernel_rfl) (by kernel_rfl) (by kernel_rfl) rfl rfl rfl rfl rfl (.cons_cons _ (sub_app hs334 (sub_app hs2 (sub_app hs339 (.refl _))))) ?_
        refine D_no (Base.Le.refl _) 9 23 rfl (by kernel_rfl) (by kernel_rfl) (by kernel_rfl) rfl rfl rfl rfl rfl (.cons_cons _ (sub_app hs334 (sub_app hs2 (sub_app hs339 (.refl _))))) ?_
        refine D_no (Base.Le.refl _) 10 23 rfl (by kernel_rfl) (by kernel_rfl) (by kernel_rfl) rfl rfl rfl rfl rfl (.cons_cons _ (sub_app hs334 (sub_app hs2 (sub_app hs339 (.refl _))))) ?_
        refine D_no (Base.Le.refl _) 11 23 rfl (by kernel_rfl) (by kernel_rfl) (by kernel_rfl) rfl rfl rfl rfl rfl (.cons_cons _ (sub_app hs334 (sub_app hs2 (sub_app hs339 (.refl _))))) ?_
        refine D_no (Base.Le.refl _) 12 23 rfl (by kernel_rfl) (by kernel_rfl) (by kernel_rfl) rfl rfl rfl rfl rfl (.cons_cons _ (sub_app hs334 (sub_app hs2 (sub_app hs339 (.refl _))))) ?_
        refine D_no (Base.Le.refl _) 13 23 rfl (by kernel_rfl) (by kernel_rfl) (by kernel_rfl) rfl rfl rfl rfl rfl (.cons_cons _ (sub_app hs334 (sub_app hs2 (sub_app hs339 (.refl _))))) ?_
        refine D_no (Base.Le.refl _) 14 23 rfl (by kernel_rfl) (by kernel_rfl) (by kernel_rfl) rfl rfl rfl rfl rfl (.cons_cons _ (sub_app hs334 (sub_app hs2 (sub_app hs339 (.refl _))))) ?_
        refine D_no (Base.Le.refl _) 15 23 rfl (by kernel_rfl) (by kernel_rfl) (by kernel_rfl) rfl rfl rfl rfl rfl (.cons_cons _ (sub_app hs334 (sub_app hs2 (sub_app hs339 (.refl _))))) ?_
        refine D_st (Base.Le.refl _) 16 rfl (by kernel_rfl) (by kernel_rfl) (by kernel_rfl) rfl (st_pick_f rfl rfl) (.cons_cons _ (sub_app hs334 (sub_app hs2 (sub_app hs339 (.refl _))))) ?_
        refine D_done (by kernel_rfl) ?_
        obtain rfl := some1 hm
        refine x_front3 [_] hs334 hs2 hs339 R rfl ?_
        refine x_front3 [_] hs339 hs334 hs2 R rfl ?_
        refine x_front3 [_] hs2 hs339 hs334 R rfl ?_
        exact x_join (e' := [(0, .pointer (some ⟨g10, 0, none⟩)), (6, .slice A335 (l342).length c336), (7, .pointer (Option.map (fun (x : Addr) => x.add (j351 * 3)) A335)), (11, .int .i64 ((k344 : Int))), (34, .bool (false))]) (hp' := (g10, Cl 170 [.string (x12), .int .i64 (x13), .int .i64 (x14), .int .i64 (x15), .int .i64 (x16), .int .i64 (x17), .int .i64 (x18), .int .i64 (x19), .int .i64 (x20), .int .i64 (x21), .slice A22 (l25).length c23, .slice A3 (l28).length c4, .int .i64 (x26), .int .i64 (x27), .map (some g340)]) :: (hs334 ++ (hs2 ++ (hs339 ++ R)))) ⟨rfl, rfl, rfl, rfl, rfl, trivial⟩ (.cons_cons _ (sub_app hs334 (sub_app hs2 (sub_app hs339 (.refl _))))) ⟨rfl, rfl, (Base.Le.refl _)⟩
    ·
      rintro b369 _ _ ⟨rfl, rfl, hle370⟩
      have hm := hk372
      refine c_cond _ rfl (fun hc377 => ?_) (fun hc377 => ?_)
      ·
        rw [if_pos hc377] at hm
        refine c_seq ?_
        refine c_region ?_
        refine t_st rfl (st_move rfl) ?_
        refine t_st rfl (st_move rfl) ?_
        refine t_st rfl (st_nil rfl) ?_
        refine t_st rfl (st_field rfl fld170_3) ?_
        refine t_st rfl (st_load 0 rfl one3 rfl rfl) ?_
        refine t_st rfl (st_nil_el rfl hA357) ?_
        refine t_st rfl (st_field_old rfl hA357 fld82_0) ?_
        refine t_do rfl (u_putOS hj352 (sz := 3) (a' := (⟨x26, x349.Speed, x349.Work⟩ : ApiState)) rfl [_] (hs2 ++ (hs339 ++ R)) 0 1 [.int .i64 (x26)] rfl (h337.le hle370) hx353 rfl rfl rfl siz3 rfl (by intro u hu; simp only [List.mem_cons, List.not_mem_nil, or_false] at hu; subst hu; rfl) (fun cs hsj hh => by obtain ⟨⟨_, _, rfl, rfl, ⟨_, _, rfl, rfl, rfl⟩⟩, rfl⟩ := hh; exact ⟨by decide, ⟨[.int .i64 (x26)], _, rfl, rfl, ⟨[.int .i64 (x349.Speed)], _, rfl, rfl, rfl⟩⟩, rfl⟩)) ?_
        rintro _ _ ⟨hs378, rfl, h379⟩
        refine t_resp 6 rfl (v' := .slice A335 (put l342 ((l342.length : Int) - 1) (⟨x26, x349.Speed, x349.Work⟩ : ApiState)).length c336) (by simp only [put_length]) ?_
        refine t_nil ?_
        refine x_then_normal ?_
        refine c_seq ?_
        refine c_region ?_
        refine t_st rfl (st_move rfl) ?_
        refine t_st rfl (st_assign rfl) ?_
        refine t_st rfl (st_assign rfl) ?_
        refine t_nil ?_
        refine x_then_normal ?_
        refine c_ret ?_
        refine x_then_ret ?_
        refine x_block_ret ?_
        refine x_then_ret ?_
        refine x_then_ret ?_
        refine x_block_ret ?_
        refine x_then_ret ?_
        have hq380 := houtL221 _ (Option.some.inj hm).symm
        rw [hq380] at hk347
        have hm := elimR hk347
        obtain ⟨rfl, rfl, rfl⟩ := some3 hm
        refine x_front3 [_] hs378 hs2 hs339 R rfl ?_
        refine x_front3 [_] hs339 hs378 hs2 R rfl ?_
        refine x_front3 [_] hs2 hs339 hs378 R rfl ?_
        exact retM (rs := [.tmp 4, .tmp 5]) [.slice A335 (put l342 ((l342.length : Int) - 1) (⟨x26, x349.Speed, x349.Work⟩ : ApiState)).length c336, .bool (true)] (hle332.trans hle370) (by decide) rfl ⟨rfl, ⟨rfl, trivial⟩⟩ rfl (hp' := (g10, Cl 170 [.string (x12), .int .i64 (x13), .int .i64 (x14), .int .i64 (x15), .int .i64 (x16), .int .i64 (x17), .int .i64 (x18), .int .i64 (x19), .int .i64 (x20), .int .i64 (x21), .slice A22 (l25).length c23, .slice A3 (l28).length c4, .int .i64 (x26), .int .i64 (x27), .map (some g340)]) :: (hs378 ++ (hs2 ++ (hs339 ++ R)))) (.cons_cons _ (sub_app hs378 (sub_app hs2 (sub_app hs339 (.refl _))))) ⟨A335, c336, hs378, g340, hs339, rfl, rfl, h379, (h341.le hle370)⟩
      ·
        rw [if_neg (fun hh => Bool.noConfusion (hh.symm.trans hc377))] at hm
        refine c_skip ?_
        refine x_then_normal ?_
        refine c_region ?_
        refine t_st rfl (st_move rfl) ?_
        refine t_st rfl (st_move rfl) ?_
        refine t_st rfl (st_move rfl) ?_
        refine t_st rfl (st_nil_el rfl hA357) ?_
        refine t_st rfl (st_loadN_rd (vs := [.int .i64 (x349.At), .int .i64 (x349.Speed), .int .i64 (x349.Work)]) 3 rfl agg82 hA357 rfl (fun w ho j u hu => hcs356 w _ (hle370.back _ _ ho) (.cons _ (List.sublist_append_left _ _)) j u hu)) ?_
        obtain ⟨⟨x381, x382, x383, l384⟩, hcl385, hm⟩ := bindS hm
        have hm := (unc4E hm)
        refine t_front3 [_] hs334 hs2 hs339 R rfl ?_
        refine t_front3 [_] hs339 hs334 hs2 R rfl ?_
        refine t_out2 [_] [] hs2 hs339 (hs334 ++ R) rfl ?_
        refine t_callG _ rfl call71 rfl (cRunRunnerSecond _ _ x349 x12 x13 x14 x15 x16 x17 x18 x19 x20 x21 l25 x26 x27 l28 l343 g10 A22 c23 A3 c4 hs2 g340 hs339 (h24.le (hle332.trans hle370)) (h5.le (hle332.trans hle370)) (h341.le hle370) x381 x382 x383 l384 hcl385) ?_
        rintro _ b386 _ hle387 ⟨g388, hs389, rfl, rfl, h390⟩
        refine t_in2 [_] [] hs2 hs389 (hs334 ++ R) rfl ?_
        refine t_do rfl (u_bslice (el := 82) [(0, .agg #[.int .i64 (x381), .int .i64 (x382), .int .i64 (x383)])] [.int .i64 (x381), .int .i64 (x382), .int .i64 (x383)] rfl (fun _ => by kernel_rfl)) ?_
        rintro _ _ ⟨g391, rfl, rfl⟩
        obtain ⟨_, h392, hm⟩ := bindS hm
        have h392 := room_some h392
        refine t_front3 [_, _] hs2 hs389 hs334 R rfl ?_
        refine t_do rfl (u_appOS (r := rApiState) (l := l342) [_, _] (hs2 ++ (hs389 ++ R)) [[.int .i64 (x381), .int .i64 (x382), .int .i64 (x383)]] [(⟨x381, x382, x383⟩ : ApiState)] rfl (by decide) sl87 inf82 rfl rfl rfl rfl (h337.le (hle370.trans hle387)) rfl (fun w ho => Rd.own (i := 0) ho rfl) ⟨⟨[.int .i64 (x381)], _, rfl, rfl, ⟨[.int .i64 (x382)], _, rfl, rfl, rfl⟩⟩, trivial⟩ h392) ?_
        rintro _ _ ⟨hs393, rfl, h394⟩
        obtain ⟨A395, c396, rfl, _⟩ := h394.form
        refine t_st rfl (st_assign rfl) ?_
        refine t_nil ?_
        refine x_block_normal ?_
        refine x_then_normal ?_
        refine c_region ?_
        refine t_st rfl (st_add rfl rfl (by omega)) ?_
        refine t_st rfl (st_move rfl) ?_
        refine t_nil ?_
        refine x_pullb 1 rfl ?_
        refine x_front3 [_, _] hs393 hs2 hs389 R rfl ?_
        refine x_front3 [_, _] hs389 hs393 hs2 R rfl ?_
        refine x_front3 [_, _] hs2 hs389 hs393 R rfl ?_
        exact x_againM (l342 ++ [(⟨x381, x382, x383⟩ : ApiState)], l384) (Option.some.inj hm).symm (e' := [(0, .pointer (some ⟨g10, 0, none⟩)), (6, .slice A395 (l342 ++ [(⟨x381, x382, x383⟩ : ApiState)]).length c396), (11, .int .i64 ((k344 : Int) + 1))]) (hp' := (g10, Cl 170 [.string (x12), .int .i64 (x13), .int .i64 (x14), .int .i64 (x15), .int .i64 (x16), .int .i64 (x17), .int .i64 (x18), .int .i64 (x19), .int .i64 (x20), .int .i64 (x21), .slice A22 (l25).length c23, .slice A3 (l28).length c4, .int .i64 (x26), .int .i64 (x27), .map (some g388)]) :: (hs393 ++ (hs2 ++ (hs389 ++ R)))) ⟨rfl, rfl, rfl, trivial⟩ (.cons_cons _ (.cons _ (sub_app hs393 (sub_app hs2 (sub_app hs389 (.refl _)))))) ⟨A395, c396, hs393, g388, hs389, rfl, rfl, ((hle332.trans (hle370.trans hle387))), h394, h390⟩
  ·
    rintro ⟨l342, l343⟩ b331 _ _ ⟨A335, c336, hs334, g340, hs339, rfl, rfl, hle332, h337, h341⟩ hq397
    rw [hq397] at hk347
    have hm := elimL hk347
    have hm := (unc2E hm)
    refine c_seq ?_
    refine c_region ?_
    refine t_st rfl (st_lss_f rfl rfl (by omega)) ?_
    refine t_nil ?_
    refine x_then_normal ?_
    refine c_seq ?_
    refine c_cond_f rfl ?_
    refine c_exit ?_
    refine x_then_exit ?_
    refine x_then_exit ?_
    refine x_block_out ?_
    refine x_then_normal ?_
    refine c_seq ?_
    refine c_region ?_
    refine t_st rfl (st_assign rfl) ?_
    refine t_st rfl (st_assign rfl) ?_
    refine t_nil ?_
    refine x_then_normal ?_
    refine c_ret ?_
    obtain ⟨rfl, rfl, rfl⟩ := some3 hm
    refine x_front3 [_] hs334 hs2 hs339 R rfl ?_
    refine x_front3 [_] hs339 hs334 hs2 R rfl ?_
    exact retM (rs := [.tmp 4, .tmp 5]) [.slice none 0 0, .bool (false)] hle332 (by decide) rfl ⟨rfl, ⟨rfl, trivial⟩⟩ rfl (hp' := (g10, Cl 170 [.string (x12), .int .i64 (x13), .int .i64 (x14), .int .i64 (x15), .int .i64 (x16), .int .i64 (x17), .int .i64 (x18), .int .i64 (x19), .int .i64 (x20), .int .i64 (x21), .slice A22 (l25).length c23, .slice A3 (l28).length c4, .int .i64 (x26), .int .i64 (x27), .map (some g340)]) :: ([] ++ (hs2 ++ (hs339 ++ R)))) (.cons_cons _ (sub_app hs2 (sub_app hs339 (sub_skip hs334 (.refl _))))) ⟨none, 0, [], g340, hs339, rfl, rfl, OS.nil, h341⟩

set_option maxRecDepth 20000 in
theorem cRunStates (b : Base) (R : Hp) (s1 : ApiStock) (l5 : (List ApiPiece)) (x6 : Int) (x7 : Int) (x8 : Int) (A2 : Option Addr) (c3 : Nat) (h4 : FZ rApiPiece b.w A2 c3 l5) (x58 : Int) (l59 : (List ApiState)) (hm : mRunStates s1 l5 x6 x7 x8 = some (x58, l59)) :
    CallsG Tryd.prog 74 [.agg #[.string (s1.Name), .int .i64 (s1.Length), .int .i64 (s1.Mass), .int .i64 (s1.Start), .int .i64 (s1.Power), .int .i64 (s1.Roll), .int .i64 (s1.Drag), .int .i64 (s1.Brake), .int .i64 (s1.Top), .int .i64 (s1.Seats)], .slice A2 (l5).length c3, .int .i64 (x6), .int .i64 (x7), .int .i64 (x8)] b (R) (fun v b' hp' => ∃ (A55 : Option Addr), ∃ (c56 : Nat), ∃ (hs54 : Hp), .tuple #[.slice A55 (l59).length c56, .int .i64 (x58)] = v ∧ (hs54 ++ R) = hp' ∧ OS 82 (OT.fr rApiState) b'.w (.slice A55 l59.length c56) l59 hs54) := by
  refine fn_enterG 27 Tryd.func74 rfl Tryd.ntmps74 rfl ?_
  unfold mRunStates at hm
  refine c_seq ?_
  refine c_region ?_
  refine t_do rfl (u_box _ rfl rfl) ?_
  rintro _ _ ⟨g60, rfl, rfl⟩
  refine t_st rfl (st_assign rfl) ?_
  refine t_st rfl (st_assign rfl) ?_
  refine t_nil ?_
  refine x_then_normal ?_
  refine c_seq ?_
  refine c_region ?_
  refine t_st rfl (st_loadD (vs := [_, _, _, _, _, _, _, _, _, _]) 0 10 rfl agg43 rfl rfl rfl) ?_
  refine t_st rfl (st_move rfl) ?_
  refine t_st rfl (st_move rfl) ?_
  refine t_st rfl (st_move rfl) ?_
  obtain ⟨⟨x61, x62, x63, x64, x65, x66, x67, x68, x69, x70, l71, x72, x73, l74, l75⟩, hcl76, hm⟩ := bindS hm
  have hm := (unc15E hm)
  refine t_callG _ rfl call70 rfl (cRunNewRunner _ _ s1 l5 x7 x8 A2 c3 h4 x61 x62 x63 x64 x65 x66 x67 x68 x69 x70 l71 x72 x73 l74 l75 hcl76) ?_
  rintro _ b77 _ hle78 ⟨g79, A80, c81, A82, c83, hs84, g85, hs86, rfl, rfl, h87, h88, h89⟩
  refine t_in2 [_] [_] hs84 hs86 R rfl ?_
  refine t_st rfl (st_move rfl) ?_
  obtain ⟨⟨x90, l91, l92⟩, hcl93, hm⟩ := bindS hm
  have hm := (unc3E hm)
  refine t_front2 [_, _] hs84 hs86 R rfl ?_
  refine t_front2 [_, _] hs86 hs84 R rfl ?_
  refine t_out2 [_] [_] hs84 hs86 R rfl ?_
  refine t_callG _ rfl call99 rfl (cRunRunnerStates _ _ x6 x61 x62 x63 x64 x65 x66 x67 x68 x69 x70 l71 x72 x73 l74 l75 g79 A80 c81 A82 c83 hs84 g85 hs86 h87 h88 h89 x90 l91 l92 hcl93) ?_
  rintro _ b94 _ hle95 ⟨A96, c97, hs98, g99, hs100, rfl, rfl, h101, h102⟩
  refine t_in3 [_] [_] hs98 hs84 hs100 R rfl ?_
  refine t_st rfl (st_move rfl) ?_
  refine t_st rfl (st_extract rfl rfl) ?_
  refine t_st rfl (st_extract rfl rfl) ?_
  refine t_st rfl (st_assign rfl) ?_
  refine t_st rfl (st_assign rfl) ?_
  refine t_nil ?_
  refine x_then_normal ?_
  refine c_seq ?_
  refine c_seq ?_
  refine c_region ?_
  refine t_st rfl (st_move rfl) ?_
  refine t_st rfl (st_not rfl) ?_
  refine t_nil ?_
  refine x_then_normal ?_
  refine c_cond _ rfl (fun hc103 => ?_) (fun hc103 => ?_)
  ·
    rw [if_neg (fun hh => Bool.noConfusion (hh.symm.trans (notT hc103)))] at hm
    refine c_seq ?_
    refine c_region ?_
    refine t_st rfl (st_assign rfl) ?_
    refine t_st rfl (st_assign rfl) ?_
    refine t_nil ?_
    refine x_then_normal ?_
    refine c_ret ?_
    refine x_then_ret ?_
    obtain ⟨rfl, rfl⟩ := some2 hm
    exact retM (rs := [.tmp 10, .tmp 11]) [.slice none 0 0, .int .i64 (4)] (hle78.trans hle95) (by decide) rfl ⟨rfl, ⟨rfl, trivial⟩⟩ rfl (hp' := ([] ++ R)) (.cons _ (.cons _ (sub_skip hs98 (sub_skip hs84 (sub_skip hs100 (.refl _)))))) ⟨none, 0, [], rfl, rfl, OS.nil⟩
  ·
    rw [if_pos (notF hc103)] at hm
    refine c_skip ?_
    refine x_then_normal ?_
    refine c_seq ?_
    refine c_region ?_
    refine t_st rfl (st_move rfl) ?_
    refine t_st rfl (st_assign rfl) ?_
    refine t_st rfl (st_assign rfl) ?_
    refine t_nil ?_
    refine x_then_normal ?_
    refine c_ret ?_
    obtain ⟨rfl, rfl⟩ := some2 hm
    exact retM (rs := [.tmp 10, .tmp 11]) [.slice A96 (l91).length c97, .int .i64 (0)] (hle78.trans hle95) (by decide) rfl ⟨rfl, ⟨rfl, trivial⟩⟩ rfl (hp' := (hs98 ++ R)) (.cons _ (.cons _ (sub_app hs98 (sub_skip hs84 (sub_skip hs100 (.refl _)))))) ⟨A96, c97, hs98, rfl, rfl, h101⟩

set_option maxRecDepth 20000 in
theorem cRunGo (b : Base) (R : Hp) (s1 : ApiStock) (l5 : (List ApiPiece)) (x6 : Int) (x7 : Int) (A2 : Option Addr) (c3 : Nat) (h4 : FZ rApiPiece b.w A2 c3 l5) (x26 : Int) (l27 : (List ApiState)) (hm : mRunGo s1 l5 x6 x7 = some (x26, l27)) :
    CallsG Tryd.prog 42 [.agg #[.string (s1.Name), .int .i64 (s1.Length), .int .i64 (s1.Mass), .int .i64 (s1.Start), .int .i64 (s1.Power), .int .i64 (s1.Roll), .int .i64 (s1.Drag), .int .i64 (s1.Brake), .int .i64 (s1.Top), .int .i64 (s1.Seats)], .slice A2 (l5).length c3, .int .i64 (x6), .int .i64 (x7)] b (R) (fun v b' hp' => ∃ (A23 : Option Addr), ∃ (c24 : Nat), ∃ (hs22 : Hp), .tuple #[.slice A23 (l27).length c24, .int .i64 (x26)] = v ∧ (hs22 ++ R) = hp' ∧ OS 82 (OT.fr rApiState) b'.w (.slice A23 l27.length c24) l27 hs22) := by
  refine fn_enterG 29 Tryd.func42 rfl Tryd.ntmps42 rfl ?_
  unfold mRunGo at hm
  refine c_seq ?_
  refine c_region ?_
  refine t_do rfl (u_box _ rfl rfl) ?_
  rintro _ _ ⟨g28, rfl, rfl⟩
  refine t_st rfl (st_assign rfl) ?_
  refine t_st rfl (st_assign rfl) ?_
  refine t_nil ?_
  refine x_then_normal ?_
  refine c_seq ?_
  refine c_seq ?_
  refine c_region ?_
  refine t_st rfl (st_loadD (vs := [_, _, _, _, _, _, _, _, _, _]) 0 10 rfl agg43 rfl rfl rfl) ?_
  refine t_st rfl (st_move rfl) ?_
  refine t_st rfl (st_move rfl) ?_
  refine t_st rfl (st_build (v := .agg #[.int .i64 (x6), .int .i64 (0), .int .i64 (0)]) [(0, .int .i64 (x6))] rfl (fun _ => by kernel_rfl)) ?_
  refine t_st rfl (st_move rfl) ?_
  obtain ⟨x29, hcl30, hm⟩ := bindS hm
  refine t_do rfl (u_callW0 _ call69 rfl (fun w ho => cRunCheck_2 _ [] s1 l5 (⟨x6, 0, 0⟩ : ApiState) x7 A2 c3 (h4.old ho) x29 hcl30) (fun _ _ _ h => h.2.symm)) ?_
  rintro _ _ ⟨⟨_, rfl, _⟩, rfl⟩
  refine t_st rfl (st_assign rfl) ?_
  refine t_nil ?_
  refine x_then_normal ?_
  refine c_seq ?_
  refine c_region ?_
  refine t_st rfl (st_move rfl) ?_
  refine t_st rfl (st_neq rfl rfl) ?_
  refine t_nil ?_
  refine x_then_normal ?_
  refine c_cond _ rfl (fun hc31 => ?_) (fun hc31 => ?_)
  ·
    rw [if_pos (of_decide_eq_true hc31)] at hm
    refine c_seq ?_
    refine c_region ?_
    refine t_st rfl (st_move rfl) ?_
    refine t_st rfl (st_assign rfl) ?_
    refine t_st rfl (st_assign rfl) ?_
    refine t_nil ?_
    refine x_then_normal ?_
    refine c_ret ?_
    refine x_then_ret ?_
    obtain ⟨rfl, rfl⟩ := some2 hm
    exact retM (rs := [.tmp 8, .tmp 9]) [.slice none 0 0, .int .i64 (x29)] (Base.Le.refl _) (by decide) rfl ⟨rfl, ⟨rfl, trivial⟩⟩ rfl (hp' := ([] ++ R)) (.cons _ (.refl _)) ⟨none, 0, [], rfl, rfl, OS.nil⟩
  ·
    rw [if_neg (of_decide_eq_false hc31)] at hm
    refine c_skip ?_
    refine x_then_normal ?_
    refine c_seq ?_
    refine c_region ?_
    refine t_st rfl (st_loadD (vs := [_, _, _, _, _, _, _, _, _, _]) 0 10 rfl agg43 rfl rfl rfl) ?_
    refine t_st rfl (st_move rfl) ?_
    refine t_st rfl (st_move rfl) ?_
    refine t_st rfl (st_move rfl) ?_
    refine t_st rfl (st_field rfl fld43_8) ?_
    refine t_st rfl (st_load 0 rfl one3 rfl rfl) ?_
    obtain ⟨⟨x32, l33⟩, hcl34, hm⟩ := bindS hm
    have hm := (unc2E hm)
    refine t_callG _ rfl call74 rfl (cRunStates _ _ s1 l5 x6 x7 s1.Top A2 c3 h4 x32 l33 hcl34) ?_
    rintro _ b35 _ hle36 ⟨A37, c38, hs39, rfl, rfl, h40⟩
    refine t_in1 [] [_] hs39 R rfl ?_
    refine t_st rfl (st_extract rfl rfl) ?_
    refine t_st rfl (st_extract rfl rfl) ?_
    refine t_st rfl (st_assign rfl) ?_
    refine t_st rfl (st_assign rfl) ?_
    refine t_nil ?_
    refine x_then_normal ?_
    refine c_ret ?_
    obtain ⟨rfl, rfl⟩ := some2 hm
    exact retM (rs := [.tmp 8, .tmp 9]) [.slice A37 (l33).length c38, .int .i64 (x32)] hle36 (by decide) rfl ⟨rfl, ⟨rfl, trivial⟩⟩ rfl (hp' := (hs39 ++ R)) (.cons _ (sub_app hs39 (.refl _))) ⟨A37, c38, hs39, rfl, rfl, h40⟩

set_option maxRecDepth 20000 in
theorem cRunGain_2 (b : Base) (R : Hp) (s1 : ApiStock) (x2 : Int) (x3 : Int) (x25 : Int) (x26 : Int) (hm : mRunGain_2 s1 x2 x3 = some (x25, x26)) :
    CallsG Tryd.prog 73 [.agg #[.string (s1.Name), .int .i64 (s1.Length), .int .i64 (s1.Mass), .int .i64 (s1.Start), .int .i64 (s1.Power), .int .i64 (s1.Roll), .int .i64 (s1.Drag), .int .i64 (s1.Brake), .int .i64 (s1.Top), .int .i64 (s1.Seats)], .int .i64 (x2), .int .i64 (x3)] b (R) (fun v b' hp' => .tuple #[.int .i64 (x25), .int .i64 (x26)] = v ∧ R = hp') := by
  refine fn_enterG 26 Tryd.func73 rfl Tryd.ntmps73 rfl ?_
  unfold mRunGain_2 at hm
  refine c_seq ?_
  refine c_region ?_
  refine t_do rfl (u_box _ rfl rfl) ?_
  rintro _ _ ⟨g27, rfl, rfl⟩
  refine t_st rfl (st_assign rfl) ?_
  refine t_st rfl (st_assign rfl) ?_
  refine t_nil ?_
  refine x_then_normal ?_
  refine c_seq ?_
  refine c_seq ?_
  refine c_region ?_
  refine t_st rfl (st_loadD (vs := [_, _, _, _, _, _, _, _, _, _]) 0 10 rfl agg43 rfl rfl rfl) ?_
  obtain ⟨x28, hcl29, hm⟩ := bindS hm
  refine t_do rfl (u_callW0 _ call22 rfl (fun w ho => cRunCheck _ [] s1 x28 hcl29) (fun _ _ _ h => h.2.symm)) ?_
  rintro _ _ ⟨⟨_, rfl, _⟩, rfl⟩
  refine t_st rfl (st_assign rfl) ?_
  refine t_nil ?_
  refine x_then_normal ?_
  refine c_seq ?_
  refine c_region ?_
  refine t_st rfl (st_move rfl) ?_
  refine t_st rfl (st_neq rfl rfl) ?_
  refine t_nil ?_
  refine x_then_normal ?_
  refine c_cond _ rfl (fun hc30 => ?_) (fun hc30 => ?_)
  ·
    rw [if_pos (of_decide_eq_true hc30)] at hm
    refine c_seq ?_
    refine c_region ?_
    refine t_st rfl (st_move rfl) ?_
    refine t_st rfl (st_assign rfl) ?_
    refine t_st rfl (st_assign rfl) ?_
    refine t_nil ?_
    refine x_then_normal ?_
    refine c_ret ?_
    refine x_then_ret ?_
    obtain ⟨rfl, rfl⟩ := some2 hm
    exact retM (rs := [.tmp 6, .tmp 7]) [.int .i64 (0), .int .i64 (x28)] (Base.Le.refl _) (by decide) rfl ⟨rfl, ⟨rfl, trivial⟩⟩ rfl (hp' := R) (.cons _ (.refl _)) ⟨rfl, rfl⟩
  ·
    rw [if_neg (of_decide_eq_false hc30)] at hm
    refine c_skip ?_
    refine x_then_normal ?_
    refine c_seq ?_
    obtain ⟨x38, hj39, hk39⟩ := bindS hm
    refine c_join (fun b36 e' hp' => [(1, .int .i64 (x2)), (2, .int .i64 (x3)), (3, .pointer (some ⟨g27, 0, none⟩)), (21, .bool (x38))] = e' ∧ (g27, Cl 43 [.string (s1.Name), .int .i64 (s1.Length), .int .i64 (s1.Mass), .int .i64 (s1.Start), .int .i64 (s1.Power), .int .i64 (s1.Roll), .int .i64 (s1.Drag), .int .i64 (s1.Brake), .int .i64 (s1.Top), .int .i64 (s1.Seats)]) :: R = hp' ∧ b.Le b36) ?_ ?_
    ·
      have hm := hj39
      refine c_region ?_
      refine t_st rfl (st_move rfl) ?_
      obtain ⟨x40, hcl41, hm⟩ := bindS hm
      refine t_do rfl (u_callW0 _ call59 rfl (fun w ho => cRunWithin _ [] x2 0 6000 x40 hcl41) (fun _ _ _ h => h.2.symm)) ?_
      rintro _ _ ⟨⟨_, rfl, _⟩, rfl⟩
      rcases Bool.eq_false_or_eq_true x40 with hc42 | hc42
      ·
        rw [if_pos hc42] at hm
        refine t_resp 15 rfl (v' := .bool true) (by rw [hc42]) ?_
        refine t_st rfl (st_not_t rfl) ?_
        refine t_st rfl (st_move rfl) ?_
        refine t_yes 17 rfl rfl rfl ?_
        refine t_st rfl (st_move rfl) ?_
        refine t_yes 17 rfl rfl rfl ?_
        obtain ⟨x43, hcl44, hm⟩ := bindS hm
        refine t_do rfl (u_callW0 _ call59 rfl (fun w ho => cRunWithin _ [] x3 (-40) 40 x43 hcl44) (fun _ _ _ h => h.2.symm)) ?_
        rintro _ _ ⟨⟨_, rfl, _⟩, rfl⟩
        refine t_yes 17 rfl rfl rfl ?_
        refine t_st rfl (st_not rfl) ?_
        refine t_st rfl (st_pick_f rfl rfl) ?_
        refine t_nil ?_
        obtain rfl := some1 hm
        exact x_join (e' := [(1, .int .i64 (x2)), (2, .int .i64 (x3)), (3, .pointer (some ⟨g27, 0, none⟩)), (21, .bool (!x43))]) (hp' := (g27, Cl 43 [.string (s1.Name), .int .i64 (s1.Length), .int .i64 (s1.Mass), .int .i64 (s1.Start), .int .i64 (s1.Power), .int .i64 (s1.Roll), .int .i64 (s1.Drag), .int .i64 (s1.Brake), .int .i64 (s1.Top), .int .i64 (s1.Seats)]) :: R) ⟨rfl, rfl, rfl, rfl, trivial⟩ (.cons_cons _ (.refl _)) ⟨rfl, rfl, (Base.Le.refl _)⟩
      ·
        rw [if_neg (fun hh => Bool.noConfusion (hh.symm.trans hc42))] at hm
        refine t_resp 15 rfl (v' := .bool false) (by rw [hc42]) ?_
        refine t_st rfl (st_not_f rfl) ?_
        refine t_st rfl (st_move rfl) ?_
        refine t_no 17 rfl rfl rfl rfl rfl ?_
        refine t_no 17 rfl rfl rfl rfl rfl ?_
        refine t_no 17 rfl rfl rfl rfl rfl ?_
        refine t_st rfl (st_pick_t rfl rfl) ?_
        refine t_nil ?_
        obtain rfl := some1 hm
        exact x_join (e' := [(1, .int .i64 (x2)), (2, .int .i64 (x3)), (3, .pointer (some ⟨g27, 0, none⟩)), (21, .bool (true))]) (hp' := (g27, Cl 43 [.string (s1.Name), .int .i64 (s1.Length), .int .i64 (s1.Mass), .int .i64 (s1.Start), .int .i64 (s1.Power), .int .i64 (s1.Roll), .int .i64 (s1.Drag), .int .i64 (s1.Brake), .int .i64 (s1.Top), .int .i64 (s1.Seats)]) :: R) ⟨rfl, rfl, rfl, rfl, trivial⟩ (.cons_cons _ (.refl _)) ⟨rfl, rfl, (Base.Le.refl _)⟩
    ·
      rintro b36 _ _ ⟨rfl, rfl, hle37⟩
      have hm := hk39
      refine c_cond _ rfl (fun hc45 => ?_) (fun hc45 => ?_)
      ·
        rw [if_pos hc45] at hm
        refine c_seq ?_
        refine c_region ?_
        refine t_st rfl (st_assign rfl) ?_
        refine t_st rfl (st_assign rfl) ?_
        refine t_nil ?_
        refine x_then_normal ?_
        refine c_ret ?_
        refine x_then_ret ?_
        obtain ⟨rfl, rfl⟩ := some2 hm
        exact retM (rs := [.tmp 6, .tmp 7]) [.int .i64 (0), .int .i64 (2)] hle37 (by decide) rfl ⟨rfl, ⟨rfl, trivial⟩⟩ rfl (hp' := R) (.cons _ (.refl _)) ⟨rfl, rfl⟩
      ·
        rw [if_neg (fun hh => Bool.noConfusion (hh.symm.trans hc45))] at hm
        refine c_skip ?_
        refine x_then_normal ?_
        refine c_seq ?_
        refine c_region ?_
        refine t_st rfl (st_loadD (vs := [_, _, _, _, _, _, _, _, _, _]) 0 10 rfl agg43 rfl rfl rfl) ?_
        refine t_st rfl (st_move rfl) ?_
        refine t_st rfl (st_move rfl) ?_
        obtain ⟨x46, hcl47, hm⟩ := bindS hm
        refine t_do rfl (u_callW0 _ call96 rfl (fun w ho => cRunGain _ [] s1 x2 x3 x46 hcl47) (fun _ _ _ h => h.2.symm)) ?_
        rintro _ _ ⟨⟨_, rfl, _⟩, rfl⟩
        refine t_st rfl (st_assign rfl) ?_
        refine t_st rfl (st_assign rfl) ?_
        refine t_nil ?_
        refine x_then_normal ?_
        refine c_ret ?_
        obtain ⟨rfl, rfl⟩ := some2 hm
        exact retM (rs := [.tmp 6, .tmp 7]) [.int .i64 (x46), .int .i64 (0)] hle37 (by decide) rfl ⟨rfl, ⟨rfl, trivial⟩⟩ rfl (hp' := R) (.cons _ (.refl _)) ⟨rfl, rfl⟩

end Go.Proofs.YtljcafilceachaaDoor
