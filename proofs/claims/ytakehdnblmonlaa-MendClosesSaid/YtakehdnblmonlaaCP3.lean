/- Contracts: the code computes its model (part 3). -/
import Derived.Test.YtakehdnblmonlaaCP2
set_option linter.unusedVariables false
set_option linter.unusedSimpArgs false
namespace Go.Proofs.Ytakehdnblmonlaa
open Go.RowKit Go.Fp

set_option maxRecDepth 20000 in
theorem cMendSolverWith_1_2 (b : Base) (R : Hp) (s32 : MendArc) (x33 : Bool) (l37 : (List Int)) (l38 : (List Int)) (l39 : (List Bool)) (l40 : (List Int)) (l41 : (List Int)) (l42 : (List (List MendArc))) (g26 : Nat) (g27 : Nat) (g28 : Nat) (g29 : Nat) (g30 : Nat) (g31 : Nat) (A34 : Option Addr) (c35 : Nat) (A3 : Option Addr) (c4 : Nat) (hs2 : Hp) (A8 : Option Addr) (c9 : Nat) (hs7 : Hp) (A13 : Option Addr) (c14 : Nat) (hs12 : Hp) (A18 : Option Addr) (c19 : Nat) (hs17 : Hp) (A23 : Option Addr) (c24 : Nat) (hs22 : Hp) (h36 : FZ (RT.int .i64) b.w A34 c35 l37) (h5 : OS 3 (OT.fr (RT.int .i64)) b.w (.slice A3 l38.length c4) l38 hs2) (h10 : OS 4 (OT.fr RT.bool) b.w (.slice A8 l39.length c9) l39 hs7) (h15 : OS 3 (OT.fr (RT.int .i64)) b.w (.slice A13 l40.length c14) l40 hs12) (h20 : OS 3 (OT.fr (RT.int .i64)) b.w (.slice A18 l41.length c19) l41 hs17) (h25 : OS 23 (OT.fr (RT.list rMendArc)) b.w (.slice A23 l42.length c24) l42 hs22) (x469 : Bool) (l470 : (List Int)) (l472 : (List Bool)) (l474 : (List Int)) (l475 : (List Int)) (hm : mMendSolverWith_1_2 s32 x33 l37 l38 l39 l40 l41 l42 = some (x469, l470, l472, l474, l475)) :
    CallsG Try.prog 61 [.agg #[.int .i64 (s32.From), .int .i64 (s32.To), .int .i64 (s32.Len)], .pointer (some ⟨g26, 0, none⟩), .pointer (some ⟨g27, 0, none⟩), .pointer (some ⟨g28, 0, none⟩), .pointer (some ⟨g29, 0, none⟩), .pointer (some ⟨g30, 0, none⟩)] b ((g26, Cl 69 [.pointer (some ⟨g31, 0, none⟩)]) :: (g27, Cl 22 [.slice A3 (l38).length c4]) :: (g28, Cl 4 [.bool (x33)]) :: (g29, Cl 88 [.slice A8 (l39).length c9]) :: (g30, Cl 22 [.slice A13 (l40).length c14]) :: (g31, Cl 73 [.slice A18 (l41).length c19, .slice A34 (l37).length c35, .slice A23 (l42).length c24]) :: (hs2 ++ (hs7 ++ (hs12 ++ (hs17 ++ (hs22 ++ R)))))) (fun v b' hp' => ∃ (hs456 : Hp), ∃ (hs459 : Hp), ∃ (A463 : Option Addr), ∃ (c464 : Nat), ∃ (hs462 : Hp), ∃ (hs467 : Hp), .tuple #[] = v ∧ (g26, Cl 69 [.pointer (some ⟨g31, 0, none⟩)]) :: (g27, Cl 22 [.slice A3 (l470).length c4]) :: (g28, Cl 4 [.bool (x469)]) :: (g29, Cl 88 [.slice A8 (l472).length c9]) :: (g30, Cl 22 [.slice A463 (l474).length c464]) :: (g31, Cl 73 [.slice A18 (l475).length c19, .slice A34 (l37).length c35, .slice A23 (l42).length c24]) :: (hs456 ++ (hs459 ++ (hs462 ++ (hs467 ++ (hs22 ++ R))))) = hp' ∧ OS 3 (OT.fr (RT.int .i64)) b'.w (.slice A3 l470.length c4) l470 hs456 ∧ l470.length = l38.length ∧ OS 4 (OT.fr RT.bool) b'.w (.slice A8 l472.length c9) l472 hs459 ∧ l472.length = l39.length ∧ OS 3 (OT.fr (RT.int .i64)) b'.w (.slice A463 l474.length c464) l474 hs462 ∧ OS 3 (OT.fr (RT.int .i64)) b'.w (.slice A18 l475.length c19) l475 hs467 ∧ l475.length = l41.length) := by
  refine fn_enterG 95 Try.func61 rfl Try.ntmps61 rfl ?_
  unfold mMendSolverWith_1_2 at hm
  refine c_seq ?_
  refine c_region ?_
  refine t_do rfl (u_box _ rfl rfl) ?_
  rintro _ _ ⟨g477, rfl, rfl⟩
  refine t_nil ?_
  refine x_then_normal ?_
  refine c_seq ?_
  obtain ⟨x495, h496, hm⟩ := bindS hm
  obtain ⟨_, h511, hm⟩ := bindS hm
  refine D_drawS ((g477, Cl 34 [.int .i64 (s32.From), .int .i64 (s32.To), .int .i64 (s32.Len)]) :: (g26, Cl 69 [.pointer (some ⟨g31, 0, none⟩)]) :: (g27, Cl 22 [.slice A3 (l38).length c4]) :: (g28, Cl 4 [.bool (x33)]) :: (g29, Cl 88 [.slice A8 (l39).length c9]) :: (g30, Cl 22 [.slice A13 (l40).length c14]) :: (g31, Cl 73 [.slice A18 (l41).length c19, .slice A34 (l37).length c35, .slice A23 (l42).length c24]) :: (hs2 ++ (hs7 ++ (hs12 ++ (hs17 ++ (hs22 ++ R)))))) mixed ?_
  refine D_st (Base.Le.refl _) 0 rfl (by kernel_rfl) (by kernel_rfl) (by kernel_rfl) rfl (st_load 1 rfl one69 rfl rfl) (.cons_cons _ (.cons_cons _ (.cons_cons _ (.cons_cons _ (.cons_cons _ (.cons_cons _ (.cons_cons _ (sub_app hs2 (sub_app hs7 (sub_app hs12 (sub_app hs17 (sub_app hs22 (.refl _))))))))))))) ?_
  refine D_st (Base.Le.refl _) 1 rfl (by kernel_rfl) (by kernel_rfl) (by kernel_rfl) rfl (st_nil rfl) (.cons_cons _ (.cons_cons _ (.cons_cons _ (.cons_cons _ (.cons_cons _ (.cons_cons _ (.cons_cons _ (sub_app hs2 (sub_app hs7 (sub_app hs12 (sub_app hs17 (sub_app hs22 (.refl _))))))))))))) ?_
  refine D_st (Base.Le.refl _) 2 rfl (by kernel_rfl) (by kernel_rfl) (by kernel_rfl) rfl (st_field rfl fld73_0) (.cons_cons _ (.cons_cons _ (.cons_cons _ (.cons_cons _ (.cons_cons _ (.cons_cons _ (.cons_cons _ (sub_app hs2 (sub_app hs7 (sub_app hs12 (sub_app hs17 (sub_app hs22 (.refl _))))))))))))) ?_
  refine D_st (Base.Le.refl _) 3 rfl (by kernel_rfl) (by kernel_rfl) (by kernel_rfl) rfl (st_load 6 rfl one22 rfl rfl) (.cons_cons _ (.cons_cons _ (.cons_cons _ (.cons_cons _ (.cons_cons _ (.cons_cons _ (.cons_cons _ (sub_app hs2 (sub_app hs7 (sub_app hs12 (sub_app hs17 (sub_app hs22 (.refl _))))))))))))) ?_
  refine D_st (Base.Le.refl _) 4 rfl (by kernel_rfl) (by kernel_rfl) (by kernel_rfl) rfl (st_field rfl fld34_0) (.cons_cons _ (.cons_cons _ (.cons_cons _ (.cons_cons _ (.cons_cons _ (.cons_cons _ (.cons_cons _ (sub_app hs2 (sub_app hs7 (sub_app hs12 (sub_app hs17 (sub_app hs22 (.refl _))))))))))))) ?_
  refine D_st (Base.Le.refl _) 5 rfl (by kernel_rfl) (by kernel_rfl) (by kernel_rfl) rfl (st_load 0 rfl one3 rfl rfl) (.cons_cons _ (.cons_cons _ (.cons_cons _ (.cons_cons _ (.cons_cons _ (.cons_cons _ (.cons_cons _ (sub_app hs2 (sub_app hs7 (sub_app hs12 (sub_app hs17 (sub_app hs22 (.refl _))))))))))))) ?_
  obtain ⟨j497, hj498, hx499⟩ := idx_some h496
  obtain ⟨cs500, hs505, P506, P507, hq508, hr501, hcs502, hA503, hlt504, hb509, hho510⟩ := OS.get (sz := 1) rfl (by decide) h20 hx499
  obtain ⟨rfl, rfl⟩ := hr501
  refine D_st (Base.Le.refl _) 6 rfl (by kernel_rfl) (by kernel_rfl) (by kernel_rfl) rfl (st_index_old j497 rfl rfl hj498 hlt504 hA503 sl22) (.cons_cons _ (.cons_cons _ (.cons_cons _ (.cons_cons _ (.cons_cons _ (.cons_cons _ (.cons_cons _ (sub_app hs2 (sub_app hs7 (sub_app hs12 (sub_app hs17 (sub_app hs22 (.refl _))))))))))))) ?_
  refine D_st (Base.Le.refl _) 7 rfl (by kernel_rfl) (by kernel_rfl) (by kernel_rfl) rfl (st_load_rd rfl one3 (fun w ho => hcs502 w _ ho (.cons _ (.cons _ (.cons _ (.cons _ (.cons _ (.cons _ (.cons _ (sub_skip hs2 (sub_skip hs7 (sub_skip hs12 (List.sublist_append_left _ _))))))))))) 0 _ rfl)) (.cons_cons _ (.cons_cons _ (.cons_cons _ (.cons_cons _ (.cons_cons _ (.cons_cons _ (.cons_cons _ (sub_app hs2 (sub_app hs7 (sub_app hs12 (sub_app hs17 (sub_app hs22 (.refl _))))))))))))) ?_
  refine D_st (Base.Le.refl _) 8 rfl (by kernel_rfl) (by kernel_rfl) (by kernel_rfl) rfl (st_field rfl fld34_2) (.cons_cons _ (.cons_cons _ (.cons_cons _ (.cons_cons _ (.cons_cons _ (.cons_cons _ (.cons_cons _ (sub_app hs2 (sub_app hs7 (sub_app hs12 (sub_app hs17 (sub_app hs22 (.refl _))))))))))))) ?_
  refine D_st (Base.Le.refl _) 9 rfl (by kernel_rfl) (by kernel_rfl) (by kernel_rfl) rfl (st_load 0 rfl one3 rfl rfl) (.cons_cons _ (.cons_cons _ (.cons_cons _ (.cons_cons _ (.cons_cons _ (.cons_cons _ (.cons_cons _ (sub_app hs2 (sub_app hs7 (sub_app hs12 (sub_app hs17 (sub_app hs22 (.refl _))))))))))))) ?_
  have h511 := (chk_some h511).2
  refine D_st (Base.Le.refl _) 10 rfl (by kernel_rfl) (by kernel_rfl) (by kernel_rfl) rfl (st_add rfl rfl h511) (.cons_cons _ (.cons_cons _ (.cons_cons _ (.cons_cons _ (.cons_cons _ (.cons_cons _ (.cons_cons _ (sub_app hs2 (sub_app hs7 (sub_app hs12 (sub_app hs17 (sub_app hs22 (.refl _))))))))))))) ?_
  refine D_st (Base.Le.refl _) 11 rfl (by kernel_rfl) (by kernel_rfl) (by kernel_rfl) rfl (st_assign rfl) (.cons_cons _ (.cons_cons _ (.cons_cons _ (.cons_cons _ (.cons_cons _ (.cons_cons _ (.cons_cons _ (sub_app hs2 (sub_app hs7 (sub_app hs12 (sub_app hs17 (sub_app hs22 (.refl _))))))))))))) ?_
  refine D_done (by kernel_rfl) ?_
  refine x_then_normal ?_
  refine c_seq ?_
  refine c_seq ?_
  obtain ⟨x528, h529, hm⟩ := bindS hm
  refine D_drawS ((g477, Cl 34 [.int .i64 (s32.From), .int .i64 (s32.To), .int .i64 (s32.Len)]) :: (g26, Cl 69 [.pointer (some ⟨g31, 0, none⟩)]) :: (g27, Cl 22 [.slice A3 (l38).length c4]) :: (g28, Cl 4 [.bool (x33)]) :: (g29, Cl 88 [.slice A8 (l39).length c9]) :: (g30, Cl 22 [.slice A13 (l40).length c14]) :: (g31, Cl 73 [.slice A18 (l41).length c19, .slice A34 (l37).length c35, .slice A23 (l42).length c24]) :: (hs2 ++ (hs7 ++ (hs12 ++ (hs17 ++ (hs22 ++ R)))))) mixed ?_
  refine D_st (Base.Le.refl _) 0 rfl (by kernel_rfl) (by kernel_rfl) (by kernel_rfl) rfl (st_move rfl) (.cons_cons _ (.cons_cons _ (.cons_cons _ (.cons_cons _ (.cons_cons _ (.cons_cons _ (.cons_cons _ (sub_app hs2 (sub_app hs7 (sub_app hs12 (sub_app hs17 (sub_app hs22 (.refl _))))))))))))) ?_
  refine D_st (Base.Le.refl _) 1 rfl (by kernel_rfl) (by kernel_rfl) (by kernel_rfl) rfl (st_load 1 rfl one69 rfl rfl) (.cons_cons _ (.cons_cons _ (.cons_cons _ (.cons_cons _ (.cons_cons _ (.cons_cons _ (.cons_cons _ (sub_app hs2 (sub_app hs7 (sub_app hs12 (sub_app hs17 (sub_app hs22 (.refl _))))))))))))) ?_
  refine D_st (Base.Le.refl _) 2 rfl (by kernel_rfl) (by kernel_rfl) (by kernel_rfl) rfl (st_nil rfl) (.cons_cons _ (.cons_cons _ (.cons_cons _ (.cons_cons _ (.cons_cons _ (.cons_cons _ (.cons_cons _ (sub_app hs2 (sub_app hs7 (sub_app hs12 (sub_app hs17 (sub_app hs22 (.refl _))))))))))))) ?_
  refine D_st (Base.Le.refl _) 3 rfl (by kernel_rfl) (by kernel_rfl) (by kernel_rfl) rfl (st_field rfl fld73_0) (.cons_cons _ (.cons_cons _ (.cons_cons _ (.cons_cons _ (.cons_cons _ (.cons_cons _ (.cons_cons _ (sub_app hs2 (sub_app hs7 (sub_app hs12 (sub_app hs17 (sub_app hs22 (.refl _))))))))))))) ?_
  refine D_st (Base.Le.refl _) 4 rfl (by kernel_rfl) (by kernel_rfl) (by kernel_rfl) rfl (st_load 6 rfl one22 rfl rfl) (.cons_cons _ (.cons_cons _ (.cons_cons _ (.cons_cons _ (.cons_cons _ (.cons_cons _ (.cons_cons _ (sub_app hs2 (sub_app hs7 (sub_app hs12 (sub_app hs17 (sub_app hs22 (.refl _))))))))))))) ?_
  refine D_st (Base.Le.refl _) 5 rfl (by kernel_rfl) (by kernel_rfl) (by kernel_rfl) rfl (st_field rfl fld34_1) (.cons_cons _ (.cons_cons _ (.cons_cons _ (.cons_cons _ (.cons_cons _ (.cons_cons _ (.cons_cons _ (sub_app hs2 (sub_app hs7 (sub_app hs12 (sub_app hs17 (sub_app hs22 (.refl _))))))))))))) ?_
  refine D_st (Base.Le.refl _) 6 rfl (by kernel_rfl) (by kernel_rfl) (by kernel_rfl) rfl (st_load 0 rfl one3 rfl rfl) (.cons_cons _ (.cons_cons _ (.cons_cons _ (.cons_cons _ (.cons_cons _ (.cons_cons _ (.cons_cons _ (sub_app hs2 (sub_app hs7 (sub_app hs12 (sub_app hs17 (sub_app hs22 (.refl _))))))))))))) ?_
  obtain ⟨j530, hj531, hx532⟩ := idx_some h529
  obtain ⟨cs533, hs538, P539, P540, hq541, hr534, hcs535, hA536, hlt537, hb542, hho543⟩ := OS.get (sz := 1) rfl (by decide) h20 hx532
  obtain ⟨rfl, rfl⟩ := hr534
  refine D_st (Base.Le.refl _) 7 rfl (by kernel_rfl) (by kernel_rfl) (by kernel_rfl) rfl (st_index_old j530 rfl rfl hj531 hlt537 hA536 sl22) (.cons_cons _ (.cons_cons _ (.cons_cons _ (.cons_cons _ (.cons_cons _ (.cons_cons _ (.cons_cons _ (sub_app hs2 (sub_app hs7 (sub_app hs12 (sub_app hs17 (sub_app hs22 (.refl _))))))))))))) ?_
  refine D_st (Base.Le.refl _) 8 rfl (by kernel_rfl) (by kernel_rfl) (by kernel_rfl) rfl (st_load_rd rfl one3 (fun w ho => hcs535 w _ ho (.cons _ (.cons _ (.cons _ (.cons _ (.cons _ (.cons _ (.cons _ (sub_skip hs2 (sub_skip hs7 (sub_skip hs12 (List.sublist_append_left _ _))))))))))) 0 _ rfl)) (.cons_cons _ (.cons_cons _ (.cons_cons _ (.cons_cons _ (.cons_cons _ (.cons_cons _ (.cons_cons _ (sub_app hs2 (sub_app hs7 (sub_app hs12 (sub_app hs17 (sub_app hs22 (.refl _))))))))))))) ?_
  refine D_st (Base.Le.refl _) 9 rfl (by kernel_rfl) (by kernel_rfl) (by kernel_rfl) rfl (st_leq rfl rfl) (.cons_cons _ (.cons_cons _ (.cons_cons _ (.cons_cons _ (.cons_cons _ (.cons_cons _ (.cons_cons _ (sub_app hs2 (sub_app hs7 (sub_app hs12 (sub_app hs17 (sub_app hs22 (.refl _))))))))))))) ?_
  refine D_done (by kernel_rfl) ?_
  refine x_then_normal ?_
  refine c_cond _ rfl (fun hc544 => ?_) (fun hc544 => ?_)
  ·
    rw [if_pos (of_decide_eq_true hc544)] at hm
    refine c_ret ?_
    refine x_then_ret ?_
    obtain ⟨rfl, rfl, rfl, rfl, rfl⟩ := some5 hm
    refine x_pullb 6 rfl ?_
    refine x_pullb 6 rfl ?_
    refine x_pullb 6 rfl ?_
    refine x_pullb 6 rfl ?_
    refine x_pullb 6 rfl ?_
    refine x_pullb 6 rfl ?_
    refine x_front5 [_, _, _, _, _, _, _] hs2 hs7 hs12 hs17 hs22 R rfl ?_
    refine x_front5 [_, _, _, _, _, _, _] hs22 hs2 hs7 hs12 hs17 R rfl ?_
    refine x_front5 [_, _, _, _, _, _, _] hs17 hs22 hs2 hs7 hs12 R rfl ?_
    refine x_front5 [_, _, _, _, _, _, _] hs12 hs17 hs22 hs2 hs7 R rfl ?_
    refine x_front5 [_, _, _, _, _, _, _] hs7 hs12 hs17 hs22 hs2 R rfl ?_
    exact retM (rs := []) [] (Base.Le.refl _) (by decide) rfl trivial rfl (hp' := (g26, Cl 69 [.pointer (some ⟨g31, 0, none⟩)]) :: (g27, Cl 22 [.slice A3 (l38).length c4]) :: (g28, Cl 4 [.bool (x33)]) :: (g29, Cl 88 [.slice A8 (l39).length c9]) :: (g30, Cl 22 [.slice A13 (l40).length c14]) :: (g31, Cl 73 [.slice A18 (l41).length c19, .slice A34 (l37).length c35, .slice A23 (l42).length c24]) :: (hs2 ++ (hs7 ++ (hs12 ++ (hs17 ++ (hs22 ++ R)))))) (.cons_cons _ (.cons_cons _ (.cons_cons _ (.cons_cons _ (.cons_cons _ (.cons_cons _ (.cons _ (sub_app hs2 (sub_app hs7 (sub_app hs12 (sub_app hs17 (sub_app hs22 (.refl _))))))))))))) ⟨hs2, hs7, A13, c14, hs12, hs17, rfl, rfl, h5, rfl, h10, rfl, h15, h20, rfl⟩
  ·
    rw [if_neg (of_decide_eq_false hc544)] at hm
    refine c_skip ?_
    refine x_then_normal ?_
    refine c_seq ?_
    obtain ⟨x563, h564, hm⟩ := bindS hm
    refine c_front4 [_, _, _, _, _, _, _] hs2 hs7 hs12 hs17 (hs22 ++ R) rfl ?_
    refine D_drawS ((g477, Cl 34 [.int .i64 (s32.From), .int .i64 (s32.To), .int .i64 (s32.Len)]) :: (g26, Cl 69 [.pointer (some ⟨g31, 0, none⟩)]) :: (g27, Cl 22 [.slice A3 (l38).length c4]) :: (g28, Cl 4 [.bool (x33)]) :: (g29, Cl 88 [.slice A8 (l39).length c9]) :: (g30, Cl 22 [.slice A13 (l40).length c14]) :: (g31, Cl 73 [.slice A18 (l41).length c19, .slice A34 (l37).length c35, .slice A23 (l42).length c24]) :: (hs17 ++ (hs2 ++ (hs7 ++ (hs12 ++ (hs22 ++ R)))))) mixed ?_
    refine D_st (Base.Le.refl _) 0 rfl (by kernel_rfl) (by kernel_rfl) (by kernel_rfl) rfl (st_load 1 rfl one69 rfl rfl) (.cons_cons _ (.cons_cons _ (.cons_cons _ (.cons_cons _ (.cons_cons _ (.cons_cons _ (.cons_cons _ (sub_app hs17 (sub_app hs2 (sub_app hs7 (sub_app hs12 (sub_app hs22 (.refl _))))))))))))) ?_
    refine D_st (Base.Le.refl _) 1 rfl (by kernel_rfl) (by kernel_rfl) (by kernel_rfl) rfl (st_nil rfl) (.cons_cons _ (.cons_cons _ (.cons_cons _ (.cons_cons _ (.cons_cons _ (.cons_cons _ (.cons_cons _ (sub_app hs17 (sub_app hs2 (sub_app hs7 (sub_app hs12 (sub_app hs22 (.refl _))))))))))))) ?_
    refine D_st (Base.Le.refl _) 2 rfl (by kernel_rfl) (by kernel_rfl) (by kernel_rfl) rfl (st_field rfl fld73_0) (.cons_cons _ (.cons_cons _ (.cons_cons _ (.cons_cons _ (.cons_cons _ (.cons_cons _ (.cons_cons _ (sub_app hs17 (sub_app hs2 (sub_app hs7 (sub_app hs12 (sub_app hs22 (.refl _))))))))))))) ?_
    refine D_st (Base.Le.refl _) 3 rfl (by kernel_rfl) (by kernel_rfl) (by kernel_rfl) rfl (st_load 6 rfl one22 rfl rfl) (.cons_cons _ (.cons_cons _ (.cons_cons _ (.cons_cons _ (.cons_cons _ (.cons_cons _ (.cons_cons _ (sub_app hs17 (sub_app hs2 (sub_app hs7 (sub_app hs12 (sub_app hs22 (.refl _))))))))))))) ?_
    refine D_st (Base.Le.refl _) 4 rfl (by kernel_rfl) (by kernel_rfl) (by kernel_rfl) rfl (st_field rfl fld34_1) (.cons_cons _ (.cons_cons _ (.cons_cons _ (.cons_cons _ (.cons_cons _ (.cons_cons _ (.cons_cons _ (sub_app hs17 (sub_app hs2 (sub_app hs7 (sub_app hs12 (sub_app hs22 (.refl _))))))))))))) ?_
    refine D_st (Base.Le.refl _) 5 rfl (by kernel_rfl) (by kernel_rfl) (by kernel_rfl) rfl (st_load 0 rfl one3 rfl rfl) (.cons_cons _ (.cons_cons _ (.cons_cons _ (.cons_cons _ (.cons_cons _ (.cons_cons _ (.cons_cons _ (sub_app hs17 (sub_app hs2 (sub_app hs7 (sub_app hs12 (sub_app hs22 (.refl _))))))))))))) ?_
    refine D_st (Base.Le.refl _) 6 rfl (by kernel_rfl) (by kernel_rfl) (by kernel_rfl) rfl (st_move rfl) (.cons_cons _ (.cons_cons _ (.cons_cons _ (.cons_cons _ (.cons_cons _ (.cons_cons _ (.cons_cons _ (sub_app hs17 (sub_app hs2 (sub_app hs7 (sub_app hs12 (sub_app hs22 (.refl _))))))))))))) ?_
    obtain ⟨j565, hj566, hx567⟩ := idx_some h564
    obtain ⟨cs568, hs573, P574, P575, hq576, hr569, hcs570, hA571, hlt572, hb577, hho578⟩ := OS.get (sz := 1) rfl (by decide) h20 hx567
    obtain ⟨rfl, rfl⟩ := hr569
    refine D_st (Base.Le.refl _) 7 rfl (by kernel_rfl) (by kernel_rfl) (by kernel_rfl) rfl (st_index_old j565 rfl rfl hj566 hlt572 hA571 sl22) (.cons_cons _ (.cons_cons _ (.cons_cons _ (.cons_cons _ (.cons_cons _ (.cons_cons _ (.cons_cons _ (sub_app hs17 (sub_app hs2 (sub_app hs7 (sub_app hs12 (sub_app hs22 (.refl _))))))))))))) ?_
    refine D_all [8] (by kernel_rfl) rfl ?_
    refine R_do (Base.Le.refl _) rfl rfl (u_putOS hj566 (sz := 1) (a' := x495 + s32.Len) rfl [_, _, _, _, _, _, _] (hs2 ++ (hs7 ++ (hs12 ++ (hs22 ++ R)))) 0 1 [.int .i64 (x495 + s32.Len)] rfl h20 hx567 rfl rfl rfl siz3 rfl (by intro u hu; simp only [List.mem_cons, List.not_mem_nil, or_false] at hu; subst hu; rfl) (fun cs hsj hh => by obtain ⟨rfl, rfl⟩ := hh; exact ⟨by decide, rfl, rfl⟩)) ?_ ?_
    ·
      rintro _ _ ⟨hs579, rfl, h580⟩
      refine ⟨.inl (by kernel_rfl), ?_⟩
      refine d_hresp 6 rfl (o' := Cl 73 [.slice A18 (put l41 s32.To (x495 + s32.Len)).length c19, .slice A34 (l37).length c35, .slice A23 (l42).length c24]) (by simp only [put_length]) ?_
      refine D_done (by kernel_rfl) ?_
      refine x_then_normal ?_
      refine c_seq ?_
      refine c_region ?_
      refine t_st rfl (st_load 2 rfl one22 rfl rfl) ?_
      refine t_st rfl (st_field rfl fld34_1) ?_
      refine t_st rfl (st_load 0 rfl one3 rfl rfl) ?_
      obtain ⟨x581, h582, hm⟩ := bindS hm
      obtain ⟨j583, hj584, hx585⟩ := idx_some h582
      obtain ⟨cs586, hs591, P592, P593, hq594, hr587, hcs588, hA589, hlt590, hb595, hho596⟩ := OS.get (sz := 1) rfl (by decide) h5 hx585
      obtain ⟨rfl, rfl⟩ := hr587
      refine t_st rfl (st_index_old j583 rfl rfl hj584 hlt590 hA589 sl22) ?_
      refine t_st rfl (st_load_rd rfl one3 (fun w ho => hcs588 w _ ho (.cons _ (.cons _ (.cons _ (.cons _ (.cons _ (.cons _ (.cons _ (sub_skip hs579 (List.sublist_append_left _ _))))))))) 0 _ rfl)) ?_
      obtain ⟨_, h597, hm⟩ := bindS hm
      have h597 := (chk_some h597).2
      refine t_st rfl (st_add rfl rfl h597) ?_
      obtain ⟨x598, h599, hm⟩ := bindS hm
      obtain ⟨j600, hj601, hx602⟩ := idx_some h599
      obtain ⟨cs603, hs608, P609, P610, hq611, hr604, hcs605, hA606, hlt607, hb612, hho613⟩ := OS.get (sz := 1) rfl (by decide) h5 hx602
      obtain ⟨rfl, rfl⟩ := hr604
      refine t_st rfl (st_index_old j600 rfl rfl hj601 hlt607 hA606 sl22) ?_
      refine t_front2 [_, _, _, _, _, _, _] hs579 hs2 (hs7 ++ (hs12 ++ (hs22 ++ R))) rfl ?_
      refine t_do rfl (u_putOS hj601 (sz := 1) (a' := x581 + 1) rfl [_, _, _, _, _, _, _] (hs579 ++ (hs7 ++ (hs12 ++ (hs22 ++ R)))) 0 1 [.int .i64 (x581 + 1)] rfl h5 hx602 rfl rfl rfl siz3 rfl (by intro u hu; simp only [List.mem_cons, List.not_mem_nil, or_false] at hu; subst hu; rfl) (fun cs hsj hh => by obtain ⟨rfl, rfl⟩ := hh; exact ⟨by decide, rfl, rfl⟩)) ?_
      rintro _ _ ⟨hs614, rfl, h615⟩
      refine t_hresp 2 rfl (o' := Cl 22 [.slice A3 (put l38 s32.To (x581 + 1)).length c4]) (by simp only [put_length]) ?_
      refine t_nil ?_
      refine x_then_normal ?_
      obtain ⟨x732, hj733, hk733⟩ := bindS hm
      refine c_join (fun b730 e' hp' => [(4, .pointer (some ⟨g29, 0, none⟩)), (5, .pointer (some ⟨g30, 0, none⟩)), (6, .pointer (some ⟨g477, 0, none⟩))] = e' ∧ (g29, Cl 88 [.slice A8 (l39).length c9]) :: (g30, Cl 22 [.slice A13 (l40).length c14]) :: (g477, Cl 34 [.int .i64 (s32.From), .int .i64 (s32.To), .int .i64 (s32.Len)]) :: (g26, Cl 69 [.pointer (some ⟨g31, 0, none⟩)]) :: (g27, Cl 22 [.slice A3 (put l38 s32.To (x581 + 1)).length c4]) :: (g28, Cl 4 [.bool (x732)]) :: (g31, Cl 73 [.slice A18 (put l41 s32.To (x495 + s32.Len)).length c19, .slice A34 (l37).length c35, .slice A23 (l42).length c24]) :: (hs614 ++ (hs7 ++ (hs12 ++ (hs579 ++ (hs22 ++ R))))) = hp' ∧ b.Le b730) ?_ ?_
      ·
        have hm := hj733
        rcases Bool.eq_false_or_eq_true x33 with hc791 | hc791
        ·
          rw [if_pos hc791] at hm
          obtain ⟨x792, h793, hm⟩ := bindS hm
          by_cases hc802 : x792 < 0
          ·
            rw [if_pos hc802] at hm
            by_cases hc803 : (x495 + s32.Len) ≤ 1099511627776
            ·
              rw [if_pos hc803] at hm
              obtain ⟨x804, h805, hm⟩ := bindS hm
              refine D_drawS ((g477, Cl 34 [.int .i64 (s32.From), .int .i64 (s32.To), .int .i64 (s32.Len)]) :: (g26, Cl 69 [.pointer (some ⟨g31, 0, none⟩)]) :: (g27, Cl 22 [.slice A3 (put l38 s32.To (x581 + 1)).length c4]) :: (g28, Cl 4 [.bool (x33)]) :: (g29, Cl 88 [.slice A8 (l39).length c9]) :: (g30, Cl 22 [.slice A13 (l40).length c14]) :: (g31, Cl 73 [.slice A18 (put l41 s32.To (x495 + s32.Len)).length c19, .slice A34 (l37).length c35, .slice A23 (l42).length c24]) :: (hs614 ++ (hs579 ++ (hs7 ++ (hs12 ++ (hs22 ++ R)))))) mixed ?_
              refine D_st (Base.Le.refl _) 0 rfl (by kernel_rfl) (by kernel_rfl) (by kernel_rfl) rfl (stB (st_load 3 rfl one4 rfl rfl) hc791) (.cons_cons _ (.cons_cons _ (.cons_cons _ (.cons_cons _ (.cons_cons _ (.cons_cons _ (.cons_cons _ (sub_app hs614 (sub_app hs579 (sub_app hs7 (sub_app hs12 (sub_app hs22 (.refl _))))))))))))) ?_
              refine D_st (Base.Le.refl _) 1 rfl (by kernel_rfl) (by kernel_rfl) (by kernel_rfl) rfl (st_move rfl) (.cons_cons _ (.cons_cons _ (.cons_cons _ (.cons_cons _ (.cons_cons _ (.cons_cons _ (.cons_cons _ (sub_app hs614 (sub_app hs579 (sub_app hs7 (sub_app hs12 (sub_app hs22 (.refl _))))))))))))) ?_
              refine D_yes (Base.Le.refl _) 2 45 rfl (by kernel_rfl) (by kernel_rfl) (by kernel_rfl) rfl rfl rfl rfl (st_load 1 rfl one69 rfl rfl) (.cons_cons _ (.cons_cons _ (.cons_cons _ (.cons_cons _ (.cons_cons _ (.cons_cons _ (.cons_cons _ (sub_app hs614 (sub_app hs579 (sub_app hs7 (sub_app hs12 (sub_app hs22 (.refl _))))))))))))) ?_
              refine D_yes (Base.Le.refl _) 3 45 rfl (by kernel_rfl) (by kernel_rfl) (by kernel_rfl) rfl rfl rfl rfl (st_nil rfl) (.cons_cons _ (.cons_cons _ (.cons_cons _ (.cons_cons _ (.cons_cons _ (.cons_cons _ (.cons_cons _ (sub_app hs614 (sub_app hs579 (sub_app hs7 (sub_app hs12 (sub_app hs22 (.refl _))))))))))))) ?_
              refine D_yes (Base.Le.refl _) 4 45 rfl (by kernel_rfl) (by kernel_rfl) (by kernel_rfl) rfl rfl rfl rfl (st_field rfl fld73_1) (.cons_cons _ (.cons_cons _ (.cons_cons _ (.cons_cons _ (.cons_cons _ (.cons_cons _ (.cons_cons _ (sub_app hs614 (sub_app hs579 (sub_app hs7 (sub_app hs12 (sub_app hs22 (.refl _))))))))))))) ?_
              refine D_yes (Base.Le.refl _) 5 45 rfl (by kernel_rfl) (by kernel_rfl) (by kernel_rfl) rfl rfl rfl rfl (st_load 6 rfl one22 rfl rfl) (.cons_cons _ (.cons_cons _ (.cons_cons _ (.cons_cons _ (.cons_cons _ (.cons_cons _ (.cons_cons _ (sub_app hs614 (sub_app hs579 (sub_app hs7 (sub_app hs12 (sub_app hs22 (.refl _))))))))))))) ?_
              refine D_yes (Base.Le.refl _) 6 45 rfl (by kernel_rfl) (by kernel_rfl) (by kernel_rfl) rfl rfl rfl rfl (st_field rfl fld34_1) (.cons_cons _ (.cons_cons _ (.cons_cons _ (.cons_cons _ (.cons_cons _ (.cons_cons _ (.cons_cons _ (sub_app hs614 (sub_app hs579 (sub_app hs7 (sub_app hs12 (sub_app hs22 (.refl _))))))))))))) ?_
              refine D_yes (Base.Le.refl _) 7 45 rfl (by kernel_rfl) (by kernel_rfl) (by kernel_rfl) rfl rfl rfl rfl (st_load 0 rfl one3 rfl rfl) (.cons_cons _ (.cons_cons _ (.cons_cons _ (.cons_cons _ (.cons_cons _ (.cons_cons _ (.cons_cons _ (sub_app hs614 (sub_app hs579 (sub_app hs7 (sub_app hs12 (sub_app hs22 (.refl _))))))))))))) ?_
              obtain ⟨j794, hj795, hx796⟩ := idx_some h793
              obtain ⟨cs797, hr798, hcs799, hA800, hlt801⟩ := FZ.get (sz := 1) rfl (by decide) h36 hx796
              obtain rfl := hr798
              refine D_yes (Base.Le.refl _) 8 45 rfl (by kernel_rfl) (by kernel_rfl) (by kernel_rfl) rfl rfl rfl rfl (st_index_old j794 rfl rfl hj795 hlt801 hA800 sl22) (.cons_cons _ (.cons_cons _ (.cons_cons _ (.cons_cons _ (.cons_cons _ (.cons_cons _ (.cons_cons _ (sub_app hs614 (sub_app hs579 (sub_app hs7 (sub_app hs12 (sub_app hs22 (.refl _))))))))))))) ?_
              refine D_yes (Base.Le.refl _) 9 45 rfl (by kernel_rfl) (by kernel_rfl) (by kernel_rfl) rfl rfl rfl rfl (st_load_old rfl one3 (hcs799 0 _ rfl)) (.cons_cons _ (.cons_cons _ (.cons_cons _ (.cons_cons _ (.cons_cons _ (.cons_cons _ (.cons_cons _ (sub_app hs614 (sub_app hs579 (sub_app hs7 (sub_app hs12 (sub_app hs22 (.refl _))))))))))))) ?_
              refine D_yes (Base.Le.refl _) 10 45 rfl (by kernel_rfl) (by kernel_rfl) (by kernel_rfl) rfl rfl rfl rfl (st_lss_t rfl rfl hc802) (.cons_cons _ (.cons_cons _ (.cons_cons _ (.cons_cons _ (.cons_cons _ (.cons_cons _ (.cons_cons _ (sub_app hs614 (sub_app hs579 (sub_app hs7 (sub_app hs12 (sub_app hs22 (.refl _))))))))))))) ?_
              refine D_yes (Base.Le.refl _) 11 45 rfl (by kernel_rfl) (by kernel_rfl) (by kernel_rfl) rfl rfl rfl rfl (st_move rfl) (.cons_cons _ (.cons_cons _ (.cons_cons _ (.cons_cons _ (.cons_cons _ (.cons_cons _ (.cons_cons _ (sub_app hs614 (sub_app hs579 (sub_app hs7 (sub_app hs12 (sub_app hs22 (.refl _))))))))))))) ?_
              refine D_no (Base.Le.refl _) 12 55 rfl (by kernel_rfl) (by kernel_rfl) (by kernel_rfl) rfl rfl rfl rfl rfl (.cons_cons _ (.cons_cons _ (.cons_cons _ (.cons_cons _ (.cons_cons _ (.cons_cons _ (.cons_cons _ (sub_app hs614 (sub_app hs579 (sub_app hs7 (sub_app hs12 (sub_app hs22 (.refl _))))))))))))) ?_
              refine D_no (Base.Le.refl _) 13 55 rfl (by kernel_rfl) (by kernel_rfl) (by kernel_rfl) rfl rfl rfl rfl rfl (.cons_cons _ (.cons_cons _ (.cons_cons _ (.cons_cons _ (.cons_cons _ (.cons_cons _ (.cons_cons _ (sub_app hs614 (sub_app hs579 (sub_app hs7 (sub_app hs12 (sub_app hs22 (.refl _))))))))))))) ?_
              refine D_no (Base.Le.refl _) 14 55 rfl (by kernel_rfl) (by kernel_rfl) (by kernel_rfl) rfl rfl rfl rfl rfl (.cons_cons _ (.cons_cons _ (.cons_cons _ (.cons_cons _ (.cons_cons _ (.cons_cons _ (.cons_cons _ (sub_app hs614 (sub_app hs579 (sub_app hs7 (sub_app hs12 (sub_app hs22 (.refl _))))))))))))) ?_
              refine D_no (Base.Le.refl _) 15 55 rfl (by kernel_rfl) (by kernel_rfl) (by kernel_rfl) rfl rfl rfl rfl rfl (.cons_cons _ (.cons_cons _ (.cons_cons _ (.cons_cons _ (.cons_cons _ (.cons_cons _ (.cons_cons _ (sub_app hs614 (sub_app hs579 (sub_app hs7 (sub_app hs12 (sub_app hs22 (.refl _))))))))))))) ?_
              refine D_no (Base.Le.refl _) 16 55 rfl (by kernel_rfl) (by kernel_rfl) (by kernel_rfl) rfl rfl rfl rfl rfl (.cons_cons _ (.cons_cons _ (.cons_cons _ (.cons_cons _ (.cons_cons _ (.cons_cons _ (.cons_cons _ (sub_app hs614 (sub_app hs579 (sub_app hs7 (sub_app hs12 (sub_app hs22 (.refl _))))))))))))) ?_
              refine D_no (Base.Le.refl _) 17 55 rfl (by kernel_rfl) (by kernel_rfl) (by kernel_rfl) rfl rfl rfl rfl rfl (.cons_cons _ (.cons_cons _ (.cons_cons _ (.cons_cons _ (.cons_cons _ (.cons_cons _ (.cons_cons _ (sub_app hs614 (sub_app hs579 (sub_app hs7 (sub_app hs12 (sub_app hs22 (.refl _))))))))))))) ?_
              refine D_no (Base.Le.refl _) 18 55 rfl (by kernel_rfl) (by kernel_rfl) (by kernel_rfl) rfl rfl rfl rfl rfl (.cons_cons _ (.cons_cons _ (.cons_cons _ (.cons_cons _ (.cons_cons _ (.cons_cons _ (.cons_cons _ (sub_app hs614 (sub_app hs579 (sub_app hs7 (sub_app hs12 (sub_app hs22 (.refl _))))))))))))) ?_
              refine D_no (Base.Le.refl _) 19 55 rfl (by kernel_rfl) (by kernel_rfl) (by kernel_rfl) rfl rfl rfl rfl rfl (.cons_cons _ (.cons_cons _ (.cons_cons _ (.cons_cons _ (.cons_cons _ (.cons_cons _ (.cons_cons _ (sub_app hs614 (sub_app hs579 (sub_app hs7 (sub_app hs12 (sub_app hs22 (.refl _))))))))))))) ?_
              refine D_no (Base.Le.refl _) 20 55 rfl (by kernel_rfl) (by kernel_rfl) (by kernel_rfl) rfl rfl rfl rfl rfl (.cons_cons _ (.cons_cons _ (.cons_cons _ (.cons_cons _ (.cons_cons _ (.cons_cons _ (.cons_cons _ (sub_app hs614 (sub_app hs579 (sub_app hs7 (sub_app hs12 (sub_app hs22 (.refl _))))))))))))) ?_
              refine D_no (Base.Le.refl _) 21 55 rfl (by kernel_rfl) (by kernel_rfl) (by kernel_rfl) rfl rfl rfl rfl rfl (.cons_cons _ (.cons_cons _ (.cons_cons _ (.cons_cons _ (.cons_cons _ (.cons_cons _ (.cons_cons _ (sub_app hs614 (sub_app hs579 (sub_app hs7 (sub_app hs12 (sub_app hs22 (.refl _))))))))))))) ?_
              refine D_yes (Base.Le.refl _) 22 45 rfl (by kernel_rfl) (by kernel_rfl) (by kernel_rfl) rfl rfl rfl rfl (st_pick_t rfl rfl) (.cons_cons _ (.cons_cons _ (.cons_cons _ (.cons_cons _ (.cons_cons _ (.cons_cons _ (.cons_cons _ (sub_app hs614 (sub_app hs579 (sub_app hs7 (sub_app hs12 (sub_app hs22 (.refl _))))))))))))) ?_
              refine D_st (Base.Le.refl _) 23 rfl (by kernel_rfl) (by kernel_rfl) (by kernel_rfl) rfl (st_pick_t rfl rfl) (.cons_cons _ (.cons_cons _ (.cons_cons _ (.cons_cons _ (.cons_cons _ (.cons_cons _ (.cons_cons _ (sub_app hs614 (sub_app hs579 (sub_app hs7 (sub_app hs12 (sub_app hs22 (.refl _))))))))))))) ?_
              refine D_st (Base.Le.refl _) 24 rfl (by kernel_rfl) (by kernel_rfl) (by kernel_rfl) rfl (st_move rfl) (.cons_cons _ (.cons_cons _ (.cons_cons _ (.cons_cons _ (.cons_cons _ (.cons_cons _ (.cons_cons _ (sub_app hs614 (sub_app hs579 (sub_app hs7 (sub_app hs12 (sub_app hs22 (.refl _))))))))))))) ?_
              refine D_yes (Base.Le.refl _) 25 68 rfl (by kernel_rfl) (by kernel_rfl) (by kernel_rfl) rfl rfl rfl rfl (st_move rfl) (.cons_cons _ (.cons_cons _ (.cons_cons _ (.cons_cons _ (.cons_cons _ (.cons_cons _ (.cons_cons _ (sub_app hs614 (sub_app hs579 (sub_app hs7 (sub_app hs12 (sub_app hs22 (.refl _))))))))))))) ?_
              refine D_yes (Base.Le.refl _) 26 68 rfl (by kernel_rfl) (by kernel_rfl) (by kernel_rfl) rfl rfl rfl rfl (st_leq_t rfl rfl hc803) (.cons_cons _ (.cons_cons _ (.cons_cons _ (.cons_cons _ (.cons_cons _ (.cons_cons _ (.cons_cons _ (sub_app hs614 (sub_app hs579 (sub_app hs7 (sub_app hs12 (sub_app hs22 (.refl _))))))))))))) ?_
              refine D_st (Base.Le.refl _) 27 rfl (by kernel_rfl) (by kernel_rfl) (by kernel_rfl) rfl (st_pick_t rfl rfl) (.cons_cons _ (.cons_cons _ (.cons_cons _ (.cons_cons _ (.cons_cons _ (.cons_cons _ (.cons_cons _ (sub_app hs614 (sub_app hs579 (sub_app hs7 (sub_app hs12 (sub_app hs22 (.refl _))))))))))))) ?_
              refine D_st (Base.Le.refl _) 28 rfl (by kernel_rfl) (by kernel_rfl) (by kernel_rfl) rfl (st_move rfl) (.cons_cons _ (.cons_cons _ (.cons_cons _ (.cons_cons _ (.cons_cons _ (.cons_cons _ (.cons_cons _ (sub_app hs614 (sub_app hs579 (sub_app hs7 (sub_app hs12 (sub_app hs22 (.refl _))))))))))))) ?_
              refine D_yes (Base.Le.refl _) 29 72 rfl (by kernel_rfl) (by kernel_rfl) (by kernel_rfl) rfl rfl rfl rfl (st_load 2 rfl one22 rfl rfl) (.cons_cons _ (.cons_cons _ (.cons_cons _ (.cons_cons _ (.cons_cons _ (.cons_cons _ (.cons_cons _ (sub_app hs614 (sub_app hs579 (sub_app hs7 (sub_app hs12 (sub_app hs22 (.refl _))))))))))))) ?_
              refine D_yes (Base.Le.refl _) 30 72 rfl (by kernel_rfl) (by kernel_rfl) (by kernel_rfl) rfl rfl rfl rfl (st_field rfl fld34_1) (.cons_cons _ (.cons_cons _ (.cons_cons _ (.cons_cons _ (.cons_cons _ (.cons_cons _ (.cons_cons _ (sub_app hs614 (sub_app hs579 (sub_app hs7 (sub_app hs12 (sub_app hs22 (.refl _))))))))))))) ?_
              refine D_yes (Base.Le.refl _) 31 72 rfl (by kernel_rfl) (by kernel_rfl) (by kernel_rfl) rfl rfl rfl rfl (st_load 0 rfl one3 rfl rfl) (.cons_cons _ (.cons_cons _ (.cons_cons _ (.cons_cons _ (.cons_cons _ (.cons_cons _ (.cons_cons _ (sub_app hs614 (sub_app hs579 (sub_app hs7 (sub_app hs12 (sub_app hs22 (.refl _))))))))))))) ?_
              obtain ⟨j806, hj807, hx808⟩ := idx_some h805
              obtain ⟨cs809, hs814, P815, P816, hq817, hr810, hcs811, hA812, hlt813, hb818, hho819⟩ := OS.get (sz := 1) rfl (by decide) h615 hx808
              obtain ⟨rfl, rfl⟩ := hr810
              refine D_yes (Base.Le.refl _) 32 72 rfl (by kernel_rfl) (by kernel_rfl) (by kernel_rfl) rfl rfl rfl rfl (st_index_old j806 rfl rfl hj807 hlt813 hA812 sl22) (.cons_cons _ (.cons_cons _ (.cons_cons _ (.cons_cons _ (.cons_cons _ (.cons_cons _ (.cons_cons _ (sub_app hs614 (sub_app hs579 (sub_app hs7 (sub_app hs12 (sub_app hs22 (.refl _))))))))))))) ?_
              refine D_yes (Base.Le.refl _) 33 72 rfl (by kernel_rfl) (by kernel_rfl) (by kernel_rfl) rfl rfl rfl rfl (st_load_rd rfl one3 (fun w ho => hcs811 w _ ho (.cons _ (.cons _ (.cons _ (.cons _ (.cons _ (.cons _ (.cons _ (List.sublist_append_left _ _)))))))) 0 _ rfl)) (.cons_cons _ (.cons_cons _ (.cons_cons _ (.cons_cons _ (.cons_cons _ (.cons_cons _ (.cons_cons _ (sub_app hs614 (sub_app hs579 (sub_app hs7 (sub_app hs12 (sub_app hs22 (.refl _))))))))))))) ?_
              refine D_yes (Base.Le.refl _) 34 72 rfl (by kernel_rfl) (by kernel_rfl) (by kernel_rfl) rfl rfl rfl rfl (st_leq rfl rfl) (.cons_cons _ (.cons_cons _ (.cons_cons _ (.cons_cons _ (.cons_cons _ (.cons_cons _ (.cons_cons _ (sub_app hs614 (sub_app hs579 (sub_app hs7 (sub_app hs12 (sub_app hs22 (.refl _))))))))))))) ?_
              refine D_st (Base.Le.refl _) 35 rfl (by kernel_rfl) (by kernel_rfl) (by kernel_rfl) rfl (st_pick_t rfl rfl) (.cons_cons _ (.cons_cons _ (.cons_cons _ (.cons_cons _ (.cons_cons _ (.cons_cons _ (.cons_cons _ (sub_app hs614 (sub_app hs579 (sub_app hs7 (sub_app hs12 (sub_app hs22 (.refl _))))))))))))) ?_
              refine D_all [36] (by kernel_rfl) rfl ?_
              refine R_do (Base.Le.refl _) rfl rfl (u_store 3 rfl rfl siz4 rfl rfl (by simp)) ?_ ?_
              ·
                rintro _ _ rfl
                refine ⟨.inl (by kernel_rfl), ?_⟩
                refine D_done (by kernel_rfl) ?_
                obtain rfl := some1 hm
                refine x_pullb 6 rfl ?_
                refine x_pullb 4 rfl ?_
                refine x_pullb 4 rfl ?_
                refine x_pullb 4 rfl ?_
                refine x_pullb 4 rfl ?_
                refine x_pullb 6 rfl ?_
                refine x_pullb 6 rfl ?_
                refine x_front5 [_, _, _, _, _, _, _] hs614 hs579 hs7 hs12 hs22 R rfl ?_
                refine x_front3 [_, _, _, _, _, _, _] hs22 hs614 hs579 (hs7 ++ (hs12 ++ R)) rfl ?_
                refine x_front5 [_, _, _, _, _, _, _] hs579 hs22 hs614 hs7 hs12 R rfl ?_
                refine x_front5 [_, _, _, _, _, _, _] hs12 hs579 hs22 hs614 hs7 R rfl ?_
                refine x_front5 [_, _, _, _, _, _, _] hs7 hs12 hs579 hs22 hs614 R rfl ?_
                exact x_join (e' := [(4, .pointer (some ⟨g29, 0, none⟩)), (5, .pointer (some ⟨g30, 0, none⟩)), (6, .pointer (some ⟨g477, 0, none⟩))]) (hp' := (g29, Cl 88 [.slice A8 (l39).length c9]) :: (g30, Cl 22 [.slice A13 (l40).length c14]) :: (g477, Cl 34 [.int .i64 (s32.From), .int .i64 (s32.To), .int .i64 (s32.Len)]) :: (g26, Cl 69 [.pointer (some ⟨g31, 0, none⟩)]) :: (g27, Cl 22 [.slice A3 (put l38 s32.To (x581 + 1)).length c4]) :: (g28, Cl 4 [.bool (decide (x804 ≤ 65536))]) :: (g31, Cl 73 [.slice A18 (put l41 s32.To (x495 + s32.Len)).length c19, .slice A34 (l37).length c35, .slice A23 (l42).length c24]) :: (hs614 ++ (hs7 ++ (hs12 ++ (hs579 ++ (hs22 ++ R)))))) ⟨rfl, rfl, rfl, trivial⟩ (.cons_cons _ (.cons_cons _ (.cons_cons _ (.cons_cons _ (.cons_cons _ (.cons_cons _ (.cons_cons _ (sub_app hs614 (sub_app hs7 (sub_app hs12 (sub_app hs579 (sub_app hs22 (.refl _))))))))))))) ⟨rfl, rfl, (Base.Le.refl _)⟩
              exact R_nil
            ·
              rw [if_neg hc803] at hm
              refine D_drawS ((g477, Cl 34 [.int .i64 (s32.From), .int .i64 (s32.To), .int .i64 (s32.Len)]) :: (g26, Cl 69 [.pointer (some ⟨g31, 0, none⟩)]) :: (g27, Cl 22 [.slice A3 (put l38 s32.To (x581 + 1)).length c4]) :: (g28, Cl 4 [.bool (x33)]) :: (g29, Cl 88 [.slice A8 (l39).length c9]) :: (g30, Cl 22 [.slice A13 (l40).length c14]) :: (g31, Cl 73 [.slice A18 (put l41 s32.To (x495 + s32.Len)).length c19, .slice A34 (l37).length c35, .slice A23 (l42).length c24]) :: (hs614 ++ (hs579 ++ (hs7 ++ (hs12 ++ (hs22 ++ R)))))) mixed ?_
              refine D_st (Base.Le.refl _) 0 rfl (by kernel_rfl) (by kernel_rfl) (by kernel_rfl) rfl (stB (st_load 3 rfl one4 rfl rfl) hc791) (.cons_cons _ (.cons_cons _ (.cons_cons _ (.cons_cons _ (.cons_cons _ (.cons_cons _ (.cons_cons _ (sub_app hs614 (sub_app hs579 (sub_app hs7 (sub_app hs12 (sub_app hs22 (.refl _))))))))))))) ?_
              refine D_st (Base.Le.refl _) 1 rfl (by kernel_rfl) (by kernel_rfl) (by kernel_rfl) rfl (st_move rfl) (.cons_cons _ (.cons_cons _ (.cons_cons _ (.cons_cons _ (.cons_cons _ (.cons_cons _ (.cons_cons _ (sub_app hs614 (sub_app hs579 (sub_app hs7 (sub_app hs12 (sub_app hs22 (.refl _))))))))))))) ?_
              refine D_yes (Base.Le.refl _) 2 45 rfl (by kernel_rfl) (by kernel_rfl) (by kernel_rfl) rfl rfl rfl rfl (st_load 1 rfl one69 rfl rfl) (.cons_cons _ (.cons_cons _ (.cons_cons _ (.cons_cons _ (.cons_cons _ (.cons_cons _ (.cons_cons _ (sub_app hs614 (sub_app hs579 (sub_app hs7 (sub_app hs12 (sub_app hs22 (.refl _))))))))))))) ?_
              refine D_yes (Base.Le.refl _) 3 45 rfl (by kernel_rfl) (by kernel_rfl) (by kernel_rfl) rfl rfl rfl rfl (st_nil rfl) (.cons_cons _ (.cons_cons _ (.cons_cons _ (.cons_cons _ (.cons_cons _ (.cons_cons _ (.cons_cons _ (sub_app hs614 (sub_app hs579 (sub_app hs7 (sub_app hs12 (sub_app hs22 (.refl _))))))))))))) ?_
              refine D_yes (Base.Le.refl _) 4 45 rfl (by kernel_rfl) (by kernel_rfl) (by kernel_rfl) rfl rfl rfl rfl (st_field rfl fld73_1) (.cons_cons _ (.cons_cons _ (.cons_cons _ (.cons_cons _ (.cons_cons _ (.cons_cons _ (.cons_cons _ (sub_app hs614 (sub_app hs579 (sub_app hs7 (sub_app hs12 (sub_app hs22 (.refl _))))))))))))) ?_
              refine D_yes (Base.Le.refl _) 5 45 rfl (by kernel_rfl) (by kernel_rfl) (by kernel_rfl) rfl rfl rfl rfl (st_load 6 rfl one22 rfl rfl) (.cons_cons _ (.cons_cons _ (.cons_cons _ (.cons_cons _ (.cons_cons _ (.cons_cons _ (.cons_cons _ (sub_app hs614 (sub_app hs579 (sub_app hs7 (sub_app hs12 (sub_app hs22 (.refl _))))))))))))) ?_
              refine D_yes (Base.Le.refl _) 6 45 rfl (by kernel_rfl) (by kernel_rfl) (by kernel_rfl) rfl rfl rfl rfl (st_field rfl fld34_1) (.cons_cons _ (.cons_cons _ (.cons_cons _ (.cons_cons _ (.cons_cons _ (.cons_cons _ (.cons_cons _ (sub_app hs614 (sub_app hs579 (sub_app hs7 (sub_app hs12 (sub_app hs22 (.refl _))))))))))))) ?_
              refine D_yes (Base.Le.refl _) 7 45 rfl (by kernel_rfl) (by kernel_rfl) (by kernel_rfl) rfl rfl rfl rfl (st_load 0 rfl one3 rfl rfl) (.cons_cons _ (.cons_cons _ (.cons_cons _ (.cons_cons _ (.cons_cons _ (.cons_cons _ (.cons_cons _ (sub_app hs614 (sub_app hs579 (sub_app hs7 (sub_app hs12 (sub_app hs22 (.refl _))))))))))))) ?_
              obtain ⟨j794, hj795, hx796⟩ := idx_some h793
              obtain ⟨cs797, hr798, hcs799, hA800, hlt801⟩ := FZ.get (sz := 1) rfl (by decide) h36 hx796
              obtain rfl := hr798
              refine D_yes (Base.Le.refl _) 8 45 rfl (by kernel_rfl) (by kernel_rfl) (by kernel_rfl) rfl rfl rfl rfl (st_index_old j794 rfl rfl hj795 hlt801 hA800 sl22) (.cons_cons _ (.cons_cons _ (.cons_cons _ (.cons_cons _ (.cons_cons _ (.cons_cons _ (.cons_cons _ (sub_app hs614 (sub_app hs579 (sub_app hs7 (sub_app hs12 (sub_app hs22 (.refl _))))))))))))) ?_
              refine D_yes (Base.Le.refl _) 9 45 rfl (by kernel_rfl) (by kernel_rfl) (by kernel_rfl) rfl rfl rfl rfl (st_load_old rfl one3 (hcs799 0 _ rfl)) (.cons_cons _ (.cons_cons _ (.cons_cons _ (.cons_cons _ (.cons_cons _ (.cons_cons _ (.cons_cons _ (sub_app hs614 (sub_app hs579 (sub_app hs7 (sub_app hs12 (sub_app hs22 (.refl _))))))))))))) ?_
              refine D_yes (Base.Le.refl _) 10 45 rfl (by kernel_rfl) (by kernel_rfl) (by kernel_rfl) rfl rfl rfl rfl (st_lss_t rfl rfl hc802) (.cons_cons _ (.cons_cons _ (.cons_cons _ (.cons_cons _ (.cons_cons _ (.cons_cons _ (.cons_cons _ (sub_app hs614 (sub_app hs579 (sub_app hs7 (sub_app hs12 (sub_app hs22 (.refl _))))))))))))) ?_
              refine D_yes (Base.Le.refl _) 11 45 rfl (by kernel_rfl) (by kernel_rfl) (by kernel_rfl) rfl rfl rfl rfl (st_move rfl) (.cons_cons _ (.cons_cons _ (.cons_cons _ (.cons_cons _ (.cons_cons _ (.cons_cons _ (.cons_cons _ (sub_app hs614 (sub_app hs579 (sub_app hs7 (sub_app hs12 (sub_app hs22 (.refl _))))))))))))) ?_
              refine D_no (Base.Le.refl _) 12 55 rfl (by kernel_rfl) (by kernel_rfl) (by kernel_rfl) rfl rfl rfl rfl rfl (.cons_cons _ (.cons_cons _ (.cons_cons _ (.cons_cons _ (.cons_cons _ (.cons_cons _ (.cons_cons _ (sub_app hs614 (sub_app hs579 (sub_app hs7 (sub_app hs12 (sub_app hs22 (.refl _))))))))))))) ?_
              refine D_no (Base.Le.refl _) 13 55 rfl (by kernel_rfl) (by kernel_rfl) (by kernel_rfl) rfl rfl rfl rfl rfl (.cons_cons _ (.cons_cons _ (.cons_cons _ (.cons_cons _ (.cons_cons _ (.cons_cons _ (.cons_cons _ (sub_app hs614 (sub_app hs579 (sub_app hs7 (sub_app hs12 (sub_app hs22 (.refl _))))))))))))) ?_
              refine D_no (Base.Le.refl _) 14 55 rfl (by kernel_rfl) (by kernel_rfl) (by kernel_rfl) rfl rfl rfl rfl rfl (.cons_cons _ (.cons_cons _ (.cons_cons _ (.cons_cons _ (.cons_cons _ (.cons_cons _ (.cons_cons _ (sub_app hs614 (sub_app hs579 (sub_app hs7 (sub_app hs12 (sub_app hs22 (.refl _))))))))))))) ?_
              refine D_no (Base.Le.refl _) 15 55 rfl (by kernel_rfl) (by kernel_rfl) (by kernel_rfl) rfl rfl rfl rfl rfl (.cons_cons _ (.cons_cons _ (.cons_cons _ (.cons_cons _ (.cons_cons _ (.cons_cons _ (.cons_cons _ (sub_app hs614 (sub_app hs579 (sub_app hs7 (sub_app hs12 (sub_app hs22 (.refl _))))))))))))) ?_
              refine D_no (Base.Le.refl _) 16 55 rfl (by kernel_rfl) (by kernel_rfl) (by kernel_rfl) rfl rfl rfl rfl rfl (.cons_cons _ (.cons_cons _ (.cons_cons _ (.cons_cons _ (.cons_cons _ (.cons_cons _ (.cons_cons _ (sub_app hs614 (sub_app hs579 (sub_app hs7 (sub_app hs12 (sub_app hs22 (.refl _))))))))))))) ?_
              refine D_no (Base.Le.refl _) 17 55 rfl (by kernel_rfl) (by kernel_rfl) (by kernel_rfl) rfl rfl rfl rfl rfl (.cons_cons _ (.cons_cons _ (.cons_cons _ (.cons_cons _ (.cons_cons _ (.cons_cons _ (.cons_cons _ (sub_app hs614 (sub_app hs579 (sub_app hs7 (sub_app hs12 (sub_app hs22 (.refl _))))))))))))) ?_
              refine D_no (Base.Le.refl _) 18 55 rfl (by kernel_rfl) (by kernel_rfl) (by kernel_rfl) rfl rfl rfl rfl rfl (.cons_cons _ (.cons_cons _ (.cons_cons _ (.cons_cons _ (.cons_cons _ (.cons_cons _ (.cons_cons _ (sub_app hs614 (sub_app hs579 (sub_app hs7 (sub_app hs12 (sub_app hs22 (.refl _))))))))))))) ?_
              refine D_no (Base.Le.refl _) 19 55 rfl (by kernel_rfl) (by kernel_rfl) (by kernel_rfl) rfl rfl rfl rfl rfl (.cons_cons _ (.cons_cons _ (.cons_cons _ (.cons_cons _ (.cons_cons _ (.cons_cons _ (.cons_cons _ (sub_app hs614 (sub_app hs579 (sub_app hs7 (sub_app hs12 (sub_app hs22 (.refl _))))))))))))) ?_
              refine D_no (Base.Le.refl _) 20 55 rfl (by kernel_rfl) (by kernel_rfl) (by kernel_rfl) rfl rfl rfl rfl rfl (.cons_cons _ (.cons_cons _ (.cons_cons _ (.cons_cons _ (.cons_cons _ (.cons_cons _ (.cons_cons _ (sub_app hs614 (sub_app hs579 (sub_app hs7 (sub_app hs12 (sub_app hs22 (.refl _))))))))))))) ?_
              refine D_no (Base.Le.refl _) 21 55 rfl (by kernel_rfl) (by kernel_rfl) (by kernel_rfl) rfl rfl rfl rfl rfl (.cons_cons _ (.cons_cons _ (.cons_cons _ (.cons_cons _ (.cons_cons _ (.cons_cons _ (.cons_cons _ (sub_app hs614 (sub_app hs579 (sub_app hs7 (sub_app hs12 (sub_app hs22 (.refl _))))))))))))) ?_
              refine D_yes (Base.Le.refl _) 22 45 rfl (by kernel_rfl) (by kernel_rfl) (by kernel_rfl) rfl rfl rfl rfl (st_pick_t rfl rfl) (.cons_cons _ (.cons_cons _ (.cons_cons _ (.cons_cons _ (.cons_cons _ (.cons_cons _ (.cons_cons _ (sub_app hs614 (sub_app hs579 (sub_app hs7 (sub_app hs12 (sub_app hs22 (.refl _))))))))))))) ?_
              refine D_st (Base.Le.refl _) 23 rfl (by kernel_rfl) (by kernel_rfl) (by kernel_rfl) rfl (st_pick_t rfl rfl) (.cons_cons _ (.cons_cons _ (.cons_cons _ (.cons_cons _ (.cons_cons _ (.cons_cons _ (.cons_cons _ (sub_app hs614 (sub_app hs579 (sub_app hs7 (sub_app hs12 (sub_app hs22 (.refl _))))))))))))) ?_
              refine D_st (Base.Le.refl _) 24 rfl (by kernel_rfl) (by kernel_rfl) (by kernel_rfl) rfl (st_move rfl) (.cons_cons _ (.cons_cons _ (.cons_cons _ (.cons_cons _ (.cons_cons _ (.cons_cons _ (.cons_cons _ (sub_app hs614 (sub_app hs579 (sub_app hs7 (sub_app hs12 (sub_app hs22 (.refl _))))))))))))) ?_
              refine D_yes (Base.Le.refl _) 25 68 rfl (by kernel_rfl) (by kernel_rfl) (by kernel_rfl) rfl rfl rfl rfl (st_move rfl) (.cons_cons _ (.cons_cons _ (.cons_cons _ (.cons_cons _ (.cons_cons _ (.cons_cons _ (.cons_cons _ (sub_app hs614 (sub_app hs579 (sub_app hs7 (sub_app hs12 (sub_app hs22 (.refl _))))))))))))) ?_
              refine D_yes (Base.Le.refl _) 26 68 rfl (by kernel_rfl) (by kernel_rfl) (by kernel_rfl) rfl rfl rfl rfl (st_leq_f rfl rfl hc803) (.cons_cons _ (.cons_cons _ (.cons_cons _ (.cons_cons _ (.cons_cons _ (.cons_cons _ (.cons_cons _ (sub_app hs614 (sub_app hs579 (sub_app hs7 (sub_app hs12 (sub_app hs22 (.refl _))))))))))))) ?_
              refine D_st (Base.Le.refl _) 27 rfl (by kernel_rfl) (by kernel_rfl) (by kernel_rfl) rfl (st_pick_t rfl rfl) (.cons_cons _ (.cons_cons _ (.cons_cons _ (.cons_cons _ (.cons_cons _ (.cons_cons _ (.cons_cons _ (sub_app hs614 (sub_app hs579 (sub_app hs7 (sub_app hs12 (sub_app hs22 (.refl _))))))))))))) ?_
              refine D_st (Base.Le.refl _) 28 rfl (by kernel_rfl) (by kernel_rfl) (by kernel_rfl) rfl (st_move rfl) (.cons_cons _ (.cons_cons _ (.cons_cons _ (.cons_cons _ (.cons_cons _ (.cons_cons _ (.cons_cons _ (sub_app hs614 (sub_app hs579 (sub_app hs7 (sub_app hs12 (sub_app hs22 (.refl _))))))))))))) ?_
              refine D_no (Base.Le.refl _) 29 72 rfl (by kernel_rfl) (by kernel_rfl) (by kernel_rfl) rfl rfl rfl rfl rfl (.cons_cons _ (.cons_cons _ (.cons_cons _ (.cons_cons _ (.cons_cons _ (.cons_cons _ (.cons_cons _ (sub_app hs614 (sub_app hs579 (sub_app hs7 (sub_app hs12 (sub_app hs22 (.refl _))))))))))))) ?_
              refine D_no (Base.Le.refl _) 30 72 rfl (by kernel_rfl) (by kernel_rfl) (by kernel_rfl) rfl rfl rfl rfl rfl (.cons_cons _ (.cons_cons _ (.cons_cons _ (.cons_cons _ (.cons_cons _ (.cons_cons _ (.cons_cons _ (sub_app hs614 (sub_app hs579 (sub_app hs7 (sub_app hs12 (sub_app hs22 (.refl _))))))))))))) ?_
              refine D_no (Base.Le.refl _) 31 72 rfl (by kernel_rfl) (by kernel_rfl) (by kernel_rfl) rfl rfl rfl rfl rfl (.cons_cons _ (.cons_cons _ (.cons_cons _ (.cons_cons _ (.cons_cons _ (.cons_cons _ (.cons_cons _ (sub_app hs614 (sub_app hs579 (sub_app hs7 (sub_app hs12 (sub_app hs22 (.refl _))))))))))))) ?_
              refine D_no (Base.Le.refl _) 32 72 rfl (by kernel_rfl) (by kernel_rfl) (by kernel_rfl) rfl rfl rfl rfl rfl (.cons_cons _ (.cons_cons _ (.cons_cons _ (.cons_cons _ (.cons_cons _ (.cons_cons _ (.cons_cons _ (sub_app hs614 (sub_app hs579 (sub_app hs7 (sub_app hs12 (sub_app hs22 (.refl _))))))))))))) ?_
              refine D_no (Base.Le.refl _) 33 72 rfl (by kernel_rfl) (by kernel_rfl) (by kernel_rfl) rfl rfl rfl rfl rfl (.cons_cons _ (.cons_cons _ (.cons_cons _ (.cons_cons _ (.cons_cons _ (.cons_cons _ (.cons_cons _ (sub_app hs614 (sub_app hs579 (sub_app hs7 (sub_app hs12 (sub_app hs22 (.refl _))))))))))))) ?_
              refine D_no (Base.Le.refl _) 34 72 rfl (by kernel_rfl) (by kernel_rfl) (by kernel_rfl) rfl rfl rfl rfl rfl (.cons_cons _ (.cons_cons _ (.cons_cons _ (.cons_cons _ (.cons_cons _ (.cons_cons _ (.cons_cons _ (sub_app hs614 (sub_app hs579 (sub_app hs7 (sub_app hs12 (sub_app hs22 (.refl _))))))))))))) ?_
              refine D_st (Base.Le.refl _) 35 rfl (by kernel_rfl) (by kernel_rfl) (by kernel_rfl) rfl (st_pick_f rfl rfl) (.cons_cons _ (.cons_cons _ (.cons_cons _ (.cons_cons _ (.cons_cons _ (.cons_cons _ (.cons_cons _ (sub_app hs614 (sub_app hs579 (sub_app hs7 (sub_app hs12 (sub_app hs22 (.refl _))))))))))))) ?_
              refine D_all [36] (by kernel_rfl) rfl ?_
              refine R_do (Base.Le.refl _) rfl rfl (u_store 3 rfl rfl siz4 rfl rfl (by simp)) ?_ ?_
              ·
                rintro _ _ rfl
                refine ⟨.inl (by kernel_rfl), ?_⟩
                refine D_done (by kernel_rfl) ?_
                obtain rfl := some1 hm
                refine x_pullb 6 rfl ?_
                refine x_pullb 4 rfl ?_
                refine x_pullb 4 rfl ?_
                refine x_pullb 4 rfl ?_
                refine x_pullb 4 rfl ?_
                refine x_pullb 6 rfl ?_
                refine x_pullb 6 rfl ?_
                refine x_front5 [_, _, _, _, _, _, _] hs614 hs579 hs7 hs12 hs22 R rfl ?_
                refine x_front3 [_, _, _, _, _, _, _] hs22 hs614 hs579 (hs7 ++ (hs12 ++ R)) rfl ?_
                refine x_front5 [_, _, _, _, _, _, _] hs579 hs22 hs614 hs7 hs12 R rfl ?_
                refine x_front5 [_, _, _, _, _, _, _] hs12 hs579 hs22 hs614 hs7 R rfl ?_
                refine x_front5 [_, _, _, _, _, _, _] hs7 hs12 hs579 hs22 hs614 R rfl ?_
                exact x_join (e' := [(4, .pointer (some ⟨g29, 0, none⟩)), (5, .pointer (some ⟨g30, 0, none⟩)), (6, .pointer (some ⟨g477, 0, none⟩))]) (hp' := (g29, Cl 88 [.slice A8 (l39).length c9]) :: (g30, Cl 22 [.slice A13 (l40).length c14]) :: (g477, Cl 34 [.int .i64 (s32.From), .int .i64 (s32.To), .int .i64 (s32.Len)]) :: (g26, Cl 69 [.pointer (some ⟨g31, 0, none⟩)]) :: (g27, Cl 22 [.slice A3 (put l38 s32.To (x581 + 1)).length c4]) :: (g28, Cl 4 [.bool (false)]) :: (g31, Cl 73 [.slice A18 (put l41 s32.To (x495 + s32.Len)).length c19, .slice A34 (l37).length c35, .slice A23 (l42).length c24]) :: (hs614 ++ (hs7 ++ (hs12 ++ (hs579 ++ (hs22 ++ R)))))) ⟨rfl, rfl, rfl, trivial⟩ (.cons_cons _ (.cons_cons _ (.cons_cons _ (.cons_cons _ (.cons_cons _ (.cons_cons _ (.cons_cons _ (sub_app hs614 (sub_app hs7 (sub_app hs12 (sub_app hs579 (sub_app hs22 (.refl _))))))))))))) ⟨rfl, rfl, (Base.Le.refl _)⟩
              exact R_nil
          ·
            rw [if_neg hc802] at hm
            obtain ⟨x820, h821, hm⟩ := bindS hm
            by_cases hc830 : (x495 + s32.Len) ≤ x820
            ·
              rw [if_pos hc830] at hm
              by_cases hc831 : (x495 + s32.Len) ≤ 1099511627776
              ·
                rw [if_pos hc831] at hm
                obtain ⟨x832, h833, hm⟩ := bindS hm
                refine D_drawS ((g477, Cl 34 [.int .i64 (s32.From), .int .i64 (s32.To), .int .i64 (s32.Len)]) :: (g26, Cl 69 [.pointer (some ⟨g31, 0, none⟩)]) :: (g27, Cl 22 [.slice A3 (put l38 s32.To (x581 + 1)).length c4]) :: (g28, Cl 4 [.bool (x33)]) :: (g29, Cl 88 [.slice A8 (l39).length c9]) :: (g30, Cl 22 [.slice A13 (l40).length c14]) :: (g31, Cl 73 [.slice A18 (put l41 s32.To (x495 + s32.Len)).length c19, .slice A34 (l37).length c35, .slice A23 (l42).length c24]) :: (hs614 ++ (hs579 ++ (hs7 ++ (hs12 ++ (hs22 ++ R)))))) mixed ?_
                refine D_st (Base.Le.refl _) 0 rfl (by kernel_rfl) (by kernel_rfl) (by kernel_rfl) rfl (stB (st_load 3 rfl one4 rfl rfl) hc791) (.cons_cons _ (.cons_cons _ (.cons_cons _ (.cons_cons _ (.cons_cons _ (.cons_cons _ (.cons_cons _ (sub_app hs614 (sub_app hs579 (sub_app hs7 (sub_app hs12 (sub_app hs22 (.refl _))))))))))))) ?_
                refine D_st (Base.Le.refl _) 1 rfl (by kernel_rfl) (by kernel_rfl) (by kernel_rfl) rfl (st_move rfl) (.cons_cons _ (.cons_cons _ (.cons_cons _ (.cons_cons _ (.cons_cons _ (.cons_cons _ (.cons_cons _ (sub_app hs614 (sub_app hs579 (sub_app hs7 (sub_app hs12 (sub_app hs22 (.refl _))))))))))))) ?_
                refine D_yes (Base.Le.refl _) 2 45 rfl (by kernel_rfl) (by kernel_rfl) (by kernel_rfl) rfl rfl rfl rfl (st_load 1 rfl one69 rfl rfl) (.cons_cons _ (.cons_cons _ (.cons_cons _ (.cons_cons _ (.cons_cons _ (.cons_cons _ (.cons_cons _ (sub_app hs614 (sub_app hs579 (sub_app hs7 (sub_app hs12 (sub_app hs22 (.refl _))))))))))))) ?_
                refine D_yes (Base.Le.refl _) 3 45 rfl (by kernel_rfl) (by kernel_rfl) (by kernel_rfl) rfl rfl rfl rfl (st_nil rfl) (.cons_cons _ (.cons_cons _ (.cons_cons _ (.cons_cons _ (.cons_cons _ (.cons_cons _ (.cons_cons _ (sub_app hs614 (sub_app hs579 (sub_app hs7 (sub_app hs12 (sub_app hs22 (.refl _))))))))))))) ?_
                refine D_yes (Base.Le.refl _) 4 45 rfl (by kernel_rfl) (by kernel_rfl) (by kernel_rfl) rfl rfl rfl rfl (st_field rfl fld73_1) (.cons_cons _ (.cons_cons _ (.cons_cons _ (.cons_cons _ (.cons_cons _ (.cons_cons _ (.cons_cons _ (sub_app hs614 (sub_app hs579 (sub_app hs7 (sub_app hs12 (sub_app hs22 (.refl _))))))))))))) ?_
                refine D_yes (Base.Le.refl _) 5 45 rfl (by kernel_rfl) (by kernel_rfl) (by kernel_rfl) rfl rfl rfl rfl (st_load 6 rfl one22 rfl rfl) (.cons_cons _ (.cons_cons _ (.cons_cons _ (.cons_cons _ (.cons_cons _ (.cons_cons _ (.cons_cons _ (sub_app hs614 (sub_app hs579 (sub_app hs7 (sub_app hs12 (sub_app hs22 (.refl _))))))))))))) ?_
                refine D_yes (Base.Le.refl _) 6 45 rfl (by kernel_rfl) (by kernel_rfl) (by kernel_rfl) rfl rfl rfl rfl (st_field rfl fld34_1) (.cons_cons _ (.cons_cons _ (.cons_cons _ (.cons_cons _ (.cons_cons _ (.cons_cons _ (.cons_cons _ (sub_app hs614 (sub_app hs579 (sub_app hs7 (sub_app hs12 (sub_app hs22 (.refl _))))))))))))) ?_
                refine D_yes (Base.Le.refl _) 7 45 rfl (by kernel_rfl) (by kernel_rfl) (by kernel_rfl) rfl rfl rfl rfl (st_load 0 rfl one3 rfl rfl) (.cons_cons _ (.cons_cons _ (.cons_cons _ (.cons_cons _ (.cons_cons _ (.cons_cons _ (.cons_cons _ (sub_app hs614 (sub_app hs579 (sub_app hs7 (sub_app hs12 (sub_app hs22 (.refl _))))))))))))) ?_
                obtain ⟨j794, hj795, hx796⟩ := idx_some h793
                obtain ⟨cs797, hr798, hcs799, hA800, hlt801⟩ := FZ.get (sz := 1) rfl (by decide) h36 hx796
                obtain rfl := hr798
                refine D_yes (Base.Le.refl _) 8 45 rfl (by kernel_rfl) (by kernel_rfl) (by kernel_rfl) rfl rfl rfl rfl (st_index_old j794 rfl rfl hj795 hlt801 hA800 sl22) (.cons_cons _ (.cons_cons _ (.cons_cons _ (.cons_cons _ (.cons_cons _ (.cons_cons _ (.cons_cons _ (sub_app hs614 (sub_app hs579 (sub_app hs7 (sub_app hs12 (sub_app hs22 (.refl _))))))))))))) ?_
                refine D_yes (Base.Le.refl _) 9 45 rfl (by kernel_rfl) (by kernel_rfl) (by kernel_rfl) rfl rfl rfl rfl (st_load_old rfl one3 (hcs799 0 _ rfl)) (.cons_cons _ (.cons_cons _ (.cons_cons _ (.cons_cons _ (.cons_cons _ (.cons_cons _ (.cons_cons _ (sub_app hs614 (sub_app hs579 (sub_app hs7 (sub_app hs12 (sub_app hs22 (.refl _))))))))))))) ?_
                refine D_yes (Base.Le.refl _) 10 45 rfl (by kernel_rfl) (by kernel_rfl) (by kernel_rfl) rfl rfl rfl rfl (st_lss_f rfl rfl hc802) (.cons_cons _ (.cons_cons _ (.cons_cons _ (.cons_cons _ (.cons_cons _ (.cons_cons _ (.cons_cons _ (sub_app hs614 (sub_app hs579 (sub_app hs7 (sub_app hs12 (sub_app hs22 (.refl _))))))))))))) ?_
                refine D_yes (Base.Le.refl _) 11 45 rfl (by kernel_rfl) (by kernel_rfl) (by kernel_rfl) rfl rfl rfl rfl (st_move rfl) (.cons_cons _ (.cons_cons _ (.cons_cons _ (.cons_cons _ (.cons_cons _ (.cons_cons _ (.cons_cons _ (sub_app hs614 (sub_app hs579 (sub_app hs7 (sub_app hs12 (sub_app hs22 (.refl _))))))))))))) ?_
                refine D_yes (Base.Le.refl _) 12 55 rfl (by kernel_rfl) (by kernel_rfl) (by kernel_rfl) rfl rfl rfl rfl (st_move rfl) (.cons_cons _ (.cons_cons _ (.cons_cons _ (.cons_cons _ (.cons_cons _ (.cons_cons _ (.cons_cons _ (sub_app hs614 (sub_app hs579 (sub_app hs7 (sub_app hs12 (sub_app hs22 (.refl _))))))))))))) ?_
                refine D_yes (Base.Le.refl _) 13 55 rfl (by kernel_rfl) (by kernel_rfl) (by kernel_rfl) rfl rfl rfl rfl (st_load 1 rfl one69 rfl rfl) (.cons_cons _ (.cons_cons _ (.cons_cons _ (.cons_cons _ (.cons_cons _ (.cons_cons _ (.cons_cons _ (sub_app hs614 (sub_app hs579 (sub_app hs7 (sub_app hs12 (sub_app hs22 (.refl _))))))))))))) ?_
                refine D_yes (Base.Le.refl _) 14 55 rfl (by kernel_rfl) (by kernel_rfl) (by kernel_rfl) rfl rfl rfl rfl (st_nil rfl) (.cons_cons _ (.cons_cons _ (.cons_cons _ (.cons_cons _ (.cons_cons _ (.cons_cons _ (.cons_cons _ (sub_app hs614 (sub_app hs579 (sub_app hs7 (sub_app hs12 (sub_app hs22 (.refl _))))))))))))) ?_
                refine D_yes (Base.Le.refl _) 15 55 rfl (by kernel_rfl) (by kernel_rfl) (by kernel_rfl) rfl rfl rfl rfl (st_field rfl fld73_1) (.cons_cons _ (.cons_cons _ (.cons_cons _ (.cons_cons _ (.cons_cons _ (.cons_cons _ (.cons_cons _ (sub_app hs614 (sub_app hs579 (sub_app hs7 (sub_app hs12 (sub_app hs22 (.refl _))))))))))))) ?_
                refine D_yes (Base.Le.refl _) 16 55 rfl (by kernel_rfl) (by kernel_rfl) (by kernel_rfl) rfl rfl rfl rfl (st_load 6 rfl one22 rfl rfl) (.cons_cons _ (.cons_cons _ (.cons_cons _ (.cons_cons _ (.cons_cons _ (.cons_cons _ (.cons_cons _ (sub_app hs614 (sub_app hs579 (sub_app hs7 (sub_app hs12 (sub_app hs22 (.refl _))))))))))))) ?_
                refine D_yes (Base.Le.refl _) 17 55 rfl (by kernel_rfl) (by kernel_rfl) (by kernel_rfl) rfl rfl rfl rfl (st_field rfl fld34_1) (.cons_cons _ (.cons_cons _ (.cons_cons _ (.cons_cons _ (.cons_cons _ (.cons_cons _ (.cons_cons _ (sub_app hs614 (sub_app hs579 (sub_app hs7 (sub_app hs12 (sub_app hs22 (.refl _))))))))))))) ?_
                refine D_yes (Base.Le.refl _) 18 55 rfl (by kernel_rfl) (by kernel_rfl) (by kernel_rfl) rfl rfl rfl rfl (st_load 0 rfl one3 rfl rfl) (.cons_cons _ (.cons_cons _ (.cons_cons _ (.cons_cons _ (.cons_cons _ (.cons_cons _ (.cons_cons _ (sub_app hs614 (sub_app hs579 (sub_app hs7 (sub_app hs12 (sub_app hs22 (.refl _))))))))))))) ?_
                obtain ⟨j822, hj823, hx824⟩ := idx_some h821
                obtain ⟨cs825, hr826, hcs827, hA828, hlt829⟩ := FZ.get (sz := 1) rfl (by decide) h36 hx824
                obtain rfl := hr826
                refine D_yes (Base.Le.refl _) 19 55 rfl (by kernel_rfl) (by kernel_rfl) (by kernel_rfl) rfl rfl rfl rfl (st_index_old j822 rfl rfl hj823 hlt829 hA828 sl22) (.cons_cons _ (.cons_cons _ (.cons_cons _ (.cons_cons _ (.cons_cons _ (.cons_cons _ (.cons_cons _ (sub_app hs614 (sub_app hs579 (sub_app hs7 (sub_app hs12 (sub_app hs22 (.refl _))))))))))))) ?_
                refine D_yes (Base.Le.refl _) 20 55 rfl (by kernel_rfl) (by kernel_rfl) (by kernel_rfl) rfl rfl rfl rfl (st_load_old rfl one3 (hcs827 0 _ rfl)) (.cons_cons _ (.cons_cons _ (.cons_cons _ (.cons_cons _ (.cons_cons _ (.cons_cons _ (.cons_cons _ (sub_app hs614 (sub_app hs579 (sub_app hs7 (sub_app hs12 (sub_app hs22 (.refl _))))))))))))) ?_
                refine D_yes (Base.Le.refl _) 21 55 rfl (by kernel_rfl) (by kernel_rfl) (by kernel_rfl) rfl rfl rfl rfl (st_leq_t rfl rfl hc830) (.cons_cons _ (.cons_cons _ (.cons_cons _ (.cons_cons _ (.cons_cons _ (.cons_cons _ (.cons_cons _ (sub_app hs614 (sub_app hs579 (sub_app hs7 (sub_app hs12 (sub_app hs22 (.refl _))))))))))))) ?_
                refine D_yes (Base.Le.refl _) 22 45 rfl (by kernel_rfl) (by kernel_rfl) (by kernel_rfl) rfl rfl rfl rfl (st_pick_f rfl rfl) (.cons_cons _ (.cons_cons _ (.cons_cons _ (.cons_cons _ (.cons_cons _ (.cons_cons _ (.cons_cons _ (sub_app hs614 (sub_app hs579 (sub_app hs7 (sub_app hs12 (sub_app hs22 (.refl _))))))))))))) ?_
                refine D_st (Base.Le.refl _) 23 rfl (by kernel_rfl) (by kernel_rfl) (by kernel_rfl) rfl (st_pick_t rfl rfl) (.cons_cons _ (.cons_cons _ (.cons_cons _ (.cons_cons _ (.cons_cons _ (.cons_cons _ (.cons_cons _ (sub_app hs614 (sub_app hs579 (sub_app hs7 (sub_app hs12 (sub_app hs22 (.refl _))))))))))))) ?_
                refine D_st (Base.Le.refl _) 24 rfl (by kernel_rfl) (by kernel_rfl) (by kernel_rfl) rfl (st_move rfl) (.cons_cons _ (.cons_cons _ (.cons_cons _ (.cons_cons _ (.cons_cons _ (.cons_cons _ (.cons_cons _ (sub_app hs614 (sub_app hs579 (sub_app hs7 (sub_app hs12 (sub_app hs22 (.refl _))))))))))))) ?_
                refine D_yes (Base.Le.refl _) 25 68 rfl (by kernel_rfl) (by kernel_rfl) (by kernel_rfl) rfl rfl rfl rfl (st_move rfl) (.cons_cons _ (.cons_cons _ (.cons_cons _ (.cons_cons _ (.cons_cons _ (.cons_cons _ (.cons_cons _ (sub_app hs614 (sub_app hs579 (sub_app hs7 (sub_app hs12 (sub_app hs22 (.refl _))))))))))))) ?_
                refine D_yes (Base.Le.refl _) 26 68 rfl (by kernel_rfl) (by kernel_rfl) (by kernel_rfl) rfl rfl rfl rfl (st_leq_t rfl rfl hc831) (.cons_cons _ (.cons_cons _ (.cons_cons _ (.cons_cons _ (.cons_cons _ (.cons_cons _ (.cons_cons _ (sub_app hs614 (sub_app hs579 (sub_app hs7 (sub_app hs12 (sub_app hs22 (.refl _))))))))))))) ?_
                refine D_st (Base.Le.refl _) 27 rfl (by kernel_rfl) (by kernel_rfl) (by kernel_rfl) rfl (st_pick_t rfl rfl) (.cons_cons _ (.cons_cons _ (.cons_cons _ (.cons_cons _ (.cons_cons _ (.cons_cons _ (.cons_cons _ (sub_app hs614 (sub_app hs579 (sub_app hs7 (sub_app hs12 (sub_app hs22 (.refl _))))))))))))) ?_
                refine D_st (Base.Le.refl _) 28 rfl (by kernel_rfl) (by kernel_rfl) (by kernel_rfl) rfl (st_move rfl) (.cons_cons _ (.cons_cons _ (.cons_cons _ (.cons_cons _ (.cons_cons _ (.cons_cons _ (.cons_cons _ (sub_app hs614 (sub_app hs579 (sub_app hs7 (sub_app hs12 (sub_app hs22 (.refl _))))))))))))) ?_
                refine D_yes (Base.Le.refl _) 29 72 rfl (by kernel_rfl) (by kernel_rfl) (by kernel_rfl) rfl rfl rfl rfl (st_load 2 rfl one22 rfl rfl) (.cons_cons _ (.cons_cons _ (.cons_cons _ (.cons_cons _ (.cons_cons _ (.cons_cons _ (.cons_cons _ (sub_app hs614 (sub_app hs579 (sub_app hs7 (sub_app hs12 (sub_app hs22 (.refl _))))))))))))) ?_
                refine D_yes (Base.Le.refl _) 30 72 rfl (by kernel_rfl) (by kernel_rfl) (by kernel_rfl) rfl rfl rfl rfl (st_field rfl fld34_1) (.cons_cons _ (.cons_cons _ (.cons_cons _ (.cons_cons _ (.cons_cons _ (.cons_cons _ (.cons_cons _ (sub_app hs614 (sub_app hs579 (sub_app hs7 (sub_app hs12 (sub_app hs22 (.refl _))))))))))))) ?_
                refine D_yes (Base.Le.refl _) 31 72 rfl (by kernel_rfl) (by kernel_rfl) (by kernel_rfl) rfl rfl rfl rfl (st_load 0 rfl one3 rfl rfl) (.cons_cons _ (.cons_cons _ (.cons_cons _ (.cons_cons _ (.cons_cons _ (.cons_cons _ (.cons_cons _ (sub_app hs614 (sub_app hs579 (sub_app hs7 (sub_app hs12 (sub_app hs22 (.refl _))))))))))))) ?_
                obtain ⟨j834, hj835, hx836⟩ := idx_some h833
                obtain ⟨cs837, hs842, P843, P844, hq845, hr838, hcs839, hA840, hlt841, hb846, hho847⟩ := OS.get (sz := 1) rfl (by decide) h615 hx836
                obtain ⟨rfl, rfl⟩ := hr838
                refine D_yes (Base.Le.refl _) 32 72 rfl (by kernel_rfl) (by kernel_rfl) (by kernel_rfl) rfl rfl rfl rfl (st_index_old j834 rfl rfl hj835 hlt841 hA840 sl22) (.cons_cons _ (.cons_cons _ (.cons_cons _ (.cons_cons _ (.cons_cons _ (.cons_cons _ (.cons_cons _ (sub_app hs614 (sub_app hs579 (sub_app hs7 (sub_app hs12 (sub_app hs22 (.refl _))))))))))))) ?_
                refine D_yes (Base.Le.refl _) 33 72 rfl (by kernel_rfl) (by kernel_rfl) (by kernel_rfl) rfl rfl rfl rfl (st_load_rd rfl one3 (fun w ho => hcs839 w _ ho (.cons _ (.cons _ (.cons _ (.cons _ (.cons _ (.cons _ (.cons _ (List.sublist_append_left _ _)))))))) 0 _ rfl)) (.cons_cons _ (.cons_cons _ (.cons_cons _ (.cons_cons _ (.cons_cons _ (.cons_cons _ (.cons_cons _ (sub_app hs614 (sub_app hs579 (sub_app hs7 (sub_app hs12 (sub_app hs22 (.refl _))))))))))))) ?_
                refine D_yes (Base.Le.refl _) 34 72 rfl (by kernel_rfl) (by kernel_rfl) (by kernel_rfl) rfl rfl rfl rfl (st_leq rfl rfl) (.cons_cons _ (.cons_cons _ (.cons_cons _ (.cons_cons _ (.cons_cons _ (.cons_cons _ (.cons_cons _ (sub_app hs614 (sub_app hs579 (sub_app hs7 (sub_app hs12 (sub_app hs22 (.refl _))))))))))))) ?_
                refine D_st (Base.Le.refl _) 35 rfl (by kernel_rfl) (by kernel_rfl) (by kernel_rfl) rfl (st_pick_t rfl rfl) (.cons_cons _ (.cons_cons _ (.cons_cons _ (.cons_cons _ (.cons_cons _ (.cons_cons _ (.cons_cons _ (sub_app hs614 (sub_app hs579 (sub_app hs7 (sub_app hs12 (sub_app hs22 (.refl _))))))))))))) ?_
                refine D_all [36] (by kernel_rfl) rfl ?_
                refine R_do (Base.Le.refl _) rfl rfl (u_store 3 rfl rfl siz4 rfl rfl (by simp)) ?_ ?_
                ·
                  rintro _ _ rfl
                  refine ⟨.inl (by kernel_rfl), ?_⟩
                  refine D_done (by kernel_rfl) ?_
                  obtain rfl := some1 hm
                  refine x_pullb 6 rfl ?_
                  refine x_pullb 4 rfl ?_
                  refine x_pullb 4 rfl ?_
                  refine x_pullb 4 rfl ?_
                  refine x_pullb 4 rfl ?_
                  refine x_pullb 6 rfl ?_
                  refine x_pullb 6 rfl ?_
                  refine x_front5 [_, _, _, _, _, _, _] hs614 hs579 hs7 hs12 hs22 R rfl ?_
                  refine x_front3 [_, _, _, _, _, _, _] hs22 hs614 hs579 (hs7 ++ (hs12 ++ R)) rfl ?_
                  refine x_front5 [_, _, _, _, _, _, _] hs579 hs22 hs614 hs7 hs12 R rfl ?_
                  refine x_front5 [_, _, _, _, _, _, _] hs12 hs579 hs22 hs614 hs7 R rfl ?_
                  refine x_front5 [_, _, _, _, _, _, _] hs7 hs12 hs579 hs22 hs614 R rfl ?_
                  exact x_join (e' := [(4, .pointer (some ⟨g29, 0, none⟩)), (5, .pointer (some ⟨g30, 0, none⟩)), (6, .pointer (some ⟨g477, 0, none⟩))]) (hp' := (g29, Cl 88 [.slice A8 (l39).length c9]) :: (g30, Cl 22 [.slice A13 (l40).length c14]) :: (g477, Cl 34 [.int .i64 (s32.From), .int .i64 (s32.To), .int .i64 (s32.Len)]) :: (g26, Cl 69 [.pointer (some ⟨g31, 0, none⟩)]) :: (g27, Cl 22 [.slice A3 (put l38 s32.To (x581 + 1)).length c4]) :: (g28, Cl 4 [.bool (decide (x832 ≤ 65536))]) :: (g31, Cl 73 [.slice A18 (put l41 s32.To (x495 + s32.Len)).length c19, .slice A34 (l37).length c35, .slice A23 (l42).length c24]) :: (hs614 ++ (hs7 ++ (hs12 ++ (hs579 ++ (hs22 ++ R)))))) ⟨rfl, rfl, rfl, trivial⟩ (.cons_cons _ (.cons_cons _ (.cons_cons _ (.cons_cons _ (.cons_cons _ (.cons_cons _ (.cons_cons _ (sub_app hs614 (sub_app hs7 (sub_app hs12 (sub_app hs579 (sub_app hs22 (.refl _))))))))))))) ⟨rfl, rfl, (Base.Le.refl _)⟩
                exact R_nil
              ·
                rw [if_neg hc831] at hm
                refine D_drawS ((g477, Cl 34 [.int .i64 (s32.From), .int .i64 (s32.To), .int .i64 (s32.Len)]) :: (g26, Cl 69 [.pointer (some ⟨g31, 0, none⟩)]) :: (g27, Cl 22 [.slice A3 (put l38 s32.To (x581 + 1)).length c4]) :: (g28, Cl 4 [.bool (x33)]) :: (g29, Cl 88 [.slice A8 (l39).length c9]) :: (g30, Cl 22 [.slice A13 (l40).length c14]) :: (g31, Cl 73 [.slice A18 (put l41 s32.To (x495 + s32.Len)).length c19, .slice A34 (l37).length c35, .slice A23 (l42).length c24]) :: (hs614 ++ (hs579 ++ (hs7 ++ (hs12 ++ (hs22 ++ R)))))) mixed ?_
                refine D_st (Base.Le.refl _) 0 rfl (by kernel_rfl) (by kernel_rfl) (by kernel_rfl) rfl (stB (st_load 3 rfl one4 rfl rfl) hc791) (.cons_cons _ (.cons_cons _ (.cons_cons _ (.cons_cons _ (.cons_cons _ (.cons_cons _ (.cons_cons _ (sub_app hs614 (sub_app hs579 (sub_app hs7 (sub_app hs12 (sub_app hs22 (.refl _))))))))))))) ?_
                refine D_st (Base.Le.refl _) 1 rfl (by kernel_rfl) (by kernel_rfl) (by kernel_rfl) rfl (st_move rfl) (.cons_cons _ (.cons_cons _ (.cons_cons _ (.cons_cons _ (.cons_cons _ (.cons_cons _ (.cons_cons _ (sub_app hs614 (sub_app hs579 (sub_app hs7 (sub_app hs12 (sub_app hs22 (.refl _))))))))))))) ?_
                refine D_yes (Base.Le.refl _) 2 45 rfl (by kernel_rfl) (by kernel_rfl) (by kernel_rfl) rfl rfl rfl rfl (st_load 1 rfl one69 rfl rfl) (.cons_cons _ (.cons_cons _ (.cons_cons _ (.cons_cons _ (.cons_cons _ (.cons_cons _ (.cons_cons _ (sub_app hs614 (sub_app hs579 (sub_app hs7 (sub_app hs12 (sub_app hs22 (.refl _))))))))))))) ?_
                refine D_yes (Base.Le.refl _) 3 45 rfl (by kernel_rfl) (by kernel_rfl) (by kernel_rfl) rfl rfl rfl rfl (st_nil rfl) (.cons_cons _ (.cons_cons _ (.cons_cons _ (.cons_cons _ (.cons_cons _ (.cons_cons _ (.cons_cons _ (sub_app hs614 (sub_app hs579 (sub_app hs7 (sub_app hs12 (sub_app hs22 (.refl _))))))))))))) ?_
                refine D_yes (Base.Le.refl _) 4 45 rfl (by kernel_rfl) (by kernel_rfl) (by kernel_rfl) rfl rfl rfl rfl (st_field rfl fld73_1) (.cons_cons _ (.cons_cons _ (.cons_cons _ (.cons_cons _ (.cons_cons _ (.cons_cons _ (.cons_cons _ (sub_app hs614 (sub_app hs579 (sub_app hs7 (sub_app hs12 (sub_app hs22 (.refl _))))))))))))) ?_
                refine D_yes (Base.Le.refl _) 5 45 rfl (by kernel_rfl) (by kernel_rfl) (by kernel_rfl) rfl rfl rfl rfl (st_load 6 rfl one22 rfl rfl) (.cons_cons _ (.cons_cons _ (.cons_cons _ (.cons_cons _ (.cons_cons _ (.cons_cons _ (.cons_cons _ (sub_app hs614 (sub_app hs579 (sub_app hs7 (sub_app hs12 (sub_app hs22 (.refl _))))))))))))) ?_
                refine D_yes (Base.Le.refl _) 6 45 rfl (by kernel_rfl) (by kernel_rfl) (by kernel_rfl) rfl rfl rfl rfl (st_field rfl fld34_1) (.cons_cons _ (.cons_cons _ (.cons_cons _ (.cons_cons _ (.cons_cons _ (.cons_cons _ (.cons_cons _ (sub_app hs614 (sub_app hs579 (sub_app hs7 (sub_app hs12 (sub_app hs22 (.refl _))))))))))))) ?_
                refine D_yes (Base.Le.refl _) 7 45 rfl (by kernel_rfl) (by kernel_rfl) (by kernel_rfl) rfl rfl rfl rfl (st_load 0 rfl one3 rfl rfl) (.cons_cons _ (.cons_cons _ (.cons_cons _ (.cons_cons _ (.cons_cons _ (.cons_cons _ (.cons_cons _ (sub_app hs614 (sub_app hs579 (sub_app hs7 (sub_app hs12 (sub_app hs22 (.refl _))))))))))))) ?_
                obtain ⟨j794, hj795, hx796⟩ := idx_some h793
                obtain ⟨cs797, hr798, hcs799, hA800, hlt801⟩ := FZ.get (sz := 1) rfl (by decide) h36 hx796
                obtain rfl := hr798
                refine D_yes (Base.Le.refl _) 8 45 rfl (by kernel_rfl) (by kernel_rfl) (by kernel_rfl) rfl rfl rfl rfl (st_index_old j794 rfl rfl hj795 hlt801 hA800 sl22) (.cons_cons _ (.cons_cons _ (.cons_cons _ (.cons_cons _ (.cons_cons _ (.cons_cons _ (.cons_cons _ (sub_app hs614 (sub_app hs579 (sub_app hs7 (sub_app hs12 (sub_app hs22 (.refl _))))))))))))) ?_
                refine D_yes (Base.Le.refl _) 9 45 rfl (by kernel_rfl) (by kernel_rfl) (by kernel_rfl) rfl rfl rfl rfl (st_load_old rfl one3 (hcs799 0 _ rfl)) (.cons_cons _ (.cons_cons _ (.cons_cons _ (.cons_cons _ (.cons_cons _ (.cons_cons _ (.cons_cons _ (sub_app hs614 (sub_app hs579 (sub_app hs7 (sub_app hs12 (sub_app hs22 (.refl _))))))))))))) ?_
                refine D_yes (Base.Le.refl _) 10 45 rfl (by kernel_rfl) (by kernel_rfl) (by kernel_rfl) rfl rfl rfl rfl (st_lss_f rfl rfl hc802) (.cons_cons _ (.cons_cons _ (.cons_cons _ (.cons_cons _ (.cons_cons _ (.cons_cons _ (.cons_cons _ (sub_app hs614 (sub_app hs579 (sub_app hs7 (sub_app hs12 (sub_app hs22 (.refl _))))))))))))) ?_
                refine D_yes (Base.Le.refl _) 11 45 rfl (by kernel_rfl) (by kernel_rfl) (by kernel_rfl) rfl rfl rfl rfl (st_move rfl) (.cons_cons _ (.cons_cons _ (.cons_cons _ (.cons_cons _ (.cons_cons _ (.cons_cons _ (.cons_cons _ (sub_app hs614 (sub_app hs579 (sub_app hs7 (sub_app hs12 (sub_app hs22 (.refl _))))))))))))) ?_
                refine D_yes (Base.Le.refl _) 12 55 rfl (by kernel_rfl) (by kernel_rfl) (by kernel_rfl) rfl rfl rfl rfl (st_move rfl) (.cons_cons _ (.cons_cons _ (.cons_cons _ (.cons_cons _ (.cons_cons _ (.cons_cons _ (.cons_cons _ (sub_app hs614 (sub_app hs579 (sub_app hs7 (sub_app hs12 (sub_app hs22 (.refl _))))))))))))) ?_
                refine D_yes (Base.Le.refl _) 13 55 rfl (by kernel_rfl) (by kernel_rfl) (by kernel_rfl) rfl rfl rfl rfl (st_load 1 rfl one69 rfl rfl) (.cons_cons _ (.cons_cons _ (.cons_cons _ (.cons_cons _ (.cons_cons _ (.cons_cons _ (.cons_cons _ (sub_app hs614 (sub_app hs579 (sub_app hs7 (sub_app hs12 (sub_app hs22 (.refl _))))))))))))) ?_
                refine D_yes (Base.Le.refl _) 14 55 rfl (by kernel_rfl) (by kernel_rfl) (by kernel_rfl) rfl rfl rfl rfl (st_nil rfl) (.cons_cons _ (.cons_cons _ (.cons_cons _ (.cons_cons _ (.cons_cons _ (.cons_cons _ (.cons_cons _ (sub_app hs614 (sub_app hs579 (sub_app hs7 (sub_app hs12 (sub_app hs22 (.refl _))))))))))))) ?_
                refine D_yes (Base.Le.refl _) 15 55 rfl (by kernel_rfl) (by kernel_rfl) (by kernel_rfl) rfl rfl rfl rfl (st_field rfl fld73_1) (.cons_cons _ (.cons_cons _ (.cons_cons _ (.cons_cons _ (.cons_cons _ (.cons_cons _ (.cons_cons _ (sub_app hs614 (sub_app hs579 (sub_app hs7 (sub_app hs12 (sub_app hs22 (.refl _))))))))))))) ?_
                refine D_yes (Base.Le.refl _) 16 55 rfl (by kernel_rfl) (by kernel_rfl) (by kernel_rfl) rfl rfl rfl rfl (st_load 6 rfl one22 rfl rfl) (.cons_cons _ (.cons_cons _ (.cons_cons _ (.cons_cons _ (.cons_cons _ (.cons_cons _ (.cons_cons _ (sub_app hs614 (sub_app hs579 (sub_app hs7 (sub_app hs12 (sub_app hs22 (.refl _))))))))))))) ?_
                refine D_yes (Base.Le.refl _) 17 55 rfl (by kernel_rfl) (by kernel_rfl) (by kernel_rfl) rfl rfl rfl rfl (st_field rfl fld34_1) (.cons_cons _ (.cons_cons _ (.cons_cons _ (.cons_cons _ (.cons_cons _ (.cons_cons _ (.cons_cons _ (sub_app hs614 (sub_app hs579 (sub_app hs7 (sub_app hs12 (sub_app hs22 (.refl _))))))))))))) ?_
                refine D_yes (Base.Le.refl _) 18 55 rfl (by kernel_rfl) (by kernel_rfl) (by kernel_rfl) rfl rfl rfl rfl (st_load 0 rfl one3 rfl rfl) (.cons_cons _ (.cons_cons _ (.cons_cons _ (.cons_cons _ (.cons_cons _ (.cons_cons _ (.cons_cons _ (sub_app hs614 (sub_app hs579 (sub_app hs7 (sub_app hs12 (sub_app hs22 (.refl _))))))))))))) ?_
                obtain ⟨j822, hj823, hx824⟩ := idx_some h821
                obtain ⟨cs825, hr826, hcs827, hA828, hlt829⟩ := FZ.get (sz := 1) rfl (by decide) h36 hx824
                obtain rfl := hr826
                refine D_yes (Base.Le.refl _) 19 55 rfl (by kernel_rfl) (by kernel_rfl) (by kernel_rfl) rfl rfl rfl rfl (st_index_old j822 rfl rfl hj823 hlt829 hA828 sl22) (.cons_cons _ (.cons_cons _ (.cons_cons _ (.cons_cons _ (.cons_cons _ (.cons_cons _ (.cons_cons _ (sub_app hs614 (sub_app hs579 (sub_app hs7 (sub_app hs12 (sub_app hs22 (.refl _))))))))))))) ?_
                refine D_yes (Base.Le.refl _) 20 55 rfl (by kernel_rfl) (by kernel_rfl) (by kernel_rfl) rfl rfl rfl rfl (st_load_old rfl one3 (hcs827 0 _ rfl)) (.cons_cons _ (.cons_cons _ (.cons_cons _ (.cons_cons _ (.cons_cons _ (.cons_cons _ (.cons_cons _ (sub_app hs614 (sub_app hs579 (sub_app hs7 (sub_app hs12 (sub_app hs22 (.refl _))))))))))))) ?_
                refine D_yes (Base.Le.refl _) 21 55 rfl (by kernel_rfl) (by kernel_rfl) (by kernel_rfl) rfl rfl rfl rfl (st_leq_t rfl rfl hc830) (.cons_cons _ (.cons_cons _ (.cons_cons _ (.cons_cons _ (.cons_cons _ (.cons_cons _ (.cons_cons _ (sub_app hs614 (sub_app hs579 (sub_app hs7 (sub_app hs12 (sub_app hs22 (.refl _))))))))))))) ?_
                refine D_yes (Base.Le.refl _) 22 45 rfl (by kernel_rfl) (by kernel_rfl) (by kernel_rfl) rfl rfl rfl rfl (st_pick_f rfl rfl) (.cons_cons _ (.cons_cons _ (.cons_cons _ (.cons_cons _ (.cons_cons _ (.cons_cons _ (.cons_cons _ (sub_app hs614 (sub_app hs579 (sub_app hs7 (sub_app hs12 (sub_app hs22 (.refl _))))))))))))) ?_
                refine D_st (Base.Le.refl _) 23 rfl (by kernel_rfl) (by kernel_rfl) (by kernel_rfl) rfl (st_pick_t rfl rfl) (.cons_cons _ (.cons_cons _ (.cons_cons _ (.cons_cons _ (.cons_cons _ (.cons_cons _ (.cons_cons _ (sub_app hs614 (sub_app hs579 (sub_app hs7 (sub_app hs12 (sub_app hs22 (.refl _))))))))))))) ?_
                refine D_st (Base.Le.refl _) 24 rfl (by kernel_rfl) (by kernel_rfl) (by kernel_rfl) rfl (st_move rfl) (.cons_cons _ (.cons_cons _ (.cons_cons _ (.cons_cons _ (.cons_cons _ (.cons_cons _ (.cons_cons _ (sub_app hs614 (sub_app hs579 (sub_app hs7 (sub_app hs12 (sub_app hs22 (.refl _))))))))))))) ?_
                refine D_yes (Base.Le.refl _) 25 68 rfl (by kernel_rfl) (by kernel_rfl) (by kernel_rfl) rfl rfl rfl rfl (st_move rfl) (.cons_cons _ (.cons_cons _ (.cons_cons _ (.cons_cons _ (.cons_cons _ (.cons_cons _ (.cons_cons _ (sub_app hs614 (sub_app hs579 (sub_app hs7 (sub_app hs12 (sub_app hs22 (.refl _))))))))))))) ?_
                refine D_yes (Base.Le.refl _) 26 68 rfl (by kernel_rfl) (by kernel_rfl) (by kernel_rfl) rfl rfl rfl rfl (st_leq_f rfl rfl hc831) (.cons_cons _ (.cons_cons _ (.cons_cons _ (.cons_cons _ (.cons_cons _ (.cons_cons _ (.cons_cons _ (sub_app hs614 (sub_app hs579 (sub_app hs7 (sub_app hs12 (sub_app hs22 (.refl _))))))))))))) ?_
                refine D_st (Base.Le.refl _) 27 rfl (by kernel_rfl) (by kernel_rfl) (by kernel_rfl) rfl (st_pick_t rfl rfl) (.cons_cons _ (.cons_cons _ (.cons_cons _ (.cons_cons _ (.cons_cons _ (.cons_cons _ (.cons_cons _ (sub_app hs614 (sub_app hs579 (sub_app hs7 (sub_app hs12 (sub_app hs22 (.refl _))))))))))))) ?_
                refine D_st (Base.Le.refl _) 28 rfl (by kernel_rfl) (by kernel_rfl) (by kernel_rfl) rfl (st_move rfl) (.cons_cons _ (.cons_cons _ (.cons_cons _ (.cons_cons _ (.cons_cons _ (.cons_cons _ (.cons_cons _ (sub_app hs614 (sub_app hs579 (sub_app hs7 (sub_app hs12 (sub_app hs22 (.refl _))))))))))))) ?_
                refine D_no (Base.Le.refl _) 29 72 rfl (by kernel_rfl) (by kernel_rfl) (by kernel_rfl) rfl rfl rfl rfl rfl (.cons_cons _ (.cons_cons _ (.cons_cons _ (.cons_cons _ (.cons_cons _ (.cons_cons _ (.cons_cons _ (sub_app hs614 (sub_app hs579 (sub_app hs7 (sub_app hs12 (sub_app hs22 (.refl _))))))))))))) ?_
                refine D_no (Base.Le.refl _) 30 72 rfl (by kernel_rfl) (by kernel_rfl) (by kernel_rfl) rfl rfl rfl rfl rfl (.cons_cons _ (.cons_cons _ (.cons_cons _ (.cons_cons _ (.cons_cons _ (.cons_cons _ (.cons_cons _ (sub_app hs614 (sub_app hs579 (sub_app hs7 (sub_app hs12 (sub_app hs22 (.refl _))))))))))))) ?_
                refine D_no (Base.Le.refl _) 31 72 rfl (by kernel_rfl) (by kernel_rfl) (by kernel_rfl) rfl rfl rfl rfl rfl (.cons_cons _ (.cons_cons _ (.cons_cons _ (.cons_cons _ (.cons_cons _ (.cons_cons _ (.cons_cons _ (sub_app hs614 (sub_app hs579 (sub_app hs7 (sub_app hs12 (sub_app hs22 (.refl _))))))))))))) ?_
                refine D_no (Base.Le.refl _) 32 72 rfl (by kernel_rfl) (by kernel_rfl) (by kernel_rfl) rfl rfl rfl rfl rfl (.cons_cons _ (.cons_cons _ (.cons_cons _ (.cons_cons _ (.cons_cons _ (.cons_cons _ (.cons_cons _ (sub_app hs614 (sub_app hs579 (sub_app hs7 (sub_app hs12 (sub_app hs22 (.refl _))))))))))))) ?_
                refine D_no (Base.Le.refl _) 33 72 rfl (by kernel_rfl) (by kernel_rfl) (by kernel_rfl) rfl rfl rfl rfl rfl (.cons_cons _ (.cons_cons _ (.cons_cons _ (.cons_cons _ (.cons_cons _ (.cons_cons _ (.cons_cons _ (sub_app hs614 (sub_app hs579 (sub_app hs7 (sub_app hs12 (sub_app hs22 (.refl _))))))))))))) ?_
                refine D_no (Base.Le.refl _) 34 72 rfl (by kernel_rfl) (by kernel_rfl) (by kernel_rfl) rfl rfl rfl rfl rfl (.cons_cons _ (.cons_cons _ (.cons_cons _ (.cons_cons _ (.cons_cons _ (.cons_cons _ (.cons_cons _ (sub_app hs614 (sub_app hs579 (sub_app hs7 (sub_app hs12 (sub_app hs22 (.refl _))))))))))))) ?_
                refine D_st (Base.Le.refl _) 35 rfl (by kernel_rfl) (by kernel_rfl) (by kernel_rfl) rfl (st_pick_f rfl rfl) (.cons_cons _ (.cons_cons _ (.cons_cons _ (.cons_cons _ (.cons_cons _ (.cons_cons _ (.cons_cons _ (sub_app hs614 (sub_app hs579 (sub_app hs7 (sub_app hs12 (sub_app hs22 (.refl _))))))))))))) ?_
                refine D_all [36] (by kernel_rfl) rfl ?_
                refine R_do (Base.Le.refl _) rfl rfl (u_store 3 rfl rfl siz4 rfl rfl (by simp)) ?_ ?_
                ·
                  rintro _ _ rfl
                  refine ⟨.inl (by kernel_rfl), ?_⟩
                  refine D_done (by kernel_rfl) ?_
                  obtain rfl := some1 hm
                  refine x_pullb 6 rfl ?_
                  refine x_pullb 4 rfl ?_
                  refine x_pullb 4 rfl ?_
                  refine x_pullb 4 rfl ?_
                  refine x_pullb 4 rfl ?_
                  refine x_pullb 6 rfl ?_
                  refine x_pullb 6 rfl ?_
                  refine x_front5 [_, _, _, _, _, _, _] hs614 hs579 hs7 hs12 hs22 R rfl ?_
                  refine x_front3 [_, _, _, _, _, _, _] hs22 hs614 hs579 (hs7 ++ (hs12 ++ R)) rfl ?_
                  refine x_front5 [_, _, _, _, _, _, _] hs579 hs22 hs614 hs7 hs12 R rfl ?_
                  refine x_front5 [_, _, _, _, _, _, _] hs12 hs579 hs22 hs614 hs7 R rfl ?_
                  refine x_front5 [_, _, _, _, _, _, _] hs7 hs12 hs579 hs22 hs614 R rfl ?_
                  exact x_join (e' := [(4, .pointer (some ⟨g29, 0, none⟩)), (5, .pointer (some ⟨g30, 0, none⟩)), (6, .pointer (some ⟨g477, 0, none⟩))]) (hp' := (g29, Cl 88 [.slice A8 (l39).length c9]) :: (g30, Cl 22 [.slice A13 (l40).length c14]) :: (g477, Cl 34 [.int .i64 (s32.From), .int .i64 (s32.To), .int .i64 (s32.Len)]) :: (g26, Cl 69 [.pointer (some ⟨g31, 0, none⟩)]) :: (g27, Cl 22 [.slice A3 (put l38 s32.To (x581 + 1)).length c4]) :: (g28, Cl 4 [.bool (false)]) :: (g31, Cl 73 [.slice A18 (put l41 s32.To (x495 + s32.Len)).length c19, .slice A34 (l37).length c35, .slice A23 (l42).length c24]) :: (hs614 ++ (hs7 ++ (hs12 ++ (hs579 ++ (hs22 ++ R)))))) ⟨rfl, rfl, rfl, trivial⟩ (.cons_cons _ (.cons_cons _ (.cons_cons _ (.cons_cons _ (.cons_cons _ (.cons_cons _ (.cons_cons _ (sub_app hs614 (sub_app hs7 (sub_app hs12 (sub_app hs579 (sub_app hs22 (.refl _))))))))))))) ⟨rfl, rfl, (Base.Le.refl _)⟩
                exact R_nil
            ·
              rw [if_neg hc830] at hm
              refine D_drawS ((g477, Cl 34 [.int .i64 (s32.From), .int .i64 (s32.To), .int .i64 (s32.Len)]) :: (g26, Cl 69 [.pointer (some ⟨g31, 0, none⟩)]) :: (g27, Cl 22 [.slice A3 (put l38 s32.To (x581 + 1)).length c4]) :: (g28, Cl 4 [.bool (x33)]) :: (g29, Cl 88 [.slice A8 (l39).length c9]) :: (g30, Cl 22 [.slice A13 (l40).length c14]) :: (g31, Cl 73 [.slice A18 (put l41 s32.To (x495 + s32.Len)).length c19, .slice A34 (l37).length c35, .slice A23 (l42).length c24]) :: (hs614 ++ (hs579 ++ (hs7 ++ (hs12 ++ (hs22 ++ R)))))) mixed ?_
              refine D_st (Base.Le.refl _) 0 rfl (by kernel_rfl) (by kernel_rfl) (by kernel_rfl) rfl (stB (st_load 3 rfl one4 rfl rfl) hc791) (.cons_cons _ (.cons_cons _ (.cons_cons _ (.cons_cons _ (.cons_cons _ (.cons_cons _ (.cons_cons _ (sub_app hs614 (sub_app hs579 (sub_app hs7 (sub_app hs12 (sub_app hs22 (.refl _))))))))))))) ?_
              refine D_st (Base.Le.refl _) 1 rfl (by kernel_rfl) (by kernel_rfl) (by kernel_rfl) rfl (st_move rfl) (.cons_cons _ (.cons_cons _ (.cons_cons _ (.cons_cons _ (.cons_cons _ (.cons_cons _ (.cons_cons _ (sub_app hs614 (sub_app hs579 (sub_app hs7 (sub_app hs12 (sub_app hs22 (.refl _))))))))))))) ?_
              refine D_yes (Base.Le.refl _) 2 45 rfl (by kernel_rfl) (by kernel_rfl) (by kernel_rfl) rfl rfl rfl rfl (st_load 1 rfl one69 rfl rfl) (.cons_cons _ (.cons_cons _ (.cons_cons _ (.cons_cons _ (.cons_cons _ (.cons_cons _ (.cons_cons _ (sub_app hs614 (sub_app hs579 (sub_app hs7 (sub_app hs12 (sub_app hs22 (.refl _))))))))))))) ?_
              refine D_yes (Base.Le.refl _) 3 45 rfl (by kernel_rfl) (by kernel_rfl) (by kernel_rfl) rfl rfl rfl rfl (st_nil rfl) (.cons_cons _ (.cons_cons _ (.cons_cons _ (.cons_cons _ (.cons_cons _ (.cons_cons _ (.cons_cons _ (sub_app hs614 (sub_app hs579 (sub_app hs7 (sub_app hs12 (sub_app hs22 (.refl _))))))))))))) ?_
              refine D_yes (Base.Le.refl _) 4 45 rfl (by kernel_rfl) (by kernel_rfl) (by kernel_rfl) rfl rfl rfl rfl (st_field rfl fld73_1) (.cons_cons _ (.cons_cons _ (.cons_cons _ (.cons_cons _ (.cons_cons _ (.cons_cons _ (.cons_cons _ (sub_app hs614 (sub_app hs579 (sub_app hs7 (sub_app hs12 (sub_app hs22 (.refl _))))))))))))) ?_
              refine D_yes (Base.Le.refl _) 5 45 rfl (by kernel_rfl) (by kernel_rfl) (by kernel_rfl) rfl rfl rfl rfl (st_load 6 rfl one22 rfl rfl) (.cons_cons _ (.cons_cons _ (.cons_cons _ (.cons_cons _ (.cons_cons _ (.cons_cons _ (.cons_cons _ (sub_app hs614 (sub_app hs579 (sub_app hs7 (sub_app hs12 (sub_app hs22 (.refl _))))))))))))) ?_
              refine D_yes (Base.Le.refl _) 6 45 rfl (by kernel_rfl) (by kernel_rfl) (by kernel_rfl) rfl rfl rfl rfl (st_field rfl fld34_1) (.cons_cons _ (.cons_cons _ (.cons_cons _ (.cons_cons _ (.cons_cons _ (.cons_cons _ (.cons_cons _ (sub_app hs614 (sub_app hs579 (sub_app hs7 (sub_app hs12 (sub_app hs22 (.refl _))))))))))))) ?_
              refine D_yes (Base.Le.refl _) 7 45 rfl (by kernel_rfl) (by kernel_rfl) (by kernel_rfl) rfl rfl rfl rfl (st_load 0 rfl one3 rfl rfl) (.cons_cons _ (.cons_cons _ (.cons_cons _ (.cons_cons _ (.cons_cons _ (.cons_cons _ (.cons_cons _ (sub_app hs614 (sub_app hs579 (sub_app hs7 (sub_app hs12 (sub_app hs22 (.refl _))))))))))))) ?_
              obtain ⟨j794, hj795, hx796⟩ := idx_some h793
              obtain ⟨cs797, hr798, hcs799, hA800, hlt801⟩ := FZ.get (sz := 1) rfl (by decide) h36 hx796
              obtain rfl := hr798
              refine D_yes (Base.Le.refl _) 8 45 rfl (by kernel_rfl) (by kernel_rfl) (by kernel_rfl) rfl rfl rfl rfl (st_index_old j794 rfl rfl hj795 hlt801 hA800 sl22) (.cons_cons _ (.cons_cons _ (.cons_cons _ (.cons_cons _ (.cons_cons _ (.cons_cons _ (.cons_cons _ (sub_app hs614 (sub_app hs579 (sub_app hs7 (sub_app hs12 (sub_app hs22 (.refl _))))))))))))) ?_
              refine D_yes (Base.Le.refl _) 9 45 rfl (by kernel_rfl) (by kernel_rfl) (by kernel_rfl) rfl rfl rfl rfl (st_load_old rfl one3 (hcs799 0 _ rfl)) (.cons_cons _ (.cons_cons _ (.cons_cons _ (.cons_cons _ (.cons_cons _ (.cons_cons _ (.cons_cons _ (sub_app hs614 (sub_app hs579 (sub_app hs7 (sub_app hs12 (sub_app hs22 (.refl _))))))))))))) ?_
              refine D_yes (Base.Le.refl _) 10 45 rfl (by kernel_rfl) (by kernel_rfl) (by kernel_rfl) rfl rfl rfl rfl (st_lss_f rfl rfl hc802) (.cons_cons _ (.cons_cons _ (.cons_cons _ (.cons_cons _ (.cons_cons _ (.cons_cons _ (.cons_cons _ (sub_app hs614 (sub_app hs579 (sub_app hs7 (sub_app hs12 (sub_app hs22 (.refl _))))))))))))) ?_
              refine D_yes (Base.Le.refl _) 11 45 rfl (by kernel_rfl) (by kernel_rfl) (by kernel_rfl) rfl rfl rfl rfl (st_move rfl) (.cons_cons _ (.cons_cons _ (.cons_cons _ (.cons_cons _ (.cons_cons _ (.cons_cons _ (.cons_cons _ (sub_app hs614 (sub_app hs579 (sub_app hs7 (sub_app hs12 (sub_app hs22 (.refl _))))))))))))) ?_
              refine D_yes (Base.Le.refl _) 12 55 rfl (by kernel_rfl) (by kernel_rfl) (by kernel_rfl) rfl rfl rfl rfl (st_move rfl) (.cons_cons _ (.cons_cons _ (.cons_cons _ (.cons_cons _ (.cons_cons _ (.cons_cons _ (.cons_cons _ (sub_app hs614 (sub_app hs579 (sub_app hs7 (sub_app hs12 (sub_app hs22 (.refl _))))))))))))) ?_
              refine D_yes (Base.Le.refl _) 13 55 rfl (by kernel_rfl) (by kernel_rfl) (by kernel_rfl) rfl rfl rfl rfl (st_load 1 rfl one69 rfl rfl) (.cons_cons _ (.cons_cons _ (.cons_cons _ (.cons_cons _ (.cons_cons _ (.cons_cons _ (.cons_cons _ (sub_app hs614 (sub_app hs579 (sub_app hs7 (sub_app hs12 (sub_app hs22 (.refl _))))))))))))) ?_
              refine D_yes (Base.Le.refl _) 14 55 rfl (by kernel_rfl) (by kernel_rfl) (by kernel_rfl) rfl rfl rfl rfl (st_nil rfl) (.cons_cons _ (.cons_cons _ (.cons_cons _ (.cons_cons _ (.cons_cons _ (.cons_cons _ (.cons_cons _ (sub_app hs614 (sub_app hs579 (sub_app hs7 (sub_app hs12 (sub_app hs22 (.refl _))))))))))))) ?_
              refine D_yes (Base.Le.refl _) 15 55 rfl (by kernel_rfl) (by kernel_rfl) (by kernel_rfl) rfl rfl rfl rfl (st_field rfl fld73_1) (.cons_cons _ (.cons_cons _ (.cons_cons _ (.cons_cons _ (.cons_cons _ (.cons_cons _ (.cons_cons _ (sub_app hs614 (sub_app hs579 (sub_app hs7 (sub_app hs12 (sub_app hs22 (.refl _))))))))))))) ?_
              refine D_yes (Base.Le.refl _) 16 55 rfl (by kernel_rfl) (by kernel_rfl) (by kernel_rfl) rfl rfl rfl rfl (st_load 6 rfl one22 rfl rfl) (.cons_cons _ (.cons_cons _ (.cons_cons _ (.cons_cons _ (.cons_cons _ (.cons_cons _ (.cons_cons _ (sub_app hs614 (sub_app hs579 (sub_app hs7 (sub_app hs12 (sub_app hs22 (.refl _))))))))))))) ?_
              refine D_yes (Base.Le.refl _) 17 55 rfl (by kernel_rfl) (by kernel_rfl) (by kernel_rfl) rfl rfl rfl rfl (st_field rfl fld34_1) (.cons_cons _ (.cons_cons _ (.cons_cons _ (.cons_cons _ (.cons_cons _ (.cons_cons _ (.cons_cons _ (sub_app hs614 (sub_app hs579 (sub_app hs7 (sub_app hs12 (sub_app hs22 (.refl _))))))))))))) ?_
              refine D_yes (Base.Le.refl _) 18 55 rfl (by kernel_rfl) (by kernel_rfl) (by kernel_rfl) rfl rfl rfl rfl (st_load 0 rfl one3 rfl rfl) (.cons_cons _ (.cons_cons _ (.cons_cons _ (.cons_cons _ (.cons_cons _ (.cons_cons _ (.cons_cons _ (sub_app hs614 (sub_app hs579 (sub_app hs7 (sub_app hs12 (sub_app hs22 (.refl _))))))))))))) ?_
              obtain ⟨j822, hj823, hx824⟩ := idx_some h821
              obtain ⟨cs825, hr826, hcs827, hA828, hlt829⟩ := FZ.get (sz := 1) rfl (by decide) h36 hx824
              obtain rfl := hr826
              refine D_yes (Base.Le.refl _) 19 55 rfl (by kernel_rfl) (by kernel_rfl) (by kernel_rfl) rfl rfl rfl rfl (st_index_old j822 rfl rfl hj823 hlt829 hA828 sl22) (.cons_cons _ (.cons_cons _ (.cons_cons _ (.cons_cons _ (.cons_cons _ (.cons_cons _ (.cons_cons _ (sub_app hs614 (sub_app hs579 (sub_app hs7 (sub_app hs12 (sub_app hs22 (.refl _))))))))))))) ?_
              refine D_yes (Base.Le.refl _) 20 55 rfl (by kernel_rfl) (by kernel_rfl) (by kernel_rfl) rfl rfl rfl rfl (st_load_old rfl one3 (hcs827 0 _ rfl)) (.cons_cons _ (.cons_cons _ (.cons_cons _ (.cons_cons _ (.cons_cons _ (.cons_cons _ (.cons_cons _ (sub_app hs614 (sub_app hs579 (sub_app hs7 (sub_app hs12 (sub_app hs22 (.refl _))))))))))))) ?_
              refine D_yes (Base.Le.refl _) 21 55 rfl (by kernel_rfl) (by kernel_rfl) (by kernel_rfl) rfl rfl rfl rfl (st_leq_f rfl rfl hc830) (.cons_cons _ (.cons_cons _ (.cons_cons _ (.cons_cons _ (.cons_cons _ (.cons_cons _ (.cons_cons _ (sub_app hs614 (sub_app hs579 (sub_app hs7 (sub_app hs12 (sub_app hs22 (.refl _))))))))))))) ?_
              refine D_yes (Base.Le.refl _) 22 45 rfl (by kernel_rfl) (by kernel_rfl) (by kernel_rfl) rfl rfl rfl rfl (st_pick_f rfl rfl) (.cons_cons _ (.cons_cons _ (.cons_cons _ (.cons_cons _ (.cons_cons _ (.cons_cons _ (.cons_cons _ (sub_app hs614 (sub_app hs579 (sub_app hs7 (sub_app hs12 (sub_app hs22 (.refl _))))))))))))) ?_
              refine D_st (Base.Le.refl _) 23 rfl (by kernel_rfl) (by kernel_rfl) (by kernel_rfl) rfl (st_pick_t rfl rfl) (.cons_cons _ (.cons_cons _ (.cons_cons _ (.cons_cons _ (.cons_cons _ (.cons_cons _ (.cons_cons _ (sub_app hs614 (sub_app hs579 (sub_app hs7 (sub_app hs12 (sub_app hs22 (.refl _))))))))))))) ?_
              refine D_st (Base.Le.refl _) 24 rfl (by kernel_rfl) (by kernel_rfl) (by kernel_rfl) rfl (st_move rfl) (.cons_cons _ (.cons_cons _ (.cons_cons _ (.cons_cons _ (.cons_cons _ (.cons_cons _ (.cons_cons _ (sub_app hs614 (sub_app hs579 (sub_app hs7 (sub_app hs12 (sub_app hs22 (.refl _))))))))))))) ?_
              refine D_no (Base.Le.refl _) 25 68 rfl (by kernel_rfl) (by kernel_rfl) (by kernel_rfl) rfl rfl rfl rfl rfl (.cons_cons _ (.cons_cons _ (.cons_cons _ (.cons_cons _ (.cons_cons _ (.cons_cons _ (.cons_cons _ (sub_app hs614 (sub_app hs579 (sub_app hs7 (sub_app hs12 (sub_app hs22 (.refl _))))))))))))) ?_
              refine D_no (Base.Le.refl _) 26 68 rfl (by kernel_rfl) (by kernel_rfl) (by kernel_rfl) rfl rfl rfl rfl rfl (.cons_cons _ (.cons_cons _ (.cons_cons _ (.cons_cons _ (.cons_cons _ (.cons_cons _ (.cons_cons _ (sub_app hs614 (sub_app hs579 (sub_app hs7 (sub_app hs12 (sub_app hs22 (.refl _))))))))))))) ?_
              refine D_st (Base.Le.refl _) 27 rfl (by kernel_rfl) (by kernel_rfl) (by kernel_rfl) rfl (st_pick_f rfl rfl) (.cons_cons _ (.cons_cons _ (.cons_cons _ (.cons_cons _ (.cons_cons _ (.cons_cons _ (.cons_cons _ (sub_app hs614 (sub_app hs579 (sub_app hs7 (sub_app hs12 (sub_app hs22 (.refl _))))))))))))) ?_
              refine D_st (Base.Le.refl _) 28 rfl (by kernel_rfl) (by kernel_rfl) (by kernel_rfl) rfl (st_move rfl) (.cons_cons _ (.cons_cons _ (.cons_cons _ (.cons_cons _ (.cons_cons _ (.cons_cons _ (.cons_cons _ (sub_app hs614 (sub_app hs579 (sub_app hs7 (sub_app hs12 (sub_app hs22 (.refl _))))))))))))) ?_
              refine D_no (Base.Le.refl _) 29 72 rfl (by kernel_rfl) (by kernel_rfl) (by kernel_rfl) rfl rfl rfl rfl rfl (.cons_cons _ (.cons_cons _ (.cons_cons _ (.cons_cons _ (.cons_cons _ (.cons_cons _ (.cons_cons _ (sub_app hs614 (sub_app hs579 (sub_app hs7 (sub_app hs12 (sub_app hs22 (.refl _))))))))))))) ?_
              refine D_no (Base.Le.refl _) 30 72 rfl (by kernel_rfl) (by kernel_rfl) (by kernel_rfl) rfl rfl rfl rfl rfl (.cons_cons _ (.cons_cons _ (.cons_cons _ (.cons_cons _ (.cons_cons _ (.cons_cons _ (.cons_cons _ (sub_app hs614 (sub_app hs579 (sub_app hs7 (sub_app hs12 (sub_app hs22 (.refl _))))))))))))) ?_
              refine D_no (Base.Le.refl _) 31 72 rfl (by kernel_rfl) (by kernel_rfl) (by kernel_rfl) rfl rfl rfl rfl rfl (.cons_cons _ (.cons_cons _ (.cons_cons _ (.cons_cons _ (.cons_cons _ (.cons_cons _ (.cons_cons _ (sub_app hs614 (sub_app hs579 (sub_app hs7 (sub_app hs12 (sub_app hs22 (.refl _))))))))))))) ?_
              refine D_no (Base.Le.refl _) 32 72 rfl (by kernel_rfl) (by kernel_rfl) (by kernel_rfl) rfl rfl rfl rfl rfl (.cons_cons _ (.cons_cons _ (.cons_cons _ (.cons_cons _ (.cons_cons _ (.cons_cons _ (.cons_cons _ (sub_app hs614 (sub_app hs579 (sub_app hs7 (sub_app hs12 (sub_app hs22 (.refl _))))))))))))) ?_
              refine D_no (Base.Le.refl _) 33 72 rfl (by kernel_rfl) (by kernel_rfl) (by kernel_rfl) rfl rfl rfl rfl rfl (.cons_cons _ (.cons_cons _ (.cons_cons _ (.cons_cons _ (.cons_cons _ (.cons_cons _ (.cons_cons _ (sub_app hs614 (sub_app hs579 (sub_app hs7 (sub_app hs12 (sub_app hs22 (.refl _))))))))))))) ?_
              refine D_no (Base.Le.refl _) 34 72 rfl (by kernel_rfl) (by kernel_rfl) (by kernel_rfl) rfl rfl rfl rfl rfl (.cons_cons _ (.cons_cons _ (.cons_cons _ (.cons_cons _ (.cons_cons _ (.cons_cons _ (.cons_cons _ (sub_app hs614 (sub_app hs579 (sub_app hs7 (sub_app hs12 (sub_app hs22 (.refl _))))))))))))) ?_
              refine D_st (Base.Le.refl _) 35 rfl (by kernel_rfl) (by kernel_rfl) (by kernel_rfl) rfl (st_pick_f rfl rfl) (.cons_cons _ (.cons_cons _ (.cons_cons _ (.cons_cons _ (.cons_cons _ (.cons_cons _ (.cons_cons _ (sub_app hs614 (sub_app hs579 (sub_app hs7 (sub_app hs12 (sub_app hs22 (.refl _))))))))))))) ?_
              refine D_all [36] (by kernel_rfl) rfl ?_
              refine R_do (Base.Le.refl _) rfl rfl (u_store 3 rfl rfl siz4 rfl rfl (by simp)) ?_ ?_
              ·
                rintro _ _ rfl
                refine ⟨.inl (by kernel_rfl), ?_⟩
                refine D_done (by kernel_rfl) ?_
                obtain rfl := some1 hm
                refine x_pullb 6 rfl ?_
                refine x_pullb 4 rfl ?_
                refine x_pullb 4 rfl ?_
                refine x_pullb 4 rfl ?_
                refine x_pullb 4 rfl ?_
                refine x_pullb 6 rfl ?_
                refine x_pullb 6 rfl ?_
                refine x_front5 [_, _, _, _, _, _, _] hs614 hs579 hs7 hs12 hs22 R rfl ?_
                refine x_front3 [_, _, _, _, _, _, _] hs22 hs614 hs579 (hs7 ++ (hs12 ++ R)) rfl ?_
                refine x_front5 [_, _, _, _, _, _, _] hs579 hs22 hs614 hs7 hs12 R rfl ?_
                refine x_front5 [_, _, _, _, _, _, _] hs12 hs579 hs22 hs614 hs7 R rfl ?_
                refine x_front5 [_, _, _, _, _, _, _] hs7 hs12 hs579 hs22 hs614 R rfl ?_
                exact x_join (e' := [(4, .pointer (some ⟨g29, 0, none⟩)), (5, .pointer (some ⟨g30, 0, none⟩)), (6, .pointer (some ⟨g477, 0, none⟩))]) (hp' := (g29, Cl 88 [.slice A8 (l39).length c9]) :: (g30, Cl 22 [.slice A13 (l40).length c14]) :: (g477, Cl 34 [.int .i64 (s32.From), .int .i64 (s32.To), .int .i64 (s32.Len)]) :: (g26, Cl 69 [.pointer (some ⟨g31, 0, none⟩)]) :: (g27, Cl 22 [.slice A3 (put l38 s32.To (x581 + 1)).length c4]) :: (g28, Cl 4 [.bool (false)]) :: (g31, Cl 73 [.slice A18 (put l41 s32.To (x495 + s32.Len)).length c19, .slice A34 (l37).length c35, .slice A23 (l42).length c24]) :: (hs614 ++ (hs7 ++ (hs12 ++ (hs579 ++ (hs22 ++ R)))))) ⟨rfl, rfl, rfl, trivial⟩ (.cons_cons _ (.cons_cons _ (.cons_cons _ (.cons_cons _ (.cons_cons _ (.cons_cons _ (.cons_cons _ (sub_app hs614 (sub_app hs7 (sub_app hs12 (sub_app hs579 (sub_app hs22 (.refl _))))))))))))) ⟨rfl, rfl, (Base.Le.refl _)⟩
              exact R_nil
        ·
          rw [if_neg (fun hh => Bool.noConfusion (hh.symm.trans hc791))] at hm
          refine D_drawS ((g477, Cl 34 [.int .i64 (s32.From), .int .i64 (s32.To), .int .i64 (s32.Len)]) :: (g26, Cl 69 [.pointer (some ⟨g31, 0, none⟩)]) :: (g27, Cl 22 [.slice A3 (put l38 s32.To (x581 + 1)).length c4]) :: (g28, Cl 4 [.bool (x33)]) :: (g29, Cl 88 [.slice A8 (l39).length c9]) :: (g30, Cl 22 [.slice A13 (l40).length c14]) :: (g31, Cl 73 [.slice A18 (put l41 s32.To (x495 + s32.Len)).length c19, .slice A34 (l37).length c35, .slice A23 (l42).length c24]) :: (hs614 ++ (hs579 ++ (hs7 ++ (hs12 ++ (hs22 ++ R)))))) mixed ?_
          refine D_st (Base.Le.refl _) 0 rfl (by kernel_rfl) (by kernel_rfl) (by kernel_rfl) rfl (stB (st_load 3 rfl one4 rfl rfl) hc791) (.cons_cons _ (.cons_cons _ (.cons_cons _ (.cons_cons _ (.cons_cons _ (.cons_cons _ (.cons_cons _ (sub_app hs614 (sub_app hs579 (sub_app hs7 (sub_app hs12 (sub_app hs22 (.refl _))))))))))))) ?_
          refine D_st (Base.Le.refl _) 1 rfl (by kernel_rfl) (by kernel_rfl) (by kernel_rfl) rfl (st_move rfl) (.cons_cons _ (.cons_cons _ (.cons_cons _ (.cons_cons _ (.cons_cons _ (.cons_cons _ (.cons_cons _ (sub_app hs614 (sub_app hs579 (sub_app hs7 (sub_app hs12 (sub_app hs22 (.refl _))))))))))))) ?_
          refine D_no (Base.Le.refl _) 2 45 rfl (by kernel_rfl) (by kernel_rfl) (by kernel_rfl) rfl rfl rfl rfl rfl (.cons_cons _ (.cons_cons _ (.cons_cons _ (.cons_cons _ (.cons_cons _ (.cons_cons _ (.cons_cons _ (sub_app hs614 (sub_app hs579 (sub_app hs7 (sub_app hs12 (sub_app hs22 (.refl _))))))))))))) ?_
          refine D_no (Base.Le.refl _) 3 45 rfl (by kernel_rfl) (by kernel_rfl) (by kernel_rfl) rfl rfl rfl rfl rfl (.cons_cons _ (.cons_cons _ (.cons_cons _ (.cons_cons _ (.cons_cons _ (.cons_cons _ (.cons_cons _ (sub_app hs614 (sub_app hs579 (sub_app hs7 (sub_app hs12 (sub_app hs22 (.refl _))))))))))))) ?_
          refine D_no (Base.Le.refl _) 4 45 rfl (by kernel_rfl) (by kernel_rfl) (by kernel_rfl) rfl rfl rfl rfl rfl (.cons_cons _ (.cons_cons _ (.cons_cons _ (.cons_cons _ (.cons_cons _ (.cons_cons _ (.cons_cons _ (sub_app hs614 (sub_app hs579 (sub_app hs7 (sub_app hs12 (sub_app hs22 (.refl _))))))))))))) ?_
          refine D_no (Base.Le.refl _) 5 45 rfl (by kernel_rfl) (by kernel_rfl) (by kernel_rfl) rfl rfl rfl rfl rfl (.cons_cons _ (.cons_cons _ (.cons_cons _ (.cons_cons _ (.cons_cons _ (.cons_cons _ (.cons_cons _ (sub_app hs614 (sub_app hs579 (sub_app hs7 (sub_app hs12 (sub_app hs22 (.refl _))))))))))))) ?_
          refine D_no (Base.Le.refl _) 6 45 rfl (by kernel_rfl) (by kernel_rfl) (by kernel_rfl) rfl rfl rfl rfl rfl (.cons_cons _ (.cons_cons _ (.cons_cons _ (.cons_cons _ (.cons_cons _ (.cons_cons _ (.cons_cons _ (sub_app hs614 (sub_app hs579 (sub_app hs7 (sub_app hs12 (sub_app hs22 (.refl _))))))))))))) ?_
          refine D_no (Base.Le.refl _) 7 45 rfl (by kernel_rfl) (by kernel_rfl) (by kernel_rfl) rfl rfl rfl rfl rfl (.cons_cons _ (.cons_cons _ (.cons_cons _ (.cons_cons _ (.cons_cons _ (.cons_cons _ (.cons_cons _ (sub_app hs614 (sub_app hs579 (sub_app hs7 (sub_app hs12 (sub_app hs22 (.refl _))))))))))))) ?_
          refine D_no (Base.Le.refl _) 8 45 rfl (by kernel_rfl) (by kernel_rfl) (by kernel_rfl) rfl rfl rfl rfl rfl (.cons_cons _ (.cons_cons _ (.cons_cons _ (.cons_cons _ (.cons_cons _ (.cons_cons _ (.cons_cons _ (sub_app hs614 (sub_app hs579 (sub_app hs7 (sub_app hs12 (sub_app hs22 (.refl _))))))))))))) ?_
          refine D_no (Base.Le.refl _) 9 45 rfl (by kernel_rfl) (by kernel_rfl) (by kernel_rfl) rfl rfl rfl rfl rfl (.cons_cons _ (.cons_cons _ (.cons_cons _ (.cons_cons _ (.cons_cons _ (.cons_cons _ (.cons_cons _ (sub_app hs614 (sub_app hs579 (sub_app hs7 (sub_app hs12 (sub_app hs22 (.refl _))))))))))))) ?_
          refine D_no (Base.Le.refl _) 10 45 rfl (by kernel_rfl) (by kernel_rfl) (by kernel_rfl) rfl rfl rfl rfl rfl (.cons_cons _ (.cons_cons _ (.cons_cons _ (.cons_cons _ (.cons_cons _ (.cons_cons _ (.cons_cons _ (sub_app hs614 (sub_app hs579 (sub_app hs7 (sub_app hs12 (sub_app hs22 (.refl _))))))))))))) ?_
          refine D_no (Base.Le.refl _) 11 45 rfl (by kernel_rfl) (by kernel_rfl) (by kernel_rfl) rfl rfl rfl rfl rfl (.cons_cons _ (.cons_cons _ (.cons_cons _ (.cons_cons _ (.cons_cons _ (.cons_cons _ (.cons_cons _ (sub_app hs614 (sub_app hs579 (sub_app hs7 (sub_app hs12 (sub_app hs22 (.refl _))))))))))))) ?_
          refine D_no (Base.Le.refl _) 12 55 rfl (by kernel_rfl) (by kernel_rfl) (by kernel_rfl) rfl rfl rfl rfl rfl (.cons_cons _ (.cons_cons _ (.cons_cons _ (.cons_cons _ (.cons_cons _ (.cons_cons _ (.cons_cons _ (sub_app hs614 (sub_app hs579 (sub_app hs7 (sub_app hs12 (sub_app hs22 (.refl _))))))))))))) ?_
          refine D_no (Base.Le.refl _) 13 55 rfl (by kernel_rfl) (by kernel_rfl) (by kernel_rfl) rfl rfl rfl rfl rfl (.cons_cons _ (.cons_cons _ (.cons_cons _ (.cons_cons _ (.cons_cons _ (.cons_cons _ (.cons_cons _ (sub_app hs614 (sub_app hs579 (sub_app hs7 (sub_app hs12 (sub_app hs22 (.refl _))))))))))))) ?_
          refine D_no (Base.Le.refl _) 14 55 rfl (by kernel_rfl) (by kernel_rfl) (by kernel_rfl) rfl rfl rfl rfl rfl (.cons_cons _ (.cons_cons _ (.cons_cons _ (.cons_cons _ (.cons_cons _ (.cons_cons _ (.cons_cons _ (sub_app hs614 (sub_app hs579 (sub_app hs7 (sub_app hs12 (sub_app hs22 (.refl _))))))))))))) ?_
          refine D_no (Base.Le.refl _) 15 55 rfl (by kernel_rfl) (by kernel_rfl) (by kernel_rfl) rfl rfl rfl rfl rfl (.cons_cons _ (.cons_cons _ (.cons_cons _ (.cons_cons _ (.cons_cons _ (.cons_cons _ (.cons_cons _ (sub_app hs614 (sub_app hs579 (sub_app hs7 (sub_app hs12 (sub_app hs22 (.refl _))))))))))))) ?_
          refine D_no (Base.Le.refl _) 16 55 rfl (by kernel_rfl) (by kernel_rfl) (by kernel_rfl) rfl rfl rfl rfl rfl (.cons_cons _ (.cons_cons _ (.cons_cons _ (.cons_cons _ (.cons_cons _ (.cons_cons _ (.cons_cons _ (sub_app hs614 (sub_app hs579 (sub_app hs7 (sub_app hs12 (sub_app hs22 (.refl _))))))))))))) ?_
          refine D_no (Base.Le.refl _) 17 55 rfl (by kernel_rfl) (by kernel_rfl) (by kernel_rfl) rfl rfl rfl rfl rfl (.cons_cons _ (.cons_cons _ (.cons_cons _ (.cons_cons _ (.cons_cons _ (.cons_cons _ (.cons_cons _ (sub_app hs614 (sub_app hs579 (sub_app hs7 (sub_app hs12 (sub_app hs22 (.refl _))))))))))))) ?_
          refine D_no (Base.Le.refl _) 18 55 rfl (by kernel_rfl) (by kernel_rfl) (by kernel_rfl) rfl rfl rfl rfl rfl (.cons_cons _ (.cons_cons _ (.cons_cons _ (.cons_cons _ (.cons_cons _ (.cons_cons _ (.cons_cons _ (sub_app hs614 (sub_app hs579 (sub_app hs7 (sub_app hs12 (sub_app hs22 (.refl _))))))))))))) ?_
          refine D_no (Base.Le.refl _) 19 55 rfl (by kernel_rfl) (by kernel_rfl) (by kernel_rfl) rfl rfl rfl rfl rfl (.cons_cons _ (.cons_cons _ (.cons_cons _ (.cons_cons _ (.cons_cons _ (.cons_cons _ (.cons_cons _ (sub_app hs614 (sub_app hs579 (sub_app hs7 (sub_app hs12 (sub_app hs22 (.refl _))))))))))))) ?_
          refine D_no (Base.Le.refl _) 20 55 rfl (by kernel_rfl) (by kernel_rfl) (by kernel_rfl) rfl rfl rfl rfl rfl (.cons_cons _ (.cons_cons _ (.cons_cons _ (.cons_cons _ (.cons_cons _ (.cons_cons _ (.cons_cons _ (sub_app hs614 (sub_app hs579 (sub_app hs7 (sub_app hs12 (sub_app hs22 (.refl _))))))))))))) ?_
          refine D_no (Base.Le.refl _) 21 55 rfl (by kernel_rfl) (by kernel_rfl) (by kernel_rfl) rfl rfl rfl rfl rfl (.cons_cons _ (.cons_cons _ (.cons_cons _ (.cons_cons _ (.cons_cons _ (.cons_cons _ (.cons_cons _ (sub_app hs614 (sub_app hs579 (sub_app hs7 (sub_app hs12 (sub_app hs22 (.refl _))))))))))))) ?_
          refine D_no (Base.Le.refl _) 22 45 rfl (by kernel_rfl) (by kernel_rfl) (by kernel_rfl) rfl rfl rfl rfl rfl (.cons_cons _ (.cons_cons _ (.cons_cons _ (.cons_cons _ (.cons_cons _ (.cons_cons _ (.cons_cons _ (sub_app hs614 (sub_app hs579 (sub_app hs7 (sub_app hs12 (sub_app hs22 (.refl _))))))))))))) ?_
          refine D_st (Base.Le.refl _) 23 rfl (by kernel_rfl) (by kernel_rfl) (by kernel_rfl) rfl (st_pick_f rfl rfl) (.cons_cons _ (.cons_cons _ (.cons_cons _ (.cons_cons _ (.cons_cons _ (.cons_cons _ (.cons_cons _ (sub_app hs614 (sub_app hs579 (sub_app hs7 (sub_app hs12 (sub_app hs22 (.refl _))))))))))))) ?_
          refine D_st (Base.Le.refl _) 24 rfl (by kernel_rfl) (by kernel_rfl) (by kernel_rfl) rfl (st_move rfl) (.cons_cons _ (.cons_cons _ (.cons_cons _ (.cons_cons _ (.cons_cons _ (.cons_cons _ (.cons_cons _ (sub_app hs614 (sub_app hs579 (sub_app hs7 (sub_app hs12 (sub_app hs22 (.refl _))))))))))))) ?_
          refine D_no (Base.Le.refl _) 25 68 rfl (by kernel_rfl) (by kernel_rfl) (by kernel_rfl) rfl rfl rfl rfl rfl (.cons_cons _ (.cons_cons _ (.cons_cons _ (.cons_cons _ (.cons_cons _ (.cons_cons _ (.cons_cons _ (sub_app hs614 (sub_app hs579 (sub_app hs7 (sub_app hs12 (sub_app hs22 (.refl _))))))))))))) ?_
          refine D_no (Base.Le.refl _) 26 68 rfl (by kernel_rfl) (by kernel_rfl) (by kernel_rfl) rfl rfl rfl rfl rfl (.cons_cons _ (.cons_cons _ (.cons_cons _ (.cons_cons _ (.cons_cons _ (.cons_cons _ (.cons_cons _ (sub_app hs614 (sub_app hs579 (sub_app hs7 (sub_app hs12 (sub_app hs22 (.refl _))))))))))))) ?_
          refine D_st (Base.Le.refl _) 27 rfl (by kernel_rfl) (by kernel_rfl) (by kernel_rfl) rfl (st_pick_f rfl rfl) (.cons_cons _ (.cons_cons _ (.cons_cons _ (.cons_cons _ (.cons_cons _ (.cons_cons _ (.cons_cons _ (sub_app hs614 (sub_app hs579 (sub_app hs7 (sub_app hs12 (sub_app hs22 (.refl _))))))))))))) ?_
          refine D_st (Base.Le.refl _) 28 rfl (by kernel_rfl) (by kernel_rfl) (by kernel_rfl) rfl (st_move rfl) (.cons_cons _ (.cons_cons _ (.cons_cons _ (.cons_cons _ (.cons_cons _ (.cons_cons _ (.cons_cons _ (sub_app hs614 (sub_app hs579 (sub_app hs7 (sub_app hs12 (sub_app hs22 (.refl _))))))))))))) ?_
          refine D_no (Base.Le.refl _) 29 72 rfl (by kernel_rfl) (by kernel_rfl) (by kernel_rfl) rfl rfl rfl rfl rfl (.cons_cons _ (.cons_cons _ (.cons_cons _ (.cons_cons _ (.cons_cons _ (.cons_cons _ (.cons_cons _ (sub_app hs614 (sub_app hs579 (sub_app hs7 (sub_app hs12 (sub_app hs22 (.refl _))))))))))))) ?_
          refine D_no (Base.Le.refl _) 30 72 rfl (by kernel_rfl) (by kernel_rfl) (by kernel_rfl) rfl rfl rfl rfl rfl (.cons_cons _ (.cons_cons _ (.cons_cons _ (.cons_cons _ (.cons_cons _ (.cons_cons _ (.cons_cons _ (sub_app hs614 (sub_app hs579 (sub_app hs7 (sub_app hs12 (sub_app hs22 (.refl _))))))))))))) ?_
          refine D_no (Base.Le.refl _) 31 72 rfl (by kernel_rfl) (by kernel_rfl) (by kernel_rfl) rfl rfl rfl rfl rfl (.cons_cons _ (.cons_cons _ (.cons_cons _ (.cons_cons _ (.cons_cons _ (.cons_cons _ (.cons_cons _ (sub_app hs614 (sub_app hs579 (sub_app hs7 (sub_app hs12 (sub_app hs22 (.refl _))))))))))))) ?_
          refine D_no (Base.Le.refl _) 32 72 rfl (by kernel_rfl) (by kernel_rfl) (by kernel_rfl) rfl rfl rfl rfl rfl (.cons_cons _ (.cons_cons _ (.cons_cons _ (.cons_cons _ (.cons_cons _ (.cons_cons _ (.cons_cons _ (sub_app hs614 (sub_app hs579 (sub_app hs7 (sub_app hs12 (sub_app hs22 (.refl _))))))))))))) ?_
          refine D_no (Base.Le.refl _) 33 72 rfl (by kernel_rfl) (by kernel_rfl) (by kernel_rfl) rfl rfl rfl rfl rfl (.cons_cons _ (.cons_cons _ (.cons_cons _ (.cons_cons _ (.cons_cons _ (.cons_cons _ (.cons_cons _ (sub_app hs614 (sub_app hs579 (sub_app hs7 (sub_app hs12 (sub_app hs22 (.refl _))))))))))))) ?_
          refine D_no (Base.Le.refl _) 34 72 rfl (by kernel_rfl) (by kernel_rfl) (by kernel_rfl) rfl rfl rfl rfl rfl (.cons_cons _ (.cons_cons _ (.cons_cons _ (.cons_cons _ (.cons_cons _ (.cons_cons _ (.cons_cons _ (sub_app hs614 (sub_app hs579 (sub_app hs7 (sub_app hs12 (sub_app hs22 (.refl _))))))))))))) ?_
          refine D_st (Base.Le.refl _) 35 rfl (by kernel_rfl) (by kernel_rfl) (by kernel_rfl) rfl (st_pick_f rfl rfl) (.cons_cons _ (.cons_cons _ (.cons_cons _ (.cons_cons _ (.cons_cons _ (.cons_cons _ (.cons_cons _ (sub_app hs614 (sub_app hs579 (sub_app hs7 (sub_app hs12 (sub_app hs22 (.refl _))))))))))))) ?_
          refine D_all [36] (by kernel_rfl) rfl ?_
          refine R_do (Base.Le.refl _) rfl rfl (u_store 3 rfl rfl siz4 rfl rfl (by simp)) ?_ ?_
          ·
            rintro _ _ rfl
            refine ⟨.inl (by kernel_rfl), ?_⟩
            refine D_done (by kernel_rfl) ?_
            obtain rfl := some1 hm
            refine x_pullb 6 rfl ?_
            refine x_pullb 4 rfl ?_
            refine x_pullb 4 rfl ?_
            refine x_pullb 4 rfl ?_
            refine x_pullb 4 rfl ?_
            refine x_pullb 6 rfl ?_
            refine x_pullb 6 rfl ?_
            refine x_front5 [_, _, _, _, _, _, _] hs614 hs579 hs7 hs12 hs22 R rfl ?_
            refine x_front3 [_, _, _, _, _, _, _] hs22 hs614 hs579 (hs7 ++ (hs12 ++ R)) rfl ?_
            refine x_front5 [_, _, _, _, _, _, _] hs579 hs22 hs614 hs7 hs12 R rfl ?_
            refine x_front5 [_, _, _, _, _, _, _] hs12 hs579 hs22 hs614 hs7 R rfl ?_
            refine x_front5 [_, _, _, _, _, _, _] hs7 hs12 hs579 hs22 hs614 R rfl ?_
            exact x_join (e' := [(4, .pointer (some ⟨g29, 0, none⟩)), (5, .pointer (some ⟨g30, 0, none⟩)), (6, .pointer (some ⟨g477, 0, none⟩))]) (hp' := (g29, Cl 88 [.slice A8 (l39).length c9]) :: (g30, Cl 22 [.slice A13 (l40).length c14]) :: (g477, Cl 34 [.int .i64 (s32.From), .int .i64 (s32.To), .int .i64 (s32.Len)]) :: (g26, Cl 69 [.pointer (some ⟨g31, 0, none⟩)]) :: (g27, Cl 22 [.slice A3 (put l38 s32.To (x581 + 1)).length c4]) :: (g28, Cl 4 [.bool (false)]) :: (g31, Cl 73 [.slice A18 (put l41 s32.To (x495 + s32.Len)).length c19, .slice A34 (l37).length c35, .slice A23 (l42).length c24]) :: (hs614 ++ (hs7 ++ (hs12 ++ (hs579 ++ (hs22 ++ R)))))) ⟨rfl, rfl, rfl, trivial⟩ (.cons_cons _ (.cons_cons _ (.cons_cons _ (.cons_cons _ (.cons_cons _ (.cons_cons _ (.cons_cons _ (sub_app hs614 (sub_app hs7 (sub_app hs12 (sub_app hs579 (sub_app hs22 (.refl _))))))))))))) ⟨rfl, rfl, (Base.Le.refl _)⟩
          exact R_nil
      ·
        rintro b730 _ _ ⟨rfl, rfl, hle731⟩
        have hm := hk733
        refine c_seq ?_
        refine c_region ?_
        refine t_st rfl (st_load 0 rfl one88 rfl rfl) ?_
        refine t_st rfl (st_field rfl fld34_1) ?_
        refine t_st rfl (st_load 2 rfl one3 rfl rfl) ?_
        obtain ⟨x848, h849, hm⟩ := bindS hm
        obtain ⟨j850, hj851, hx852⟩ := idx_some h849
        obtain ⟨cs853, hs858, P859, P860, hq861, hr854, hcs855, hA856, hlt857, hb862, hho863⟩ := OS.get (sz := 1) rfl (by decide) (h10.le hle731) hx852
        obtain ⟨rfl, rfl⟩ := hr854
        refine t_st rfl (st_index_old j850 rfl rfl hj851 hlt857 hA856 sl88) ?_
        refine t_st rfl (st_load_rd rfl one4 (fun w ho => hcs855 w _ ho (.cons _ (.cons _ (.cons _ (.cons _ (.cons _ (.cons _ (.cons _ (sub_skip hs614 (List.sublist_append_left _ _))))))))) 0 _ rfl)) ?_
        refine t_st rfl (st_not rfl) ?_
        refine t_nil ?_
        refine x_then_normal ?_
        refine c_cond _ rfl (fun hc864 => ?_) (fun hc864 => ?_)
        ·
          rw [if_neg (fun hh => Bool.noConfusion (hh.symm.trans (notT hc864)))] at hm
          refine c_seq ?_
          refine c_region ?_
          refine t_st rfl (st_load 0 rfl one88 rfl rfl) ?_
          refine t_st rfl (st_field rfl fld34_1) ?_
          refine t_st rfl (st_load 2 rfl one3 rfl rfl) ?_
          obtain ⟨x865, h866, hm⟩ := bindS hm
          obtain ⟨j867, hj868, hx869⟩ := idx_some h866
          obtain ⟨cs870, hs875, P876, P877, hq878, hr871, hcs872, hA873, hlt874, hb879, hho880⟩ := OS.get (sz := 1) rfl (by decide) (h10.le hle731) hx869
          obtain ⟨rfl, rfl⟩ := hr871
          refine t_st rfl (st_index_old j867 rfl rfl hj868 hlt874 hA873 sl88) ?_
          refine t_front2 [_, _, _, _, _, _, _] hs614 hs7 (hs12 ++ (hs579 ++ (hs22 ++ R))) rfl ?_
          refine t_do rfl (u_putOS hj868 (sz := 1) (a' := true) rfl [_, _, _, _, _, _, _] (hs614 ++ (hs12 ++ (hs579 ++ (hs22 ++ R)))) 0 1 [.bool (true)] rfl (h10.le hle731) hx869 rfl rfl rfl siz4 rfl (by intro u hu; simp only [List.mem_cons, List.not_mem_nil, or_false] at hu; subst hu; rfl) (fun cs hsj hh => by obtain ⟨rfl, rfl⟩ := hh; exact ⟨by decide, rfl, rfl⟩)) ?_
          rintro _ _ ⟨hs881, rfl, h882⟩
          refine t_hresp 0 rfl (o' := Cl 88 [.slice A8 (put l39 s32.To true).length c9]) (by simp only [put_length]) ?_
          refine t_nil ?_
          refine x_then_normal ?_
          refine c_region ?_
          refine t_st rfl (st_load 1 rfl one22 rfl rfl) ?_
          refine t_st rfl (st_field rfl fld34_1) ?_
          refine t_st rfl (st_load 2 rfl one3 rfl rfl) ?_
          refine t_do rfl (u_bslice (el := 3) [(0, .int .i64 (s32.To))] [.int .i64 (s32.To)] rfl (fun _ => by kernel_rfl)) ?_
          rintro _ _ ⟨g883, rfl, rfl⟩
          obtain ⟨_, h884, hm⟩ := bindS hm
          have h884 := room_some h884
          refine t_front3 [_, _, _, _, _, _, _, _] hs881 hs614 hs12 (hs579 ++ (hs22 ++ R)) rfl ?_
          refine t_do rfl (u_appOS (r := (RT.int .i64)) (l := l40) [_, _, _, _, _, _, _, _] (hs881 ++ (hs614 ++ (hs579 ++ (hs22 ++ R)))) [[.int .i64 (s32.To)]] [s32.To] rfl (by decide) sl22 inf3 rfl rfl rfl rfl (h15.le hle731) rfl (fun w ho => Rd.own (i := 0) ho rfl) ⟨rfl, trivial⟩ h884) ?_
          rintro _ _ ⟨hs885, rfl, h886⟩
          obtain ⟨A887, c888, rfl, _⟩ := h886.form
          refine t_do rfl (u_store 2 rfl rfl siz22 rfl rfl (by simp)) ?_
          rintro _ _ rfl
          refine t_nil ?_
          obtain ⟨rfl, rfl, rfl, rfl, rfl⟩ := some5 hm
          refine x_pullb 7 rfl ?_
          refine x_pullb 3 rfl ?_
          refine x_pullb 3 rfl ?_
          refine x_pullb 7 rfl ?_
          refine x_pullb 7 rfl ?_
          refine x_pullb 7 rfl ?_
          refine x_front5 [_, _, _, _, _, _, _, _] hs885 hs881 hs614 hs579 hs22 R rfl ?_
          refine x_front5 [_, _, _, _, _, _, _, _] hs22 hs885 hs881 hs614 hs579 R rfl ?_
          refine x_front3 [_, _, _, _, _, _, _, _] hs579 hs22 hs885 (hs881 ++ (hs614 ++ R)) rfl ?_
          refine x_front4 [_, _, _, _, _, _, _, _] hs885 hs579 hs22 hs881 (hs614 ++ R) rfl ?_
          refine x_front5 [_, _, _, _, _, _, _, _] hs881 hs885 hs579 hs22 hs614 R rfl ?_
          exact endM hle731 rfl (.cons_cons _ (.cons_cons _ (.cons_cons _ (.cons_cons _ (.cons_cons _ (.cons_cons _ (.cons _ (.cons _ (sub_app hs614 (sub_app hs881 (sub_app hs885 (sub_app hs579 (sub_app hs22 (.refl _)))))))))))))) ⟨hs614, hs881, A887, c888, hs885, hs579, rfl, rfl, (h615.le hle731), ((put_length _ _ _).trans rfl), h882, ((put_length _ _ _).trans rfl), h886, (h580.le hle731), ((put_length _ _ _).trans rfl)⟩
        ·
          rw [if_pos (notF hc864)] at hm
          refine c_skip ?_
          obtain ⟨rfl, rfl, rfl, rfl, rfl⟩ := some5 hm
          refine x_pullb 6 rfl ?_
          refine x_pullb 2 rfl ?_
          refine x_pullb 2 rfl ?_
          refine x_pullb 6 rfl ?_
          refine x_pullb 6 rfl ?_
          refine x_pullb 6 rfl ?_
          refine x_front5 [_, _, _, _, _, _, _] hs614 hs7 hs12 hs579 hs22 R rfl ?_
          refine x_front5 [_, _, _, _, _, _, _] hs22 hs614 hs7 hs12 hs579 R rfl ?_
          refine x_front5 [_, _, _, _, _, _, _] hs579 hs22 hs614 hs7 hs12 R rfl ?_
          refine x_front5 [_, _, _, _, _, _, _] hs12 hs579 hs22 hs614 hs7 R rfl ?_
          refine x_front5 [_, _, _, _, _, _, _] hs7 hs12 hs579 hs22 hs614 R rfl ?_
          exact endM hle731 rfl (.cons_cons _ (.cons_cons _ (.cons_cons _ (.cons_cons _ (.cons_cons _ (.cons_cons _ (.cons _ (sub_app hs614 (sub_app hs7 (sub_app hs12 (sub_app hs579 (sub_app hs22 (.refl _))))))))))))) ⟨hs614, hs7, A13, c14, hs12, hs579, rfl, rfl, (h615.le hle731), ((put_length _ _ _).trans rfl), (h10.le hle731), rfl, (h15.le hle731), (h580.le hle731), ((put_length _ _ _).trans rfl)⟩
    exact R_nil

end Go.Proofs.Ytakehdnblmonlaa
