/- Contracts: the code computes its model (part 2). -/
import Derived.Test.YtakehdnblmonlaaCP1
set_option linter.unusedVariables false
set_option linter.unusedSimpArgs false
namespace Go.Proofs.Ytakehdnblmonlaa
open Go.RowKit Go.Fp

set_option maxRecDepth 20000 in
theorem cMendSolverWith_1 (b : Base) (R : Hp) (s32 : MendArc) (x33 : Bool) (l37 : (List Int)) (l38 : (List Int)) (l39 : (List Bool)) (l40 : (List Int)) (l42 : (List Int)) (l43 : (List (List MendArc))) (g26 : Nat) (g27 : Nat) (g28 : Nat) (g29 : Nat) (g30 : Nat) (g31 : Nat) (A34 : Option Addr) (c35 : Nat) (A3 : Option Addr) (c4 : Nat) (hs2 : Hp) (A8 : Option Addr) (c9 : Nat) (hs7 : Hp) (A13 : Option Addr) (c14 : Nat) (hs12 : Hp) (A18 : Option Addr) (c19 : Nat) (hs17 : Hp) (A23 : Option Addr) (c24 : Nat) (hs22 : Hp) (h36 : FZ (RT.int .i64) b.w A34 c35 l37) (h5 : OS 3 (OT.fr (RT.int .i64)) b.w (.slice A3 l38.length c4) l38 hs2) (h10 : OS 4 (OT.fr RT.bool) b.w (.slice A8 l39.length c9) l39 hs7) (h15 : OS 3 (OT.fr (RT.int .i64)) b.w (.slice A13 l40.length c14) l40 hs12) (hnz41 : (A13 = none ↔ l40 = [])) (h20 : OS 3 (OT.fr (RT.int .i64)) b.w (.slice A18 l42.length c19) l42 hs17) (h25 : OS 23 (OT.fr (RT.list rMendArc)) b.w (.slice A23 l43.length c24) l43 hs22) (x470 : Bool) (l471 : (List Int)) (l473 : (List Bool)) (l475 : (List Int)) (l477 : (List Int)) (hm : mMendSolverWith_1 s32 x33 l37 l38 l39 l40 l42 l43 = some (x470, l471, l473, l475, l477)) :
    CallsG Try.prog 61 [.agg #[.int .i64 (s32.From), .int .i64 (s32.To), .int .i64 (s32.Len)], .pointer (some ⟨g26, 0, none⟩), .pointer (some ⟨g27, 0, none⟩), .pointer (some ⟨g28, 0, none⟩), .pointer (some ⟨g29, 0, none⟩), .pointer (some ⟨g30, 0, none⟩)] b ((g26, Cl 69 [.pointer (some ⟨g31, 0, none⟩)]) :: (g27, Cl 22 [.slice A3 (l38).length c4]) :: (g28, Cl 4 [.bool (x33)]) :: (g29, Cl 88 [.slice A8 (l39).length c9]) :: (g30, Cl 22 [.slice A13 (l40).length c14]) :: (g31, Cl 73 [.slice A18 (l42).length c19, .slice A34 (l37).length c35, .slice A23 (l43).length c24]) :: (hs2 ++ (hs7 ++ (hs12 ++ (hs17 ++ (hs22 ++ R)))))) (fun v b' hp' => ∃ (hs457 : Hp), ∃ (hs460 : Hp), ∃ (A464 : Option Addr), ∃ (c465 : Nat), ∃ (hs463 : Hp), ∃ (hs468 : Hp), .tuple #[] = v ∧ (g26, Cl 69 [.pointer (some ⟨g31, 0, none⟩)]) :: (g27, Cl 22 [.slice A3 (l471).length c4]) :: (g28, Cl 4 [.bool (x470)]) :: (g29, Cl 88 [.slice A8 (l473).length c9]) :: (g30, Cl 22 [.slice A464 (l475).length c465]) :: (g31, Cl 73 [.slice A18 (l477).length c19, .slice A34 (l37).length c35, .slice A23 (l43).length c24]) :: (hs457 ++ (hs460 ++ (hs463 ++ (hs468 ++ (hs22 ++ R))))) = hp' ∧ OS 3 (OT.fr (RT.int .i64)) b'.w (.slice A3 l471.length c4) l471 hs457 ∧ l471.length = l38.length ∧ OS 4 (OT.fr RT.bool) b'.w (.slice A8 l473.length c9) l473 hs460 ∧ l473.length = l39.length ∧ OS 3 (OT.fr (RT.int .i64)) b'.w (.slice A464 l475.length c465) l475 hs463 ∧ (A464 = none ↔ l475 = []) ∧ OS 3 (OT.fr (RT.int .i64)) b'.w (.slice A18 l477.length c19) l477 hs468 ∧ l477.length = l42.length) := by
  refine fn_enterG 95 Try.func61 rfl Try.ntmps61 rfl ?_
  unfold mMendSolverWith_1 at hm
  refine c_seq ?_
  refine c_region ?_
  refine t_do rfl (u_box _ rfl rfl) ?_
  rintro _ _ ⟨g479, rfl, rfl⟩
  refine t_nil ?_
  refine x_then_normal ?_
  refine c_seq ?_
  obtain ⟨x497, h498, hm⟩ := bindS hm
  obtain ⟨_, h513, hm⟩ := bindS hm
  refine D_drawS ((g479, Cl 34 [.int .i64 (s32.From), .int .i64 (s32.To), .int .i64 (s32.Len)]) :: (g26, Cl 69 [.pointer (some ⟨g31, 0, none⟩)]) :: (g27, Cl 22 [.slice A3 (l38).length c4]) :: (g28, Cl 4 [.bool (x33)]) :: (g29, Cl 88 [.slice A8 (l39).length c9]) :: (g30, Cl 22 [.slice A13 (l40).length c14]) :: (g31, Cl 73 [.slice A18 (l42).length c19, .slice A34 (l37).length c35, .slice A23 (l43).length c24]) :: (hs2 ++ (hs7 ++ (hs12 ++ (hs17 ++ (hs22 ++ R)))))) mixed ?_
  refine D_st (Base.Le.refl _) 0 rfl (by kernel_rfl) (by kernel_rfl) (by kernel_rfl) rfl (st_load 1 rfl one69 rfl rfl) (.cons_cons _ (.cons_cons _ (.cons_cons _ (.cons_cons _ (.cons_cons _ (.cons_cons _ (.cons_cons _ (sub_app hs2 (sub_app hs7 (sub_app hs12 (sub_app hs17 (sub_app hs22 (.refl _))))))))))))) ?_
  refine D_st (Base.Le.refl _) 1 rfl (by kernel_rfl) (by kernel_rfl) (by kernel_rfl) rfl (st_nil rfl) (.cons_cons _ (.cons_cons _ (.cons_cons _ (.cons_cons _ (.cons_cons _ (.cons_cons _ (.cons_cons _ (sub_app hs2 (sub_app hs7 (sub_app hs12 (sub_app hs17 (sub_app hs22 (.refl _))))))))))))) ?_
  refine D_st (Base.Le.refl _) 2 rfl (by kernel_rfl) (by kernel_rfl) (by kernel_rfl) rfl (st_field rfl fld73_0) (.cons_cons _ (.cons_cons _ (.cons_cons _ (.cons_cons _ (.cons_cons _ (.cons_cons _ (.cons_cons _ (sub_app hs2 (sub_app hs7 (sub_app hs12 (sub_app hs17 (sub_app hs22 (.refl _))))))))))))) ?_
  refine D_st (Base.Le.refl _) 3 rfl (by kernel_rfl) (by kernel_rfl) (by kernel_rfl) rfl (st_load 6 rfl one22 rfl rfl) (.cons_cons _ (.cons_cons _ (.cons_cons _ (.cons_cons _ (.cons_cons _ (.cons_cons _ (.cons_cons _ (sub_app hs2 (sub_app hs7 (sub_app hs12 (sub_app hs17 (sub_app hs22 (.refl _))))))))))))) ?_
  refine D_st (Base.Le.refl _) 4 rfl (by kernel_rfl) (by kernel_rfl) (by kernel_rfl) rfl (st_field rfl fld34_0) (.cons_cons _ (.cons_cons _ (.cons_cons _ (.cons_cons _ (.cons_cons _ (.cons_cons _ (.cons_cons _ (sub_app hs2 (sub_app hs7 (sub_app hs12 (sub_app hs17 (sub_app hs22 (.refl _))))))))))))) ?_
  refine D_st (Base.Le.refl _) 5 rfl (by kernel_rfl) (by kernel_rfl) (by kernel_rfl) rfl (st_load 0 rfl one3 rfl rfl) (.cons_cons _ (.cons_cons _ (.cons_cons _ (.cons_cons _ (.cons_cons _ (.cons_cons _ (.cons_cons _ (sub_app hs2 (sub_app hs7 (sub_app hs12 (sub_app hs17 (sub_app hs22 (.refl _))))))))))))) ?_
  obtain ⟨j499, hj500, hx501⟩ := idx_some h498
  obtain ⟨cs502, hs507, P508, P509, hq510, hr503, hcs504, hA505, hlt506, hb511, hho512⟩ := OS.get (sz := 1) rfl (by decide) h20 hx501
  obtain ⟨rfl, rfl⟩ := hr503
  refine D_st (Base.Le.refl _) 6 rfl (by kernel_rfl) (by kernel_rfl) (by kernel_rfl) rfl (st_index_old j499 rfl rfl hj500 hlt506 hA505 sl22) (.cons_cons _ (.cons_cons _ (.cons_cons _ (.cons_cons _ (.cons_cons _ (.cons_cons _ (.cons_cons _ (sub_app hs2 (sub_app hs7 (sub_app hs12 (sub_app hs17 (sub_app hs22 (.refl _))))))))))))) ?_
  refine D_st (Base.Le.refl _) 7 rfl (by kernel_rfl) (by kernel_rfl) (by kernel_rfl) rfl (st_load_rd rfl one3 (fun w ho => hcs504 w _ ho (.cons _ (.cons _ (.cons _ (.cons _ (.cons _ (.cons _ (.cons _ (sub_skip hs2 (sub_skip hs7 (sub_skip hs12 (List.sublist_append_left _ _))))))))))) 0 _ rfl)) (.cons_cons _ (.cons_cons _ (.cons_cons _ (.cons_cons _ (.cons_cons _ (.cons_cons _ (.cons_cons _ (sub_app hs2 (sub_app hs7 (sub_app hs12 (sub_app hs17 (sub_app hs22 (.refl _))))))))))))) ?_
  refine D_st (Base.Le.refl _) 8 rfl (by kernel_rfl) (by kernel_rfl) (by kernel_rfl) rfl (st_field rfl fld34_2) (.cons_cons _ (.cons_cons _ (.cons_cons _ (.cons_cons _ (.cons_cons _ (.cons_cons _ (.cons_cons _ (sub_app hs2 (sub_app hs7 (sub_app hs12 (sub_app hs17 (sub_app hs22 (.refl _))))))))))))) ?_
  refine D_st (Base.Le.refl _) 9 rfl (by kernel_rfl) (by kernel_rfl) (by kernel_rfl) rfl (st_load 0 rfl one3 rfl rfl) (.cons_cons _ (.cons_cons _ (.cons_cons _ (.cons_cons _ (.cons_cons _ (.cons_cons _ (.cons_cons _ (sub_app hs2 (sub_app hs7 (sub_app hs12 (sub_app hs17 (sub_app hs22 (.refl _))))))))))))) ?_
  have h513 := (chk_some h513).2
  refine D_st (Base.Le.refl _) 10 rfl (by kernel_rfl) (by kernel_rfl) (by kernel_rfl) rfl (st_add rfl rfl h513) (.cons_cons _ (.cons_cons _ (.cons_cons _ (.cons_cons _ (.cons_cons _ (.cons_cons _ (.cons_cons _ (sub_app hs2 (sub_app hs7 (sub_app hs12 (sub_app hs17 (sub_app hs22 (.refl _))))))))))))) ?_
  refine D_st (Base.Le.refl _) 11 rfl (by kernel_rfl) (by kernel_rfl) (by kernel_rfl) rfl (st_assign rfl) (.cons_cons _ (.cons_cons _ (.cons_cons _ (.cons_cons _ (.cons_cons _ (.cons_cons _ (.cons_cons _ (sub_app hs2 (sub_app hs7 (sub_app hs12 (sub_app hs17 (sub_app hs22 (.refl _))))))))))))) ?_
  refine D_done (by kernel_rfl) ?_
  refine x_then_normal ?_
  refine c_seq ?_
  refine c_seq ?_
  obtain ⟨x530, h531, hm⟩ := bindS hm
  refine D_drawS ((g479, Cl 34 [.int .i64 (s32.From), .int .i64 (s32.To), .int .i64 (s32.Len)]) :: (g26, Cl 69 [.pointer (some ⟨g31, 0, none⟩)]) :: (g27, Cl 22 [.slice A3 (l38).length c4]) :: (g28, Cl 4 [.bool (x33)]) :: (g29, Cl 88 [.slice A8 (l39).length c9]) :: (g30, Cl 22 [.slice A13 (l40).length c14]) :: (g31, Cl 73 [.slice A18 (l42).length c19, .slice A34 (l37).length c35, .slice A23 (l43).length c24]) :: (hs2 ++ (hs7 ++ (hs12 ++ (hs17 ++ (hs22 ++ R)))))) mixed ?_
  refine D_st (Base.Le.refl _) 0 rfl (by kernel_rfl) (by kernel_rfl) (by kernel_rfl) rfl (st_move rfl) (.cons_cons _ (.cons_cons _ (.cons_cons _ (.cons_cons _ (.cons_cons _ (.cons_cons _ (.cons_cons _ (sub_app hs2 (sub_app hs7 (sub_app hs12 (sub_app hs17 (sub_app hs22 (.refl _))))))))))))) ?_
  refine D_st (Base.Le.refl _) 1 rfl (by kernel_rfl) (by kernel_rfl) (by kernel_rfl) rfl (st_load 1 rfl one69 rfl rfl) (.cons_cons _ (.cons_cons _ (.cons_cons _ (.cons_cons _ (.cons_cons _ (.cons_cons _ (.cons_cons _ (sub_app hs2 (sub_app hs7 (sub_app hs12 (sub_app hs17 (sub_app hs22 (.refl _))))))))))))) ?_
  refine D_st (Base.Le.refl _) 2 rfl (by kernel_rfl) (by kernel_rfl) (by kernel_rfl) rfl (st_nil rfl) (.cons_cons _ (.cons_cons _ (.cons_cons _ (.cons_cons _ (.cons_cons _ (.cons_cons _ (.cons_cons _ (sub_app hs2 (sub_app hs7 (sub_app hs12 (sub_app hs17 (sub_app hs22 (.refl _))))))))))))) ?_
  refine D_st (Base.Le.refl _) 3 rfl (by kernel_rfl) (by kernel_rfl) (by kernel_rfl) rfl (st_field rfl fld73_0) (.cons_cons _ (.cons_cons _ (.cons_cons _ (.cons_cons _ (.cons_cons _ (.cons_cons _ (.cons_cons _ (sub_app hs2 (sub_app hs7 (sub_app hs12 (sub_app hs17 (sub_app hs22 (.refl _))))))))))))) ?_
  refine D_st (Base.Le.refl _) 4 rfl (by kernel_rfl) (by kernel_rfl) (by kernel_rfl) rfl (st_load 6 rfl one22 rfl rfl) (.cons_cons _ (.cons_cons _ (.cons_cons _ (.cons_cons _ (.cons_cons _ (.cons_cons _ (.cons_cons _ (sub_app hs2 (sub_app hs7 (sub_app hs12 (sub_app hs17 (sub_app hs22 (.refl _))))))))))))) ?_
  refine D_st (Base.Le.refl _) 5 rfl (by kernel_rfl) (by kernel_rfl) (by kernel_rfl) rfl (st_field rfl fld34_1) (.cons_cons _ (.cons_cons _ (.cons_cons _ (.cons_cons _ (.cons_cons _ (.cons_cons _ (.cons_cons _ (sub_app hs2 (sub_app hs7 (sub_app hs12 (sub_app hs17 (sub_app hs22 (.refl _))))))))))))) ?_
  refine D_st (Base.Le.refl _) 6 rfl (by kernel_rfl) (by kernel_rfl) (by kernel_rfl) rfl (st_load 0 rfl one3 rfl rfl) (.cons_cons _ (.cons_cons _ (.cons_cons _ (.cons_cons _ (.cons_cons _ (.cons_cons _ (.cons_cons _ (sub_app hs2 (sub_app hs7 (sub_app hs12 (sub_app hs17 (sub_app hs22 (.refl _))))))))))))) ?_
  obtain ⟨j532, hj533, hx534⟩ := idx_some h531
  obtain ⟨cs535, hs540, P541, P542, hq543, hr536, hcs537, hA538, hlt539, hb544, hho545⟩ := OS.get (sz := 1) rfl (by decide) h20 hx534
  obtain ⟨rfl, rfl⟩ := hr536
  refine D_st (Base.Le.refl _) 7 rfl (by kernel_rfl) (by kernel_rfl) (by kernel_rfl) rfl (st_index_old j532 rfl rfl hj533 hlt539 hA538 sl22) (.cons_cons _ (.cons_cons _ (.cons_cons _ (.cons_cons _ (.cons_cons _ (.cons_cons _ (.cons_cons _ (sub_app hs2 (sub_app hs7 (sub_app hs12 (sub_app hs17 (sub_app hs22 (.refl _))))))))))))) ?_
  refine D_st (Base.Le.refl _) 8 rfl (by kernel_rfl) (by kernel_rfl) (by kernel_rfl) rfl (st_load_rd rfl one3 (fun w ho => hcs537 w _ ho (.cons _ (.cons _ (.cons _ (.cons _ (.cons _ (.cons _ (.cons _ (sub_skip hs2 (sub_skip hs7 (sub_skip hs12 (List.sublist_append_left _ _))))))))))) 0 _ rfl)) (.cons_cons _ (.cons_cons _ (.cons_cons _ (.cons_cons _ (.cons_cons _ (.cons_cons _ (.cons_cons _ (sub_app hs2 (sub_app hs7 (sub_app hs12 (sub_app hs17 (sub_app hs22 (.refl _))))))))))))) ?_
  refine D_st (Base.Le.refl _) 9 rfl (by kernel_rfl) (by kernel_rfl) (by kernel_rfl) rfl (st_leq rfl rfl) (.cons_cons _ (.cons_cons _ (.cons_cons _ (.cons_cons _ (.cons_cons _ (.cons_cons _ (.cons_cons _ (sub_app hs2 (sub_app hs7 (sub_app hs12 (sub_app hs17 (sub_app hs22 (.refl _))))))))))))) ?_
  refine D_done (by kernel_rfl) ?_
  refine x_then_normal ?_
  refine c_cond _ rfl (fun hc546 => ?_) (fun hc546 => ?_)
  ·
    rw [if_pos (of_decide_eq_true hc546)] at hm
    refine c_ret ?_
    refine x_then_ret ?_
    obtain ⟨rfl, rfl, rfl, rfl, rfl⟩ := some5 hm
    refine x_pullb 6 rfl ?_
    refine x_pullb 6 rfl ?_
    refine x_pullb 6 rfl ?_
    refine x_pullb 6 rfl ?_
    refine x_pullb 6 rfl ?_
    refine x_pullb 6 rfl ?_
    refine x_front5 [_, _, _, _, _, _, _] hs2 hs7 hs12 hs17 hs22 R rfl ?_
    refine x_front5 [_, _, _, _, _, _, _] hs22 hs2 hs7 hs12 hs17 R rfl ?_
    refine x_front5 [_, _, _, _, _, _, _] hs17 hs22 hs2 hs7 hs12 R rfl ?_
    refine x_front5 [_, _, _, _, _, _, _] hs12 hs17 hs22 hs2 hs7 R rfl ?_
    refine x_front5 [_, _, _, _, _, _, _] hs7 hs12 hs17 hs22 hs2 R rfl ?_
    exact retM (rs := []) [] (Base.Le.refl _) (by decide) rfl trivial rfl (hp' := (g26, Cl 69 [.pointer (some ⟨g31, 0, none⟩)]) :: (g27, Cl 22 [.slice A3 (l38).length c4]) :: (g28, Cl 4 [.bool (x33)]) :: (g29, Cl 88 [.slice A8 (l39).length c9]) :: (g30, Cl 22 [.slice A13 (l40).length c14]) :: (g31, Cl 73 [.slice A18 (l42).length c19, .slice A34 (l37).length c35, .slice A23 (l43).length c24]) :: (hs2 ++ (hs7 ++ (hs12 ++ (hs17 ++ (hs22 ++ R)))))) (.cons_cons _ (.cons_cons _ (.cons_cons _ (.cons_cons _ (.cons_cons _ (.cons_cons _ (.cons _ (sub_app hs2 (sub_app hs7 (sub_app hs12 (sub_app hs17 (sub_app hs22 (.refl _))))))))))))) ⟨hs2, hs7, A13, c14, hs12, hs17, rfl, rfl, h5, rfl, h10, rfl, h15, hnz41, h20, rfl⟩
  ·
    rw [if_neg (of_decide_eq_false hc546)] at hm
    refine c_skip ?_
    refine x_then_normal ?_
    refine c_seq ?_
    obtain ⟨x565, h566, hm⟩ := bindS hm
    refine c_front4 [_, _, _, _, _, _, _] hs2 hs7 hs12 hs17 (hs22 ++ R) rfl ?_
    refine D_drawS ((g479, Cl 34 [.int .i64 (s32.From), .int .i64 (s32.To), .int .i64 (s32.Len)]) :: (g26, Cl 69 [.pointer (some ⟨g31, 0, none⟩)]) :: (g27, Cl 22 [.slice A3 (l38).length c4]) :: (g28, Cl 4 [.bool (x33)]) :: (g29, Cl 88 [.slice A8 (l39).length c9]) :: (g30, Cl 22 [.slice A13 (l40).length c14]) :: (g31, Cl 73 [.slice A18 (l42).length c19, .slice A34 (l37).length c35, .slice A23 (l43).length c24]) :: (hs17 ++ (hs2 ++ (hs7 ++ (hs12 ++ (hs22 ++ R)))))) mixed ?_
    refine D_st (Base.Le.refl _) 0 rfl (by kernel_rfl) (by kernel_rfl) (by kernel_rfl) rfl (st_load 1 rfl one69 rfl rfl) (.cons_cons _ (.cons_cons _ (.cons_cons _ (.cons_cons _ (.cons_cons _ (.cons_cons _ (.cons_cons _ (sub_app hs17 (sub_app hs2 (sub_app hs7 (sub_app hs12 (sub_app hs22 (.refl _))))))))))))) ?_
    refine D_st (Base.Le.refl _) 1 rfl (by kernel_rfl) (by kernel_rfl) (by kernel_rfl) rfl (st_nil rfl) (.cons_cons _ (.cons_cons _ (.cons_cons _ (.cons_cons _ (.cons_cons _ (.cons_cons _ (.cons_cons _ (sub_app hs17 (sub_app hs2 (sub_app hs7 (sub_app hs12 (sub_app hs22 (.refl _))))))))))))) ?_
    refine D_st (Base.Le.refl _) 2 rfl (by kernel_rfl) (by kernel_rfl) (by kernel_rfl) rfl (st_field rfl fld73_0) (.cons_cons _ (.cons_cons _ (.cons_cons _ (.cons_cons _ (.cons_cons _ (.cons_cons _ (.cons_cons _ (sub_app hs17 (sub_app hs2 (sub_app hs7 (sub_app hs12 (sub_app hs22 (.refl _))))))))))))) ?_
    refine D_st (Base.Le.refl _) 3 rfl (by kernel_rfl) (by kernel_rfl) (by kernel_rfl) rfl (st_load 6 rfl one22 rfl rfl) (.cons_cons _ (.cons_cons _ (.cons_cons _ (.cons_cons _ (.cons_cons _ (.cons_cons _ (.cons_cons _ (sub_app hs17 (sub_app hs2 (sub_app hs7 (sub_app hs12 (sub_app hs22 (.refl _))))))))))))) ?_
    refine D_st (Base.Le.refl _) 4 rfl (by kernel_rfl) (by kernel_rfl) (by kernel_rfl) rfl (st_field rfl fld34_1) (.cons_cons _ (.cons_cons _ (.cons_cons _ (.cons_cons _ (.cons_cons _ (.cons_cons _ (.cons_cons _ (sub_app hs17 (sub_app hs2 (sub_app hs7 (sub_app hs12 (sub_app hs22 (.refl _))))))))))))) ?_
    refine D_st (Base.Le.refl _) 5 rfl (by kernel_rfl) (by kernel_rfl) (by kernel_rfl) rfl (st_load 0 rfl one3 rfl rfl) (.cons_cons _ (.cons_cons _ (.cons_cons _ (.cons_cons _ (.cons_cons _ (.cons_cons _ (.cons_cons _ (sub_app hs17 (sub_app hs2 (sub_app hs7 (sub_app hs12 (sub_app hs22 (.refl _))))))))))))) ?_
    refine D_st (Base.Le.refl _) 6 rfl (by kernel_rfl) (by kernel_rfl) (by kernel_rfl) rfl (st_move rfl) (.cons_cons _ (.cons_cons _ (.cons_cons _ (.cons_cons _ (.cons_cons _ (.cons_cons _ (.cons_cons _ (sub_app hs17 (sub_app hs2 (sub_app hs7 (sub_app hs12 (sub_app hs22 (.refl _))))))))))))) ?_
    obtain ⟨j567, hj568, hx569⟩ := idx_some h566
    obtain ⟨cs570, hs575, P576, P577, hq578, hr571, hcs572, hA573, hlt574, hb579, hho580⟩ := OS.get (sz := 1) rfl (by decide) h20 hx569
    obtain ⟨rfl, rfl⟩ := hr571
    refine D_st (Base.Le.refl _) 7 rfl (by kernel_rfl) (by kernel_rfl) (by kernel_rfl) rfl (st_index_old j567 rfl rfl hj568 hlt574 hA573 sl22) (.cons_cons _ (.cons_cons _ (.cons_cons _ (.cons_cons _ (.cons_cons _ (.cons_cons _ (.cons_cons _ (sub_app hs17 (sub_app hs2 (sub_app hs7 (sub_app hs12 (sub_app hs22 (.refl _))))))))))))) ?_
    refine D_all [8] (by kernel_rfl) rfl ?_
    refine R_do (Base.Le.refl _) rfl rfl (u_putOS hj568 (sz := 1) (a' := x497 + s32.Len) rfl [_, _, _, _, _, _, _] (hs2 ++ (hs7 ++ (hs12 ++ (hs22 ++ R)))) 0 1 [.int .i64 (x497 + s32.Len)] rfl h20 hx569 rfl rfl rfl siz3 rfl (by intro u hu; simp only [List.mem_cons, List.not_mem_nil, or_false] at hu; subst hu; rfl) (fun cs hsj hh => by obtain ⟨rfl, rfl⟩ := hh; exact ⟨by decide, rfl, rfl⟩)) ?_ ?_
    ·
      rintro _ _ ⟨hs581, rfl, h582⟩
      refine ⟨.inl (by kernel_rfl), ?_⟩
      refine d_hresp 6 rfl (o' := Cl 73 [.slice A18 (put l42 s32.To (x497 + s32.Len)).length c19, .slice A34 (l37).length c35, .slice A23 (l43).length c24]) (by simp only [put_length]) ?_
      refine D_done (by kernel_rfl) ?_
      refine x_then_normal ?_
      refine c_seq ?_
      refine c_region ?_
      refine t_st rfl (st_load 2 rfl one22 rfl rfl) ?_
      refine t_st rfl (st_field rfl fld34_1) ?_
      refine t_st rfl (st_load 0 rfl one3 rfl rfl) ?_
      obtain ⟨x583, h584, hm⟩ := bindS hm
      obtain ⟨j585, hj586, hx587⟩ := idx_some h584
      obtain ⟨cs588, hs593, P594, P595, hq596, hr589, hcs590, hA591, hlt592, hb597, hho598⟩ := OS.get (sz := 1) rfl (by decide) h5 hx587
      obtain ⟨rfl, rfl⟩ := hr589
      refine t_st rfl (st_index_old j585 rfl rfl hj586 hlt592 hA591 sl22) ?_
      refine t_st rfl (st_load_rd rfl one3 (fun w ho => hcs590 w _ ho (.cons _ (.cons _ (.cons _ (.cons _ (.cons _ (.cons _ (.cons _ (sub_skip hs581 (List.sublist_append_left _ _))))))))) 0 _ rfl)) ?_
      obtain ⟨_, h599, hm⟩ := bindS hm
      have h599 := (chk_some h599).2
      refine t_st rfl (st_add rfl rfl h599) ?_
      obtain ⟨x600, h601, hm⟩ := bindS hm
      obtain ⟨j602, hj603, hx604⟩ := idx_some h601
      obtain ⟨cs605, hs610, P611, P612, hq613, hr606, hcs607, hA608, hlt609, hb614, hho615⟩ := OS.get (sz := 1) rfl (by decide) h5 hx604
      obtain ⟨rfl, rfl⟩ := hr606
      refine t_st rfl (st_index_old j602 rfl rfl hj603 hlt609 hA608 sl22) ?_
      refine t_front2 [_, _, _, _, _, _, _] hs581 hs2 (hs7 ++ (hs12 ++ (hs22 ++ R))) rfl ?_
      refine t_do rfl (u_putOS hj603 (sz := 1) (a' := x583 + 1) rfl [_, _, _, _, _, _, _] (hs581 ++ (hs7 ++ (hs12 ++ (hs22 ++ R)))) 0 1 [.int .i64 (x583 + 1)] rfl h5 hx604 rfl rfl rfl siz3 rfl (by intro u hu; simp only [List.mem_cons, List.not_mem_nil, or_false] at hu; subst hu; rfl) (fun cs hsj hh => by obtain ⟨rfl, rfl⟩ := hh; exact ⟨by decide, rfl, rfl⟩)) ?_
      rintro _ _ ⟨hs616, rfl, h617⟩
      refine t_hresp 2 rfl (o' := Cl 22 [.slice A3 (put l38 s32.To (x583 + 1)).length c4]) (by simp only [put_length]) ?_
      refine t_nil ?_
      refine x_then_normal ?_
      obtain ⟨x734, hj735, hk735⟩ := bindS hm
      refine c_join (fun b732 e' hp' => [(4, .pointer (some ⟨g29, 0, none⟩)), (5, .pointer (some ⟨g30, 0, none⟩)), (6, .pointer (some ⟨g479, 0, none⟩))] = e' ∧ (g29, Cl 88 [.slice A8 (l39).length c9]) :: (g30, Cl 22 [.slice A13 (l40).length c14]) :: (g479, Cl 34 [.int .i64 (s32.From), .int .i64 (s32.To), .int .i64 (s32.Len)]) :: (g26, Cl 69 [.pointer (some ⟨g31, 0, none⟩)]) :: (g27, Cl 22 [.slice A3 (put l38 s32.To (x583 + 1)).length c4]) :: (g28, Cl 4 [.bool (x734)]) :: (g31, Cl 73 [.slice A18 (put l42 s32.To (x497 + s32.Len)).length c19, .slice A34 (l37).length c35, .slice A23 (l43).length c24]) :: (hs616 ++ (hs7 ++ (hs12 ++ (hs581 ++ (hs22 ++ R))))) = hp' ∧ b.Le b732) ?_ ?_
      ·
        have hm := hj735
        rcases Bool.eq_false_or_eq_true x33 with hc793 | hc793
        ·
          rw [if_pos hc793] at hm
          obtain ⟨x794, h795, hm⟩ := bindS hm
          by_cases hc804 : x794 < 0
          ·
            rw [if_pos hc804] at hm
            by_cases hc805 : (x497 + s32.Len) ≤ 1099511627776
            ·
              rw [if_pos hc805] at hm
              obtain ⟨x806, h807, hm⟩ := bindS hm
              refine D_drawS ((g479, Cl 34 [.int .i64 (s32.From), .int .i64 (s32.To), .int .i64 (s32.Len)]) :: (g26, Cl 69 [.pointer (some ⟨g31, 0, none⟩)]) :: (g27, Cl 22 [.slice A3 (put l38 s32.To (x583 + 1)).length c4]) :: (g28, Cl 4 [.bool (x33)]) :: (g29, Cl 88 [.slice A8 (l39).length c9]) :: (g30, Cl 22 [.slice A13 (l40).length c14]) :: (g31, Cl 73 [.slice A18 (put l42 s32.To (x497 + s32.Len)).length c19, .slice A34 (l37).length c35, .slice A23 (l43).length c24]) :: (hs616 ++ (hs581 ++ (hs7 ++ (hs12 ++ (hs22 ++ R)))))) mixed ?_
              refine D_st (Base.Le.refl _) 0 rfl (by kernel_rfl) (by kernel_rfl) (by kernel_rfl) rfl (stB (st_load 3 rfl one4 rfl rfl) hc793) (.cons_cons _ (.cons_cons _ (.cons_cons _ (.cons_cons _ (.cons_cons _ (.cons_cons _ (.cons_cons _ (sub_app hs616 (sub_app hs581 (sub_app hs7 (sub_app hs12 (sub_app hs22 (.refl _))))))))))))) ?_
              refine D_st (Base.Le.refl _) 1 rfl (by kernel_rfl) (by kernel_rfl) (by kernel_rfl) rfl (st_move rfl) (.cons_cons _ (.cons_cons _ (.cons_cons _ (.cons_cons _ (.cons_cons _ (.cons_cons _ (.cons_cons _ (sub_app hs616 (sub_app hs581 (sub_app hs7 (sub_app hs12 (sub_app hs22 (.refl _))))))))))))) ?_
              refine D_yes (Base.Le.refl _) 2 45 rfl (by kernel_rfl) (by kernel_rfl) (by kernel_rfl) rfl rfl rfl rfl (st_load 1 rfl one69 rfl rfl) (.cons_cons _ (.cons_cons _ (.cons_cons _ (.cons_cons _ (.cons_cons _ (.cons_cons _ (.cons_cons _ (sub_app hs616 (sub_app hs581 (sub_app hs7 (sub_app hs12 (sub_app hs22 (.refl _))))))))))))) ?_
              refine D_yes (Base.Le.refl _) 3 45 rfl (by kernel_rfl) (by kernel_rfl) (by kernel_rfl) rfl rfl rfl rfl (st_nil rfl) (.cons_cons _ (.cons_cons _ (.cons_cons _ (.cons_cons _ (.cons_cons _ (.cons_cons _ (.cons_cons _ (sub_app hs616 (sub_app hs581 (sub_app hs7 (sub_app hs12 (sub_app hs22 (.refl _))))))))))))) ?_
              refine D_yes (Base.Le.refl _) 4 45 rfl (by kernel_rfl) (by kernel_rfl) (by kernel_rfl) rfl rfl rfl rfl (st_field rfl fld73_1) (.cons_cons _ (.cons_cons _ (.cons_cons _ (.cons_cons _ (.cons_cons _ (.cons_cons _ (.cons_cons _ (sub_app hs616 (sub_app hs581 (sub_app hs7 (sub_app hs12 (sub_app hs22 (.refl _))))))))))))) ?_
              refine D_yes (Base.Le.refl _) 5 45 rfl (by kernel_rfl) (by kernel_rfl) (by kernel_rfl) rfl rfl rfl rfl (st_load 6 rfl one22 rfl rfl) (.cons_cons _ (.cons_cons _ (.cons_cons _ (.cons_cons _ (.cons_cons _ (.cons_cons _ (.cons_cons _ (sub_app hs616 (sub_app hs581 (sub_app hs7 (sub_app hs12 (sub_app hs22 (.refl _))))))))))))) ?_
              refine D_yes (Base.Le.refl _) 6 45 rfl (by kernel_rfl) (by kernel_rfl) (by kernel_rfl) rfl rfl rfl rfl (st_field rfl fld34_1) (.cons_cons _ (.cons_cons _ (.cons_cons _ (.cons_cons _ (.cons_cons _ (.cons_cons _ (.cons_cons _ (sub_app hs616 (sub_app hs581 (sub_app hs7 (sub_app hs12 (sub_app hs22 (.refl _))))))))))))) ?_
              refine D_yes (Base.Le.refl _) 7 45 rfl (by kernel_rfl) (by kernel_rfl) (by kernel_rfl) rfl rfl rfl rfl (st_load 0 rfl one3 rfl rfl) (.cons_cons _ (.cons_cons _ (.cons_cons _ (.cons_cons _ (.cons_cons _ (.cons_cons _ (.cons_cons _ (sub_app hs616 (sub_app hs581 (sub_app hs7 (sub_app hs12 (sub_app hs22 (.refl _))))))))))))) ?_
              obtain ⟨j796, hj797, hx798⟩ := idx_some h795
              obtain ⟨cs799, hr800, hcs801, hA802, hlt803⟩ := FZ.get (sz := 1) rfl (by decide) h36 hx798
              obtain rfl := hr800
              refine D_yes (Base.Le.refl _) 8 45 rfl (by kernel_rfl) (by kernel_rfl) (by kernel_rfl) rfl rfl rfl rfl (st_index_old j796 rfl rfl hj797 hlt803 hA802 sl22) (.cons_cons _ (.cons_cons _ (.cons_cons _ (.cons_cons _ (.cons_cons _ (.cons_cons _ (.cons_cons _ (sub_app hs616 (sub_app hs581 (sub_app hs7 (sub_app hs12 (sub_app hs22 (.refl _))))))))))))) ?_
              refine D_yes (Base.Le.refl _) 9 45 rfl (by kernel_rfl) (by kernel_rfl) (by kernel_rfl) rfl rfl rfl rfl (st_load_old rfl one3 (hcs801 0 _ rfl)) (.cons_cons _ (.cons_cons _ (.cons_cons _ (.cons_cons _ (.cons_cons _ (.cons_cons _ (.cons_cons _ (sub_app hs616 (sub_app hs581 (sub_app hs7 (sub_app hs12 (sub_app hs22 (.refl _))))))))))))) ?_
              refine D_yes (Base.Le.refl _) 10 45 rfl (by kernel_rfl) (by kernel_rfl) (by kernel_rfl) rfl rfl rfl rfl (st_lss_t rfl rfl hc804) (.cons_cons _ (.cons_cons _ (.cons_cons _ (.cons_cons _ (.cons_cons _ (.cons_cons _ (.cons_cons _ (sub_app hs616 (sub_app hs581 (sub_app hs7 (sub_app hs12 (sub_app hs22 (.refl _))))))))))))) ?_
              refine D_yes (Base.Le.refl _) 11 45 rfl (by kernel_rfl) (by kernel_rfl) (by kernel_rfl) rfl rfl rfl rfl (st_move rfl) (.cons_cons _ (.cons_cons _ (.cons_cons _ (.cons_cons _ (.cons_cons _ (.cons_cons _ (.cons_cons _ (sub_app hs616 (sub_app hs581 (sub_app hs7 (sub_app hs12 (sub_app hs22 (.refl _))))))))))))) ?_
              refine D_no (Base.Le.refl _) 12 55 rfl (by kernel_rfl) (by kernel_rfl) (by kernel_rfl) rfl rfl rfl rfl rfl (.cons_cons _ (.cons_cons _ (.cons_cons _ (.cons_cons _ (.cons_cons _ (.cons_cons _ (.cons_cons _ (sub_app hs616 (sub_app hs581 (sub_app hs7 (sub_app hs12 (sub_app hs22 (.refl _))))))))))))) ?_
              refine D_no (Base.Le.refl _) 13 55 rfl (by kernel_rfl) (by kernel_rfl) (by kernel_rfl) rfl rfl rfl rfl rfl (.cons_cons _ (.cons_cons _ (.cons_cons _ (.cons_cons _ (.cons_cons _ (.cons_cons _ (.cons_cons _ (sub_app hs616 (sub_app hs581 (sub_app hs7 (sub_app hs12 (sub_app hs22 (.refl _))))))))))))) ?_
              refine D_no (Base.Le.refl _) 14 55 rfl (by kernel_rfl) (by kernel_rfl) (by kernel_rfl) rfl rfl rfl rfl rfl (.cons_cons _ (.cons_cons _ (.cons_cons _ (.cons_cons _ (.cons_cons _ (.cons_cons _ (.cons_cons _ (sub_app hs616 (sub_app hs581 (sub_app hs7 (sub_app hs12 (sub_app hs22 (.refl _))))))))))))) ?_
              refine D_no (Base.Le.refl _) 15 55 rfl (by kernel_rfl) (by kernel_rfl) (by kernel_rfl) rfl rfl rfl rfl rfl (.cons_cons _ (.cons_cons _ (.cons_cons _ (.cons_cons _ (.cons_cons _ (.cons_cons _ (.cons_cons _ (sub_app hs616 (sub_app hs581 (sub_app hs7 (sub_app hs12 (sub_app hs22 (.refl _))))))))))))) ?_
              refine D_no (Base.Le.refl _) 16 55 rfl (by kernel_rfl) (by kernel_rfl) (by kernel_rfl) rfl rfl rfl rfl rfl (.cons_cons _ (.cons_cons _ (.cons_cons _ (.cons_cons _ (.cons_cons _ (.cons_cons _ (.cons_cons _ (sub_app hs616 (sub_app hs581 (sub_app hs7 (sub_app hs12 (sub_app hs22 (.refl _))))))))))))) ?_
              refine D_no (Base.Le.refl _) 17 55 rfl (by kernel_rfl) (by kernel_rfl) (by kernel_rfl) rfl rfl rfl rfl rfl (.cons_cons _ (.cons_cons _ (.cons_cons _ (.cons_cons _ (.cons_cons _ (.cons_cons _ (.cons_cons _ (sub_app hs616 (sub_app hs581 (sub_app hs7 (sub_app hs12 (sub_app hs22 (.refl _))))))))))))) ?_
              refine D_no (Base.Le.refl _) 18 55 rfl (by kernel_rfl) (by kernel_rfl) (by kernel_rfl) rfl rfl rfl rfl rfl (.cons_cons _ (.cons_cons _ (.cons_cons _ (.cons_cons _ (.cons_cons _ (.cons_cons _ (.cons_cons _ (sub_app hs616 (sub_app hs581 (sub_app hs7 (sub_app hs12 (sub_app hs22 (.refl _))))))))))))) ?_
              refine D_no (Base.Le.refl _) 19 55 rfl (by kernel_rfl) (by kernel_rfl) (by kernel_rfl) rfl rfl rfl rfl rfl (.cons_cons _ (.cons_cons _ (.cons_cons _ (.cons_cons _ (.cons_cons _ (.cons_cons _ (.cons_cons _ (sub_app hs616 (sub_app hs581 (sub_app hs7 (sub_app hs12 (sub_app hs22 (.refl _))))))))))))) ?_
              refine D_no (Base.Le.refl _) 20 55 rfl (by kernel_rfl) (by kernel_rfl) (by kernel_rfl) rfl rfl rfl rfl rfl (.cons_cons _ (.cons_cons _ (.cons_cons _ (.cons_cons _ (.cons_cons _ (.cons_cons _ (.cons_cons _ (sub_app hs616 (sub_app hs581 (sub_app hs7 (sub_app hs12 (sub_app hs22 (.refl _))))))))))))) ?_
              refine D_no (Base.Le.refl _) 21 55 rfl (by kernel_rfl) (by kernel_rfl) (by kernel_rfl) rfl rfl rfl rfl rfl (.cons_cons _ (.cons_cons _ (.cons_cons _ (.cons_cons _ (.cons_cons _ (.cons_cons _ (.cons_cons _ (sub_app hs616 (sub_app hs581 (sub_app hs7 (sub_app hs12 (sub_app hs22 (.refl _))))))))))))) ?_
              refine D_yes (Base.Le.refl _) 22 45 rfl (by kernel_rfl) (by kernel_rfl) (by kernel_rfl) rfl rfl rfl rfl (st_pick_t rfl rfl) (.cons_cons _ (.cons_cons _ (.cons_cons _ (.cons_cons _ (.cons_cons _ (.cons_cons _ (.cons_cons _ (sub_app hs616 (sub_app hs581 (sub_app hs7 (sub_app hs12 (sub_app hs22 (.refl _))))))))))))) ?_
              refine D_st (Base.Le.refl _) 23 rfl (by kernel_rfl) (by kernel_rfl) (by kernel_rfl) rfl (st_pick_t rfl rfl) (.cons_cons _ (.cons_cons _ (.cons_cons _ (.cons_cons _ (.cons_cons _ (.cons_cons _ (.cons_cons _ (sub_app hs616 (sub_app hs581 (sub_app hs7 (sub_app hs12 (sub_app hs22 (.refl _))))))))))))) ?_
              refine D_st (Base.Le.refl _) 24 rfl (by kernel_rfl) (by kernel_rfl) (by kernel_rfl) rfl (st_move rfl) (.cons_cons _ (.cons_cons _ (.cons_cons _ (.cons_cons _ (.cons_cons _ (.cons_cons _ (.cons_cons _ (sub_app hs616 (sub_app hs581 (sub_app hs7 (sub_app hs12 (sub_app hs22 (.refl _))))))))))))) ?_
              refine D_yes (Base.Le.refl _) 25 68 rfl (by kernel_rfl) (by kernel_rfl) (by kernel_rfl) rfl rfl rfl rfl (st_move rfl) (.cons_cons _ (.cons_cons _ (.cons_cons _ (.cons_cons _ (.cons_cons _ (.cons_cons _ (.cons_cons _ (sub_app hs616 (sub_app hs581 (sub_app hs7 (sub_app hs12 (sub_app hs22 (.refl _))))))))))))) ?_
              refine D_yes (Base.Le.refl _) 26 68 rfl (by kernel_rfl) (by kernel_rfl) (by kernel_rfl) rfl rfl rfl rfl (st_leq_t rfl rfl hc805) (.cons_cons _ (.cons_cons _ (.cons_cons _ (.cons_cons _ (.cons_cons _ (.cons_cons _ (.cons_cons _ (sub_app hs616 (sub_app hs581 (sub_app hs7 (sub_app hs12 (sub_app hs22 (.refl _))))))))))))) ?_
              refine D_st (Base.Le.refl _) 27 rfl (by kernel_rfl) (by kernel_rfl) (by kernel_rfl) rfl (st_pick_t rfl rfl) (.cons_cons _ (.cons_cons _ (.cons_cons _ (.cons_cons _ (.cons_cons _ (.cons_cons _ (.cons_cons _ (sub_app hs616 (sub_app hs581 (sub_app hs7 (sub_app hs12 (sub_app hs22 (.refl _))))))))))))) ?_
              refine D_st (Base.Le.refl _) 28 rfl (by kernel_rfl) (by kernel_rfl) (by kernel_rfl) rfl (st_move rfl) (.cons_cons _ (.cons_cons _ (.cons_cons _ (.cons_cons _ (.cons_cons _ (.cons_cons _ (.cons_cons _ (sub_app hs616 (sub_app hs581 (sub_app hs7 (sub_app hs12 (sub_app hs22 (.refl _))))))))))))) ?_
              refine D_yes (Base.Le.refl _) 29 72 rfl (by kernel_rfl) (by kernel_rfl) (by kernel_rfl) rfl rfl rfl rfl (st_load 2 rfl one22 rfl rfl) (.cons_cons _ (.cons_cons _ (.cons_cons _ (.cons_cons _ (.cons_cons _ (.cons_cons _ (.cons_cons _ (sub_app hs616 (sub_app hs581 (sub_app hs7 (sub_app hs12 (sub_app hs22 (.refl _))))))))))))) ?_
              refine D_yes (Base.Le.refl _) 30 72 rfl (by kernel_rfl) (by kernel_rfl) (by kernel_rfl) rfl rfl rfl rfl (st_field rfl fld34_1) (.cons_cons _ (.cons_cons _ (.cons_cons _ (.cons_cons _ (.cons_cons _ (.cons_cons _ (.cons_cons _ (sub_app hs616 (sub_app hs581 (sub_app hs7 (sub_app hs12 (sub_app hs22 (.refl _))))))))))))) ?_
              refine D_yes (Base.Le.refl _) 31 72 rfl (by kernel_rfl) (by kernel_rfl) (by kernel_rfl) rfl rfl rfl rfl (st_load 0 rfl one3 rfl rfl) (.cons_cons _ (.cons_cons _ (.cons_cons _ (.cons_cons _ (.cons_cons _ (.cons_cons _ (.cons_cons _ (sub_app hs616 (sub_app hs581 (sub_app hs7 (sub_app hs12 (sub_app hs22 (.refl _))))))))))))) ?_
              obtain ⟨j808, hj809, hx810⟩ := idx_some h807
              obtain ⟨cs811, hs816, P817, P818, hq819, hr812, hcs813, hA814, hlt815, hb820, hho821⟩ := OS.get (sz := 1) rfl (by decide) h617 hx810
              obtain ⟨rfl, rfl⟩ := hr812
              refine D_yes (Base.Le.refl _) 32 72 rfl (by kernel_rfl) (by kernel_rfl) (by kernel_rfl) rfl rfl rfl rfl (st_index_old j808 rfl rfl hj809 hlt815 hA814 sl22) (.cons_cons _ (.cons_cons _ (.cons_cons _ (.cons_cons _ (.cons_cons _ (.cons_cons _ (.cons_cons _ (sub_app hs616 (sub_app hs581 (sub_app hs7 (sub_app hs12 (sub_app hs22 (.refl _))))))))))))) ?_
              refine D_yes (Base.Le.refl _) 33 72 rfl (by kernel_rfl) (by kernel_rfl) (by kernel_rfl) rfl rfl rfl rfl (st_load_rd rfl one3 (fun w ho => hcs813 w _ ho (.cons _ (.cons _ (.cons _ (.cons _ (.cons _ (.cons _ (.cons _ (List.sublist_append_left _ _)))))))) 0 _ rfl)) (.cons_cons _ (.cons_cons _ (.cons_cons _ (.cons_cons _ (.cons_cons _ (.cons_cons _ (.cons_cons _ (sub_app hs616 (sub_app hs581 (sub_app hs7 (sub_app hs12 (sub_app hs22 (.refl _))))))))))))) ?_
              refine D_yes (Base.Le.refl _) 34 72 rfl (by kernel_rfl) (by kernel_rfl) (by kernel_rfl) rfl rfl rfl rfl (st_leq rfl rfl) (.cons_cons _ (.cons_cons _ (.cons_cons _ (.cons_cons _ (.cons_cons _ (.cons_cons _ (.cons_cons _ (sub_app hs616 (sub_app hs581 (sub_app hs7 (sub_app hs12 (sub_app hs22 (.refl _))))))))))))) ?_
              refine D_st (Base.Le.refl _) 35 rfl (by kernel_rfl) (by kernel_rfl) (by kernel_rfl) rfl (st_pick_t rfl rfl) (.cons_cons _ (.cons_cons _ (.cons_cons _ (.cons_cons _ (.cons_cons _ (.cons_cons _ (.cons_cons _ (sub_app hs616 (sub_app hs581 (sub_app hs7 (sub_app hs12 (sub_app hs22 (.refl _))))))))))))) ?_
              refine D_all [36] (by kernel_rfl) rfl ?_
              refine R_do (Base.Le.refl _) rfl rfl (u_store 3 rfl rfl siz4 rfl rfl (by simp)) ?_ ?_
              ·
                rintro _ _ rfl
                refine ⟨.inl (by kernel_rfl), ?_⟩
                refine D_done (by kernel_rfl) ?_
                obtain rfl := some1 hm
                refine x_pullb 6 rfl ?_
                refine x_pullb 4 rfl ?_
                refine x_pullb 4 rfl ?_
                refine x_pullb 4 rfl ?_
                refine x_pullb 4 rfl ?_
                refine x_pullb 6 rfl ?_
                refine x_pullb 6 rfl ?_
                refine x_front5 [_, _, _, _, _, _, _] hs616 hs581 hs7 hs12 hs22 R rfl ?_
                refine x_front3 [_, _, _, _, _, _, _] hs22 hs616 hs581 (hs7 ++ (hs12 ++ R)) rfl ?_
                refine x_front5 [_, _, _, _, _, _, _] hs581 hs22 hs616 hs7 hs12 R rfl ?_
                refine x_front5 [_, _, _, _, _, _, _] hs12 hs581 hs22 hs616 hs7 R rfl ?_
                refine x_front5 [_, _, _, _, _, _, _] hs7 hs12 hs581 hs22 hs616 R rfl ?_
                exact x_join (e' := [(4, .pointer (some ⟨g29, 0, none⟩)), (5, .pointer (some ⟨g30, 0, none⟩)), (6, .pointer (some ⟨g479, 0, none⟩))]) (hp' := (g29, Cl 88 [.slice A8 (l39).length c9]) :: (g30, Cl 22 [.slice A13 (l40).length c14]) :: (g479, Cl 34 [.int .i64 (s32.From), .int .i64 (s32.To), .int .i64 (s32.Len)]) :: (g26, Cl 69 [.pointer (some ⟨g31, 0, none⟩)]) :: (g27, Cl 22 [.slice A3 (put l38 s32.To (x583 + 1)).length c4]) :: (g28, Cl 4 [.bool (decide (x806 ≤ 65536))]) :: (g31, Cl 73 [.slice A18 (put l42 s32.To (x497 + s32.Len)).length c19, .slice A34 (l37).length c35, .slice A23 (l43).length c24]) :: (hs616 ++ (hs7 ++ (hs12 ++ (hs581 ++ (hs22 ++ R)))))) ⟨rfl, rfl, rfl, trivial⟩ (.cons_cons _ (.cons_cons _ (.cons_cons _ (.cons_cons _ (.cons_cons _ (.cons_cons _ (.cons_cons _ (sub_app hs616 (sub_app hs7 (sub_app hs12 (sub_app hs581 (sub_app hs22 (.refl _))))))))))))) ⟨rfl, rfl, (Base.Le.refl _)⟩
              exact R_nil
            ·
              rw [if_neg hc805] at hm
              refine D_drawS ((g479, Cl 34 [.int .i64 (s32.From), .int .i64 (s32.To), .int .i64 (s32.Len)]) :: (g26, Cl 69 [.pointer (some ⟨g31, 0, none⟩)]) :: (g27, Cl 22 [.slice A3 (put l38 s32.To (x583 + 1)).length c4]) :: (g28, Cl 4 [.bool (x33)]) :: (g29, Cl 88 [.slice A8 (l39).length c9]) :: (g30, Cl 22 [.slice A13 (l40).length c14]) :: (g31, Cl 73 [.slice A18 (put l42 s32.To (x497 + s32.Len)).length c19, .slice A34 (l37).length c35, .slice A23 (l43).length c24]) :: (hs616 ++ (hs581 ++ (hs7 ++ (hs12 ++ (hs22 ++ R)))))) mixed ?_
              refine D_st (Base.Le.refl _) 0 rfl (by kernel_rfl) (by kernel_rfl) (by kernel_rfl) rfl (stB (st_load 3 rfl one4 rfl rfl) hc793) (.cons_cons _ (.cons_cons _ (.cons_cons _ (.cons_cons _ (.cons_cons _ (.cons_cons _ (.cons_cons _ (sub_app hs616 (sub_app hs581 (sub_app hs7 (sub_app hs12 (sub_app hs22 (.refl _))))))))))))) ?_
              refine D_st (Base.Le.refl _) 1 rfl (by kernel_rfl) (by kernel_rfl) (by kernel_rfl) rfl (st_move rfl) (.cons_cons _ (.cons_cons _ (.cons_cons _ (.cons_cons _ (.cons_cons _ (.cons_cons _ (.cons_cons _ (sub_app hs616 (sub_app hs581 (sub_app hs7 (sub_app hs12 (sub_app hs22 (.refl _))))))))))))) ?_
              refine D_yes (Base.Le.refl _) 2 45 rfl (by kernel_rfl) (by kernel_rfl) (by kernel_rfl) rfl rfl rfl rfl (st_load 1 rfl one69 rfl rfl) (.cons_cons _ (.cons_cons _ (.cons_cons _ (.cons_cons _ (.cons_cons _ (.cons_cons _ (.cons_cons _ (sub_app hs616 (sub_app hs581 (sub_app hs7 (sub_app hs12 (sub_app hs22 (.refl _))))))))))))) ?_
              refine D_yes (Base.Le.refl _) 3 45 rfl (by kernel_rfl) (by kernel_rfl) (by kernel_rfl) rfl rfl rfl rfl (st_nil rfl) (.cons_cons _ (.cons_cons _ (.cons_cons _ (.cons_cons _ (.cons_cons _ (.cons_cons _ (.cons_cons _ (sub_app hs616 (sub_app hs581 (sub_app hs7 (sub_app hs12 (sub_app hs22 (.refl _))))))))))))) ?_
              refine D_yes (Base.Le.refl _) 4 45 rfl (by kernel_rfl) (by kernel_rfl) (by kernel_rfl) rfl rfl rfl rfl (st_field rfl fld73_1) (.cons_cons _ (.cons_cons _ (.cons_cons _ (.cons_cons _ (.cons_cons _ (.cons_cons _ (.cons_cons _ (sub_app hs616 (sub_app hs581 (sub_app hs7 (sub_app hs12 (sub_app hs22 (.refl _))))))))))))) ?_
              refine D_yes (Base.Le.refl _) 5 45 rfl (by kernel_rfl) (by kernel_rfl) (by kernel_rfl) rfl rfl rfl rfl (st_load 6 rfl one22 rfl rfl) (.cons_cons _ (.cons_cons _ (.cons_cons _ (.cons_cons _ (.cons_cons _ (.cons_cons _ (.cons_cons _ (sub_app hs616 (sub_app hs581 (sub_app hs7 (sub_app hs12 (sub_app hs22 (.refl _))))))))))))) ?_
              refine D_yes (Base.Le.refl _) 6 45 rfl (by kernel_rfl) (by kernel_rfl) (by kernel_rfl) rfl rfl rfl rfl (st_field rfl fld34_1) (.cons_cons _ (.cons_cons _ (.cons_cons _ (.cons_cons _ (.cons_cons _ (.cons_cons _ (.cons_cons _ (sub_app hs616 (sub_app hs581 (sub_app hs7 (sub_app hs12 (sub_app hs22 (.refl _))))))))))))) ?_
              refine D_yes (Base.Le.refl _) 7 45 rfl (by kernel_rfl) (by kernel_rfl) (by kernel_rfl) rfl rfl rfl rfl (st_load 0 rfl one3 rfl rfl) (.cons_cons _ (.cons_cons _ (.cons_cons _ (.cons_cons _ (.cons_cons _ (.cons_cons _ (.cons_cons _ (sub_app hs616 (sub_app hs581 (sub_app hs7 (sub_app hs12 (sub_app hs22 (.refl _))))))))))))) ?_
              obtain ⟨j796, hj797, hx798⟩ := idx_some h795
              obtain ⟨cs799, hr800, hcs801, hA802, hlt803⟩ := FZ.get (sz := 1) rfl (by decide) h36 hx798
              obtain rfl := hr800
              refine D_yes (Base.Le.refl _) 8 45 rfl (by kernel_rfl) (by kernel_rfl) (by kernel_rfl) rfl rfl rfl rfl (st_index_old j796 rfl rfl hj797 hlt803 hA802 sl22) (.cons_cons _ (.cons_cons _ (.cons_cons _ (.cons_cons _ (.cons_cons _ (.cons_cons _ (.cons_cons _ (sub_app hs616 (sub_app hs581 (sub_app hs7 (sub_app hs12 (sub_app hs22 (.refl _))))))))))))) ?_
              refine D_yes (Base.Le.refl _) 9 45 rfl (by kernel_rfl) (by kernel_rfl) (by kernel_rfl) rfl rfl rfl rfl (st_load_old rfl one3 (hcs801 0 _ rfl)) (.cons_cons _ (.cons_cons _ (.cons_cons _ (.cons_cons _ (.cons_cons _ (.cons_cons _ (.cons_cons _ (sub_app hs616 (sub_app hs581 (sub_app hs7 (sub_app hs12 (sub_app hs22 (.refl _))))))))))))) ?_
              refine D_yes (Base.Le.refl _) 10 45 rfl (by kernel_rfl) (by kernel_rfl) (by kernel_rfl) rfl rfl rfl rfl (st_lss_t rfl rfl hc804) (.cons_cons _ (.cons_cons _ (.cons_cons _ (.cons_cons _ (.cons_cons _ (.cons_cons _ (.cons_cons _ (sub_app hs616 (sub_app hs581 (sub_app hs7 (sub_app hs12 (sub_app hs22 (.refl _))))))))))))) ?_
              refine D_yes (Base.Le.refl _) 11 45 rfl (by kernel_rfl) (by kernel_rfl) (by kernel_rfl) rfl rfl rfl rfl (st_move rfl) (.cons_cons _ (.cons_cons _ (.cons_cons _ (.cons_cons _ (.cons_cons _ (.cons_cons _ (.cons_cons _ (sub_app hs616 (sub_app hs581 (sub_app hs7 (sub_app hs12 (sub_app hs22 (.refl _))))))))))))) ?_
              refine D_no (Base.Le.refl _) 12 55 rfl (by kernel_rfl) (by kernel_rfl) (by kernel_rfl) rfl rfl rfl rfl rfl (.cons_cons _ (.cons_cons _ (.cons_cons _ (.cons_cons _ (.cons_cons _ (.cons_cons _ (.cons_cons _ (sub_app hs616 (sub_app hs581 (sub_app hs7 (sub_app hs12 (sub_app hs22 (.refl _))))))))))))) ?_
              refine D_no (Base.Le.refl _) 13 55 rfl (by kernel_rfl) (by kernel_rfl) (by kernel_rfl) rfl rfl rfl rfl rfl (.cons_cons _ (.cons_cons _ (.cons_cons _ (.cons_cons _ (.cons_cons _ (.cons_cons _ (.cons_cons _ (sub_app hs616 (sub_app hs581 (sub_app hs7 (sub_app hs12 (sub_app hs22 (.refl _))))))))))))) ?_
              refine D_no (Base.Le.refl _) 14 55 rfl (by kernel_rfl) (by kernel_rfl) (by kernel_rfl) rfl rfl rfl rfl rfl (.cons_cons _ (.cons_cons _ (.cons_cons _ (.cons_cons _ (.cons_cons _ (.cons_cons _ (.cons_cons _ (sub_app hs616 (sub_app hs581 (sub_app hs7 (sub_app hs12 (sub_app hs22 (.refl _))))))))))))) ?_
              refine D_no (Base.Le.refl _) 15 55 rfl (by kernel_rfl) (by kernel_rfl) (by kernel_rfl) rfl rfl rfl rfl rfl (.cons_cons _ (.cons_cons _ (.cons_cons _ (.cons_cons _ (.cons_cons _ (.cons_cons _ (.cons_cons _ (sub_app hs616 (sub_app hs581 (sub_app hs7 (sub_app hs12 (sub_app hs22 (.refl _))))))))))))) ?_
              refine D_no (Base.Le.refl _) 16 55 rfl (by kernel_rfl) (by kernel_rfl) (by kernel_rfl) rfl rfl rfl rfl rfl (.cons_cons _ (.cons_cons _ (.cons_cons _ (.cons_cons _ (.cons_cons _ (.cons_cons _ (.cons_cons _ (sub_app hs616 (sub_app hs581 (sub_app hs7 (sub_app hs12 (sub_app hs22 (.refl _))))))))))))) ?_
              refine D_no (Base.Le.refl _) 17 55 rfl (by kernel_rfl) (by kernel_rfl) (by kernel_rfl) rfl rfl rfl rfl rfl (.cons_cons _ (.cons_cons _ (.cons_cons _ (.cons_cons _ (.cons_cons _ (.cons_cons _ (.cons_cons _ (sub_app hs616 (sub_app hs581 (sub_app hs7 (sub_app hs12 (sub_app hs22 (.refl _))))))))))))) ?_
              refine D_no (Base.Le.refl _) 18 55 rfl (by kernel_rfl) (by kernel_rfl) (by kernel_rfl) rfl rfl rfl rfl rfl (.cons_cons _ (.cons_cons _ (.cons_cons _ (.cons_cons _ (.cons_cons _ (.cons_cons _ (.cons_cons _ (sub_app hs616 (sub_app hs581 (sub_app hs7 (sub_app hs12 (sub_app hs22 (.refl _))))))))))))) ?_
              refine D_no (Base.Le.refl _) 19 55 rfl (by kernel_rfl) (by kernel_rfl) (by kernel_rfl) rfl rfl rfl rfl rfl (.cons_cons _ (.cons_cons _ (.cons_cons _ (.cons_cons _ (.cons_cons _ (.cons_cons _ (.cons_cons _ (sub_app hs616 (sub_app hs581 (sub_app hs7 (sub_app hs12 (sub_app hs22 (.refl _))))))))))))) ?_
              refine D_no (Base.Le.refl _) 20 55 rfl (by kernel_rfl) (by kernel_rfl) (by kernel_rfl) rfl rfl rfl rfl rfl (.cons_cons _ (.cons_cons _ (.cons_cons _ (.cons_cons _ (.cons_cons _ (.cons_cons _ (.cons_cons _ (sub_app hs616 (sub_app hs581 (sub_app hs7 (sub_app hs12 (sub_app hs22 (.refl _))))))))))))) ?_
              refine D_no (Base.Le.refl _) 21 55 rfl (by kernel_rfl) (by kernel_rfl) (by kernel_rfl) rfl rfl rfl rfl rfl (.cons_cons _ (.cons_cons _ (.cons_cons _ (.cons_cons _ (.cons_cons _ (.cons_cons _ (.cons_cons _ (sub_app hs616 (sub_app hs581 (sub_app hs7 (sub_app hs12 (sub_app hs22 (.refl _))))))))))))) ?_
              refine D_yes (Base.Le.refl _) 22 45 rfl (by kernel_rfl) (by kernel_rfl) (by kernel_rfl) rfl rfl rfl rfl (st_pick_t rfl rfl) (.cons_cons _ (.cons_cons _ (.cons_cons _ (.cons_cons _ (.cons_cons _ (.cons_cons _ (.cons_cons _ (sub_app hs616 (sub_app hs581 (sub_app hs7 (sub_app hs12 (sub_app hs22 (.refl _))))))))))))) ?_
              refine D_st (Base.Le.refl _) 23 rfl (by kernel_rfl) (by kernel_rfl) (by kernel_rfl) rfl (st_pick_t rfl rfl) (.cons_cons _ (.cons_cons _ (.cons_cons _ (.cons_cons _ (.cons_cons _ (.cons_cons _ (.cons_cons _ (sub_app hs616 (sub_app hs581 (sub_app hs7 (sub_app hs12 (sub_app hs22 (.refl _))))))))))))) ?_
              refine D_st (Base.Le.refl _) 24 rfl (by kernel_rfl) (by kernel_rfl) (by kernel_rfl) rfl (st_move rfl) (.cons_cons _ (.cons_cons _ (.cons_cons _ (.cons_cons _ (.cons_cons _ (.cons_cons _ (.cons_cons _ (sub_app hs616 (sub_app hs581 (sub_app hs7 (sub_app hs12 (sub_app hs22 (.refl _))))))))))))) ?_
              refine D_yes (Base.Le.refl _) 25 68 rfl (by kernel_rfl) (by kernel_rfl) (by kernel_rfl) rfl rfl rfl rfl (st_move rfl) (.cons_cons _ (.cons_cons _ (.cons_cons _ (.cons_cons _ (.cons_cons _ (.cons_cons _ (.cons_cons _ (sub_app hs616 (sub_app hs581 (sub_app hs7 (sub_app hs12 (sub_app hs22 (.refl _))))))))))))) ?_
              refine D_yes (Base.Le.refl _) 26 68 rfl (by kernel_rfl) (by kernel_rfl) (by kernel_rfl) rfl rfl rfl rfl (st_leq_f rfl rfl hc805) (.cons_cons _ (.cons_cons _ (.cons_cons _ (.cons_cons _ (.cons_cons _ (.cons_cons _ (.cons_cons _ (sub_app hs616 (sub_app hs581 (sub_app hs7 (sub_app hs12 (sub_app hs22 (.refl _))))))))))))) ?_
              refine D_st (Base.Le.refl _) 27 rfl (by kernel_rfl) (by kernel_rfl) (by kernel_rfl) rfl (st_pick_t rfl rfl) (.cons_cons _ (.cons_cons _ (.cons_cons _ (.cons_cons _ (.cons_cons _ (.cons_cons _ (.cons_cons _ (sub_app hs616 (sub_app hs581 (sub_app hs7 (sub_app hs12 (sub_app hs22 (.refl _))))))))))))) ?_
              refine D_st (Base.Le.refl _) 28 rfl (by kernel_rfl) (by kernel_rfl) (by kernel_rfl) rfl (st_move rfl) (.cons_cons _ (.cons_cons _ (.cons_cons _ (.cons_cons _ (.cons_cons _ (.cons_cons _ (.cons_cons _ (sub_app hs616 (sub_app hs581 (sub_app hs7 (sub_app hs12 (sub_app hs22 (.refl _))))))))))))) ?_
              refine D_no (Base.Le.refl _) 29 72 rfl (by kernel_rfl) (by kernel_rfl) (by kernel_rfl) rfl rfl rfl rfl rfl (.cons_cons _ (.cons_cons _ (.cons_cons _ (.cons_cons _ (.cons_cons _ (.cons_cons _ (.cons_cons _ (sub_app hs616 (sub_app hs581 (sub_app hs7 (sub_app hs12 (sub_app hs22 (.refl _))))))))))))) ?_
              refine D_no (Base.Le.refl _) 30 72 rfl (by kernel_rfl) (by kernel_rfl) (by kernel_rfl) rfl rfl rfl rfl rfl (.cons_cons _ (.cons_cons _ (.cons_cons _ (.cons_cons _ (.cons_cons _ (.cons_cons _ (.cons_cons _ (sub_app hs616 (sub_app hs581 (sub_app hs7 (sub_app hs12 (sub_app hs22 (.refl _))))))))))))) ?_
              refine D_no (Base.Le.refl _) 31 72 rfl (by kernel_rfl) (by kernel_rfl) (by kernel_rfl) rfl rfl rfl rfl rfl (.cons_cons _ (.cons_cons _ (.cons_cons _ (.cons_cons _ (.cons_cons _ (.cons_cons _ (.cons_cons _ (sub_app hs616 (sub_app hs581 (sub_app hs7 (sub_app hs12 (sub_app hs22 (.refl _))))))))))))) ?_
              refine D_no (Base.Le.refl _) 32 72 rfl (by kernel_rfl) (by kernel_rfl) (by kernel_rfl) rfl rfl rfl rfl rfl (.cons_cons _ (.cons_cons _ (.cons_cons _ (.cons_cons _ (.cons_cons _ (.cons_cons _ (.cons_cons _ (sub_app hs616 (sub_app hs581 (sub_app hs7 (sub_app hs12 (sub_app hs22 (.refl _))))))))))))) ?_
              refine D_no (Base.Le.refl _) 33 72 rfl (by kernel_rfl) (by kernel_rfl) (by kernel_rfl) rfl rfl rfl rfl rfl (.cons_cons _ (.cons_cons _ (.cons_cons _ (.cons_cons _ (.cons_cons _ (.cons_cons _ (.cons_cons _ (sub_app hs616 (sub_app hs581 (sub_app hs7 (sub_app hs12 (sub_app hs22 (.refl _))))))))))))) ?_
              refine D_no (Base.Le.refl _) 34 72 rfl (by kernel_rfl) (by kernel_rfl) (by kernel_rfl) rfl rfl rfl rfl rfl (.cons_cons _ (.cons_cons _ (.cons_cons _ (.cons_cons _ (.cons_cons _ (.cons_cons _ (.cons_cons _ (sub_app hs616 (sub_app hs581 (sub_app hs7 (sub_app hs12 (sub_app hs22 (.refl _))))))))))))) ?_
              refine D_st (Base.Le.refl _) 35 rfl (by kernel_rfl) (by kernel_rfl) (by kernel_rfl) rfl (st_pick_f rfl rfl) (.cons_cons _ (.cons_cons _ (.cons_cons _ (.cons_cons _ (.cons_cons _ (.cons_cons _ (.cons_cons _ (sub_app hs616 (sub_app hs581 (sub_app hs7 (sub_app hs12 (sub_app hs22 (.refl _))))))))))))) ?_
              refine D_all [36] (by kernel_rfl) rfl ?_
              refine R_do (Base.Le.refl _) rfl rfl (u_store 3 rfl rfl siz4 rfl rfl (by simp)) ?_ ?_
              ·
                rintro _ _ rfl
                refine ⟨.inl (by kernel_rfl), ?_⟩
                refine D_done (by kernel_rfl) ?_
                obtain rfl := some1 hm
                refine x_pullb 6 rfl ?_
                refine x_pullb 4 rfl ?_
                refine x_pullb 4 rfl ?_
                refine x_pullb 4 rfl ?_
                refine x_pullb 4 rfl ?_
                refine x_pullb 6 rfl ?_
                refine x_pullb 6 rfl ?_
                refine x_front5 [_, _, _, _, _, _, _] hs616 hs581 hs7 hs12 hs22 R rfl ?_
                refine x_front3 [_, _, _, _, _, _, _] hs22 hs616 hs581 (hs7 ++ (hs12 ++ R)) rfl ?_
                refine x_front5 [_, _, _, _, _, _, _] hs581 hs22 hs616 hs7 hs12 R rfl ?_
                refine x_front5 [_, _, _, _, _, _, _] hs12 hs581 hs22 hs616 hs7 R rfl ?_
                refine x_front5 [_, _, _, _, _, _, _] hs7 hs12 hs581 hs22 hs616 R rfl ?_
                exact x_join (e' := [(4, .pointer (some ⟨g29, 0, none⟩)), (5, .pointer (some ⟨g30, 0, none⟩)), (6, .pointer (some ⟨g479, 0, none⟩))]) (hp' := (g29, Cl 88 [.slice A8 (l39).length c9]) :: (g30, Cl 22 [.slice A13 (l40).length c14]) :: (g479, Cl 34 [.int .i64 (s32.From), .int .i64 (s32.To), .int .i64 (s32.Len)]) :: (g26, Cl 69 [.pointer (some ⟨g31, 0, none⟩)]) :: (g27, Cl 22 [.slice A3 (put l38 s32.To (x583 + 1)).length c4]) :: (g28, Cl 4 [.bool (false)]) :: (g31, Cl 73 [.slice A18 (put l42 s32.To (x497 + s32.Len)).length c19, .slice A34 (l37).length c35, .slice A23 (l43).length c24]) :: (hs616 ++ (hs7 ++ (hs12 ++ (hs581 ++ (hs22 ++ R)))))) ⟨rfl, rfl, rfl, trivial⟩ (.cons_cons _ (.cons_cons _ (.cons_cons _ (.cons_cons _ (.cons_cons _ (.cons_cons _ (.cons_cons _ (sub_app hs616 (sub_app hs7 (sub_app hs12 (sub_app hs581 (sub_app hs22 (.refl _))))))))))))) ⟨rfl, rfl, (Base.Le.refl _)⟩
              exact R_nil
          ·
            rw [if_neg hc804] at hm
            obtain ⟨x822, h823, hm⟩ := bindS hm
            by_cases hc832 : (x497 + s32.Len) ≤ x822
            ·
              rw [if_pos hc832] at hm
              by_cases hc833 : (x497 + s32.Len) ≤ 1099511627776
              ·
                rw [if_pos hc833] at hm
                obtain ⟨x834, h835, hm⟩ := bindS hm
                refine D_drawS ((g479, Cl 34 [.int .i64 (s32.From), .int .i64 (s32.To), .int .i64 (s32.Len)]) :: (g26, Cl 69 [.pointer (some ⟨g31, 0, none⟩)]) :: (g27, Cl 22 [.slice A3 (put l38 s32.To (x583 + 1)).length c4]) :: (g28, Cl 4 [.bool (x33)]) :: (g29, Cl 88 [.slice A8 (l39).length c9]) :: (g30, Cl 22 [.slice A13 (l40).length c14]) :: (g31, Cl 73 [.slice A18 (put l42 s32.To (x497 + s32.Len)).length c19, .slice A34 (l37).length c35, .slice A23 (l43).length c24]) :: (hs616 ++ (hs581 ++ (hs7 ++ (hs12 ++ (hs22 ++ R)))))) mixed ?_
                refine D_st (Base.Le.refl _) 0 rfl (by kernel_rfl) (by kernel_rfl) (by kernel_rfl) rfl (stB (st_load 3 rfl one4 rfl rfl) hc793) (.cons_cons _ (.cons_cons _ (.cons_cons _ (.cons_cons _ (.cons_cons _ (.cons_cons _ (.cons_cons _ (sub_app hs616 (sub_app hs581 (sub_app hs7 (sub_app hs12 (sub_app hs22 (.refl _))))))))))))) ?_
                refine D_st (Base.Le.refl _) 1 rfl (by kernel_rfl) (by kernel_rfl) (by kernel_rfl) rfl (st_move rfl) (.cons_cons _ (.cons_cons _ (.cons_cons _ (.cons_cons _ (.cons_cons _ (.cons_cons _ (.cons_cons _ (sub_app hs616 (sub_app hs581 (sub_app hs7 (sub_app hs12 (sub_app hs22 (.refl _))))))))))))) ?_
                refine D_yes (Base.Le.refl _) 2 45 rfl (by kernel_rfl) (by kernel_rfl) (by kernel_rfl) rfl rfl rfl rfl (st_load 1 rfl one69 rfl rfl) (.cons_cons _ (.cons_cons _ (.cons_cons _ (.cons_cons _ (.cons_cons _ (.cons_cons _ (.cons_cons _ (sub_app hs616 (sub_app hs581 (sub_app hs7 (sub_app hs12 (sub_app hs22 (.refl _))))))))))))) ?_
                refine D_yes (Base.Le.refl _) 3 45 rfl (by kernel_rfl) (by kernel_rfl) (by kernel_rfl) rfl rfl rfl rfl (st_nil rfl) (.cons_cons _ (.cons_cons _ (.cons_cons _ (.cons_cons _ (.cons_cons _ (.cons_cons _ (.cons_cons _ (sub_app hs616 (sub_app hs581 (sub_app hs7 (sub_app hs12 (sub_app hs22 (.refl _))))))))))))) ?_
                refine D_yes (Base.Le.refl _) 4 45 rfl (by kernel_rfl) (by kernel_rfl) (by kernel_rfl) rfl rfl rfl rfl (st_field rfl fld73_1) (.cons_cons _ (.cons_cons _ (.cons_cons _ (.cons_cons _ (.cons_cons _ (.cons_cons _ (.cons_cons _ (sub_app hs616 (sub_app hs581 (sub_app hs7 (sub_app hs12 (sub_app hs22 (.refl _))))))))))))) ?_
                refine D_yes (Base.Le.refl _) 5 45 rfl (by kernel_rfl) (by kernel_rfl) (by kernel_rfl) rfl rfl rfl rfl (st_load 6 rfl one22 rfl rfl) (.cons_cons _ (.cons_cons _ (.cons_cons _ (.cons_cons _ (.cons_cons _ (.cons_cons _ (.cons_cons _ (sub_app hs616 (sub_app hs581 (sub_app hs7 (sub_app hs12 (sub_app hs22 (.refl _))))))))))))) ?_
                refine D_yes (Base.Le.refl _) 6 45 rfl (by kernel_rfl) (by kernel_rfl) (by kernel_rfl) rfl rfl rfl rfl (st_field rfl fld34_1) (.cons_cons _ (.cons_cons _ (.cons_cons _ (.cons_cons _ (.cons_cons _ (.cons_cons _ (.cons_cons _ (sub_app hs616 (sub_app hs581 (sub_app hs7 (sub_app hs12 (sub_app hs22 (.refl _))))))))))))) ?_
                refine D_yes (Base.Le.refl _) 7 45 rfl (by kernel_rfl) (by kernel_rfl) (by kernel_rfl) rfl rfl rfl rfl (st_load 0 rfl one3 rfl rfl) (.cons_cons _ (.cons_cons _ (.cons_cons _ (.cons_cons _ (.cons_cons _ (.cons_cons _ (.cons_cons _ (sub_app hs616 (sub_app hs581 (sub_app hs7 (sub_app hs12 (sub_app hs22 (.refl _))))))))))))) ?_
                obtain ⟨j796, hj797, hx798⟩ := idx_some h795
                obtain ⟨cs799, hr800, hcs801, hA802, hlt803⟩ := FZ.get (sz := 1) rfl (by decide) h36 hx798
                obtain rfl := hr800
                refine D_yes (Base.Le.refl _) 8 45 rfl (by kernel_rfl) (by kernel_rfl) (by kernel_rfl) rfl rfl rfl rfl (st_index_old j796 rfl rfl hj797 hlt803 hA802 sl22) (.cons_cons _ (.cons_cons _ (.cons_cons _ (.cons_cons _ (.cons_cons _ (.cons_cons _ (.cons_cons _ (sub_app hs616 (sub_app hs581 (sub_app hs7 (sub_app hs12 (sub_app hs22 (.refl _))))))))))))) ?_
                refine D_yes (Base.Le.refl _) 9 45 rfl (by kernel_rfl) (by kernel_rfl) (by kernel_rfl) rfl rfl rfl rfl (st_load_old rfl one3 (hcs801 0 _ rfl)) (.cons_cons _ (.cons_cons _ (.cons_cons _ (.cons_cons _ (.cons_cons _ (.cons_cons _ (.cons_cons _ (sub_app hs616 (sub_app hs581 (sub_app hs7 (sub_app hs12 (sub_app hs22 (.refl _))))))))))))) ?_
                refine D_yes (Base.Le.refl _) 10 45 rfl (by kernel_rfl) (by kernel_rfl) (by kernel_rfl) rfl rfl rfl rfl (st_lss_f rfl rfl hc804) (.cons_cons _ (.cons_cons _ (.cons_cons _ (.cons_cons _ (.cons_cons _ (.cons_cons _ (.cons_cons _ (sub_app hs616 (sub_app hs581 (sub_app hs7 (sub_app hs12 (sub_app hs22 (.refl _))))))))))))) ?_
                refine D_yes (Base.Le.refl _) 11 45 rfl (by kernel_rfl) (by kernel_rfl) (by kernel_rfl) rfl rfl rfl rfl (st_move rfl) (.cons_cons _ (.cons_cons _ (.cons_cons _ (.cons_cons _ (.cons_cons _ (.cons_cons _ (.cons_cons _ (sub_app hs616 (sub_app hs581 (sub_app hs7 (sub_app hs12 (sub_app hs22 (.refl _))))))))))))) ?_
                refine D_yes (Base.Le.refl _) 12 55 rfl (by kernel_rfl) (by kernel_rfl) (by kernel_rfl) rfl rfl rfl rfl (st_move rfl) (.cons_cons _ (.cons_cons _ (.cons_cons _ (.cons_cons _ (.cons_cons _ (.cons_cons _ (.cons_cons _ (sub_app hs616 (sub_app hs581 (sub_app hs7 (sub_app hs12 (sub_app hs22 (.refl _))))))))))))) ?_
                refine D_yes (Base.Le.refl _) 13 55 rfl (by kernel_rfl) (by kernel_rfl) (by kernel_rfl) rfl rfl rfl rfl (st_load 1 rfl one69 rfl rfl) (.cons_cons _ (.cons_cons _ (.cons_cons _ (.cons_cons _ (.cons_cons _ (.cons_cons _ (.cons_cons _ (sub_app hs616 (sub_app hs581 (sub_app hs7 (sub_app hs12 (sub_app hs22 (.refl _))))))))))))) ?_
                refine D_yes (Base.Le.refl _) 14 55 rfl (by kernel_rfl) (by kernel_rfl) (by kernel_rfl) rfl rfl rfl rfl (st_nil rfl) (.cons_cons _ (.cons_cons _ (.cons_cons _ (.cons_cons _ (.cons_cons _ (.cons_cons _ (.cons_cons _ (sub_app hs616 (sub_app hs581 (sub_app hs7 (sub_app hs12 (sub_app hs22 (.refl _))))))))))))) ?_
                refine D_yes (Base.Le.refl _) 15 55 rfl (by kernel_rfl) (by kernel_rfl) (by kernel_rfl) rfl rfl rfl rfl (st_field rfl fld73_1) (.cons_cons _ (.cons_cons _ (.cons_cons _ (.cons_cons _ (.cons_cons _ (.cons_cons _ (.cons_cons _ (sub_app hs616 (sub_app hs581 (sub_app hs7 (sub_app hs12 (sub_app hs22 (.refl _))))))))))))) ?_
                refine D_yes (Base.Le.refl _) 16 55 rfl (by kernel_rfl) (by kernel_rfl) (by kernel_rfl) rfl rfl rfl rfl (st_load 6 rfl one22 rfl rfl) (.cons_cons _ (.cons_cons _ (.cons_cons _ (.cons_cons _ (.cons_cons _ (.cons_cons _ (.cons_cons _ (sub_app hs616 (sub_app hs581 (sub_app hs7 (sub_app hs12 (sub_app hs22 (.refl _))))))))))))) ?_
                refine D_yes (Base.Le.refl _) 17 55 rfl (by kernel_rfl) (by kernel_rfl) (by kernel_rfl) rfl rfl rfl rfl (st_field rfl fld34_1) (.cons_cons _ (.cons_cons _ (.cons_cons _ (.cons_cons _ (.cons_cons _ (.cons_cons _ (.cons_cons _ (sub_app hs616 (sub_app hs581 (sub_app hs7 (sub_app hs12 (sub_app hs22 (.refl _))))))))))))) ?_
                refine D_yes (Base.Le.refl _) 18 55 rfl (by kernel_rfl) (by kernel_rfl) (by kernel_rfl) rfl rfl rfl rfl (st_load 0 rfl one3 rfl rfl) (.cons_cons _ (.cons_cons _ (.cons_cons _ (.cons_cons _ (.cons_cons _ (.cons_cons _ (.cons_cons _ (sub_app hs616 (sub_app hs581 (sub_app hs7 (sub_app hs12 (sub_app hs22 (.refl _))))))))))))) ?_
                obtain ⟨j824, hj825, hx826⟩ := idx_some h823
                obtain ⟨cs827, hr828, hcs829, hA830, hlt831⟩ := FZ.get (sz := 1) rfl (by decide) h36 hx826
                obtain rfl := hr828
                refine D_yes (Base.Le.refl _) 19 55 rfl (by kernel_rfl) (by kernel_rfl) (by kernel_rfl) rfl rfl rfl rfl (st_index_old j824 rfl rfl hj825 hlt831 hA830 sl22) (.cons_cons _ (.cons_cons _ (.cons_cons _ (.cons_cons _ (.cons_cons _ (.cons_cons _ (.cons_cons _ (sub_app hs616 (sub_app hs581 (sub_app hs7 (sub_app hs12 (sub_app hs22 (.refl _))))))))))))) ?_
                refine D_yes (Base.Le.refl _) 20 55 rfl (by kernel_rfl) (by kernel_rfl) (by kernel_rfl) rfl rfl rfl rfl (st_load_old rfl one3 (hcs829 0 _ rfl)) (.cons_cons _ (.cons_cons _ (.cons_cons _ (.cons_cons _ (.cons_cons _ (.cons_cons _ (.cons_cons _ (sub_app hs616 (sub_app hs581 (sub_app hs7 (sub_app hs12 (sub_app hs22 (.refl _))))))))))))) ?_
                refine D_yes (Base.Le.refl _) 21 55 rfl (by kernel_rfl) (by kernel_rfl) (by kernel_rfl) rfl rfl rfl rfl (st_leq_t rfl rfl hc832) (.cons_cons _ (.cons_cons _ (.cons_cons _ (.cons_cons _ (.cons_cons _ (.cons_cons _ (.cons_cons _ (sub_app hs616 (sub_app hs581 (sub_app hs7 (sub_app hs12 (sub_app hs22 (.refl _))))))))))))) ?_
                refine D_yes (Base.Le.refl _) 22 45 rfl (by kernel_rfl) (by kernel_rfl) (by kernel_rfl) rfl rfl rfl rfl (st_pick_f rfl rfl) (.cons_cons _ (.cons_cons _ (.cons_cons _ (.cons_cons _ (.cons_cons _ (.cons_cons _ (.cons_cons _ (sub_app hs616 (sub_app hs581 (sub_app hs7 (sub_app hs12 (sub_app hs22 (.refl _))))))))))))) ?_
                refine D_st (Base.Le.refl _) 23 rfl (by kernel_rfl) (by kernel_rfl) (by kernel_rfl) rfl (st_pick_t rfl rfl) (.cons_cons _ (.cons_cons _ (.cons_cons _ (.cons_cons _ (.cons_cons _ (.cons_cons _ (.cons_cons _ (sub_app hs616 (sub_app hs581 (sub_app hs7 (sub_app hs12 (sub_app hs22 (.refl _))))))))))))) ?_
                refine D_st (Base.Le.refl _) 24 rfl (by kernel_rfl) (by kernel_rfl) (by kernel_rfl) rfl (st_move rfl) (.cons_cons _ (.cons_cons _ (.cons_cons _ (.cons_cons _ (.cons_cons _ (.cons_cons _ (.cons_cons _ (sub_app hs616 (sub_app hs581 (sub_app hs7 (sub_app hs12 (sub_app hs22 (.refl _))))))))))))) ?_
                refine D_yes (Base.Le.refl _) 25 68 rfl (by kernel_rfl) (by kernel_rfl) (by kernel_rfl) rfl rfl rfl rfl (st_move rfl) (.cons_cons _ (.cons_cons _ (.cons_cons _ (.cons_cons _ (.cons_cons _ (.cons_cons _ (.cons_cons _ (sub_app hs616 (sub_app hs581 (sub_app hs7 (sub_app hs12 (sub_app hs22 (.refl _))))))))))))) ?_
                refine D_yes (Base.Le.refl _) 26 68 rfl (by kernel_rfl) (by kernel_rfl) (by kernel_rfl) rfl rfl rfl rfl (st_leq_t rfl rfl hc833) (.cons_cons _ (.cons_cons _ (.cons_cons _ (.cons_cons _ (.cons_cons _ (.cons_cons _ (.cons_cons _ (sub_app hs616 (sub_app hs581 (sub_app hs7 (sub_app hs12 (sub_app hs22 (.refl _))))))))))))) ?_
                refine D_st (Base.Le.refl _) 27 rfl (by kernel_rfl) (by kernel_rfl) (by kernel_rfl) rfl (st_pick_t rfl rfl) (.cons_cons _ (.cons_cons _ (.cons_cons _ (.cons_cons _ (.cons_cons _ (.cons_cons _ (.cons_cons _ (sub_app hs616 (sub_app hs581 (sub_app hs7 (sub_app hs12 (sub_app hs22 (.refl _))))))))))))) ?_
                refine D_st (Base.Le.refl _) 28 rfl (by kernel_rfl) (by kernel_rfl) (by kernel_rfl) rfl (st_move rfl) (.cons_cons _ (.cons_cons _ (.cons_cons _ (.cons_cons _ (.cons_cons _ (.cons_cons _ (.cons_cons _ (sub_app hs616 (sub_app hs581 (sub_app hs7 (sub_app hs12 (sub_app hs22 (.refl _))))))))))))) ?_
                refine D_yes (Base.Le.refl _) 29 72 rfl (by kernel_rfl) (by kernel_rfl) (by kernel_rfl) rfl rfl rfl rfl (st_load 2 rfl one22 rfl rfl) (.cons_cons _ (.cons_cons _ (.cons_cons _ (.cons_cons _ (.cons_cons _ (.cons_cons _ (.cons_cons _ (sub_app hs616 (sub_app hs581 (sub_app hs7 (sub_app hs12 (sub_app hs22 (.refl _))))))))))))) ?_
                refine D_yes (Base.Le.refl _) 30 72 rfl (by kernel_rfl) (by kernel_rfl) (by kernel_rfl) rfl rfl rfl rfl (st_field rfl fld34_1) (.cons_cons _ (.cons_cons _ (.cons_cons _ (.cons_cons _ (.cons_cons _ (.cons_cons _ (.cons_cons _ (sub_app hs616 (sub_app hs581 (sub_app hs7 (sub_app hs12 (sub_app hs22 (.refl _))))))))))))) ?_
                refine D_yes (Base.Le.refl _) 31 72 rfl (by kernel_rfl) (by kernel_rfl) (by kernel_rfl) rfl rfl rfl rfl (st_load 0 rfl one3 rfl rfl) (.cons_cons _ (.cons_cons _ (.cons_cons _ (.cons_cons _ (.cons_cons _ (.cons_cons _ (.cons_cons _ (sub_app hs616 (sub_app hs581 (sub_app hs7 (sub_app hs12 (sub_app hs22 (.refl _))))))))))))) ?_
                obtain ⟨j836, hj837, hx838⟩ := idx_some h835
                obtain ⟨cs839, hs844, P845, P846, hq847, hr840, hcs841, hA842, hlt843, hb848, hho849⟩ := OS.get (sz := 1) rfl (by decide) h617 hx838
                obtain ⟨rfl, rfl⟩ := hr840
                refine D_yes (Base.Le.refl _) 32 72 rfl (by kernel_rfl) (by kernel_rfl) (by kernel_rfl) rfl rfl rfl rfl (st_index_old j836 rfl rfl hj837 hlt843 hA842 sl22) (.cons_cons _ (.cons_cons _ (.cons_cons _ (.cons_cons _ (.cons_cons _ (.cons_cons _ (.cons_cons _ (sub_app hs616 (sub_app hs581 (sub_app hs7 (sub_app hs12 (sub_app hs22 (.refl _))))))))))))) ?_
                refine D_yes (Base.Le.refl _) 33 72 rfl (by kernel_rfl) (by kernel_rfl) (by kernel_rfl) rfl rfl rfl rfl (st_load_rd rfl one3 (fun w ho => hcs841 w _ ho (.cons _ (.cons _ (.cons _ (.cons _ (.cons _ (.cons _ (.cons _ (List.sublist_append_left _ _)))))))) 0 _ rfl)) (.cons_cons _ (.cons_cons _ (.cons_cons _ (.cons_cons _ (.cons_cons _ (.cons_cons _ (.cons_cons _ (sub_app hs616 (sub_app hs581 (sub_app hs7 (sub_app hs12 (sub_app hs22 (.refl _))))))))))))) ?_
                refine D_yes (Base.Le.refl _) 34 72 rfl (by kernel_rfl) (by kernel_rfl) (by kernel_rfl) rfl rfl rfl rfl (st_leq rfl rfl) (.cons_cons _ (.cons_cons _ (.cons_cons _ (.cons_cons _ (.cons_cons _ (.cons_cons _ (.cons_cons _ (sub_app hs616 (sub_app hs581 (sub_app hs7 (sub_app hs12 (sub_app hs22 (.refl _))))))))))))) ?_
                refine D_st (Base.Le.refl _) 35 rfl (by kernel_rfl) (by kernel_rfl) (by kernel_rfl) rfl (st_pick_t rfl rfl) (.cons_cons _ (.cons_cons _ (.cons_cons _ (.cons_cons _ (.cons_cons _ (.cons_cons _ (.cons_cons _ (sub_app hs616 (sub_app hs581 (sub_app hs7 (sub_app hs12 (sub_app hs22 (.refl _))))))))))))) ?_
                refine D_all [36] (by kernel_rfl) rfl ?_
                refine R_do (Base.Le.refl _) rfl rfl (u_store 3 rfl rfl siz4 rfl rfl (by simp)) ?_ ?_
                ·
                  rintro _ _ rfl
                  refine ⟨.inl (by kernel_rfl), ?_⟩
                  refine D_done (by kernel_rfl) ?_
                  obtain rfl := some1 hm
                  refine x_pullb 6 rfl ?_
                  refine x_pullb 4 rfl ?_
                  refine x_pullb 4 rfl ?_
                  refine x_pullb 4 rfl ?_
                  refine x_pullb 4 rfl ?_
                  refine x_pullb 6 rfl ?_
                  refine x_pullb 6 rfl ?_
                  refine x_front5 [_, _, _, _, _, _, _] hs616 hs581 hs7 hs12 hs22 R rfl ?_
                  refine x_front3 [_, _, _, _, _, _, _] hs22 hs616 hs581 (hs7 ++ (hs12 ++ R)) rfl ?_
                  refine x_front5 [_, _, _, _, _, _, _] hs581 hs22 hs616 hs7 hs12 R rfl ?_
                  refine x_front5 [_, _, _, _, _, _, _] hs12 hs581 hs22 hs616 hs7 R rfl ?_
                  refine x_front5 [_, _, _, _, _, _, _] hs7 hs12 hs581 hs22 hs616 R rfl ?_
                  exact x_join (e' := [(4, .pointer (some ⟨g29, 0, none⟩)), (5, .pointer (some ⟨g30, 0, none⟩)), (6, .pointer (some ⟨g479, 0, none⟩))]) (hp' := (g29, Cl 88 [.slice A8 (l39).length c9]) :: (g30, Cl 22 [.slice A13 (l40).length c14]) :: (g479, Cl 34 [.int .i64 (s32.From), .int .i64 (s32.To), .int .i64 (s32.Len)]) :: (g26, Cl 69 [.pointer (some ⟨g31, 0, none⟩)]) :: (g27, Cl 22 [.slice A3 (put l38 s32.To (x583 + 1)).length c4]) :: (g28, Cl 4 [.bool (decide (x834 ≤ 65536))]) :: (g31, Cl 73 [.slice A18 (put l42 s32.To (x497 + s32.Len)).length c19, .slice A34 (l37).length c35, .slice A23 (l43).length c24]) :: (hs616 ++ (hs7 ++ (hs12 ++ (hs581 ++ (hs22 ++ R)))))) ⟨rfl, rfl, rfl, trivial⟩ (.cons_cons _ (.cons_cons _ (.cons_cons _ (.cons_cons _ (.cons_cons _ (.cons_cons _ (.cons_cons _ (sub_app hs616 (sub_app hs7 (sub_app hs12 (sub_app hs581 (sub_app hs22 (.refl _))))))))))))) ⟨rfl, rfl, (Base.Le.refl _)⟩
                exact R_nil
              ·
                rw [if_neg hc833] at hm
                refine D_drawS ((g479, Cl 34 [.int .i64 (s32.From), .int .i64 (s32.To), .int .i64 (s32.Len)]) :: (g26, Cl 69 [.pointer (some ⟨g31, 0, none⟩)]) :: (g27, Cl 22 [.slice A3 (put l38 s32.To (x583 + 1)).length c4]) :: (g28, Cl 4 [.bool (x33)]) :: (g29, Cl 88 [.slice A8 (l39).length c9]) :: (g30, Cl 22 [.slice A13 (l40).length c14]) :: (g31, Cl 73 [.slice A18 (put l42 s32.To (x497 + s32.Len)).length c19, .slice A34 (l37).length c35, .slice A23 (l43).length c24]) :: (hs616 ++ (hs581 ++ (hs7 ++ (hs12 ++ (hs22 ++ R)))))) mixed ?_
                refine D_st (Base.Le.refl _) 0 rfl (by kernel_rfl) (by kernel_rfl) (by kernel_rfl) rfl (stB (st_load 3 rfl one4 rfl rfl) hc793) (.cons_cons _ (.cons_cons _ (.cons_cons _ (.cons_cons _ (.cons_cons _ (.cons_cons _ (.cons_cons _ (sub_app hs616 (sub_app hs581 (sub_app hs7 (sub_app hs12 (sub_app hs22 (.refl _))))))))))))) ?_
                refine D_st (Base.Le.refl _) 1 rfl (by kernel_rfl) (by kernel_rfl) (by kernel_rfl) rfl (st_move rfl) (.cons_cons _ (.cons_cons _ (.cons_cons _ (.cons_cons _ (.cons_cons _ (.cons_cons _ (.cons_cons _ (sub_app hs616 (sub_app hs581 (sub_app hs7 (sub_app hs12 (sub_app hs22 (.refl _))))))))))))) ?_
                refine D_yes (Base.Le.refl _) 2 45 rfl (by kernel_rfl) (by kernel_rfl) (by kernel_rfl) rfl rfl rfl rfl (st_load 1 rfl one69 rfl rfl) (.cons_cons _ (.cons_cons _ (.cons_cons _ (.cons_cons _ (.cons_cons _ (.cons_cons _ (.cons_cons _ (sub_app hs616 (sub_app hs581 (sub_app hs7 (sub_app hs12 (sub_app hs22 (.refl _))))))))))))) ?_
                refine D_yes (Base.Le.refl _) 3 45 rfl (by kernel_rfl) (by kernel_rfl) (by kernel_rfl) rfl rfl rfl rfl (st_nil rfl) (.cons_cons _ (.cons_cons _ (.cons_cons _ (.cons_cons _ (.cons_cons _ (.cons_cons _ (.cons_cons _ (sub_app hs616 (sub_app hs581 (sub_app hs7 (sub_app hs12 (sub_app hs22 (.refl _))))))))))))) ?_
                refine D_yes (Base.Le.refl _) 4 45 rfl (by kernel_rfl) (by kernel_rfl) (by kernel_rfl) rfl rfl rfl rfl (st_field rfl fld73_1) (.cons_cons _ (.cons_cons _ (.cons_cons _ (.cons_cons _ (.cons_cons _ (.cons_cons _ (.cons_cons _ (sub_app hs616 (sub_app hs581 (sub_app hs7 (sub_app hs12 (sub_app hs22 (.refl _))))))))))))) ?_
                refine D_yes (Base.Le.refl _) 5 45 rfl (by kernel_rfl) (by kernel_rfl) (by kernel_rfl) rfl rfl rfl rfl (st_load 6 rfl one22 rfl rfl) (.cons_cons _ (.cons_cons _ (.cons_cons _ (.cons_cons _ (.cons_cons _ (.cons_cons _ (.cons_cons _ (sub_app hs616 (sub_app hs581 (sub_app hs7 (sub_app hs12 (sub_app hs22 (.refl _))))))))))))) ?_
                refine D_yes (Base.Le.refl _) 6 45 rfl (by kernel_rfl) (by kernel_rfl) (by kernel_rfl) rfl rfl rfl rfl (st_field rfl fld34_1) (.cons_cons _ (.cons_cons _ (.cons_cons _ (.cons_cons _ (.cons_cons _ (.cons_cons _ (.cons_cons _ (sub_app hs616 (sub_app hs581 (sub_app hs7 (sub_app hs12 (sub_app hs22 (.refl _))))))))))))) ?_
                refine D_yes (Base.Le.refl _) 7 45 rfl (by kernel_rfl) (by kernel_rfl) (by kernel_rfl) rfl rfl rfl rfl (st_load 0 rfl one3 rfl rfl) (.cons_cons _ (.cons_cons _ (.cons_cons _ (.cons_cons _ (.cons_cons _ (.cons_cons _ (.cons_cons _ (sub_app hs616 (sub_app hs581 (sub_app hs7 (sub_app hs12 (sub_app hs22 (.refl _))))))))))))) ?_
                obtain ⟨j796, hj797, hx798⟩ := idx_some h795
                obtain ⟨cs799, hr800, hcs801, hA802, hlt803⟩ := FZ.get (sz := 1) rfl (by decide) h36 hx798
                obtain rfl := hr800
                refine D_yes (Base.Le.refl _) 8 45 rfl (by kernel_rfl) (by kernel_rfl) (by kernel_rfl) rfl rfl rfl rfl (st_index_old j796 rfl rfl hj797 hlt803 hA802 sl22) (.cons_cons _ (.cons_cons _ (.cons_cons _ (.cons_cons _ (.cons_cons _ (.cons_cons _ (.cons_cons _ (sub_app hs616 (sub_app hs581 (sub_app hs7 (sub_app hs12 (sub_app hs22 (.refl _))))))))))))) ?_
                refine D_yes (Base.Le.refl _) 9 45 rfl (by kernel_rfl) (by kernel_rfl) (by kernel_rfl) rfl rfl rfl rfl (st_load_old rfl one3 (hcs801 0 _ rfl)) (.cons_cons _ (.cons_cons _ (.cons_cons _ (.cons_cons _ (.cons_cons _ (.cons_cons _ (.cons_cons _ (sub_app hs616 (sub_app hs581 (sub_app hs7 (sub_app hs12 (sub_app hs22 (.refl _))))))))))))) ?_
                refine D_yes (Base.Le.refl _) 10 45 rfl (by kernel_rfl) (by kernel_rfl) (by kernel_rfl) rfl rfl rfl rfl (st_lss_f rfl rfl hc804) (.cons_cons _ (.cons_cons _ (.cons_cons _ (.cons_cons _ (.cons_cons _ (.cons_cons _ (.cons_cons _ (sub_app hs616 (sub_app hs581 (sub_app hs7 (sub_app hs12 (sub_app hs22 (.refl _))))))))))))) ?_
                refine D_yes (Base.Le.refl _) 11 45 rfl (by kernel_rfl) (by kernel_rfl) (by kernel_rfl) rfl rfl rfl rfl (st_move rfl) (.cons_cons _ (.cons_cons _ (.cons_cons _ (.cons_cons _ (.cons_cons _ (.cons_cons _ (.cons_cons _ (sub_app hs616 (sub_app hs581 (sub_app hs7 (sub_app hs12 (sub_app hs22 (.refl _))))))))))))) ?_
                refine D_yes (Base.Le.refl _) 12 55 rfl (by kernel_rfl) (by kernel_rfl) (by kernel_rfl) rfl rfl rfl rfl (st_move rfl) (.cons_cons _ (.cons_cons _ (.cons_cons _ (.cons_cons _ (.cons_cons _ (.cons_cons _ (.cons_cons _ (sub_app hs616 (sub_app hs581 (sub_app hs7 (sub_app hs12 (sub_app hs22 (.refl _))))))))))))) ?_
                refine D_yes (Base.Le.refl _) 13 55 rfl (by kernel_rfl) (by kernel_rfl) (by kernel_rfl) rfl rfl rfl rfl (st_load 1 rfl one69 rfl rfl) (.cons_cons _ (.cons_cons _ (.cons_cons _ (.cons_cons _ (.cons_cons _ (.cons_cons _ (.cons_cons _ (sub_app hs616 (sub_app hs581 (sub_app hs7 (sub_app hs12 (sub_app hs22 (.refl _))))))))))))) ?_
                refine D_yes (Base.Le.refl _) 14 55 rfl (by kernel_rfl) (by kernel_rfl) (by kernel_rfl) rfl rfl rfl rfl (st_nil rfl) (.cons_cons _ (.cons_cons _ (.cons_cons _ (.cons_cons _ (.cons_cons _ (.cons_cons _ (.cons_cons _ (sub_app hs616 (sub_app hs581 (sub_app hs7 (sub_app hs12 (sub_app hs22 (.refl _))))))))))))) ?_
                refine D_yes (Base.Le.refl _) 15 55 rfl (by kernel_rfl) (by kernel_rfl) (by kernel_rfl) rfl rfl rfl rfl (st_field rfl fld73_1) (.cons_cons _ (.cons_cons _ (.cons_cons _ (.cons_cons _ (.cons_cons _ (.cons_cons _ (.cons_cons _ (sub_app hs616 (sub_app hs581 (sub_app hs7 (sub_app hs12 (sub_app hs22 (.refl _))))))))))))) ?_
                refine D_yes (Base.Le.refl _) 16 55 rfl (by kernel_rfl) (by kernel_rfl) (by kernel_rfl) rfl rfl rfl rfl (st_load 6 rfl one22 rfl rfl) (.cons_cons _ (.cons_cons _ (.cons_cons _ (.cons_cons _ (.cons_cons _ (.cons_cons _ (.cons_cons _ (sub_app hs616 (sub_app hs581 (sub_app hs7 (sub_app hs12 (sub_app hs22 (.refl _))))))))))))) ?_
                refine D_yes (Base.Le.refl _) 17 55 rfl (by kernel_rfl) (by kernel_rfl) (by kernel_rfl) rfl rfl rfl rfl (st_field rfl fld34_1) (.cons_cons _ (.cons_cons _ (.cons_cons _ (.cons_cons _ (.cons_cons _ (.cons_cons _ (.cons_cons _ (sub_app hs616 (sub_app hs581 (sub_app hs7 (sub_app hs12 (sub_app hs22 (.refl _))))))))))))) ?_
                refine D_yes (Base.Le.refl _) 18 55 rfl (by kernel_rfl) (by kernel_rfl) (by kernel_rfl) rfl rfl rfl rfl (st_load 0 rfl one3 rfl rfl) (.cons_cons _ (.cons_cons _ (.cons_cons _ (.cons_cons _ (.cons_cons _ (.cons_cons _ (.cons_cons _ (sub_app hs616 (sub_app hs581 (sub_app hs7 (sub_app hs12 (sub_app hs22 (.refl _))))))))))))) ?_
                obtain ⟨j824, hj825, hx826⟩ := idx_some h823
                obtain ⟨cs827, hr828, hcs829, hA830, hlt831⟩ := FZ.get (sz := 1) rfl (by decide) h36 hx826
                obtain rfl := hr828
                refine D_yes (Base.Le.refl _) 19 55 rfl (by kernel_rfl) (by kernel_rfl) (by kernel_rfl) rfl rfl rfl rfl (st_index_old j824 rfl rfl hj825 hlt831 hA830 sl22) (.cons_cons _ (.cons_cons _ (.cons_cons _ (.cons_cons _ (.cons_cons _ (.cons_cons _ (.cons_cons _ (sub_app hs616 (sub_app hs581 (sub_app hs7 (sub_app hs12 (sub_app hs22 (.refl _))))))))))))) ?_
                refine D_yes (Base.Le.refl _) 20 55 rfl (by kernel_rfl) (by kernel_rfl) (by kernel_rfl) rfl rfl rfl rfl (st_load_old rfl one3 (hcs829 0 _ rfl)) (.cons_cons _ (.cons_cons _ (.cons_cons _ (.cons_cons _ (.cons_cons _ (.cons_cons _ (.cons_cons _ (sub_app hs616 (sub_app hs581 (sub_app hs7 (sub_app hs12 (sub_app hs22 (.refl _))))))))))))) ?_
                refine D_yes (Base.Le.refl _) 21 55 rfl (by kernel_rfl) (by kernel_rfl) (by kernel_rfl) rfl rfl rfl rfl (st_leq_t rfl rfl hc832) (.cons_cons _ (.cons_cons _ (.cons_cons _ (.cons_cons _ (.cons_cons _ (.cons_cons _ (.cons_cons _ (sub_app hs616 (sub_app hs581 (sub_app hs7 (sub_app hs12 (sub_app hs22 (.refl _))))))))))))) ?_
                refine D_yes (Base.Le.refl _) 22 45 rfl (by kernel_rfl) (by kernel_rfl) (by kernel_rfl) rfl rfl rfl rfl (st_pick_f rfl rfl) (.cons_cons _ (.cons_cons _ (.cons_cons _ (.cons_cons _ (.cons_cons _ (.cons_cons _ (.cons_cons _ (sub_app hs616 (sub_app hs581 (sub_app hs7 (sub_app hs12 (sub_app hs22 (.refl _))))))))))))) ?_
                refine D_st (Base.Le.refl _) 23 rfl (by kernel_rfl) (by kernel_rfl) (by kernel_rfl) rfl (st_pick_t rfl rfl) (.cons_cons _ (.cons_cons _ (.cons_cons _ (.cons_cons _ (.cons_cons _ (.cons_cons _ (.cons_cons _ (sub_app hs616 (sub_app hs581 (sub_app hs7 (sub_app hs12 (sub_app hs22 (.refl _))))))))))))) ?_
                refine D_st (Base.Le.refl _) 24 rfl (by kernel_rfl) (by kernel_rfl) (by kernel_rfl) rfl (st_move rfl) (.cons_cons _ (.cons_cons _ (.cons_cons _ (.cons_cons _ (.cons_cons _ (.cons_cons _ (.cons_cons _ (sub_app hs616 (sub_app hs581 (sub_app hs7 (sub_app hs12 (sub_app hs22 (.refl _))))))))))))) ?_
                refine D_yes (Base.Le.refl _) 25 68 rfl (by kernel_rfl) (by kernel_rfl) (by kernel_rfl) rfl rfl rfl rfl (st_move rfl) (.cons_cons _ (.cons_cons _ (.cons_cons _ (.cons_cons _ (.cons_cons _ (.cons_cons _ (.cons_cons _ (sub_app hs616 (sub_app hs581 (sub_app hs7 (sub_app hs12 (sub_app hs22 (.refl _))))))))))))) ?_
                refine D_yes (Base.Le.refl _) 26 68 rfl (by kernel_rfl) (by kernel_rfl) (by kernel_rfl) rfl rfl rfl rfl (st_leq_f rfl rfl hc833) (.cons_cons _ (.cons_cons _ (.cons_cons _ (.cons_cons _ (.cons_cons _ (.cons_cons _ (.cons_cons _ (sub_app hs616 (sub_app hs581 (sub_app hs7 (sub_app hs12 (sub_app hs22 (.refl _))))))))))))) ?_
                refine D_st (Base.Le.refl _) 27 rfl (by kernel_rfl) (by kernel_rfl) (by kernel_rfl) rfl (st_pick_t rfl rfl) (.cons_cons _ (.cons_cons _ (.cons_cons _ (.cons_cons _ (.cons_cons _ (.cons_cons _ (.cons_cons _ (sub_app hs616 (sub_app hs581 (sub_app hs7 (sub_app hs12 (sub_app hs22 (.refl _))))))))))))) ?_
                refine D_st (Base.Le.refl _) 28 rfl (by kernel_rfl) (by kernel_rfl) (by kernel_rfl) rfl (st_move rfl) (.cons_cons _ (.cons_cons _ (.cons_cons _ (.cons_cons _ (.cons_cons _ (.cons_cons _ (.cons_cons _ (sub_app hs616 (sub_app hs581 (sub_app hs7 (sub_app hs12 (sub_app hs22 (.refl _))))))))))))) ?_
                refine D_no (Base.Le.refl _) 29 72 rfl (by kernel_rfl) (by kernel_rfl) (by kernel_rfl) rfl rfl rfl rfl rfl (.cons_cons _ (.cons_cons _ (.cons_cons _ (.cons_cons _ (.cons_cons _ (.cons_cons _ (.cons_cons _ (sub_app hs616 (sub_app hs581 (sub_app hs7 (sub_app hs12 (sub_app hs22 (.refl _))))))))))))) ?_
                refine D_no (Base.Le.refl _) 30 72 rfl (by kernel_rfl) (by kernel_rfl) (by kernel_rfl) rfl rfl rfl rfl rfl (.cons_cons _ (.cons_cons _ (.cons_cons _ (.cons_cons _ (.cons_cons _ (.cons_cons _ (.cons_cons _ (sub_app hs616 (sub_app hs581 (sub_app hs7 (sub_app hs12 (sub_app hs22 (.refl _))))))))))))) ?_
                refine D_no (Base.Le.refl _) 31 72 rfl (by kernel_rfl) (by kernel_rfl) (by kernel_rfl) rfl rfl rfl rfl rfl (.cons_cons _ (.cons_cons _ (.cons_cons _ (.cons_cons _ (.cons_cons _ (.cons_cons _ (.cons_cons _ (sub_app hs616 (sub_app hs581 (sub_app hs7 (sub_app hs12 (sub_app hs22 (.refl _))))))))))))) ?_
                refine D_no (Base.Le.refl _) 32 72 rfl (by kernel_rfl) (by kernel_rfl) (by kernel_rfl) rfl rfl rfl rfl rfl (.cons_cons _ (.cons_cons _ (.cons_cons _ (.cons_cons _ (.cons_cons _ (.cons_cons _ (.cons_cons _ (sub_app hs616 (sub_app hs581 (sub_app hs7 (sub_app hs12 (sub_app hs22 (.refl _))))))))))))) ?_
                refine D_no (Base.Le.refl _) 33 72 rfl (by kernel_rfl) (by kernel_rfl) (by kernel_rfl) rfl rfl rfl rfl rfl (.cons_cons _ (.cons_cons _ (.cons_cons _ (.cons_cons _ (.cons_cons _ (.cons_cons _ (.cons_cons _ (sub_app hs616 (sub_app hs581 (sub_app hs7 (sub_app hs12 (sub_app hs22 (.refl _))))))))))))) ?_
                refine D_no (Base.Le.refl _) 34 72 rfl (by kernel_rfl) (by kernel_rfl) (by kernel_rfl) rfl rfl rfl rfl rfl (.cons_cons _ (.cons_cons _ (.cons_cons _ (.cons_cons _ (.cons_cons _ (.cons_cons _ (.cons_cons _ (sub_app hs616 (sub_app hs581 (sub_app hs7 (sub_app hs12 (sub_app hs22 (.refl _))))))))))))) ?_
                refine D_st (Base.Le.refl _) 35 rfl (by kernel_rfl) (by kernel_rfl) (by kernel_rfl) rfl (st_pick_f rfl rfl) (.cons_cons _ (.cons_cons _ (.cons_cons _ (.cons_cons _ (.cons_cons _ (.cons_cons _ (.cons_cons _ (sub_app hs616 (sub_app hs581 (sub_app hs7 (sub_app hs12 (sub_app hs22 (.refl _))))))))))))) ?_
                refine D_all [36] (by kernel_rfl) rfl ?_
                refine R_do (Base.Le.refl _) rfl rfl (u_store 3 rfl rfl siz4 rfl rfl (by simp)) ?_ ?_
                ·
                  rintro _ _ rfl
                  refine ⟨.inl (by kernel_rfl), ?_⟩
                  refine D_done (by kernel_rfl) ?_
                  obtain rfl := some1 hm
                  refine x_pullb 6 rfl ?_
                  refine x_pullb 4 rfl ?_
                  refine x_pullb 4 rfl ?_
                  refine x_pullb 4 rfl ?_
                  refine x_pullb 4 rfl ?_
                  refine x_pullb 6 rfl ?_
                  refine x_pullb 6 rfl ?_
                  refine x_front5 [_, _, _, _, _, _, _] hs616 hs581 hs7 hs12 hs22 R rfl ?_
                  refine x_front3 [_, _, _, _, _, _, _] hs22 hs616 hs581 (hs7 ++ (hs12 ++ R)) rfl ?_
                  refine x_front5 [_, _, _, _, _, _, _] hs581 hs22 hs616 hs7 hs12 R rfl ?_
                  refine x_front5 [_, _, _, _, _, _, _] hs12 hs581 hs22 hs616 hs7 R rfl ?_
                  refine x_front5 [_, _, _, _, _, _, _] hs7 hs12 hs581 hs22 hs616 R rfl ?_
                  exact x_join (e' := [(4, .pointer (some ⟨g29, 0, none⟩)), (5, .pointer (some ⟨g30, 0, none⟩)), (6, .pointer (some ⟨g479, 0, none⟩))]) (hp' := (g29, Cl 88 [.slice A8 (l39).length c9]) :: (g30, Cl 22 [.slice A13 (l40).length c14]) :: (g479, Cl 34 [.int .i64 (s32.From), .int .i64 (s32.To), .int .i64 (s32.Len)]) :: (g26, Cl 69 [.pointer (some ⟨g31, 0, none⟩)]) :: (g27, Cl 22 [.slice A3 (put l38 s32.To (x583 + 1)).length c4]) :: (g28, Cl 4 [.bool (false)]) :: (g31, Cl 73 [.slice A18 (put l42 s32.To (x497 + s32.Len)).length c19, .slice A34 (l37).length c35, .slice A23 (l43).length c24]) :: (hs616 ++ (hs7 ++ (hs12 ++ (hs581 ++ (hs22 ++ R)))))) ⟨rfl, rfl, rfl, trivial⟩ (.cons_cons _ (.cons_cons _ (.cons_cons _ (.cons_cons _ (.cons_cons _ (.cons_cons _ (.cons_cons _ (sub_app hs616 (sub_app hs7 (sub_app hs12 (sub_app hs581 (sub_app hs22 (.refl _))))))))))))) ⟨rfl, rfl, (Base.Le.refl _)⟩
                exact R_nil
            ·
              rw [if_neg hc832] at hm
              refine D_drawS ((g479, Cl 34 [.int .i64 (s32.From), .int .i64 (s32.To), .int .i64 (s32.Len)]) :: (g26, Cl 69 [.pointer (some ⟨g31, 0, none⟩)]) :: (g27, Cl 22 [.slice A3 (put l38 s32.To (x583 + 1)).length c4]) :: (g28, Cl 4 [.bool (x33)]) :: (g29, Cl 88 [.slice A8 (l39).length c9]) :: (g30, Cl 22 [.slice A13 (l40).length c14]) :: (g31, Cl 73 [.slice A18 (put l42 s32.To (x497 + s32.Len)).length c19, .slice A34 (l37).length c35, .slice A23 (l43).length c24]) :: (hs616 ++ (hs581 ++ (hs7 ++ (hs12 ++ (hs22 ++ R)))))) mixed ?_
              refine D_st (Base.Le.refl _) 0 rfl (by kernel_rfl) (by kernel_rfl) (by kernel_rfl) rfl (stB (st_load 3 rfl one4 rfl rfl) hc793) (.cons_cons _ (.cons_cons _ (.cons_cons _ (.cons_cons _ (.cons_cons _ (.cons_cons _ (.cons_cons _ (sub_app hs616 (sub_app hs581 (sub_app hs7 (sub_app hs12 (sub_app hs22 (.refl _))))))))))))) ?_
              refine D_st (Base.Le.refl _) 1 rfl (by kernel_rfl) (by kernel_rfl) (by kernel_rfl) rfl (st_move rfl) (.cons_cons _ (.cons_cons _ (.cons_cons _ (.cons_cons _ (.cons_cons _ (.cons_cons _ (.cons_cons _ (sub_app hs616 (sub_app hs581 (sub_app hs7 (sub_app hs12 (sub_app hs22 (.refl _))))))))))))) ?_
              refine D_yes (Base.Le.refl _) 2 45 rfl (by kernel_rfl) (by kernel_rfl) (by kernel_rfl) rfl rfl rfl rfl (st_load 1 rfl one69 rfl rfl) (.cons_cons _ (.cons_cons _ (.cons_cons _ (.cons_cons _ (.cons_cons _ (.cons_cons _ (.cons_cons _ (sub_app hs616 (sub_app hs581 (sub_app hs7 (sub_app hs12 (sub_app hs22 (.refl _))))))))))))) ?_
              refine D_yes (Base.Le.refl _) 3 45 rfl (by kernel_rfl) (by kernel_rfl) (by kernel_rfl) rfl rfl rfl rfl (st_nil rfl) (.cons_cons _ (.cons_cons _ (.cons_cons _ (.cons_cons _ (.cons_cons _ (.cons_cons _ (.cons_cons _ (sub_app hs616 (sub_app hs581 (sub_app hs7 (sub_app hs12 (sub_app hs22 (.refl _))))))))))))) ?_
              refine D_yes (Base.Le.refl _) 4 45 rfl (by kernel_rfl) (by kernel_rfl) (by kernel_rfl) rfl rfl rfl rfl (st_field rfl fld73_1) (.cons_cons _ (.cons_cons _ (.cons_cons _ (.cons_cons _ (.cons_cons _ (.cons_cons _ (.cons_cons _ (sub_app hs616 (sub_app hs581 (sub_app hs7 (sub_app hs12 (sub_app hs22 (.refl _))))))))))))) ?_
              refine D_yes (Base.Le.refl _) 5 45 rfl (by kernel_rfl) (by kernel_rfl) (by kernel_rfl) rfl rfl rfl rfl (st_load 6 rfl one22 rfl rfl) (.cons_cons _ (.cons_cons _ (.cons_cons _ (.cons_cons _ (.cons_cons _ (.cons_cons _ (.cons_cons _ (sub_app hs616 (sub_app hs581 (sub_app hs7 (sub_app hs12 (sub_app hs22 (.refl _))))))))))))) ?_
              refine D_yes (Base.Le.refl _) 6 45 rfl (by kernel_rfl) (by kernel_rfl) (by kernel_rfl) rfl rfl rfl rfl (st_field rfl fld34_1) (.cons_cons _ (.cons_cons _ (.cons_cons _ (.cons_cons _ (.cons_cons _ (.cons_cons _ (.cons_cons _ (sub_app hs616 (sub_app hs581 (sub_app hs7 (sub_app hs12 (sub_app hs22 (.refl _))))))))))))) ?_
              refine D_yes (Base.Le.refl _) 7 45 rfl (by kernel_rfl) (by kernel_rfl) (by kernel_rfl) rfl rfl rfl rfl (st_load 0 rfl one3 rfl rfl) (.cons_cons _ (.cons_cons _ (.cons_cons _ (.cons_cons _ (.cons_cons _ (.cons_cons _ (.cons_cons _ (sub_app hs616 (sub_app hs581 (sub_app hs7 (sub_app hs12 (sub_app hs22 (.refl _))))))))))))) ?_
              obtain ⟨j796, hj797, hx798⟩ := idx_some h795
              obtain ⟨cs799, hr800, hcs801, hA802, hlt803⟩ := FZ.get (sz := 1) rfl (by decide) h36 hx798
              obtain rfl := hr800
              refine D_yes (Base.Le.refl _) 8 45 rfl (by kernel_rfl) (by kernel_rfl) (by kernel_rfl) rfl rfl rfl rfl (st_index_old j796 rfl rfl hj797 hlt803 hA802 sl22) (.cons_cons _ (.cons_cons _ (.cons_cons _ (.cons_cons _ (.cons_cons _ (.cons_cons _ (.cons_cons _ (sub_app hs616 (sub_app hs581 (sub_app hs7 (sub_app hs12 (sub_app hs22 (.refl _))))))))))))) ?_
              refine D_yes (Base.Le.refl _) 9 45 rfl (by kernel_rfl) (by kernel_rfl) (by kernel_rfl) rfl rfl rfl rfl (st_load_old rfl one3 (hcs801 0 _ rfl)) (.cons_cons _ (.cons_cons _ (.cons_cons _ (.cons_cons _ (.cons_cons _ (.cons_cons _ (.cons_cons _ (sub_app hs616 (sub_app hs581 (sub_app hs7 (sub_app hs12 (sub_app hs22 (.refl _))))))))))))) ?_
              refine D_yes (Base.Le.refl _) 10 45 rfl (by kernel_rfl) (by kernel_rfl) (by kernel_rfl) rfl rfl rfl rfl (st_lss_f rfl rfl hc804) (.cons_cons _ (.cons_cons _ (.cons_cons _ (.cons_cons _ (.cons_cons _ (.cons_cons _ (.cons_cons _ (sub_app hs616 (sub_app hs581 (sub_app hs7 (sub_app hs12 (sub_app hs22 (.refl _))))))))))))) ?_
              refine D_yes (Base.Le.refl _) 11 45 rfl (by kernel_rfl) (by kernel_rfl) (by kernel_rfl) rfl rfl rfl rfl (st_move rfl) (.cons_cons _ (.cons_cons _ (.cons_cons _ (.cons_cons _ (.cons_cons _ (.cons_cons _ (.cons_cons _ (sub_app hs616 (sub_app hs581 (sub_app hs7 (sub_app hs12 (sub_app hs22 (.refl _))))))))))))) ?_
              refine D_yes (Base.Le.refl _) 12 55 rfl (by kernel_rfl) (by kernel_rfl) (by kernel_rfl) rfl rfl rfl rfl (st_move rfl) (.cons_cons _ (.cons_cons _ (.cons_cons _ (.cons_cons _ (.cons_cons _ (.cons_cons _ (.cons_cons _ (sub_app hs616 (sub_app hs581 (sub_app hs7 (sub_app hs12 (sub_app hs22 (.refl _))))))))))))) ?_
              refine D_yes (Base.Le.refl _) 13 55 rfl (by kernel_rfl) (by kernel_rfl) (by kernel_rfl) rfl rfl rfl rfl (st_load 1 rfl one69 rfl rfl) (.cons_cons _ (.cons_cons _ (.cons_cons _ (.cons_cons _ (.cons_cons _ (.cons_cons _ (.cons_cons _ (sub_app hs616 (sub_app hs581 (sub_app hs7 (sub_app hs12 (sub_app hs22 (.refl _))))))))))))) ?_
              refine D_yes (Base.Le.refl _) 14 55 rfl (by kernel_rfl) (by kernel_rfl) (by kernel_rfl) rfl rfl rfl rfl (st_nil rfl) (.cons_cons _ (.cons_cons _ (.cons_cons _ (.cons_cons _ (.cons_cons _ (.cons_cons _ (.cons_cons _ (sub_app hs616 (sub_app hs581 (sub_app hs7 (sub_app hs12 (sub_app hs22 (.refl _))))))))))))) ?_
              refine D_yes (Base.Le.refl _) 15 55 rfl (by kernel_rfl) (by kernel_rfl) (by kernel_rfl) rfl rfl rfl rfl (st_field rfl fld73_1) (.cons_cons _ (.cons_cons _ (.cons_cons _ (.cons_cons _ (.cons_cons _ (.cons_cons _ (.cons_cons _ (sub_app hs616 (sub_app hs581 (sub_app hs7 (sub_app hs12 (sub_app hs22 (.refl _))))))))))))) ?_
              refine D_yes (Base.Le.refl _) 16 55 rfl (by kernel_rfl) (by kernel_rfl) (by kernel_rfl) rfl rfl rfl rfl (st_load 6 rfl one22 rfl rfl) (.cons_cons _ (.cons_cons _ (.cons_cons _ (.cons_cons _ (.cons_cons _ (.cons_cons _ (.cons_cons _ (sub_app hs616 (sub_app hs581 (sub_app hs7 (sub_app hs12 (sub_app hs22 (.refl _))))))))))))) ?_
              refine D_yes (Base.Le.refl _) 17 55 rfl (by kernel_rfl) (by kernel_rfl) (by kernel_rfl) rfl rfl rfl rfl (st_field rfl fld34_1) (.cons_cons _ (.cons_cons _ (.cons_cons _ (.cons_cons _ (.cons_cons _ (.cons_cons _ (.cons_cons _ (sub_app hs616 (sub_app hs581 (sub_app hs7 (sub_app hs12 (sub_app hs22 (.refl _))))))))))))) ?_
              refine D_yes (Base.Le.refl _) 18 55 rfl (by kernel_rfl) (by kernel_rfl) (by kernel_rfl) rfl rfl rfl rfl (st_load 0 rfl one3 rfl rfl) (.cons_cons _ (.cons_cons _ (.cons_cons _ (.cons_cons _ (.cons_cons _ (.cons_cons _ (.cons_cons _ (sub_app hs616 (sub_app hs581 (sub_app hs7 (sub_app hs12 (sub_app hs22 (.refl _))))))))))))) ?_
              obtain ⟨j824, hj825, hx826⟩ := idx_some h823
              obtain ⟨cs827, hr828, hcs829, hA830, hlt831⟩ := FZ.get (sz := 1) rfl (by decide) h36 hx826
              obtain rfl := hr828
              refine D_yes (Base.Le.refl _) 19 55 rfl (by kernel_rfl) (by kernel_rfl) (by kernel_rfl) rfl rfl rfl rfl (st_index_old j824 rfl rfl hj825 hlt831 hA830 sl22) (.cons_cons _ (.cons_cons _ (.cons_cons _ (.cons_cons _ (.cons_cons _ (.cons_cons _ (.cons_cons _ (sub_app hs616 (sub_app hs581 (sub_app hs7 (sub_app hs12 (sub_app hs22 (.refl _))))))))))))) ?_
              refine D_yes (Base.Le.refl _) 20 55 rfl (by kernel_rfl) (by kernel_rfl) (by kernel_rfl) rfl rfl rfl rfl (st_load_old rfl one3 (hcs829 0 _ rfl)) (.cons_cons _ (.cons_cons _ (.cons_cons _ (.cons_cons _ (.cons_cons _ (.cons_cons _ (.cons_cons _ (sub_app hs616 (sub_app hs581 (sub_app hs7 (sub_app hs12 (sub_app hs22 (.refl _))))))))))))) ?_
              refine D_yes (Base.Le.refl _) 21 55 rfl (by kernel_rfl) (by kernel_rfl) (by kernel_rfl) rfl rfl rfl rfl (st_leq_f rfl rfl hc832) (.cons_cons _ (.cons_cons _ (.cons_cons _ (.cons_cons _ (.cons_cons _ (.cons_cons _ (.cons_cons _ (sub_app hs616 (sub_app hs581 (sub_app hs7 (sub_app hs12 (sub_app hs22 (.refl _))))))))))))) ?_
              refine D_yes (Base.Le.refl _) 22 45 rfl (by kernel_rfl) (by kernel_rfl) (by kernel_rfl) rfl rfl rfl rfl (st_pick_f rfl rfl) (.cons_cons _ (.cons_cons _ (.cons_cons _ (.cons_cons _ (.cons_cons _ (.cons_cons _ (.cons_cons _ (sub_app hs616 (sub_app hs581 (sub_app hs7 (sub_app hs12 (sub_app hs22 (.refl _))))))))))))) ?_
              refine D_st (Base.Le.refl _) 23 rfl (by kernel_rfl) (by kernel_rfl) (by kernel_rfl) rfl (st_pick_t rfl rfl) (.cons_cons _ (.cons_cons _ (.cons_cons _ (.cons_cons _ (.cons_cons _ (.cons_cons _ (.cons_cons _ (sub_app hs616 (sub_app hs581 (sub_app hs7 (sub_app hs12 (sub_app hs22 (.refl _))))))))))))) ?_
              refine D_st (Base.Le.refl _) 24 rfl (by kernel_rfl) (by kernel_rfl) (by kernel_rfl) rfl (st_move rfl) (.cons_cons _ (.cons_cons _ (.cons_cons _ (.cons_cons _ (.cons_cons _ (.cons_cons _ (.cons_cons _ (sub_app hs616 (sub_app hs581 (sub_app hs7 (sub_app hs12 (sub_app hs22 (.refl _))))))))))))) ?_
              refine D_no (Base.Le.refl _) 25 68 rfl (by kernel_rfl) (by kernel_rfl) (by kernel_rfl) rfl rfl rfl rfl rfl (.cons_cons _ (.cons_cons _ (.cons_cons _ (.cons_cons _ (.cons_cons _ (.cons_cons _ (.cons_cons _ (sub_app hs616 (sub_app hs581 (sub_app hs7 (sub_app hs12 (sub_app hs22 (.refl _))))))))))))) ?_
              refine D_no (Base.Le.refl _) 26 68 rfl (by kernel_rfl) (by kernel_rfl) (by kernel_rfl) rfl rfl rfl rfl rfl (.cons_cons _ (.cons_cons _ (.cons_cons _ (.cons_cons _ (.cons_cons _ (.cons_cons _ (.cons_cons _ (sub_app hs616 (sub_app hs581 (sub_app hs7 (sub_app hs12 (sub_app hs22 (.refl _))))))))))))) ?_
              refine D_st (Base.Le.refl _) 27 rfl (by kernel_rfl) (by kernel_rfl) (by kernel_rfl) rfl (st_pick_f rfl rfl) (.cons_cons _ (.cons_cons _ (.cons_cons _ (.cons_cons _ (.cons_cons _ (.cons_cons _ (.cons_cons _ (sub_app hs616 (sub_app hs581 (sub_app hs7 (sub_app hs12 (sub_app hs22 (.refl _))))))))))))) ?_
              refine D_st (Base.Le.refl _) 28 rfl (by kernel_rfl) (by kernel_rfl) (by kernel_rfl) rfl (st_move rfl) (.cons_cons _ (.cons_cons _ (.cons_cons _ (.cons_cons _ (.cons_cons _ (.cons_cons _ (.cons_cons _ (sub_app hs616 (sub_app hs581 (sub_app hs7 (sub_app hs12 (sub_app hs22 (.refl _))))))))))))) ?_
              refine D_no (Base.Le.refl _) 29 72 rfl (by kernel_rfl) (by kernel_rfl) (by kernel_rfl) rfl rfl rfl rfl rfl (.cons_cons _ (.cons_cons _ (.cons_cons _ (.cons_cons _ (.cons_cons _ (.cons_cons _ (.cons_cons _ (sub_app hs616 (sub_app hs581 (sub_app hs7 (sub_app hs12 (sub_app hs22 (.refl _))))))))))))) ?_
              refine D_no (Base.Le.refl _) 30 72 rfl (by kernel_rfl) (by kernel_rfl) (by kernel_rfl) rfl rfl rfl rfl rfl (.cons_cons _ (.cons_cons _ (.cons_cons _ (.cons_cons _ (.cons_cons _ (.cons_cons _ (.cons_cons _ (sub_app hs616 (sub_app hs581 (sub_app hs7 (sub_app hs12 (sub_app hs22 (.refl _))))))))))))) ?_
              refine D_no (Base.Le.refl _) 31 72 rfl (by kernel_rfl) (by kernel_rfl) (by kernel_rfl) rfl rfl rfl rfl rfl (.cons_cons _ (.cons_cons _ (.cons_cons _ (.cons_cons _ (.cons_cons _ (.cons_cons _ (.cons_cons _ (sub_app hs616 (sub_app hs581 (sub_app hs7 (sub_app hs12 (sub_app hs22 (.refl _))))))))))))) ?_
              refine D_no (Base.Le.refl _) 32 72 rfl (by kernel_rfl) (by kernel_rfl) (by kernel_rfl) rfl rfl rfl rfl rfl (.cons_cons _ (.cons_cons _ (.cons_cons _ (.cons_cons _ (.cons_cons _ (.cons_cons _ (.cons_cons _ (sub_app hs616 (sub_app hs581 (sub_app hs7 (sub_app hs12 (sub_app hs22 (.refl _))))))))))))) ?_
              refine D_no (Base.Le.refl _) 33 72 rfl (by kernel_rfl) (by kernel_rfl) (by kernel_rfl) rfl rfl rfl rfl rfl (.cons_cons _ (.cons_cons _ (.cons_cons _ (.cons_cons _ (.cons_cons _ (.cons_cons _ (.cons_cons _ (sub_app hs616 (sub_app hs581 (sub_app hs7 (sub_app hs12 (sub_app hs22 (.refl _))))))))))))) ?_
              refine D_no (Base.Le.refl _) 34 72 rfl (by kernel_rfl) (by kernel_rfl) (by kernel_rfl) rfl rfl rfl rfl rfl (.cons_cons _ (.cons_cons _ (.cons_cons _ (.cons_cons _ (.cons_cons _ (.cons_cons _ (.cons_cons _ (sub_app hs616 (sub_app hs581 (sub_app hs7 (sub_app hs12 (sub_app hs22 (.refl _))))))))))))) ?_
              refine D_st (Base.Le.refl _) 35 rfl (by kernel_rfl) (by kernel_rfl) (by kernel_rfl) rfl (st_pick_f rfl rfl) (.cons_cons _ (.cons_cons _ (.cons_cons _ (.cons_cons _ (.cons_cons _ (.cons_cons _ (.cons_cons _ (sub_app hs616 (sub_app hs581 (sub_app hs7 (sub_app hs12 (sub_app hs22 (.refl _))))))))))))) ?_
              refine D_all [36] (by kernel_rfl) rfl ?_
              refine R_do (Base.Le.refl _) rfl rfl (u_store 3 rfl rfl siz4 rfl rfl (by simp)) ?_ ?_
              ·
                rintro _ _ rfl
                refine ⟨.inl (by kernel_rfl), ?_⟩
                refine D_done (by kernel_rfl) ?_
                obtain rfl := some1 hm
                refine x_pullb 6 rfl ?_
                refine x_pullb 4 rfl ?_
                refine x_pullb 4 rfl ?_
                refine x_pullb 4 rfl ?_
                refine x_pullb 4 rfl ?_
                refine x_pullb 6 rfl ?_
                refine x_pullb 6 rfl ?_
                refine x_front5 [_, _, _, _, _, _, _] hs616 hs581 hs7 hs12 hs22 R rfl ?_
                refine x_front3 [_, _, _, _, _, _, _] hs22 hs616 hs581 (hs7 ++ (hs12 ++ R)) rfl ?_
                refine x_front5 [_, _, _, _, _, _, _] hs581 hs22 hs616 hs7 hs12 R rfl ?_
                refine x_front5 [_, _, _, _, _, _, _] hs12 hs581 hs22 hs616 hs7 R rfl ?_
                refine x_front5 [_, _, _, _, _, _, _] hs7 hs12 hs581 hs22 hs616 R rfl ?_
                exact x_join (e' := [(4, .pointer (some ⟨g29, 0, none⟩)), (5, .pointer (some ⟨g30, 0, none⟩)), (6, .pointer (some ⟨g479, 0, none⟩))]) (hp' := (g29, Cl 88 [.slice A8 (l39).length c9]) :: (g30, Cl 22 [.slice A13 (l40).length c14]) :: (g479, Cl 34 [.int .i64 (s32.From), .int .i64 (s32.To), .int .i64 (s32.Len)]) :: (g26, Cl 69 [.pointer (some ⟨g31, 0, none⟩)]) :: (g27, Cl 22 [.slice A3 (put l38 s32.To (x583 + 1)).length c4]) :: (g28, Cl 4 [.bool (false)]) :: (g31, Cl 73 [.slice A18 (put l42 s32.To (x497 + s32.Len)).length c19, .slice A34 (l37).length c35, .slice A23 (l43).length c24]) :: (hs616 ++ (hs7 ++ (hs12 ++ (hs581 ++ (hs22 ++ R)))))) ⟨rfl, rfl, rfl, trivial⟩ (.cons_cons _ (.cons_cons _ (.cons_cons _ (.cons_cons _ (.cons_cons _ (.cons_cons _ (.cons_cons _ (sub_app hs616 (sub_app hs7 (sub_app hs12 (sub_app hs581 (sub_app hs22 (.refl _))))))))))))) ⟨rfl, rfl, (Base.Le.refl _)⟩
              exact R_nil
        ·
          rw [if_neg (fun hh => Bool.noConfusion (hh.symm.trans hc793))] at hm
          refine D_drawS ((g479, Cl 34 [.int .i64 (s32.From), .int .i64 (s32.To), .int .i64 (s32.Len)]) :: (g26, Cl 69 [.pointer (some ⟨g31, 0, none⟩)]) :: (g27, Cl 22 [.slice A3 (put l38 s32.To (x583 + 1)).length c4]) :: (g28, Cl 4 [.bool (x33)]) :: (g29, Cl 88 [.slice A8 (l39).length c9]) :: (g30, Cl 22 [.slice A13 (l40).length c14]) :: (g31, Cl 73 [.slice A18 (put l42 s32.To (x497 + s32.Len)).length c19, .slice A34 (l37).length c35, .slice A23 (l43).length c24]) :: (hs616 ++ (hs581 ++ (hs7 ++ (hs12 ++ (hs22 ++ R)))))) mixed ?_
          refine D_st (Base.Le.refl _) 0 rfl (by kernel_rfl) (by kernel_rfl) (by kernel_rfl) rfl (stB (st_load 3 rfl one4 rfl rfl) hc793) (.cons_cons _ (.cons_cons _ (.cons_cons _ (.cons_cons _ (.cons_cons _ (.cons_cons _ (.cons_cons _ (sub_app hs616 (sub_app hs581 (sub_app hs7 (sub_app hs12 (sub_app hs22 (.refl _))))))))))))) ?_
          refine D_st (Base.Le.refl _) 1 rfl (by kernel_rfl) (by kernel_rfl) (by kernel_rfl) rfl (st_move rfl) (.cons_cons _ (.cons_cons _ (.cons_cons _ (.cons_cons _ (.cons_cons _ (.cons_cons _ (.cons_cons _ (sub_app hs616 (sub_app hs581 (sub_app hs7 (sub_app hs12 (sub_app hs22 (.refl _))))))))))))) ?_
          refine D_no (Base.Le.refl _) 2 45 rfl (by kernel_rfl) (by kernel_rfl) (by kernel_rfl) rfl rfl rfl rfl rfl (.cons_cons _ (.cons_cons _ (.cons_cons _ (.cons_cons _ (.cons_cons _ (.cons_cons _ (.cons_cons _ (sub_app hs616 (sub_app hs581 (sub_app hs7 (sub_app hs12 (sub_app hs22 (.refl _))))))))))))) ?_
          refine D_no (Base.Le.refl _) 3 45 rfl (by kernel_rfl) (by kernel_rfl) (by kernel_rfl) rfl rfl rfl rfl rfl (.cons_cons _ (.cons_cons _ (.cons_cons _ (.cons_cons _ (.cons_cons _ (.cons_cons _ (.cons_cons _ (sub_app hs616 (sub_app hs581 (sub_app hs7 (sub_app hs12 (sub_app hs22 (.refl _))))))))))))) ?_
          refine D_no (Base.Le.refl _) 4 45 rfl (by kernel_rfl) (by kernel_rfl) (by kernel_rfl) rfl rfl rfl rfl rfl (.cons_cons _ (.cons_cons _ (.cons_cons _ (.cons_cons _ (.cons_cons _ (.cons_cons _ (.cons_cons _ (sub_app hs616 (sub_app hs581 (sub_app hs7 (sub_app hs12 (sub_app hs22 (.refl _))))))))))))) ?_
          refine D_no (Base.Le.refl _) 5 45 rfl (by kernel_rfl) (by kernel_rfl) (by kernel_rfl) rfl rfl rfl rfl rfl (.cons_cons _ (.cons_cons _ (.cons_cons _ (.cons_cons _ (.cons_cons _ (.cons_cons _ (.cons_cons _ (sub_app hs616 (sub_app hs581 (sub_app hs7 (sub_app hs12 (sub_app hs22 (.refl _))))))))))))) ?_
          refine D_no (Base.Le.refl _) 6 45 rfl (by kernel_rfl) (by kernel_rfl) (by kernel_rfl) rfl rfl rfl rfl rfl (.cons_cons _ (.cons_cons _ (.cons_cons _ (.cons_cons _ (.cons_cons _ (.cons_cons _ (.cons_cons _ (sub_app hs616 (sub_app hs581 (sub_app hs7 (sub_app hs12 (sub_app hs22 (.refl _))))))))))))) ?_
          refine D_no (Base.Le.refl _) 7 45 rfl (by kernel_rfl) (by kernel_rfl) (by kernel_rfl) rfl rfl rfl rfl rfl (.cons_cons _ (.cons_cons _ (.cons_cons _ (.cons_cons _ (.cons_cons _ (.cons_cons _ (.cons_cons _ (sub_app hs616 (sub_app hs581 (sub_app hs7 (sub_app hs12 (sub_app hs22 (.refl _))))))))))))) ?_
          refine D_no (Base.Le.refl _) 8 45 rfl (by kernel_rfl) (by kernel_rfl) (by kernel_rfl) rfl rfl rfl rfl rfl (.cons_cons _ (.cons_cons _ (.cons_cons _ (.cons_cons _ (.cons_cons _ (.cons_cons _ (.cons_cons _ (sub_app hs616 (sub_app hs581 (sub_app hs7 (sub_app hs12 (sub_app hs22 (.refl _))))))))))))) ?_
          refine D_no (Base.Le.refl _) 9 45 rfl (by kernel_rfl) (by kernel_rfl) (by kernel_rfl) rfl rfl rfl rfl rfl (.cons_cons _ (.cons_cons _ (.cons_cons _ (.cons_cons _ (.cons_cons _ (.cons_cons _ (.cons_cons _ (sub_app hs616 (sub_app hs581 (sub_app hs7 (sub_app hs12 (sub_app hs22 (.refl _))))))))))))) ?_
          refine D_no (Base.Le.refl _) 10 45 rfl (by kernel_rfl) (by kernel_rfl) (by kernel_rfl) rfl rfl rfl rfl rfl (.cons_cons _ (.cons_cons _ (.cons_cons _ (.cons_cons _ (.cons_cons _ (.cons_cons _ (.cons_cons _ (sub_app hs616 (sub_app hs581 (sub_app hs7 (sub_app hs12 (sub_app hs22 (.refl _))))))))))))) ?_
          refine D_no (Base.Le.refl _) 11 45 rfl (by kernel_rfl) (by kernel_rfl) (by kernel_rfl) rfl rfl rfl rfl rfl (.cons_cons _ (.cons_cons _ (.cons_cons _ (.cons_cons _ (.cons_cons _ (.cons_cons _ (.cons_cons _ (sub_app hs616 (sub_app hs581 (sub_app hs7 (sub_app hs12 (sub_app hs22 (.refl _))))))))))))) ?_
          refine D_no (Base.Le.refl _) 12 55 rfl (by kernel_rfl) (by kernel_rfl) (by kernel_rfl) rfl rfl rfl rfl rfl (.cons_cons _ (.cons_cons _ (.cons_cons _ (.cons_cons _ (.cons_cons _ (.cons_cons _ (.cons_cons _ (sub_app hs616 (sub_app hs581 (sub_app hs7 (sub_app hs12 (sub_app hs22 (.refl _))))))))))))) ?_
          refine D_no (Base.Le.refl _) 13 55 rfl (by kernel_rfl) (by kernel_rfl) (by kernel_rfl) rfl rfl rfl rfl rfl (.cons_cons _ (.cons_cons _ (.cons_cons _ (.cons_cons _ (.cons_cons _ (.cons_cons _ (.cons_cons _ (sub_app hs616 (sub_app hs581 (sub_app hs7 (sub_app hs12 (sub_app hs22 (.refl _))))))))))))) ?_
          refine D_no (Base.Le.refl _) 14 55 rfl (by kernel_rfl) (by kernel_rfl) (by kernel_rfl) rfl rfl rfl rfl rfl (.cons_cons _ (.cons_cons _ (.cons_cons _ (.cons_cons _ (.cons_cons _ (.cons_cons _ (.cons_cons _ (sub_app hs616 (sub_app hs581 (sub_app hs7 (sub_app hs12 (sub_app hs22 (.refl _))))))))))))) ?_
          refine D_no (Base.Le.refl _) 15 55 rfl (by kernel_rfl) (by kernel_rfl) (by kernel_rfl) rfl rfl rfl rfl rfl (.cons_cons _ (.cons_cons _ (.cons_cons _ (.cons_cons _ (.cons_cons _ (.cons_cons _ (.cons_cons _ (sub_app hs616 (sub_app hs581 (sub_app hs7 (sub_app hs12 (sub_app hs22 (.refl _))))))))))))) ?_
          refine D_no (Base.Le.refl _) 16 55 rfl (by kernel_rfl) (by kernel_rfl) (by kernel_rfl) rfl rfl rfl rfl rfl (.cons_cons _ (.cons_cons _ (.cons_cons _ (.cons_cons _ (.cons_cons _ (.cons_cons _ (.cons_cons _ (sub_app hs616 (sub_app hs581 (sub_app hs7 (sub_app hs12 (sub_app hs22 (.refl _))))))))))))) ?_
          refine D_no (Base.Le.refl _) 17 55 rfl (by kernel_rfl) (by kernel_rfl) (by kernel_rfl) rfl rfl rfl rfl rfl (.cons_cons _ (.cons_cons _ (.cons_cons _ (.cons_cons _ (.cons_cons _ (.cons_cons _ (.cons_cons _ (sub_app hs616 (sub_app hs581 (sub_app hs7 (sub_app hs12 (sub_app hs22 (.refl _))))))))))))) ?_
          refine D_no (Base.Le.refl _) 18 55 rfl (by kernel_rfl) (by kernel_rfl) (by kernel_rfl) rfl rfl rfl rfl rfl (.cons_cons _ (.cons_cons _ (.cons_cons _ (.cons_cons _ (.cons_cons _ (.cons_cons _ (.cons_cons _ (sub_app hs616 (sub_app hs581 (sub_app hs7 (sub_app hs12 (sub_app hs22 (.refl _))))))))))))) ?_
          refine D_no (Base.Le.refl _) 19 55 rfl (by kernel_rfl) (by kernel_rfl) (by kernel_rfl) rfl rfl rfl rfl rfl (.cons_cons _ (.cons_cons _ (.cons_cons _ (.cons_cons _ (.cons_cons _ (.cons_cons _ (.cons_cons _ (sub_app hs616 (sub_app hs581 (sub_app hs7 (sub_app hs12 (sub_app hs22 (.refl _))))))))))))) ?_
          refine D_no (Base.Le.refl _) 20 55 rfl (by kernel_rfl) (by kernel_rfl) (by kernel_rfl) rfl rfl rfl rfl rfl (.cons_cons _ (.cons_cons _ (.cons_cons _ (.cons_cons _ (.cons_cons _ (.cons_cons _ (.cons_cons _ (sub_app hs616 (sub_app hs581 (sub_app hs7 (sub_app hs12 (sub_app hs22 (.refl _))))))))))))) ?_
          refine D_no (Base.Le.refl _) 21 55 rfl (by kernel_rfl) (by kernel_rfl) (by kernel_rfl) rfl rfl rfl rfl rfl (.cons_cons _ (.cons_cons _ (.cons_cons _ (.cons_cons _ (.cons_cons _ (.cons_cons _ (.cons_cons _ (sub_app hs616 (sub_app hs581 (sub_app hs7 (sub_app hs12 (sub_app hs22 (.refl _))))))))))))) ?_
          refine D_no (Base.Le.refl _) 22 45 rfl (by kernel_rfl) (by kernel_rfl) (by kernel_rfl) rfl rfl rfl rfl rfl (.cons_cons _ (.cons_cons _ (.cons_cons _ (.cons_cons _ (.cons_cons _ (.cons_cons _ (.cons_cons _ (sub_app hs616 (sub_app hs581 (sub_app hs7 (sub_app hs12 (sub_app hs22 (.refl _))))))))))))) ?_
          refine D_st (Base.Le.refl _) 23 rfl (by kernel_rfl) (by kernel_rfl) (by kernel_rfl) rfl (st_pick_f rfl rfl) (.cons_cons _ (.cons_cons _ (.cons_cons _ (.cons_cons _ (.cons_cons _ (.cons_cons _ (.cons_cons _ (sub_app hs616 (sub_app hs581 (sub_app hs7 (sub_app hs12 (sub_app hs22 (.refl _))))))))))))) ?_
          refine D_st (Base.Le.refl _) 24 rfl (by kernel_rfl) (by kernel_rfl) (by kernel_rfl) rfl (st_move rfl) (.cons_cons _ (.cons_cons _ (.cons_cons _ (.cons_cons _ (.cons_cons _ (.cons_cons _ (.cons_cons _ (sub_app hs616 (sub_app hs581 (sub_app hs7 (sub_app hs12 (sub_app hs22 (.refl _))))))))))))) ?_
          refine D_no (Base.Le.refl _) 25 68 rfl (by kernel_rfl) (by kernel_rfl) (by kernel_rfl) rfl rfl rfl rfl rfl (.cons_cons _ (.cons_cons _ (.cons_cons _ (.cons_cons _ (.cons_cons _ (.cons_cons _ (.cons_cons _ (sub_app hs616 (sub_app hs581 (sub_app hs7 (sub_app hs12 (sub_app hs22 (.refl _))))))))))))) ?_
          refine D_no (Base.Le.refl _) 26 68 rfl (by kernel_rfl) (by kernel_rfl) (by kernel_rfl) rfl rfl rfl rfl rfl (.cons_cons _ (.cons_cons _ (.cons_cons _ (.cons_cons _ (.cons_cons _ (.cons_cons _ (.cons_cons _ (sub_app hs616 (sub_app hs581 (sub_app hs7 (sub_app hs12 (sub_app hs22 (.refl _))))))))))))) ?_
          refine D_st (Base.Le.refl _) 27 rfl (by kernel_rfl) (by kernel_rfl) (by kernel_rfl) rfl (st_pick_f rfl rfl) (.cons_cons _ (.cons_cons _ (.cons_cons _ (.cons_cons _ (.cons_cons _ (.cons_cons _ (.cons_cons _ (sub_app hs616 (sub_app hs581 (sub_app hs7 (sub_app hs12 (sub_app hs22 (.refl _))))))))))))) ?_
          refine D_st (Base.Le.refl _) 28 rfl (by kernel_rfl) (by kernel_rfl) (by kernel_rfl) rfl (st_move rfl) (.cons_cons _ (.cons_cons _ (.cons_cons _ (.cons_cons _ (.cons_cons _ (.cons_cons _ (.cons_cons _ (sub_app hs616 (sub_app hs581 (sub_app hs7 (sub_app hs12 (sub_app hs22 (.refl _))))))))))))) ?_
          refine D_no (Base.Le.refl _) 29 72 rfl (by kernel_rfl) (by kernel_rfl) (by kernel_rfl) rfl rfl rfl rfl rfl (.cons_cons _ (.cons_cons _ (.cons_cons _ (.cons_cons _ (.cons_cons _ (.cons_cons _ (.cons_cons _ (sub_app hs616 (sub_app hs581 (sub_app hs7 (sub_app hs12 (sub_app hs22 (.refl _))))))))))))) ?_
          refine D_no (Base.Le.refl _) 30 72 rfl (by kernel_rfl) (by kernel_rfl) (by kernel_rfl) rfl rfl rfl rfl rfl (.cons_cons _ (.cons_cons _ (.cons_cons _ (.cons_cons _ (.cons_cons _ (.cons_cons _ (.cons_cons _ (sub_app hs616 (sub_app hs581 (sub_app hs7 (sub_app hs12 (sub_app hs22 (.refl _))))))))))))) ?_
          refine D_no (Base.Le.refl _) 31 72 rfl (by kernel_rfl) (by kernel_rfl) (by kernel_rfl) rfl rfl rfl rfl rfl (.cons_cons _ (.cons_cons _ (.cons_cons _ (.cons_cons _ (.cons_cons _ (.cons_cons _ (.cons_cons _ (sub_app hs616 (sub_app hs581 (sub_app hs7 (sub_app hs12 (sub_app hs22 (.refl _))))))))))))) ?_
          refine D_no (Base.Le.refl _) 32 72 rfl (by kernel_rfl) (by kernel_rfl) (by kernel_rfl) rfl rfl rfl rfl rfl (.cons_cons _ (.cons_cons _ (.cons_cons _ (.cons_cons _ (.cons_cons _ (.cons_cons _ (.cons_cons _ (sub_app hs616 (sub_app hs581 (sub_app hs7 (sub_app hs12 (sub_app hs22 (.refl _))))))))))))) ?_
          refine D_no (Base.Le.refl _) 33 72 rfl (by kernel_rfl) (by kernel_rfl) (by kernel_rfl) rfl rfl rfl rfl rfl (.cons_cons _ (.cons_cons _ (.cons_cons _ (.cons_cons _ (.cons_cons _ (.cons_cons _ (.cons_cons _ (sub_app hs616 (sub_app hs581 (sub_app hs7 (sub_app hs12 (sub_app hs22 (.refl _))))))))))))) ?_
          refine D_no (Base.Le.refl _) 34 72 rfl (by kernel_rfl) (by kernel_rfl) (by kernel_rfl) rfl rfl rfl rfl rfl (.cons_cons _ (.cons_cons _ (.cons_cons _ (.cons_cons _ (.cons_cons _ (.cons_cons _ (.cons_cons _ (sub_app hs616 (sub_app hs581 (sub_app hs7 (sub_app hs12 (sub_app hs22 (.refl _))))))))))))) ?_
          refine D_st (Base.Le.refl _) 35 rfl (by kernel_rfl) (by kernel_rfl) (by kernel_rfl) rfl (st_pick_f rfl rfl) (.cons_cons _ (.cons_cons _ (.cons_cons _ (.cons_cons _ (.cons_cons _ (.cons_cons _ (.cons_cons _ (sub_app hs616 (sub_app hs581 (sub_app hs7 (sub_app hs12 (sub_app hs22 (.refl _))))))))))))) ?_
          refine D_all [36] (by kernel_rfl) rfl ?_
          refine R_do (Base.Le.refl _) rfl rfl (u_store 3 rfl rfl siz4 rfl rfl (by simp)) ?_ ?_
          ·
            rintro _ _ rfl
            refine ⟨.inl (by kernel_rfl), ?_⟩
            refine D_done (by kernel_rfl) ?_
            obtain rfl := some1 hm
            refine x_pullb 6 rfl ?_
            refine x_pullb 4 rfl ?_
            refine x_pullb 4 rfl ?_
            refine x_pullb 4 rfl ?_
            refine x_pullb 4 rfl ?_
            refine x_pullb 6 rfl ?_
            refine x_pullb 6 rfl ?_
            refine x_front5 [_, _, _, _, _, _, _] hs616 hs581 hs7 hs12 hs22 R rfl ?_
            refine x_front3 [_, _, _, _, _, _, _] hs22 hs616 hs581 (hs7 ++ (hs12 ++ R)) rfl ?_
            refine x_front5 [_, _, _, _, _, _, _] hs581 hs22 hs616 hs7 hs12 R rfl ?_
            refine x_front5 [_, _, _, _, _, _, _] hs12 hs581 hs22 hs616 hs7 R rfl ?_
            refine x_front5 [_, _, _, _, _, _, _] hs7 hs12 hs581 hs22 hs616 R rfl ?_
            exact x_join (e' := [(4, .pointer (some ⟨g29, 0, none⟩)), (5, .pointer (some ⟨g30, 0, none⟩)), (6, .pointer (some ⟨g479, 0, none⟩))]) (hp' := (g29, Cl 88 [.slice A8 (l39).length c9]) :: (g30, Cl 22 [.slice A13 (l40).length c14]) :: (g479, Cl 34 [.int .i64 (s32.From), .int .i64 (s32.To), .int .i64 (s32.Len)]) :: (g26, Cl 69 [.pointer (some ⟨g31, 0, none⟩)]) :: (g27, Cl 22 [.slice A3 (put l38 s32.To (x583 + 1)).length c4]) :: (g28, Cl 4 [.bool (false)]) :: (g31, Cl 73 [.slice A18 (put l42 s32.To (x497 + s32.Len)).length c19, .slice A34 (l37).length c35, .slice A23 (l43).length c24]) :: (hs616 ++ (hs7 ++ (hs12 ++ (hs581 ++ (hs22 ++ R)))))) ⟨rfl, rfl, rfl, trivial⟩ (.cons_cons _ (.cons_cons _ (.cons_cons _ (.cons_cons _ (.cons_cons _ (.cons_cons _ (.cons_cons _ (sub_app hs616 (sub_app hs7 (sub_app hs12 (sub_app hs581 (sub_app hs22 (.refl _))))))))))))) ⟨rfl, rfl, (Base.Le.refl _)⟩
          exact R_nil
      ·
        rintro b732 _ _ ⟨rfl, rfl, hle733⟩
        have hm := hk735
        refine c_seq ?_
        refine c_region ?_
        refine t_st rfl (st_load 0 rfl one88 rfl rfl) ?_
        refine t_st rfl (st_field rfl fld34_1) ?_
        refine t_st rfl (st_load 2 rfl one3 rfl rfl) ?_
        obtain ⟨x850, h851, hm⟩ := bindS hm
        obtain ⟨j852, hj853, hx854⟩ := idx_some h851
        obtain ⟨cs855, hs860, P861, P862, hq863, hr856, hcs857, hA858, hlt859, hb864, hho865⟩ := OS.get (sz := 1) rfl (by decide) (h10.le hle733) hx854
        obtain ⟨rfl, rfl⟩ := hr856
        refine t_st rfl (st_index_old j852 rfl rfl hj853 hlt859 hA858 sl88) ?_
        refine t_st rfl (st_load_rd rfl one4 (fun w ho => hcs857 w _ ho (.cons _ (.cons _ (.cons _ (.cons _ (.cons _ (.cons _ (.cons _ (sub_skip hs616 (List.sublist_append_left _ _))))))))) 0 _ rfl)) ?_
        refine t_st rfl (st_not rfl) ?_
        refine t_nil ?_
        refine x_then_normal ?_
        refine c_cond _ rfl (fun hc866 => ?_) (fun hc866 => ?_)
        ·
          rw [if_neg (fun hh => Bool.noConfusion (hh.symm.trans (notT hc866)))] at hm
          refine c_seq ?_
          refine c_region ?_
          refine t_st rfl (st_load 0 rfl one88 rfl rfl) ?_
          refine t_st rfl (st_field rfl fld34_1) ?_
          refine t_st rfl (st_load 2 rfl one3 rfl rfl) ?_
          obtain ⟨x867, h868, hm⟩ := bindS hm
          obtain ⟨j869, hj870, hx871⟩ := idx_some h868
          obtain ⟨cs872, hs877, P878, P879, hq880, hr873, hcs874, hA875, hlt876, hb881, hho882⟩ := OS.get (sz := 1) rfl (by decide) (h10.le hle733) hx871
          obtain ⟨rfl, rfl⟩ := hr873
          refine t_st rfl (st_index_old j869 rfl rfl hj870 hlt876 hA875 sl88) ?_
          refine t_front2 [_, _, _, _, _, _, _] hs616 hs7 (hs12 ++ (hs581 ++ (hs22 ++ R))) rfl ?_
          refine t_do rfl (u_putOS hj870 (sz := 1) (a' := true) rfl [_, _, _, _, _, _, _] (hs616 ++ (hs12 ++ (hs581 ++ (hs22 ++ R)))) 0 1 [.bool (true)] rfl (h10.le hle733) hx871 rfl rfl rfl siz4 rfl (by intro u hu; simp only [List.mem_cons, List.not_mem_nil, or_false] at hu; subst hu; rfl) (fun cs hsj hh => by obtain ⟨rfl, rfl⟩ := hh; exact ⟨by decide, rfl, rfl⟩)) ?_
          rintro _ _ ⟨hs883, rfl, h884⟩
          refine t_hresp 0 rfl (o' := Cl 88 [.slice A8 (put l39 s32.To true).length c9]) (by simp only [put_length]) ?_
          refine t_nil ?_
          refine x_then_normal ?_
          refine c_region ?_
          refine t_st rfl (st_load 1 rfl one22 rfl rfl) ?_
          refine t_st rfl (st_field rfl fld34_1) ?_
          refine t_st rfl (st_load 2 rfl one3 rfl rfl) ?_
          refine t_do rfl (u_bslice (el := 3) [(0, .int .i64 (s32.To))] [.int .i64 (s32.To)] rfl (fun _ => by kernel_rfl)) ?_
          rintro _ _ ⟨g885, rfl, rfl⟩
          obtain ⟨_, h886, hm⟩ := bindS hm
          have h886 := room_some h886
          refine t_front3 [_, _, _, _, _, _, _, _] hs883 hs616 hs12 (hs581 ++ (hs22 ++ R)) rfl ?_
          refine t_do rfl (u_appOS (r := (RT.int .i64)) (l := l40) [_, _, _, _, _, _, _, _] (hs883 ++ (hs616 ++ (hs581 ++ (hs22 ++ R)))) [[.int .i64 (s32.To)]] [s32.To] rfl (by decide) sl22 inf3 rfl rfl rfl rfl (h15.le hle733) rfl (fun w ho => Rd.own (i := 0) ho rfl) ⟨rfl, trivial⟩ h886) ?_
          rintro _ _ ⟨hs887, rfl, h888⟩
          obtain ⟨A889, c890, rfl, _⟩ := h888.form
          refine t_do rfl (u_store 2 rfl rfl siz22 rfl rfl (by simp)) ?_
          rintro _ _ rfl
          refine t_nil ?_
          obtain ⟨rfl, rfl, rfl, rfl, rfl⟩ := some5 hm
          refine x_pullb 7 rfl ?_
          refine x_pullb 3 rfl ?_
          refine x_pullb 3 rfl ?_
          refine x_pullb 7 rfl ?_
          refine x_pullb 7 rfl ?_
          refine x_pullb 7 rfl ?_
          refine x_front5 [_, _, _, _, _, _, _, _] hs887 hs883 hs616 hs581 hs22 R rfl ?_
          refine x_front5 [_, _, _, _, _, _, _, _] hs22 hs887 hs883 hs616 hs581 R rfl ?_
          refine x_front3 [_, _, _, _, _, _, _, _] hs581 hs22 hs887 (hs883 ++ (hs616 ++ R)) rfl ?_
          refine x_front4 [_, _, _, _, _, _, _, _] hs887 hs581 hs22 hs883 (hs616 ++ R) rfl ?_
          refine x_front5 [_, _, _, _, _, _, _, _] hs883 hs887 hs581 hs22 hs616 R rfl ?_
          exact endM hle733 rfl (.cons_cons _ (.cons_cons _ (.cons_cons _ (.cons_cons _ (.cons_cons _ (.cons_cons _ (.cons _ (.cons _ (sub_app hs616 (sub_app hs883 (sub_app hs887 (sub_app hs581 (sub_app hs22 (.refl _)))))))))))))) ⟨hs616, hs883, A889, c890, hs887, hs581, rfl, rfl, (h617.le hle733), ((put_length _ _ _).trans rfl), h884, ((put_length _ _ _).trans rfl), h888, (OS.nz h888 (by simp)), (h582.le hle733), ((put_length _ _ _).trans rfl)⟩
        ·
          rw [if_pos (notF hc866)] at hm
          refine c_skip ?_
          obtain ⟨rfl, rfl, rfl, rfl, rfl⟩ := some5 hm
          refine x_pullb 6 rfl ?_
          refine x_pullb 2 rfl ?_
          refine x_pullb 2 rfl ?_
          refine x_pullb 6 rfl ?_
          refine x_pullb 6 rfl ?_
          refine x_pullb 6 rfl ?_
          refine x_front5 [_, _, _, _, _, _, _] hs616 hs7 hs12 hs581 hs22 R rfl ?_
          refine x_front5 [_, _, _, _, _, _, _] hs22 hs616 hs7 hs12 hs581 R rfl ?_
          refine x_front5 [_, _, _, _, _, _, _] hs581 hs22 hs616 hs7 hs12 R rfl ?_
          refine x_front5 [_, _, _, _, _, _, _] hs12 hs581 hs22 hs616 hs7 R rfl ?_
          refine x_front5 [_, _, _, _, _, _, _] hs7 hs12 hs581 hs22 hs616 R rfl ?_
          exact endM hle733 rfl (.cons_cons _ (.cons_cons _ (.cons_cons _ (.cons_cons _ (.cons_cons _ (.cons_cons _ (.cons _ (sub_app hs616 (sub_app hs7 (sub_app hs12 (sub_app hs581 (sub_app hs22 (.refl _))))))))))))) ⟨hs616, hs7, A13, c14, hs12, hs581, rfl, rfl, (h617.le hle733), ((put_length _ _ _).trans rfl), (h10.le hle733), rfl, (h15.le hle733), hnz41, (h582.le hle733), ((put_length _ _ _).trans rfl)⟩
    exact R_nil

set_option maxRecDepth 20000 in
theorem cMendGreatest (b : Base) (R : Hp) (x1 : Int) (l5 : (List Int)) (A2 : Option Addr) (c3 : Nat) (h4 : FZ (RT.int .i64) b.w A2 c3 l5) (x45 : Int) (hm : mMendGreatest x1 l5 = some x45) :
    CallsG Try.prog 54 [.int .i64 (x1), .slice A2 (l5).length c3] b (R) (fun v b' hp' => .int .i64 (x45) = v ∧ R = hp') := by
  refine fn_enterG 18 Try.func54 rfl Try.ntmps54 rfl ?_
  unfold mMendGreatest at hm
  refine c_seq ?_
  refine c_region ?_
  refine t_st rfl (st_assign rfl) ?_
  refine t_nil ?_
  refine x_then_normal ?_
  refine c_seq ?_
  refine c_seq ?_
  refine c_region ?_
  refine t_st rfl (st_move rfl) ?_
  refine t_st rfl (st_len rfl sl22) ?_
  refine t_st rfl (st_move rfl) ?_
  refine t_nil ?_
  refine x_then_normal ?_
  refine c_block ?_
  have hb47 := (FZ.bd h4)
  obtain ⟨x71, hl73, hk74⟩ := bindS hm
  refine c_forS (fun k72 => fun x71 => fun b69 e' hp' => [(0, .int .i64 (x71)), (7, .slice A2 (l5).length c3), (8, .int .i64 ((l5.length : Int))), (9, .int .i64 ((k72 : Int)))] = e' ∧ R = hp' ∧ b.Le b69) hl73 (e' := [(0, .int .i64 (x1)), (7, .slice A2 (l5).length c3), (8, .int .i64 ((l5.length : Int))), (9, .int .i64 0)]) (hp' := R) ⟨rfl, rfl, rfl, rfl, trivial⟩ (.refl _) ⟨rfl, rfl, (Base.Le.refl _)⟩ ?_ ?_
  ·
    rintro k72 x71 b69 _ _ oL46 hknL46 ⟨rfl, rfl, hle70⟩ hstepL46
    unfold mMendGreatest_L46 at hstepL46
    have hm := hstepL46
    refine c_seq ?_
    refine c_region ?_
    refine t_st rfl (st_lss_t rfl rfl (by omega)) ?_
    refine t_nil ?_
    refine x_then_normal ?_
    refine c_seq ?_
    refine c_cond_t rfl ?_
    refine c_skip ?_
    refine x_then_normal ?_
    refine c_seq ?_
    refine c_block ?_
    refine c_seq ?_
    refine c_region ?_
    obtain ⟨x75, h76, hm⟩ := bindS hm
    obtain ⟨j77, hj78, hx79⟩ := idx_some h76
    obtain ⟨cs80, hr81, hcs82, hA83, hlt84⟩ := FZ.get (sz := 1) rfl (by decide) (h4.le hle70) hx79
    obtain rfl := hr81
    refine t_st rfl (st_index_old j77 rfl rfl hj78 hlt84 hA83 sl22) ?_
    refine t_st rfl (st_load_old rfl one3 (hcs82 0 _ rfl)) ?_
    refine t_st rfl (st_assign rfl) ?_
    refine t_nil ?_
    refine x_then_normal ?_
    refine c_region ?_
    refine t_st rfl (st_move rfl) ?_
    refine t_st rfl (st_move rfl) ?_
    refine t_st rfl (st_max rfl rfl) ?_
    refine t_st rfl (st_assign rfl) ?_
    refine t_nil ?_
    refine x_block_normal ?_
    refine x_then_normal ?_
    refine c_region ?_
    refine t_st rfl (st_add rfl rfl (by omega)) ?_
    refine t_st rfl (st_move rfl) ?_
    refine t_nil ?_
    obtain rfl := some1 hm
    exact x_againS (e' := [(0, .int .i64 (max x71 x75)), (7, .slice A2 (l5).length c3), (8, .int .i64 ((l5.length : Int))), (9, .int .i64 ((k72 : Int) + 1))]) (hp' := R) ⟨rfl, rfl, rfl, rfl, trivial⟩ (.refl _) ⟨rfl, rfl, (hle70)⟩
  ·
    rintro b69 _ _ ⟨rfl, rfl, hle70⟩
    have hm := hk74
    refine c_seq ?_
    refine c_region ?_
    refine t_st rfl (st_lss_f rfl rfl (by omega)) ?_
    refine t_nil ?_
    refine x_then_normal ?_
    refine c_seq ?_
    refine c_cond_f rfl ?_
    refine c_exit ?_
    refine x_then_exit ?_
    refine x_then_exit ?_
    refine x_block_out ?_
    refine x_then_normal ?_
    refine c_seq ?_
    refine c_region ?_
    refine t_st rfl (st_move rfl) ?_
    refine t_st rfl (st_assign rfl) ?_
    refine t_nil ?_
    refine x_then_normal ?_
    refine c_ret ?_
    obtain rfl := some1 hm
    exact retM (rs := [.tmp 4]) [.int .i64 (x71)] hle70 (by decide) rfl ⟨rfl, trivial⟩ rfl (hp' := R) (.refl _) ⟨rfl, rfl⟩

set_option maxRecDepth 20000 in
theorem cMendSolverBound (b : Base) (R : Hp) (l15 : (List Int)) (l16 : (List Int)) (l17 : (List (List MendArc))) (g11 : Nat) (A12 : Option Addr) (c13 : Nat) (A3 : Option Addr) (c4 : Nat) (hs2 : Hp) (A8 : Option Addr) (c9 : Nat) (hs7 : Hp) (h14 : FZ (RT.int .i64) b.w A12 c13 l15) (h5 : OS 3 (OT.fr (RT.int .i64)) b.w (.slice A3 l16.length c4) l16 hs2) (h10 : OS 23 (OT.fr (RT.list rMendArc)) b.w (.slice A8 l17.length c9) l17 hs7) (x215 : Int) (hm : mMendSolverBound l15 l16 l17 = some x215) :
    CallsG Try.prog 62 [.pointer (some ⟨g11, 0, none⟩)] b ((g11, Cl 73 [.slice A3 (l16).length c4, .slice A12 (l15).length c13, .slice A8 (l17).length c9]) :: (hs2 ++ (hs7 ++ R))) (fun v b' hp' => .int .i64 (x215) = v ∧ (g11, Cl 73 [.slice A3 (l16).length c4, .slice A12 (l15).length c13, .slice A8 (l17).length c9]) :: (hs2 ++ (hs7 ++ R)) = hp') := by
  refine fn_enterG 39 Try.func62 rfl Try.ntmps62 rfl ?_
  unfold mMendSolverBound at hm
  refine c_seq ?_
  refine c_region ?_
  refine t_st rfl (st_assign rfl) ?_
  refine t_nil ?_
  refine x_then_normal ?_
  refine c_seq ?_
  refine c_region ?_
  refine t_st rfl (st_move rfl) ?_
  refine t_st rfl (st_nil rfl) ?_
  refine t_st rfl (st_field rfl fld73_0) ?_
  refine t_st rfl (st_load 0 rfl one22 rfl rfl) ?_
  obtain ⟨x216, hcl217, hm⟩ := bindS hm
  refine t_do rfl (u_callW0 _ call54 rfl (fun w ho => cMendGreatest _ [] 0 l16 A3 c4 (OS.now (o := (OT.fr (RT.int .i64))) (l := l16) (hs := hs2) h5 ho (.cons _ (List.sublist_append_left _ _))) x216 hcl217) (fun _ _ _ h => h.2.symm)) ?_
  rintro _ _ ⟨⟨_, rfl, _⟩, rfl⟩
  refine t_st rfl (st_assign rfl) ?_
  refine t_nil ?_
  refine x_then_normal ?_
  refine c_seq ?_
  refine c_seq ?_
  refine c_region ?_
  refine t_st rfl (st_move rfl) ?_
  refine t_st rfl (st_nil rfl) ?_
  refine t_st rfl (st_field rfl fld73_2) ?_
  refine t_st rfl (st_load 0 rfl one35 rfl rfl) ?_
  refine t_st rfl (st_len rfl sl35) ?_
  refine t_st rfl (st_move rfl) ?_
  refine t_nil ?_
  refine x_then_normal ?_
  refine c_block ?_
  have hb219 := (OS.len h10)
  refine c_front2 [_] hs2 hs7 R rfl ?_
  obtain ⟨x347, hl349, hk350⟩ := bindS hm
  refine c_forS (fun k348 => fun x347 => fun b345 e' hp' => [(3, .int .i64 (x347)), (17, .slice A8 (l17).length c9), (18, .int .i64 ((l17.length : Int))), (19, .int .i64 ((k348 : Int)))] = e' ∧ (g11, Cl 73 [.slice A3 (l16).length c4, .slice A12 (l15).length c13, .slice A8 (l17).length c9]) :: (hs7 ++ (hs2 ++ R)) = hp' ∧ b.Le b345) hl349 (e' := [(3, .int .i64 (x216)), (17, .slice A8 (l17).length c9), (18, .int .i64 ((l17.length : Int))), (19, .int .i64 0)]) (hp' := (g11, Cl 73 [.slice A3 (l16).length c4, .slice A12 (l15).length c13, .slice A8 (l17).length c9]) :: (hs7 ++ (hs2 ++ R))) ⟨rfl, rfl, rfl, rfl, trivial⟩ (.cons_cons _ (sub_app hs7 (sub_app hs2 (.refl _)))) ⟨rfl, rfl, (Base.Le.refl _)⟩ ?_ ?_
  ·
    rintro k348 x347 b345 _ _ oL218 hknL218 ⟨rfl, rfl, hle346⟩ hstepL218
    unfold mMendSolverBound_L218 at hstepL218
    have hm := hstepL218
    refine c_seq ?_
    refine c_region ?_
    refine t_st rfl (st_lss_t rfl rfl (by omega)) ?_
    refine t_nil ?_
    refine x_then_normal ?_
    refine c_seq ?_
    refine c_cond_t rfl ?_
    refine c_skip ?_
    refine x_then_normal ?_
    refine c_seq ?_
    refine c_block ?_
    refine c_seq ?_
    refine c_region ?_
    obtain ⟨x351, h352, hm⟩ := bindS hm
    obtain ⟨j353, hj354, hx355⟩ := idx_some h352
    obtain ⟨cs356, hs361, P362, P363, hq364, hr357, hcs358, hA359, hlt360, hb365, hho366⟩ := OS.get (sz := 1) rfl (by decide) (h10.le hle346) hx355
    obtain ⟨⟨A367, c368, rfl, h369⟩, rfl⟩ := hr357
    refine t_st rfl (st_index_old j353 rfl rfl hj354 hlt360 hA359 sl35) ?_
    refine t_st rfl (st_load_rd rfl one23 (fun w ho => hcs358 w _ ho (.cons _ (List.sublist_append_left _ _)) 0 _ rfl)) ?_
    refine t_st rfl (st_assign rfl) ?_
    refine t_nil ?_
    refine x_then_normal ?_
    refine c_seq ?_
    refine c_region ?_
    refine t_st rfl (st_assign rfl) ?_
    refine t_nil ?_
    refine x_then_normal ?_
    refine c_seq ?_
    refine c_seq ?_
    refine c_region ?_
    refine t_st rfl (st_move rfl) ?_
    refine t_st rfl (st_len rfl sl23) ?_
    refine t_st rfl (st_move rfl) ?_
    refine t_nil ?_
    refine x_then_normal ?_
    refine c_block ?_
    have hb371 := (FZ.bd h369)
    refine c_front2 [_] hs7 hs2 R rfl ?_
    refine c_front2 [_] hs2 hs7 R rfl ?_
    obtain ⟨x397, hl399, hk400⟩ := bindS hm
    refine c_forS (fun k398 => fun x397 => fun b395 e' hp' => [(3, .int .i64 (x347)), (6, .int .i64 (x397)), (17, .slice A8 (l17).length c9), (18, .int .i64 ((l17.length : Int))), (19, .int .i64 ((k348 : Int))), (23, .slice A367 (x351).length c368), (24, .int .i64 ((x351.length : Int))), (25, .int .i64 ((k398 : Int)))] = e' ∧ (g11, Cl 73 [.slice A3 (l16).length c4, .slice A12 (l15).length c13, .slice A8 (l17).length c9]) :: (hs7 ++ (hs2 ++ R)) = hp' ∧ b345.Le b395) hl399 (e' := [(3, .int .i64 (x347)), (6, .int .i64 (0)), (17, .slice A8 (l17).length c9), (18, .int .i64 ((l17.length : Int))), (19, .int .i64 ((k348 : Int))), (23, .slice A367 (x351).length c368), (24, .int .i64 ((x351.length : Int))), (25, .int .i64 0)]) (hp' := (g11, Cl 73 [.slice A3 (l16).length c4, .slice A12 (l15).length c13, .slice A8 (l17).length c9]) :: (hs7 ++ (hs2 ++ R))) ⟨rfl, rfl, rfl, rfl, rfl, rfl, rfl, rfl, trivial⟩ (.cons_cons _ (sub_app hs7 (sub_app hs2 (.refl _)))) ⟨rfl, rfl, (Base.Le.refl _)⟩ ?_ ?_
    ·
      rintro k398 x397 b395 _ _ oL370 hknL370 ⟨rfl, rfl, hle396⟩ hstepL370
      unfold mMendSolverBound_L370 at hstepL370
      have hm := hstepL370
      refine c_seq ?_
      refine c_region ?_
      refine t_st rfl (st_lss_t rfl rfl (by omega)) ?_
      refine t_nil ?_
      refine x_then_normal ?_
      refine c_seq ?_
      refine c_cond_t rfl ?_
      refine c_skip ?_
      refine x_then_normal ?_
      refine c_seq ?_
      refine c_block ?_
      refine c_seq ?_
      refine c_region ?_
      obtain ⟨x401, h402, hm⟩ := bindS hm
      obtain ⟨j403, hj404, hx405⟩ := idx_some h402
      obtain ⟨cs406, hr407, hcs408, hA409, hlt410⟩ := FZ.get (sz := 3) rfl (by decide) (h369.le hle396) hx405
      obtain ⟨_, _, rfl, rfl, ⟨_, _, rfl, rfl, rfl⟩⟩ := hr407
      refine t_st rfl (st_index_old j403 rfl rfl hj404 hlt410 hA409 sl23) ?_
      refine t_st rfl (st_loadN_old (vs := [.int .i64 (x401.From), .int .i64 (x401.To), .int .i64 (x401.Len)]) 3 rfl agg34 hA409 rfl (fun j u hu => hcs408 j u hu)) ?_
      refine t_do rfl (u_alloc [.int .i64 0, .int .i64 0, .int .i64 0] zero34 rfl) ?_
      rintro _ _ ⟨g411, rfl, rfl⟩
      refine t_do rfl (u_storeN (vs := [_, _, _]) 0 3 rfl rfl rfl siz34 rfl (by intro u hu; simp only [List.mem_cons, List.not_mem_nil, or_false] at hu; rcases hu with rfl | rfl | rfl <;> rfl) rfl (by simp)) ?_
      rintro _ _ rfl
      refine t_nil ?_
      refine x_then_normal ?_
      refine c_region ?_
      refine t_st rfl (st_move rfl) ?_
      refine t_st rfl (st_field rfl fld34_2) ?_
      refine t_st rfl (st_load 0 rfl one3 rfl rfl) ?_
      refine t_st rfl (st_max rfl rfl) ?_
      refine t_st rfl (st_assign rfl) ?_
      refine t_nil ?_
      refine x_block_normal ?_
      refine x_then_normal ?_
      refine c_region ?_
      refine t_st rfl (st_add rfl rfl (by omega)) ?_
      refine t_st rfl (st_move rfl) ?_
      refine t_nil ?_
      refine x_pullb 1 rfl ?_
      refine x_front2 [_, _] hs7 hs2 R rfl ?_
      refine x_front2 [_, _] hs2 hs7 R rfl ?_
      obtain rfl := some1 hm
      exact x_againS (e' := [(3, .int .i64 (x347)), (6, .int .i64 (max x397 x401.Len)), (17, .slice A8 (l17).length c9), (18, .int .i64 ((l17.length : Int))), (19, .int .i64 ((k348 : Int))), (23, .slice A367 (x351).length c368), (24, .int .i64 ((x351.length : Int))), (25, .int .i64 ((k398 : Int) + 1))]) (hp' := (g11, Cl 73 [.slice A3 (l16).length c4, .slice A12 (l15).length c13, .slice A8 (l17).length c9]) :: (hs7 ++ (hs2 ++ R))) ⟨rfl, rfl, rfl, rfl, rfl, rfl, rfl, rfl, trivial⟩ (.cons_cons _ (.cons _ (sub_app hs7 (sub_app hs2 (.refl _))))) ⟨rfl, rfl, (hle396)⟩
    ·
      rintro b395 _ _ ⟨rfl, rfl, hle396⟩
      have hm := hk400
      refine c_seq ?_
      refine c_region ?_
      refine t_st rfl (st_lss_f rfl rfl (by omega)) ?_
      refine t_nil ?_
      refine x_then_normal ?_
      refine c_seq ?_
      refine c_cond_f rfl ?_
      refine c_exit ?_
      refine x_then_exit ?_
      refine x_then_exit ?_
      refine x_block_out ?_
      refine x_then_normal ?_
      refine c_region ?_
      refine t_st rfl (st_move rfl) ?_
      refine t_st rfl (st_move rfl) ?_
      obtain ⟨_, h412, hm⟩ := bindS hm
      have h412 := (chk_some h412).2
      refine t_st rfl (st_add rfl rfl h412) ?_
      refine t_st rfl (st_assign rfl) ?_
      refine t_nil ?_
      refine x_block_normal ?_
      refine x_then_normal ?_
      refine c_region ?_
      refine t_st rfl (st_add rfl rfl (by omega)) ?_
      refine t_st rfl (st_move rfl) ?_
      refine t_nil ?_
      refine x_front2 [_] hs7 hs2 R rfl ?_
      refine x_front2 [_] hs2 hs7 R rfl ?_
      obtain rfl := some1 hm
      exact x_againS (e' := [(3, .int .i64 (x347 + x397)), (17, .slice A8 (l17).length c9), (18, .int .i64 ((l17.length : Int))), (19, .int .i64 ((k348 : Int) + 1))]) (hp' := (g11, Cl 73 [.slice A3 (l16).length c4, .slice A12 (l15).length c13, .slice A8 (l17).length c9]) :: (hs7 ++ (hs2 ++ R))) ⟨rfl, rfl, rfl, rfl, trivial⟩ (.cons_cons _ (sub_app hs7 (sub_app hs2 (.refl _)))) ⟨rfl, rfl, ((hle346.trans hle396))⟩
  ·
    rintro b345 _ _ ⟨rfl, rfl, hle346⟩
    have hm := hk350
    refine c_seq ?_
    refine c_region ?_
    refine t_st rfl (st_lss_f rfl rfl (by omega)) ?_
    refine t_nil ?_
    refine x_then_normal ?_
    refine c_seq ?_
    refine c_cond_f rfl ?_
    refine c_exit ?_
    refine x_then_exit ?_
    refine x_then_exit ?_
    refine x_block_out ?_
    refine x_then_normal ?_
    refine c_seq ?_
    refine c_region ?_
    refine t_st rfl (st_move rfl) ?_
    refine t_st rfl (st_assign rfl) ?_
    refine t_nil ?_
    refine x_then_normal ?_
    refine c_ret ?_
    obtain rfl := some1 hm
    refine x_front2 [_] hs7 hs2 R rfl ?_
    exact retM (rs := [.tmp 2]) [.int .i64 (x347)] hle346 (by decide) rfl ⟨rfl, trivial⟩ rfl (hp' := (g11, Cl 73 [.slice A3 (l16).length c4, .slice A12 (l15).length c13, .slice A8 (l17).length c9]) :: (hs2 ++ (hs7 ++ R))) (.cons_cons _ (sub_app hs2 (sub_app hs7 (.refl _)))) ⟨rfl, rfl⟩

end Go.Proofs.Ytakehdnblmonlaa
