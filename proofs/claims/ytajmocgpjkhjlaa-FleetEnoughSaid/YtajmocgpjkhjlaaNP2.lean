/- Contracts: the code computes its model (part 2). -/
import Derived.Test.YtajmocgpjkhjlaaNP1
set_option linter.unusedVariables false
set_option linter.unusedSimpArgs false
namespace Go.Proofs.Ytajmocgpjkhjlaa
open Go.RowKit Go.Fp

set_option maxRecDepth 20000 in
theorem cSlicesStableCmpFunc (b : Base) (R : Hp) (x7 : Int) (l11 : (List FleetTask)) (l12 : (List Int)) (g6 : Nat) (A8 : Option Addr) (c9 : Nat) (A3 : Option Addr) (c4 : Nat) (hs2 : Hp) (h10 : FZ rFleetTask b.w A8 c9 l11) (h5 : OS 3 (OT.fr (RT.int .i64)) b.w (.slice A3 l12.length c4) l12 hs2) (l549 : (List Int)) (hm : mSlicesStableCmpFunc x7 l11 l12 = some l549) :
    CallsG Try.prog 102 [.slice A3 (l12).length c4, .int .i64 (x7), .func (.func 80) #[] #[.pointer (some ⟨g6, 0, none⟩)]] b ((g6, Cl 22 [.slice A8 (l11).length c9]) :: (hs2 ++ R)) (fun v b' hp' => ∃ (hs547 : Hp), .tuple #[] = v ∧ (g6, Cl 22 [.slice A8 (l11).length c9]) :: (hs547 ++ R) = hp' ∧ OS 3 (OT.fr (RT.int .i64)) b'.w (.slice A3 l549.length c4) l549 hs547 ∧ l549.length = l12.length) := by
  refine fn_enterG 63 Try.func102 rfl Try.ntmps102 rfl ?_
  unfold mSlicesStableCmpFunc at hm
  refine c_seq ?_
  refine c_region ?_
  refine t_st rfl (st_assign rfl) ?_
  refine t_nil ?_
  refine x_then_normal ?_
  refine c_seq ?_
  refine c_region ?_
  refine t_st rfl (st_move rfl) ?_
  refine t_st rfl (st_assign rfl) ?_
  refine t_st rfl (st_assign rfl) ?_
  refine t_nil ?_
  refine x_then_normal ?_
  obtain ⟨⟨x600, l601⟩, hj603, hk603⟩ := bindS hm
  refine c_join (fun b595 e' hp' => ∃ (hs598 : Hp), [(0, .slice A3 (l601).length c4), (1, .int .i64 (x7)), (2, .func (.func 80) #[] #[.pointer (some ⟨g6, 0, none⟩)]), (6, .int .i64 (20)), (7, .int .i64 (x600))] = e' ∧ (g6, Cl 22 [.slice A8 (l11).length c9]) :: (hs598 ++ R) = hp' ∧ b.Le b595 ∧ OS 3 (OT.fr (RT.int .i64)) b595.w (.slice A3 l601.length c4) l601 hs598 ∧ l601.length = l12.length) ?_ ?_
  ·
   have hm := hj603
   refine c_block ?_
   refine c_loopM (unc3 fun x635 x636 l637 => fun b630 e' hp' => ∃ (hs633 : Hp), [(0, .slice A3 (l637).length c4), (1, .int .i64 (x7)), (2, .func (.func 80) #[] #[.pointer (some ⟨g6, 0, none⟩)]), (6, .int .i64 (20)), (7, .int .i64 (x635)), (8, .int .i64 (x636))] = e' ∧ (g6, Cl 22 [.slice A8 (l11).length c9]) :: (hs633 ++ R) = hp' ∧ b.Le b630 ∧ OS 3 (OT.fr (RT.int .i64)) b630.w (.slice A3 l637.length c4) l637 hs633 ∧ l637.length = l12.length) hm (e' := [(0, .slice A3 (l12).length c4), (1, .int .i64 (x7)), (2, .func (.func 80) #[] #[.pointer (some ⟨g6, 0, none⟩)]), (6, .int .i64 (20)), (7, .int .i64 (0)), (8, .int .i64 (20))]) (hp' := (g6, Cl 22 [.slice A8 (l11).length c9]) :: (hs2 ++ R)) ⟨rfl, rfl, rfl, rfl, rfl, rfl, trivial⟩ (.cons_cons _ (sub_app hs2 (.refl _))) ⟨hs2, rfl, rfl, (Base.Le.refl _), h5, rfl⟩ ?_
   rintro ⟨x635, x636, l637⟩ b630 _ _ oL604 ⟨hs633, rfl, rfl, hle631, h634, hln638⟩ hstepL604 houtL604
   unfold mSlicesStableCmpFunc_L604 at hstepL604
   have hm := (unc3E hstepL604)
   refine c_seq ?_
   refine c_seq ?_
   refine c_region ?_
   refine t_st rfl (st_move rfl) ?_
   refine t_st rfl (st_move rfl) ?_
   refine t_st rfl (st_leq rfl rfl) ?_
   refine t_nil ?_
   refine x_then_normal ?_
   refine c_cond _ rfl (fun hc639 => ?_) (fun hc639 => ?_)
   ·
    rw [if_pos (of_decide_eq_true hc639)] at hm
    refine c_skip ?_
    refine x_then_normal ?_
    refine c_block ?_
    refine c_seq ?_
    refine c_region ?_
    refine t_st rfl (st_move rfl) ?_
    refine t_st rfl (st_move rfl) ?_
    refine t_st rfl (st_move rfl) ?_
    refine t_st rfl (st_move rfl) ?_
    obtain ⟨l640, hcl641, hm⟩ := bindS hm
    refine t_out1 [_] [] hs633 R rfl ?_
    refine t_callG _ rfl call119 rfl (cSlicesInsertionSortCmpFunc _ _ x635 x636 l11 l637 g6 A8 c9 A3 c4 hs633 (h10.le hle631) h634 l640 hcl641) ?_
    rintro _ b642 _ hle643 ⟨hs644, rfl, rfl, h645, h646⟩
    refine t_in1 [_] [] hs644 R rfl ?_
    refine t_resp 0 rfl (v' := .slice A3 (l640).length c4) (by rw [h646]) ?_
    refine t_nil ?_
    refine x_then_normal ?_
    refine c_seq ?_
    refine c_region ?_
    refine t_st rfl (st_move rfl) ?_
    refine t_st rfl (st_assign rfl) ?_
    refine t_nil ?_
    refine x_then_normal ?_
    refine c_region ?_
    refine t_st rfl (st_move rfl) ?_
    refine t_st rfl (st_move rfl) ?_
    obtain ⟨_, h647, hm⟩ := bindS hm
    have h647 := (chk_some h647).2
    refine t_st rfl (st_add rfl rfl h647) ?_
    refine t_st rfl (st_assign rfl) ?_
    refine t_nil ?_
    refine x_block_normal ?_
    exact x_againM (x636, x636 + 20, l640) (Option.some.inj hm).symm (e' := [(0, .slice A3 (l640).length c4), (1, .int .i64 (x7)), (2, .func (.func 80) #[] #[.pointer (some ⟨g6, 0, none⟩)]), (6, .int .i64 (20)), (7, .int .i64 (x636)), (8, .int .i64 (x636 + 20))]) (hp' := (g6, Cl 22 [.slice A8 (l11).length c9]) :: (hs644 ++ R)) ⟨rfl, rfl, rfl, rfl, rfl, rfl, trivial⟩ (.cons_cons _ (sub_app hs644 (.refl _))) ⟨hs644, rfl, rfl, ((hle631.trans hle643)), h645, (h646.trans hln638)⟩
   ·
    rw [if_neg (of_decide_eq_false hc639)] at hm
    refine c_exit ?_
    refine x_then_exit ?_
    refine x_then_exit ?_
    refine x_block_out ?_
    have hm := congrArg some (houtL604 _ (Option.some.inj hm).symm)
    obtain ⟨rfl, rfl⟩ := some2 hm
    exact x_join (e' := [(0, .slice A3 (l637).length c4), (1, .int .i64 (x7)), (2, .func (.func 80) #[] #[.pointer (some ⟨g6, 0, none⟩)]), (6, .int .i64 (20)), (7, .int .i64 (x635))]) (hp' := (g6, Cl 22 [.slice A8 (l11).length c9]) :: (hs633 ++ R)) ⟨rfl, rfl, rfl, rfl, rfl, trivial⟩ (.cons_cons _ (sub_app hs633 (.refl _))) ⟨hs633, rfl, rfl, hle631, h634, hln638⟩
  ·
   rintro b595 _ _ ⟨hs598, rfl, rfl, hle596, h599, hln602⟩
   have hm := (unc2E hk603)
   refine c_seq ?_
   refine c_region ?_
   refine t_st rfl (st_move rfl) ?_
   refine t_st rfl (st_move rfl) ?_
   refine t_st rfl (st_move rfl) ?_
   refine t_st rfl (st_move rfl) ?_
   obtain ⟨l648, hcl649, hm⟩ := bindS hm
   refine t_out1 [_] [] hs598 R rfl ?_
   refine t_callG _ rfl call119 rfl (cSlicesInsertionSortCmpFunc _ _ x600 x7 l11 l601 g6 A8 c9 A3 c4 hs598 (h10.le hle596) h599 l648 hcl649) ?_
   rintro _ b650 _ hle651 ⟨hs652, rfl, rfl, h653, h654⟩
   refine t_in1 [_] [] hs652 R rfl ?_
   refine t_resp 0 rfl (v' := .slice A3 (l648).length c4) (by rw [h654]) ?_
   refine t_nil ?_
   refine x_then_normal ?_
   refine c_block ?_
   refine c_loopM (unc2 fun x943 l944 => fun b938 e' hp' => ∃ (hs941 : Hp), [(0, .slice A3 (l944).length c4), (1, .int .i64 (x7)), (2, .func (.func 80) #[] #[.pointer (some ⟨g6, 0, none⟩)]), (6, .int .i64 (x943))] = e' ∧ (g6, Cl 22 [.slice A8 (l11).length c9]) :: (hs941 ++ R) = hp' ∧ b650.Le b938 ∧ OS 3 (OT.fr (RT.int .i64)) b938.w (.slice A3 l944.length c4) l944 hs941 ∧ l944.length = l12.length) hm (e' := [(0, .slice A3 (l648).length c4), (1, .int .i64 (x7)), (2, .func (.func 80) #[] #[.pointer (some ⟨g6, 0, none⟩)]), (6, .int .i64 (20))]) (hp' := (g6, Cl 22 [.slice A8 (l11).length c9]) :: (hs652 ++ R)) ⟨rfl, rfl, rfl, rfl, trivial⟩ (.cons_cons _ (sub_app hs652 (.refl _))) ⟨hs652, rfl, rfl, (Base.Le.refl _), h653, (h654.trans hln602)⟩ ?_
   rintro ⟨x943, l944⟩ b938 _ _ oL655 ⟨hs941, rfl, rfl, hle939, h942, hln945⟩ hstepL655 houtL655
   unfold mSlicesStableCmpFunc_L655 at hstepL655
   have hm := (unc2E hstepL655)
   refine c_seq ?_
   refine c_seq ?_
   refine c_region ?_
   refine t_st rfl (st_move rfl) ?_
   refine t_st rfl (st_move rfl) ?_
   refine t_st rfl (st_lss rfl rfl) ?_
   refine t_nil ?_
   refine x_then_normal ?_
   refine c_cond _ rfl (fun hc946 => ?_) (fun hc946 => ?_)
   ·
    rw [if_pos (of_decide_eq_true hc946)] at hm
    refine c_skip ?_
    refine x_then_normal ?_
    refine c_block ?_
    refine c_seq ?_
    refine c_region ?_
    refine t_st rfl (st_move rfl) ?_
    obtain ⟨_, h947, hm⟩ := bindS hm
    have h947 := (chk_some h947).2
    refine t_st rfl (st_mul rfl rfl h947) ?_
    refine t_st rfl (st_assign rfl) ?_
    refine t_st rfl (st_assign rfl) ?_
    refine t_nil ?_
    refine x_then_normal ?_
    obtain ⟨⟨x1003, l1004⟩, hj1006, hk1006⟩ := bindS hm
    refine c_join (fun b998 e' hp' => ∃ (hs1001 : Hp), [(0, .slice A3 (l1004).length c4), (1, .int .i64 (x7)), (2, .func (.func 80) #[] #[.pointer (some ⟨g6, 0, none⟩)]), (6, .int .i64 (x943)), (7, .int .i64 (x1003))] = e' ∧ (g6, Cl 22 [.slice A8 (l11).length c9]) :: (hs1001 ++ R) = hp' ∧ b938.Le b998 ∧ OS 3 (OT.fr (RT.int .i64)) b998.w (.slice A3 l1004.length c4) l1004 hs1001 ∧ l1004.length = l12.length) ?_ ?_
    ·
     have hm := hj1006
     refine c_block ?_
     refine c_loopM (unc3 fun x1042 x1043 l1044 => fun b1037 e' hp' => ∃ (hs1040 : Hp), [(0, .slice A3 (l1044).length c4), (1, .int .i64 (x7)), (2, .func (.func 80) #[] #[.pointer (some ⟨g6, 0, none⟩)]), (6, .int .i64 (x943)), (7, .int .i64 (x1042)), (8, .int .i64 (x1043))] = e' ∧ (g6, Cl 22 [.slice A8 (l11).length c9]) :: (hs1040 ++ R) = hp' ∧ b938.Le b1037 ∧ OS 3 (OT.fr (RT.int .i64)) b1037.w (.slice A3 l1044.length c4) l1044 hs1040 ∧ l1044.length = l12.length) hm (e' := [(0, .slice A3 (l944).length c4), (1, .int .i64 (x7)), (2, .func (.func 80) #[] #[.pointer (some ⟨g6, 0, none⟩)]), (6, .int .i64 (x943)), (7, .int .i64 (0)), (8, .int .i64 (2 * x943))]) (hp' := (g6, Cl 22 [.slice A8 (l11).length c9]) :: (hs941 ++ R)) ⟨rfl, rfl, rfl, rfl, rfl, rfl, trivial⟩ (.cons_cons _ (sub_app hs941 (.refl _))) ⟨hs941, rfl, rfl, (Base.Le.refl _), h942, hln945⟩ ?_
     rintro ⟨x1042, x1043, l1044⟩ b1037 _ _ oL1007 ⟨hs1040, rfl, rfl, hle1038, h1041, hln1045⟩ hstepL1007 houtL1007
     unfold mSlicesStableCmpFunc_L1007 at hstepL1007
     have hm := (unc3E hstepL1007)
     refine c_seq ?_
     refine c_seq ?_
     refine c_region ?_
     refine t_st rfl (st_move rfl) ?_
     refine t_st rfl (st_move rfl) ?_
     refine t_st rfl (st_leq rfl rfl) ?_
     refine t_nil ?_
     refine x_then_normal ?_
     refine c_cond _ rfl (fun hc1046 => ?_) (fun hc1046 => ?_)
     ·
      rw [if_pos (of_decide_eq_true hc1046)] at hm
      refine c_skip ?_
      refine x_then_normal ?_
      refine c_block ?_
      refine c_seq ?_
      refine c_region ?_
      refine t_st rfl (st_move rfl) ?_
      refine t_st rfl (st_move rfl) ?_
      refine t_st rfl (st_move rfl) ?_
      refine t_st rfl (st_move rfl) ?_
      obtain ⟨_, h1047, hm⟩ := bindS hm
      have h1047 := (chk_some h1047).2
      refine t_st rfl (st_add rfl rfl h1047) ?_
      refine t_st rfl (st_move rfl) ?_
      refine t_st rfl (st_move rfl) ?_
      obtain ⟨l1048, hcl1049, hm⟩ := bindS hm
      obtain ⟨Nhcl1049, hcl1049⟩ := lim_some hcl1049
      refine t_out1 [_] [] hs1040 R rfl ?_
      refine t_callG _ rfl call120 rfl (cSlicesSymMergeCmpFunc Nhcl1049 _ _ x1042 (x1042 + x943) x1043 l11 l1044 g6 A8 c9 A3 c4 hs1040 (h10.le (hle596.trans (hle651.trans (hle939.trans hle1038)))) h1041 l1048 hcl1049) ?_
      rintro _ b1050 _ hle1051 ⟨hs1052, rfl, rfl, h1053, h1054⟩
      refine t_in1 [_] [] hs1052 R rfl ?_
      refine t_resp 0 rfl (v' := .slice A3 (l1048).length c4) (by rw [h1054]) ?_
      refine t_nil ?_
      refine x_then_normal ?_
      refine c_seq ?_
      refine c_region ?_
      refine t_st rfl (st_move rfl) ?_
      refine t_st rfl (st_assign rfl) ?_
      refine t_nil ?_
      refine x_then_normal ?_
      refine c_region ?_
      refine t_st rfl (st_move rfl) ?_
      refine t_st rfl (st_move rfl) ?_
      obtain ⟨_, h1055, hm⟩ := bindS hm
      have h1055 := (chk_some h1055).2
      refine t_st rfl (st_mul rfl rfl h1055) ?_
      obtain ⟨_, h1056, hm⟩ := bindS hm
      have h1056 := (chk_some h1056).2
      refine t_st rfl (st_add rfl rfl h1056) ?_
      refine t_st rfl (st_assign rfl) ?_
      refine t_nil ?_
      refine x_block_normal ?_
      exact x_againM (x1043, x1043 + (2 * x943), l1048) (Option.some.inj hm).symm (e' := [(0, .slice A3 (l1048).length c4), (1, .int .i64 (x7)), (2, .func (.func 80) #[] #[.pointer (some ⟨g6, 0, none⟩)]), (6, .int .i64 (x943)), (7, .int .i64 (x1043)), (8, .int .i64 (x1043 + (2 * x943)))]) (hp' := (g6, Cl 22 [.slice A8 (l11).length c9]) :: (hs1052 ++ R)) ⟨rfl, rfl, rfl, rfl, rfl, rfl, trivial⟩ (.cons_cons _ (sub_app hs1052 (.refl _))) ⟨hs1052, rfl, rfl, ((hle1038.trans hle1051)), h1053, (h1054.trans hln1045)⟩
     ·
      rw [if_neg (of_decide_eq_false hc1046)] at hm
      refine c_exit ?_
      refine x_then_exit ?_
      refine x_then_exit ?_
      refine x_block_out ?_
      have hm := congrArg some (houtL1007 _ (Option.some.inj hm).symm)
      obtain ⟨rfl, rfl⟩ := some2 hm
      exact x_join (e' := [(0, .slice A3 (l1044).length c4), (1, .int .i64 (x7)), (2, .func (.func 80) #[] #[.pointer (some ⟨g6, 0, none⟩)]), (6, .int .i64 (x943)), (7, .int .i64 (x1042))]) (hp' := (g6, Cl 22 [.slice A8 (l11).length c9]) :: (hs1040 ++ R)) ⟨rfl, rfl, rfl, rfl, rfl, trivial⟩ (.cons_cons _ (sub_app hs1040 (.refl _))) ⟨hs1040, rfl, rfl, hle1038, h1041, hln1045⟩
    ·
     rintro b998 _ _ ⟨hs1001, rfl, rfl, hle999, h1002, hln1005⟩
     have hm := (unc2E hk1006)
     obtain ⟨l1071, hj1073, hk1073⟩ := bindS hm
     refine c_join (fun b1066 e' hp' => ∃ (hs1069 : Hp), [(0, .slice A3 (l1071).length c4), (1, .int .i64 (x7)), (2, .func (.func 80) #[] #[.pointer (some ⟨g6, 0, none⟩)]), (6, .int .i64 (x943))] = e' ∧ (g6, Cl 22 [.slice A8 (l11).length c9]) :: (hs1069 ++ R) = hp' ∧ b998.Le b1066 ∧ OS 3 (OT.fr (RT.int .i64)) b1066.w (.slice A3 l1071.length c4) l1071 hs1069 ∧ l1071.length = l12.length) ?_ ?_
     ·
      have hm := hj1073
      refine c_seq ?_
      refine c_region ?_
      refine t_st rfl (st_move rfl) ?_
      refine t_st rfl (st_move rfl) ?_
      obtain ⟨_, h1074, hm⟩ := bindS hm
      have h1074 := (chk_some h1074).2
      refine t_st rfl (st_add rfl rfl h1074) ?_
      refine t_st rfl (st_assign rfl) ?_
      refine t_nil ?_
      refine x_then_normal ?_
      refine c_seq ?_
      refine c_region ?_
      refine t_st rfl (st_move rfl) ?_
      refine t_st rfl (st_move rfl) ?_
      refine t_st rfl (st_lss rfl rfl) ?_
      refine t_nil ?_
      refine x_then_normal ?_
      refine c_cond _ rfl (fun hc1075 => ?_) (fun hc1075 => ?_)
      ·
       rw [if_pos (of_decide_eq_true hc1075)] at hm
       refine c_region ?_
       refine t_st rfl (st_move rfl) ?_
       refine t_st rfl (st_move rfl) ?_
       refine t_st rfl (st_move rfl) ?_
       refine t_st rfl (st_move rfl) ?_
       refine t_st rfl (st_move rfl) ?_
       obtain ⟨l1076, hcl1077, hm⟩ := bindS hm
       obtain ⟨Nhcl1077, hcl1077⟩ := lim_some hcl1077
       refine t_out1 [_] [] hs1001 R rfl ?_
       refine t_callG _ rfl call120 rfl (cSlicesSymMergeCmpFunc Nhcl1077 _ _ x1003 (x1003 + x943) x7 l11 l1004 g6 A8 c9 A3 c4 hs1001 (h10.le (hle596.trans (hle651.trans (hle939.trans hle999)))) h1002 l1076 hcl1077) ?_
       rintro _ b1078 _ hle1079 ⟨hs1080, rfl, rfl, h1081, h1082⟩
       refine t_in1 [_] [] hs1080 R rfl ?_
       refine t_resp 0 rfl (v' := .slice A3 (l1076).length c4) (by rw [h1082]) ?_
       refine t_nil ?_
       obtain rfl := some1 hm
       exact x_join (e' := [(0, .slice A3 (l1076).length c4), (1, .int .i64 (x7)), (2, .func (.func 80) #[] #[.pointer (some ⟨g6, 0, none⟩)]), (6, .int .i64 (x943))]) (hp' := (g6, Cl 22 [.slice A8 (l11).length c9]) :: (hs1080 ++ R)) ⟨rfl, rfl, rfl, rfl, trivial⟩ (.cons_cons _ (sub_app hs1080 (.refl _))) ⟨hs1080, rfl, rfl, hle1079, h1081, (h1082.trans hln1005)⟩
      ·
       rw [if_neg (of_decide_eq_false hc1075)] at hm
       refine c_skip ?_
       obtain rfl := some1 hm
       exact x_join (e' := [(0, .slice A3 (l1004).length c4), (1, .int .i64 (x7)), (2, .func (.func 80) #[] #[.pointer (some ⟨g6, 0, none⟩)]), (6, .int .i64 (x943))]) (hp' := (g6, Cl 22 [.slice A8 (l11).length c9]) :: (hs1001 ++ R)) ⟨rfl, rfl, rfl, rfl, trivial⟩ (.cons_cons _ (sub_app hs1001 (.refl _))) ⟨hs1001, rfl, rfl, (Base.Le.refl _), h1002, hln1005⟩
     ·
      rintro b1066 _ _ ⟨hs1069, rfl, rfl, hle1067, h1070, hln1072⟩
      have hm := hk1073
      refine c_region ?_
      refine t_st rfl (st_move rfl) ?_
      obtain ⟨_, h1083, hm⟩ := bindS hm
      have h1083 := (chk_some h1083).2
      refine t_st rfl (st_mul rfl rfl h1083) ?_
      refine t_st rfl (st_assign rfl) ?_
      refine t_nil ?_
      refine x_block_normal ?_
      exact x_againM (x943 * 2, l1071) (Option.some.inj hm).symm (e' := [(0, .slice A3 (l1071).length c4), (1, .int .i64 (x7)), (2, .func (.func 80) #[] #[.pointer (some ⟨g6, 0, none⟩)]), (6, .int .i64 (x943 * 2))]) (hp' := (g6, Cl 22 [.slice A8 (l11).length c9]) :: (hs1069 ++ R)) ⟨rfl, rfl, rfl, rfl, trivial⟩ (.cons_cons _ (sub_app hs1069 (.refl _))) ⟨hs1069, rfl, rfl, ((hle939.trans (hle999.trans hle1067))), h1070, hln1072⟩
   ·
    rw [if_neg (of_decide_eq_false hc946)] at hm
    refine c_exit ?_
    refine x_then_exit ?_
    refine x_then_exit ?_
    refine x_block_out ?_
    have hm := congrArg some (houtL655 _ (Option.some.inj hm).symm)
    obtain rfl := some1 hm
    exact endM (hle596.trans (hle651.trans hle939)) rfl (.cons_cons _ (sub_app hs941 (.refl _))) ⟨hs941, rfl, rfl, h942, hln945⟩

set_option maxRecDepth 20000 in
theorem cSlicesSortStableFunc (b : Base) (R : Hp) (l10 : (List FleetTask)) (l11 : (List Int)) (g6 : Nat) (A7 : Option Addr) (c8 : Nat) (A3 : Option Addr) (c4 : Nat) (hs2 : Hp) (h9 : FZ rFleetTask b.w A7 c8 l10) (h5 : OS 3 (OT.fr (RT.int .i64)) b.w (.slice A3 l11.length c4) l11 hs2) (l22 : (List Int)) (hm : mSlicesSortStableFunc l10 l11 = some l22) :
    CallsG Try.prog 79 [.slice A3 (l11).length c4, .func (.func 80) #[] #[.pointer (some ⟨g6, 0, none⟩)]] b ((g6, Cl 22 [.slice A7 (l10).length c8]) :: (hs2 ++ R)) (fun v b' hp' => ∃ (hs20 : Hp), .tuple #[] = v ∧ (g6, Cl 22 [.slice A7 (l10).length c8]) :: (hs20 ++ R) = hp' ∧ OS 3 (OT.fr (RT.int .i64)) b'.w (.slice A3 l22.length c4) l22 hs20 ∧ l22.length = l11.length) := by
  refine fn_enterG 9 Try.func79 rfl Try.ntmps79 rfl ?_
  unfold mSlicesSortStableFunc at hm
  refine c_region ?_
  refine t_st rfl (st_move rfl) ?_
  refine t_st rfl (st_move rfl) ?_
  refine t_st rfl (st_len rfl sl45) ?_
  refine t_st rfl (st_move rfl) ?_
  obtain ⟨l24, hcl25, hm⟩ := bindS hm
  refine t_out1 [_] [] hs2 R rfl ?_
  refine t_callG _ rfl call102 rfl (cSlicesStableCmpFunc _ _ (l11.length : Int) l10 l11 g6 A7 c8 A3 c4 hs2 h9 h5 l24 hcl25) ?_
  rintro _ b26 _ hle27 ⟨hs28, rfl, rfl, h29, h30⟩
  refine t_in1 [_] [] hs28 R rfl ?_
  refine t_nil ?_
  obtain rfl := some1 hm
  exact endM hle27 rfl (.cons_cons _ (sub_app hs28 (.refl _))) ⟨hs28, rfl, rfl, h29, (h30.trans rfl)⟩

set_option maxRecDepth 20000 in
theorem cFleetOrder (b : Base) (R : Hp) (l4 : (List FleetTask)) (A1 : Option Addr) (c2 : Nat) (h3 : FZ rFleetTask b.w A1 c2 l4) (l95 : (List Int)) (hm : mFleetOrder l4 = some l95) :
    CallsG Try.prog 44 [.slice A1 (l4).length c2] b (R) (fun v b' hp' => ∃ (A92 : Option Addr), ∃ (c93 : Nat), ∃ (hs91 : Hp), .slice A92 (l95).length c93 = v ∧ (hs91 ++ R) = hp' ∧ OS 3 (OT.fr (RT.int .i64)) b'.w (.slice A92 l95.length c93) l95 hs91) := by
  refine fn_enterG 22 Try.func44 rfl Try.ntmps44 rfl ?_
  unfold mFleetOrder at hm
  refine c_seq ?_
  refine c_region ?_
  refine t_do rfl (u_box _ rfl rfl) ?_
  rintro _ _ ⟨g96, rfl, rfl⟩
  refine t_st rfl (st_assign rfl) ?_
  refine t_nil ?_
  refine x_then_normal ?_
  refine c_seq ?_
  refine c_region ?_
  refine t_st rfl (st_load 0 rfl one22 rfl rfl) ?_
  refine t_st rfl (st_len rfl sl22) ?_
  obtain ⟨m97, h98, hm⟩ := bindS hm
  have h98 := mkLen_some h98
  refine t_do rfl (u_mkOS (r := (RT.int .i64)) [_] R [.int .i64 (0)] 0 m97 rfl h98.1 rfl rfl sl45 inf3 rfl rfl rfl (by decide) rfl h98.2.1 h98.2.2) ?_
  rintro _ _ ⟨hs99, rfl, h100⟩
  obtain ⟨A101, c102, rfl, _⟩ := h100.form
  refine t_st rfl (st_assign rfl) ?_
  refine t_nil ?_
  refine x_then_normal ?_
  refine c_seq ?_
  refine c_seq ?_
  refine c_region ?_
  refine t_st rfl (st_move rfl) ?_
  refine t_st rfl (st_len rfl sl45) ?_
  refine t_st rfl (st_move rfl) ?_
  refine t_nil ?_
  refine x_then_normal ?_
  refine c_block ?_
  have hb104 : (List.replicate m97 (0 : Int)).length ≤ 9223372036854775807 := (OS.len h100)
  obtain ⟨l151, hl154, hk155⟩ := bindS hm
  refine c_forS (fun k153 => fun l151 => fun b146 e' hp' => ∃ (hs149 : Hp), [(1, .pointer (some ⟨g96, 0, none⟩)), (3, .slice A101 (l151).length c102), (9, .int .i64 (((List.replicate m97 (0 : Int)).length : Int))), (10, .int .i64 ((k153 : Int)))] = e' ∧ (g96, Cl 22 [.slice A1 (l4).length c2]) :: (hs149 ++ R) = hp' ∧ b.Le b146 ∧ OS 3 (OT.fr (RT.int .i64)) b146.w (.slice A101 l151.length c102) l151 hs149 ∧ l151.length = m97) hl154 (e' := [(1, .pointer (some ⟨g96, 0, none⟩)), (3, .slice A101 (List.replicate m97 (0 : Int)).length c102), (9, .int .i64 (((List.replicate m97 (0 : Int)).length : Int))), (10, .int .i64 0)]) (hp' := (g96, Cl 22 [.slice A1 (l4).length c2]) :: (hs99 ++ R)) ⟨rfl, rfl, rfl, rfl, trivial⟩ (.cons_cons _ (sub_app hs99 (.refl _))) ⟨hs99, rfl, rfl, (Base.Le.refl _), h100, List.length_replicate⟩ ?_ ?_
  ·
   rintro k153 l151 b146 _ _ oL103 hknL103 ⟨hs149, rfl, rfl, hle147, h150, hln152⟩ hstepL103
   unfold mFleetOrder_L103 at hstepL103
   have hm := hstepL103
   refine c_seq ?_
   refine c_region ?_
   refine t_st rfl (st_lss_t rfl rfl (by omega)) ?_
   refine t_nil ?_
   refine x_then_normal ?_
   refine c_seq ?_
   refine c_cond_t rfl ?_
   refine c_skip ?_
   refine x_then_normal ?_
   refine c_seq ?_
   refine c_block ?_
   refine c_seq ?_
   refine c_region ?_
   refine t_st rfl (st_move rfl) ?_
   refine t_st rfl (st_assign rfl) ?_
   refine t_nil ?_
   refine x_then_normal ?_
   refine c_region ?_
   refine t_st rfl (st_move rfl) ?_
   refine t_st rfl (st_move rfl) ?_
   refine t_st rfl (st_move rfl) ?_
   obtain ⟨x156, h157, hm⟩ := bindS hm
   obtain ⟨j158, hj159, hx160⟩ := idx_some h157
   obtain ⟨cs161, hs166, P167, P168, hq169, hr162, hcs163, hA164, hlt165, hb170, hho171⟩ := OS.get (sz := 1) rfl (by decide) h150 hx160
   obtain ⟨rfl, rfl⟩ := hr162
   refine t_st rfl (st_index_old j158 rfl rfl hj159 hlt165 hA164 sl45) ?_
   refine t_do rfl (u_putOS hj159 (sz := 1) (a' := (k153 : Int)) rfl [_] R 0 1 [.int .i64 ((k153 : Int))] rfl h150 hx160 rfl rfl rfl siz3 rfl (by intro u hu; simp only [List.mem_cons, List.not_mem_nil, or_false] at hu; subst hu; rfl) (fun cs hsj hh => by obtain ⟨rfl, rfl⟩ := hh; exact ⟨by decide, rfl, rfl⟩)) ?_
   rintro _ _ ⟨hs172, rfl, h173⟩
   refine t_resp 3 rfl (v' := .slice A101 (put l151 (k153 : Int) (k153 : Int)).length c102) (by simp only [put_length]) ?_
   refine t_nil ?_
   refine x_block_normal ?_
   refine x_then_normal ?_
   refine c_region ?_
   refine t_st rfl (st_add rfl rfl (by omega)) ?_
   refine t_st rfl (st_move rfl) ?_
   refine t_nil ?_
   obtain rfl := some1 hm
   exact x_againS (e' := [(1, .pointer (some ⟨g96, 0, none⟩)), (3, .slice A101 (put l151 (k153 : Int) (k153 : Int)).length c102), (9, .int .i64 (((List.replicate m97 (0 : Int)).length : Int))), (10, .int .i64 ((k153 : Int) + 1))]) (hp' := (g96, Cl 22 [.slice A1 (l4).length c2]) :: (hs172 ++ R)) ⟨rfl, rfl, rfl, rfl, trivial⟩ (.cons_cons _ (sub_app hs172 (.refl _))) ⟨hs172, rfl, rfl, (hle147), h173, ((put_length _ _ _).trans hln152)⟩
  ·
   rintro b146 _ _ ⟨hs149, rfl, rfl, hle147, h150, hln152⟩
   have hm := hk155
   refine c_seq ?_
   refine c_region ?_
   refine t_st rfl (st_lss_f rfl rfl (by omega)) ?_
   refine t_nil ?_
   refine x_then_normal ?_
   refine c_seq ?_
   refine c_cond_f rfl ?_
   refine c_exit ?_
   refine x_then_exit ?_
   refine x_then_exit ?_
   refine x_block_out ?_
   refine x_then_normal ?_
   refine c_seq ?_
   refine c_region ?_
   refine t_st rfl (st_move rfl) ?_
   refine t_st rfl (st_func _ _ rfl rfl) ?_
   obtain ⟨l174, hcl175, hm⟩ := bindS hm
   refine t_out1 [_] [] hs149 R rfl ?_
   refine t_callG _ rfl call79 rfl (cSlicesSortStableFunc _ _ l4 l151 g96 A1 c2 A101 c102 hs149 (h3.le hle147) h150 l174 hcl175) ?_
   rintro _ b176 _ hle177 ⟨hs178, rfl, rfl, h179, h180⟩
   refine t_in1 [_] [] hs178 R rfl ?_
   refine t_resp 3 rfl (v' := .slice A101 (l174).length c102) (by rw [h180]) ?_
   refine t_nil ?_
   refine x_then_normal ?_
   refine c_seq ?_
   refine c_region ?_
   refine t_st rfl (st_move rfl) ?_
   refine t_st rfl (st_assign rfl) ?_
   refine t_nil ?_
   refine x_then_normal ?_
   refine c_ret ?_
   obtain rfl := some1 hm
   exact retM (rs := [.tmp 2]) [.slice A101 (l174).length c102] (hle147.trans hle177) (by decide) rfl ⟨rfl, trivial⟩ rfl (hp' := (hs178 ++ R)) (.cons _ (sub_app hs178 (.refl _))) ⟨A101, c102, hs178, rfl, rfl, h179⟩

set_option maxRecDepth 20000 in
theorem cFleetFollows (b : Base) (R : Hp) (s1 : FleetTask) (s2 : FleetTask) (x3 : Int) (x14 : Bool) (hm : mFleetFollows s1 s2 x3 = some x14) :
    CallsG Try.prog 45 [.agg #[.int .i64 (s1.From), .int .i64 (s1.To), .int .i64 (s1.Dep), .int .i64 (s1.Arr), .int .i64 (s1.Km), .int .i64 (s1.Units)], .agg #[.int .i64 (s2.From), .int .i64 (s2.To), .int .i64 (s2.Dep), .int .i64 (s2.Arr), .int .i64 (s2.Km), .int .i64 (s2.Units)], .int .i64 (x3)] b (R) (fun v b' hp' => .bool (x14) = v ∧ R = hp') := by
  refine fn_enterG 21 Try.func45 rfl Try.ntmps45 rfl ?_
  unfold mFleetFollows at hm
  refine c_seq ?_
  refine c_region ?_
  refine t_do rfl (u_box _ rfl rfl) ?_
  rintro _ _ ⟨g15, rfl, rfl⟩
  refine t_do rfl (u_box _ rfl rfl) ?_
  rintro _ _ ⟨g16, rfl, rfl⟩
  refine t_st rfl (st_assign rfl) ?_
  refine t_nil ?_
  refine x_then_normal ?_
  obtain ⟨x21, hj22, hk22⟩ := bindS hm
  refine c_join (fun b19 e' hp' => [(6, .bool (x21))] = e' ∧ R = hp' ∧ b.Le b19) ?_ ?_
  ·
   have hm := hj22
   refine c_region ?_
   refine t_st rfl (st_field rfl fld36_0) ?_
   refine t_st rfl (st_load 0 rfl one3 rfl rfl) ?_
   refine t_st rfl (st_field rfl fld36_1) ?_
   refine t_st rfl (st_load 1 rfl one3 rfl rfl) ?_
   refine t_bool rfl (st_eql rfl rfl) (fun hc23 => ?_) (fun hc23 => ?_)
   ·
    rw [if_pos hc23] at hm
    refine t_st rfl (st_move rfl) ?_
    refine t_yes 12 rfl rfl rfl ?_
    refine t_st rfl (st_field rfl fld36_2) ?_
    refine t_yes 12 rfl rfl rfl ?_
    refine t_st rfl (st_load 0 rfl one3 rfl rfl) ?_
    refine t_yes 12 rfl rfl rfl ?_
    refine t_st rfl (st_field rfl fld36_3) ?_
    refine t_yes 12 rfl rfl rfl ?_
    refine t_st rfl (st_load 1 rfl one3 rfl rfl) ?_
    refine t_yes 12 rfl rfl rfl ?_
    refine t_st rfl (st_move rfl) ?_
    refine t_yes 12 rfl rfl rfl ?_
    obtain ⟨_, h24, hm⟩ := bindS hm
    have h24 := (chk_some h24).2
    refine t_st rfl (st_add rfl rfl h24) ?_
    refine t_yes 12 rfl rfl rfl ?_
    refine t_st rfl (st_geq rfl rfl) ?_
    refine t_st rfl (st_pick_t rfl rfl) ?_
    refine t_st rfl (st_assign rfl) ?_
    refine t_nil ?_
    obtain rfl := some1 hm
    exact x_join (e' := [(6, .bool (decide ((s1.Arr + x3) ≤ s2.Dep)))]) (hp' := R) ⟨rfl, trivial⟩ (.cons _ (.cons _ (.refl _))) ⟨rfl, rfl, (Base.Le.refl _)⟩
   ·
    rw [if_neg hc23] at hm
    refine t_st rfl (st_move rfl) ?_
    refine t_no 12 rfl rfl rfl rfl rfl ?_
    refine t_no 12 rfl rfl rfl rfl rfl ?_
    refine t_no 12 rfl rfl rfl rfl rfl ?_
    refine t_no 12 rfl rfl rfl rfl rfl ?_
    refine t_no 12 rfl rfl rfl rfl rfl ?_
    refine t_no 12 rfl rfl rfl rfl rfl ?_
    refine t_no 12 rfl rfl rfl rfl rfl ?_
    refine t_st rfl (st_pick_f rfl rfl) ?_
    refine t_st rfl (st_assign rfl) ?_
    refine t_nil ?_
    obtain rfl := some1 hm
    exact x_join (e' := [(6, .bool (false))]) (hp' := R) ⟨rfl, trivial⟩ (.cons _ (.cons _ (.refl _))) ⟨rfl, rfl, (Base.Le.refl _)⟩
  ·
   rintro b19 _ _ ⟨rfl, rfl, hle20⟩
   have hm := hk22
   refine c_ret ?_
   obtain rfl := some1 hm
   exact retM (rs := [.tmp 6]) [.bool (x21)] hle20 (by decide) rfl ⟨rfl, trivial⟩ rfl (hp' := R) (.refl _) ⟨rfl, rfl⟩

set_option maxRecDepth 20000 in
theorem cFleetTurns (b : Base) (R : Hp) (l4 : (List FleetTask)) (x5 : Int) (A1 : Option Addr) (c2 : Nat) (h3 : FZ rFleetTask b.w A1 c2 l4) (x12705 : Int) (l12706 : (List (List Int))) (hm : mFleetTurns l4 x5 = some (x12705, l12706)) :
    CallsG Try.prog 13 [.slice A1 (l4).length c2, .int .i64 (x5)] b (R) (fun v b' hp' => ∃ (A12702 : Option Addr), ∃ (c12703 : Nat), ∃ (hs12701 : Hp), .tuple #[.slice A12702 (l12706).length c12703, .int .i64 (x12705)] = v ∧ (hs12701 ++ R) = hp' ∧ OS 45 (OT.list 3 (OT.fr (RT.int .i64))) b'.w (.slice A12702 l12706.length c12703) l12706 hs12701) := by
  refine fn_enterG 113 Try.func13 rfl Try.ntmps13 rfl ?_
  unfold mFleetTurns at hm
  refine c_seq ?_
  refine c_region ?_
  refine t_st rfl (st_assign rfl) ?_
  refine t_st rfl (st_assign rfl) ?_
  refine t_nil ?_
  refine x_then_normal ?_
  refine c_seq ?_
  refine c_seq ?_
  refine c_region ?_
  refine t_st rfl (st_move rfl) ?_
  refine t_st rfl (st_move rfl) ?_
  obtain ⟨x12707, hcl12708, hm⟩ := bindS hm
  refine t_do rfl (u_callW0 _ call43 rfl (fun w ho => cFleetCheckTurn _ [] l4 x5 A1 c2 (h3.old ho) x12707 hcl12708) (fun _ _ _ h => h.2.symm)) ?_
  rintro _ _ ⟨⟨_, rfl, _⟩, rfl⟩
  refine t_st rfl (st_assign rfl) ?_
  refine t_nil ?_
  refine x_then_normal ?_
  refine c_seq ?_
  refine c_region ?_
  refine t_st rfl (st_move rfl) ?_
  refine t_st rfl (st_neq rfl rfl) ?_
  refine t_nil ?_
  refine x_then_normal ?_
  refine c_cond _ rfl (fun hc12709 => ?_) (fun hc12709 => ?_)
  ·
   rw [if_pos (of_decide_eq_true hc12709)] at hm
   refine c_seq ?_
   refine c_region ?_
   refine t_st rfl (st_move rfl) ?_
   refine t_st rfl (st_assign rfl) ?_
   refine t_st rfl (st_assign rfl) ?_
   refine t_nil ?_
   refine x_then_normal ?_
   refine c_ret ?_
   refine x_then_ret ?_
   obtain ⟨rfl, rfl⟩ := some2 hm
   exact retM (rs := [.tmp 4, .tmp 5]) [.slice none 0 0, .int .i64 (x12707)] (Base.Le.refl _) (by decide) rfl ⟨rfl, ⟨rfl, trivial⟩⟩ rfl (hp' := ([] ++ R)) (.refl _) ⟨none, 0, [], rfl, rfl, OS.nil⟩
  ·
   rw [if_neg (of_decide_eq_false hc12709)] at hm
   refine c_skip ?_
   refine x_then_normal ?_
   refine c_seq ?_
   refine c_region ?_
   refine t_st rfl (st_assign rfl) ?_
   refine t_nil ?_
   refine x_then_normal ?_
   refine c_seq ?_
   refine c_seq ?_
   refine c_region ?_
   refine t_st rfl (st_move rfl) ?_
   obtain ⟨l12710, hcl12711, hm⟩ := bindS hm
   refine t_callG _ rfl call44 rfl (cFleetOrder _ _ l4 A1 c2 h3 l12710 hcl12711) ?_
   rintro _ b12712 _ hle12713 ⟨A12714, c12715, hs12716, rfl, rfl, h12717⟩
   refine t_in1 [] [] hs12716 R rfl ?_
   refine t_st rfl (st_len rfl sl45) ?_
   refine t_st rfl (st_move rfl) ?_
   refine t_nil ?_
   refine x_then_normal ?_
   refine c_block ?_
   have hb12719 : l12710.length ≤ 9223372036854775807 := (OS.len h12717)
   obtain ⟨l21083, hl21085, hk21086⟩ := bindS hm
   refine c_forS (fun k21084 => fun l21083 => fun b21076 e' hp' => ∃ (A21080 : Option Addr), ∃ (c21081 : Nat), ∃ (hs21079 : Hp), [(0, .slice A1 (l4).length c2), (1, .int .i64 (x5)), (7, .slice A21080 (l21083).length c21081), (21, .slice A12714 (l12710).length c12715), (22, .int .i64 ((l12710.length : Int))), (23, .int .i64 ((k21084 : Int)))] = e' ∧ (hs21079 ++ (hs12716 ++ R)) = hp' ∧ b12712.Le b21076 ∧ OS 45 (OT.list 3 (OT.fr (RT.int .i64))) b21076.w (.slice A21080 l21083.length c21081) l21083 hs21079) hl21085 (e' := [(0, .slice A1 (l4).length c2), (1, .int .i64 (x5)), (7, .slice none 0 0), (21, .slice A12714 (l12710).length c12715), (22, .int .i64 ((l12710.length : Int))), (23, .int .i64 0)]) (hp' := ([] ++ (hs12716 ++ R))) ⟨rfl, rfl, rfl, rfl, rfl, rfl, trivial⟩ (sub_app hs12716 (.refl _)) ⟨none, 0, [], rfl, rfl, (Base.Le.refl _), OS.nil⟩ ?_ ?_
   ·
    rintro k21084 l21083 b21076 _ _ oL12718 hknL12718 ⟨A21080, c21081, hs21079, rfl, rfl, hle21077, h21082⟩ hstepL12718
    unfold mFleetTurns_L12718 at hstepL12718
    have hm := hstepL12718
    refine c_seq ?_
    refine c_region ?_
    refine t_st rfl (st_lss_t rfl rfl (by omega)) ?_
    refine t_nil ?_
    refine x_then_normal ?_
    refine c_seq ?_
    refine c_cond_t rfl ?_
    refine c_skip ?_
    refine x_then_normal ?_
    refine c_seq ?_
    refine c_block ?_
    refine c_seq ?_
    refine c_region ?_
    obtain ⟨x21087, h21088, hm⟩ := bindS hm
    obtain ⟨j21089, hj21090, hx21091⟩ := idx_some h21088
    obtain ⟨cs21092, hs21097, P21098, P21099, hq21100, hr21093, hcs21094, hA21095, hlt21096, hb21101, hho21102⟩ := OS.get (sz := 1) rfl (by decide) (h12717.le hle21077) hx21091
    obtain ⟨rfl, rfl⟩ := hr21093
    refine t_st rfl (st_index_old j21089 rfl rfl hj21090 hlt21096 hA21095 sl45) ?_
    refine t_st rfl (st_load_rd rfl one3 (fun w ho => hcs21094 w _ ho (sub_skip hs21079 (List.sublist_append_left _ _)) 0 _ rfl)) ?_
    refine t_st rfl (st_assign rfl) ?_
    refine t_nil ?_
    refine x_then_normal ?_
    refine c_seq ?_
    refine c_region ?_
    refine t_st rfl (st_move rfl) ?_
    refine t_st rfl (st_move rfl) ?_
    obtain ⟨x21103, h21104, hm⟩ := bindS hm
    obtain ⟨j21105, hj21106, hx21107⟩ := idx_some h21104
    obtain ⟨cs21108, hr21109, hcs21110, hA21111, hlt21112⟩ := FZ.get (sz := 6) rfl (by decide) (h3.le (hle12713.trans hle21077)) hx21107
    obtain ⟨_, _, rfl, rfl, ⟨_, _, rfl, rfl, ⟨_, _, rfl, rfl, ⟨_, _, rfl, rfl, ⟨_, _, rfl, rfl, rfl⟩⟩⟩⟩⟩ := hr21109
    refine t_st rfl (st_index_old j21105 rfl rfl hj21106 hlt21112 hA21111 sl22) ?_
    refine t_st rfl (st_field_old rfl hA21111 fld36_5) ?_
    refine t_st rfl (st_load_old rfl one3 (hcs21110 5 _ rfl)) ?_
    refine t_st rfl (st_move rfl) ?_
    refine t_nil ?_
    refine x_then_normal ?_
    refine c_block ?_
    obtain ⟨_, h21114, hm⟩ := bindS hm
    have h21114 := (chk_some h21114).2
    refine c_front2 [] hs21079 hs12716 R rfl ?_
    refine c_front2 [] hs12716 hs21079 R rfl ?_
    obtain ⟨l23974, hl23976, hk23977⟩ := bindS hm
    refine c_forS (fun k23975 => fun l23974 => fun b23967 e' hp' => ∃ (A23971 : Option Addr), ∃ (c23972 : Nat), ∃ (hs23970 : Hp), [(0, .slice A1 (l4).length c2), (1, .int .i64 (x5)), (7, .slice A23971 (l23974).length c23972), (9, .int .i64 (x21087)), (21, .slice A12714 (l12710).length c12715), (22, .int .i64 ((l12710.length : Int))), (23, .int .i64 ((k21084 : Int))), (31, .int .i64 (x21103.Units)), (32, .int .i64 ((k23975 : Int)))] = e' ∧ (hs23970 ++ (hs12716 ++ R)) = hp' ∧ b21076.Le b23967 ∧ OS 45 (OT.list 3 (OT.fr (RT.int .i64))) b23967.w (.slice A23971 l23974.length c23972) l23974 hs23970) hl23976 (e' := [(0, .slice A1 (l4).length c2), (1, .int .i64 (x5)), (7, .slice A21080 (l21083).length c21081), (9, .int .i64 (x21087)), (21, .slice A12714 (l12710).length c12715), (22, .int .i64 ((l12710.length : Int))), (23, .int .i64 ((k21084 : Int))), (31, .int .i64 (x21103.Units)), (32, .int .i64 0)]) (hp' := (hs21079 ++ (hs12716 ++ R))) ⟨rfl, rfl, rfl, rfl, rfl, rfl, rfl, rfl, rfl, trivial⟩ (sub_app hs21079 (sub_app hs12716 (.refl _))) ⟨A21080, c21081, hs21079, rfl, rfl, (Base.Le.refl _), h21082⟩ ?_ ?_
    ·
     rintro k23975 l23974 b23967 _ _ oL21113 hknL21113 ⟨A23971, c23972, hs23970, rfl, rfl, hle23968, h23973⟩ hstepL21113
     unfold mFleetTurns_L21113 at hstepL21113
     have hm := hstepL21113
     refine c_seq ?_
     refine c_region ?_
     refine t_st rfl (st_lss_t rfl rfl (by omega)) ?_
     refine t_nil ?_
     refine x_then_normal ?_
     refine c_seq ?_
     refine c_cond_t rfl ?_
     refine c_skip ?_
     refine x_then_normal ?_
     refine c_seq ?_
     refine c_block ?_
     refine c_seq ?_
     refine c_region ?_
     refine t_st rfl (st_assign rfl) ?_
     refine t_nil ?_
     refine x_then_normal ?_
     refine c_seq ?_
     refine c_seq ?_
     refine c_region ?_
     refine t_st rfl (st_move rfl) ?_
     refine t_st rfl (st_len rfl sl26) ?_
     refine t_st rfl (st_move rfl) ?_
     refine t_nil ?_
     refine x_then_normal ?_
     refine c_block ?_
     have hb23979 : l23974.length ≤ 9223372036854775807 := (OS.len h23973)
     refine c_front2 [] hs23970 hs12716 R rfl ?_
     refine c_front2 [] hs12716 hs23970 R rfl ?_
     obtain ⟨x24883, hl24885, hk24886⟩ := bindS hm
     refine c_forS (fun k24884 => fun x24883 => fun b24881 e' hp' => [(0, .slice A1 (l4).length c2), (1, .int .i64 (x5)), (7, .slice A23971 (l23974).length c23972), (9, .int .i64 (x21087)), (10, .int .i64 (x24883)), (21, .slice A12714 (l12710).length c12715), (22, .int .i64 ((l12710.length : Int))), (23, .int .i64 ((k21084 : Int))), (31, .int .i64 (x21103.Units)), (32, .int .i64 ((k23975 : Int))), (34, .slice A23971 (l23974).length c23972), (35, .int .i64 ((l23974.length : Int))), (36, .int .i64 ((k24884 : Int)))] = e' ∧ (hs23970 ++ (hs12716 ++ R)) = hp' ∧ b23967.Le b24881) hl24885 (e' := [(0, .slice A1 (l4).length c2), (1, .int .i64 (x5)), (7, .slice A23971 (l23974).length c23972), (9, .int .i64 (x21087)), (10, .int .i64 ((-1))), (21, .slice A12714 (l12710).length c12715), (22, .int .i64 ((l12710.length : Int))), (23, .int .i64 ((k21084 : Int))), (31, .int .i64 (x21103.Units)), (32, .int .i64 ((k23975 : Int))), (34, .slice A23971 (l23974).length c23972), (35, .int .i64 ((l23974.length : Int))), (36, .int .i64 0)]) (hp' := (hs23970 ++ (hs12716 ++ R))) ⟨rfl, rfl, rfl, rfl, rfl, rfl, rfl, rfl, rfl, rfl, rfl, rfl, rfl, trivial⟩ (sub_app hs23970 (sub_app hs12716 (.refl _))) ⟨rfl, rfl, (Base.Le.refl _)⟩ ?_ ?_
     ·
      rintro k24884 x24883 b24881 _ _ oL23978 hknL23978 ⟨rfl, rfl, hle24882⟩ hstepL23978
      unfold mFleetTurns_L23978 at hstepL23978
      have hm := hstepL23978
      refine c_seq ?_
      refine c_region ?_
      refine t_st rfl (st_lss_t rfl rfl (by omega)) ?_
      refine t_nil ?_
      refine x_then_normal ?_
      refine c_seq ?_
      refine c_cond_t rfl ?_
      refine c_skip ?_
      refine x_then_normal ?_
      refine c_seq ?_
      refine c_block ?_
      refine c_seq ?_
      refine c_region ?_
      refine t_st rfl (st_move rfl) ?_
      obtain ⟨x24887, h24888, hm⟩ := bindS hm
      obtain ⟨j24889, hj24890, hx24891⟩ := idx_some h24888
      obtain ⟨cs24892, hs24897, P24898, P24899, hq24900, hr24893, hcs24894, hA24895, hlt24896, hb24901, hho24902⟩ := OS.get (sz := 1) rfl (by decide) (h23973.le hle24882) hx24891
      obtain ⟨v24903, rfl, h24904⟩ := hr24893
      obtain ⟨A24905, c24906, rfl, _⟩ := h24904.form
      refine t_st rfl (st_index_old j24889 rfl rfl hj24890 hlt24896 hA24895 sl26) ?_
      refine t_st rfl (st_load_rd rfl one45 (fun w ho => hcs24894 w _ ho (List.sublist_append_left _ _) 0 _ rfl)) ?_
      refine t_st rfl (st_assign rfl) ?_
      refine t_st rfl (st_assign rfl) ?_
      refine t_nil ?_
      refine x_then_normal ?_
      refine c_seq ?_
      refine c_region ?_
      refine t_st rfl (st_move rfl) ?_
      refine t_st rfl (st_move rfl) ?_
      refine t_st rfl (st_len rfl sl45) ?_
      obtain ⟨_, h24907, hm⟩ := bindS hm
      have h24907 := (chk_some h24907).2
      refine t_st rfl (st_sub rfl rfl h24907) ?_
      obtain ⟨x24908, h24909, hm⟩ := bindS hm
      obtain ⟨j24910, hj24911, hx24912⟩ := idx_some h24909
      obtain ⟨cs24913, hs24918, P24919, P24920, hq24921, hr24914, hcs24915, hA24916, hlt24917, hb24922, _⟩ := OS.get (sz := 1) rfl (by decide) h24904 hx24912
      obtain ⟨rfl, rfl⟩ := hr24914
      have hcs24923 := fun (w : World) (hp : Hp) (ho : Own b24881 hp w) (hh : hs23970.Sublist hp) => hcs24915 w hp ho ((show hs24897.Sublist hs23970 by rw [hq24900]; exact sub_skip _ (List.sublist_append_left _ _)).trans hh)
      refine t_st rfl (st_index_old j24910 rfl rfl hj24911 hlt24917 hA24916 sl45) ?_
      refine t_st rfl (st_load_rd rfl one3 (fun w ho => hcs24923 w _ ho (List.sublist_append_left _ _) 0 _ rfl)) ?_
      refine t_st rfl (st_assign rfl) ?_
      refine t_nil ?_
      refine x_then_normal ?_
      obtain ⟨x25130, hj25131, hk25131⟩ := bindS hm
      refine c_join (fun b25128 e' hp' => [(0, .slice A1 (l4).length c2), (1, .int .i64 (x5)), (7, .slice A23971 (l23974).length c23972), (9, .int .i64 (x21087)), (10, .int .i64 (x24883)), (11, .int .i64 ((k24884 : Int))), (21, .slice A12714 (l12710).length c12715), (22, .int .i64 ((l12710.length : Int))), (23, .int .i64 ((k21084 : Int))), (31, .int .i64 (x21103.Units)), (32, .int .i64 ((k23975 : Int))), (34, .slice A23971 (l23974).length c23972), (35, .int .i64 ((l23974.length : Int))), (36, .int .i64 ((k24884 : Int))), (89, .bool (x25130))] = e' ∧ (hs23970 ++ (hs12716 ++ R)) = hp' ∧ b24881.Le b25128) ?_ ?_
      ·
       have hm := hj25131
       by_cases hc25234 : x24908 ≠ x21087
       ·
        rw [if_pos hc25234] at hm
        obtain ⟨x25235, h25236, hm⟩ := bindS hm
        obtain ⟨x25245, h25246, hm⟩ := bindS hm
        obtain ⟨x25255, hcl25256, hm⟩ := bindS hm
        rcases Bool.eq_false_or_eq_true x25255 with hc25257 | hc25257
        ·
         rw [if_pos hc25257] at hm
         by_cases hc25258 : x24883 < 0
         ·
          rw [if_pos hc25258] at hm
          refine D_drawS ((hs23970 ++ (hs12716 ++ R))) mixed ?_
          refine E_in (sub_app hs23970 (sub_app hs12716 (.refl _))) ?_
          refine E_st 0 rfl (st_move rfl) ?_
          refine E_st 1 rfl (st_move rfl) ?_
          refine E_st 2 rfl (st_neq_t rfl rfl hc25234) ?_
          refine E_st 3 rfl (st_move rfl) ?_
          refine E_yes 4 50 rfl (st_move rfl) ?_
          refine E_yes 5 50 rfl (st_move rfl) ?_
          obtain ⟨j25237, hj25238, hx25239⟩ := idx_some h25236
          obtain ⟨cs25240, hr25241, hcs25242, hA25243, hlt25244⟩ := FZ.get (sz := 6) rfl (by decide) (h3.le (hle12713.trans (hle21077.trans (hle23968.trans hle24882)))) hx25239
          obtain ⟨_, _, rfl, rfl, ⟨_, _, rfl, rfl, ⟨_, _, rfl, rfl, ⟨_, _, rfl, rfl, ⟨_, _, rfl, rfl, rfl⟩⟩⟩⟩⟩ := hr25241
          refine E_yes 6 50 rfl (st_index_old j25237 rfl rfl hj25238 hlt25244 hA25243 sl22) ?_
          refine E_yes 7 50 rfl (st_loadN_old (vs := [.int .i64 (x25235.From), .int .i64 (x25235.To), .int .i64 (x25235.Dep), .int .i64 (x25235.Arr), .int .i64 (x25235.Km), .int .i64 (x25235.Units)]) 6 rfl agg36 hA25243 rfl (fun j u hu => hcs25242 j u hu)) ?_
          refine E_yes 8 50 rfl (st_move rfl) ?_
          refine E_yes 9 50 rfl (st_move rfl) ?_
          obtain ⟨j25247, hj25248, hx25249⟩ := idx_some h25246
          obtain ⟨cs25250, hr25251, hcs25252, hA25253, hlt25254⟩ := FZ.get (sz := 6) rfl (by decide) (h3.le (hle12713.trans (hle21077.trans (hle23968.trans hle24882)))) hx25249
          obtain ⟨_, _, rfl, rfl, ⟨_, _, rfl, rfl, ⟨_, _, rfl, rfl, ⟨_, _, rfl, rfl, ⟨_, _, rfl, rfl, rfl⟩⟩⟩⟩⟩ := hr25251
          refine E_yes 10 50 rfl (st_index_old j25247 rfl rfl hj25248 hlt25254 hA25253 sl22) ?_
          refine E_yes 11 50 rfl (st_loadN_old (vs := [.int .i64 (x25245.From), .int .i64 (x25245.To), .int .i64 (x25245.Dep), .int .i64 (x25245.Arr), .int .i64 (x25245.Km), .int .i64 (x25245.Units)]) 6 rfl agg36 hA25253 rfl (fun j u hu => hcs25252 j u hu)) ?_
          refine E_yes 12 50 rfl (st_move rfl) ?_
          refine E_out ?_
          refine D_all [13] (by kernel_rfl) rfl ?_
          refine R_doY (Base.Le.refl _) rfl rfl 50 rfl rfl rfl (u_callW0 _ call45 rfl (fun w ho => cFleetFollows _ [] x25235 x25245 x5 x25255 hcl25256) (fun _ _ _ h => h.2.symm)) ?_ ?_
          ·
           rintro _ _ ⟨⟨_, rfl, _⟩, rfl⟩
           refine ⟨.inr (sub_app hs23970 (sub_app hs12716 (.refl _))), ?_⟩
           refine d_resp 60 rfl (v' := .bool true) (by rw [hc25257]) ?_
           refine E_in (sub_app hs23970 (sub_app hs12716 (.refl _))) ?_
           refine E_st 14 rfl (st_pick_t rfl rfl) ?_
           refine E_st 15 rfl (st_move rfl) ?_
           refine E_yes 16 62 rfl (st_move rfl) ?_
           refine E_yes 17 62 rfl (st_lss_t rfl rfl hc25258) ?_
           refine E_yes 18 62 rfl (st_move rfl) ?_
           refine E_no 19 65 rfl rfl rfl ?_
           refine E_no 20 65 rfl rfl rfl ?_
           refine E_no 21 65 rfl rfl rfl ?_
           refine E_no 22 65 rfl rfl rfl ?_
           refine E_no 23 65 rfl rfl rfl ?_
           refine E_no 24 65 rfl rfl rfl ?_
           refine E_no 25 65 rfl rfl rfl ?_
           refine E_no 26 65 rfl rfl rfl ?_
           refine E_no 27 65 rfl rfl rfl ?_
           refine E_no 28 65 rfl rfl rfl ?_
           refine E_no 29 65 rfl rfl rfl ?_
           refine E_no 30 65 rfl rfl rfl ?_
           refine E_no 31 65 rfl rfl rfl ?_
           refine E_no 32 65 rfl rfl rfl ?_
           refine E_no 33 65 rfl rfl rfl ?_
           refine E_no 34 65 rfl rfl rfl ?_
           refine E_no 35 65 rfl rfl rfl ?_
           refine E_no 36 65 rfl rfl rfl ?_
           refine E_no 37 65 rfl rfl rfl ?_
           refine E_no 38 65 rfl rfl rfl ?_
           refine E_no 39 65 rfl rfl rfl ?_
           refine E_no 40 65 rfl rfl rfl ?_
           refine E_yes 41 62 rfl (st_pick_t rfl rfl) ?_
           refine E_st 42 rfl (st_pick_t rfl rfl) ?_
           refine E_out ?_
           refine D_done (by kernel_rfl) ?_
           obtain rfl := some1 hm
           refine x_front2 [] hs23970 hs12716 R rfl ?_
           refine x_front2 [] hs12716 hs23970 R rfl ?_
           exact x_join (e' := [(0, .slice A1 (l4).length c2), (1, .int .i64 (x5)), (7, .slice A23971 (l23974).length c23972), (9, .int .i64 (x21087)), (10, .int .i64 (x24883)), (11, .int .i64 ((k24884 : Int))), (21, .slice A12714 (l12710).length c12715), (22, .int .i64 ((l12710.length : Int))), (23, .int .i64 ((k21084 : Int))), (31, .int .i64 (x21103.Units)), (32, .int .i64 ((k23975 : Int))), (34, .slice A23971 (l23974).length c23972), (35, .int .i64 ((l23974.length : Int))), (36, .int .i64 ((k24884 : Int))), (89, .bool (true))]) (hp' := (hs23970 ++ (hs12716 ++ R))) ⟨rfl, rfl, rfl, rfl, rfl, rfl, rfl, rfl, rfl, rfl, rfl, rfl, rfl, rfl, rfl, trivial⟩ (sub_app hs23970 (sub_app hs12716 (.refl _))) ⟨rfl, rfl, (Base.Le.refl _)⟩
          exact R_nil
         ·
          rw [if_neg hc25258] at hm
          obtain ⟨x25259, h25260, hm⟩ := bindS hm
          obtain ⟨x25269, h25270, hm⟩ := bindS hm
          obtain ⟨x25289, h25290, hm⟩ := bindS hm
          obtain ⟨_, h25309, hm⟩ := bindS hm
          obtain ⟨x25310, h25311, hm⟩ := bindS hm
          obtain ⟨x25326, h25327, hm⟩ := bindS hm
          refine D_drawS ((hs23970 ++ (hs12716 ++ R))) mixed ?_
          refine E_in (sub_app hs23970 (sub_app hs12716 (.refl _))) ?_
          refine E_st 0 rfl (st_move rfl) ?_
          refine E_st 1 rfl (st_move rfl) ?_
          refine E_st 2 rfl (st_neq_t rfl rfl hc25234) ?_
          refine E_st 3 rfl (st_move rfl) ?_
          refine E_yes 4 50 rfl (st_move rfl) ?_
          refine E_yes 5 50 rfl (st_move rfl) ?_
          obtain ⟨j25237, hj25238, hx25239⟩ := idx_some h25236
          obtain ⟨cs25240, hr25241, hcs25242, hA25243, hlt25244⟩ := FZ.get (sz := 6) rfl (by decide) (h3.le (hle12713.trans (hle21077.trans (hle23968.trans hle24882)))) hx25239
          obtain ⟨_, _, rfl, rfl, ⟨_, _, rfl, rfl, ⟨_, _, rfl, rfl, ⟨_, _, rfl, rfl, ⟨_, _, rfl, rfl, rfl⟩⟩⟩⟩⟩ := hr25241
          refine E_yes 6 50 rfl (st_index_old j25237 rfl rfl hj25238 hlt25244 hA25243 sl22) ?_
          refine E_yes 7 50 rfl (st_loadN_old (vs := [.int .i64 (x25235.From), .int .i64 (x25235.To), .int .i64 (x25235.Dep), .int .i64 (x25235.Arr), .int .i64 (x25235.Km), .int .i64 (x25235.Units)]) 6 rfl agg36 hA25243 rfl (fun j u hu => hcs25242 j u hu)) ?_
          refine E_yes 8 50 rfl (st_move rfl) ?_
          refine E_yes 9 50 rfl (st_move rfl) ?_
          obtain ⟨j25247, hj25248, hx25249⟩ := idx_some h25246
          obtain ⟨cs25250, hr25251, hcs25252, hA25253, hlt25254⟩ := FZ.get (sz := 6) rfl (by decide) (h3.le (hle12713.trans (hle21077.trans (hle23968.trans hle24882)))) hx25249
          obtain ⟨_, _, rfl, rfl, ⟨_, _, rfl, rfl, ⟨_, _, rfl, rfl, ⟨_, _, rfl, rfl, ⟨_, _, rfl, rfl, rfl⟩⟩⟩⟩⟩ := hr25251
          refine E_yes 10 50 rfl (st_index_old j25247 rfl rfl hj25248 hlt25254 hA25253 sl22) ?_
          refine E_yes 11 50 rfl (st_loadN_old (vs := [.int .i64 (x25245.From), .int .i64 (x25245.To), .int .i64 (x25245.Dep), .int .i64 (x25245.Arr), .int .i64 (x25245.Km), .int .i64 (x25245.Units)]) 6 rfl agg36 hA25253 rfl (fun j u hu => hcs25252 j u hu)) ?_
          refine E_yes 12 50 rfl (st_move rfl) ?_
          refine E_out ?_
          refine D_all [13] (by kernel_rfl) rfl ?_
          refine R_doY (Base.Le.refl _) rfl rfl 50 rfl rfl rfl (u_callW0 _ call45 rfl (fun w ho => cFleetFollows _ [] x25235 x25245 x5 x25255 hcl25256) (fun _ _ _ h => h.2.symm)) ?_ ?_
          ·
           rintro _ _ ⟨⟨_, rfl, _⟩, rfl⟩
           refine ⟨.inr (sub_app hs23970 (sub_app hs12716 (.refl _))), ?_⟩
           refine d_resp 60 rfl (v' := .bool true) (by rw [hc25257]) ?_
           refine E_in (sub_app hs23970 (sub_app hs12716 (.refl _))) ?_
           refine E_st 14 rfl (st_pick_t rfl rfl) ?_
           refine E_st 15 rfl (st_move rfl) ?_
           refine E_yes 16 62 rfl (st_move rfl) ?_
           refine E_yes 17 62 rfl (st_lss_f rfl rfl hc25258) ?_
           refine E_yes 18 62 rfl (st_move rfl) ?_
           refine E_yes 19 65 rfl (st_move rfl) ?_
           refine E_yes 20 65 rfl (st_move rfl) ?_
           obtain ⟨j25261, hj25262, hx25263⟩ := idx_some h25260
           obtain ⟨cs25264, hr25265, hcs25266, hA25267, hlt25268⟩ := FZ.get (sz := 6) rfl (by decide) (h3.le (hle12713.trans (hle21077.trans (hle23968.trans hle24882)))) hx25263
           obtain ⟨_, _, rfl, rfl, ⟨_, _, rfl, rfl, ⟨_, _, rfl, rfl, ⟨_, _, rfl, rfl, ⟨_, _, rfl, rfl, rfl⟩⟩⟩⟩⟩ := hr25265
           refine E_yes 21 65 rfl (st_index_old j25261 rfl rfl hj25262 hlt25268 hA25267 sl22) ?_
           refine E_yes 22 65 rfl (st_field_old rfl hA25267 fld36_3) ?_
           refine E_yes 23 65 rfl (st_load_old rfl one3 (hcs25266 3 _ rfl)) ?_
           refine E_yes 24 65 rfl (st_move rfl) ?_
           refine E_yes 25 65 rfl (st_move rfl) ?_
           refine E_yes 26 65 rfl (st_move rfl) ?_
           obtain ⟨j25271, hj25272, hx25273⟩ := idx_some h25270
           obtain ⟨cs25274, hs25279, P25280, P25281, hq25282, hr25275, hcs25276, hA25277, hlt25278, hb25283, hho25284⟩ := OS.get (sz := 1) rfl (by decide) (h23973.le hle24882) hx25273
           obtain ⟨v25285, rfl, h25286⟩ := hr25275
           obtain ⟨A25287, c25288, rfl, _⟩ := h25286.form
           refine E_yes 27 65 rfl (st_index_old j25271 rfl rfl hj25272 hlt25278 hA25277 sl26) ?_
           refine E_yes 28 65 rfl (st_load_rd rfl one45 (fun w ho => hcs25276 w _ ho (List.sublist_append_left _ _) 0 _ rfl)) ?_
           refine E_yes 29 65 rfl (st_move rfl) ?_
           refine E_yes 30 65 rfl (st_move rfl) ?_
           obtain ⟨j25291, hj25292, hx25293⟩ := idx_some h25290
           obtain ⟨cs25294, hs25299, P25300, P25301, hq25302, hr25295, hcs25296, hA25297, hlt25298, hb25303, hho25304⟩ := OS.get (sz := 1) rfl (by decide) (h23973.le hle24882) hx25293
           obtain ⟨v25305, rfl, h25306⟩ := hr25295
           obtain ⟨A25307, c25308, rfl, _⟩ := h25306.form
           refine E_yes 31 65 rfl (st_index_old j25291 rfl rfl hj25292 hlt25298 hA25297 sl26) ?_
           refine E_yes 32 65 rfl (st_load_rd rfl one45 (fun w ho => hcs25296 w _ ho (List.sublist_append_left _ _) 0 _ rfl)) ?_
           refine E_yes 33 65 rfl (st_len rfl sl45) ?_
           have h25309 := (chk_some h25309).2
           refine E_yes 34 65 rfl (st_sub rfl rfl h25309) ?_
           obtain ⟨j25312, hj25313, hx25314⟩ := idx_some h25311
           obtain ⟨cs25315, hs25320, P25321, P25322, hq25323, hr25316, hcs25317, hA25318, hlt25319, hb25324, _⟩ := OS.get (sz := 1) rfl (by decide) h25286 hx25314
           obtain ⟨rfl, rfl⟩ := hr25316
           have hcs25325 := fun (w : World) (hp : Hp) (ho : Own b24881 hp w) (hh : hs23970.Sublist hp) => hcs25317 w hp ho ((show hs25279.Sublist hs23970 by rw [hq25282]; exact sub_skip _ (List.sublist_append_left _ _)).trans hh)
           refine E_yes 35 65 rfl (st_index_old j25312 rfl rfl hj25313 hlt25319 hA25318 sl45) ?_
           refine E_yes 36 65 rfl (st_load_rd rfl one3 (fun w ho => hcs25325 w _ ho (List.sublist_append_left _ _) 0 _ rfl)) ?_
           obtain ⟨j25328, hj25329, hx25330⟩ := idx_some h25327
           obtain ⟨cs25331, hr25332, hcs25333, hA25334, hlt25335⟩ := FZ.get (sz := 6) rfl (by decide) (h3.le (hle12713.trans (hle21077.trans (hle23968.trans hle24882)))) hx25330
           obtain ⟨_, _, rfl, rfl, ⟨_, _, rfl, rfl, ⟨_, _, rfl, rfl, ⟨_, _, rfl, rfl, ⟨_, _, rfl, rfl, rfl⟩⟩⟩⟩⟩ := hr25332
           refine E_yes 37 65 rfl (st_index_old j25328 rfl rfl hj25329 hlt25335 hA25334 sl22) ?_
           refine E_yes 38 65 rfl (st_field_old rfl hA25334 fld36_3) ?_
           refine E_yes 39 65 rfl (st_load_old rfl one3 (hcs25333 3 _ rfl)) ?_
           refine E_yes 40 65 rfl (st_lss rfl rfl) ?_
           refine E_yes 41 62 rfl (st_pick_f rfl rfl) ?_
           refine E_st 42 rfl (st_pick_t rfl rfl) ?_
           refine E_out ?_
           refine D_done (by kernel_rfl) ?_
           obtain rfl := some1 hm
           refine x_front2 [] hs23970 hs12716 R rfl ?_
           refine x_front2 [] hs12716 hs23970 R rfl ?_
           exact x_join (e' := [(0, .slice A1 (l4).length c2), (1, .int .i64 (x5)), (7, .slice A23971 (l23974).length c23972), (9, .int .i64 (x21087)), (10, .int .i64 (x24883)), (11, .int .i64 ((k24884 : Int))), (21, .slice A12714 (l12710).length c12715), (22, .int .i64 ((l12710.length : Int))), (23, .int .i64 ((k21084 : Int))), (31, .int .i64 (x21103.Units)), (32, .int .i64 ((k23975 : Int))), (34, .slice A23971 (l23974).length c23972), (35, .int .i64 ((l23974.length : Int))), (36, .int .i64 ((k24884 : Int))), (89, .bool (decide (x25259.Arr < x25326.Arr)))]) (hp' := (hs23970 ++ (hs12716 ++ R))) ⟨rfl, rfl, rfl, rfl, rfl, rfl, rfl, rfl, rfl, rfl, rfl, rfl, rfl, rfl, rfl, trivial⟩ (sub_app hs23970 (sub_app hs12716 (.refl _))) ⟨rfl, rfl, (Base.Le.refl _)⟩
          exact R_nil
        ·
         rw [if_neg (fun hh => Bool.noConfusion (hh.symm.trans hc25257))] at hm
         refine D_drawS ((hs23970 ++ (hs12716 ++ R))) mixed ?_
         refine E_in (sub_app hs23970 (sub_app hs12716 (.refl _))) ?_
         refine E_st 0 rfl (st_move rfl) ?_
         refine E_st 1 rfl (st_move rfl) ?_
         refine E_st 2 rfl (st_neq_t rfl rfl hc25234) ?_
         refine E_st 3 rfl (st_move rfl) ?_
         refine E_yes 4 50 rfl (st_move rfl) ?_
         refine E_yes 5 50 rfl (st_move rfl) ?_
         obtain ⟨j25237, hj25238, hx25239⟩ := idx_some h25236
         obtain ⟨cs25240, hr25241, hcs25242, hA25243, hlt25244⟩ := FZ.get (sz := 6) rfl (by decide) (h3.le (hle12713.trans (hle21077.trans (hle23968.trans hle24882)))) hx25239
         obtain ⟨_, _, rfl, rfl, ⟨_, _, rfl, rfl, ⟨_, _, rfl, rfl, ⟨_, _, rfl, rfl, ⟨_, _, rfl, rfl, rfl⟩⟩⟩⟩⟩ := hr25241
         refine E_yes 6 50 rfl (st_index_old j25237 rfl rfl hj25238 hlt25244 hA25243 sl22) ?_
         refine E_yes 7 50 rfl (st_loadN_old (vs := [.int .i64 (x25235.From), .int .i64 (x25235.To), .int .i64 (x25235.Dep), .int .i64 (x25235.Arr), .int .i64 (x25235.Km), .int .i64 (x25235.Units)]) 6 rfl agg36 hA25243 rfl (fun j u hu => hcs25242 j u hu)) ?_
         refine E_yes 8 50 rfl (st_move rfl) ?_
         refine E_yes 9 50 rfl (st_move rfl) ?_
         obtain ⟨j25247, hj25248, hx25249⟩ := idx_some h25246
         obtain ⟨cs25250, hr25251, hcs25252, hA25253, hlt25254⟩ := FZ.get (sz := 6) rfl (by decide) (h3.le (hle12713.trans (hle21077.trans (hle23968.trans hle24882)))) hx25249
         obtain ⟨_, _, rfl, rfl, ⟨_, _, rfl, rfl, ⟨_, _, rfl, rfl, ⟨_, _, rfl, rfl, ⟨_, _, rfl, rfl, rfl⟩⟩⟩⟩⟩ := hr25251
         refine E_yes 10 50 rfl (st_index_old j25247 rfl rfl hj25248 hlt25254 hA25253 sl22) ?_
         refine E_yes 11 50 rfl (st_loadN_old (vs := [.int .i64 (x25245.From), .int .i64 (x25245.To), .int .i64 (x25245.Dep), .int .i64 (x25245.Arr), .int .i64 (x25245.Km), .int .i64 (x25245.Units)]) 6 rfl agg36 hA25253 rfl (fun j u hu => hcs25252 j u hu)) ?_
         refine E_yes 12 50 rfl (st_move rfl) ?_
         refine E_out ?_
         refine D_all [13] (by kernel_rfl) rfl ?_
         refine R_doY (Base.Le.refl _) rfl rfl 50 rfl rfl rfl (u_callW0 _ call45 rfl (fun w ho => cFleetFollows _ [] x25235 x25245 x5 x25255 hcl25256) (fun _ _ _ h => h.2.symm)) ?_ ?_
         ·
          rintro _ _ ⟨⟨_, rfl, _⟩, rfl⟩
          refine ⟨.inr (sub_app hs23970 (sub_app hs12716 (.refl _))), ?_⟩
          refine d_resp 60 rfl (v' := .bool false) (by rw [hc25257]) ?_
          refine E_in (sub_app hs23970 (sub_app hs12716 (.refl _))) ?_
          refine E_st 14 rfl (st_pick_t rfl rfl) ?_
          refine E_st 15 rfl (st_move rfl) ?_
          refine E_no 16 62 rfl rfl rfl ?_
          refine E_no 17 62 rfl rfl rfl ?_
          refine E_no 18 62 rfl rfl rfl ?_
          refine E_no 19 65 rfl rfl rfl ?_
          refine E_no 20 65 rfl rfl rfl ?_
          refine E_no 21 65 rfl rfl rfl ?_
          refine E_no 22 65 rfl rfl rfl ?_
          refine E_no 23 65 rfl rfl rfl ?_
          refine E_no 24 65 rfl rfl rfl ?_
          refine E_no 25 65 rfl rfl rfl ?_
          refine E_no 26 65 rfl rfl rfl ?_
          refine E_no 27 65 rfl rfl rfl ?_
          refine E_no 28 65 rfl rfl rfl ?_
          refine E_no 29 65 rfl rfl rfl ?_
          refine E_no 30 65 rfl rfl rfl ?_
          refine E_no 31 65 rfl rfl rfl ?_
          refine E_no 32 65 rfl rfl rfl ?_
          refine E_no 33 65 rfl rfl rfl ?_
          refine E_no 34 65 rfl rfl rfl ?_
          refine E_no 35 65 rfl rfl rfl ?_
          refine E_no 36 65 rfl rfl rfl ?_
          refine E_no 37 65 rfl rfl rfl ?_
          refine E_no 38 65 rfl rfl rfl ?_
          refine E_no 39 65 rfl rfl rfl ?_
          refine E_no 40 65 rfl rfl rfl ?_
          refine E_no 41 62 rfl rfl rfl ?_
          refine E_st 42 rfl (st_pick_f rfl rfl) ?_
          refine E_out ?_
          refine D_done (by kernel_rfl) ?_
          obtain rfl := some1 hm
          refine x_front2 [] hs23970 hs12716 R rfl ?_
          refine x_front2 [] hs12716 hs23970 R rfl ?_
          exact x_join (e' := [(0, .slice A1 (l4).length c2), (1, .int .i64 (x5)), (7, .slice A23971 (l23974).length c23972), (9, .int .i64 (x21087)), (10, .int .i64 (x24883)), (11, .int .i64 ((k24884 : Int))), (21, .slice A12714 (l12710).length c12715), (22, .int .i64 ((l12710.length : Int))), (23, .int .i64 ((k21084 : Int))), (31, .int .i64 (x21103.Units)), (32, .int .i64 ((k23975 : Int))), (34, .slice A23971 (l23974).length c23972), (35, .int .i64 ((l23974.length : Int))), (36, .int .i64 ((k24884 : Int))), (89, .bool (false))]) (hp' := (hs23970 ++ (hs12716 ++ R))) ⟨rfl, rfl, rfl, rfl, rfl, rfl, rfl, rfl, rfl, rfl, rfl, rfl, rfl, rfl, rfl, trivial⟩ (sub_app hs23970 (sub_app hs12716 (.refl _))) ⟨rfl, rfl, (Base.Le.refl _)⟩
         exact R_nil
       ·
        rw [if_neg hc25234] at hm
        refine D_drawS ((hs23970 ++ (hs12716 ++ R))) mixed ?_
        refine E_in (sub_app hs23970 (sub_app hs12716 (.refl _))) ?_
        refine E_st 0 rfl (st_move rfl) ?_
        refine E_st 1 rfl (st_move rfl) ?_
        refine E_st 2 rfl (st_neq_f rfl rfl hc25234) ?_
        refine E_st 3 rfl (st_move rfl) ?_
        refine E_no 4 50 rfl rfl rfl ?_
        refine E_no 5 50 rfl rfl rfl ?_
        refine E_no 6 50 rfl rfl rfl ?_
        refine E_no 7 50 rfl rfl rfl ?_
        refine E_no 8 50 rfl rfl rfl ?_
        refine E_no 9 50 rfl rfl rfl ?_
        refine E_no 10 50 rfl rfl rfl ?_
        refine E_no 11 50 rfl rfl rfl ?_
        refine E_no 12 50 rfl rfl rfl ?_
        refine E_no 13 50 rfl rfl rfl ?_
        refine E_st 14 rfl (st_pick_f rfl rfl) ?_
        refine E_st 15 rfl (st_move rfl) ?_
        refine E_no 16 62 rfl rfl rfl ?_
        refine E_no 17 62 rfl rfl rfl ?_
        refine E_no 18 62 rfl rfl rfl ?_
        refine E_no 19 65 rfl rfl rfl ?_
        refine E_no 20 65 rfl rfl rfl ?_
        refine E_no 21 65 rfl rfl rfl ?_
        refine E_no 22 65 rfl rfl rfl ?_
        refine E_no 23 65 rfl rfl rfl ?_
        refine E_no 24 65 rfl rfl rfl ?_
        refine E_no 25 65 rfl rfl rfl ?_
        refine E_no 26 65 rfl rfl rfl ?_
        refine E_no 27 65 rfl rfl rfl ?_
        refine E_no 28 65 rfl rfl rfl ?_
        refine E_no 29 65 rfl rfl rfl ?_
        refine E_no 30 65 rfl rfl rfl ?_
        refine E_no 31 65 rfl rfl rfl ?_
        refine E_no 32 65 rfl rfl rfl ?_
        refine E_no 33 65 rfl rfl rfl ?_
        refine E_no 34 65 rfl rfl rfl ?_
        refine E_no 35 65 rfl rfl rfl ?_
        refine E_no 36 65 rfl rfl rfl ?_
        refine E_no 37 65 rfl rfl rfl ?_
        refine E_no 38 65 rfl rfl rfl ?_
        refine E_no 39 65 rfl rfl rfl ?_
        refine E_no 40 65 rfl rfl rfl ?_
        refine E_no 41 62 rfl rfl rfl ?_
        refine E_st 42 rfl (st_pick_f rfl rfl) ?_
        refine E_out ?_
        refine D_done (by kernel_rfl) ?_
        obtain rfl := some1 hm
        refine x_front2 [] hs23970 hs12716 R rfl ?_
        refine x_front2 [] hs12716 hs23970 R rfl ?_
        exact x_join (e' := [(0, .slice A1 (l4).length c2), (1, .int .i64 (x5)), (7, .slice A23971 (l23974).length c23972), (9, .int .i64 (x21087)), (10, .int .i64 (x24883)), (11, .int .i64 ((k24884 : Int))), (21, .slice A12714 (l12710).length c12715), (22, .int .i64 ((l12710.length : Int))), (23, .int .i64 ((k21084 : Int))), (31, .int .i64 (x21103.Units)), (32, .int .i64 ((k23975 : Int))), (34, .slice A23971 (l23974).length c23972), (35, .int .i64 ((l23974.length : Int))), (36, .int .i64 ((k24884 : Int))), (89, .bool (false))]) (hp' := (hs23970 ++ (hs12716 ++ R))) ⟨rfl, rfl, rfl, rfl, rfl, rfl, rfl, rfl, rfl, rfl, rfl, rfl, rfl, rfl, rfl, trivial⟩ (sub_app hs23970 (sub_app hs12716 (.refl _))) ⟨rfl, rfl, (Base.Le.refl _)⟩
      ·
       rintro b25128 _ _ ⟨rfl, rfl, hle25129⟩
       have hm := hk25131
       refine c_cond _ rfl (fun hc25336 => ?_) (fun hc25336 => ?_)
       ·
        rw [if_pos hc25336] at hm
        refine c_region ?_
        refine t_st rfl (st_move rfl) ?_
        refine t_st rfl (st_assign rfl) ?_
        refine t_nil ?_
        refine x_block_normal ?_
        refine x_then_normal ?_
        refine c_region ?_
        refine t_st rfl (st_add rfl rfl (by omega)) ?_
        refine t_st rfl (st_move rfl) ?_
        refine t_nil ?_
        refine x_front2 [] hs23970 hs12716 R rfl ?_
        refine x_front2 [] hs12716 hs23970 R rfl ?_
        obtain rfl := some1 hm
        exact x_againS (e' := [(0, .slice A1 (l4).length c2), (1, .int .i64 (x5)), (7, .slice A23971 (l23974).length c23972), (9, .int .i64 (x21087)), (10, .int .i64 ((k24884 : Int))), (21, .slice A12714 (l12710).length c12715), (22, .int .i64 ((l12710.length : Int))), (23, .int .i64 ((k21084 : Int))), (31, .int .i64 (x21103.Units)), (32, .int .i64 ((k23975 : Int))), (34, .slice A23971 (l23974).length c23972), (35, .int .i64 ((l23974.length : Int))), (36, .int .i64 ((k24884 : Int) + 1))]) (hp' := (hs23970 ++ (hs12716 ++ R))) ⟨rfl, rfl, rfl, rfl, rfl, rfl, rfl, rfl, rfl, rfl, rfl, rfl, rfl, trivial⟩ (sub_app hs23970 (sub_app hs12716 (.refl _))) ⟨rfl, rfl, ((hle24882.trans hle25129))⟩
       ·
        rw [if_neg (fun hh => Bool.noConfusion (hh.symm.trans hc25336))] at hm
        refine c_skip ?_
        refine x_block_normal ?_
        refine x_then_normal ?_
        refine c_region ?_
        refine t_st rfl (st_add rfl rfl (by omega)) ?_
        refine t_st rfl (st_move rfl) ?_
        refine t_nil ?_
        refine x_front2 [] hs23970 hs12716 R rfl ?_
        refine x_front2 [] hs12716 hs23970 R rfl ?_
        obtain rfl := some1 hm
        exact x_againS (e' := [(0, .slice A1 (l4).length c2), (1, .int .i64 (x5)), (7, .slice A23971 (l23974).length c23972), (9, .int .i64 (x21087)), (10, .int .i64 (x24883)), (21, .slice A12714 (l12710).length c12715), (22, .int .i64 ((l12710.length : Int))), (23, .int .i64 ((k21084 : Int))), (31, .int .i64 (x21103.Units)), (32, .int .i64 ((k23975 : Int))), (34, .slice A23971 (l23974).length c23972), (35, .int .i64 ((l23974.length : Int))), (36, .int .i64 ((k24884 : Int) + 1))]) (hp' := (hs23970 ++ (hs12716 ++ R))) ⟨rfl, rfl, rfl, rfl, rfl, rfl, rfl, rfl, rfl, rfl, rfl, rfl, rfl, trivial⟩ (sub_app hs23970 (sub_app hs12716 (.refl _))) ⟨rfl, rfl, ((hle24882.trans hle25129))⟩
     ·
      rintro b24881 _ _ ⟨rfl, rfl, hle24882⟩
      have hm := hk24886
      refine c_seq ?_
      refine c_region ?_
      refine t_st rfl (st_lss_f rfl rfl (by omega)) ?_
      refine t_nil ?_
      refine x_then_normal ?_
      refine c_seq ?_
      refine c_cond_f rfl ?_
      refine c_exit ?_
      refine x_then_exit ?_
      refine x_then_exit ?_
      refine x_block_out ?_
      refine x_then_normal ?_
      obtain ⟨⟨x25352, l25353⟩, hj25354, hk25354⟩ := bindS hm
      refine c_join (fun b25345 e' hp' => ∃ (A25349 : Option Addr), ∃ (c25350 : Nat), ∃ (hs25348 : Hp), [(0, .slice A1 (l4).length c2), (1, .int .i64 (x5)), (7, .slice A25349 (l25353).length c25350), (9, .int .i64 (x21087)), (10, .int .i64 (x25352)), (21, .slice A12714 (l12710).length c12715), (22, .int .i64 ((l12710.length : Int))), (23, .int .i64 ((k21084 : Int))), (31, .int .i64 (x21103.Units)), (32, .int .i64 ((k23975 : Int)))] = e' ∧ (hs25348 ++ (hs12716 ++ R)) = hp' ∧ b24881.Le b25345 ∧ OS 45 (OT.list 3 (OT.fr (RT.int .i64))) b25345.w (.slice A25349 l25353.length c25350) l25353 hs25348) ?_ ?_
      ·
       have hm := hj25354
       refine c_seq ?_
       refine c_region ?_
       refine t_st rfl (st_move rfl) ?_
       refine t_st rfl (st_lss rfl rfl) ?_
       refine t_nil ?_
       refine x_then_normal ?_
       refine c_cond _ rfl (fun hc25355 => ?_) (fun hc25355 => ?_)
       ·
        rw [if_pos (of_decide_eq_true hc25355)] at hm
        refine c_seq ?_
        refine c_region ?_
        refine t_st rfl (st_move rfl) ?_
        refine t_do rfl (u_bslice (el := 45) [(0, .slice none 0 0)] [.slice none 0 0] rfl (fun _ => by kernel_rfl)) ?_
        rintro _ _ ⟨g25356, rfl, rfl⟩
        obtain ⟨_, h25357, hm⟩ := bindS hm
        have h25357 := room_some h25357
        refine t_do rfl (u_appOO (o := (OT.list 3 (OT.fr (RT.int .i64)))) (a := []) [_] [] (hs12716 ++ R) [.slice none 0 0] rfl (by decide) sl26 inf45 rfl rfl rfl (h23973.le hle24882) rfl (fun w ho => Rd.own (i := 0) ho rfl) ⟨_, rfl, OS.nil⟩ h25357) ?_
        rintro _ _ ⟨hs25358, rfl, h25359⟩
        obtain ⟨A25360, c25361, rfl, _⟩ := h25359.form
        refine t_st rfl (st_assign rfl) ?_
        refine t_nil ?_
        refine x_then_normal ?_
        refine c_region ?_
        refine t_st rfl (st_move rfl) ?_
        refine t_st rfl (st_len rfl sl26) ?_
        obtain ⟨_, h25362, hm⟩ := bindS hm
        have h25362 := (chk_some h25362).2
        refine t_st rfl (st_sub rfl rfl h25362) ?_
        refine t_st rfl (st_assign rfl) ?_
        refine t_nil ?_
        obtain ⟨rfl, rfl⟩ := some2 hm
        refine x_front2 [_] hs25358 hs12716 R rfl ?_
        refine x_front2 [_] hs12716 hs25358 R rfl ?_
        exact x_join (e' := [(0, .slice A1 (l4).length c2), (1, .int .i64 (x5)), (7, .slice A25360 (l23974 ++ [[]]).length c25361), (9, .int .i64 (x21087)), (10, .int .i64 (((l23974 ++ [[]]).length : Int) - 1)), (21, .slice A12714 (l12710).length c12715), (22, .int .i64 ((l12710.length : Int))), (23, .int .i64 ((k21084 : Int))), (31, .int .i64 (x21103.Units)), (32, .int .i64 ((k23975 : Int)))]) (hp' := (hs25358 ++ (hs12716 ++ R))) ⟨rfl, rfl, rfl, rfl, rfl, rfl, rfl, rfl, rfl, rfl, trivial⟩ (.cons _ (sub_app hs25358 (sub_app hs12716 (.refl _)))) ⟨A25360, c25361, hs25358, rfl, rfl, (Base.Le.refl _), h25359⟩
       ·
        rw [if_neg (of_decide_eq_false hc25355)] at hm
        refine c_skip ?_
        obtain ⟨rfl, rfl⟩ := some2 hm
        refine x_front2 [] hs23970 hs12716 R rfl ?_
        refine x_front2 [] hs12716 hs23970 R rfl ?_
        exact x_join (e' := [(0, .slice A1 (l4).length c2), (1, .int .i64 (x5)), (7, .slice A23971 (l23974).length c23972), (9, .int .i64 (x21087)), (10, .int .i64 (x24883)), (21, .slice A12714 (l12710).length c12715), (22, .int .i64 ((l12710.length : Int))), (23, .int .i64 ((k21084 : Int))), (31, .int .i64 (x21103.Units)), (32, .int .i64 ((k23975 : Int)))]) (hp' := (hs23970 ++ (hs12716 ++ R))) ⟨rfl, rfl, rfl, rfl, rfl, rfl, rfl, rfl, rfl, rfl, trivial⟩ (sub_app hs23970 (sub_app hs12716 (.refl _))) ⟨A23971, c23972, hs23970, rfl, rfl, (Base.Le.refl _), (h23973.le hle24882)⟩
      ·
       rintro b25345 _ _ ⟨A25349, c25350, hs25348, rfl, rfl, hle25346, h25351⟩
       have hm := (unc2E hk25354)
       refine c_region ?_
       refine t_st rfl (st_move rfl) ?_
       refine t_st rfl (st_move rfl) ?_
       refine t_st rfl (st_move rfl) ?_
       refine t_st rfl (st_move rfl) ?_
       obtain ⟨x25363, h25364, hm⟩ := bindS hm
       obtain ⟨j25365, hj25366, hx25367⟩ := idx_some h25364
       obtain ⟨cs25368, hs25373, P25374, P25375, hq25376, hr25369, hcs25370, hA25371, hlt25372, hb25377, hho25378⟩ := OS.get (sz := 1) rfl (by decide) h25351 hx25367
       obtain ⟨v25379, rfl, h25380⟩ := hr25369
       obtain ⟨A25381, c25382, rfl, _⟩ := h25380.form
       refine t_st rfl (st_index_old j25365 rfl rfl hj25366 hlt25372 hA25371 sl26) ?_
       refine t_st rfl (st_load_rd rfl one45 (fun w ho => hcs25370 w _ ho (List.sublist_append_left _ _) 0 _ rfl)) ?_
       refine t_st rfl (st_move rfl) ?_
       refine t_do rfl (u_bslice (el := 3) [(0, .int .i64 (x21087))] [.int .i64 (x21087)] rfl (fun _ => by kernel_rfl)) ?_
       rintro _ _ ⟨g25383, rfl, rfl⟩
       obtain ⟨_, h25384, hm⟩ := bindS hm
       have h25384 := room_some h25384
       refine t_do rfl (u_appIn (r := (RT.int .i64)) [_] (hs12716 ++ R) [[.int .i64 (x21087)]] [x21087] rfl (by decide) sl45 inf3 rfl rfl rfl rfl hq25376 h25380 rfl (fun w ho => Rd.own (i := 0) ho rfl) ⟨rfl, trivial⟩ h25384) ?_
       rintro _ _ ⟨hs25385, rfl, h25386⟩
       obtain ⟨A25387, c25388, rfl, _⟩ := h25386.form
       refine t_resp 7 rfl (v' := .slice A25349 (l25353).length c25350) (by simp only [put_length]) ?_
       refine t_resp 100 rfl (v' := .slice A25349 (l25353).length c25350) (by simp only [put_length]) ?_
       obtain ⟨x25389, h25390, hm⟩ := bindS hm
       obtain ⟨j25391, hj25392, hx25393⟩ := idx_some h25390
       obtain rfl : j25365 = j25391 := by omega
       refine t_st rfl (st_index_old j25365 rfl rfl hj25366 hlt25372 hA25371 sl26) ?_
       refine t_front2 [_] hs25385 (P25374 ++ P25375) (hs12716 ++ R) rfl ?_
       refine t_do rfl (u_putHole hj25366 (sz := 1) (a' := x25363 ++ [x21087]) rfl [_] hs25385 (hs12716 ++ R) 1 [.slice A25387 (x25363 ++ [x21087]).length c25388] rfl (hho25378 _ (Base.Le.refl _)) rfl rfl rfl siz45 rfl (by decide) ⟨_, rfl, h25386⟩) ?_
       rintro _ _ ⟨hs25399, rfl, h25400⟩
       refine t_resp 7 rfl (v' := .slice A25349 (put l25353 x25352 (x25363 ++ [x21087])).length c25350) (by simp only [put_length]) ?_
       refine t_nil ?_
       refine x_block_normal ?_
       refine x_then_normal ?_
       refine c_region ?_
       refine t_st rfl (st_add rfl rfl (by omega)) ?_
       refine t_st rfl (st_move rfl) ?_
       refine t_nil ?_
       refine x_front2 [_] hs25399 hs12716 R rfl ?_
       refine x_front2 [_] hs12716 hs25399 R rfl ?_
       obtain rfl := some1 hm
       exact x_againS (e' := [(0, .slice A1 (l4).length c2), (1, .int .i64 (x5)), (7, .slice A25349 (put l25353 x25352 (x25363 ++ [x21087])).length c25350), (9, .int .i64 (x21087)), (21, .slice A12714 (l12710).length c12715), (22, .int .i64 ((l12710.length : Int))), (23, .int .i64 ((k21084 : Int))), (31, .int .i64 (x21103.Units)), (32, .int .i64 ((k23975 : Int) + 1))]) (hp' := (hs25399 ++ (hs12716 ++ R))) ⟨rfl, rfl, rfl, rfl, rfl, rfl, rfl, rfl, rfl, trivial⟩ (.cons _ (sub_app hs25399 (sub_app hs12716 (.refl _)))) ⟨A25349, c25350, hs25399, rfl, rfl, ((hle23968.trans (hle24882.trans hle25346))), h25400⟩
    ·
     rintro b23967 _ _ ⟨A23971, c23972, hs23970, rfl, rfl, hle23968, h23973⟩
     have hm := hk23977
     refine c_seq ?_
     refine c_region ?_
     refine t_st rfl (st_lss_f rfl rfl (by omega)) ?_
     refine t_nil ?_
     refine x_then_normal ?_
     refine c_seq ?_
     refine c_cond_f rfl ?_
     refine c_exit ?_
     refine x_then_exit ?_
     refine x_then_exit ?_
     refine x_block_out ?_
     refine x_block_normal ?_
     refine x_then_normal ?_
     refine c_region ?_
     refine t_st rfl (st_add rfl rfl (by omega)) ?_
     refine t_st rfl (st_move rfl) ?_
     refine t_nil ?_
     refine x_front2 [] hs23970 hs12716 R rfl ?_
     refine x_front2 [] hs12716 hs23970 R rfl ?_
     obtain rfl := some1 hm
     exact x_againS (e' := [(0, .slice A1 (l4).length c2), (1, .int .i64 (x5)), (7, .slice A23971 (l23974).length c23972), (21, .slice A12714 (l12710).length c12715), (22, .int .i64 ((l12710.length : Int))), (23, .int .i64 ((k21084 : Int) + 1))]) (hp' := (hs23970 ++ (hs12716 ++ R))) ⟨rfl, rfl, rfl, rfl, rfl, rfl, trivial⟩ (sub_app hs23970 (sub_app hs12716 (.refl _))) ⟨A23971, c23972, hs23970, rfl, rfl, ((hle21077.trans hle23968)), h23973⟩
   ·
    rintro b21076 _ _ ⟨A21080, c21081, hs21079, rfl, rfl, hle21077, h21082⟩
    have hm := hk21086
    refine c_seq ?_
    refine c_region ?_
    refine t_st rfl (st_lss_f rfl rfl (by omega)) ?_
    refine t_nil ?_
    refine x_then_normal ?_
    refine c_seq ?_
    refine c_cond_f rfl ?_
    refine c_exit ?_
    refine x_then_exit ?_
    refine x_then_exit ?_
    refine x_block_out ?_
    refine x_then_normal ?_
    refine c_seq ?_
    refine c_region ?_
    refine t_st rfl (st_move rfl) ?_
    refine t_st rfl (st_assign rfl) ?_
    refine t_st rfl (st_assign rfl) ?_
    refine t_nil ?_
    refine x_then_normal ?_
    refine c_ret ?_
    obtain ⟨rfl, rfl⟩ := some2 hm
    exact retM (rs := [.tmp 4, .tmp 5]) [.slice A21080 (l21083).length c21081, .int .i64 (0)] (hle12713.trans hle21077) (by decide) rfl ⟨rfl, ⟨rfl, trivial⟩⟩ rfl (hp' := (hs21079 ++ R)) (sub_app hs21079 (sub_skip hs12716 (.refl _))) ⟨A21080, c21081, hs21079, rfl, rfl, h21082⟩

set_option maxRecDepth 20000 in
theorem cFishkeep2AwakeFleet (b : Base) (R : Hp) (x18 : Bool) (hm : mFishkeep2AwakeFleet = some x18) :
    CallsG Try.prog 10 [] b (R) (fun v b' hp' => .bool (x18) = v ∧ R = hp') := by
  refine fn_enterG 11 Try.func10 rfl Try.ntmps10 rfl ?_
  unfold mFishkeep2AwakeFleet at hm
  refine c_seq ?_
  refine c_region ?_
  refine t_st rfl (st_assign rfl) ?_
  refine t_nil ?_
  refine x_then_normal ?_
  refine c_seq ?_
  refine c_region ?_
  refine t_st rfl (st_build (v := .agg #[.int .i64 (0), .int .i64 (0), .int .i64 (0), .int .i64 (0), .int .i64 (0), .int .i64 (0)]) [] rfl (fun _ => by kernel_rfl)) ?_
  refine t_do rfl (u_bslice (el := 36) [(0, .agg #[.int .i64 (0), .int .i64 (0), .int .i64 (0), .int .i64 (0), .int .i64 (0), .int .i64 (0)])] [.int .i64 (0), .int .i64 (0), .int .i64 (0), .int .i64 (0), .int .i64 (0), .int .i64 (0)] rfl (fun _ => by kernel_rfl)) ?_
  rintro _ _ ⟨g19, rfl, rfl⟩
  refine t_seg 0 [] R rfl rfl ?_
  have h21 : OS 36 (OT.fr rFleetTask) b.w (.slice (some ⟨g19, 0, none⟩) 1 1) [(⟨0, 0, 0, 0, 0, 0⟩ : FleetTask)] [(g19, Cl 36 [.int .i64 (0), .int .i64 (0), .int .i64 (0), .int .i64 (0), .int .i64 (0), .int .i64 (0)])] := OS.lit [[.int .i64 (0), .int .i64 (0), .int .i64 (0), .int .i64 (0), .int .i64 (0), .int .i64 (0)]] rfl ⟨⟨[.int .i64 (0)], _, rfl, rfl, ⟨[.int .i64 (0)], _, rfl, rfl, ⟨[.int .i64 (0)], _, rfl, rfl, ⟨[.int .i64 (0)], _, rfl, rfl, ⟨[.int .i64 (0)], _, rfl, rfl, rfl⟩⟩⟩⟩⟩, trivial⟩ rfl (by decide)
  have hnz22 : (((some ⟨g19, 0, none⟩) : Option Addr) = none ↔ [(⟨0, 0, 0, 0, 0, 0⟩ : FleetTask)] = []) := ⟨nofun, nofun⟩
  refine t_frz [] [(g19, Cl 36 [.int .i64 (0), .int .i64 (0), .int .i64 (0), .int .i64 (0), .int .i64 (0), .int .i64 (0)])] R rfl ?_
  intro b23 hle24 hz25
  have h26 := OS.frz (l := [(⟨0, 0, 0, 0, 0, 0⟩ : FleetTask)]) h21 hle24.cells hz25
  obtain ⟨⟨x27, l28⟩, hcl29, hm⟩ := bindS hm
  have hm := (unc2E hm)
  refine t_callG _ rfl call13 rfl (cFleetTurns _ _ [(⟨0, 0, 0, 0, 0, 0⟩ : FleetTask)] (-1) (some ⟨g19, 0, none⟩) 1 h26 x27 l28 hcl29) ?_
  rintro _ b30 _ hle31 ⟨A32, c33, hs34, rfl, rfl, h35⟩
  refine t_in1 [] [] hs34 R rfl ?_
  refine t_st rfl (st_move rfl) ?_
  refine t_st rfl (st_extract rfl rfl) ?_
  refine t_st rfl (st_extract rfl rfl) ?_
  refine t_st rfl (st_assign rfl) ?_
  refine t_st rfl (st_assign rfl) ?_
  refine t_nil ?_
  refine x_then_normal ?_
  refine c_seq ?_
  refine c_region ?_
  refine t_st rfl (st_move rfl) ?_
  refine t_st rfl (st_neq rfl rfl) ?_
  refine t_st rfl (st_assign rfl) ?_
  refine t_nil ?_
  refine x_then_normal ?_
  refine c_ret ?_
  obtain rfl := some1 hm
  exact retM (rs := [.tmp 0]) [.bool (decide (x27 ≠ 0))] (hle24.trans hle31) (by decide) rfl ⟨rfl, trivial⟩ rfl (hp' := R) (sub_skip hs34 (.refl _)) ⟨rfl, rfl⟩

set_option maxRecDepth 20000 in
theorem cSlicesEqual (b : Base) (R : Hp) (l4 : (List Int)) (l8 : (List Int)) (A1 : Option Addr) (c2 : Nat) (A5 : Option Addr) (c6 : Nat) (h3 : FZ (RT.int .i64) b.w A1 c2 l4) (h7 : FZ (RT.int .i64) b.w A5 c6 l8) (x102 : Bool) (hm : mSlicesEqual l4 l8 = some x102) :
    CallsG Try.prog 34 [.slice A1 (l4).length c2, .slice A5 (l8).length c6] b (R) (fun v b' hp' => .bool (x102) = v ∧ R = hp') := by
  refine fn_enterG 26 Try.func34 rfl Try.ntmps34 rfl ?_
  unfold mSlicesEqual at hm
  refine c_seq ?_
  refine c_region ?_
  refine t_st rfl (st_assign rfl) ?_
  refine t_nil ?_
  refine x_then_normal ?_
  refine c_seq ?_
  refine c_seq ?_
  refine c_region ?_
  refine t_st rfl (st_move rfl) ?_
  refine t_st rfl (st_len rfl sl45) ?_
  refine t_st rfl (st_move rfl) ?_
  refine t_st rfl (st_len rfl sl45) ?_
  refine t_st rfl (st_neq rfl rfl) ?_
  refine t_nil ?_
  refine x_then_normal ?_
  refine c_cond _ rfl (fun hc103 => ?_) (fun hc103 => ?_)
  ·
   rw [if_pos (of_decide_eq_true hc103)] at hm
   refine c_seq ?_
   refine c_region ?_
   refine t_st rfl (st_assign rfl) ?_
   refine t_nil ?_
   refine x_then_normal ?_
   refine c_ret ?_
   refine x_then_ret ?_
   obtain rfl := some1 hm
   exact retM (rs := [.tmp 4]) [.bool (false)] (Base.Le.refl _) (by decide) rfl ⟨rfl, trivial⟩ rfl (hp' := R) (.refl _) ⟨rfl, rfl⟩
  ·
   rw [if_neg (of_decide_eq_false hc103)] at hm
   refine c_skip ?_
   refine x_then_normal ?_
   refine c_seq ?_
   refine c_seq ?_
   refine c_region ?_
   refine t_st rfl (st_move rfl) ?_
   refine t_st rfl (st_len rfl sl45) ?_
   refine t_st rfl (st_move rfl) ?_
   refine t_nil ?_
   refine x_then_normal ?_
   refine c_block ?_
   have hb105 : l4.length ≤ 9223372036854775807 := (FZ.bd h3)
   obtain ⟨t150, hl151, hk152⟩ := bindS hm
   refine c_forM (fun k149 => fun _ => fun b147 e' hp' => [(0, .slice A1 (l4).length c2), (1, .slice A5 (l8).length c6), (12, .int .i64 ((l4.length : Int))), (13, .int .i64 ((k149 : Int)))] = e' ∧ R = hp' ∧ b.Le b147) hl151 (e' := [(0, .slice A1 (l4).length c2), (1, .slice A5 (l8).length c6), (12, .int .i64 ((l4.length : Int))), (13, .int .i64 0)]) (hp' := R) ⟨rfl, rfl, rfl, rfl, trivial⟩ (.refl _) ⟨rfl, rfl, (Base.Le.refl _)⟩ ?_ ?_
   ·
    rintro k149 _ b147 _ _ oL104 hknL104 ⟨rfl, rfl, hle148⟩ hstepL104 houtL104
    unfold mSlicesEqual_L104 at hstepL104
    have hm := hstepL104
    refine c_seq ?_
    refine c_region ?_
    refine t_st rfl (st_lss_t rfl rfl (by omega)) ?_
    refine t_nil ?_
    refine x_then_normal ?_
    refine c_seq ?_
    refine c_cond_t rfl ?_
    refine c_skip ?_
    refine x_then_normal ?_
    refine c_seq ?_
    refine c_block ?_
    refine c_seq ?_
    refine c_region ?_
    refine t_st rfl (st_move rfl) ?_
    refine t_st rfl (st_assign rfl) ?_
    refine t_nil ?_
    refine x_then_normal ?_
    refine c_seq ?_
    obtain ⟨x173, h174, hm⟩ := bindS hm
    obtain ⟨x183, h184, hm⟩ := bindS hm
    refine D_drawS (R) mixed ?_
    refine E_in (.refl _) ?_
    refine E_st 0 rfl (st_move rfl) ?_
    refine E_st 1 rfl (st_move rfl) ?_
    obtain ⟨j175, hj176, hx177⟩ := idx_some h174
    obtain ⟨cs178, hr179, hcs180, hA181, hlt182⟩ := FZ.get (sz := 1) rfl (by decide) (h3.le hle148) hx177
    obtain rfl := hr179
    refine E_st 2 rfl (st_index_old j175 rfl rfl hj176 hlt182 hA181 sl45) ?_
    refine E_st 3 rfl (st_load_old rfl one3 (hcs180 0 _ rfl)) ?_
    refine E_st 4 rfl (st_move rfl) ?_
    refine E_st 5 rfl (st_move rfl) ?_
    obtain ⟨j185, hj186, hx187⟩ := idx_some h184
    obtain ⟨cs188, hr189, hcs190, hA191, hlt192⟩ := FZ.get (sz := 1) rfl (by decide) (h7.le hle148) hx187
    obtain rfl := hr189
    refine E_st 6 rfl (st_index_old j185 rfl rfl hj186 hlt192 hA191 sl45) ?_
    refine E_st 7 rfl (st_load_old rfl one3 (hcs190 0 _ rfl)) ?_
    refine E_st 8 rfl (st_neq rfl rfl) ?_
    refine E_out ?_
    refine D_done (by kernel_rfl) ?_
    refine x_then_normal ?_
    refine c_cond _ rfl (fun hc193 => ?_) (fun hc193 => ?_)
    ·
     rw [if_pos (of_decide_eq_true hc193)] at hm
     refine c_seq ?_
     refine c_region ?_
     refine t_st rfl (st_assign rfl) ?_
     refine t_nil ?_
     refine x_then_normal ?_
     refine c_ret ?_
     refine x_block_ret ?_
     refine x_then_ret ?_
     refine x_then_ret ?_
     refine x_block_ret ?_
     refine x_then_ret ?_
     have hq194 := houtL104 _ (Option.some.inj hm).symm
     rw [hq194] at hk152
     have hm := elimR hk152
     obtain rfl := some1 hm
     exact retM (rs := [.tmp 4]) [.bool (false)] hle148 (by decide) rfl ⟨rfl, trivial⟩ rfl (hp' := R) (.refl _) ⟨rfl, rfl⟩
    ·
     rw [if_neg (of_decide_eq_false hc193)] at hm
     refine c_skip ?_
     refine x_block_normal ?_
     refine x_then_normal ?_
     refine c_region ?_
     refine t_st rfl (st_add rfl rfl (by omega)) ?_
     refine t_st rfl (st_move rfl) ?_
     refine t_nil ?_
     exact x_againM () (Option.some.inj hm).symm (e' := [(0, .slice A1 (l4).length c2), (1, .slice A5 (l8).length c6), (12, .int .i64 ((l4.length : Int))), (13, .int .i64 ((k149 : Int) + 1))]) (hp' := R) ⟨rfl, rfl, rfl, rfl, trivial⟩ (.refl _) ⟨rfl, rfl, (hle148)⟩
   ·
    rintro _ b147 _ _ ⟨rfl, rfl, hle148⟩ hq195
    rw [hq195] at hk152
    have hm := elimL hk152
    refine c_seq ?_
    refine c_region ?_
    refine t_st rfl (st_lss_f rfl rfl (by omega)) ?_
    refine t_nil ?_
    refine x_then_normal ?_
    refine c_seq ?_
    refine c_cond_f rfl ?_
    refine c_exit ?_
    refine x_then_exit ?_
    refine x_then_exit ?_
    refine x_block_out ?_
    refine x_then_normal ?_
    refine c_seq ?_
    refine c_region ?_
    refine t_st rfl (st_assign rfl) ?_
    refine t_nil ?_
    refine x_then_normal ?_
    refine c_ret ?_
    obtain rfl := some1 hm
    exact retM (rs := [.tmp 4]) [.bool (true)] hle148 (by decide) rfl ⟨rfl, trivial⟩ rfl (hp' := R) (.refl _) ⟨rfl, rfl⟩

set_option maxRecDepth 20000 in
theorem cFishkeep2Sets (b : Base) (R : Hp) (x76 : Bool) (hm : mFishkeep2Sets = some x76) :
    CallsG Try.prog 11 [] b (R) (fun v b' hp' => .bool (x76) = v ∧ R = hp') := by
  refine fn_enterG 26 Try.func11 rfl Try.ntmps11 rfl ?_
  unfold mFishkeep2Sets at hm
  refine c_seq ?_
  refine c_region ?_
  refine t_st rfl (st_assign rfl) ?_
  refine t_nil ?_
  refine x_then_normal ?_
  refine c_seq ?_
  refine c_region ?_
  refine t_st rfl (st_build (v := .agg #[.int .i64 (0), .int .i64 (1), .int .i64 (10), .int .i64 (20), .int .i64 (0), .int .i64 (1)]) [(0, .int .i64 (0)), (1, .int .i64 (1)), (2, .int .i64 (10)), (3, .int .i64 (20)), (5, .int .i64 (1))] rfl (fun _ => by kernel_rfl)) ?_
  refine t_st rfl (st_build (v := .agg #[.int .i64 (1), .int .i64 (0), .int .i64 (25), .int .i64 (29), .int .i64 (0), .int .i64 (1)]) [(0, .int .i64 (1)), (1, .int .i64 (0)), (2, .int .i64 (25)), (3, .int .i64 (29)), (5, .int .i64 (1))] rfl (fun _ => by kernel_rfl)) ?_
  refine t_do rfl (u_bslice (el := 36) [(0, .agg #[.int .i64 (0), .int .i64 (1), .int .i64 (10), .int .i64 (20), .int .i64 (0), .int .i64 (1)]), (1, .agg #[.int .i64 (1), .int .i64 (0), .int .i64 (25), .int .i64 (29), .int .i64 (0), .int .i64 (1)])] [.int .i64 (0), .int .i64 (1), .int .i64 (10), .int .i64 (20), .int .i64 (0), .int .i64 (1), .int .i64 (1), .int .i64 (0), .int .i64 (25), .int .i64 (29), .int .i64 (0), .int .i64 (1)] rfl (fun _ => by kernel_rfl)) ?_
  rintro _ _ ⟨g77, rfl, rfl⟩
  refine t_st rfl (st_assign rfl) ?_
  refine t_nil ?_
  refine x_then_normal ?_
  refine c_seq ?_
  refine c_region ?_
  refine t_st rfl (st_move rfl) ?_
  refine t_seg 0 [] R rfl rfl ?_
  have h79 : OS 36 (OT.fr rFleetTask) b.w (.slice (some ⟨g77, 0, none⟩) 2 2) [(⟨0, 1, 10, 20, 0, 1⟩ : FleetTask), (⟨1, 0, 25, 29, 0, 1⟩ : FleetTask)] [(g77, Cl 36 [.int .i64 (0), .int .i64 (1), .int .i64 (10), .int .i64 (20), .int .i64 (0), .int .i64 (1), .int .i64 (1), .int .i64 (0), .int .i64 (25), .int .i64 (29), .int .i64 (0), .int .i64 (1)])] := OS.lit [[.int .i64 (0), .int .i64 (1), .int .i64 (10), .int .i64 (20), .int .i64 (0), .int .i64 (1)], [.int .i64 (1), .int .i64 (0), .int .i64 (25), .int .i64 (29), .int .i64 (0), .int .i64 (1)]] rfl ⟨⟨[.int .i64 (0)], _, rfl, rfl, ⟨[.int .i64 (1)], _, rfl, rfl, ⟨[.int .i64 (10)], _, rfl, rfl, ⟨[.int .i64 (20)], _, rfl, rfl, ⟨[.int .i64 (0)], _, rfl, rfl, rfl⟩⟩⟩⟩⟩, ⟨⟨[.int .i64 (1)], _, rfl, rfl, ⟨[.int .i64 (0)], _, rfl, rfl, ⟨[.int .i64 (25)], _, rfl, rfl, ⟨[.int .i64 (29)], _, rfl, rfl, ⟨[.int .i64 (0)], _, rfl, rfl, rfl⟩⟩⟩⟩⟩, trivial⟩⟩ rfl (by decide)
  have hnz80 : (((some ⟨g77, 0, none⟩) : Option Addr) = none ↔ [(⟨0, 1, 10, 20, 0, 1⟩ : FleetTask), (⟨1, 0, 25, 29, 0, 1⟩ : FleetTask)] = []) := ⟨nofun, nofun⟩
  refine t_frz [] [(g77, Cl 36 [.int .i64 (0), .int .i64 (1), .int .i64 (10), .int .i64 (20), .int .i64 (0), .int .i64 (1), .int .i64 (1), .int .i64 (0), .int .i64 (25), .int .i64 (29), .int .i64 (0), .int .i64 (1)])] R rfl ?_
  intro b81 hle82 hz83
  have h84 := OS.frz (l := [(⟨0, 1, 10, 20, 0, 1⟩ : FleetTask), (⟨1, 0, 25, 29, 0, 1⟩ : FleetTask)]) h79 hle82.cells hz83
  obtain ⟨⟨x85, l86⟩, hcl87, hm⟩ := bindS hm
  have hm := (unc2E hm)
  refine t_callG _ rfl call13 rfl (cFleetTurns _ _ [(⟨0, 1, 10, 20, 0, 1⟩ : FleetTask), (⟨1, 0, 25, 29, 0, 1⟩ : FleetTask)] 0 (some ⟨g77, 0, none⟩) 2 h84 x85 l86 hcl87) ?_
  rintro _ b88 _ hle89 ⟨A90, c91, hs92, rfl, rfl, h93⟩
  refine t_in1 [] [] hs92 R rfl ?_
  refine t_st rfl (st_move rfl) ?_
  refine t_st rfl (st_extract rfl rfl) ?_
  refine t_st rfl (st_extract rfl rfl) ?_
  refine t_st rfl (st_assign rfl) ?_
  refine t_st rfl (st_assign rfl) ?_
  refine t_nil ?_
  refine x_then_normal ?_
  obtain ⟨x123, hj124, hk124⟩ := bindS hm
  refine c_join (fun b121 e' hp' => [(0, .bool (x123))] = e' ∧ R = hp' ∧ b88.Le b121) ?_ ?_
  ·
   have hm := hj124
   refine c_region ?_
   refine t_st rfl (st_move rfl) ?_
   refine t_bool rfl (st_eql rfl rfl) (fun hc125 => ?_) (fun hc125 => ?_)
   ·
    rw [if_pos hc125] at hm
    refine t_st rfl (st_move rfl) ?_
    refine t_yes 14 rfl rfl rfl ?_
    refine t_st rfl (st_move rfl) ?_
    refine t_yes 14 rfl rfl rfl ?_
    refine t_st rfl (st_len rfl sl26) ?_
    refine t_yes 14 rfl rfl rfl ?_
    refine t_bool rfl (st_eql rfl rfl) (fun hc126 => ?_) (fun hc126 => ?_)
    ·
     rw [if_pos hc126] at hm
     refine t_st rfl (st_pick_t rfl rfl) ?_
     refine t_st rfl (st_move rfl) ?_
     refine t_yes 19 rfl rfl rfl ?_
     refine t_st rfl (st_move rfl) ?_
     refine t_yes 19 rfl rfl rfl ?_
     obtain ⟨x127, h128, hm⟩ := bindS hm
     obtain ⟨j129, hj130, hx131⟩ := idx_some h128
     obtain ⟨cs132, hs137, P138, P139, hq140, hr133, hcs134, hA135, hlt136, hb141, hho142⟩ := OS.get (sz := 1) rfl (by decide) h93 hx131
     obtain ⟨v143, rfl, h144⟩ := hr133
     obtain ⟨A145, c146, rfl, _⟩ := h144.form
     refine t_st rfl (st_index_old j129 rfl rfl hj130 hlt136 hA135 sl26) ?_
     refine t_yes 19 rfl rfl rfl ?_
     refine t_st rfl (st_load_rd rfl one45 (fun w ho => hcs134 w _ ho (List.sublist_append_left _ _) 0 _ rfl)) ?_
     refine t_yes 19 rfl rfl rfl ?_
     refine t_do rfl (u_bslice (el := 3) [(0, .int .i64 (0)), (1, .int .i64 (1))] [.int .i64 (0), .int .i64 (1)] rfl (fun _ => by kernel_rfl)) ?_
     rintro _ _ ⟨g147, rfl, rfl⟩
     refine t_yes 19 rfl rfl rfl ?_
     refine t_seg 0 [] (hs92 ++ R) rfl rfl ?_
     have h149 : OS 3 (OT.fr (RT.int .i64)) b88.w (.slice (some ⟨g147, 0, none⟩) 2 2) [0, 1] [(g147, Cl 3 [.int .i64 (0), .int .i64 (1)])] := OS.lit [[.int .i64 (0)], [.int .i64 (1)]] rfl ⟨rfl, ⟨rfl, trivial⟩⟩ rfl (by decide)
     obtain ⟨x150, hcl151, hm⟩ := bindS hm
     refine t_do rfl (u_callW0 _ call34 rfl (fun w ho => cSlicesEqual _ [] x127 [0, 1] A145 c146 (some ⟨g147, 0, none⟩) 2 (OS.now h144 ho ((show hs137.Sublist hs92 by rw [hq140]; exact sub_skip _ (List.sublist_append_left _ _)).trans (sub_skip [(g147, Cl 3 [.int .i64 (0), .int .i64 (1)])] (List.sublist_append_left _ _)))) (OS.now (o := (OT.fr (RT.int .i64))) (l := [0, 1]) (hs := [(g147, Cl 3 [.int .i64 (0), .int .i64 (1)])]) h149 ho (List.sublist_append_left _ _)) x150 hcl151) (fun _ _ _ h => h.2.symm)) ?_
     rintro _ _ ⟨⟨_, rfl, _⟩, rfl⟩
     refine t_st rfl (st_pick_t rfl rfl) ?_
     refine t_st rfl (st_assign rfl) ?_
     refine t_nil ?_
     obtain rfl := some1 hm
     exact x_join (e' := [(0, .bool (x150))]) (hp' := R) ⟨rfl, trivial⟩ (sub_skip [(g147, Cl 3 [.int .i64 (0), .int .i64 (1)])] (sub_skip hs92 (.refl _))) ⟨rfl, rfl, (Base.Le.refl _)⟩
    ·
     rw [if_neg hc126] at hm
     refine t_st rfl (st_pick_t rfl rfl) ?_
     refine t_st rfl (st_move rfl) ?_
     refine t_no 19 rfl rfl rfl rfl rfl ?_
     refine t_no 19 rfl rfl rfl rfl rfl ?_
     refine t_no 19 rfl rfl rfl rfl rfl ?_
     refine t_no 19 rfl rfl rfl rfl rfl ?_
     refine t_no 19 rfl rfl rfl rfl rfl ?_
     refine t_st rfl (st_pick_f rfl rfl) ?_
     refine t_st rfl (st_assign rfl) ?_
     refine t_nil ?_
     obtain rfl := some1 hm
     exact x_join (e' := [(0, .bool (false))]) (hp' := R) ⟨rfl, trivial⟩ (sub_skip hs92 (.refl _)) ⟨rfl, rfl, (Base.Le.refl _)⟩
   ·
    rw [if_neg hc125] at hm
    refine t_st rfl (st_move rfl) ?_
    refine t_no 14 rfl rfl rfl rfl rfl ?_
    refine t_no 14 rfl rfl rfl rfl rfl ?_
    refine t_no 14 rfl rfl rfl rfl rfl ?_
    refine t_st rfl (st_pick_f rfl rfl) ?_
    refine t_st rfl (st_move rfl) ?_
    refine t_no 19 rfl rfl rfl rfl rfl ?_
    refine t_no 19 rfl rfl rfl rfl rfl ?_
    refine t_no 19 rfl rfl rfl rfl rfl ?_
    refine t_no 19 rfl rfl rfl rfl rfl ?_
    refine t_no 19 rfl rfl rfl rfl rfl ?_
    refine t_st rfl (st_pick_f rfl rfl) ?_
    refine t_st rfl (st_assign rfl) ?_
    refine t_nil ?_
    obtain rfl := some1 hm
    exact x_join (e' := [(0, .bool (false))]) (hp' := R) ⟨rfl, trivial⟩ (sub_skip hs92 (.refl _)) ⟨rfl, rfl, (Base.Le.refl _)⟩
  ·
   rintro b121 _ _ ⟨rfl, rfl, hle122⟩
   have hm := hk124
   refine c_ret ?_
   obtain rfl := some1 hm
   exact retM (rs := [.tmp 0]) [.bool (x123)] (hle82.trans (hle89.trans hle122)) (by decide) rfl ⟨rfl, trivial⟩ rfl (hp' := R) (.refl _) ⟨rfl, rfl⟩

set_option maxRecDepth 20000 in
theorem cFishref2Within (b : Base) (R : Hp) (x1 : Int) (x2 : Int) (x3 : Int) (x10 : Bool) (hm : mFishref2Within x1 x2 x3 = some x10) :
    CallsG Try.prog 42 [.int .i64 (x1), .int .i64 (x2), .int .i64 (x3)] b (R) (fun v b' hp' => .bool (x10) = v ∧ R = hp') := by
  refine fn_enterG 15 Try.func42 rfl Try.ntmps42 rfl ?_
  unfold mFishref2Within at hm
  refine c_seq ?_
  refine c_region ?_
  refine t_st rfl (st_assign rfl) ?_
  refine t_nil ?_
  refine x_then_normal ?_
  obtain ⟨x14, hj15, hk15⟩ := bindS hm
  refine c_join (fun b12 e' hp' => [(6, .bool (x14))] = e' ∧ R = hp' ∧ b.Le b12) ?_ ?_
  ·
   have hm := hj15
   refine c_region ?_
   refine t_st rfl (st_move rfl) ?_
   refine t_st rfl (st_move rfl) ?_
   refine t_bool rfl (st_geq rfl rfl) (fun hc16 => ?_) (fun hc16 => ?_)
   ·
    rw [if_pos hc16] at hm
    refine t_st rfl (st_move rfl) ?_
    refine t_yes 10 rfl rfl rfl ?_
    refine t_st rfl (st_move rfl) ?_
    refine t_yes 10 rfl rfl rfl ?_
    refine t_st rfl (st_move rfl) ?_
    refine t_yes 10 rfl rfl rfl ?_
    refine t_st rfl (st_leq rfl rfl) ?_
    refine t_st rfl (st_pick_t rfl rfl) ?_
    refine t_st rfl (st_assign rfl) ?_
    refine t_nil ?_
    obtain rfl := some1 hm
    exact x_join (e' := [(6, .bool (decide (x1 ≤ x3)))]) (hp' := R) ⟨rfl, trivial⟩ (.refl _) ⟨rfl, rfl, (Base.Le.refl _)⟩
   ·
    rw [if_neg hc16] at hm
    refine t_st rfl (st_move rfl) ?_
    refine t_no 10 rfl rfl rfl rfl rfl ?_
    refine t_no 10 rfl rfl rfl rfl rfl ?_
    refine t_no 10 rfl rfl rfl rfl rfl ?_
    refine t_st rfl (st_pick_f rfl rfl) ?_
    refine t_st rfl (st_assign rfl) ?_
    refine t_nil ?_
    obtain rfl := some1 hm
    exact x_join (e' := [(6, .bool (false))]) (hp' := R) ⟨rfl, trivial⟩ (.refl _) ⟨rfl, rfl, (Base.Le.refl _)⟩
  ·
   rintro b12 _ _ ⟨rfl, rfl, hle13⟩
   have hm := hk15
   refine c_ret ?_
   obtain rfl := some1 hm
   exact retM (rs := [.tmp 6]) [.bool (x14)] hle13 (by decide) rfl ⟨rfl, trivial⟩ rfl (hp' := R) (.refl _) ⟨rfl, rfl⟩

set_option maxRecDepth 20000 in
theorem cFishref2TasksFault (b : Base) (R : Hp) (l4 : (List FleetTask)) (A1 : Option Addr) (c2 : Nat) (h3 : FZ rFleetTask b.w A1 c2 l4) (x126 : Int) (hm : mFishref2TasksFault l4 = some x126) :
    CallsG Try.prog 16 [.slice A1 (l4).length c2] b (R) (fun v b' hp' => .int .i64 (x126) = v ∧ R = hp') := by
  refine fn_enterG 52 Try.func16 rfl Try.ntmps16 rfl ?_
  unfold mFishref2TasksFault at hm
  refine c_seq ?_
  refine c_region ?_
  refine t_st rfl (st_assign rfl) ?_
  refine t_nil ?_
  refine x_then_normal ?_
  refine c_seq ?_
  refine c_seq ?_
  refine c_region ?_
  refine t_st rfl (st_move rfl) ?_
  refine t_st rfl (st_len rfl sl22) ?_
  refine t_st rfl (st_gtr rfl rfl) ?_
  refine t_nil ?_
  refine x_then_normal ?_
  refine c_cond _ rfl (fun hc127 => ?_) (fun hc127 => ?_)
  ·
   rw [if_pos (of_decide_eq_true hc127)] at hm
   refine c_seq ?_
   refine c_region ?_
   refine t_st rfl (st_assign rfl) ?_
   refine t_nil ?_
   refine x_then_normal ?_
   refine c_ret ?_
   refine x_then_ret ?_
   obtain rfl := some1 hm
   exact retM (rs := [.tmp 2]) [.int .i64 (4)] (Base.Le.refl _) (by decide) rfl ⟨rfl, trivial⟩ rfl (hp' := R) (.refl _) ⟨rfl, rfl⟩
  ·
   rw [if_neg (of_decide_eq_false hc127)] at hm
   refine c_skip ?_
   refine x_then_normal ?_
   refine c_seq ?_
   refine c_seq ?_
   refine c_region ?_
   refine t_st rfl (st_move rfl) ?_
   refine t_st rfl (st_len rfl sl22) ?_
   refine t_st rfl (st_move rfl) ?_
   refine t_nil ?_
   refine x_then_normal ?_
   refine c_block ?_
   have hb129 : l4.length ≤ 9223372036854775807 := (FZ.bd h3)
   obtain ⟨t187, hl188, hk189⟩ := bindS hm
   refine c_forM (fun k186 => fun _ => fun b184 e' hp' => [(8, .slice A1 (l4).length c2), (9, .int .i64 ((l4.length : Int))), (10, .int .i64 ((k186 : Int)))] = e' ∧ R = hp' ∧ b.Le b184) hl188 (e' := [(8, .slice A1 (l4).length c2), (9, .int .i64 ((l4.length : Int))), (10, .int .i64 0)]) (hp' := R) ⟨rfl, rfl, rfl, trivial⟩ (.refl _) ⟨rfl, rfl, (Base.Le.refl _)⟩ ?_ ?_
   ·
    rintro k186 _ b184 _ _ oL128 hknL128 ⟨rfl, rfl, hle185⟩ hstepL128 houtL128
    unfold mFishref2TasksFault_L128 at hstepL128
    have hm := hstepL128
    refine c_seq ?_
    refine c_region ?_
    refine t_st rfl (st_lss_t rfl rfl (by omega)) ?_
    refine t_nil ?_
    refine x_then_normal ?_
    refine c_seq ?_
    refine c_cond_t rfl ?_
    refine c_skip ?_
    refine x_then_normal ?_
    refine c_seq ?_
    refine c_block ?_
    refine c_seq ?_
    refine c_region ?_
    obtain ⟨x190, h191, hm⟩ := bindS hm
    obtain ⟨j192, hj193, hx194⟩ := idx_some h191
    obtain ⟨cs195, hr196, hcs197, hA198, hlt199⟩ := FZ.get (sz := 6) rfl (by decide) (h3.le hle185) hx194
    obtain ⟨_, _, rfl, rfl, ⟨_, _, rfl, rfl, ⟨_, _, rfl, rfl, ⟨_, _, rfl, rfl, ⟨_, _, rfl, rfl, rfl⟩⟩⟩⟩⟩ := hr196
    refine t_st rfl (st_index_old j192 rfl rfl hj193 hlt199 hA198 sl22) ?_
    refine t_st rfl (st_loadN_old (vs := [.int .i64 (x190.From), .int .i64 (x190.To), .int .i64 (x190.Dep), .int .i64 (x190.Arr), .int .i64 (x190.Km), .int .i64 (x190.Units)]) 6 rfl agg36 hA198 rfl (fun j u hu => hcs197 j u hu)) ?_
    refine t_do rfl (u_alloc [.int .i64 0, .int .i64 0, .int .i64 0, .int .i64 0, .int .i64 0, .int .i64 0] zero36 rfl) ?_
    rintro _ _ ⟨g200, rfl, rfl⟩
    refine t_do rfl (u_storeN (vs := [_, _, _, _, _, _]) 0 6 rfl rfl rfl siz36 rfl (by intro u hu; simp only [List.mem_cons, List.not_mem_nil, or_false] at hu; rcases hu with rfl | rfl | rfl | rfl | rfl | rfl <;> rfl) rfl (by simp)) ?_
    rintro _ _ rfl
    refine t_nil ?_
    refine x_then_normal ?_
    refine c_seq ?_
    obtain ⟨x214, hj215, hk215⟩ := bindS hm
    refine c_join (fun b212 e' hp' => [(4, .pointer (some ⟨g200, 0, none⟩)), (8, .slice A1 (l4).length c2), (9, .int .i64 ((l4.length : Int))), (10, .int .i64 ((k186 : Int))), (35, .bool (x214))] = e' ∧ (g200, Cl 36 [.int .i64 (x190.From), .int .i64 (x190.To), .int .i64 (x190.Dep), .int .i64 (x190.Arr), .int .i64 (x190.Km), .int .i64 (x190.Units)]) :: R = hp' ∧ b184.Le b212) ?_ ?_
    ·
     have hm := hj215
     refine c_region ?_
     refine t_st rfl (st_field rfl fld36_0) ?_
     refine t_st rfl (st_load 0 rfl one3 rfl rfl) ?_
     obtain ⟨x216, hcl217, hm⟩ := bindS hm
     refine t_do rfl (u_callW0 _ call42 rfl (fun w ho => cFishref2Within _ [] x190.From 0 11 x216 hcl217) (fun _ _ _ h => h.2.symm)) ?_
     rintro _ _ ⟨⟨_, rfl, _⟩, rfl⟩
     rcases Bool.eq_false_or_eq_true x216 with hc218 | hc218
     ·
      rw [if_pos hc218] at hm
      refine t_resp 16 rfl (v' := .bool true) (by rw [hc218] <;> rfl) ?_
      refine t_st rfl (st_not_t rfl) ?_
      refine t_st rfl (st_move rfl) ?_
      refine t_yes 18 rfl rfl rfl ?_
      refine t_st rfl (st_field rfl fld36_1) ?_
      refine t_yes 18 rfl rfl rfl ?_
      refine t_st rfl (st_load 0 rfl one3 rfl rfl) ?_
      refine t_yes 18 rfl rfl rfl ?_
      obtain ⟨x219, hcl220, hm⟩ := bindS hm
      refine t_do rfl (u_callW0 _ call42 rfl (fun w ho => cFishref2Within _ [] x190.To 0 11 x219 hcl220) (fun _ _ _ h => h.2.symm)) ?_
      rintro _ _ ⟨⟨_, rfl, _⟩, rfl⟩
      rcases Bool.eq_false_or_eq_true x219 with hc221 | hc221
      ·
       rw [if_pos hc221] at hm
       refine t_resp 21 rfl (v' := .bool true) (by rw [hc221] <;> rfl) ?_
       refine t_yes 18 rfl rfl rfl ?_
       refine t_st rfl (st_not_t rfl) ?_
       refine t_st rfl (st_pick_f rfl rfl) ?_
       refine t_st rfl (st_move rfl) ?_
       refine t_yes 24 rfl rfl rfl ?_
       refine t_st rfl (st_field rfl fld36_2) ?_
       refine t_yes 24 rfl rfl rfl ?_
       refine t_st rfl (st_load 0 rfl one3 rfl rfl) ?_
       refine t_yes 24 rfl rfl rfl ?_
       obtain ⟨x222, hcl223, hm⟩ := bindS hm
       refine t_do rfl (u_callW0 _ call42 rfl (fun w ho => cFishref2Within _ [] x190.Dep 0 28800 x222 hcl223) (fun _ _ _ h => h.2.symm)) ?_
       rintro _ _ ⟨⟨_, rfl, _⟩, rfl⟩
       rcases Bool.eq_false_or_eq_true x222 with hc224 | hc224
       ·
        rw [if_pos hc224] at hm
        refine t_resp 27 rfl (v' := .bool true) (by rw [hc224] <;> rfl) ?_
        refine t_yes 24 rfl rfl rfl ?_
        refine t_st rfl (st_not_t rfl) ?_
        refine t_st rfl (st_pick_f rfl rfl) ?_
        refine t_st rfl (st_move rfl) ?_
        refine t_yes 30 rfl rfl rfl ?_
        refine t_st rfl (st_field rfl fld36_3) ?_
        refine t_yes 30 rfl rfl rfl ?_
        refine t_st rfl (st_load 0 rfl one3 rfl rfl) ?_
        refine t_yes 30 rfl rfl rfl ?_
        obtain ⟨x225, hcl226, hm⟩ := bindS hm
        refine t_do rfl (u_callW0 _ call42 rfl (fun w ho => cFishref2Within _ [] x190.Arr 0 28800 x225 hcl226) (fun _ _ _ h => h.2.symm)) ?_
        rintro _ _ ⟨⟨_, rfl, _⟩, rfl⟩
        refine t_yes 30 rfl rfl rfl ?_
        refine t_st rfl (st_not rfl) ?_
        refine t_st rfl (st_pick_f rfl rfl) ?_
        refine t_nil ?_
        obtain rfl := some1 hm
        exact x_join (e' := [(4, .pointer (some ⟨g200, 0, none⟩)), (8, .slice A1 (l4).length c2), (9, .int .i64 ((l4.length : Int))), (10, .int .i64 ((k186 : Int))), (35, .bool (!x225))]) (hp' := (g200, Cl 36 [.int .i64 (x190.From), .int .i64 (x190.To), .int .i64 (x190.Dep), .int .i64 (x190.Arr), .int .i64 (x190.Km), .int .i64 (x190.Units)]) :: R) ⟨rfl, rfl, rfl, rfl, rfl, trivial⟩ (.cons_cons _ (.refl _)) ⟨rfl, rfl, (Base.Le.refl _)⟩
       ·
        rw [if_neg (fun hh => Bool.noConfusion (hh.symm.trans hc224))] at hm
        refine t_resp 27 rfl (v' := .bool false) (by rw [hc224] <;> rfl) ?_
        refine t_yes 24 rfl rfl rfl ?_
        refine t_st rfl (st_not_f rfl) ?_
        refine t_st rfl (st_pick_f rfl rfl) ?_
        refine t_st rfl (st_move rfl) ?_
        refine t_no 30 rfl rfl rfl rfl rfl ?_
        refine t_no 30 rfl rfl rfl rfl rfl ?_
        refine t_no 30 rfl rfl rfl rfl rfl ?_
        refine t_no 30 rfl rfl rfl rfl rfl ?_
        refine t_st rfl (st_pick_t rfl rfl) ?_
        refine t_nil ?_
        obtain rfl := some1 hm
        exact x_join (e' := [(4, .pointer (some ⟨g200, 0, none⟩)), (8, .slice A1 (l4).length c2), (9, .int .i64 ((l4.length : Int))), (10, .int .i64 ((k186 : Int))), (35, .bool (true))]) (hp' := (g200, Cl 36 [.int .i64 (x190.From), .int .i64 (x190.To), .int .i64 (x190.Dep), .int .i64 (x190.Arr), .int .i64 (x190.Km), .int .i64 (x190.Units)]) :: R) ⟨rfl, rfl, rfl, rfl, rfl, trivial⟩ (.cons_cons _ (.refl _)) ⟨rfl, rfl, (Base.Le.refl _)⟩
      ·
       rw [if_neg (fun hh => Bool.noConfusion (hh.symm.trans hc221))] at hm
       refine t_resp 21 rfl (v' := .bool false) (by rw [hc221] <;> rfl) ?_
       refine t_yes 18 rfl rfl rfl ?_
       refine t_st rfl (st_not_f rfl) ?_
       refine t_st rfl (st_pick_f rfl rfl) ?_
       refine t_st rfl (st_move rfl) ?_
       refine t_no 24 rfl rfl rfl rfl rfl ?_
       refine t_no 24 rfl rfl rfl rfl rfl ?_
       refine t_no 24 rfl rfl rfl rfl rfl ?_
       refine t_no 24 rfl rfl rfl rfl rfl ?_
       refine t_st rfl (st_pick_t rfl rfl) ?_
       refine t_st rfl (st_move rfl) ?_
       refine t_no 30 rfl rfl rfl rfl rfl ?_
       refine t_no 30 rfl rfl rfl rfl rfl ?_
       refine t_no 30 rfl rfl rfl rfl rfl ?_
       refine t_no 30 rfl rfl rfl rfl rfl ?_
       refine t_st rfl (st_pick_t rfl rfl) ?_
       refine t_nil ?_
       obtain rfl := some1 hm
       exact x_join (e' := [(4, .pointer (some ⟨g200, 0, none⟩)), (8, .slice A1 (l4).length c2), (9, .int .i64 ((l4.length : Int))), (10, .int .i64 ((k186 : Int))), (35, .bool (true))]) (hp' := (g200, Cl 36 [.int .i64 (x190.From), .int .i64 (x190.To), .int .i64 (x190.Dep), .int .i64 (x190.Arr), .int .i64 (x190.Km), .int .i64 (x190.Units)]) :: R) ⟨rfl, rfl, rfl, rfl, rfl, trivial⟩ (.cons_cons _ (.refl _)) ⟨rfl, rfl, (Base.Le.refl _)⟩
     ·
      rw [if_neg (fun hh => Bool.noConfusion (hh.symm.trans hc218))] at hm
      refine t_resp 16 rfl (v' := .bool false) (by rw [hc218] <;> rfl) ?_
      refine t_st rfl (st_not_f rfl) ?_
      refine t_st rfl (st_move rfl) ?_
      refine t_no 18 rfl rfl rfl rfl rfl ?_
      refine t_no 18 rfl rfl rfl rfl rfl ?_
      refine t_no 18 rfl rfl rfl rfl rfl ?_
      refine t_no 18 rfl rfl rfl rfl rfl ?_
      refine t_st rfl (st_pick_t rfl rfl) ?_
      refine t_st rfl (st_move rfl) ?_
      refine t_no 24 rfl rfl rfl rfl rfl ?_
      refine t_no 24 rfl rfl rfl rfl rfl ?_
      refine t_no 24 rfl rfl rfl rfl rfl ?_
      refine t_no 24 rfl rfl rfl rfl rfl ?_
      refine t_st rfl (st_pick_t rfl rfl) ?_
      refine t_st rfl (st_move rfl) ?_
      refine t_no 30 rfl rfl rfl rfl rfl ?_
      refine t_no 30 rfl rfl rfl rfl rfl ?_
      refine t_no 30 rfl rfl rfl rfl rfl ?_
      refine t_no 30 rfl rfl rfl rfl rfl ?_
      refine t_st rfl (st_pick_t rfl rfl) ?_
      refine t_nil ?_
      obtain rfl := some1 hm
      exact x_join (e' := [(4, .pointer (some ⟨g200, 0, none⟩)), (8, .slice A1 (l4).length c2), (9, .int .i64 ((l4.length : Int))), (10, .int .i64 ((k186 : Int))), (35, .bool (true))]) (hp' := (g200, Cl 36 [.int .i64 (x190.From), .int .i64 (x190.To), .int .i64 (x190.Dep), .int .i64 (x190.Arr), .int .i64 (x190.Km), .int .i64 (x190.Units)]) :: R) ⟨rfl, rfl, rfl, rfl, rfl, trivial⟩ (.cons_cons _ (.refl _)) ⟨rfl, rfl, (Base.Le.refl _)⟩
    ·
     rintro b212 _ _ ⟨rfl, rfl, hle213⟩
     have hm := hk215
     refine c_cond _ rfl (fun hc227 => ?_) (fun hc227 => ?_)
     ·
      rw [if_pos hc227] at hm
      refine c_seq ?_
      refine c_region ?_
      refine t_st rfl (st_assign rfl) ?_
      refine t_nil ?_
      refine x_then_normal ?_
      refine c_ret ?_
      refine x_then_ret ?_
      refine x_block_ret ?_
      refine x_then_ret ?_
      refine x_then_ret ?_
      refine x_block_ret ?_
      refine x_then_ret ?_
      have hq228 := houtL128 _ (Option.some.inj hm).symm
      rw [hq228] at hk189
      have hm := elimR hk189
      obtain rfl := some1 hm
      exact retM (rs := [.tmp 2]) [.int .i64 (2)] (hle185.trans hle213) (by decide) rfl ⟨rfl, trivial⟩ rfl (hp' := R) (.cons _ (.refl _)) ⟨rfl, rfl⟩
     ·
      rw [if_neg (fun hh => Bool.noConfusion (hh.symm.trans hc227))] at hm
      refine c_skip ?_
      refine x_then_normal ?_
      refine c_seq ?_
      refine c_seq ?_
      refine c_region ?_
      refine t_st rfl (st_field rfl fld36_3) ?_
      refine t_st rfl (st_load 0 rfl one3 rfl rfl) ?_
      refine t_st rfl (st_field rfl fld36_2) ?_
      refine t_st rfl (st_load 0 rfl one3 rfl rfl) ?_
      refine t_st rfl (st_leq rfl rfl) ?_
      refine t_nil ?_
      refine x_then_normal ?_
      refine c_cond _ rfl (fun hc229 => ?_) (fun hc229 => ?_)
      ·
       rw [if_pos (of_decide_eq_true hc229)] at hm
       refine c_seq ?_
       refine c_region ?_
       refine t_st rfl (st_assign rfl) ?_
       refine t_nil ?_
       refine x_then_normal ?_
       refine c_ret ?_
       refine x_then_ret ?_
       refine x_block_ret ?_
       refine x_then_ret ?_
       refine x_then_ret ?_
       refine x_block_ret ?_
       refine x_then_ret ?_
       have hq230 := houtL128 _ (Option.some.inj hm).symm
       rw [hq230] at hk189
       have hm := elimR hk189
       obtain rfl := some1 hm
       exact retM (rs := [.tmp 2]) [.int .i64 (13)] (hle185.trans hle213) (by decide) rfl ⟨rfl, trivial⟩ rfl (hp' := R) (.cons _ (.refl _)) ⟨rfl, rfl⟩
      ·
       rw [if_neg (of_decide_eq_false hc229)] at hm
       refine c_skip ?_
       refine x_then_normal ?_
       obtain ⟨x238, hj239, hk239⟩ := bindS hm
       refine c_join (fun b236 e' hp' => [(8, .slice A1 (l4).length c2), (9, .int .i64 ((l4.length : Int))), (10, .int .i64 ((k186 : Int))), (50, .bool (x238))] = e' ∧ R = hp' ∧ b212.Le b236) ?_ ?_
       ·
        have hm := hj239
        refine c_region ?_
        refine t_st rfl (st_field rfl fld36_4) ?_
        refine t_st rfl (st_load 0 rfl one3 rfl rfl) ?_
        obtain ⟨x240, hcl241, hm⟩ := bindS hm
        refine t_do rfl (u_callW0 _ call42 rfl (fun w ho => cFishref2Within _ [] x190.Km 0 10000 x240 hcl241) (fun _ _ _ h => h.2.symm)) ?_
        rintro _ _ ⟨⟨_, rfl, _⟩, rfl⟩
        rcases Bool.eq_false_or_eq_true x240 with hc242 | hc242
        ·
         rw [if_pos hc242] at hm
         refine t_resp 43 rfl (v' := .bool true) (by rw [hc242] <;> rfl) ?_
         refine t_st rfl (st_not_t rfl) ?_
         refine t_st rfl (st_move rfl) ?_
         refine t_yes 45 rfl rfl rfl ?_
         refine t_st rfl (st_field rfl fld36_5) ?_
         refine t_yes 45 rfl rfl rfl ?_
         refine t_st rfl (st_load 0 rfl one3 rfl rfl) ?_
         refine t_yes 45 rfl rfl rfl ?_
         obtain ⟨x243, hcl244, hm⟩ := bindS hm
         refine t_do rfl (u_callW0 _ call42 rfl (fun w ho => cFishref2Within _ [] x190.Units 1 4 x243 hcl244) (fun _ _ _ h => h.2.symm)) ?_
         rintro _ _ ⟨⟨_, rfl, _⟩, rfl⟩
         refine t_yes 45 rfl rfl rfl ?_
         refine t_st rfl (st_not rfl) ?_
         refine t_st rfl (st_pick_f rfl rfl) ?_
         refine t_nil ?_
         obtain rfl := some1 hm
         exact x_join (e' := [(8, .slice A1 (l4).length c2), (9, .int .i64 ((l4.length : Int))), (10, .int .i64 ((k186 : Int))), (50, .bool (!x243))]) (hp' := R) ⟨rfl, rfl, rfl, rfl, trivial⟩ (.cons _ (.refl _)) ⟨rfl, rfl, (Base.Le.refl _)⟩
        ·
         rw [if_neg (fun hh => Bool.noConfusion (hh.symm.trans hc242))] at hm
         refine t_resp 43 rfl (v' := .bool false) (by rw [hc242] <;> rfl) ?_
         refine t_st rfl (st_not_f rfl) ?_
         refine t_st rfl (st_move rfl) ?_
         refine t_no 45 rfl rfl rfl rfl rfl ?_
         refine t_no 45 rfl rfl rfl rfl rfl ?_
         refine t_no 45 rfl rfl rfl rfl rfl ?_
         refine t_no 45 rfl rfl rfl rfl rfl ?_
         refine t_st rfl (st_pick_t rfl rfl) ?_
         refine t_nil ?_
         obtain rfl := some1 hm
         exact x_join (e' := [(8, .slice A1 (l4).length c2), (9, .int .i64 ((l4.length : Int))), (10, .int .i64 ((k186 : Int))), (50, .bool (true))]) (hp' := R) ⟨rfl, rfl, rfl, rfl, trivial⟩ (.cons _ (.refl _)) ⟨rfl, rfl, (Base.Le.refl _)⟩
       ·
        rintro b236 _ _ ⟨rfl, rfl, hle237⟩
        have hm := hk239
        refine c_cond _ rfl (fun hc245 => ?_) (fun hc245 => ?_)
        ·
         rw [if_pos hc245] at hm
         refine c_seq ?_
         refine c_region ?_
         refine t_st rfl (st_assign rfl) ?_
         refine t_nil ?_
         refine x_then_normal ?_
         refine c_ret ?_
         refine x_block_ret ?_
         refine x_then_ret ?_
         refine x_then_ret ?_
         refine x_block_ret ?_
         refine x_then_ret ?_
         have hq246 := houtL128 _ (Option.some.inj hm).symm
         rw [hq246] at hk189
         have hm := elimR hk189
         obtain rfl := some1 hm
         exact retM (rs := [.tmp 2]) [.int .i64 (2)] (hle185.trans (hle213.trans hle237)) (by decide) rfl ⟨rfl, trivial⟩ rfl (hp' := R) (.refl _) ⟨rfl, rfl⟩
        ·
         rw [if_neg (fun hh => Bool.noConfusion (hh.symm.trans hc245))] at hm
         refine c_skip ?_
         refine x_block_normal ?_
         refine x_then_normal ?_
         refine c_region ?_
         refine t_st rfl (st_add rfl rfl (by omega)) ?_
         refine t_st rfl (st_move rfl) ?_
         refine t_nil ?_
         exact x_againM () (Option.some.inj hm).symm (e' := [(8, .slice A1 (l4).length c2), (9, .int .i64 ((l4.length : Int))), (10, .int .i64 ((k186 : Int) + 1))]) (hp' := R) ⟨rfl, rfl, rfl, trivial⟩ (.refl _) ⟨rfl, rfl, ((hle185.trans (hle213.trans hle237)))⟩
   ·
    rintro _ b184 _ _ ⟨rfl, rfl, hle185⟩ hq247
    rw [hq247] at hk189
    have hm := elimL hk189
    refine c_seq ?_
    refine c_region ?_
    refine t_st rfl (st_lss_f rfl rfl (by omega)) ?_
    refine t_nil ?_
    refine x_then_normal ?_
    refine c_seq ?_
    refine c_cond_f rfl ?_
    refine c_exit ?_
    refine x_then_exit ?_
    refine x_then_exit ?_
    refine x_block_out ?_
    refine x_then_normal ?_
    refine c_seq ?_
    refine c_region ?_
    refine t_st rfl (st_assign rfl) ?_
    refine t_nil ?_
    refine x_then_normal ?_
    refine c_ret ?_
    obtain rfl := some1 hm
    exact retM (rs := [.tmp 2]) [.int .i64 (0)] hle185 (by decide) rfl ⟨rfl, trivial⟩ rfl (hp' := R) (.refl _) ⟨rfl, rfl⟩

set_option maxRecDepth 20000 in
theorem cFishref2TurnFault (b : Base) (R : Hp) (l4 : (List FleetTask)) (x5 : Int) (A1 : Option Addr) (c2 : Nat) (h3 : FZ rFleetTask b.w A1 c2 l4) (x12 : Int) (hm : mFishref2TurnFault l4 x5 = some x12) :
    CallsG Try.prog 12 [.slice A1 (l4).length c2, .int .i64 (x5)] b (R) (fun v b' hp' => .int .i64 (x12) = v ∧ R = hp') := by
  refine fn_enterG 14 Try.func12 rfl Try.ntmps12 rfl ?_
  unfold mFishref2TurnFault at hm
  refine c_seq ?_
  refine c_region ?_
  refine t_st rfl (st_assign rfl) ?_
  refine t_nil ?_
  refine x_then_normal ?_
  refine c_seq ?_
  refine c_seq ?_
  refine c_region ?_
  refine t_st rfl (st_move rfl) ?_
  obtain ⟨x13, hcl14, hm⟩ := bindS hm
  refine t_do rfl (u_callW0 _ call16 rfl (fun w ho => cFishref2TasksFault _ [] l4 A1 c2 (h3.old ho) x13 hcl14) (fun _ _ _ h => h.2.symm)) ?_
  rintro _ _ ⟨⟨_, rfl, _⟩, rfl⟩
  refine t_st rfl (st_assign rfl) ?_
  refine t_nil ?_
  refine x_then_normal ?_
  refine c_seq ?_
  refine c_region ?_
  refine t_st rfl (st_move rfl) ?_
  refine t_st rfl (st_neq rfl rfl) ?_
  refine t_nil ?_
  refine x_then_normal ?_
  refine c_cond _ rfl (fun hc15 => ?_) (fun hc15 => ?_)
  ·
   rw [if_pos (of_decide_eq_true hc15)] at hm
   refine c_seq ?_
   refine c_region ?_
   refine t_st rfl (st_move rfl) ?_
   refine t_st rfl (st_assign rfl) ?_
   refine t_nil ?_
   refine x_then_normal ?_
   refine c_ret ?_
   refine x_then_ret ?_
   obtain rfl := some1 hm
   exact retM (rs := [.tmp 4]) [.int .i64 (x13)] (Base.Le.refl _) (by decide) rfl ⟨rfl, trivial⟩ rfl (hp' := R) (.refl _) ⟨rfl, rfl⟩
  ·
   rw [if_neg (of_decide_eq_false hc15)] at hm
   refine c_skip ?_
   refine x_then_normal ?_
   refine c_seq ?_
   refine c_seq ?_
   refine c_region ?_
   refine t_st rfl (st_move rfl) ?_
   obtain ⟨x16, hcl17, hm⟩ := bindS hm
   refine t_do rfl (u_callW0 _ call42 rfl (fun w ho => cFishref2Within _ [] x5 0 28800 x16 hcl17) (fun _ _ _ h => h.2.symm)) ?_
   rintro _ _ ⟨⟨_, rfl, _⟩, rfl⟩
   refine t_st rfl (st_not rfl) ?_
   refine t_nil ?_
   refine x_then_normal ?_
   refine c_cond _ rfl (fun hc18 => ?_) (fun hc18 => ?_)
   ·
    rw [if_neg (fun hh => Bool.noConfusion (hh.symm.trans (notT hc18)))] at hm
    refine c_seq ?_
    refine c_region ?_
    refine t_st rfl (st_assign rfl) ?_
    refine t_nil ?_
    refine x_then_normal ?_
    refine c_ret ?_
    refine x_then_ret ?_
    obtain rfl := some1 hm
    exact retM (rs := [.tmp 4]) [.int .i64 (2)] (Base.Le.refl _) (by decide) rfl ⟨rfl, trivial⟩ rfl (hp' := R) (.refl _) ⟨rfl, rfl⟩
   ·
    rw [if_pos (notF hc18)] at hm
    refine c_skip ?_
    refine x_then_normal ?_
    refine c_seq ?_
    refine c_region ?_
    refine t_st rfl (st_assign rfl) ?_
    refine t_nil ?_
    refine x_then_normal ?_
    refine c_ret ?_
    obtain rfl := some1 hm
    exact retM (rs := [.tmp 4]) [.int .i64 (0)] (Base.Le.refl _) (by decide) rfl ⟨rfl, trivial⟩ rfl (hp' := R) (.refl _) ⟨rfl, rfl⟩

end Go.Proofs.Ytajmocgpjkhjlaa
