/- Contracts: the code computes its model (part 2). -/
import Derived.Test.YtajmocgpjkhjlaaEP1
set_option linter.unusedVariables false
set_option linter.unusedSimpArgs false
namespace Go.Proofs.Ytajmocgpjkhjlaa
open Go.RowKit Go.Fp

set_option maxRecDepth 20000 in
theorem cSlicesSymMergeCmpFunc : ∀ (N : Nat) (b : Base) (R : Hp) (x7 : Int) (x8 : Int) (x9 : Int) (l13 : (List FleetTask)) (l14 : (List Int)) (g6 : Nat) (A10 : Option Addr) (c11 : Nat) (A3 : Option Addr) (c4 : Nat) (hs2 : Hp) (h12 : FZ rFleetTask b.w A10 c11 l13) (h5 : OS 3 (OT.fr (RT.int .i64)) b.w (.slice A3 l14.length c4) l14 hs2) (l6705 : (List Int)) (hm : mSlicesSymMergeCmpFunc N x7 x8 x9 l13 l14 = some l6705),
    CallsG Try.prog 120 [.slice A3 (l14).length c4, .int .i64 (x7), .int .i64 (x8), .int .i64 (x9), .func (.func 80) #[] #[.pointer (some ⟨g6, 0, none⟩)]] b ((g6, Cl 22 [.slice A10 (l13).length c11]) :: (hs2 ++ R)) (fun v b' hp' => ∃ (hs6703 : Hp), .tuple #[] = v ∧ (g6, Cl 22 [.slice A10 (l13).length c11]) :: (hs6703 ++ R) = hp' ∧ OS 3 (OT.fr (RT.int .i64)) b'.w (.slice A3 l6705.length c4) l6705 hs6703 ∧ l6705.length = l14.length) := by
  intro N
  induction N with
  | zero =>
    intro b R x7 x8 x9 l13 l14 g6 A10 c11 A3 c4 hs2 h12 h5 l6705 hm
    unfold mSlicesSymMergeCmpFunc at hm
    cases hm
  | succ N ih =>
    intro b R x7 x8 x9 l13 l14 g6 A10 c11 A3 c4 hs2 h12 h5 l6705 hm
    refine fn_enterG 220 Try.func120 rfl Try.ntmps120 rfl ?_
    unfold mSlicesSymMergeCmpFunc at hm
    refine c_seq ?_
    refine c_seq ?_
    refine c_region ?_
    refine t_st rfl (st_move rfl) ?_
    refine t_st rfl (st_move rfl) ?_
    obtain ⟨_, h6707, hm⟩ := bindS hm
    have h6707 := (chk_some h6707).2
    refine t_st rfl (st_sub rfl rfl h6707) ?_
    refine t_st rfl (st_eql rfl rfl) ?_
    refine t_nil ?_
    refine x_then_normal ?_
    refine c_cond _ rfl (fun hc6708 => ?_) (fun hc6708 => ?_)
    ·
      rw [if_pos (of_decide_eq_true hc6708)] at hm
      refine c_seq ?_
      refine c_region ?_
      refine t_st rfl (st_move rfl) ?_
      refine t_st rfl (st_assign rfl) ?_
      refine t_nil ?_
      refine x_then_normal ?_
      refine c_seq ?_
      refine c_region ?_
      refine t_st rfl (st_move rfl) ?_
      refine t_st rfl (st_assign rfl) ?_
      refine t_nil ?_
      refine x_then_normal ?_
      obtain ⟨x6949, hj6950, hk6950⟩ := bindS hm
      refine c_join (fun b6947 e' hp' => [(0, .slice A3 (l14).length c4), (1, .int .i64 (x7)), (10, .int .i64 (x6949))] = e' ∧ (g6, Cl 22 [.slice A10 (l13).length c11]) :: (hs2 ++ R) = hp' ∧ b.Le b6947) ?_ ?_
      ·
        have hm := hj6950
        refine c_block ?_
        refine c_loopM (unc2 fun x7110 x7111 => fun b7108 e' hp' => [(0, .slice A3 (l14).length c4), (1, .int .i64 (x7)), (4, .func (.func 80) #[] #[.pointer (some ⟨g6, 0, none⟩)]), (10, .int .i64 (x7110)), (11, .int .i64 (x7111))] = e' ∧ (g6, Cl 22 [.slice A10 (l13).length c11]) :: (hs2 ++ R) = hp' ∧ b.Le b7108) hm (e' := [(0, .slice A3 (l14).length c4), (1, .int .i64 (x7)), (4, .func (.func 80) #[] #[.pointer (some ⟨g6, 0, none⟩)]), (10, .int .i64 (x8)), (11, .int .i64 (x9))]) (hp' := (g6, Cl 22 [.slice A10 (l13).length c11]) :: (hs2 ++ R)) ⟨rfl, rfl, rfl, rfl, rfl, trivial⟩ (.cons_cons _ (sub_app hs2 (.refl _))) ⟨rfl, rfl, (Base.Le.refl _)⟩ ?_
        rintro ⟨x7110, x7111⟩ b7108 _ _ oL6951 ⟨rfl, rfl, hle7109⟩ hstepL6951 houtL6951
        unfold mSlicesSymMergeCmpFunc_L6951 at hstepL6951
        have hm := (unc2E hstepL6951)
        refine c_seq ?_
        refine c_seq ?_
        refine c_region ?_
        refine t_st rfl (st_move rfl) ?_
        refine t_st rfl (st_move rfl) ?_
        refine t_st rfl (st_lss rfl rfl) ?_
        refine t_nil ?_
        refine x_then_normal ?_
        refine c_cond _ rfl (fun hc7112 => ?_) (fun hc7112 => ?_)
        ·
          rw [if_pos (of_decide_eq_true hc7112)] at hm
          refine c_skip ?_
          refine x_then_normal ?_
          refine c_block ?_
          refine c_seq ?_
          refine c_region ?_
          refine t_st rfl (st_move rfl) ?_
          refine t_st rfl (st_move rfl) ?_
          obtain ⟨_, h7113, hm⟩ := bindS hm
          have h7113 := (chk_some h7113).2
          refine t_st rfl (st_add rfl rfl h7113) ?_
          refine t_st rfl (st_conv rfl int3_i64 int167_u64) ?_
          obtain ⟨_, h7114, hm⟩ := bindS hm
          have h7114 := shN_some h7114
          refine t_st rfl (st_shr rfl rfl h7114) ?_
          refine t_st rfl (st_conv rfl int167_u64 int3_i64) ?_
          refine t_st rfl (st_assign rfl) ?_
          refine t_nil ?_
          refine x_then_normal ?_
          refine c_seq ?_
          obtain ⟨x7151, h7152, hm⟩ := bindS hm
          obtain ⟨x7167, h7168, hm⟩ := bindS hm
          obtain ⟨x7183, hcl7184, hm⟩ := bindS hm
          refine D_drawS ((hs2 ++ R)) mixed ?_
          refine D_st (Base.Le.refl _) 0 rfl (by kernel_rfl) (by kernel_rfl) (by kernel_rfl) rfl (st_move rfl) (.cons _ (sub_app hs2 (.refl _))) ?_
          refine D_st (Base.Le.refl _) 1 rfl (by kernel_rfl) (by kernel_rfl) (by kernel_rfl) rfl (st_move rfl) (.cons _ (sub_app hs2 (.refl _))) ?_
          refine D_st (Base.Le.refl _) 2 rfl (by kernel_rfl) (by kernel_rfl) (by kernel_rfl) rfl (st_move rfl) (.cons _ (sub_app hs2 (.refl _))) ?_
          obtain ⟨j7153, hj7154, hx7155⟩ := idx_some h7152
          obtain ⟨cs7156, hs7161, P7162, P7163, hq7164, hr7157, hcs7158, hA7159, hlt7160, hb7165, hho7166⟩ := OS.get (sz := 1) rfl (by decide) (h5.le hle7109) hx7155
          obtain ⟨rfl, rfl⟩ := hr7157
          refine D_st (Base.Le.refl _) 3 rfl (by kernel_rfl) (by kernel_rfl) (by kernel_rfl) rfl (st_index_old j7153 rfl rfl hj7154 hlt7160 hA7159 sl45) (.cons _ (sub_app hs2 (.refl _))) ?_
          refine D_st (Base.Le.refl _) 4 rfl (by kernel_rfl) (by kernel_rfl) (by kernel_rfl) rfl (st_load_rd rfl one3 (fun w ho => hcs7158 w _ ho (List.sublist_append_left _ _) 0 _ rfl)) (.cons _ (sub_app hs2 (.refl _))) ?_
          refine D_st (Base.Le.refl _) 5 rfl (by kernel_rfl) (by kernel_rfl) (by kernel_rfl) rfl (st_move rfl) (.cons _ (sub_app hs2 (.refl _))) ?_
          refine D_st (Base.Le.refl _) 6 rfl (by kernel_rfl) (by kernel_rfl) (by kernel_rfl) rfl (st_move rfl) (.cons _ (sub_app hs2 (.refl _))) ?_
          obtain ⟨j7169, hj7170, hx7171⟩ := idx_some h7168
          obtain ⟨cs7172, hs7177, P7178, P7179, hq7180, hr7173, hcs7174, hA7175, hlt7176, hb7181, hho7182⟩ := OS.get (sz := 1) rfl (by decide) (h5.le hle7109) hx7171
          obtain ⟨rfl, rfl⟩ := hr7173
          refine D_st (Base.Le.refl _) 7 rfl (by kernel_rfl) (by kernel_rfl) (by kernel_rfl) rfl (st_index_old j7169 rfl rfl hj7170 hlt7176 hA7175 sl45) (.cons _ (sub_app hs2 (.refl _))) ?_
          refine D_st (Base.Le.refl _) 8 rfl (by kernel_rfl) (by kernel_rfl) (by kernel_rfl) rfl (st_load_rd rfl one3 (fun w ho => hcs7174 w _ ho (List.sublist_append_left _ _) 0 _ rfl)) (.cons _ (sub_app hs2 (.refl _))) ?_
          refine D_all [9] (by kernel_rfl) rfl ?_
          refine R_callvG (Base.Le.refl _) rfl rfl #[] #[.pointer (some ⟨g6, 0, none⟩)] [.int .i64 (x7151), .int .i64 (x7167)] rfl call80 rfl (cFleetOrder_1 _ _ x7151 x7167 l13 g6 A10 c11 (h12.le hle7109) x7183 hcl7184) ?_ ?_
          ·
            rintro _ b7185 _ hle7186 ⟨rfl, rfl⟩
            refine ⟨.inr (.cons _ (sub_app hs2 (.refl _))), ?_⟩
            refine D_st hle7186 10 rfl (by kernel_rfl) (by kernel_rfl) (by kernel_rfl) rfl (st_lss rfl rfl) (.cons _ (sub_app hs2 (.refl _))) ?_
            refine D_done (by kernel_rfl) ?_
            refine x_then_normal ?_
            refine c_cond _ rfl (fun hc7187 => ?_) (fun hc7187 => ?_)
            ·
              rw [if_pos (of_decide_eq_true hc7187)] at hm
              refine c_region ?_
              refine t_st rfl (st_move rfl) ?_
              obtain ⟨_, h7188, hm⟩ := bindS hm
              have h7188 := (chk_some h7188).2
              refine t_st rfl (st_add rfl rfl h7188) ?_
              refine t_st rfl (st_assign rfl) ?_
              refine t_nil ?_
              refine x_block_normal ?_
              exact x_againM ((IntKind.wrap .i64 (shrI .u64 (IntKind.wrap .u64 (x7110 + x7111)) 1)) + 1, x7111) (Option.some.inj hm).symm (e' := [(0, .slice A3 (l14).length c4), (1, .int .i64 (x7)), (4, .func (.func 80) #[] #[.pointer (some ⟨g6, 0, none⟩)]), (10, .int .i64 ((IntKind.wrap .i64 (shrI .u64 (IntKind.wrap .u64 (x7110 + x7111)) 1)) + 1)), (11, .int .i64 (x7111))]) (hp' := (g6, Cl 22 [.slice A10 (l13).length c11]) :: (hs2 ++ R)) ⟨rfl, rfl, rfl, rfl, rfl, trivial⟩ (.cons_cons _ (sub_app hs2 (.refl _))) ⟨rfl, rfl, ((hle7109.trans hle7186))⟩
            ·
              rw [if_neg (of_decide_eq_false hc7187)] at hm
              refine c_region ?_
              refine t_st rfl (st_move rfl) ?_
              refine t_st rfl (st_assign rfl) ?_
              refine t_nil ?_
              refine x_block_normal ?_
              exact x_againM (x7110, IntKind.wrap .i64 (shrI .u64 (IntKind.wrap .u64 (x7110 + x7111)) 1)) (Option.some.inj hm).symm (e' := [(0, .slice A3 (l14).length c4), (1, .int .i64 (x7)), (4, .func (.func 80) #[] #[.pointer (some ⟨g6, 0, none⟩)]), (10, .int .i64 (x7110)), (11, .int .i64 (IntKind.wrap .i64 (shrI .u64 (IntKind.wrap .u64 (x7110 + x7111)) 1)))]) (hp' := (g6, Cl 22 [.slice A10 (l13).length c11]) :: (hs2 ++ R)) ⟨rfl, rfl, rfl, rfl, rfl, trivial⟩ (.cons_cons _ (sub_app hs2 (.refl _))) ⟨rfl, rfl, ((hle7109.trans hle7186))⟩
          exact R_nil
        ·
          rw [if_neg (of_decide_eq_false hc7112)] at hm
          refine c_exit ?_
          refine x_then_exit ?_
          refine x_then_exit ?_
          refine x_block_out ?_
          have hm := congrArg some (houtL6951 _ (Option.some.inj hm).symm)
          obtain rfl := some1 hm
          exact x_join (e' := [(0, .slice A3 (l14).length c4), (1, .int .i64 (x7)), (10, .int .i64 (x7110))]) (hp' := (g6, Cl 22 [.slice A10 (l13).length c11]) :: (hs2 ++ R)) ⟨rfl, rfl, rfl, trivial⟩ (.cons_cons _ (sub_app hs2 (.refl _))) ⟨rfl, rfl, hle7109⟩
      ·
        rintro b6947 _ _ ⟨rfl, rfl, hle6948⟩
        have hm := hk6950
        obtain ⟨l7641, hj7643, hk7643⟩ := bindS hm
        refine c_join (fun b7636 e' hp' => ∃ (hs7639 : Hp), [] = e' ∧ (g6, Cl 22 [.slice A10 (l13).length c11]) :: (hs7639 ++ R) = hp' ∧ b6947.Le b7636 ∧ OS 3 (OT.fr (RT.int .i64)) b7636.w (.slice A3 l7641.length c4) l7641 hs7639 ∧ l7641.length = l14.length) ?_ ?_
        ·
          have hm := hj7643
          refine c_seq ?_
          refine c_region ?_
          refine t_st rfl (st_move rfl) ?_
          refine t_st rfl (st_assign rfl) ?_
          refine t_nil ?_
          refine x_then_normal ?_
          refine c_block ?_
          refine c_loopM (unc2 fun x7944 l7945 => fun b7939 e' hp' => ∃ (hs7942 : Hp), [(0, .slice A3 (l7945).length c4), (10, .int .i64 (x6949)), (13, .int .i64 (x7944))] = e' ∧ (g6, Cl 22 [.slice A10 (l13).length c11]) :: (hs7942 ++ R) = hp' ∧ b6947.Le b7939 ∧ OS 3 (OT.fr (RT.int .i64)) b7939.w (.slice A3 l7945.length c4) l7945 hs7942 ∧ l7945.length = l14.length) hm (e' := [(0, .slice A3 (l14).length c4), (10, .int .i64 (x6949)), (13, .int .i64 (x7))]) (hp' := (g6, Cl 22 [.slice A10 (l13).length c11]) :: (hs2 ++ R)) ⟨rfl, rfl, rfl, trivial⟩ (.cons_cons _ (sub_app hs2 (.refl _))) ⟨hs2, rfl, rfl, (Base.Le.refl _), (h5.le hle6948), rfl⟩ ?_
          rintro ⟨x7944, l7945⟩ b7939 _ _ oL7644 ⟨hs7942, rfl, rfl, hle7940, h7943, hln7946⟩ hstepL7644 houtL7644
          unfold mSlicesSymMergeCmpFunc_L7644 at hstepL7644
          have hm := (unc2E hstepL7644)
          refine c_seq ?_
          refine c_seq ?_
          refine c_region ?_
          refine t_st rfl (st_move rfl) ?_
          refine t_st rfl (st_move rfl) ?_
          obtain ⟨_, h7947, hm⟩ := bindS hm
          have h7947 := (chk_some h7947).2
          refine t_st rfl (st_sub rfl rfl h7947) ?_
          refine t_st rfl (st_lss rfl rfl) ?_
          refine t_nil ?_
          refine x_then_normal ?_
          refine c_cond _ rfl (fun hc7948 => ?_) (fun hc7948 => ?_)
          ·
            rw [if_pos (of_decide_eq_true hc7948)] at hm
            refine c_skip ?_
            refine x_then_normal ?_
            refine c_seq ?_
            refine c_block ?_
            obtain ⟨_, h8019, hm⟩ := bindS hm
            obtain ⟨_, h8020, hm⟩ := bindS hm
            obtain ⟨x8021, h8022, hm⟩ := bindS hm
            obtain ⟨x8037, h8038, hm⟩ := bindS hm
            obtain ⟨x8053, h8054, hm⟩ := bindS hm
            obtain ⟨x8071, h8072, hm⟩ := bindS hm
            refine D_drawS ((g6, Cl 22 [.slice A10 (l13).length c11]) :: R) mixed ?_
            refine D_st (Base.Le.refl _) 0 rfl (by kernel_rfl) (by kernel_rfl) (by kernel_rfl) rfl (st_move rfl) (.cons_cons _ (sub_skip hs7942 (.refl _))) ?_
            refine D_st (Base.Le.refl _) 1 rfl (by kernel_rfl) (by kernel_rfl) (by kernel_rfl) rfl (st_move rfl) (.cons_cons _ (sub_skip hs7942 (.refl _))) ?_
            refine D_st (Base.Le.refl _) 2 rfl (by kernel_rfl) (by kernel_rfl) (by kernel_rfl) rfl (st_move rfl) (.cons_cons _ (sub_skip hs7942 (.refl _))) ?_
            refine D_st (Base.Le.refl _) 3 rfl (by kernel_rfl) (by kernel_rfl) (by kernel_rfl) rfl (st_move rfl) (.cons_cons _ (sub_skip hs7942 (.refl _))) ?_
            have h8019 := (chk_some h8019).2
            refine D_st (Base.Le.refl _) 4 rfl (by kernel_rfl) (by kernel_rfl) (by kernel_rfl) rfl (st_add rfl rfl h8019) (.cons_cons _ (sub_skip hs7942 (.refl _))) ?_
            refine D_st (Base.Le.refl _) 5 rfl (by kernel_rfl) (by kernel_rfl) (by kernel_rfl) rfl (st_move rfl) (.cons_cons _ (sub_skip hs7942 (.refl _))) ?_
            refine D_st (Base.Le.refl _) 6 rfl (by kernel_rfl) (by kernel_rfl) (by kernel_rfl) rfl (st_move rfl) (.cons_cons _ (sub_skip hs7942 (.refl _))) ?_
            have h8020 := (chk_some h8020).2
            refine D_st (Base.Le.refl _) 7 rfl (by kernel_rfl) (by kernel_rfl) (by kernel_rfl) rfl (st_add rfl rfl h8020) (.cons_cons _ (sub_skip hs7942 (.refl _))) ?_
            obtain ⟨j8023, hj8024, hx8025⟩ := idx_some h8022
            obtain ⟨cs8026, hs8031, P8032, P8033, hq8034, hr8027, hcs8028, hA8029, hlt8030, hb8035, hho8036⟩ := OS.get (sz := 1) rfl (by decide) h7943 hx8025
            obtain ⟨rfl, rfl⟩ := hr8027
            refine D_st (Base.Le.refl _) 8 rfl (by kernel_rfl) (by kernel_rfl) (by kernel_rfl) rfl (st_index_old j8023 rfl rfl hj8024 hlt8030 hA8029 sl45) (.cons_cons _ (sub_skip hs7942 (.refl _))) ?_
            refine D_st (Base.Le.refl _) 10 rfl (by kernel_rfl) (by kernel_rfl) (by kernel_rfl) rfl (st_move rfl) (.cons_cons _ (sub_skip hs7942 (.refl _))) ?_
            refine D_st (Base.Le.refl _) 11 rfl (by kernel_rfl) (by kernel_rfl) (by kernel_rfl) rfl (st_move rfl) (.cons_cons _ (sub_skip hs7942 (.refl _))) ?_
            obtain ⟨j8039, hj8040, hx8041⟩ := idx_some h8038
            obtain ⟨cs8042, hs8047, P8048, P8049, hq8050, hr8043, hcs8044, hA8045, hlt8046, hb8051, hho8052⟩ := OS.get (sz := 1) rfl (by decide) h7943 hx8041
            obtain ⟨rfl, rfl⟩ := hr8043
            refine D_st (Base.Le.refl _) 12 rfl (by kernel_rfl) (by kernel_rfl) (by kernel_rfl) rfl (st_index_old j8039 rfl rfl hj8040 hlt8046 hA8045 sl45) (.cons_cons _ (sub_skip hs7942 (.refl _))) ?_
            refine D_all [9, 13] (by kernel_rfl) rfl ?_
            refine R_do (Base.Le.refl _) rfl rfl (Stable.does (st_load_rd rfl one3 (fun w ho => hcs8028 w _ ho (.cons _ (List.sublist_append_left _ _)) 0 _ rfl))) ?_ ?_
            ·
              rintro _ _ ⟨rfl, rfl⟩
              refine ⟨.inr (.cons_cons _ (sub_skip hs7942 (.refl _))), ?_⟩
              refine D_all [13] (by kernel_rfl) rfl ?_
              refine R_do (Base.Le.refl _) rfl rfl (Stable.does (st_load_rd rfl one3 (fun w ho => hcs8044 w _ ho (.cons _ (List.sublist_append_left _ _)) 0 _ rfl))) ?_ ?_
              ·
                rintro _ _ ⟨rfl, rfl⟩
                refine ⟨.inr (.cons_cons _ (sub_skip hs7942 (.refl _))), ?_⟩
                obtain ⟨j8055, hj8056, hx8057⟩ := idx_some h8054
                obtain ⟨cs8058, hs8063, P8064, P8065, hq8066, hr8059, hcs8060, hA8061, hlt8062, hb8067, hho8068⟩ := OS.get (sz := 1) rfl (by decide) h7943 hx8057
                obtain ⟨rfl, rfl⟩ := hr8059
                refine D_st (Base.Le.refl _) 14 rfl (by kernel_rfl) (by kernel_rfl) (by kernel_rfl) rfl (st_index_old j8055 rfl rfl hj8056 hlt8062 hA8061 sl45) (.cons_cons _ (sub_skip hs7942 (.refl _))) ?_
                refine D_all [15] (by kernel_rfl) rfl ?_
                refine R_do (Base.Le.refl _) rfl rfl (u_putOS hj8056 (sz := 1) (a' := x8021) rfl [_] R 0 1 [.int .i64 (x8021)] rfl h7943 hx8057 rfl rfl rfl siz3 rfl (by intro u hu; simp only [List.mem_cons, List.not_mem_nil, or_false] at hu; subst hu; rfl) (fun cs hsj hh => by obtain ⟨rfl, rfl⟩ := hh; exact ⟨by decide, rfl, rfl⟩)) ?_ ?_
                ·
                  rintro _ _ ⟨hs8069, rfl, h8070⟩
                  refine ⟨.inr (.cons_cons _ (sub_skip hs8069 (.refl _))), ?_⟩
                  refine d_resp 0 rfl (v' := .slice A3 (put l7945 x7944 x8021).length c4) (by simp only [put_length]) ?_
                  refine d_resp 63 rfl (v' := .slice A3 (put l7945 x7944 x8021).length c4) (by simp only [put_length]) ?_
                  obtain ⟨j8073, hj8074, hx8075⟩ := idx_some h8072
                  obtain ⟨cs8076, hs8081, P8082, P8083, hq8084, hr8077, hcs8078, hA8079, hlt8080, hb8085, hho8086⟩ := OS.get (sz := 1) rfl (by decide) h8070 hx8075
                  obtain ⟨rfl, rfl⟩ := hr8077
                  refine D_st (Base.Le.refl _) 16 rfl (by kernel_rfl) (by kernel_rfl) (by kernel_rfl) rfl (st_index_old j8073 rfl rfl hj8074 hlt8080 hA8079 sl45) (.cons_cons _ (sub_skip hs8069 (.refl _))) ?_
                  refine D_all [17] (by kernel_rfl) rfl ?_
                  refine R_do (Base.Le.refl _) rfl rfl (u_putOS hj8074 (sz := 1) (a' := x8037) rfl [_] R 0 1 [.int .i64 (x8037)] rfl h8070 hx8075 rfl rfl rfl siz3 rfl (by intro u hu; simp only [List.mem_cons, List.not_mem_nil, or_false] at hu; subst hu; rfl) (fun cs hsj hh => by obtain ⟨rfl, rfl⟩ := hh; exact ⟨by decide, rfl, rfl⟩)) ?_ ?_
                  ·
                    rintro _ _ ⟨hs8087, rfl, h8088⟩
                    refine ⟨.inl (by kernel_rfl), ?_⟩
                    refine d_resp 0 rfl (v' := .slice A3 (put (put l7945 x7944 x8021) (x7944 + 1) x8037).length c4) (by simp only [put_length]) ?_
                    refine D_done (by kernel_rfl) ?_
                    refine x_block_normal ?_
                    refine x_then_normal ?_
                    refine c_region ?_
                    refine t_st rfl (st_move rfl) ?_
                    obtain ⟨_, h8089, hm⟩ := bindS hm
                    have h8089 := (chk_some h8089).2
                    refine t_st rfl (st_add rfl rfl h8089) ?_
                    refine t_st rfl (st_assign rfl) ?_
                    refine t_nil ?_
                    exact x_againM (x7944 + 1, put (put l7945 x7944 x8021) (x7944 + 1) x8037) (Option.some.inj hm).symm (e' := [(0, .slice A3 (put (put l7945 x7944 x8021) (x7944 + 1) x8037).length c4), (10, .int .i64 (x6949)), (13, .int .i64 (x7944 + 1))]) (hp' := (g6, Cl 22 [.slice A10 (l13).length c11]) :: (hs8087 ++ R)) ⟨rfl, rfl, rfl, trivial⟩ (.cons_cons _ (sub_app hs8087 (.refl _))) ⟨hs8087, rfl, rfl, (hle7940), h8088, ((put_length _ _ _).trans ((put_length _ _ _).trans hln7946))⟩
                  exact R_nil
                exact R_nil
              exact R_nil
            refine R_do (Base.Le.refl _) rfl rfl (Stable.does (st_load_rd rfl one3 (fun w ho => hcs8044 w _ ho (.cons _ (List.sublist_append_left _ _)) 0 _ rfl))) ?_ ?_
            ·
              rintro _ _ ⟨rfl, rfl⟩
              refine ⟨.inr (.cons_cons _ (sub_skip hs7942 (.refl _))), ?_⟩
              refine D_all [9] (by kernel_rfl) rfl ?_
              refine R_do (Base.Le.refl _) rfl rfl (Stable.does (st_load_rd rfl one3 (fun w ho => hcs8028 w _ ho (.cons _ (List.sublist_append_left _ _)) 0 _ rfl))) ?_ ?_
              ·
                rintro _ _ ⟨rfl, rfl⟩
                refine ⟨.inr (.cons_cons _ (sub_skip hs7942 (.refl _))), ?_⟩
                obtain ⟨j8055, hj8056, hx8057⟩ := idx_some h8054
                obtain ⟨cs8058, hs8063, P8064, P8065, hq8066, hr8059, hcs8060, hA8061, hlt8062, hb8067, hho8068⟩ := OS.get (sz := 1) rfl (by decide) h7943 hx8057
                obtain ⟨rfl, rfl⟩ := hr8059
                refine D_st (Base.Le.refl _) 14 rfl (by kernel_rfl) (by kernel_rfl) (by kernel_rfl) rfl (st_index_old j8055 rfl rfl hj8056 hlt8062 hA8061 sl45) (.cons_cons _ (sub_skip hs7942 (.refl _))) ?_
                refine D_all [15] (by kernel_rfl) rfl ?_
                refine R_do (Base.Le.refl _) rfl rfl (u_putOS hj8056 (sz := 1) (a' := x8021) rfl [_] R 0 1 [.int .i64 (x8021)] rfl h7943 hx8057 rfl rfl rfl siz3 rfl (by intro u hu; simp only [List.mem_cons, List.not_mem_nil, or_false] at hu; subst hu; rfl) (fun cs hsj hh => by obtain ⟨rfl, rfl⟩ := hh; exact ⟨by decide, rfl, rfl⟩)) ?_ ?_
                ·
                  rintro _ _ ⟨hs8069, rfl, h8070⟩
                  refine ⟨.inr (.cons_cons _ (sub_skip hs8069 (.refl _))), ?_⟩
                  refine d_resp 0 rfl (v' := .slice A3 (put l7945 x7944 x8021).length c4) (by simp only [put_length]) ?_
                  refine d_resp 63 rfl (v' := .slice A3 (put l7945 x7944 x8021).length c4) (by simp only [put_length]) ?_
                  obtain ⟨j8073, hj8074, hx8075⟩ := idx_some h8072
                  obtain ⟨cs8076, hs8081, P8082, P8083, hq8084, hr8077, hcs8078, hA8079, hlt8080, hb8085, hho8086⟩ := OS.get (sz := 1) rfl (by decide) h8070 hx8075
                  obtain ⟨rfl, rfl⟩ := hr8077
                  refine D_st (Base.Le.refl _) 16 rfl (by kernel_rfl) (by kernel_rfl) (by kernel_rfl) rfl (st_index_old j8073 rfl rfl hj8074 hlt8080 hA8079 sl45) (.cons_cons _ (sub_skip hs8069 (.refl _))) ?_
                  refine D_all [17] (by kernel_rfl) rfl ?_
                  refine R_do (Base.Le.refl _) rfl rfl (u_putOS hj8074 (sz := 1) (a' := x8037) rfl [_] R 0 1 [.int .i64 (x8037)] rfl h8070 hx8075 rfl rfl rfl siz3 rfl (by intro u hu; simp only [List.mem_cons, List.not_mem_nil, or_false] at hu; subst hu; rfl) (fun cs hsj hh => by obtain ⟨rfl, rfl⟩ := hh; exact ⟨by decide, rfl, rfl⟩)) ?_ ?_
                  ·
                    rintro _ _ ⟨hs8087, rfl, h8088⟩
                    refine ⟨.inl (by kernel_rfl), ?_⟩
                    refine d_resp 0 rfl (v' := .slice A3 (put (put l7945 x7944 x8021) (x7944 + 1) x8037).length c4) (by simp only [put_length]) ?_
                    refine D_done (by kernel_rfl) ?_
                    refine x_block_normal ?_
                    refine x_then_normal ?_
                    refine c_region ?_
                    refine t_st rfl (st_move rfl) ?_
                    obtain ⟨_, h8090, hm⟩ := bindS hm
                    have h8090 := (chk_some h8090).2
                    refine t_st rfl (st_add rfl rfl h8090) ?_
                    refine t_st rfl (st_assign rfl) ?_
                    refine t_nil ?_
                    exact x_againM (x7944 + 1, put (put l7945 x7944 x8021) (x7944 + 1) x8037) (Option.some.inj hm).symm (e' := [(0, .slice A3 (put (put l7945 x7944 x8021) (x7944 + 1) x8037).length c4), (10, .int .i64 (x6949)), (13, .int .i64 (x7944 + 1))]) (hp' := (g6, Cl 22 [.slice A10 (l13).length c11]) :: (hs8087 ++ R)) ⟨rfl, rfl, rfl, trivial⟩ (.cons_cons _ (sub_app hs8087 (.refl _))) ⟨hs8087, rfl, rfl, (hle7940), h8088, ((put_length _ _ _).trans ((put_length _ _ _).trans hln7946))⟩
                  exact R_nil
                exact R_nil
              exact R_nil
            exact R_nil
          ·
            rw [if_neg (of_decide_eq_false hc7948)] at hm
            refine c_exit ?_
            refine x_then_exit ?_
            refine x_then_exit ?_
            refine x_block_out ?_
            have hm := congrArg some (houtL7644 _ (Option.some.inj hm).symm)
            obtain rfl := some1 hm
            exact x_join (e' := []) (hp' := (g6, Cl 22 [.slice A10 (l13).length c11]) :: (hs7942 ++ R)) trivial (.cons_cons _ (sub_app hs7942 (.refl _))) ⟨hs7942, rfl, rfl, hle7940, h7943, hln7946⟩
        ·
          rintro b7636 _ _ ⟨hs7639, rfl, rfl, hle7637, h7640, hln7642⟩
          have hm := hk7643
          refine c_ret ?_
          refine x_then_ret ?_
          obtain rfl := some1 hm
          exact retM (rs := []) [] (hle6948.trans hle7637) (by decide) rfl trivial rfl (hp' := (g6, Cl 22 [.slice A10 (l13).length c11]) :: (hs7639 ++ R)) (.cons_cons _ (sub_app hs7639 (.refl _))) ⟨hs7639, rfl, rfl, h7640, hln7642⟩
    ·
      rw [if_neg (of_decide_eq_false hc6708)] at hm
      refine c_skip ?_
      refine x_then_normal ?_
      refine c_seq ?_
      refine c_seq ?_
      refine c_region ?_
      refine t_st rfl (st_move rfl) ?_
      refine t_st rfl (st_move rfl) ?_
      obtain ⟨_, h8091, hm⟩ := bindS hm
      have h8091 := (chk_some h8091).2
      refine t_st rfl (st_sub rfl rfl h8091) ?_
      refine t_st rfl (st_eql rfl rfl) ?_
      refine t_nil ?_
      refine x_then_normal ?_
      refine c_cond _ rfl (fun hc8092 => ?_) (fun hc8092 => ?_)
      ·
        rw [if_pos (of_decide_eq_true hc8092)] at hm
        refine c_seq ?_
        refine c_region ?_
        refine t_st rfl (st_move rfl) ?_
        refine t_st rfl (st_assign rfl) ?_
        refine t_nil ?_
        refine x_then_normal ?_
        refine c_seq ?_
        refine c_region ?_
        refine t_st rfl (st_move rfl) ?_
        refine t_st rfl (st_assign rfl) ?_
        refine t_nil ?_
        refine x_then_normal ?_
        obtain ⟨x8333, hj8334, hk8334⟩ := bindS hm
        refine c_join (fun b8331 e' hp' => [(0, .slice A3 (l14).length c4), (2, .int .i64 (x8)), (14, .int .i64 (x8333))] = e' ∧ (g6, Cl 22 [.slice A10 (l13).length c11]) :: (hs2 ++ R) = hp' ∧ b.Le b8331) ?_ ?_
        ·
          have hm := hj8334
          refine c_block ?_
          refine c_loopM (unc2 fun x8494 x8495 => fun b8492 e' hp' => [(0, .slice A3 (l14).length c4), (2, .int .i64 (x8)), (4, .func (.func 80) #[] #[.pointer (some ⟨g6, 0, none⟩)]), (14, .int .i64 (x8494)), (15, .int .i64 (x8495))] = e' ∧ (g6, Cl 22 [.slice A10 (l13).length c11]) :: (hs2 ++ R) = hp' ∧ b.Le b8492) hm (e' := [(0, .slice A3 (l14).length c4), (2, .int .i64 (x8)), (4, .func (.func 80) #[] #[.pointer (some ⟨g6, 0, none⟩)]), (14, .int .i64 (x7)), (15, .int .i64 (x8))]) (hp' := (g6, Cl 22 [.slice A10 (l13).length c11]) :: (hs2 ++ R)) ⟨rfl, rfl, rfl, rfl, rfl, trivial⟩ (.cons_cons _ (sub_app hs2 (.refl _))) ⟨rfl, rfl, (Base.Le.refl _)⟩ ?_
          rintro ⟨x8494, x8495⟩ b8492 _ _ oL8335 ⟨rfl, rfl, hle8493⟩ hstepL8335 houtL8335
          unfold mSlicesSymMergeCmpFunc_L8335 at hstepL8335
          have hm := (unc2E hstepL8335)
          refine c_seq ?_
          refine c_seq ?_
          refine c_region ?_
          refine t_st rfl (st_move rfl) ?_
          refine t_st rfl (st_move rfl) ?_
          refine t_st rfl (st_lss rfl rfl) ?_
          refine t_nil ?_
          refine x_then_normal ?_
          refine c_cond _ rfl (fun hc8496 => ?_) (fun hc8496 => ?_)
          ·
            rw [if_pos (of_decide_eq_true hc8496)] at hm
            refine c_skip ?_
            refine x_then_normal ?_
            refine c_block ?_
            refine c_seq ?_
            refine c_region ?_
            refine t_st rfl (st_move rfl) ?_
            refine t_st rfl (st_move rfl) ?_
            obtain ⟨_, h8497, hm⟩ := bindS hm
            have h8497 := (chk_some h8497).2
            refine t_st rfl (st_add rfl rfl h8497) ?_
            refine t_st rfl (st_conv rfl int3_i64 int167_u64) ?_
            obtain ⟨_, h8498, hm⟩ := bindS hm
            have h8498 := shN_some h8498
            refine t_st rfl (st_shr rfl rfl h8498) ?_
            refine t_st rfl (st_conv rfl int167_u64 int3_i64) ?_
            refine t_st rfl (st_assign rfl) ?_
            refine t_nil ?_
            refine x_then_normal ?_
            refine c_seq ?_
            obtain ⟨x8535, h8536, hm⟩ := bindS hm
            obtain ⟨x8551, h8552, hm⟩ := bindS hm
            obtain ⟨x8567, hcl8568, hm⟩ := bindS hm
            refine D_drawS ((hs2 ++ R)) mixed ?_
            refine D_st (Base.Le.refl _) 0 rfl (by kernel_rfl) (by kernel_rfl) (by kernel_rfl) rfl (st_move rfl) (.cons _ (sub_app hs2 (.refl _))) ?_
            refine D_st (Base.Le.refl _) 1 rfl (by kernel_rfl) (by kernel_rfl) (by kernel_rfl) rfl (st_move rfl) (.cons _ (sub_app hs2 (.refl _))) ?_
            refine D_st (Base.Le.refl _) 2 rfl (by kernel_rfl) (by kernel_rfl) (by kernel_rfl) rfl (st_move rfl) (.cons _ (sub_app hs2 (.refl _))) ?_
            obtain ⟨j8537, hj8538, hx8539⟩ := idx_some h8536
            obtain ⟨cs8540, hs8545, P8546, P8547, hq8548, hr8541, hcs8542, hA8543, hlt8544, hb8549, hho8550⟩ := OS.get (sz := 1) rfl (by decide) (h5.le hle8493) hx8539
            obtain ⟨rfl, rfl⟩ := hr8541
            refine D_st (Base.Le.refl _) 3 rfl (by kernel_rfl) (by kernel_rfl) (by kernel_rfl) rfl (st_index_old j8537 rfl rfl hj8538 hlt8544 hA8543 sl45) (.cons _ (sub_app hs2 (.refl _))) ?_
            refine D_st (Base.Le.refl _) 4 rfl (by kernel_rfl) (by kernel_rfl) (by kernel_rfl) rfl (st_load_rd rfl one3 (fun w ho => hcs8542 w _ ho (List.sublist_append_left _ _) 0 _ rfl)) (.cons _ (sub_app hs2 (.refl _))) ?_
            refine D_st (Base.Le.refl _) 5 rfl (by kernel_rfl) (by kernel_rfl) (by kernel_rfl) rfl (st_move rfl) (.cons _ (sub_app hs2 (.refl _))) ?_
            refine D_st (Base.Le.refl _) 6 rfl (by kernel_rfl) (by kernel_rfl) (by kernel_rfl) rfl (st_move rfl) (.cons _ (sub_app hs2 (.refl _))) ?_
            obtain ⟨j8553, hj8554, hx8555⟩ := idx_some h8552
            obtain ⟨cs8556, hs8561, P8562, P8563, hq8564, hr8557, hcs8558, hA8559, hlt8560, hb8565, hho8566⟩ := OS.get (sz := 1) rfl (by decide) (h5.le hle8493) hx8555
            obtain ⟨rfl, rfl⟩ := hr8557
            refine D_st (Base.Le.refl _) 7 rfl (by kernel_rfl) (by kernel_rfl) (by kernel_rfl) rfl (st_index_old j8553 rfl rfl hj8554 hlt8560 hA8559 sl45) (.cons _ (sub_app hs2 (.refl _))) ?_
            refine D_st (Base.Le.refl _) 8 rfl (by kernel_rfl) (by kernel_rfl) (by kernel_rfl) rfl (st_load_rd rfl one3 (fun w ho => hcs8558 w _ ho (List.sublist_append_left _ _) 0 _ rfl)) (.cons _ (sub_app hs2 (.refl _))) ?_
            refine D_all [9] (by kernel_rfl) rfl ?_
            refine R_callvG (Base.Le.refl _) rfl rfl #[] #[.pointer (some ⟨g6, 0, none⟩)] [.int .i64 (x8535), .int .i64 (x8551)] rfl call80 rfl (cFleetOrder_1 _ _ x8535 x8551 l13 g6 A10 c11 (h12.le hle8493) x8567 hcl8568) ?_ ?_
            ·
              rintro _ b8569 _ hle8570 ⟨rfl, rfl⟩
              refine ⟨.inr (.cons _ (sub_app hs2 (.refl _))), ?_⟩
              refine D_st hle8570 10 rfl (by kernel_rfl) (by kernel_rfl) (by kernel_rfl) rfl (st_lss rfl rfl) (.cons _ (sub_app hs2 (.refl _))) ?_
              refine D_st hle8570 11 rfl (by kernel_rfl) (by kernel_rfl) (by kernel_rfl) rfl (st_not rfl) (.cons _ (sub_app hs2 (.refl _))) ?_
              refine D_done (by kernel_rfl) ?_
              refine x_then_normal ?_
              refine c_cond _ rfl (fun hc8571 => ?_) (fun hc8571 => ?_)
              ·
                rw [if_neg (of_decide_eq_false (notT hc8571))] at hm
                refine c_region ?_
                refine t_st rfl (st_move rfl) ?_
                obtain ⟨_, h8572, hm⟩ := bindS hm
                have h8572 := (chk_some h8572).2
                refine t_st rfl (st_add rfl rfl h8572) ?_
                refine t_st rfl (st_assign rfl) ?_
                refine t_nil ?_
                refine x_block_normal ?_
                exact x_againM ((IntKind.wrap .i64 (shrI .u64 (IntKind.wrap .u64 (x8494 + x8495)) 1)) + 1, x8495) (Option.some.inj hm).symm (e' := [(0, .slice A3 (l14).length c4), (2, .int .i64 (x8)), (4, .func (.func 80) #[] #[.pointer (some ⟨g6, 0, none⟩)]), (14, .int .i64 ((IntKind.wrap .i64 (shrI .u64 (IntKind.wrap .u64 (x8494 + x8495)) 1)) + 1)), (15, .int .i64 (x8495))]) (hp' := (g6, Cl 22 [.slice A10 (l13).length c11]) :: (hs2 ++ R)) ⟨rfl, rfl, rfl, rfl, rfl, trivial⟩ (.cons_cons _ (sub_app hs2 (.refl _))) ⟨rfl, rfl, ((hle8493.trans hle8570))⟩
              ·
                rw [if_pos (of_decide_eq_true (notF hc8571))] at hm
                refine c_region ?_
                refine t_st rfl (st_move rfl) ?_
                refine t_st rfl (st_assign rfl) ?_
                refine t_nil ?_
                refine x_block_normal ?_
                exact x_againM (x8494, IntKind.wrap .i64 (shrI .u64 (IntKind.wrap .u64 (x8494 + x8495)) 1)) (Option.some.inj hm).symm (e' := [(0, .slice A3 (l14).length c4), (2, .int .i64 (x8)), (4, .func (.func 80) #[] #[.pointer (some ⟨g6, 0, none⟩)]), (14, .int .i64 (x8494)), (15, .int .i64 (IntKind.wrap .i64 (shrI .u64 (IntKind.wrap .u64 (x8494 + x8495)) 1)))]) (hp' := (g6, Cl 22 [.slice A10 (l13).length c11]) :: (hs2 ++ R)) ⟨rfl, rfl, rfl, rfl, rfl, trivial⟩ (.cons_cons _ (sub_app hs2 (.refl _))) ⟨rfl, rfl, ((hle8493.trans hle8570))⟩
            exact R_nil
          ·
            rw [if_neg (of_decide_eq_false hc8496)] at hm
            refine c_exit ?_
            refine x_then_exit ?_
            refine x_then_exit ?_
            refine x_block_out ?_
            have hm := congrArg some (houtL8335 _ (Option.some.inj hm).symm)
            obtain rfl := some1 hm
            exact x_join (e' := [(0, .slice A3 (l14).length c4), (2, .int .i64 (x8)), (14, .int .i64 (x8494))]) (hp' := (g6, Cl 22 [.slice A10 (l13).length c11]) :: (hs2 ++ R)) ⟨rfl, rfl, rfl, trivial⟩ (.cons_cons _ (sub_app hs2 (.refl _))) ⟨rfl, rfl, hle8493⟩
        ·
          rintro b8331 _ _ ⟨rfl, rfl, hle8332⟩
          have hm := hk8334
          obtain ⟨l9022, hj9024, hk9024⟩ := bindS hm
          refine c_join (fun b9017 e' hp' => ∃ (hs9020 : Hp), [] = e' ∧ (g6, Cl 22 [.slice A10 (l13).length c11]) :: (hs9020 ++ R) = hp' ∧ b8331.Le b9017 ∧ OS 3 (OT.fr (RT.int .i64)) b9017.w (.slice A3 l9022.length c4) l9022 hs9020 ∧ l9022.length = l14.length) ?_ ?_
          ·
            have hm := hj9024
            refine c_seq ?_
            refine c_region ?_
            refine t_st rfl (st_move rfl) ?_
            refine t_st rfl (st_assign rfl) ?_
            refine t_nil ?_
            refine x_then_normal ?_
            refine c_block ?_
            refine c_loopM (unc2 fun x9323 l9324 => fun b9318 e' hp' => ∃ (hs9321 : Hp), [(0, .slice A3 (l9324).length c4), (14, .int .i64 (x8333)), (17, .int .i64 (x9323))] = e' ∧ (g6, Cl 22 [.slice A10 (l13).length c11]) :: (hs9321 ++ R) = hp' ∧ b8331.Le b9318 ∧ OS 3 (OT.fr (RT.int .i64)) b9318.w (.slice A3 l9324.length c4) l9324 hs9321 ∧ l9324.length = l14.length) hm (e' := [(0, .slice A3 (l14).length c4), (14, .int .i64 (x8333)), (17, .int .i64 (x8))]) (hp' := (g6, Cl 22 [.slice A10 (l13).length c11]) :: (hs2 ++ R)) ⟨rfl, rfl, rfl, trivial⟩ (.cons_cons _ (sub_app hs2 (.refl _))) ⟨hs2, rfl, rfl, (Base.Le.refl _), (h5.le hle8332), rfl⟩ ?_
            rintro ⟨x9323, l9324⟩ b9318 _ _ oL9025 ⟨hs9321, rfl, rfl, hle9319, h9322, hln9325⟩ hstepL9025 houtL9025
            unfold mSlicesSymMergeCmpFunc_L9025 at hstepL9025
            have hm := (unc2E hstepL9025)
            refine c_seq ?_
            refine c_seq ?_
            refine c_region ?_
            refine t_st rfl (st_move rfl) ?_
            refine t_st rfl (st_move rfl) ?_
            refine t_st rfl (st_gtr rfl rfl) ?_
            refine t_nil ?_
            refine x_then_normal ?_
            refine c_cond _ rfl (fun hc9326 => ?_) (fun hc9326 => ?_)
            ·
              rw [if_pos (of_decide_eq_true hc9326)] at hm
              refine c_skip ?_
              refine x_then_normal ?_
              refine c_seq ?_
              refine c_block ?_
              obtain ⟨_, h9397, hm⟩ := bindS hm
              obtain ⟨_, h9398, hm⟩ := bindS hm
              obtain ⟨x9399, h9400, hm⟩ := bindS hm
              obtain ⟨x9415, h9416, hm⟩ := bindS hm
              obtain ⟨x9431, h9432, hm⟩ := bindS hm
              obtain ⟨x9449, h9450, hm⟩ := bindS hm
              refine D_drawS ((g6, Cl 22 [.slice A10 (l13).length c11]) :: R) mixed ?_
              refine D_st (Base.Le.refl _) 0 rfl (by kernel_rfl) (by kernel_rfl) (by kernel_rfl) rfl (st_move rfl) (.cons_cons _ (sub_skip hs9321 (.refl _))) ?_
              refine D_st (Base.Le.refl _) 1 rfl (by kernel_rfl) (by kernel_rfl) (by kernel_rfl) rfl (st_move rfl) (.cons_cons _ (sub_skip hs9321 (.refl _))) ?_
              refine D_st (Base.Le.refl _) 2 rfl (by kernel_rfl) (by kernel_rfl) (by kernel_rfl) rfl (st_move rfl) (.cons_cons _ (sub_skip hs9321 (.refl _))) ?_
              refine D_st (Base.Le.refl _) 3 rfl (by kernel_rfl) (by kernel_rfl) (by kernel_rfl) rfl (st_move rfl) (.cons_cons _ (sub_skip hs9321 (.refl _))) ?_
              have h9397 := (chk_some h9397).2
              refine D_st (Base.Le.refl _) 4 rfl (by kernel_rfl) (by kernel_rfl) (by kernel_rfl) rfl (st_sub rfl rfl h9397) (.cons_cons _ (sub_skip hs9321 (.refl _))) ?_
              refine D_st (Base.Le.refl _) 5 rfl (by kernel_rfl) (by kernel_rfl) (by kernel_rfl) rfl (st_move rfl) (.cons_cons _ (sub_skip hs9321 (.refl _))) ?_
              refine D_st (Base.Le.refl _) 6 rfl (by kernel_rfl) (by kernel_rfl) (by kernel_rfl) rfl (st_move rfl) (.cons_cons _ (sub_skip hs9321 (.refl _))) ?_
              have h9398 := (chk_some h9398).2
              refine D_st (Base.Le.refl _) 7 rfl (by kernel_rfl) (by kernel_rfl) (by kernel_rfl) rfl (st_sub rfl rfl h9398) (.cons_cons _ (sub_skip hs9321 (.refl _))) ?_
              obtain ⟨j9401, hj9402, hx9403⟩ := idx_some h9400
              obtain ⟨cs9404, hs9409, P9410, P9411, hq9412, hr9405, hcs9406, hA9407, hlt9408, hb9413, hho9414⟩ := OS.get (sz := 1) rfl (by decide) h9322 hx9403
              obtain ⟨rfl, rfl⟩ := hr9405
              refine D_st (Base.Le.refl _) 8 rfl (by kernel_rfl) (by kernel_rfl) (by kernel_rfl) rfl (st_index_old j9401 rfl rfl hj9402 hlt9408 hA9407 sl45) (.cons_cons _ (sub_skip hs9321 (.refl _))) ?_
              refine D_st (Base.Le.refl _) 10 rfl (by kernel_rfl) (by kernel_rfl) (by kernel_rfl) rfl (st_move rfl) (.cons_cons _ (sub_skip hs9321 (.refl _))) ?_
              refine D_st (Base.Le.refl _) 11 rfl (by kernel_rfl) (by kernel_rfl) (by kernel_rfl) rfl (st_move rfl) (.cons_cons _ (sub_skip hs9321 (.refl _))) ?_
              obtain ⟨j9417, hj9418, hx9419⟩ := idx_some h9416
              obtain ⟨cs9420, hs9425, P9426, P9427, hq9428, hr9421, hcs9422, hA9423, hlt9424, hb9429, hho9430⟩ := OS.get (sz := 1) rfl (by decide) h9322 hx9419
              obtain ⟨rfl, rfl⟩ := hr9421
              refine D_st (Base.Le.refl _) 12 rfl (by kernel_rfl) (by kernel_rfl) (by kernel_rfl) rfl (st_index_old j9417 rfl rfl hj9418 hlt9424 hA9423 sl45) (.cons_cons _ (sub_skip hs9321 (.refl _))) ?_
              refine D_all [9, 13] (by kernel_rfl) rfl ?_
              refine R_do (Base.Le.refl _) rfl rfl (Stable.does (st_load_rd rfl one3 (fun w ho => hcs9406 w _ ho (.cons _ (List.sublist_append_left _ _)) 0 _ rfl))) ?_ ?_
              ·
                rintro _ _ ⟨rfl, rfl⟩
                refine ⟨.inr (.cons_cons _ (sub_skip hs9321 (.refl _))), ?_⟩
                refine D_all [13] (by kernel_rfl) rfl ?_
                refine R_do (Base.Le.refl _) rfl rfl (Stable.does (st_load_rd rfl one3 (fun w ho => hcs9422 w _ ho (.cons _ (List.sublist_append_left _ _)) 0 _ rfl))) ?_ ?_
                ·
                  rintro _ _ ⟨rfl, rfl⟩
                  refine ⟨.inr (.cons_cons _ (sub_skip hs9321 (.refl _))), ?_⟩
                  obtain ⟨j9433, hj9434, hx9435⟩ := idx_some h9432
                  obtain ⟨cs9436, hs9441, P9442, P9443, hq9444, hr9437, hcs9438, hA9439, hlt9440, hb9445, hho9446⟩ := OS.get (sz := 1) rfl (by decide) h9322 hx9435
                  obtain ⟨rfl, rfl⟩ := hr9437
                  refine D_st (Base.Le.refl _) 14 rfl (by kernel_rfl) (by kernel_rfl) (by kernel_rfl) rfl (st_index_old j9433 rfl rfl hj9434 hlt9440 hA9439 sl45) (.cons_cons _ (sub_skip hs9321 (.refl _))) ?_
                  refine D_all [15] (by kernel_rfl) rfl ?_
                  refine R_do (Base.Le.refl _) rfl rfl (u_putOS hj9434 (sz := 1) (a' := x9399) rfl [_] R 0 1 [.int .i64 (x9399)] rfl h9322 hx9435 rfl rfl rfl siz3 rfl (by intro u hu; simp only [List.mem_cons, List.not_mem_nil, or_false] at hu; subst hu; rfl) (fun cs hsj hh => by obtain ⟨rfl, rfl⟩ := hh; exact ⟨by decide, rfl, rfl⟩)) ?_ ?_
                  ·
                    rintro _ _ ⟨hs9447, rfl, h9448⟩
                    refine ⟨.inr (.cons_cons _ (sub_skip hs9447 (.refl _))), ?_⟩
                    refine d_resp 0 rfl (v' := .slice A3 (put l9324 x9323 x9399).length c4) (by simp only [put_length]) ?_
                    refine d_resp 115 rfl (v' := .slice A3 (put l9324 x9323 x9399).length c4) (by simp only [put_length]) ?_
                    obtain ⟨j9451, hj9452, hx9453⟩ := idx_some h9450
                    obtain ⟨cs9454, hs9459, P9460, P9461, hq9462, hr9455, hcs9456, hA9457, hlt9458, hb9463, hho9464⟩ := OS.get (sz := 1) rfl (by decide) h9448 hx9453
                    obtain ⟨rfl, rfl⟩ := hr9455
                    refine D_st (Base.Le.refl _) 16 rfl (by kernel_rfl) (by kernel_rfl) (by kernel_rfl) rfl (st_index_old j9451 rfl rfl hj9452 hlt9458 hA9457 sl45) (.cons_cons _ (sub_skip hs9447 (.refl _))) ?_
                    refine D_all [17] (by kernel_rfl) rfl ?_
                    refine R_do (Base.Le.refl _) rfl rfl (u_putOS hj9452 (sz := 1) (a' := x9415) rfl [_] R 0 1 [.int .i64 (x9415)] rfl h9448 hx9453 rfl rfl rfl siz3 rfl (by intro u hu; simp only [List.mem_cons, List.not_mem_nil, or_false] at hu; subst hu; rfl) (fun cs hsj hh => by obtain ⟨rfl, rfl⟩ := hh; exact ⟨by decide, rfl, rfl⟩)) ?_ ?_
                    ·
                      rintro _ _ ⟨hs9465, rfl, h9466⟩
                      refine ⟨.inl (by kernel_rfl), ?_⟩
                      refine d_resp 0 rfl (v' := .slice A3 (put (put l9324 x9323 x9399) (x9323 - 1) x9415).length c4) (by simp only [put_length]) ?_
                      refine D_done (by kernel_rfl) ?_
                      refine x_block_normal ?_
                      refine x_then_normal ?_
                      refine c_region ?_
                      refine t_st rfl (st_move rfl) ?_
                      obtain ⟨_, h9467, hm⟩ := bindS hm
                      have h9467 := (chk_some h9467).2
                      refine t_st rfl (st_sub rfl rfl h9467) ?_
                      refine t_st rfl (st_assign rfl) ?_
                      refine t_nil ?_
                      exact x_againM (x9323 - 1, put (put l9324 x9323 x9399) (x9323 - 1) x9415) (Option.some.inj hm).symm (e' := [(0, .slice A3 (put (put l9324 x9323 x9399) (x9323 - 1) x9415).length c4), (14, .int .i64 (x8333)), (17, .int .i64 (x9323 - 1))]) (hp' := (g6, Cl 22 [.slice A10 (l13).length c11]) :: (hs9465 ++ R)) ⟨rfl, rfl, rfl, trivial⟩ (.cons_cons _ (sub_app hs9465 (.refl _))) ⟨hs9465, rfl, rfl, (hle9319), h9466, ((put_length _ _ _).trans ((put_length _ _ _).trans hln9325))⟩
                    exact R_nil
                  exact R_nil
                exact R_nil
              refine R_do (Base.Le.refl _) rfl rfl (Stable.does (st_load_rd rfl one3 (fun w ho => hcs9422 w _ ho (.cons _ (List.sublist_append_left _ _)) 0 _ rfl))) ?_ ?_
              ·
                rintro _ _ ⟨rfl, rfl⟩
                refine ⟨.inr (.cons_cons _ (sub_skip hs9321 (.refl _))), ?_⟩
                refine D_all [9] (by kernel_rfl) rfl ?_
                refine R_do (Base.Le.refl _) rfl rfl (Stable.does (st_load_rd rfl one3 (fun w ho => hcs9406 w _ ho (.cons _ (List.sublist_append_left _ _)) 0 _ rfl))) ?_ ?_
                ·
                  rintro _ _ ⟨rfl, rfl⟩
                  refine ⟨.inr (.cons_cons _ (sub_skip hs9321 (.refl _))), ?_⟩
                  obtain ⟨j9433, hj9434, hx9435⟩ := idx_some h9432
                  obtain ⟨cs9436, hs9441, P9442, P9443, hq9444, hr9437, hcs9438, hA9439, hlt9440, hb9445, hho9446⟩ := OS.get (sz := 1) rfl (by decide) h9322 hx9435
                  obtain ⟨rfl, rfl⟩ := hr9437
                  refine D_st (Base.Le.refl _) 14 rfl (by kernel_rfl) (by kernel_rfl) (by kernel_rfl) rfl (st_index_old j9433 rfl rfl hj9434 hlt9440 hA9439 sl45) (.cons_cons _ (sub_skip hs9321 (.refl _))) ?_
                  refine D_all [15] (by kernel_rfl) rfl ?_
                  refine R_do (Base.Le.refl _) rfl rfl (u_putOS hj9434 (sz := 1) (a' := x9399) rfl [_] R 0 1 [.int .i64 (x9399)] rfl h9322 hx9435 rfl rfl rfl siz3 rfl (by intro u hu; simp only [List.mem_cons, List.not_mem_nil, or_false] at hu; subst hu; rfl) (fun cs hsj hh => by obtain ⟨rfl, rfl⟩ := hh; exact ⟨by decide, rfl, rfl⟩)) ?_ ?_
                  ·
                    rintro _ _ ⟨hs9447, rfl, h9448⟩
                    refine ⟨.inr (.cons_cons _ (sub_skip hs9447 (.refl _))), ?_⟩
                    refine d_resp 0 rfl (v' := .slice A3 (put l9324 x9323 x9399).length c4) (by simp only [put_length]) ?_
                    refine d_resp 115 rfl (v' := .slice A3 (put l9324 x9323 x9399).length c4) (by simp only [put_length]) ?_
                    obtain ⟨j9451, hj9452, hx9453⟩ := idx_some h9450
                    obtain ⟨cs9454, hs9459, P9460, P9461, hq9462, hr9455, hcs9456, hA9457, hlt9458, hb9463, hho9464⟩ := OS.get (sz := 1) rfl (by decide) h9448 hx9453
                    obtain ⟨rfl, rfl⟩ := hr9455
                    refine D_st (Base.Le.refl _) 16 rfl (by kernel_rfl) (by kernel_rfl) (by kernel_rfl) rfl (st_index_old j9451 rfl rfl hj9452 hlt9458 hA9457 sl45) (.cons_cons _ (sub_skip hs9447 (.refl _))) ?_
                    refine D_all [17] (by kernel_rfl) rfl ?_
                    refine R_do (Base.Le.refl _) rfl rfl (u_putOS hj9452 (sz := 1) (a' := x9415) rfl [_] R 0 1 [.int .i64 (x9415)] rfl h9448 hx9453 rfl rfl rfl siz3 rfl (by intro u hu; simp only [List.mem_cons, List.not_mem_nil, or_false] at hu; subst hu; rfl) (fun cs hsj hh => by obtain ⟨rfl, rfl⟩ := hh; exact ⟨by decide, rfl, rfl⟩)) ?_ ?_
                    ·
                      rintro _ _ ⟨hs9465, rfl, h9466⟩
                      refine ⟨.inl (by kernel_rfl), ?_⟩
                      refine d_resp 0 rfl (v' := .slice A3 (put (put l9324 x9323 x9399) (x9323 - 1) x9415).length c4) (by simp only [put_length]) ?_
                      refine D_done (by kernel_rfl) ?_
                      refine x_block_normal ?_
                      refine x_then_normal ?_
                      refine c_region ?_
                      refine t_st rfl (st_move rfl) ?_
                      obtain ⟨_, h9468, hm⟩ := bindS hm
                      have h9468 := (chk_some h9468).2
                      refine t_st rfl (st_sub rfl rfl h9468) ?_
                      refine t_st rfl (st_assign rfl) ?_
                      refine t_nil ?_
                      exact x_againM (x9323 - 1, put (put l9324 x9323 x9399) (x9323 - 1) x9415) (Option.some.inj hm).symm (e' := [(0, .slice A3 (put (put l9324 x9323 x9399) (x9323 - 1) x9415).length c4), (14, .int .i64 (x8333)), (17, .int .i64 (x9323 - 1))]) (hp' := (g6, Cl 22 [.slice A10 (l13).length c11]) :: (hs9465 ++ R)) ⟨rfl, rfl, rfl, trivial⟩ (.cons_cons _ (sub_app hs9465 (.refl _))) ⟨hs9465, rfl, rfl, (hle9319), h9466, ((put_length _ _ _).trans ((put_length _ _ _).trans hln9325))⟩
                    exact R_nil
                  exact R_nil
                exact R_nil
              exact R_nil
            ·
              rw [if_neg (of_decide_eq_false hc9326)] at hm
              refine c_exit ?_
              refine x_then_exit ?_
              refine x_then_exit ?_
              refine x_block_out ?_
              have hm := congrArg some (houtL9025 _ (Option.some.inj hm).symm)
              obtain rfl := some1 hm
              exact x_join (e' := []) (hp' := (g6, Cl 22 [.slice A10 (l13).length c11]) :: (hs9321 ++ R)) trivial (.cons_cons _ (sub_app hs9321 (.refl _))) ⟨hs9321, rfl, rfl, hle9319, h9322, hln9325⟩
          ·
            rintro b9017 _ _ ⟨hs9020, rfl, rfl, hle9018, h9021, hln9023⟩
            have hm := hk9024
            refine c_ret ?_
            refine x_then_ret ?_
            obtain rfl := some1 hm
            exact retM (rs := []) [] (hle8332.trans hle9018) (by decide) rfl trivial rfl (hp' := (g6, Cl 22 [.slice A10 (l13).length c11]) :: (hs9020 ++ R)) (.cons_cons _ (sub_app hs9020 (.refl _))) ⟨hs9020, rfl, rfl, h9021, hln9023⟩
      ·
        rw [if_neg (of_decide_eq_false hc8092)] at hm
        refine c_skip ?_
        refine x_then_normal ?_
        refine c_seq ?_
        refine c_region ?_
        refine t_st rfl (st_move rfl) ?_
        refine t_st rfl (st_move rfl) ?_
        obtain ⟨_, h9469, hm⟩ := bindS hm
        have h9469 := (chk_some h9469).2
        refine t_st rfl (st_add rfl rfl h9469) ?_
        refine t_st rfl (st_conv rfl int3_i64 int167_u64) ?_
        obtain ⟨_, h9470, hm⟩ := bindS hm
        have h9470 := shN_some h9470
        refine t_st rfl (st_shr rfl rfl h9470) ?_
        refine t_st rfl (st_conv rfl int167_u64 int3_i64) ?_
        refine t_st rfl (st_assign rfl) ?_
        refine t_nil ?_
        refine x_then_normal ?_
        refine c_seq ?_
        refine c_region ?_
        refine t_st rfl (st_move rfl) ?_
        refine t_st rfl (st_move rfl) ?_
        obtain ⟨_, h9471, hm⟩ := bindS hm
        have h9471 := (chk_some h9471).2
        refine t_st rfl (st_add rfl rfl h9471) ?_
        refine t_st rfl (st_assign rfl) ?_
        refine t_nil ?_
        refine x_then_normal ?_
        refine c_seq ?_
        refine c_region ?_
        refine t_st rfl (st_assign rfl) ?_
        refine t_st rfl (st_assign rfl) ?_
        refine t_nil ?_
        refine x_then_normal ?_
        obtain ⟨⟨x9476, x9477⟩, hj9478, hk9478⟩ := bindS hm
        refine c_join (fun b9474 e' hp' => [(0, .slice A3 (l14).length c4), (1, .int .i64 (x7)), (2, .int .i64 (x8)), (3, .int .i64 (x9)), (4, .func (.func 80) #[] #[.pointer (some ⟨g6, 0, none⟩)]), (18, .int .i64 (IntKind.wrap .i64 (shrI .u64 (IntKind.wrap .u64 (x7 + x9)) 1))), (19, .int .i64 ((IntKind.wrap .i64 (shrI .u64 (IntKind.wrap .u64 (x7 + x9)) 1)) + x8)), (20, .int .i64 (x9476)), (21, .int .i64 (x9477))] = e' ∧ (g6, Cl 22 [.slice A10 (l13).length c11]) :: (hs2 ++ R) = hp' ∧ b.Le b9474) ?_ ?_
        ·
          have hm := hj9478
          refine c_seq ?_
          refine c_region ?_
          refine t_st rfl (st_move rfl) ?_
          refine t_st rfl (st_move rfl) ?_
          refine t_st rfl (st_gtr rfl rfl) ?_
          refine t_nil ?_
          refine x_then_normal ?_
          refine c_cond _ rfl (fun hc9479 => ?_) (fun hc9479 => ?_)
          ·
            rw [if_pos (of_decide_eq_true hc9479)] at hm
            refine c_seq ?_
            refine c_region ?_
            refine t_st rfl (st_move rfl) ?_
            refine t_st rfl (st_move rfl) ?_
            obtain ⟨_, h9480, hm⟩ := bindS hm
            have h9480 := (chk_some h9480).2
            refine t_st rfl (st_sub rfl rfl h9480) ?_
            refine t_st rfl (st_assign rfl) ?_
            refine t_nil ?_
            refine x_then_normal ?_
            refine c_region ?_
            refine t_st rfl (st_move rfl) ?_
            refine t_st rfl (st_assign rfl) ?_
            refine t_nil ?_
            obtain ⟨rfl, rfl⟩ := some2 hm
            exact x_join (e' := [(0, .slice A3 (l14).length c4), (1, .int .i64 (x7)), (2, .int .i64 (x8)), (3, .int .i64 (x9)), (4, .func (.func 80) #[] #[.pointer (some ⟨g6, 0, none⟩)]), (18, .int .i64 (IntKind.wrap .i64 (shrI .u64 (IntKind.wrap .u64 (x7 + x9)) 1))), (19, .int .i64 ((IntKind.wrap .i64 (shrI .u64 (IntKind.wrap .u64 (x7 + x9)) 1)) + x8)), (20, .int .i64 (((IntKind.wrap .i64 (shrI .u64 (IntKind.wrap .u64 (x7 + x9)) 1)) + x8) - x9)), (21, .int .i64 (IntKind.wrap .i64 (shrI .u64 (IntKind.wrap .u64 (x7 + x9)) 1)))]) (hp' := (g6, Cl 22 [.slice A10 (l13).length c11]) :: (hs2 ++ R)) ⟨rfl, rfl, rfl, rfl, rfl, rfl, rfl, rfl, rfl, trivial⟩ (.cons_cons _ (sub_app hs2 (.refl _))) ⟨rfl, rfl, (Base.Le.refl _)⟩
          ·
            rw [if_neg (of_decide_eq_false hc9479)] at hm
            refine c_seq ?_
            refine c_region ?_
            refine t_st rfl (st_move rfl) ?_
            refine t_st rfl (st_assign rfl) ?_
            refine t_nil ?_
            refine x_then_normal ?_
            refine c_region ?_
            refine t_st rfl (st_move rfl) ?_
            refine t_st rfl (st_assign rfl) ?_
            refine t_nil ?_
            obtain ⟨rfl, rfl⟩ := some2 hm
            exact x_join (e' := [(0, .slice A3 (l14).length c4), (1, .int .i64 (x7)), (2, .int .i64 (x8)), (3, .int .i64 (x9)), (4, .func (.func 80) #[] #[.pointer (some ⟨g6, 0, none⟩)]), (18, .int .i64 (IntKind.wrap .i64 (shrI .u64 (IntKind.wrap .u64 (x7 + x9)) 1))), (19, .int .i64 ((IntKind.wrap .i64 (shrI .u64 (IntKind.wrap .u64 (x7 + x9)) 1)) + x8)), (20, .int .i64 (x7)), (21, .int .i64 (x8))]) (hp' := (g6, Cl 22 [.slice A10 (l13).length c11]) :: (hs2 ++ R)) ⟨rfl, rfl, rfl, rfl, rfl, rfl, rfl, rfl, rfl, trivial⟩ (.cons_cons _ (sub_app hs2 (.refl _))) ⟨rfl, rfl, (Base.Le.refl _)⟩
        ·
          rintro b9474 _ _ ⟨rfl, rfl, hle9475⟩
          have hm := (unc2E hk9478)
          refine c_seq ?_
          refine c_region ?_
          refine t_st rfl (st_move rfl) ?_
          obtain ⟨_, h9481, hm⟩ := bindS hm
          have h9481 := (chk_some h9481).2
          refine t_st rfl (st_sub rfl rfl h9481) ?_
          refine t_st rfl (st_assign rfl) ?_
          refine t_nil ?_
          refine x_then_normal ?_
          obtain ⟨x9728, hj9729, hk9729⟩ := bindS hm
          refine c_join (fun b9726 e' hp' => [(0, .slice A3 (l14).length c4), (1, .int .i64 (x7)), (2, .int .i64 (x8)), (3, .int .i64 (x9)), (4, .func (.func 80) #[] #[.pointer (some ⟨g6, 0, none⟩)]), (18, .int .i64 (IntKind.wrap .i64 (shrI .u64 (IntKind.wrap .u64 (x7 + x9)) 1))), (19, .int .i64 ((IntKind.wrap .i64 (shrI .u64 (IntKind.wrap .u64 (x7 + x9)) 1)) + x8)), (20, .int .i64 (x9728))] = e' ∧ (g6, Cl 22 [.slice A10 (l13).length c11]) :: (hs2 ++ R) = hp' ∧ b9474.Le b9726) ?_ ?_
          ·
            have hm := hj9729
            refine c_block ?_
            refine c_loopM (unc2 fun x9893 x9894 => fun b9891 e' hp' => [(0, .slice A3 (l14).length c4), (1, .int .i64 (x7)), (2, .int .i64 (x8)), (3, .int .i64 (x9)), (4, .func (.func 80) #[] #[.pointer (some ⟨g6, 0, none⟩)]), (18, .int .i64 (IntKind.wrap .i64 (shrI .u64 (IntKind.wrap .u64 (x7 + x9)) 1))), (19, .int .i64 ((IntKind.wrap .i64 (shrI .u64 (IntKind.wrap .u64 (x7 + x9)) 1)) + x8)), (20, .int .i64 (x9893)), (21, .int .i64 (x9894)), (22, .int .i64 (((IntKind.wrap .i64 (shrI .u64 (IntKind.wrap .u64 (x7 + x9)) 1)) + x8) - 1))] = e' ∧ (g6, Cl 22 [.slice A10 (l13).length c11]) :: (hs2 ++ R) = hp' ∧ b9474.Le b9891) hm (e' := [(0, .slice A3 (l14).length c4), (1, .int .i64 (x7)), (2, .int .i64 (x8)), (3, .int .i64 (x9)), (4, .func (.func 80) #[] #[.pointer (some ⟨g6, 0, none⟩)]), (18, .int .i64 (IntKind.wrap .i64 (shrI .u64 (IntKind.wrap .u64 (x7 + x9)) 1))), (19, .int .i64 ((IntKind.wrap .i64 (shrI .u64 (IntKind.wrap .u64 (x7 + x9)) 1)) + x8)), (20, .int .i64 (x9476)), (21, .int .i64 (x9477)), (22, .int .i64 (((IntKind.wrap .i64 (shrI .u64 (IntKind.wrap .u64 (x7 + x9)) 1)) + x8) - 1))]) (hp' := (g6, Cl 22 [.slice A10 (l13).length c11]) :: (hs2 ++ R)) ⟨rfl, rfl, rfl, rfl, rfl, rfl, rfl, rfl, rfl, rfl, trivial⟩ (.cons_cons _ (sub_app hs2 (.refl _))) ⟨rfl, rfl, (Base.Le.refl _)⟩ ?_
            rintro ⟨x9893, x9894⟩ b9891 _ _ oL9730 ⟨rfl, rfl, hle9892⟩ hstepL9730 houtL9730
            unfold mSlicesSymMergeCmpFunc_L9730 at hstepL9730
            have hm := (unc2E hstepL9730)
            refine c_seq ?_
            refine c_seq ?_
            refine c_region ?_
            refine t_st rfl (st_move rfl) ?_
            refine t_st rfl (st_move rfl) ?_
            refine t_st rfl (st_lss rfl rfl) ?_
            refine t_nil ?_
            refine x_then_normal ?_
            refine c_cond _ rfl (fun hc9895 => ?_) (fun hc9895 => ?_)
            ·
              rw [if_pos (of_decide_eq_true hc9895)] at hm
              refine c_skip ?_
              refine x_then_normal ?_
              refine c_block ?_
              refine c_seq ?_
              refine c_region ?_
              refine t_st rfl (st_move rfl) ?_
              refine t_st rfl (st_move rfl) ?_
              obtain ⟨_, h9896, hm⟩ := bindS hm
              have h9896 := (chk_some h9896).2
              refine t_st rfl (st_add rfl rfl h9896) ?_
              refine t_st rfl (st_conv rfl int3_i64 int167_u64) ?_
              obtain ⟨_, h9897, hm⟩ := bindS hm
              have h9897 := shN_some h9897
              refine t_st rfl (st_shr rfl rfl h9897) ?_
              refine t_st rfl (st_conv rfl int167_u64 int3_i64) ?_
              refine t_st rfl (st_assign rfl) ?_
              refine t_nil ?_
              refine x_then_normal ?_
              refine c_seq ?_
              obtain ⟨_, h9935, hm⟩ := bindS hm
              obtain ⟨x9936, h9937, hm⟩ := bindS hm
              obtain ⟨x9952, h9953, hm⟩ := bindS hm
              obtain ⟨x9968, hcl9969, hm⟩ := bindS hm
              refine D_drawS ((hs2 ++ R)) mixed ?_
              refine D_st (Base.Le.refl _) 0 rfl (by kernel_rfl) (by kernel_rfl) (by kernel_rfl) rfl (st_move rfl) (.cons _ (sub_app hs2 (.refl _))) ?_
              refine D_st (Base.Le.refl _) 1 rfl (by kernel_rfl) (by kernel_rfl) (by kernel_rfl) rfl (st_move rfl) (.cons _ (sub_app hs2 (.refl _))) ?_
              refine D_st (Base.Le.refl _) 2 rfl (by kernel_rfl) (by kernel_rfl) (by kernel_rfl) rfl (st_move rfl) (.cons _ (sub_app hs2 (.refl _))) ?_
              refine D_st (Base.Le.refl _) 3 rfl (by kernel_rfl) (by kernel_rfl) (by kernel_rfl) rfl (st_move rfl) (.cons _ (sub_app hs2 (.refl _))) ?_
              have h9935 := (chk_some h9935).2
              refine D_st (Base.Le.refl _) 4 rfl (by kernel_rfl) (by kernel_rfl) (by kernel_rfl) rfl (st_sub rfl rfl h9935) (.cons _ (sub_app hs2 (.refl _))) ?_
              obtain ⟨j9938, hj9939, hx9940⟩ := idx_some h9937
              obtain ⟨cs9941, hs9946, P9947, P9948, hq9949, hr9942, hcs9943, hA9944, hlt9945, hb9950, hho9951⟩ := OS.get (sz := 1) rfl (by decide) (h5.le (hle9475.trans hle9892)) hx9940
              obtain ⟨rfl, rfl⟩ := hr9942
              refine D_st (Base.Le.refl _) 5 rfl (by kernel_rfl) (by kernel_rfl) (by kernel_rfl) rfl (st_index_old j9938 rfl rfl hj9939 hlt9945 hA9944 sl45) (.cons _ (sub_app hs2 (.refl _))) ?_
              refine D_st (Base.Le.refl _) 6 rfl (by kernel_rfl) (by kernel_rfl) (by kernel_rfl) rfl (st_load_rd rfl one3 (fun w ho => hcs9943 w _ ho (List.sublist_append_left _ _) 0 _ rfl)) (.cons _ (sub_app hs2 (.refl _))) ?_
              refine D_st (Base.Le.refl _) 7 rfl (by kernel_rfl) (by kernel_rfl) (by kernel_rfl) rfl (st_move rfl) (.cons _ (sub_app hs2 (.refl _))) ?_
              refine D_st (Base.Le.refl _) 8 rfl (by kernel_rfl) (by kernel_rfl) (by kernel_rfl) rfl (st_move rfl) (.cons _ (sub_app hs2 (.refl _))) ?_
              obtain ⟨j9954, hj9955, hx9956⟩ := idx_some h9953
              obtain ⟨cs9957, hs9962, P9963, P9964, hq9965, hr9958, hcs9959, hA9960, hlt9961, hb9966, hho9967⟩ := OS.get (sz := 1) rfl (by decide) (h5.le (hle9475.trans hle9892)) hx9956
              obtain ⟨rfl, rfl⟩ := hr9958
              refine D_st (Base.Le.refl _) 9 rfl (by kernel_rfl) (by kernel_rfl) (by kernel_rfl) rfl (st_index_old j9954 rfl rfl hj9955 hlt9961 hA9960 sl45) (.cons _ (sub_app hs2 (.refl _))) ?_
              refine D_st (Base.Le.refl _) 10 rfl (by kernel_rfl) (by kernel_rfl) (by kernel_rfl) rfl (st_load_rd rfl one3 (fun w ho => hcs9959 w _ ho (List.sublist_append_left _ _) 0 _ rfl)) (.cons _ (sub_app hs2 (.refl _))) ?_
              refine D_all [11] (by kernel_rfl) rfl ?_
              refine R_callvG (Base.Le.refl _) rfl rfl #[] #[.pointer (some ⟨g6, 0, none⟩)] [.int .i64 (x9936), .int .i64 (x9952)] rfl call80 rfl (cFleetOrder_1 _ _ x9936 x9952 l13 g6 A10 c11 (h12.le (hle9475.trans hle9892)) x9968 hcl9969) ?_ ?_
              ·
                rintro _ b9970 _ hle9971 ⟨rfl, rfl⟩
                refine ⟨.inr (.cons _ (sub_app hs2 (.refl _))), ?_⟩
                refine D_st hle9971 12 rfl (by kernel_rfl) (by kernel_rfl) (by kernel_rfl) rfl (st_lss rfl rfl) (.cons _ (sub_app hs2 (.refl _))) ?_
                refine D_st hle9971 13 rfl (by kernel_rfl) (by kernel_rfl) (by kernel_rfl) rfl (st_not rfl) (.cons _ (sub_app hs2 (.refl _))) ?_
                refine D_done (by kernel_rfl) ?_
                refine x_then_normal ?_
                refine c_cond _ rfl (fun hc9972 => ?_) (fun hc9972 => ?_)
                ·
                  rw [if_neg (of_decide_eq_false (notT hc9972))] at hm
                  refine c_region ?_
                  refine t_st rfl (st_move rfl) ?_
                  obtain ⟨_, h9973, hm⟩ := bindS hm
                  have h9973 := (chk_some h9973).2
                  refine t_st rfl (st_add rfl rfl h9973) ?_
                  refine t_st rfl (st_assign rfl) ?_
                  refine t_nil ?_
                  refine x_block_normal ?_
                  exact x_againM ((IntKind.wrap .i64 (shrI .u64 (IntKind.wrap .u64 (x9893 + x9894)) 1)) + 1, x9894) (Option.some.inj hm).symm (e' := [(0, .slice A3 (l14).length c4), (1, .int .i64 (x7)), (2, .int .i64 (x8)), (3, .int .i64 (x9)), (4, .func (.func 80) #[] #[.pointer (some ⟨g6, 0, none⟩)]), (18, .int .i64 (IntKind.wrap .i64 (shrI .u64 (IntKind.wrap .u64 (x7 + x9)) 1))), (19, .int .i64 ((IntKind.wrap .i64 (shrI .u64 (IntKind.wrap .u64 (x7 + x9)) 1)) + x8)), (20, .int .i64 ((IntKind.wrap .i64 (shrI .u64 (IntKind.wrap .u64 (x9893 + x9894)) 1)) + 1)), (21, .int .i64 (x9894)), (22, .int .i64 (((IntKind.wrap .i64 (shrI .u64 (IntKind.wrap .u64 (x7 + x9)) 1)) + x8) - 1))]) (hp' := (g6, Cl 22 [.slice A10 (l13).length c11]) :: (hs2 ++ R)) ⟨rfl, rfl, rfl, rfl, rfl, rfl, rfl, rfl, rfl, rfl, trivial⟩ (.cons_cons _ (sub_app hs2 (.refl _))) ⟨rfl, rfl, ((hle9892.trans hle9971))⟩
                ·
                  rw [if_pos (of_decide_eq_true (notF hc9972))] at hm
                  refine c_region ?_
                  refine t_st rfl (st_move rfl) ?_
                  refine t_st rfl (st_assign rfl) ?_
                  refine t_nil ?_
                  refine x_block_normal ?_
                  exact x_againM (x9893, IntKind.wrap .i64 (shrI .u64 (IntKind.wrap .u64 (x9893 + x9894)) 1)) (Option.some.inj hm).symm (e' := [(0, .slice A3 (l14).length c4), (1, .int .i64 (x7)), (2, .int .i64 (x8)), (3, .int .i64 (x9)), (4, .func (.func 80) #[] #[.pointer (some ⟨g6, 0, none⟩)]), (18, .int .i64 (IntKind.wrap .i64 (shrI .u64 (IntKind.wrap .u64 (x7 + x9)) 1))), (19, .int .i64 ((IntKind.wrap .i64 (shrI .u64 (IntKind.wrap .u64 (x7 + x9)) 1)) + x8)), (20, .int .i64 (x9893)), (21, .int .i64 (IntKind.wrap .i64 (shrI .u64 (IntKind.wrap .u64 (x9893 + x9894)) 1))), (22, .int .i64 (((IntKind.wrap .i64 (shrI .u64 (IntKind.wrap .u64 (x7 + x9)) 1)) + x8) - 1))]) (hp' := (g6, Cl 22 [.slice A10 (l13).length c11]) :: (hs2 ++ R)) ⟨rfl, rfl, rfl, rfl, rfl, rfl, rfl, rfl, rfl, rfl, trivial⟩ (.cons_cons _ (sub_app hs2 (.refl _))) ⟨rfl, rfl, ((hle9892.trans hle9971))⟩
              exact R_nil
            ·
              rw [if_neg (of_decide_eq_false hc9895)] at hm
              refine c_exit ?_
              refine x_then_exit ?_
              refine x_then_exit ?_
              refine x_block_out ?_
              have hm := congrArg some (houtL9730 _ (Option.some.inj hm).symm)
              obtain rfl := some1 hm
              exact x_join (e' := [(0, .slice A3 (l14).length c4), (1, .int .i64 (x7)), (2, .int .i64 (x8)), (3, .int .i64 (x9)), (4, .func (.func 80) #[] #[.pointer (some ⟨g6, 0, none⟩)]), (18, .int .i64 (IntKind.wrap .i64 (shrI .u64 (IntKind.wrap .u64 (x7 + x9)) 1))), (19, .int .i64 ((IntKind.wrap .i64 (shrI .u64 (IntKind.wrap .u64 (x7 + x9)) 1)) + x8)), (20, .int .i64 (x9893))]) (hp' := (g6, Cl 22 [.slice A10 (l13).length c11]) :: (hs2 ++ R)) ⟨rfl, rfl, rfl, rfl, rfl, rfl, rfl, rfl, trivial⟩ (.cons_cons _ (sub_app hs2 (.refl _))) ⟨rfl, rfl, hle9892⟩
          ·
            rintro b9726 _ _ ⟨rfl, rfl, hle9727⟩
            have hm := hk9729
            refine c_seq ?_
            refine c_region ?_
            refine t_st rfl (st_move rfl) ?_
            refine t_st rfl (st_move rfl) ?_
            obtain ⟨_, h9974, hm⟩ := bindS hm
            have h9974 := (chk_some h9974).2
            refine t_st rfl (st_sub rfl rfl h9974) ?_
            refine t_st rfl (st_assign rfl) ?_
            refine t_nil ?_
            refine x_then_normal ?_
            obtain ⟨l9994, hj9996, hk9996⟩ := bindS hm
            refine c_join (fun b9989 e' hp' => ∃ (hs9992 : Hp), [(0, .slice A3 (l9994).length c4), (1, .int .i64 (x7)), (3, .int .i64 (x9)), (4, .func (.func 80) #[] #[.pointer (some ⟨g6, 0, none⟩)]), (18, .int .i64 (IntKind.wrap .i64 (shrI .u64 (IntKind.wrap .u64 (x7 + x9)) 1))), (20, .int .i64 (x9728)), (24, .int .i64 (((IntKind.wrap .i64 (shrI .u64 (IntKind.wrap .u64 (x7 + x9)) 1)) + x8) - x9728))] = e' ∧ (g6, Cl 22 [.slice A10 (l13).length c11]) :: (hs9992 ++ R) = hp' ∧ b9726.Le b9989 ∧ OS 3 (OT.fr (RT.int .i64)) b9989.w (.slice A3 l9994.length c4) l9994 hs9992 ∧ l9994.length = l14.length) ?_ ?_
            ·
              have hm := hj9996
              obtain ⟨x10000, hj10001, hk10001⟩ := bindS hm
              refine c_join (fun b9998 e' hp' => [(0, .slice A3 (l14).length c4), (1, .int .i64 (x7)), (2, .int .i64 (x8)), (3, .int .i64 (x9)), (4, .func (.func 80) #[] #[.pointer (some ⟨g6, 0, none⟩)]), (18, .int .i64 (IntKind.wrap .i64 (shrI .u64 (IntKind.wrap .u64 (x7 + x9)) 1))), (20, .int .i64 (x9728)), (24, .int .i64 (((IntKind.wrap .i64 (shrI .u64 (IntKind.wrap .u64 (x7 + x9)) 1)) + x8) - x9728)), (185, .bool (x10000))] = e' ∧ (g6, Cl 22 [.slice A10 (l13).length c11]) :: (hs2 ++ R) = hp' ∧ b9726.Le b9998) ?_ ?_
              ·
                have hm := hj10001
                refine c_region ?_
                refine t_st rfl (st_move rfl) ?_
                refine t_st rfl (st_move rfl) ?_
                refine t_bool rfl (st_lss rfl rfl) (fun hc10002 => ?_) (fun hc10002 => ?_)
                ·
                  rw [if_pos hc10002] at hm
                  refine t_st rfl (st_move rfl) ?_
                  refine t_yes 181 rfl rfl rfl ?_
                  refine t_st rfl (st_move rfl) ?_
                  refine t_yes 181 rfl rfl rfl ?_
                  refine t_st rfl (st_move rfl) ?_
                  refine t_yes 181 rfl rfl rfl ?_
                  refine t_st rfl (st_lss rfl rfl) ?_
                  refine t_st rfl (st_pick_t rfl rfl) ?_
                  refine t_nil ?_
                  obtain rfl := some1 hm
                  exact x_join (e' := [(0, .slice A3 (l14).length c4), (1, .int .i64 (x7)), (2, .int .i64 (x8)), (3, .int .i64 (x9)), (4, .func (.func 80) #[] #[.pointer (some ⟨g6, 0, none⟩)]), (18, .int .i64 (IntKind.wrap .i64 (shrI .u64 (IntKind.wrap .u64 (x7 + x9)) 1))), (20, .int .i64 (x9728)), (24, .int .i64 (((IntKind.wrap .i64 (shrI .u64 (IntKind.wrap .u64 (x7 + x9)) 1)) + x8) - x9728)), (185, .bool (decide (x8 < (((IntKind.wrap .i64 (shrI .u64 (IntKind.wrap .u64 (x7 + x9)) 1)) + x8) - x9728))))]) (hp' := (g6, Cl 22 [.slice A10 (l13).length c11]) :: (hs2 ++ R)) ⟨rfl, rfl, rfl, rfl, rfl, rfl, rfl, rfl, rfl, trivial⟩ (.cons_cons _ (sub_app hs2 (.refl _))) ⟨rfl, rfl, (Base.Le.refl _)⟩
                ·
                  rw [if_neg hc10002] at hm
                  refine t_st rfl (st_move rfl) ?_
                  refine t_no 181 rfl rfl rfl rfl rfl ?_
                  refine t_no 181 rfl rfl rfl rfl rfl ?_
                  refine t_no 181 rfl rfl rfl rfl rfl ?_
                  refine t_st rfl (st_pick_f rfl rfl) ?_
                  refine t_nil ?_
                  obtain rfl := some1 hm
                  exact x_join (e' := [(0, .slice A3 (l14).length c4), (1, .int .i64 (x7)), (2, .int .i64 (x8)), (3, .int .i64 (x9)), (4, .func (.func 80) #[] #[.pointer (some ⟨g6, 0, none⟩)]), (18, .int .i64 (IntKind.wrap .i64 (shrI .u64 (IntKind.wrap .u64 (x7 + x9)) 1))), (20, .int .i64 (x9728)), (24, .int .i64 (((IntKind.wrap .i64 (shrI .u64 (IntKind.wrap .u64 (x7 + x9)) 1)) + x8) - x9728)), (185, .bool (false))]) (hp' := (g6, Cl 22 [.slice A10 (l13).length c11]) :: (hs2 ++ R)) ⟨rfl, rfl, rfl, rfl, rfl, rfl, rfl, rfl, rfl, trivial⟩ (.cons_cons _ (sub_app hs2 (.refl _))) ⟨rfl, rfl, (Base.Le.refl _)⟩
              ·
                rintro b9998 _ _ ⟨rfl, rfl, hle9999⟩
                have hm := hk10001
                refine c_cond _ rfl (fun hc10003 => ?_) (fun hc10003 => ?_)
                ·
                  rw [if_pos hc10003] at hm
                  refine c_region ?_
                  refine t_st rfl (st_move rfl) ?_
                  refine t_st rfl (st_move rfl) ?_
                  refine t_st rfl (st_move rfl) ?_
                  refine t_st rfl (st_move rfl) ?_
                  refine t_st rfl (st_move rfl) ?_
                  obtain ⟨l10004, hcl10005, hm⟩ := bindS hm
                  refine t_out1 [_] [] hs2 R rfl ?_
                  refine t_callG _ rfl call128 rfl (cSlicesRotateCmpFunc _ _ x9728 x8 (((IntKind.wrap .i64 (shrI .u64 (IntKind.wrap .u64 (x7 + x9)) 1)) + x8) - x9728) l13 l14 g6 A10 c11 A3 c4 hs2 (h12.le (hle9475.trans (hle9727.trans hle9999))) (h5.le (hle9475.trans (hle9727.trans hle9999))) l10004 hcl10005) ?_
                  rintro _ b10006 _ hle10007 ⟨hs10008, rfl, rfl, h10009, h10010⟩
                  refine t_in1 [_] [] hs10008 R rfl ?_
                  refine t_resp 0 rfl (v' := .slice A3 (l10004).length c4) (by rw [h10010]) ?_
                  refine t_nil ?_
                  obtain rfl := some1 hm
                  exact x_join (e' := [(0, .slice A3 (l10004).length c4), (1, .int .i64 (x7)), (3, .int .i64 (x9)), (4, .func (.func 80) #[] #[.pointer (some ⟨g6, 0, none⟩)]), (18, .int .i64 (IntKind.wrap .i64 (shrI .u64 (IntKind.wrap .u64 (x7 + x9)) 1))), (20, .int .i64 (x9728)), (24, .int .i64 (((IntKind.wrap .i64 (shrI .u64 (IntKind.wrap .u64 (x7 + x9)) 1)) + x8) - x9728))]) (hp' := (g6, Cl 22 [.slice A10 (l13).length c11]) :: (hs10008 ++ R)) ⟨rfl, rfl, rfl, rfl, rfl, rfl, rfl, trivial⟩ (.cons_cons _ (sub_app hs10008 (.refl _))) ⟨hs10008, rfl, rfl, (hle9999.trans hle10007), h10009, (h10010.trans rfl)⟩
                ·
                  rw [if_neg (fun hh => Bool.noConfusion (hh.symm.trans hc10003))] at hm
                  refine c_skip ?_
                  obtain rfl := some1 hm
                  exact x_join (e' := [(0, .slice A3 (l14).length c4), (1, .int .i64 (x7)), (3, .int .i64 (x9)), (4, .func (.func 80) #[] #[.pointer (some ⟨g6, 0, none⟩)]), (18, .int .i64 (IntKind.wrap .i64 (shrI .u64 (IntKind.wrap .u64 (x7 + x9)) 1))), (20, .int .i64 (x9728)), (24, .int .i64 (((IntKind.wrap .i64 (shrI .u64 (IntKind.wrap .u64 (x7 + x9)) 1)) + x8) - x9728))]) (hp' := (g6, Cl 22 [.slice A10 (l13).length c11]) :: (hs2 ++ R)) ⟨rfl, rfl, rfl, rfl, rfl, rfl, rfl, trivial⟩ (.cons_cons _ (sub_app hs2 (.refl _))) ⟨hs2, rfl, rfl, hle9999, (h5.le (hle9475.trans (hle9727.trans hle9999))), rfl⟩
            ·
              rintro b9989 _ _ ⟨hs9992, rfl, rfl, hle9990, h9993, hln9995⟩
              have hm := hk9996
              obtain ⟨l10030, hj10032, hk10032⟩ := bindS hm
              refine c_join (fun b10025 e' hp' => ∃ (hs10028 : Hp), [(0, .slice A3 (l10030).length c4), (3, .int .i64 (x9)), (4, .func (.func 80) #[] #[.pointer (some ⟨g6, 0, none⟩)]), (18, .int .i64 (IntKind.wrap .i64 (shrI .u64 (IntKind.wrap .u64 (x7 + x9)) 1))), (24, .int .i64 (((IntKind.wrap .i64 (shrI .u64 (IntKind.wrap .u64 (x7 + x9)) 1)) + x8) - x9728))] = e' ∧ (g6, Cl 22 [.slice A10 (l13).length c11]) :: (hs10028 ++ R) = hp' ∧ b9989.Le b10025 ∧ OS 3 (OT.fr (RT.int .i64)) b10025.w (.slice A3 l10030.length c4) l10030 hs10028 ∧ l10030.length = l14.length) ?_ ?_
              ·
                have hm := hj10032
                obtain ⟨x10036, hj10037, hk10037⟩ := bindS hm
                refine c_join (fun b10034 e' hp' => [(0, .slice A3 (l9994).length c4), (1, .int .i64 (x7)), (3, .int .i64 (x9)), (4, .func (.func 80) #[] #[.pointer (some ⟨g6, 0, none⟩)]), (18, .int .i64 (IntKind.wrap .i64 (shrI .u64 (IntKind.wrap .u64 (x7 + x9)) 1))), (20, .int .i64 (x9728)), (24, .int .i64 (((IntKind.wrap .i64 (shrI .u64 (IntKind.wrap .u64 (x7 + x9)) 1)) + x8) - x9728)), (199, .bool (x10036))] = e' ∧ (g6, Cl 22 [.slice A10 (l13).length c11]) :: (hs9992 ++ R) = hp' ∧ b9989.Le b10034) ?_ ?_
                ·
                  have hm := hj10037
                  refine c_region ?_
                  refine t_st rfl (st_move rfl) ?_
                  refine t_st rfl (st_move rfl) ?_
                  refine t_bool rfl (st_lss rfl rfl) (fun hc10038 => ?_) (fun hc10038 => ?_)
                  ·
                    rw [if_pos hc10038] at hm
                    refine t_st rfl (st_move rfl) ?_
                    refine t_yes 195 rfl rfl rfl ?_
                    refine t_st rfl (st_move rfl) ?_
                    refine t_yes 195 rfl rfl rfl ?_
                    refine t_st rfl (st_move rfl) ?_
                    refine t_yes 195 rfl rfl rfl ?_
                    refine t_st rfl (st_lss rfl rfl) ?_
                    refine t_st rfl (st_pick_t rfl rfl) ?_
                    refine t_nil ?_
                    obtain rfl := some1 hm
                    exact x_join (e' := [(0, .slice A3 (l9994).length c4), (1, .int .i64 (x7)), (3, .int .i64 (x9)), (4, .func (.func 80) #[] #[.pointer (some ⟨g6, 0, none⟩)]), (18, .int .i64 (IntKind.wrap .i64 (shrI .u64 (IntKind.wrap .u64 (x7 + x9)) 1))), (20, .int .i64 (x9728)), (24, .int .i64 (((IntKind.wrap .i64 (shrI .u64 (IntKind.wrap .u64 (x7 + x9)) 1)) + x8) - x9728)), (199, .bool (decide (x9728 < (IntKind.wrap .i64 (shrI .u64 (IntKind.wrap .u64 (x7 + x9)) 1)))))]) (hp' := (g6, Cl 22 [.slice A10 (l13).length c11]) :: (hs9992 ++ R)) ⟨rfl, rfl, rfl, rfl, rfl, rfl, rfl, rfl, trivial⟩ (.cons_cons _ (sub_app hs9992 (.refl _))) ⟨rfl, rfl, (Base.Le.refl _)⟩
                  ·
                    rw [if_neg hc10038] at hm
                    refine t_st rfl (st_move rfl) ?_
                    refine t_no 195 rfl rfl rfl rfl rfl ?_
                    refine t_no 195 rfl rfl rfl rfl rfl ?_
                    refine t_no 195 rfl rfl rfl rfl rfl ?_
                    refine t_st rfl (st_pick_f rfl rfl) ?_
                    refine t_nil ?_
                    obtain rfl := some1 hm
                    exact x_join (e' := [(0, .slice A3 (l9994).length c4), (1, .int .i64 (x7)), (3, .int .i64 (x9)), (4, .func (.func 80) #[] #[.pointer (some ⟨g6, 0, none⟩)]), (18, .int .i64 (IntKind.wrap .i64 (shrI .u64 (IntKind.wrap .u64 (x7 + x9)) 1))), (20, .int .i64 (x9728)), (24, .int .i64 (((IntKind.wrap .i64 (shrI .u64 (IntKind.wrap .u64 (x7 + x9)) 1)) + x8) - x9728)), (199, .bool (false))]) (hp' := (g6, Cl 22 [.slice A10 (l13).length c11]) :: (hs9992 ++ R)) ⟨rfl, rfl, rfl, rfl, rfl, rfl, rfl, rfl, trivial⟩ (.cons_cons _ (sub_app hs9992 (.refl _))) ⟨rfl, rfl, (Base.Le.refl _)⟩
                ·
                  rintro b10034 _ _ ⟨rfl, rfl, hle10035⟩
                  have hm := hk10037
                  refine c_cond _ rfl (fun hc10039 => ?_) (fun hc10039 => ?_)
                  ·
                    rw [if_pos hc10039] at hm
                    refine c_region ?_
                    refine t_st rfl (st_move rfl) ?_
                    refine t_st rfl (st_move rfl) ?_
                    refine t_st rfl (st_move rfl) ?_
                    refine t_st rfl (st_move rfl) ?_
                    refine t_st rfl (st_move rfl) ?_
                    obtain ⟨l10040, hcl10041, hm⟩ := bindS hm
                    refine t_out1 [_] [] hs9992 R rfl ?_
                    refine t_callG _ rfl call120 rfl (ih _ _ x7 x9728 (IntKind.wrap .i64 (shrI .u64 (IntKind.wrap .u64 (x7 + x9)) 1)) l13 l9994 g6 A10 c11 A3 c4 hs9992 (h12.le (hle9475.trans (hle9727.trans (hle9990.trans hle10035)))) (h9993.le hle10035) l10040 hcl10041) ?_
                    rintro _ b10042 _ hle10043 ⟨hs10044, rfl, rfl, h10045, h10046⟩
                    refine t_in1 [_] [] hs10044 R rfl ?_
                    refine t_resp 0 rfl (v' := .slice A3 (l10040).length c4) (by rw [h10046]) ?_
                    refine t_nil ?_
                    obtain rfl := some1 hm
                    exact x_join (e' := [(0, .slice A3 (l10040).length c4), (3, .int .i64 (x9)), (4, .func (.func 80) #[] #[.pointer (some ⟨g6, 0, none⟩)]), (18, .int .i64 (IntKind.wrap .i64 (shrI .u64 (IntKind.wrap .u64 (x7 + x9)) 1))), (24, .int .i64 (((IntKind.wrap .i64 (shrI .u64 (IntKind.wrap .u64 (x7 + x9)) 1)) + x8) - x9728))]) (hp' := (g6, Cl 22 [.slice A10 (l13).length c11]) :: (hs10044 ++ R)) ⟨rfl, rfl, rfl, rfl, rfl, trivial⟩ (.cons_cons _ (sub_app hs10044 (.refl _))) ⟨hs10044, rfl, rfl, (hle10035.trans hle10043), h10045, (h10046.trans hln9995)⟩
                  ·
                    rw [if_neg (fun hh => Bool.noConfusion (hh.symm.trans hc10039))] at hm
                    refine c_skip ?_
                    obtain rfl := some1 hm
                    exact x_join (e' := [(0, .slice A3 (l9994).length c4), (3, .int .i64 (x9)), (4, .func (.func 80) #[] #[.pointer (some ⟨g6, 0, none⟩)]), (18, .int .i64 (IntKind.wrap .i64 (shrI .u64 (IntKind.wrap .u64 (x7 + x9)) 1))), (24, .int .i64 (((IntKind.wrap .i64 (shrI .u64 (IntKind.wrap .u64 (x7 + x9)) 1)) + x8) - x9728))]) (hp' := (g6, Cl 22 [.slice A10 (l13).length c11]) :: (hs9992 ++ R)) ⟨rfl, rfl, rfl, rfl, rfl, trivial⟩ (.cons_cons _ (sub_app hs9992 (.refl _))) ⟨hs9992, rfl, rfl, hle10035, (h9993.le hle10035), hln9995⟩
              ·
                rintro b10025 _ _ ⟨hs10028, rfl, rfl, hle10026, h10029, hln10031⟩
                have hm := hk10032
                obtain ⟨x10050, hj10051, hk10051⟩ := bindS hm
                refine c_join (fun b10048 e' hp' => [(0, .slice A3 (l10030).length c4), (3, .int .i64 (x9)), (4, .func (.func 80) #[] #[.pointer (some ⟨g6, 0, none⟩)]), (18, .int .i64 (IntKind.wrap .i64 (shrI .u64 (IntKind.wrap .u64 (x7 + x9)) 1))), (24, .int .i64 (((IntKind.wrap .i64 (shrI .u64 (IntKind.wrap .u64 (x7 + x9)) 1)) + x8) - x9728)), (213, .bool (x10050))] = e' ∧ (g6, Cl 22 [.slice A10 (l13).length c11]) :: (hs10028 ++ R) = hp' ∧ b10025.Le b10048) ?_ ?_
                ·
                  have hm := hj10051
                  refine c_region ?_
                  refine t_st rfl (st_move rfl) ?_
                  refine t_st rfl (st_move rfl) ?_
                  refine t_bool rfl (st_lss rfl rfl) (fun hc10052 => ?_) (fun hc10052 => ?_)
                  ·
                    rw [if_pos hc10052] at hm
                    refine t_st rfl (st_move rfl) ?_
                    refine t_yes 209 rfl rfl rfl ?_
                    refine t_st rfl (st_move rfl) ?_
                    refine t_yes 209 rfl rfl rfl ?_
                    refine t_st rfl (st_move rfl) ?_
                    refine t_yes 209 rfl rfl rfl ?_
                    refine t_st rfl (st_lss rfl rfl) ?_
                    refine t_st rfl (st_pick_t rfl rfl) ?_
                    refine t_nil ?_
                    obtain rfl := some1 hm
                    exact x_join (e' := [(0, .slice A3 (l10030).length c4), (3, .int .i64 (x9)), (4, .func (.func 80) #[] #[.pointer (some ⟨g6, 0, none⟩)]), (18, .int .i64 (IntKind.wrap .i64 (shrI .u64 (IntKind.wrap .u64 (x7 + x9)) 1))), (24, .int .i64 (((IntKind.wrap .i64 (shrI .u64 (IntKind.wrap .u64 (x7 + x9)) 1)) + x8) - x9728)), (213, .bool (decide ((((IntKind.wrap .i64 (shrI .u64 (IntKind.wrap .u64 (x7 + x9)) 1)) + x8) - x9728) < x9)))]) (hp' := (g6, Cl 22 [.slice A10 (l13).length c11]) :: (hs10028 ++ R)) ⟨rfl, rfl, rfl, rfl, rfl, rfl, trivial⟩ (.cons_cons _ (sub_app hs10028 (.refl _))) ⟨rfl, rfl, (Base.Le.refl _)⟩
                  ·
                    rw [if_neg hc10052] at hm
                    refine t_st rfl (st_move rfl) ?_
                    refine t_no 209 rfl rfl rfl rfl rfl ?_
                    refine t_no 209 rfl rfl rfl rfl rfl ?_
                    refine t_no 209 rfl rfl rfl rfl rfl ?_
                    refine t_st rfl (st_pick_f rfl rfl) ?_
                    refine t_nil ?_
                    obtain rfl := some1 hm
                    exact x_join (e' := [(0, .slice A3 (l10030).length c4), (3, .int .i64 (x9)), (4, .func (.func 80) #[] #[.pointer (some ⟨g6, 0, none⟩)]), (18, .int .i64 (IntKind.wrap .i64 (shrI .u64 (IntKind.wrap .u64 (x7 + x9)) 1))), (24, .int .i64 (((IntKind.wrap .i64 (shrI .u64 (IntKind.wrap .u64 (x7 + x9)) 1)) + x8) - x9728)), (213, .bool (false))]) (hp' := (g6, Cl 22 [.slice A10 (l13).length c11]) :: (hs10028 ++ R)) ⟨rfl, rfl, rfl, rfl, rfl, rfl, trivial⟩ (.cons_cons _ (sub_app hs10028 (.refl _))) ⟨rfl, rfl, (Base.Le.refl _)⟩
                ·
                  rintro b10048 _ _ ⟨rfl, rfl, hle10049⟩
                  have hm := hk10051
                  refine c_cond _ rfl (fun hc10053 => ?_) (fun hc10053 => ?_)
                  ·
                    rw [if_pos hc10053] at hm
                    refine c_region ?_
                    refine t_st rfl (st_move rfl) ?_
                    refine t_st rfl (st_move rfl) ?_
                    refine t_st rfl (st_move rfl) ?_
                    refine t_st rfl (st_move rfl) ?_
                    refine t_st rfl (st_move rfl) ?_
                    obtain ⟨l10054, hcl10055, hm⟩ := bindS hm
                    refine t_out1 [_] [] hs10028 R rfl ?_
                    refine t_callG _ rfl call120 rfl (ih _ _ (IntKind.wrap .i64 (shrI .u64 (IntKind.wrap .u64 (x7 + x9)) 1)) (((IntKind.wrap .i64 (shrI .u64 (IntKind.wrap .u64 (x7 + x9)) 1)) + x8) - x9728) x9 l13 l10030 g6 A10 c11 A3 c4 hs10028 (h12.le (hle9475.trans (hle9727.trans (hle9990.trans (hle10026.trans hle10049))))) (h10029.le hle10049) l10054 hcl10055) ?_
                    rintro _ b10056 _ hle10057 ⟨hs10058, rfl, rfl, h10059, h10060⟩
                    refine t_in1 [_] [] hs10058 R rfl ?_
                    refine t_nil ?_
                    obtain rfl := some1 hm
                    exact endM (hle9475.trans (hle9727.trans (hle9990.trans (hle10026.trans (hle10049.trans hle10057))))) rfl (.cons_cons _ (sub_app hs10058 (.refl _))) ⟨hs10058, rfl, rfl, h10059, (h10060.trans hln10031)⟩
                  ·
                    rw [if_neg (fun hh => Bool.noConfusion (hh.symm.trans hc10053))] at hm
                    refine c_skip ?_
                    obtain rfl := some1 hm
                    exact endM (hle9475.trans (hle9727.trans (hle9990.trans (hle10026.trans hle10049)))) rfl (.cons_cons _ (sub_app hs10028 (.refl _))) ⟨hs10028, rfl, rfl, (h10029.le hle10049), hln10031⟩

set_option maxRecDepth 20000 in
theorem cSlicesStableCmpFunc (b : Base) (R : Hp) (x7 : Int) (l11 : (List FleetTask)) (l12 : (List Int)) (g6 : Nat) (A8 : Option Addr) (c9 : Nat) (A3 : Option Addr) (c4 : Nat) (hs2 : Hp) (h10 : FZ rFleetTask b.w A8 c9 l11) (h5 : OS 3 (OT.fr (RT.int .i64)) b.w (.slice A3 l12.length c4) l12 hs2) (l549 : (List Int)) (hm : mSlicesStableCmpFunc x7 l11 l12 = some l549) :
    CallsG Try.prog 102 [.slice A3 (l12).length c4, .int .i64 (x7), .func (.func 80) #[] #[.pointer (some ⟨g6, 0, none⟩)]] b ((g6, Cl 22 [.slice A8 (l11).length c9]) :: (hs2 ++ R)) (fun v b' hp' => ∃ (hs547 : Hp), .tuple #[] = v ∧ (g6, Cl 22 [.slice A8 (l11).length c9]) :: (hs547 ++ R) = hp' ∧ OS 3 (OT.fr (RT.int .i64)) b'.w (.slice A3 l549.length c4) l549 hs547 ∧ l549.length = l12.length) := by
  refine fn_enterG 63 Try.func102 rfl Try.ntmps102 rfl ?_
  unfold mSlicesStableCmpFunc at hm
  refine c_seq ?_
  refine c_region ?_
  refine t_st rfl (st_assign rfl) ?_
  refine t_nil ?_
  refine x_then_normal ?_
  refine c_seq ?_
  refine c_region ?_
  refine t_st rfl (st_move rfl) ?_
  refine t_st rfl (st_assign rfl) ?_
  refine t_st rfl (st_assign rfl) ?_
  refine t_nil ?_
  refine x_then_normal ?_
  obtain ⟨⟨x600, l601⟩, hj603, hk603⟩ := bindS hm
  refine c_join (fun b595 e' hp' => ∃ (hs598 : Hp), [(0, .slice A3 (l601).length c4), (1, .int .i64 (x7)), (2, .func (.func 80) #[] #[.pointer (some ⟨g6, 0, none⟩)]), (6, .int .i64 (20)), (7, .int .i64 (x600))] = e' ∧ (g6, Cl 22 [.slice A8 (l11).length c9]) :: (hs598 ++ R) = hp' ∧ b.Le b595 ∧ OS 3 (OT.fr (RT.int .i64)) b595.w (.slice A3 l601.length c4) l601 hs598 ∧ l601.length = l12.length) ?_ ?_
  ·
    have hm := hj603
    refine c_block ?_
    refine c_loopM (unc3 fun x635 x636 l637 => fun b630 e' hp' => ∃ (hs633 : Hp), [(0, .slice A3 (l637).length c4), (1, .int .i64 (x7)), (2, .func (.func 80) #[] #[.pointer (some ⟨g6, 0, none⟩)]), (6, .int .i64 (20)), (7, .int .i64 (x635)), (8, .int .i64 (x636))] = e' ∧ (g6, Cl 22 [.slice A8 (l11).length c9]) :: (hs633 ++ R) = hp' ∧ b.Le b630 ∧ OS 3 (OT.fr (RT.int .i64)) b630.w (.slice A3 l637.length c4) l637 hs633 ∧ l637.length = l12.length) hm (e' := [(0, .slice A3 (l12).length c4), (1, .int .i64 (x7)), (2, .func (.func 80) #[] #[.pointer (some ⟨g6, 0, none⟩)]), (6, .int .i64 (20)), (7, .int .i64 (0)), (8, .int .i64 (20))]) (hp' := (g6, Cl 22 [.slice A8 (l11).length c9]) :: (hs2 ++ R)) ⟨rfl, rfl, rfl, rfl, rfl, rfl, trivial⟩ (.cons_cons _ (sub_app hs2 (.refl _))) ⟨hs2, rfl, rfl, (Base.Le.refl _), h5, rfl⟩ ?_
    rintro ⟨x635, x636, l637⟩ b630 _ _ oL604 ⟨hs633, rfl, rfl, hle631, h634, hln638⟩ hstepL604 houtL604
    unfold mSlicesStableCmpFunc_L604 at hstepL604
    have hm := (unc3E hstepL604)
    refine c_seq ?_
    refine c_seq ?_
    refine c_region ?_
    refine t_st rfl (st_move rfl) ?_
    refine t_st rfl (st_move rfl) ?_
    refine t_st rfl (st_leq rfl rfl) ?_
    refine t_nil ?_
    refine x_then_normal ?_
    refine c_cond _ rfl (fun hc639 => ?_) (fun hc639 => ?_)
    ·
      rw [if_pos (of_decide_eq_true hc639)] at hm
      refine c_skip ?_
      refine x_then_normal ?_
      refine c_block ?_
      refine c_seq ?_
      refine c_region ?_
      refine t_st rfl (st_move rfl) ?_
      refine t_st rfl (st_move rfl) ?_
      refine t_st rfl (st_move rfl) ?_
      refine t_st rfl (st_move rfl) ?_
      obtain ⟨l640, hcl641, hm⟩ := bindS hm
      refine t_out1 [_] [] hs633 R rfl ?_
      refine t_callG _ rfl call119 rfl (cSlicesInsertionSortCmpFunc _ _ x635 x636 l11 l637 g6 A8 c9 A3 c4 hs633 (h10.le hle631) h634 l640 hcl641) ?_
      rintro _ b642 _ hle643 ⟨hs644, rfl, rfl, h645, h646⟩
      refine t_in1 [_] [] hs644 R rfl ?_
      refine t_resp 0 rfl (v' := .slice A3 (l640).length c4) (by rw [h646]) ?_
      refine t_nil ?_
      refine x_then_normal ?_
      refine c_seq ?_
      refine c_region ?_
      refine t_st rfl (st_move rfl) ?_
      refine t_st rfl (st_assign rfl) ?_
      refine t_nil ?_
      refine x_then_normal ?_
      refine c_region ?_
      refine t_st rfl (st_move rfl) ?_
      refine t_st rfl (st_move rfl) ?_
      obtain ⟨_, h647, hm⟩ := bindS hm
      have h647 := (chk_some h647).2
      refine t_st rfl (st_add rfl rfl h647) ?_
      refine t_st rfl (st_assign rfl) ?_
      refine t_nil ?_
      refine x_block_normal ?_
      exact x_againM (x636, x636 + 20, l640) (Option.some.inj hm).symm (e' := [(0, .slice A3 (l640).length c4), (1, .int .i64 (x7)), (2, .func (.func 80) #[] #[.pointer (some ⟨g6, 0, none⟩)]), (6, .int .i64 (20)), (7, .int .i64 (x636)), (8, .int .i64 (x636 + 20))]) (hp' := (g6, Cl 22 [.slice A8 (l11).length c9]) :: (hs644 ++ R)) ⟨rfl, rfl, rfl, rfl, rfl, rfl, trivial⟩ (.cons_cons _ (sub_app hs644 (.refl _))) ⟨hs644, rfl, rfl, ((hle631.trans hle643)), h645, (h646.trans hln638)⟩
    ·
      rw [if_neg (of_decide_eq_false hc639)] at hm
      refine c_exit ?_
      refine x_then_exit ?_
      refine x_then_exit ?_
      refine x_block_out ?_
      have hm := congrArg some (houtL604 _ (Option.some.inj hm).symm)
      obtain ⟨rfl, rfl⟩ := some2 hm
      exact x_join (e' := [(0, .slice A3 (l637).length c4), (1, .int .i64 (x7)), (2, .func (.func 80) #[] #[.pointer (some ⟨g6, 0, none⟩)]), (6, .int .i64 (20)), (7, .int .i64 (x635))]) (hp' := (g6, Cl 22 [.slice A8 (l11).length c9]) :: (hs633 ++ R)) ⟨rfl, rfl, rfl, rfl, rfl, trivial⟩ (.cons_cons _ (sub_app hs633 (.refl _))) ⟨hs633, rfl, rfl, hle631, h634, hln638⟩
  ·
    rintro b595 _ _ ⟨hs598, rfl, rfl, hle596, h599, hln602⟩
    have hm := (unc2E hk603)
    refine c_seq ?_
    refine c_region ?_
    refine t_st rfl (st_move rfl) ?_
    refine t_st rfl (st_move rfl) ?_
    refine t_st rfl (st_move rfl) ?_
    refine t_st rfl (st_move rfl) ?_
    obtain ⟨l648, hcl649, hm⟩ := bindS hm
    refine t_out1 [_] [] hs598 R rfl ?_
    refine t_callG _ rfl call119 rfl (cSlicesInsertionSortCmpFunc _ _ x600 x7 l11 l601 g6 A8 c9 A3 c4 hs598 (h10.le hle596) h599 l648 hcl649) ?_
    rintro _ b650 _ hle651 ⟨hs652, rfl, rfl, h653, h654⟩
    refine t_in1 [_] [] hs652 R rfl ?_
    refine t_resp 0 rfl (v' := .slice A3 (l648).length c4) (by rw [h654]) ?_
    refine t_nil ?_
    refine x_then_normal ?_
    refine c_block ?_
    refine c_loopM (unc2 fun x943 l944 => fun b938 e' hp' => ∃ (hs941 : Hp), [(0, .slice A3 (l944).length c4), (1, .int .i64 (x7)), (2, .func (.func 80) #[] #[.pointer (some ⟨g6, 0, none⟩)]), (6, .int .i64 (x943))] = e' ∧ (g6, Cl 22 [.slice A8 (l11).length c9]) :: (hs941 ++ R) = hp' ∧ b650.Le b938 ∧ OS 3 (OT.fr (RT.int .i64)) b938.w (.slice A3 l944.length c4) l944 hs941 ∧ l944.length = l12.length) hm (e' := [(0, .slice A3 (l648).length c4), (1, .int .i64 (x7)), (2, .func (.func 80) #[] #[.pointer (some ⟨g6, 0, none⟩)]), (6, .int .i64 (20))]) (hp' := (g6, Cl 22 [.slice A8 (l11).length c9]) :: (hs652 ++ R)) ⟨rfl, rfl, rfl, rfl, trivial⟩ (.cons_cons _ (sub_app hs652 (.refl _))) ⟨hs652, rfl, rfl, (Base.Le.refl _), h653, (h654.trans hln602)⟩ ?_
    rintro ⟨x943, l944⟩ b938 _ _ oL655 ⟨hs941, rfl, rfl, hle939, h942, hln945⟩ hstepL655 houtL655
    unfold mSlicesStableCmpFunc_L655 at hstepL655
    have hm := (unc2E hstepL655)
    refine c_seq ?_
    refine c_seq ?_
    refine c_region ?_
    refine t_st rfl (st_move rfl) ?_
    refine t_st rfl (st_move rfl) ?_
    refine t_st rfl (st_lss rfl rfl) ?_
    refine t_nil ?_
    refine x_then_normal ?_
    refine c_cond _ rfl (fun hc946 => ?_) (fun hc946 => ?_)
    ·
      rw [if_pos (of_decide_eq_true hc946)] at hm
      refine c_skip ?_
      refine x_then_normal ?_
      refine c_block ?_
      refine c_seq ?_
      refine c_region ?_
      refine t_st rfl (st_move rfl) ?_
      obtain ⟨_, h947, hm⟩ := bindS hm
      have h947 := (chk_some h947).2
      refine t_st rfl (st_mul rfl rfl h947) ?_
      refine t_st rfl (st_assign rfl) ?_
      refine t_st rfl (st_assign rfl) ?_
      refine t_nil ?_
      refine x_then_normal ?_
      obtain ⟨⟨x1003, l1004⟩, hj1006, hk1006⟩ := bindS hm
      refine c_join (fun b998 e' hp' => ∃ (hs1001 : Hp), [(0, .slice A3 (l1004).length c4), (1, .int .i64 (x7)), (2, .func (.func 80) #[] #[.pointer (some ⟨g6, 0, none⟩)]), (6, .int .i64 (x943)), (7, .int .i64 (x1003))] = e' ∧ (g6, Cl 22 [.slice A8 (l11).length c9]) :: (hs1001 ++ R) = hp' ∧ b938.Le b998 ∧ OS 3 (OT.fr (RT.int .i64)) b998.w (.slice A3 l1004.length c4) l1004 hs1001 ∧ l1004.length = l12.length) ?_ ?_
      ·
        have hm := hj1006
        refine c_block ?_
        refine c_loopM (unc3 fun x1042 x1043 l1044 => fun b1037 e' hp' => ∃ (hs1040 : Hp), [(0, .slice A3 (l1044).length c4), (1, .int .i64 (x7)), (2, .func (.func 80) #[] #[.pointer (some ⟨g6, 0, none⟩)]), (6, .int .i64 (x943)), (7, .int .i64 (x1042)), (8, .int .i64 (x1043))] = e' ∧ (g6, Cl 22 [.slice A8 (l11).length c9]) :: (hs1040 ++ R) = hp' ∧ b938.Le b1037 ∧ OS 3 (OT.fr (RT.int .i64)) b1037.w (.slice A3 l1044.length c4) l1044 hs1040 ∧ l1044.length = l12.length) hm (e' := [(0, .slice A3 (l944).length c4), (1, .int .i64 (x7)), (2, .func (.func 80) #[] #[.pointer (some ⟨g6, 0, none⟩)]), (6, .int .i64 (x943)), (7, .int .i64 (0)), (8, .int .i64 (2 * x943))]) (hp' := (g6, Cl 22 [.slice A8 (l11).length c9]) :: (hs941 ++ R)) ⟨rfl, rfl, rfl, rfl, rfl, rfl, trivial⟩ (.cons_cons _ (sub_app hs941 (.refl _))) ⟨hs941, rfl, rfl, (Base.Le.refl _), h942, hln945⟩ ?_
        rintro ⟨x1042, x1043, l1044⟩ b1037 _ _ oL1007 ⟨hs1040, rfl, rfl, hle1038, h1041, hln1045⟩ hstepL1007 houtL1007
        unfold mSlicesStableCmpFunc_L1007 at hstepL1007
        have hm := (unc3E hstepL1007)
        refine c_seq ?_
        refine c_seq ?_
        refine c_region ?_
        refine t_st rfl (st_move rfl) ?_
        refine t_st rfl (st_move rfl) ?_
        refine t_st rfl (st_leq rfl rfl) ?_
        refine t_nil ?_
        refine x_then_normal ?_
        refine c_cond _ rfl (fun hc1046 => ?_) (fun hc1046 => ?_)
        ·
          rw [if_pos (of_decide_eq_true hc1046)] at hm
          refine c_skip ?_
          refine x_then_normal ?_
          refine c_block ?_
          refine c_seq ?_
          refine c_region ?_
          refine t_st rfl (st_move rfl) ?_
          refine t_st rfl (st_move rfl) ?_
          refine t_st rfl (st_move rfl) ?_
          refine t_st rfl (st_move rfl) ?_
          obtain ⟨_, h1047, hm⟩ := bindS hm
          have h1047 := (chk_some h1047).2
          refine t_st rfl (st_add rfl rfl h1047) ?_
          refine t_st rfl (st_move rfl) ?_
          refine t_st rfl (st_move rfl) ?_
          obtain ⟨l1048, hcl1049, hm⟩ := bindS hm
          obtain ⟨Nhcl1049, hcl1049⟩ := lim_some hcl1049
          refine t_out1 [_] [] hs1040 R rfl ?_
          refine t_callG _ rfl call120 rfl (cSlicesSymMergeCmpFunc Nhcl1049 _ _ x1042 (x1042 + x943) x1043 l11 l1044 g6 A8 c9 A3 c4 hs1040 (h10.le (hle596.trans (hle651.trans (hle939.trans hle1038)))) h1041 l1048 hcl1049) ?_
          rintro _ b1050 _ hle1051 ⟨hs1052, rfl, rfl, h1053, h1054⟩
          refine t_in1 [_] [] hs1052 R rfl ?_
          refine t_resp 0 rfl (v' := .slice A3 (l1048).length c4) (by rw [h1054]) ?_
          refine t_nil ?_
          refine x_then_normal ?_
          refine c_seq ?_
          refine c_region ?_
          refine t_st rfl (st_move rfl) ?_
          refine t_st rfl (st_assign rfl) ?_
          refine t_nil ?_
          refine x_then_normal ?_
          refine c_region ?_
          refine t_st rfl (st_move rfl) ?_
          refine t_st rfl (st_move rfl) ?_
          obtain ⟨_, h1055, hm⟩ := bindS hm
          have h1055 := (chk_some h1055).2
          refine t_st rfl (st_mul rfl rfl h1055) ?_
          obtain ⟨_, h1056, hm⟩ := bindS hm
          have h1056 := (chk_some h1056).2
          refine t_st rfl (st_add rfl rfl h1056) ?_
          refine t_st rfl (st_assign rfl) ?_
          refine t_nil ?_
          refine x_block_normal ?_
          exact x_againM (x1043, x1043 + (2 * x943), l1048) (Option.some.inj hm).symm (e' := [(0, .slice A3 (l1048).length c4), (1, .int .i64 (x7)), (2, .func (.func 80) #[] #[.pointer (some ⟨g6, 0, none⟩)]), (6, .int .i64 (x943)), (7, .int .i64 (x1043)), (8, .int .i64 (x1043 + (2 * x943)))]) (hp' := (g6, Cl 22 [.slice A8 (l11).length c9]) :: (hs1052 ++ R)) ⟨rfl, rfl, rfl, rfl, rfl, rfl, trivial⟩ (.cons_cons _ (sub_app hs1052 (.refl _))) ⟨hs1052, rfl, rfl, ((hle1038.trans hle1051)), h1053, (h1054.trans hln1045)⟩
        ·
          rw [if_neg (of_decide_eq_false hc1046)] at hm
          refine c_exit ?_
          refine x_then_exit ?_
          refine x_then_exit ?_
          refine x_block_out ?_
          have hm := congrArg some (houtL1007 _ (Option.some.inj hm).symm)
          obtain ⟨rfl, rfl⟩ := some2 hm
          exact x_join (e' := [(0, .slice A3 (l1044).length c4), (1, .int .i64 (x7)), (2, .func (.func 80) #[] #[.pointer (some ⟨g6, 0, none⟩)]), (6, .int .i64 (x943)), (7, .int .i64 (x1042))]) (hp' := (g6, Cl 22 [.slice A8 (l11).length c9]) :: (hs1040 ++ R)) ⟨rfl, rfl, rfl, rfl, rfl, trivial⟩ (.cons_cons _ (sub_app hs1040 (.refl _))) ⟨hs1040, rfl, rfl, hle1038, h1041, hln1045⟩
      ·
        rintro b998 _ _ ⟨hs1001, rfl, rfl, hle999, h1002, hln1005⟩
        have hm := (unc2E hk1006)
        obtain ⟨l1071, hj1073, hk1073⟩ := bindS hm
        refine c_join (fun b1066 e' hp' => ∃ (hs1069 : Hp), [(0, .slice A3 (l1071).length c4), (1, .int .i64 (x7)), (2, .func (.func 80) #[] #[.pointer (some ⟨g6, 0, none⟩)]), (6, .int .i64 (x943))] = e' ∧ (g6, Cl 22 [.slice A8 (l11).length c9]) :: (hs1069 ++ R) = hp' ∧ b998.Le b1066 ∧ OS 3 (OT.fr (RT.int .i64)) b1066.w (.slice A3 l1071.length c4) l1071 hs1069 ∧ l1071.length = l12.length) ?_ ?_
        ·
          have hm := hj1073
          refine c_seq ?_
          refine c_region ?_
          refine t_st rfl (st_move rfl) ?_
          refine t_st rfl (st_move rfl) ?_
          obtain ⟨_, h1074, hm⟩ := bindS hm
          have h1074 := (chk_some h1074).2
          refine t_st rfl (st_add rfl rfl h1074) ?_
          refine t_st rfl (st_assign rfl) ?_
          refine t_nil ?_
          refine x_then_normal ?_
          refine c_seq ?_
          refine c_region ?_
          refine t_st rfl (st_move rfl) ?_
          refine t_st rfl (st_move rfl) ?_
          refine t_st rfl (st_lss rfl rfl) ?_
          refine t_nil ?_
          refine x_then_normal ?_
          refine c_cond _ rfl (fun hc1075 => ?_) (fun hc1075 => ?_)
          ·
            rw [if_pos (of_decide_eq_true hc1075)] at hm
            refine c_region ?_
            refine t_st rfl (st_move rfl) ?_
            refine t_st rfl (st_move rfl) ?_
            refine t_st rfl (st_move rfl) ?_
            refine t_st rfl (st_move rfl) ?_
            refine t_st rfl (st_move rfl) ?_
            obtain ⟨l1076, hcl1077, hm⟩ := bindS hm
            obtain ⟨Nhcl1077, hcl1077⟩ := lim_some hcl1077
            refine t_out1 [_] [] hs1001 R rfl ?_
            refine t_callG _ rfl call120 rfl (cSlicesSymMergeCmpFunc Nhcl1077 _ _ x1003 (x1003 + x943) x7 l11 l1004 g6 A8 c9 A3 c4 hs1001 (h10.le (hle596.trans (hle651.trans (hle939.trans hle999)))) h1002 l1076 hcl1077) ?_
            rintro _ b1078 _ hle1079 ⟨hs1080, rfl, rfl, h1081, h1082⟩
            refine t_in1 [_] [] hs1080 R rfl ?_
            refine t_resp 0 rfl (v' := .slice A3 (l1076).length c4) (by rw [h1082]) ?_
            refine t_nil ?_
            obtain rfl := some1 hm
            exact x_join (e' := [(0, .slice A3 (l1076).length c4), (1, .int .i64 (x7)), (2, .func (.func 80) #[] #[.pointer (some ⟨g6, 0, none⟩)]), (6, .int .i64 (x943))]) (hp' := (g6, Cl 22 [.slice A8 (l11).length c9]) :: (hs1080 ++ R)) ⟨rfl, rfl, rfl, rfl, trivial⟩ (.cons_cons _ (sub_app hs1080 (.refl _))) ⟨hs1080, rfl, rfl, hle1079, h1081, (h1082.trans hln1005)⟩
          ·
            rw [if_neg (of_decide_eq_false hc1075)] at hm
            refine c_skip ?_
            obtain rfl := some1 hm
            exact x_join (e' := [(0, .slice A3 (l1004).length c4), (1, .int .i64 (x7)), (2, .func (.func 80) #[] #[.pointer (some ⟨g6, 0, none⟩)]), (6, .int .i64 (x943))]) (hp' := (g6, Cl 22 [.slice A8 (l11).length c9]) :: (hs1001 ++ R)) ⟨rfl, rfl, rfl, rfl, trivial⟩ (.cons_cons _ (sub_app hs1001 (.refl _))) ⟨hs1001, rfl, rfl, (Base.Le.refl _), h1002, hln1005⟩
        ·
          rintro b1066 _ _ ⟨hs1069, rfl, rfl, hle1067, h1070, hln1072⟩
          have hm := hk1073
          refine c_region ?_
          refine t_st rfl (st_move rfl) ?_
          obtain ⟨_, h1083, hm⟩ := bindS hm
          have h1083 := (chk_some h1083).2
          refine t_st rfl (st_mul rfl rfl h1083) ?_
          refine t_st rfl (st_assign rfl) ?_
          refine t_nil ?_
          refine x_block_normal ?_
          exact x_againM (x943 * 2, l1071) (Option.some.inj hm).symm (e' := [(0, .slice A3 (l1071).length c4), (1, .int .i64 (x7)), (2, .func (.func 80) #[] #[.pointer (some ⟨g6, 0, none⟩)]), (6, .int .i64 (x943 * 2))]) (hp' := (g6, Cl 22 [.slice A8 (l11).length c9]) :: (hs1069 ++ R)) ⟨rfl, rfl, rfl, rfl, trivial⟩ (.cons_cons _ (sub_app hs1069 (.refl _))) ⟨hs1069, rfl, rfl, ((hle939.trans (hle999.trans hle1067))), h1070, hln1072⟩
    ·
      rw [if_neg (of_decide_eq_false hc946)] at hm
      refine c_exit ?_
      refine x_then_exit ?_
      refine x_then_exit ?_
      refine x_block_out ?_
      have hm := congrArg some (houtL655 _ (Option.some.inj hm).symm)
      obtain rfl := some1 hm
      exact endM (hle596.trans (hle651.trans hle939)) rfl (.cons_cons _ (sub_app hs941 (.refl _))) ⟨hs941, rfl, rfl, h942, hln945⟩

set_option maxRecDepth 20000 in
theorem cSlicesSortStableFunc (b : Base) (R : Hp) (l10 : (List FleetTask)) (l11 : (List Int)) (g6 : Nat) (A7 : Option Addr) (c8 : Nat) (A3 : Option Addr) (c4 : Nat) (hs2 : Hp) (h9 : FZ rFleetTask b.w A7 c8 l10) (h5 : OS 3 (OT.fr (RT.int .i64)) b.w (.slice A3 l11.length c4) l11 hs2) (l22 : (List Int)) (hm : mSlicesSortStableFunc l10 l11 = some l22) :
    CallsG Try.prog 79 [.slice A3 (l11).length c4, .func (.func 80) #[] #[.pointer (some ⟨g6, 0, none⟩)]] b ((g6, Cl 22 [.slice A7 (l10).length c8]) :: (hs2 ++ R)) (fun v b' hp' => ∃ (hs20 : Hp), .tuple #[] = v ∧ (g6, Cl 22 [.slice A7 (l10).length c8]) :: (hs20 ++ R) = hp' ∧ OS 3 (OT.fr (RT.int .i64)) b'.w (.slice A3 l22.length c4) l22 hs20 ∧ l22.length = l11.length) := by
  refine fn_enterG 9 Try.func79 rfl Try.ntmps79 rfl ?_
  unfold mSlicesSortStableFunc at hm
  refine c_region ?_
  refine t_st rfl (st_move rfl) ?_
  refine t_st rfl (st_move rfl) ?_
  refine t_st rfl (st_len rfl sl45) ?_
  refine t_st rfl (st_move rfl) ?_
  obtain ⟨l24, hcl25, hm⟩ := bindS hm
  refine t_out1 [_] [] hs2 R rfl ?_
  refine t_callG _ rfl call102 rfl (cSlicesStableCmpFunc _ _ (l11.length : Int) l10 l11 g6 A7 c8 A3 c4 hs2 h9 h5 l24 hcl25) ?_
  rintro _ b26 _ hle27 ⟨hs28, rfl, rfl, h29, h30⟩
  refine t_in1 [_] [] hs28 R rfl ?_
  refine t_nil ?_
  obtain rfl := some1 hm
  exact endM hle27 rfl (.cons_cons _ (sub_app hs28 (.refl _))) ⟨hs28, rfl, rfl, h29, (h30.trans rfl)⟩

set_option maxRecDepth 20000 in
theorem cFleetOrder (b : Base) (R : Hp) (l4 : (List FleetTask)) (A1 : Option Addr) (c2 : Nat) (h3 : FZ rFleetTask b.w A1 c2 l4) (l95 : (List Int)) (hm : mFleetOrder l4 = some l95) :
    CallsG Try.prog 44 [.slice A1 (l4).length c2] b (R) (fun v b' hp' => ∃ (A92 : Option Addr), ∃ (c93 : Nat), ∃ (hs91 : Hp), .slice A92 (l95).length c93 = v ∧ (hs91 ++ R) = hp' ∧ OS 3 (OT.fr (RT.int .i64)) b'.w (.slice A92 l95.length c93) l95 hs91) := by
  refine fn_enterG 22 Try.func44 rfl Try.ntmps44 rfl ?_
  unfold mFleetOrder at hm
  refine c_seq ?_
  refine c_region ?_
  refine t_do rfl (u_box _ rfl rfl) ?_
  rintro _ _ ⟨g96, rfl, rfl⟩
  refine t_st rfl (st_assign rfl) ?_
  refine t_nil ?_
  refine x_then_normal ?_
  refine c_seq ?_
  refine c_region ?_
  refine t_st rfl (st_load 0 rfl one22 rfl rfl) ?_
  refine t_st rfl (st_len rfl sl22) ?_
  obtain ⟨m97, h98, hm⟩ := bindS hm
  have h98 := mkLen_some h98
  refine t_do rfl (u_mkOS (r := (RT.int .i64)) [_] R [.int .i64 (0)] 0 m97 rfl h98.1 rfl rfl sl45 inf3 rfl rfl rfl (by decide) rfl h98.2.1 h98.2.2) ?_
  rintro _ _ ⟨hs99, rfl, h100⟩
  obtain ⟨A101, c102, rfl, _⟩ := h100.form
  refine t_st rfl (st_assign rfl) ?_
  refine t_nil ?_
  refine x_then_normal ?_
  refine c_seq ?_
  refine c_seq ?_
  refine c_region ?_
  refine t_st rfl (st_move rfl) ?_
  refine t_st rfl (st_len rfl sl45) ?_
  refine t_st rfl (st_move rfl) ?_
  refine t_nil ?_
  refine x_then_normal ?_
  refine c_block ?_
  have hb104 := (OS.len h100)
  obtain ⟨l151, hl154, hk155⟩ := bindS hm
  refine c_forS (fun k153 => fun l151 => fun b146 e' hp' => ∃ (hs149 : Hp), [(1, .pointer (some ⟨g96, 0, none⟩)), (3, .slice A101 (l151).length c102), (9, .int .i64 (((List.replicate m97 (0 : Int)).length : Int))), (10, .int .i64 ((k153 : Int)))] = e' ∧ (g96, Cl 22 [.slice A1 (l4).length c2]) :: (hs149 ++ R) = hp' ∧ b.Le b146 ∧ OS 3 (OT.fr (RT.int .i64)) b146.w (.slice A101 l151.length c102) l151 hs149 ∧ l151.length = m97) hl154 (e' := [(1, .pointer (some ⟨g96, 0, none⟩)), (3, .slice A101 (List.replicate m97 (0 : Int)).length c102), (9, .int .i64 (((List.replicate m97 (0 : Int)).length : Int))), (10, .int .i64 0)]) (hp' := (g96, Cl 22 [.slice A1 (l4).length c2]) :: (hs99 ++ R)) ⟨rfl, rfl, rfl, rfl, trivial⟩ (.cons_cons _ (sub_app hs99 (.refl _))) ⟨hs99, rfl, rfl, (Base.Le.refl _), h100, List.length_replicate⟩ ?_ ?_
  ·
    rintro k153 l151 b146 _ _ oL103 hknL103 ⟨hs149, rfl, rfl, hle147, h150, hln152⟩ hstepL103
    unfold mFleetOrder_L103 at hstepL103
    have hm := hstepL103
    refine c_seq ?_
    refine c_region ?_
    refine t_st rfl (st_lss_t rfl rfl (by omega)) ?_
    refine t_nil ?_
    refine x_then_normal ?_
    refine c_seq ?_
    refine c_cond_t rfl ?_
    refine c_skip ?_
    refine x_then_normal ?_
    refine c_seq ?_
    refine c_block ?_
    refine c_seq ?_
    refine c_region ?_
    refine t_st rfl (st_move rfl) ?_
    refine t_st rfl (st_assign rfl) ?_
    refine t_nil ?_
    refine x_then_normal ?_
    refine c_region ?_
    refine t_st rfl (st_move rfl) ?_
    refine t_st rfl (st_move rfl) ?_
    refine t_st rfl (st_move rfl) ?_
    obtain ⟨x156, h157, hm⟩ := bindS hm
    obtain ⟨j158, hj159, hx160⟩ := idx_some h157
    obtain ⟨cs161, hs166, P167, P168, hq169, hr162, hcs163, hA164, hlt165, hb170, hho171⟩ := OS.get (sz := 1) rfl (by decide) h150 hx160
    obtain ⟨rfl, rfl⟩ := hr162
    refine t_st rfl (st_index_old j158 rfl rfl hj159 hlt165 hA164 sl45) ?_
    refine t_do rfl (u_putOS hj159 (sz := 1) (a' := (k153 : Int)) rfl [_] R 0 1 [.int .i64 ((k153 : Int))] rfl h150 hx160 rfl rfl rfl siz3 rfl (by intro u hu; simp only [List.mem_cons, List.not_mem_nil, or_false] at hu; subst hu; rfl) (fun cs hsj hh => by obtain ⟨rfl, rfl⟩ := hh; exact ⟨by decide, rfl, rfl⟩)) ?_
    rintro _ _ ⟨hs172, rfl, h173⟩
    refine t_resp 3 rfl (v' := .slice A101 (put l151 (k153 : Int) (k153 : Int)).length c102) (by simp only [put_length]) ?_
    refine t_nil ?_
    refine x_block_normal ?_
    refine x_then_normal ?_
    refine c_region ?_
    refine t_st rfl (st_add rfl rfl (by omega)) ?_
    refine t_st rfl (st_move rfl) ?_
    refine t_nil ?_
    obtain rfl := some1 hm
    exact x_againS (e' := [(1, .pointer (some ⟨g96, 0, none⟩)), (3, .slice A101 (put l151 (k153 : Int) (k153 : Int)).length c102), (9, .int .i64 (((List.replicate m97 (0 : Int)).length : Int))), (10, .int .i64 ((k153 : Int) + 1))]) (hp' := (g96, Cl 22 [.slice A1 (l4).length c2]) :: (hs172 ++ R)) ⟨rfl, rfl, rfl, rfl, trivial⟩ (.cons_cons _ (sub_app hs172 (.refl _))) ⟨hs172, rfl, rfl, (hle147), h173, ((put_length _ _ _).trans hln152)⟩
  ·
    rintro b146 _ _ ⟨hs149, rfl, rfl, hle147, h150, hln152⟩
    have hm := hk155
    refine c_seq ?_
    refine c_region ?_
    refine t_st rfl (st_lss_f rfl rfl (by omega)) ?_
    refine t_nil ?_
    refine x_then_normal ?_
    refine c_seq ?_
    refine c_cond_f rfl ?_
    refine c_exit ?_
    refine x_then_exit ?_
    refine x_then_exit ?_
    refine x_block_out ?_
    refine x_then_normal ?_
    refine c_seq ?_
    refine c_region ?_
    refine t_st rfl (st_move rfl) ?_
    refine t_st rfl (st_func _ _ rfl rfl) ?_
    obtain ⟨l174, hcl175, hm⟩ := bindS hm
    refine t_out1 [_] [] hs149 R rfl ?_
    refine t_callG _ rfl call79 rfl (cSlicesSortStableFunc _ _ l4 l151 g96 A1 c2 A101 c102 hs149 (h3.le hle147) h150 l174 hcl175) ?_
    rintro _ b176 _ hle177 ⟨hs178, rfl, rfl, h179, h180⟩
    refine t_in1 [_] [] hs178 R rfl ?_
    refine t_resp 3 rfl (v' := .slice A101 (l174).length c102) (by rw [h180]) ?_
    refine t_nil ?_
    refine x_then_normal ?_
    refine c_seq ?_
    refine c_region ?_
    refine t_st rfl (st_move rfl) ?_
    refine t_st rfl (st_assign rfl) ?_
    refine t_nil ?_
    refine x_then_normal ?_
    refine c_ret ?_
    obtain rfl := some1 hm
    exact retM (rs := [.tmp 2]) [.slice A101 (l174).length c102] (hle147.trans hle177) (by decide) rfl ⟨rfl, trivial⟩ rfl (hp' := (hs178 ++ R)) (.cons _ (sub_app hs178 (.refl _))) ⟨A101, c102, hs178, rfl, rfl, h179⟩

set_option maxRecDepth 20000 in
theorem cFleetFollows (b : Base) (R : Hp) (s1 : FleetTask) (s2 : FleetTask) (x3 : Int) (x14 : Bool) (hm : mFleetFollows s1 s2 x3 = some x14) :
    CallsG Try.prog 45 [.agg #[.int .i64 (s1.From), .int .i64 (s1.To), .int .i64 (s1.Dep), .int .i64 (s1.Arr), .int .i64 (s1.Km), .int .i64 (s1.Units)], .agg #[.int .i64 (s2.From), .int .i64 (s2.To), .int .i64 (s2.Dep), .int .i64 (s2.Arr), .int .i64 (s2.Km), .int .i64 (s2.Units)], .int .i64 (x3)] b (R) (fun v b' hp' => .bool (x14) = v ∧ R = hp') := by
  refine fn_enterG 21 Try.func45 rfl Try.ntmps45 rfl ?_
  unfold mFleetFollows at hm
  refine c_seq ?_
  refine c_region ?_
  refine t_do rfl (u_box _ rfl rfl) ?_
  rintro _ _ ⟨g15, rfl, rfl⟩
  refine t_do rfl (u_box _ rfl rfl) ?_
  rintro _ _ ⟨g16, rfl, rfl⟩
  refine t_st rfl (st_assign rfl) ?_
  refine t_nil ?_
  refine x_then_normal ?_
  obtain ⟨x21, hj22, hk22⟩ := bindS hm
  refine c_join (fun b19 e' hp' => [(6, .bool (x21))] = e' ∧ R = hp' ∧ b.Le b19) ?_ ?_
  ·
    have hm := hj22
    refine c_region ?_
    refine t_st rfl (st_field rfl fld36_0) ?_
    refine t_st rfl (st_load 0 rfl one3 rfl rfl) ?_
    refine t_st rfl (st_field rfl fld36_1) ?_
    refine t_st rfl (st_load 1 rfl one3 rfl rfl) ?_
    refine t_bool rfl (st_eql rfl rfl) (fun hc23 => ?_) (fun hc23 => ?_)
    ·
      rw [if_pos hc23] at hm
      refine t_st rfl (st_move rfl) ?_
      refine t_yes 12 rfl rfl rfl ?_
      refine t_st rfl (st_field rfl fld36_2) ?_
      refine t_yes 12 rfl rfl rfl ?_
      refine t_st rfl (st_load 0 rfl one3 rfl rfl) ?_
      refine t_yes 12 rfl rfl rfl ?_
      refine t_st rfl (st_field rfl fld36_3) ?_
      refine t_yes 12 rfl rfl rfl ?_
      refine t_st rfl (st_load 1 rfl one3 rfl rfl) ?_
      refine t_yes 12 rfl rfl rfl ?_
      refine t_st rfl (st_move rfl) ?_
      refine t_yes 12 rfl rfl rfl ?_
      obtain ⟨_, h24, hm⟩ := bindS hm
      have h24 := (chk_some h24).2
      refine t_st rfl (st_add rfl rfl h24) ?_
      refine t_yes 12 rfl rfl rfl ?_
      refine t_st rfl (st_geq rfl rfl) ?_
      refine t_st rfl (st_pick_t rfl rfl) ?_
      refine t_st rfl (st_assign rfl) ?_
      refine t_nil ?_
      obtain rfl := some1 hm
      exact x_join (e' := [(6, .bool (decide ((s1.Arr + x3) ≤ s2.Dep)))]) (hp' := R) ⟨rfl, trivial⟩ (.cons _ (.cons _ (.refl _))) ⟨rfl, rfl, (Base.Le.refl _)⟩
    ·
      rw [if_neg hc23] at hm
      refine t_st rfl (st_move rfl) ?_
      refine t_no 12 rfl rfl rfl rfl rfl ?_
      refine t_no 12 rfl rfl rfl rfl rfl ?_
      refine t_no 12 rfl rfl rfl rfl rfl ?_
      refine t_no 12 rfl rfl rfl rfl rfl ?_
      refine t_no 12 rfl rfl rfl rfl rfl ?_
      refine t_no 12 rfl rfl rfl rfl rfl ?_
      refine t_no 12 rfl rfl rfl rfl rfl ?_
      refine t_st rfl (st_pick_f rfl rfl) ?_
      refine t_st rfl (st_assign rfl) ?_
      refine t_nil ?_
      obtain rfl := some1 hm
      exact x_join (e' := [(6, .bool (false))]) (hp' := R) ⟨rfl, trivial⟩ (.cons _ (.cons _ (.refl _))) ⟨rfl, rfl, (Base.Le.refl _)⟩
  ·
    rintro b19 _ _ ⟨rfl, rfl, hle20⟩
    have hm := hk22
    refine c_ret ?_
    obtain rfl := some1 hm
    exact retM (rs := [.tmp 6]) [.bool (x21)] hle20 (by decide) rfl ⟨rfl, trivial⟩ rfl (hp' := R) (.refl _) ⟨rfl, rfl⟩

end Go.Proofs.Ytajmocgpjkhjlaa
