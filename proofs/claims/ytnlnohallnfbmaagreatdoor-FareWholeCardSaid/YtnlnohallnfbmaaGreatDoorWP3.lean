/- Contracts: the code computes its model (part 3). -/
import Derived.Test.YtnlnohallnfbmaaGreatDoorWP2
set_option linter.unusedVariables false
set_option linter.unusedSimpArgs false
namespace Go.Proofs.YtnlnohallnfbmaaGreatDoor
open Go.RowKit Go.Fp

set_option maxRecDepth 20000 in
theorem cSlicesSymMergeCmpFunc : ∀ (N : Nat) (b : Base) (R : Hp) (x9 : Int) (x10 : Int) (x11 : Int) (x12 : Int) (l16 : (List Int)) (x17 : Int) (l18 : (List Int)) (g6 : Nat) (g7 : Nat) (g8 : Nat) (A13 : Option Addr) (c14 : Nat) (A3 : Option Addr) (c4 : Nat) (hs2 : Hp) (h15 : FZ (RT.int .i64) b.w A13 c14 l16) (h5 : OS 3 (OT.fr (RT.int .i64)) b.w (.slice A3 l18.length c4) l18 hs2) (l6709 : (List Int)) (hm : mSlicesSymMergeCmpFunc N x9 x10 x11 x12 l16 x17 l18 = some l6709),
    CallsG Tryz.prog 73 [.slice A3 (l18).length c4, .int .i64 (x9), .int .i64 (x10), .int .i64 (x11), .func (.func 33) #[] #[.pointer (some ⟨g6, 0, none⟩), .pointer (some ⟨g7, 0, none⟩), .pointer (some ⟨g8, 0, none⟩)]] b ((g6, Cl 3 [.int .i64 (x12)]) :: (g7, Cl 22 [.slice A13 (l16).length c14]) :: (g8, Cl 3 [.int .i64 (x17)]) :: (hs2 ++ R)) (fun v b' hp' => ∃ (hs6707 : Hp), .tuple #[] = v ∧ (g6, Cl 3 [.int .i64 (x12)]) :: (g7, Cl 22 [.slice A13 (l16).length c14]) :: (g8, Cl 3 [.int .i64 (x17)]) :: (hs6707 ++ R) = hp' ∧ OS 3 (OT.fr (RT.int .i64)) b'.w (.slice A3 l6709.length c4) l6709 hs6707 ∧ l6709.length = l18.length) := by
  intro N
  induction N with
  | zero =>
    intro b R x9 x10 x11 x12 l16 x17 l18 g6 g7 g8 A13 c14 A3 c4 hs2 h15 h5 l6709 hm
    unfold mSlicesSymMergeCmpFunc at hm
    cases hm
  | succ N ih =>
    intro b R x9 x10 x11 x12 l16 x17 l18 g6 g7 g8 A13 c14 A3 c4 hs2 h15 h5 l6709 hm
    refine fn_enterG 220 Tryz.func73 rfl Tryz.ntmps73 rfl ?_
    unfold mSlicesSymMergeCmpFunc at hm
    refine c_seq ?_
    refine c_sr ?_
    refine t_mv rfl rfl ?_
    refine t_mv rfl rfl ?_
    obtain ⟨_, h6711, hm⟩ := bindS hm
    have h6711 := (chk_some h6711).2
    refine t_st rfl (st_sub rfl rfl h6711) ?_
    refine t_st rfl (st_eql rfl rfl) ?_
    refine t_ne ?_
    refine c_cond _ rfl (fun hc6712 => ?_) (fun hc6712 => ?_)
    ·
     rw [if_pos (of_decide_eq_true hc6712)] at hm
     refine c_sr ?_
     refine t_mv rfl rfl ?_
     refine t_as rfl rfl ?_
     refine t_ne ?_
     refine c_sr ?_
     refine t_mv rfl rfl ?_
     refine t_as rfl rfl ?_
     refine t_ne ?_
     obtain ⟨x6953, hj6954, hk6954⟩ := bindS hm
     refine c_join (fun b6951 e' hp' => [(0, .slice A3 (l18).length c4), (1, .int .i64 (x9)), (10, .int .i64 (x6953))] = e' ∧ (g6, Cl 3 [.int .i64 (x12)]) :: (g7, Cl 22 [.slice A13 (l16).length c14]) :: (g8, Cl 3 [.int .i64 (x17)]) :: (hs2 ++ R) = hp' ∧ b.Le b6951) ?_ ?_
     ·
      have hm := hj6954
      refine c_block ?_
      refine c_pullb 2 rfl ?_
      refine c_pullb 2 rfl ?_
      refine c_pullb 2 rfl ?_
      refine c_loopM (unc2 fun x7114 x7115 => fun b7112 e' hp' => [(0, .slice A3 (l18).length c4), (1, .int .i64 (x9)), (4, .func (.func 33) #[] #[.pointer (some ⟨g6, 0, none⟩), .pointer (some ⟨g7, 0, none⟩), .pointer (some ⟨g8, 0, none⟩)]), (10, .int .i64 (x7114)), (11, .int .i64 (x7115))] = e' ∧ (g6, Cl 3 [.int .i64 (x12)]) :: (g7, Cl 22 [.slice A13 (l16).length c14]) :: (g8, Cl 3 [.int .i64 (x17)]) :: (hs2 ++ R) = hp' ∧ b.Le b7112) hm (e' := [(0, .slice A3 (l18).length c4), (1, .int .i64 (x9)), (4, .func (.func 33) #[] #[.pointer (some ⟨g6, 0, none⟩), .pointer (some ⟨g7, 0, none⟩), .pointer (some ⟨g8, 0, none⟩)]), (10, .int .i64 (x10)), (11, .int .i64 (x11))]) ⟨rfl, rfl, rfl, rfl, rfl, trivial⟩ (.refl _) ⟨rfl, rfl, (Base.Le.refl _)⟩ ?_
      rintro ⟨x7114, x7115⟩ b7112 _ _ oL6955 ⟨rfl, rfl, hle7113⟩ hstepL6955 houtL6955
      unfold mSlicesSymMergeCmpFunc_L6955 at hstepL6955
      have hm := (unc2E hstepL6955)
      refine c_seq ?_
      refine c_sr ?_
      refine t_mv rfl rfl ?_
      refine t_mv rfl rfl ?_
      refine t_st rfl (st_lss rfl rfl) ?_
      refine t_ne ?_
      refine c_cond _ rfl (fun hc7116 => ?_) (fun hc7116 => ?_)
      ·
       rw [if_pos (of_decide_eq_true hc7116)] at hm
       refine c_skip ?_
       refine x_then_normal ?_
       refine c_block ?_
       refine c_sr ?_
       refine t_mv rfl rfl ?_
       refine t_mv rfl rfl ?_
       obtain ⟨_, h7117, hm⟩ := bindS hm
       have h7117 := (chk_some h7117).2
       refine t_st rfl (st_add rfl rfl h7117) ?_
       refine t_st rfl (st_conv rfl int3_i64 int101_u64) ?_
       obtain ⟨_, h7118, hm⟩ := bindS hm
       have h7118 := shN_some h7118
       refine t_st rfl (st_shr rfl rfl h7118) ?_
       refine t_st rfl (st_conv rfl int101_u64 int3_i64) ?_
       refine t_as rfl rfl ?_
       refine t_ne ?_
       refine c_seq ?_
       obtain ⟨x7155, h7156, hm⟩ := bindS hm
       obtain ⟨x7171, h7172, hm⟩ := bindS hm
       obtain ⟨x7187, hcl7188, hm⟩ := bindS hm
       refine D_drawI mixed (.cons _ (.cons _ (.cons _ (.refl _)))) ?_
       refine E_st 0 rfl (st_move rfl) ?_
       refine E_st 1 rfl (st_move rfl) ?_
       refine E_st 2 rfl (st_move rfl) ?_
       obtain ⟨j7157, hj7158, hx7159⟩ := idx_some h7156
       obtain ⟨cs7160, hs7165, P7166, P7167, hq7168, hr7161, hcs7162, hA7163, hlt7164, hb7169, hho7170⟩ := OS.get (sz := 1) rfl (by decide) (h5.le hle7113) hx7159
       obtain ⟨rfl, rfl⟩ := hr7161
       refine E_st 3 rfl (st_index_old j7157 rfl rfl hj7158 hlt7164 hA7163 sl22) ?_
       refine E_st 4 rfl (st_load_rd rfl one3 (fun w ho => hcs7162 w _ ho (List.sublist_append_left _ _) 0 _ rfl)) ?_
       refine E_st 5 rfl (st_move rfl) ?_
       refine E_st 6 rfl (st_move rfl) ?_
       obtain ⟨j7173, hj7174, hx7175⟩ := idx_some h7172
       obtain ⟨cs7176, hs7181, P7182, P7183, hq7184, hr7177, hcs7178, hA7179, hlt7180, hb7185, hho7186⟩ := OS.get (sz := 1) rfl (by decide) (h5.le hle7113) hx7175
       obtain ⟨rfl, rfl⟩ := hr7177
       refine E_st 7 rfl (st_index_old j7173 rfl rfl hj7174 hlt7180 hA7179 sl22) ?_
       refine E_st 8 rfl (st_load_rd rfl one3 (fun w ho => hcs7178 w _ ho (List.sublist_append_left _ _) 0 _ rfl)) ?_
       refine E_out ?_
       refine d_pullb 2 rfl ?_
       refine d_pullb 2 rfl ?_
       refine d_pullb 2 rfl ?_
       refine D_all [9] (by kernel_rfl) rfl ?_
       refine R_callvG (Base.Le.refl _) rfl rfl #[] #[.pointer (some ⟨g6, 0, none⟩), .pointer (some ⟨g7, 0, none⟩), .pointer (some ⟨g8, 0, none⟩)] [.int .i64 (x7155), .int .i64 (x7171)] rfl call33 rfl (cFareShares_1 _ _ x7155 x7171 x12 l16 x17 g6 g7 g8 A13 c14 (h15.le hle7113) x7187 hcl7188) ?_ ?_
       ·
        rintro _ b7189 _ hle7190 ⟨rfl, rfl⟩
        refine ⟨.inr (.cons _ (.cons _ (.cons _ (.refl _)))), ?_⟩
        refine D_st hle7190 10 rfl (by kernel_rfl) (by kernel_rfl) (by kernel_rfl) rfl (st_lss rfl rfl) (.cons _ (.cons _ (.cons _ (.refl _)))) ?_
        refine D_done (by kernel_rfl) ?_
        refine x_then_normal ?_
        refine c_cond _ rfl (fun hc7191 => ?_) (fun hc7191 => ?_)
        ·
         rw [if_pos (of_decide_eq_true hc7191)] at hm
         refine c_region ?_
         refine t_mv rfl rfl ?_
         obtain ⟨_, h7192, hm⟩ := bindS hm
         have h7192 := (chk_some h7192).2
         refine t_st rfl (st_add rfl rfl h7192) ?_
         refine t_as rfl rfl ?_
         refine t_nil ?_
         refine x_block_normal ?_
         refine x_pullb 2 rfl ?_
         refine x_pullb 2 rfl ?_
         refine x_pullb 2 rfl ?_
         exact x_againM ((IntKind.wrap .i64 (shrI .u64 (IntKind.wrap .u64 (x7114 + x7115)) 1)) + 1, x7115) (Option.some.inj hm).symm (e' := [(0, .slice A3 (l18).length c4), (1, .int .i64 (x9)), (4, .func (.func 33) #[] #[.pointer (some ⟨g6, 0, none⟩), .pointer (some ⟨g7, 0, none⟩), .pointer (some ⟨g8, 0, none⟩)]), (10, .int .i64 ((IntKind.wrap .i64 (shrI .u64 (IntKind.wrap .u64 (x7114 + x7115)) 1)) + 1)), (11, .int .i64 (x7115))]) ⟨rfl, rfl, rfl, rfl, rfl, trivial⟩ (.refl _) ⟨rfl, rfl, ((hle7113.trans hle7190))⟩
        ·
         rw [if_neg (of_decide_eq_false hc7191)] at hm
         refine c_region ?_
         refine t_mv rfl rfl ?_
         refine t_as rfl rfl ?_
         refine t_nil ?_
         refine x_block_normal ?_
         refine x_pullb 2 rfl ?_
         refine x_pullb 2 rfl ?_
         refine x_pullb 2 rfl ?_
         exact x_againM (x7114, IntKind.wrap .i64 (shrI .u64 (IntKind.wrap .u64 (x7114 + x7115)) 1)) (Option.some.inj hm).symm (e' := [(0, .slice A3 (l18).length c4), (1, .int .i64 (x9)), (4, .func (.func 33) #[] #[.pointer (some ⟨g6, 0, none⟩), .pointer (some ⟨g7, 0, none⟩), .pointer (some ⟨g8, 0, none⟩)]), (10, .int .i64 (x7114)), (11, .int .i64 (IntKind.wrap .i64 (shrI .u64 (IntKind.wrap .u64 (x7114 + x7115)) 1)))]) ⟨rfl, rfl, rfl, rfl, rfl, trivial⟩ (.refl _) ⟨rfl, rfl, ((hle7113.trans hle7190))⟩
       exact R_nil
      ·
       rw [if_neg (of_decide_eq_false hc7116)] at hm
       refine c_exit ?_
       refine x_then_exit ?_
       refine x_then_exit ?_
       refine x_block_out ?_
       have hm := congrArg some (houtL6955 _ (Option.some.inj hm).symm)
       obtain rfl := some1 hm
       refine x_pullb 2 rfl ?_
       refine x_pullb 2 rfl ?_
       refine x_pullb 2 rfl ?_
       exact x_join (e' := [(0, .slice A3 (l18).length c4), (1, .int .i64 (x9)), (10, .int .i64 (x7114))]) ⟨rfl, rfl, rfl, trivial⟩ (.refl _) ⟨rfl, rfl, hle7113⟩
     ·
      rintro b6951 _ _ ⟨rfl, rfl, hle6952⟩
      have hm := hk6954
      obtain ⟨l7645, hj7647, hk7647⟩ := bindS hm
      refine c_join (fun b7640 e' hp' => ∃ (hs7643 : Hp), [] = e' ∧ (g6, Cl 3 [.int .i64 (x12)]) :: (g7, Cl 22 [.slice A13 (l16).length c14]) :: (g8, Cl 3 [.int .i64 (x17)]) :: (hs7643 ++ R) = hp' ∧ b6951.Le b7640 ∧ OS 3 (OT.fr (RT.int .i64)) b7640.w (.slice A3 l7645.length c4) l7645 hs7643 ∧ l7645.length = l18.length) ?_ ?_
      ·
       have hm := hj7647
       refine c_sr ?_
       refine t_mv rfl rfl ?_
       refine t_as rfl rfl ?_
       refine t_ne ?_
       refine c_block ?_
       refine c_pullb 2 rfl ?_
       refine c_pullb 2 rfl ?_
       refine c_pullb 2 rfl ?_
       refine c_loopM (unc2 fun x7948 l7949 => fun b7943 e' hp' => ∃ (hs7946 : Hp), [(0, .slice A3 (l7949).length c4), (10, .int .i64 (x6953)), (13, .int .i64 (x7948))] = e' ∧ (g6, Cl 3 [.int .i64 (x12)]) :: (g7, Cl 22 [.slice A13 (l16).length c14]) :: (g8, Cl 3 [.int .i64 (x17)]) :: (hs7946 ++ R) = hp' ∧ b6951.Le b7943 ∧ OS 3 (OT.fr (RT.int .i64)) b7943.w (.slice A3 l7949.length c4) l7949 hs7946 ∧ l7949.length = l18.length) hm (e' := [(0, .slice A3 (l18).length c4), (10, .int .i64 (x6953)), (13, .int .i64 (x9))]) ⟨rfl, rfl, rfl, trivial⟩ (.refl _) ⟨hs2, rfl, rfl, (Base.Le.refl _), (h5.le hle6952), rfl⟩ ?_
       rintro ⟨x7948, l7949⟩ b7943 _ _ oL7648 ⟨hs7946, rfl, rfl, hle7944, h7947, hln7950⟩ hstepL7648 houtL7648
       unfold mSlicesSymMergeCmpFunc_L7648 at hstepL7648
       have hm := (unc2E hstepL7648)
       refine c_seq ?_
       refine c_sr ?_
       refine t_mv rfl rfl ?_
       refine t_mv rfl rfl ?_
       obtain ⟨_, h7951, hm⟩ := bindS hm
       have h7951 := (chk_some h7951).2
       refine t_st rfl (st_sub rfl rfl h7951) ?_
       refine t_st rfl (st_lss rfl rfl) ?_
       refine t_ne ?_
       refine c_cond _ rfl (fun hc7952 => ?_) (fun hc7952 => ?_)
       ·
        rw [if_pos (of_decide_eq_true hc7952)] at hm
        refine c_skip ?_
        refine x_then_normal ?_
        refine c_seq ?_
        refine c_block ?_
        obtain ⟨_, h8023, hm⟩ := bindS hm
        obtain ⟨_, h8024, hm⟩ := bindS hm
        obtain ⟨x8025, h8026, hm⟩ := bindS hm
        obtain ⟨x8041, h8042, hm⟩ := bindS hm
        obtain ⟨x8057, h8058, hm⟩ := bindS hm
        obtain ⟨x8075, h8076, hm⟩ := bindS hm
        refine D_drawI mixed (.cons_cons _ (.cons_cons _ (.cons_cons _ (sub_skip hs7946 (.refl _))))) ?_
        refine E_st 0 rfl (st_move rfl) ?_
        refine E_st 1 rfl (st_move rfl) ?_
        refine E_st 2 rfl (st_move rfl) ?_
        refine E_st 3 rfl (st_move rfl) ?_
        have h8023 := (chk_some h8023).2
        refine E_st 4 rfl (st_add rfl rfl h8023) ?_
        refine E_st 5 rfl (st_move rfl) ?_
        refine E_st 6 rfl (st_move rfl) ?_
        have h8024 := (chk_some h8024).2
        refine E_st 7 rfl (st_add rfl rfl h8024) ?_
        obtain ⟨j8027, hj8028, hx8029⟩ := idx_some h8026
        obtain ⟨cs8030, hs8035, P8036, P8037, hq8038, hr8031, hcs8032, hA8033, hlt8034, hb8039, hho8040⟩ := OS.get (sz := 1) rfl (by decide) h7947 hx8029
        obtain ⟨rfl, rfl⟩ := hr8031
        refine E_st 8 rfl (st_index_old j8027 rfl rfl hj8028 hlt8034 hA8033 sl22) ?_
        refine E_st 10 rfl (st_move rfl) ?_
        refine E_st 11 rfl (st_move rfl) ?_
        obtain ⟨j8043, hj8044, hx8045⟩ := idx_some h8042
        obtain ⟨cs8046, hs8051, P8052, P8053, hq8054, hr8047, hcs8048, hA8049, hlt8050, hb8055, hho8056⟩ := OS.get (sz := 1) rfl (by decide) h7947 hx8045
        obtain ⟨rfl, rfl⟩ := hr8047
        refine E_st 12 rfl (st_index_old j8043 rfl rfl hj8044 hlt8050 hA8049 sl22) ?_
        refine E_out ?_
        refine D_all [9, 13] (by kernel_rfl) rfl ?_
        refine R_do (Base.Le.refl _) rfl rfl (Stable.does (st_load_rd rfl one3 (fun w ho => hcs8032 w _ ho (.cons _ (.cons _ (.cons _ (List.sublist_append_left _ _)))) 0 _ rfl))) ?_ ?_
        ·
         rintro _ _ ⟨rfl, rfl⟩
         refine ⟨.inr (.cons_cons _ (.cons_cons _ (.cons_cons _ (sub_skip hs7946 (.refl _))))), ?_⟩
         refine D_all [13] (by kernel_rfl) rfl ?_
         refine R_do (Base.Le.refl _) rfl rfl (Stable.does (st_load_rd rfl one3 (fun w ho => hcs8048 w _ ho (.cons _ (.cons _ (.cons _ (List.sublist_append_left _ _)))) 0 _ rfl))) ?_ ?_
         ·
          rintro _ _ ⟨rfl, rfl⟩
          refine ⟨.inr (.cons_cons _ (.cons_cons _ (.cons_cons _ (sub_skip hs7946 (.refl _))))), ?_⟩
          obtain ⟨j8059, hj8060, hx8061⟩ := idx_some h8058
          obtain ⟨cs8062, hs8067, P8068, P8069, hq8070, hr8063, hcs8064, hA8065, hlt8066, hb8071, hho8072⟩ := OS.get (sz := 1) rfl (by decide) h7947 hx8061
          obtain ⟨rfl, rfl⟩ := hr8063
          refine E_in (.cons_cons _ (.cons_cons _ (.cons_cons _ (sub_skip hs7946 (.refl _))))) ?_
          refine E_st 14 rfl (st_index_old j8059 rfl rfl hj8060 hlt8066 hA8065 sl22) ?_
          refine E_out ?_
          refine D_all [15] (by kernel_rfl) rfl ?_
          refine R_do (Base.Le.refl _) rfl rfl (u_putOS hj8060 (sz := 1) (a' := x8025) rfl [_, _, _] R 0 1 [.int .i64 (x8025)] rfl h7947 hx8061 rfl rfl rfl siz3 rfl (mem_c rfl mem_n) (fun cs hsj hh => by obtain ⟨rfl, rfl⟩ := hh; exact ⟨by decide, rfl, rfl⟩)) ?_ ?_
          ·
           rintro _ _ ⟨hs8073, rfl, h8074⟩
           refine ⟨.inr (.cons_cons _ (.cons_cons _ (.cons_cons _ (sub_skip hs8073 (.refl _))))), ?_⟩
           refine d_resp 0 rfl (v' := .slice A3 (put l7949 x7948 x8025).length c4) (by simp only [put_length]) ?_
           refine d_resp 63 rfl (v' := .slice A3 (put l7949 x7948 x8025).length c4) (by simp only [put_length]) ?_
           obtain ⟨j8077, hj8078, hx8079⟩ := idx_some h8076
           obtain ⟨cs8080, hs8085, P8086, P8087, hq8088, hr8081, hcs8082, hA8083, hlt8084, hb8089, hho8090⟩ := OS.get (sz := 1) rfl (by decide) h8074 hx8079
           obtain ⟨rfl, rfl⟩ := hr8081
           refine E_in (.cons_cons _ (.cons_cons _ (.cons_cons _ (sub_skip hs8073 (.refl _))))) ?_
           refine E_st 16 rfl (st_index_old j8077 rfl rfl hj8078 hlt8084 hA8083 sl22) ?_
           refine E_out ?_
           refine D_all [17] (by kernel_rfl) rfl ?_
           refine R_do (Base.Le.refl _) rfl rfl (u_putOS hj8078 (sz := 1) (a' := x8041) rfl [_, _, _] R 0 1 [.int .i64 (x8041)] rfl h8074 hx8079 rfl rfl rfl siz3 rfl (mem_c rfl mem_n) (fun cs hsj hh => by obtain ⟨rfl, rfl⟩ := hh; exact ⟨by decide, rfl, rfl⟩)) ?_ ?_
           ·
            rintro _ _ ⟨hs8091, rfl, h8092⟩
            refine ⟨.inl (by kernel_rfl), ?_⟩
            refine d_resp 0 rfl (v' := .slice A3 (put (put l7949 x7948 x8025) (x7948 + 1) x8041).length c4) (by simp only [put_length]) ?_
            refine D_done (by kernel_rfl) ?_
            refine x_block_normal ?_
            refine x_then_normal ?_
            refine c_region ?_
            refine t_mv rfl rfl ?_
            obtain ⟨_, h8093, hm⟩ := bindS hm
            have h8093 := (chk_some h8093).2
            refine t_st rfl (st_add rfl rfl h8093) ?_
            refine t_as rfl rfl ?_
            refine t_nil ?_
            refine x_pullb 2 rfl ?_
            refine x_pullb 2 rfl ?_
            refine x_pullb 2 rfl ?_
            exact x_againM (x7948 + 1, put (put l7949 x7948 x8025) (x7948 + 1) x8041) (Option.some.inj hm).symm (e' := [(0, .slice A3 (put (put l7949 x7948 x8025) (x7948 + 1) x8041).length c4), (10, .int .i64 (x6953)), (13, .int .i64 (x7948 + 1))]) ⟨rfl, rfl, rfl, trivial⟩ (.refl _) ⟨hs8091, rfl, rfl, (hle7944), h8092, ((put_length _ _ _).trans ((put_length _ _ _).trans hln7950))⟩
           exact R_nil
          exact R_nil
         exact R_nil
        refine R_do (Base.Le.refl _) rfl rfl (Stable.does (st_load_rd rfl one3 (fun w ho => hcs8048 w _ ho (.cons _ (.cons _ (.cons _ (List.sublist_append_left _ _)))) 0 _ rfl))) ?_ ?_
        ·
         rintro _ _ ⟨rfl, rfl⟩
         refine ⟨.inr (.cons_cons _ (.cons_cons _ (.cons_cons _ (sub_skip hs7946 (.refl _))))), ?_⟩
         refine D_all [9] (by kernel_rfl) rfl ?_
         refine R_do (Base.Le.refl _) rfl rfl (Stable.does (st_load_rd rfl one3 (fun w ho => hcs8032 w _ ho (.cons _ (.cons _ (.cons _ (List.sublist_append_left _ _)))) 0 _ rfl))) ?_ ?_
         ·
          rintro _ _ ⟨rfl, rfl⟩
          refine ⟨.inr (.cons_cons _ (.cons_cons _ (.cons_cons _ (sub_skip hs7946 (.refl _))))), ?_⟩
          obtain ⟨j8059, hj8060, hx8061⟩ := idx_some h8058
          obtain ⟨cs8062, hs8067, P8068, P8069, hq8070, hr8063, hcs8064, hA8065, hlt8066, hb8071, hho8072⟩ := OS.get (sz := 1) rfl (by decide) h7947 hx8061
          obtain ⟨rfl, rfl⟩ := hr8063
          refine E_in (.cons_cons _ (.cons_cons _ (.cons_cons _ (sub_skip hs7946 (.refl _))))) ?_
          refine E_st 14 rfl (st_index_old j8059 rfl rfl hj8060 hlt8066 hA8065 sl22) ?_
          refine E_out ?_
          refine D_all [15] (by kernel_rfl) rfl ?_
          refine R_do (Base.Le.refl _) rfl rfl (u_putOS hj8060 (sz := 1) (a' := x8025) rfl [_, _, _] R 0 1 [.int .i64 (x8025)] rfl h7947 hx8061 rfl rfl rfl siz3 rfl (mem_c rfl mem_n) (fun cs hsj hh => by obtain ⟨rfl, rfl⟩ := hh; exact ⟨by decide, rfl, rfl⟩)) ?_ ?_
          ·
           rintro _ _ ⟨hs8073, rfl, h8074⟩
           refine ⟨.inr (.cons_cons _ (.cons_cons _ (.cons_cons _ (sub_skip hs8073 (.refl _))))), ?_⟩
           refine d_resp 0 rfl (v' := .slice A3 (put l7949 x7948 x8025).length c4) (by simp only [put_length]) ?_
           refine d_resp 63 rfl (v' := .slice A3 (put l7949 x7948 x8025).length c4) (by simp only [put_length]) ?_
           obtain ⟨j8077, hj8078, hx8079⟩ := idx_some h8076
           obtain ⟨cs8080, hs8085, P8086, P8087, hq8088, hr8081, hcs8082, hA8083, hlt8084, hb8089, hho8090⟩ := OS.get (sz := 1) rfl (by decide) h8074 hx8079
           obtain ⟨rfl, rfl⟩ := hr8081
           refine E_in (.cons_cons _ (.cons_cons _ (.cons_cons _ (sub_skip hs8073 (.refl _))))) ?_
           refine E_st 16 rfl (st_index_old j8077 rfl rfl hj8078 hlt8084 hA8083 sl22) ?_
           refine E_out ?_
           refine D_all [17] (by kernel_rfl) rfl ?_
           refine R_do (Base.Le.refl _) rfl rfl (u_putOS hj8078 (sz := 1) (a' := x8041) rfl [_, _, _] R 0 1 [.int .i64 (x8041)] rfl h8074 hx8079 rfl rfl rfl siz3 rfl (mem_c rfl mem_n) (fun cs hsj hh => by obtain ⟨rfl, rfl⟩ := hh; exact ⟨by decide, rfl, rfl⟩)) ?_ ?_
           ·
            rintro _ _ ⟨hs8091, rfl, h8092⟩
            refine ⟨.inl (by kernel_rfl), ?_⟩
            refine d_resp 0 rfl (v' := .slice A3 (put (put l7949 x7948 x8025) (x7948 + 1) x8041).length c4) (by simp only [put_length]) ?_
            refine D_done (by kernel_rfl) ?_
            refine x_block_normal ?_
            refine x_then_normal ?_
            refine c_region ?_
            refine t_mv rfl rfl ?_
            obtain ⟨_, h8094, hm⟩ := bindS hm
            have h8094 := (chk_some h8094).2
            refine t_st rfl (st_add rfl rfl h8094) ?_
            refine t_as rfl rfl ?_
            refine t_nil ?_
            refine x_pullb 2 rfl ?_
            refine x_pullb 2 rfl ?_
            refine x_pullb 2 rfl ?_
            exact x_againM (x7948 + 1, put (put l7949 x7948 x8025) (x7948 + 1) x8041) (Option.some.inj hm).symm (e' := [(0, .slice A3 (put (put l7949 x7948 x8025) (x7948 + 1) x8041).length c4), (10, .int .i64 (x6953)), (13, .int .i64 (x7948 + 1))]) ⟨rfl, rfl, rfl, trivial⟩ (.refl _) ⟨hs8091, rfl, rfl, (hle7944), h8092, ((put_length _ _ _).trans ((put_length _ _ _).trans hln7950))⟩
           exact R_nil
          exact R_nil
         exact R_nil
        exact R_nil
       ·
        rw [if_neg (of_decide_eq_false hc7952)] at hm
        refine c_exit ?_
        refine x_then_exit ?_
        refine x_then_exit ?_
        refine x_block_out ?_
        have hm := congrArg some (houtL7648 _ (Option.some.inj hm).symm)
        obtain rfl := some1 hm
        refine x_pullb 2 rfl ?_
        refine x_pullb 2 rfl ?_
        refine x_pullb 2 rfl ?_
        exact x_join (e' := []) trivial (.refl _) ⟨hs7946, rfl, rfl, hle7944, h7947, hln7950⟩
      ·
       rintro b7640 _ _ ⟨hs7643, rfl, rfl, hle7641, h7644, hln7646⟩
       have hm := hk7647
       refine c_ret ?_
       refine x_then_ret ?_
       obtain rfl := some1 hm
       refine x_pullb 2 rfl ?_
       refine x_pullb 2 rfl ?_
       refine x_pullb 2 rfl ?_
       exact retM (rs := []) [] (hle6952.trans hle7641) (by decide) rfl trivial rfl (.refl _) ⟨hs7643, rfl, rfl, h7644, hln7646⟩
    ·
     rw [if_neg (of_decide_eq_false hc6712)] at hm
     refine c_skip ?_
     refine x_then_normal ?_
     refine c_seq ?_
     refine c_sr ?_
     refine t_mv rfl rfl ?_
     refine t_mv rfl rfl ?_
     obtain ⟨_, h8095, hm⟩ := bindS hm
     have h8095 := (chk_some h8095).2
     refine t_st rfl (st_sub rfl rfl h8095) ?_
     refine t_st rfl (st_eql rfl rfl) ?_
     refine t_ne ?_
     refine c_cond _ rfl (fun hc8096 => ?_) (fun hc8096 => ?_)
     ·
      rw [if_pos (of_decide_eq_true hc8096)] at hm
      refine c_sr ?_
      refine t_mv rfl rfl ?_
      refine t_as rfl rfl ?_
      refine t_ne ?_
      refine c_sr ?_
      refine t_mv rfl rfl ?_
      refine t_as rfl rfl ?_
      refine t_ne ?_
      obtain ⟨x8337, hj8338, hk8338⟩ := bindS hm
      refine c_join (fun b8335 e' hp' => [(0, .slice A3 (l18).length c4), (2, .int .i64 (x10)), (14, .int .i64 (x8337))] = e' ∧ (g6, Cl 3 [.int .i64 (x12)]) :: (g7, Cl 22 [.slice A13 (l16).length c14]) :: (g8, Cl 3 [.int .i64 (x17)]) :: (hs2 ++ R) = hp' ∧ b.Le b8335) ?_ ?_
      ·
       have hm := hj8338
       refine c_block ?_
       refine c_pullb 2 rfl ?_
       refine c_pullb 2 rfl ?_
       refine c_pullb 2 rfl ?_
       refine c_loopM (unc2 fun x8498 x8499 => fun b8496 e' hp' => [(0, .slice A3 (l18).length c4), (2, .int .i64 (x10)), (4, .func (.func 33) #[] #[.pointer (some ⟨g6, 0, none⟩), .pointer (some ⟨g7, 0, none⟩), .pointer (some ⟨g8, 0, none⟩)]), (14, .int .i64 (x8498)), (15, .int .i64 (x8499))] = e' ∧ (g6, Cl 3 [.int .i64 (x12)]) :: (g7, Cl 22 [.slice A13 (l16).length c14]) :: (g8, Cl 3 [.int .i64 (x17)]) :: (hs2 ++ R) = hp' ∧ b.Le b8496) hm (e' := [(0, .slice A3 (l18).length c4), (2, .int .i64 (x10)), (4, .func (.func 33) #[] #[.pointer (some ⟨g6, 0, none⟩), .pointer (some ⟨g7, 0, none⟩), .pointer (some ⟨g8, 0, none⟩)]), (14, .int .i64 (x9)), (15, .int .i64 (x10))]) ⟨rfl, rfl, rfl, rfl, rfl, trivial⟩ (.refl _) ⟨rfl, rfl, (Base.Le.refl _)⟩ ?_
       rintro ⟨x8498, x8499⟩ b8496 _ _ oL8339 ⟨rfl, rfl, hle8497⟩ hstepL8339 houtL8339
       unfold mSlicesSymMergeCmpFunc_L8339 at hstepL8339
       have hm := (unc2E hstepL8339)
       refine c_seq ?_
       refine c_sr ?_
       refine t_mv rfl rfl ?_
       refine t_mv rfl rfl ?_
       refine t_st rfl (st_lss rfl rfl) ?_
       refine t_ne ?_
       refine c_cond _ rfl (fun hc8500 => ?_) (fun hc8500 => ?_)
       ·
        rw [if_pos (of_decide_eq_true hc8500)] at hm
        refine c_skip ?_
        refine x_then_normal ?_
        refine c_block ?_
        refine c_sr ?_
        refine t_mv rfl rfl ?_
        refine t_mv rfl rfl ?_
        obtain ⟨_, h8501, hm⟩ := bindS hm
        have h8501 := (chk_some h8501).2
        refine t_st rfl (st_add rfl rfl h8501) ?_
        refine t_st rfl (st_conv rfl int3_i64 int101_u64) ?_
        obtain ⟨_, h8502, hm⟩ := bindS hm
        have h8502 := shN_some h8502
        refine t_st rfl (st_shr rfl rfl h8502) ?_
        refine t_st rfl (st_conv rfl int101_u64 int3_i64) ?_
        refine t_as rfl rfl ?_
        refine t_ne ?_
        refine c_seq ?_
        obtain ⟨x8539, h8540, hm⟩ := bindS hm
        obtain ⟨x8555, h8556, hm⟩ := bindS hm
        obtain ⟨x8571, hcl8572, hm⟩ := bindS hm
        refine D_drawI mixed (.cons _ (.cons _ (.cons _ (.refl _)))) ?_
        refine E_st 0 rfl (st_move rfl) ?_
        refine E_st 1 rfl (st_move rfl) ?_
        refine E_st 2 rfl (st_move rfl) ?_
        obtain ⟨j8541, hj8542, hx8543⟩ := idx_some h8540
        obtain ⟨cs8544, hs8549, P8550, P8551, hq8552, hr8545, hcs8546, hA8547, hlt8548, hb8553, hho8554⟩ := OS.get (sz := 1) rfl (by decide) (h5.le hle8497) hx8543
        obtain ⟨rfl, rfl⟩ := hr8545
        refine E_st 3 rfl (st_index_old j8541 rfl rfl hj8542 hlt8548 hA8547 sl22) ?_
        refine E_st 4 rfl (st_load_rd rfl one3 (fun w ho => hcs8546 w _ ho (List.sublist_append_left _ _) 0 _ rfl)) ?_
        refine E_st 5 rfl (st_move rfl) ?_
        refine E_st 6 rfl (st_move rfl) ?_
        obtain ⟨j8557, hj8558, hx8559⟩ := idx_some h8556
        obtain ⟨cs8560, hs8565, P8566, P8567, hq8568, hr8561, hcs8562, hA8563, hlt8564, hb8569, hho8570⟩ := OS.get (sz := 1) rfl (by decide) (h5.le hle8497) hx8559
        obtain ⟨rfl, rfl⟩ := hr8561
        refine E_st 7 rfl (st_index_old j8557 rfl rfl hj8558 hlt8564 hA8563 sl22) ?_
        refine E_st 8 rfl (st_load_rd rfl one3 (fun w ho => hcs8562 w _ ho (List.sublist_append_left _ _) 0 _ rfl)) ?_
        refine E_out ?_
        refine d_pullb 2 rfl ?_
        refine d_pullb 2 rfl ?_
        refine d_pullb 2 rfl ?_
        refine D_all [9] (by kernel_rfl) rfl ?_
        refine R_callvG (Base.Le.refl _) rfl rfl #[] #[.pointer (some ⟨g6, 0, none⟩), .pointer (some ⟨g7, 0, none⟩), .pointer (some ⟨g8, 0, none⟩)] [.int .i64 (x8539), .int .i64 (x8555)] rfl call33 rfl (cFareShares_1 _ _ x8539 x8555 x12 l16 x17 g6 g7 g8 A13 c14 (h15.le hle8497) x8571 hcl8572) ?_ ?_
        ·
         rintro _ b8573 _ hle8574 ⟨rfl, rfl⟩
         refine ⟨.inr (.cons _ (.cons _ (.cons _ (.refl _)))), ?_⟩
         refine D_st hle8574 10 rfl (by kernel_rfl) (by kernel_rfl) (by kernel_rfl) rfl (st_lss rfl rfl) (.cons _ (.cons _ (.cons _ (.refl _)))) ?_
         refine D_st hle8574 11 rfl (by kernel_rfl) (by kernel_rfl) (by kernel_rfl) rfl (st_not rfl) (.cons _ (.cons _ (.cons _ (.refl _)))) ?_
         refine D_done (by kernel_rfl) ?_
         refine x_then_normal ?_
         refine c_cond _ rfl (fun hc8575 => ?_) (fun hc8575 => ?_)
         ·
          rw [if_neg (of_decide_eq_false (notT hc8575))] at hm
          refine c_region ?_
          refine t_mv rfl rfl ?_
          obtain ⟨_, h8576, hm⟩ := bindS hm
          have h8576 := (chk_some h8576).2
          refine t_st rfl (st_add rfl rfl h8576) ?_
          refine t_as rfl rfl ?_
          refine t_nil ?_
          refine x_block_normal ?_
          refine x_pullb 2 rfl ?_
          refine x_pullb 2 rfl ?_
          refine x_pullb 2 rfl ?_
          exact x_againM ((IntKind.wrap .i64 (shrI .u64 (IntKind.wrap .u64 (x8498 + x8499)) 1)) + 1, x8499) (Option.some.inj hm).symm (e' := [(0, .slice A3 (l18).length c4), (2, .int .i64 (x10)), (4, .func (.func 33) #[] #[.pointer (some ⟨g6, 0, none⟩), .pointer (some ⟨g7, 0, none⟩), .pointer (some ⟨g8, 0, none⟩)]), (14, .int .i64 ((IntKind.wrap .i64 (shrI .u64 (IntKind.wrap .u64 (x8498 + x8499)) 1)) + 1)), (15, .int .i64 (x8499))]) ⟨rfl, rfl, rfl, rfl, rfl, trivial⟩ (.refl _) ⟨rfl, rfl, ((hle8497.trans hle8574))⟩
         ·
          rw [if_pos (of_decide_eq_true (notF hc8575))] at hm
          refine c_region ?_
          refine t_mv rfl rfl ?_
          refine t_as rfl rfl ?_
          refine t_nil ?_
          refine x_block_normal ?_
          refine x_pullb 2 rfl ?_
          refine x_pullb 2 rfl ?_
          refine x_pullb 2 rfl ?_
          exact x_againM (x8498, IntKind.wrap .i64 (shrI .u64 (IntKind.wrap .u64 (x8498 + x8499)) 1)) (Option.some.inj hm).symm (e' := [(0, .slice A3 (l18).length c4), (2, .int .i64 (x10)), (4, .func (.func 33) #[] #[.pointer (some ⟨g6, 0, none⟩), .pointer (some ⟨g7, 0, none⟩), .pointer (some ⟨g8, 0, none⟩)]), (14, .int .i64 (x8498)), (15, .int .i64 (IntKind.wrap .i64 (shrI .u64 (IntKind.wrap .u64 (x8498 + x8499)) 1)))]) ⟨rfl, rfl, rfl, rfl, rfl, trivial⟩ (.refl _) ⟨rfl, rfl, ((hle8497.trans hle8574))⟩
        exact R_nil
       ·
        rw [if_neg (of_decide_eq_false hc8500)] at hm
        refine c_exit ?_
        refine x_then_exit ?_
        refine x_then_exit ?_
        refine x_block_out ?_
        have hm := congrArg some (houtL8339 _ (Option.some.inj hm).symm)
        obtain rfl := some1 hm
        refine x_pullb 2 rfl ?_
        refine x_pullb 2 rfl ?_
        refine x_pullb 2 rfl ?_
        exact x_join (e' := [(0, .slice A3 (l18).length c4), (2, .int .i64 (x10)), (14, .int .i64 (x8498))]) ⟨rfl, rfl, rfl, trivial⟩ (.refl _) ⟨rfl, rfl, hle8497⟩
      ·
       rintro b8335 _ _ ⟨rfl, rfl, hle8336⟩
       have hm := hk8338
       obtain ⟨l9026, hj9028, hk9028⟩ := bindS hm
       refine c_join (fun b9021 e' hp' => ∃ (hs9024 : Hp), [] = e' ∧ (g6, Cl 3 [.int .i64 (x12)]) :: (g7, Cl 22 [.slice A13 (l16).length c14]) :: (g8, Cl 3 [.int .i64 (x17)]) :: (hs9024 ++ R) = hp' ∧ b8335.Le b9021 ∧ OS 3 (OT.fr (RT.int .i64)) b9021.w (.slice A3 l9026.length c4) l9026 hs9024 ∧ l9026.length = l18.length) ?_ ?_
       ·
        have hm := hj9028
        refine c_sr ?_
        refine t_mv rfl rfl ?_
        refine t_as rfl rfl ?_
        refine t_ne ?_
        refine c_block ?_
        refine c_pullb 2 rfl ?_
        refine c_pullb 2 rfl ?_
        refine c_pullb 2 rfl ?_
        refine c_loopM (unc2 fun x9327 l9328 => fun b9322 e' hp' => ∃ (hs9325 : Hp), [(0, .slice A3 (l9328).length c4), (14, .int .i64 (x8337)), (17, .int .i64 (x9327))] = e' ∧ (g6, Cl 3 [.int .i64 (x12)]) :: (g7, Cl 22 [.slice A13 (l16).length c14]) :: (g8, Cl 3 [.int .i64 (x17)]) :: (hs9325 ++ R) = hp' ∧ b8335.Le b9322 ∧ OS 3 (OT.fr (RT.int .i64)) b9322.w (.slice A3 l9328.length c4) l9328 hs9325 ∧ l9328.length = l18.length) hm (e' := [(0, .slice A3 (l18).length c4), (14, .int .i64 (x8337)), (17, .int .i64 (x10))]) ⟨rfl, rfl, rfl, trivial⟩ (.refl _) ⟨hs2, rfl, rfl, (Base.Le.refl _), (h5.le hle8336), rfl⟩ ?_
        rintro ⟨x9327, l9328⟩ b9322 _ _ oL9029 ⟨hs9325, rfl, rfl, hle9323, h9326, hln9329⟩ hstepL9029 houtL9029
        unfold mSlicesSymMergeCmpFunc_L9029 at hstepL9029
        have hm := (unc2E hstepL9029)
        refine c_seq ?_
        refine c_sr ?_
        refine t_mv rfl rfl ?_
        refine t_mv rfl rfl ?_
        refine t_st rfl (st_gtr rfl rfl) ?_
        refine t_ne ?_
        refine c_cond _ rfl (fun hc9330 => ?_) (fun hc9330 => ?_)
        ·
         rw [if_pos (of_decide_eq_true hc9330)] at hm
         refine c_skip ?_
         refine x_then_normal ?_
         refine c_seq ?_
         refine c_block ?_
         obtain ⟨_, h9401, hm⟩ := bindS hm
         obtain ⟨_, h9402, hm⟩ := bindS hm
         obtain ⟨x9403, h9404, hm⟩ := bindS hm
         obtain ⟨x9419, h9420, hm⟩ := bindS hm
         obtain ⟨x9435, h9436, hm⟩ := bindS hm
         obtain ⟨x9453, h9454, hm⟩ := bindS hm
         refine D_drawI mixed (.cons_cons _ (.cons_cons _ (.cons_cons _ (sub_skip hs9325 (.refl _))))) ?_
         refine E_st 0 rfl (st_move rfl) ?_
         refine E_st 1 rfl (st_move rfl) ?_
         refine E_st 2 rfl (st_move rfl) ?_
         refine E_st 3 rfl (st_move rfl) ?_
         have h9401 := (chk_some h9401).2
         refine E_st 4 rfl (st_sub rfl rfl h9401) ?_
         refine E_st 5 rfl (st_move rfl) ?_
         refine E_st 6 rfl (st_move rfl) ?_
         have h9402 := (chk_some h9402).2
         refine E_st 7 rfl (st_sub rfl rfl h9402) ?_
         obtain ⟨j9405, hj9406, hx9407⟩ := idx_some h9404
         obtain ⟨cs9408, hs9413, P9414, P9415, hq9416, hr9409, hcs9410, hA9411, hlt9412, hb9417, hho9418⟩ := OS.get (sz := 1) rfl (by decide) h9326 hx9407
         obtain ⟨rfl, rfl⟩ := hr9409
         refine E_st 8 rfl (st_index_old j9405 rfl rfl hj9406 hlt9412 hA9411 sl22) ?_
         refine E_st 10 rfl (st_move rfl) ?_
         refine E_st 11 rfl (st_move rfl) ?_
         obtain ⟨j9421, hj9422, hx9423⟩ := idx_some h9420
         obtain ⟨cs9424, hs9429, P9430, P9431, hq9432, hr9425, hcs9426, hA9427, hlt9428, hb9433, hho9434⟩ := OS.get (sz := 1) rfl (by decide) h9326 hx9423
         obtain ⟨rfl, rfl⟩ := hr9425
         refine E_st 12 rfl (st_index_old j9421 rfl rfl hj9422 hlt9428 hA9427 sl22) ?_
         refine E_out ?_
         refine D_all [9, 13] (by kernel_rfl) rfl ?_
         refine R_do (Base.Le.refl _) rfl rfl (Stable.does (st_load_rd rfl one3 (fun w ho => hcs9410 w _ ho (.cons _ (.cons _ (.cons _ (List.sublist_append_left _ _)))) 0 _ rfl))) ?_ ?_
         ·
          rintro _ _ ⟨rfl, rfl⟩
          refine ⟨.inr (.cons_cons _ (.cons_cons _ (.cons_cons _ (sub_skip hs9325 (.refl _))))), ?_⟩
          refine D_all [13] (by kernel_rfl) rfl ?_
          refine R_do (Base.Le.refl _) rfl rfl (Stable.does (st_load_rd rfl one3 (fun w ho => hcs9426 w _ ho (.cons _ (.cons _ (.cons _ (List.sublist_append_left _ _)))) 0 _ rfl))) ?_ ?_
          ·
           rintro _ _ ⟨rfl, rfl⟩
           refine ⟨.inr (.cons_cons _ (.cons_cons _ (.cons_cons _ (sub_skip hs9325 (.refl _))))), ?_⟩
           obtain ⟨j9437, hj9438, hx9439⟩ := idx_some h9436
           obtain ⟨cs9440, hs9445, P9446, P9447, hq9448, hr9441, hcs9442, hA9443, hlt9444, hb9449, hho9450⟩ := OS.get (sz := 1) rfl (by decide) h9326 hx9439
           obtain ⟨rfl, rfl⟩ := hr9441
           refine E_in (.cons_cons _ (.cons_cons _ (.cons_cons _ (sub_skip hs9325 (.refl _))))) ?_
           refine E_st 14 rfl (st_index_old j9437 rfl rfl hj9438 hlt9444 hA9443 sl22) ?_
           refine E_out ?_
           refine D_all [15] (by kernel_rfl) rfl ?_
           refine R_do (Base.Le.refl _) rfl rfl (u_putOS hj9438 (sz := 1) (a' := x9403) rfl [_, _, _] R 0 1 [.int .i64 (x9403)] rfl h9326 hx9439 rfl rfl rfl siz3 rfl (mem_c rfl mem_n) (fun cs hsj hh => by obtain ⟨rfl, rfl⟩ := hh; exact ⟨by decide, rfl, rfl⟩)) ?_ ?_
           ·
            rintro _ _ ⟨hs9451, rfl, h9452⟩
            refine ⟨.inr (.cons_cons _ (.cons_cons _ (.cons_cons _ (sub_skip hs9451 (.refl _))))), ?_⟩
            refine d_resp 0 rfl (v' := .slice A3 (put l9328 x9327 x9403).length c4) (by simp only [put_length]) ?_
            refine d_resp 115 rfl (v' := .slice A3 (put l9328 x9327 x9403).length c4) (by simp only [put_length]) ?_
            obtain ⟨j9455, hj9456, hx9457⟩ := idx_some h9454
            obtain ⟨cs9458, hs9463, P9464, P9465, hq9466, hr9459, hcs9460, hA9461, hlt9462, hb9467, hho9468⟩ := OS.get (sz := 1) rfl (by decide) h9452 hx9457
            obtain ⟨rfl, rfl⟩ := hr9459
            refine E_in (.cons_cons _ (.cons_cons _ (.cons_cons _ (sub_skip hs9451 (.refl _))))) ?_
            refine E_st 16 rfl (st_index_old j9455 rfl rfl hj9456 hlt9462 hA9461 sl22) ?_
            refine E_out ?_
            refine D_all [17] (by kernel_rfl) rfl ?_
            refine R_do (Base.Le.refl _) rfl rfl (u_putOS hj9456 (sz := 1) (a' := x9419) rfl [_, _, _] R 0 1 [.int .i64 (x9419)] rfl h9452 hx9457 rfl rfl rfl siz3 rfl (mem_c rfl mem_n) (fun cs hsj hh => by obtain ⟨rfl, rfl⟩ := hh; exact ⟨by decide, rfl, rfl⟩)) ?_ ?_
            ·
             rintro _ _ ⟨hs9469, rfl, h9470⟩
             refine ⟨.inl (by kernel_rfl), ?_⟩
             refine d_resp 0 rfl (v' := .slice A3 (put (put l9328 x9327 x9403) (x9327 - 1) x9419).length c4) (by simp only [put_length]) ?_
             refine D_done (by kernel_rfl) ?_
             refine x_block_normal ?_
             refine x_then_normal ?_
             refine c_region ?_
             refine t_mv rfl rfl ?_
             obtain ⟨_, h9471, hm⟩ := bindS hm
             have h9471 := (chk_some h9471).2
             refine t_st rfl (st_sub rfl rfl h9471) ?_
             refine t_as rfl rfl ?_
             refine t_nil ?_
             refine x_pullb 2 rfl ?_
             refine x_pullb 2 rfl ?_
             refine x_pullb 2 rfl ?_
             exact x_againM (x9327 - 1, put (put l9328 x9327 x9403) (x9327 - 1) x9419) (Option.some.inj hm).symm (e' := [(0, .slice A3 (put (put l9328 x9327 x9403) (x9327 - 1) x9419).length c4), (14, .int .i64 (x8337)), (17, .int .i64 (x9327 - 1))]) ⟨rfl, rfl, rfl, trivial⟩ (.refl _) ⟨hs9469, rfl, rfl, (hle9323), h9470, ((put_length _ _ _).trans ((put_length _ _ _).trans hln9329))⟩
            exact R_nil
           exact R_nil
          exact R_nil
         refine R_do (Base.Le.refl _) rfl rfl (Stable.does (st_load_rd rfl one3 (fun w ho => hcs9426 w _ ho (.cons _ (.cons _ (.cons _ (List.sublist_append_left _ _)))) 0 _ rfl))) ?_ ?_
         ·
          rintro _ _ ⟨rfl, rfl⟩
          refine ⟨.inr (.cons_cons _ (.cons_cons _ (.cons_cons _ (sub_skip hs9325 (.refl _))))), ?_⟩
          refine D_all [9] (by kernel_rfl) rfl ?_
          refine R_do (Base.Le.refl _) rfl rfl (Stable.does (st_load_rd rfl one3 (fun w ho => hcs9410 w _ ho (.cons _ (.cons _ (.cons _ (List.sublist_append_left _ _)))) 0 _ rfl))) ?_ ?_
          ·
           rintro _ _ ⟨rfl, rfl⟩
           refine ⟨.inr (.cons_cons _ (.cons_cons _ (.cons_cons _ (sub_skip hs9325 (.refl _))))), ?_⟩
           obtain ⟨j9437, hj9438, hx9439⟩ := idx_some h9436
           obtain ⟨cs9440, hs9445, P9446, P9447, hq9448, hr9441, hcs9442, hA9443, hlt9444, hb9449, hho9450⟩ := OS.get (sz := 1) rfl (by decide) h9326 hx9439
           obtain ⟨rfl, rfl⟩ := hr9441
           refine E_in (.cons_cons _ (.cons_cons _ (.cons_cons _ (sub_skip hs9325 (.refl _))))) ?_
           refine E_st 14 rfl (st_index_old j9437 rfl rfl hj9438 hlt9444 hA9443 sl22) ?_
           refine E_out ?_
           refine D_all [15] (by kernel_rfl) rfl ?_
           refine R_do (Base.Le.refl _) rfl rfl (u_putOS hj9438 (sz := 1) (a' := x9403) rfl [_, _, _] R 0 1 [.int .i64 (x9403)] rfl h9326 hx9439 rfl rfl rfl siz3 rfl (mem_c rfl mem_n) (fun cs hsj hh => by obtain ⟨rfl, rfl⟩ := hh; exact ⟨by decide, rfl, rfl⟩)) ?_ ?_
           ·
            rintro _ _ ⟨hs9451, rfl, h9452⟩
            refine ⟨.inr (.cons_cons _ (.cons_cons _ (.cons_cons _ (sub_skip hs9451 (.refl _))))), ?_⟩
            refine d_resp 0 rfl (v' := .slice A3 (put l9328 x9327 x9403).length c4) (by simp only [put_length]) ?_
            refine d_resp 115 rfl (v' := .slice A3 (put l9328 x9327 x9403).length c4) (by simp only [put_length]) ?_
            obtain ⟨j9455, hj9456, hx9457⟩ := idx_some h9454
            obtain ⟨cs9458, hs9463, P9464, P9465, hq9466, hr9459, hcs9460, hA9461, hlt9462, hb9467, hho9468⟩ := OS.get (sz := 1) rfl (by decide) h9452 hx9457
            obtain ⟨rfl, rfl⟩ := hr9459
            refine E_in (.cons_cons _ (.cons_cons _ (.cons_cons _ (sub_skip hs9451 (.refl _))))) ?_
            refine E_st 16 rfl (st_index_old j9455 rfl rfl hj9456 hlt9462 hA9461 sl22) ?_
            refine E_out ?_
            refine D_all [17] (by kernel_rfl) rfl ?_
            refine R_do (Base.Le.refl _) rfl rfl (u_putOS hj9456 (sz := 1) (a' := x9419) rfl [_, _, _] R 0 1 [.int .i64 (x9419)] rfl h9452 hx9457 rfl rfl rfl siz3 rfl (mem_c rfl mem_n) (fun cs hsj hh => by obtain ⟨rfl, rfl⟩ := hh; exact ⟨by decide, rfl, rfl⟩)) ?_ ?_
            ·
             rintro _ _ ⟨hs9469, rfl, h9470⟩
             refine ⟨.inl (by kernel_rfl), ?_⟩
             refine d_resp 0 rfl (v' := .slice A3 (put (put l9328 x9327 x9403) (x9327 - 1) x9419).length c4) (by simp only [put_length]) ?_
             refine D_done (by kernel_rfl) ?_
             refine x_block_normal ?_
             refine x_then_normal ?_
             refine c_region ?_
             refine t_mv rfl rfl ?_
             obtain ⟨_, h9472, hm⟩ := bindS hm
             have h9472 := (chk_some h9472).2
             refine t_st rfl (st_sub rfl rfl h9472) ?_
             refine t_as rfl rfl ?_
             refine t_nil ?_
             refine x_pullb 2 rfl ?_
             refine x_pullb 2 rfl ?_
             refine x_pullb 2 rfl ?_
             exact x_againM (x9327 - 1, put (put l9328 x9327 x9403) (x9327 - 1) x9419) (Option.some.inj hm).symm (e' := [(0, .slice A3 (put (put l9328 x9327 x9403) (x9327 - 1) x9419).length c4), (14, .int .i64 (x8337)), (17, .int .i64 (x9327 - 1))]) ⟨rfl, rfl, rfl, trivial⟩ (.refl _) ⟨hs9469, rfl, rfl, (hle9323), h9470, ((put_length _ _ _).trans ((put_length _ _ _).trans hln9329))⟩
            exact R_nil
           exact R_nil
          exact R_nil
         exact R_nil
        ·
         rw [if_neg (of_decide_eq_false hc9330)] at hm
         refine c_exit ?_
         refine x_then_exit ?_
         refine x_then_exit ?_
         refine x_block_out ?_
         have hm := congrArg some (houtL9029 _ (Option.some.inj hm).symm)
         obtain rfl := some1 hm
         refine x_pullb 2 rfl ?_
         refine x_pullb 2 rfl ?_
         refine x_pullb 2 rfl ?_
         exact x_join (e' := []) trivial (.refl _) ⟨hs9325, rfl, rfl, hle9323, h9326, hln9329⟩
       ·
        rintro b9021 _ _ ⟨hs9024, rfl, rfl, hle9022, h9025, hln9027⟩
        have hm := hk9028
        refine c_ret ?_
        refine x_then_ret ?_
        obtain rfl := some1 hm
        refine x_pullb 2 rfl ?_
        refine x_pullb 2 rfl ?_
        refine x_pullb 2 rfl ?_
        exact retM (rs := []) [] (hle8336.trans hle9022) (by decide) rfl trivial rfl (.refl _) ⟨hs9024, rfl, rfl, h9025, hln9027⟩
     ·
      rw [if_neg (of_decide_eq_false hc8096)] at hm
      refine c_skip ?_
      refine x_then_normal ?_
      refine c_sr ?_
      refine t_mv rfl rfl ?_
      refine t_mv rfl rfl ?_
      obtain ⟨_, h9473, hm⟩ := bindS hm
      have h9473 := (chk_some h9473).2
      refine t_st rfl (st_add rfl rfl h9473) ?_
      refine t_st rfl (st_conv rfl int3_i64 int101_u64) ?_
      obtain ⟨_, h9474, hm⟩ := bindS hm
      have h9474 := shN_some h9474
      refine t_st rfl (st_shr rfl rfl h9474) ?_
      refine t_st rfl (st_conv rfl int101_u64 int3_i64) ?_
      refine t_as rfl rfl ?_
      refine t_ne ?_
      refine c_sr ?_
      refine t_mv rfl rfl ?_
      refine t_mv rfl rfl ?_
      obtain ⟨_, h9475, hm⟩ := bindS hm
      have h9475 := (chk_some h9475).2
      refine t_st rfl (st_add rfl rfl h9475) ?_
      refine t_as rfl rfl ?_
      refine t_ne ?_
      refine c_sr ?_
      refine t_as rfl rfl ?_
      refine t_as rfl rfl ?_
      refine t_ne ?_
      obtain ⟨⟨x9480, x9481⟩, hj9482, hk9482⟩ := bindS hm
      refine c_join (fun b9478 e' hp' => [(0, .slice A3 (l18).length c4), (1, .int .i64 (x9)), (2, .int .i64 (x10)), (3, .int .i64 (x11)), (4, .func (.func 33) #[] #[.pointer (some ⟨g6, 0, none⟩), .pointer (some ⟨g7, 0, none⟩), .pointer (some ⟨g8, 0, none⟩)]), (18, .int .i64 (IntKind.wrap .i64 (shrI .u64 (IntKind.wrap .u64 (x9 + x11)) 1))), (19, .int .i64 ((IntKind.wrap .i64 (shrI .u64 (IntKind.wrap .u64 (x9 + x11)) 1)) + x10)), (20, .int .i64 (x9480)), (21, .int .i64 (x9481))] = e' ∧ (g6, Cl 3 [.int .i64 (x12)]) :: (g7, Cl 22 [.slice A13 (l16).length c14]) :: (g8, Cl 3 [.int .i64 (x17)]) :: (hs2 ++ R) = hp' ∧ b.Le b9478) ?_ ?_
      ·
       have hm := hj9482
       refine c_sr ?_
       refine t_mv rfl rfl ?_
       refine t_mv rfl rfl ?_
       refine t_st rfl (st_gtr rfl rfl) ?_
       refine t_ne ?_
       refine c_cond _ rfl (fun hc9483 => ?_) (fun hc9483 => ?_)
       ·
        rw [if_pos (of_decide_eq_true hc9483)] at hm
        refine c_sr ?_
        refine t_mv rfl rfl ?_
        refine t_mv rfl rfl ?_
        obtain ⟨_, h9484, hm⟩ := bindS hm
        have h9484 := (chk_some h9484).2
        refine t_st rfl (st_sub rfl rfl h9484) ?_
        refine t_as rfl rfl ?_
        refine t_ne ?_
        refine c_region ?_
        refine t_mv rfl rfl ?_
        refine t_as rfl rfl ?_
        refine t_nil ?_
        obtain ⟨rfl, rfl⟩ := some2 hm
        refine x_pullb 2 rfl ?_
        refine x_pullb 2 rfl ?_
        refine x_pullb 2 rfl ?_
        exact x_join (e' := [(0, .slice A3 (l18).length c4), (1, .int .i64 (x9)), (2, .int .i64 (x10)), (3, .int .i64 (x11)), (4, .func (.func 33) #[] #[.pointer (some ⟨g6, 0, none⟩), .pointer (some ⟨g7, 0, none⟩), .pointer (some ⟨g8, 0, none⟩)]), (18, .int .i64 (IntKind.wrap .i64 (shrI .u64 (IntKind.wrap .u64 (x9 + x11)) 1))), (19, .int .i64 ((IntKind.wrap .i64 (shrI .u64 (IntKind.wrap .u64 (x9 + x11)) 1)) + x10)), (20, .int .i64 (((IntKind.wrap .i64 (shrI .u64 (IntKind.wrap .u64 (x9 + x11)) 1)) + x10) - x11)), (21, .int .i64 (IntKind.wrap .i64 (shrI .u64 (IntKind.wrap .u64 (x9 + x11)) 1)))]) ⟨rfl, rfl, rfl, rfl, rfl, rfl, rfl, rfl, rfl, trivial⟩ (.refl _) ⟨rfl, rfl, (Base.Le.refl _)⟩
       ·
        rw [if_neg (of_decide_eq_false hc9483)] at hm
        refine c_sr ?_
        refine t_mv rfl rfl ?_
        refine t_as rfl rfl ?_
        refine t_ne ?_
        refine c_region ?_
        refine t_mv rfl rfl ?_
        refine t_as rfl rfl ?_
        refine t_nil ?_
        obtain ⟨rfl, rfl⟩ := some2 hm
        refine x_pullb 2 rfl ?_
        refine x_pullb 2 rfl ?_
        refine x_pullb 2 rfl ?_
        exact x_join (e' := [(0, .slice A3 (l18).length c4), (1, .int .i64 (x9)), (2, .int .i64 (x10)), (3, .int .i64 (x11)), (4, .func (.func 33) #[] #[.pointer (some ⟨g6, 0, none⟩), .pointer (some ⟨g7, 0, none⟩), .pointer (some ⟨g8, 0, none⟩)]), (18, .int .i64 (IntKind.wrap .i64 (shrI .u64 (IntKind.wrap .u64 (x9 + x11)) 1))), (19, .int .i64 ((IntKind.wrap .i64 (shrI .u64 (IntKind.wrap .u64 (x9 + x11)) 1)) + x10)), (20, .int .i64 (x9)), (21, .int .i64 (x10))]) ⟨rfl, rfl, rfl, rfl, rfl, rfl, rfl, rfl, rfl, trivial⟩ (.refl _) ⟨rfl, rfl, (Base.Le.refl _)⟩
      ·
       rintro b9478 _ _ ⟨rfl, rfl, hle9479⟩
       have hm := (unc2E hk9482)
       refine c_sr ?_
       refine t_mv rfl rfl ?_
       obtain ⟨_, h9485, hm⟩ := bindS hm
       have h9485 := (chk_some h9485).2
       refine t_st rfl (st_sub rfl rfl h9485) ?_
       refine t_as rfl rfl ?_
       refine t_ne ?_
       obtain ⟨x9732, hj9733, hk9733⟩ := bindS hm
       refine c_join (fun b9730 e' hp' => [(0, .slice A3 (l18).length c4), (1, .int .i64 (x9)), (2, .int .i64 (x10)), (3, .int .i64 (x11)), (4, .func (.func 33) #[] #[.pointer (some ⟨g6, 0, none⟩), .pointer (some ⟨g7, 0, none⟩), .pointer (some ⟨g8, 0, none⟩)]), (18, .int .i64 (IntKind.wrap .i64 (shrI .u64 (IntKind.wrap .u64 (x9 + x11)) 1))), (19, .int .i64 ((IntKind.wrap .i64 (shrI .u64 (IntKind.wrap .u64 (x9 + x11)) 1)) + x10)), (20, .int .i64 (x9732))] = e' ∧ (g6, Cl 3 [.int .i64 (x12)]) :: (g7, Cl 22 [.slice A13 (l16).length c14]) :: (g8, Cl 3 [.int .i64 (x17)]) :: (hs2 ++ R) = hp' ∧ b9478.Le b9730) ?_ ?_
       ·
        have hm := hj9733
        refine c_block ?_
        refine c_pullb 2 rfl ?_
        refine c_pullb 2 rfl ?_
        refine c_pullb 2 rfl ?_
        refine c_loopM (unc2 fun x9897 x9898 => fun b9895 e' hp' => [(0, .slice A3 (l18).length c4), (1, .int .i64 (x9)), (2, .int .i64 (x10)), (3, .int .i64 (x11)), (4, .func (.func 33) #[] #[.pointer (some ⟨g6, 0, none⟩), .pointer (some ⟨g7, 0, none⟩), .pointer (some ⟨g8, 0, none⟩)]), (18, .int .i64 (IntKind.wrap .i64 (shrI .u64 (IntKind.wrap .u64 (x9 + x11)) 1))), (19, .int .i64 ((IntKind.wrap .i64 (shrI .u64 (IntKind.wrap .u64 (x9 + x11)) 1)) + x10)), (20, .int .i64 (x9897)), (21, .int .i64 (x9898)), (22, .int .i64 (((IntKind.wrap .i64 (shrI .u64 (IntKind.wrap .u64 (x9 + x11)) 1)) + x10) - 1))] = e' ∧ (g6, Cl 3 [.int .i64 (x12)]) :: (g7, Cl 22 [.slice A13 (l16).length c14]) :: (g8, Cl 3 [.int .i64 (x17)]) :: (hs2 ++ R) = hp' ∧ b9478.Le b9895) hm (e' := [(0, .slice A3 (l18).length c4), (1, .int .i64 (x9)), (2, .int .i64 (x10)), (3, .int .i64 (x11)), (4, .func (.func 33) #[] #[.pointer (some ⟨g6, 0, none⟩), .pointer (some ⟨g7, 0, none⟩), .pointer (some ⟨g8, 0, none⟩)]), (18, .int .i64 (IntKind.wrap .i64 (shrI .u64 (IntKind.wrap .u64 (x9 + x11)) 1))), (19, .int .i64 ((IntKind.wrap .i64 (shrI .u64 (IntKind.wrap .u64 (x9 + x11)) 1)) + x10)), (20, .int .i64 (x9480)), (21, .int .i64 (x9481)), (22, .int .i64 (((IntKind.wrap .i64 (shrI .u64 (IntKind.wrap .u64 (x9 + x11)) 1)) + x10) - 1))]) ⟨rfl, rfl, rfl, rfl, rfl, rfl, rfl, rfl, rfl, rfl, trivial⟩ (.refl _) ⟨rfl, rfl, (Base.Le.refl _)⟩ ?_
        rintro ⟨x9897, x9898⟩ b9895 _ _ oL9734 ⟨rfl, rfl, hle9896⟩ hstepL9734 houtL9734
        unfold mSlicesSymMergeCmpFunc_L9734 at hstepL9734
        have hm := (unc2E hstepL9734)
        refine c_seq ?_
        refine c_sr ?_
        refine t_mv rfl rfl ?_
        refine t_mv rfl rfl ?_
        refine t_st rfl (st_lss rfl rfl) ?_
        refine t_ne ?_
        refine c_cond _ rfl (fun hc9899 => ?_) (fun hc9899 => ?_)
        ·
         rw [if_pos (of_decide_eq_true hc9899)] at hm
         refine c_skip ?_
         refine x_then_normal ?_
         refine c_block ?_
         refine c_sr ?_
         refine t_mv rfl rfl ?_
         refine t_mv rfl rfl ?_
         obtain ⟨_, h9900, hm⟩ := bindS hm
         have h9900 := (chk_some h9900).2
         refine t_st rfl (st_add rfl rfl h9900) ?_
         refine t_st rfl (st_conv rfl int3_i64 int101_u64) ?_
         obtain ⟨_, h9901, hm⟩ := bindS hm
         have h9901 := shN_some h9901
         refine t_st rfl (st_shr rfl rfl h9901) ?_
         refine t_st rfl (st_conv rfl int101_u64 int3_i64) ?_
         refine t_as rfl rfl ?_
         refine t_ne ?_
         refine c_seq ?_
         obtain ⟨_, h9939, hm⟩ := bindS hm
         obtain ⟨x9940, h9941, hm⟩ := bindS hm
         obtain ⟨x9956, h9957, hm⟩ := bindS hm
         obtain ⟨x9972, hcl9973, hm⟩ := bindS hm
         refine D_drawI mixed (.cons _ (.cons _ (.cons _ (.refl _)))) ?_
         refine E_st 0 rfl (st_move rfl) ?_
         refine E_st 1 rfl (st_move rfl) ?_
         refine E_st 2 rfl (st_move rfl) ?_
         refine E_st 3 rfl (st_move rfl) ?_
         have h9939 := (chk_some h9939).2
         refine E_st 4 rfl (st_sub rfl rfl h9939) ?_
         obtain ⟨j9942, hj9943, hx9944⟩ := idx_some h9941
         obtain ⟨cs9945, hs9950, P9951, P9952, hq9953, hr9946, hcs9947, hA9948, hlt9949, hb9954, hho9955⟩ := OS.get (sz := 1) rfl (by decide) (h5.le (hle9479.trans hle9896)) hx9944
         obtain ⟨rfl, rfl⟩ := hr9946
         refine E_st 5 rfl (st_index_old j9942 rfl rfl hj9943 hlt9949 hA9948 sl22) ?_
         refine E_st 6 rfl (st_load_rd rfl one3 (fun w ho => hcs9947 w _ ho (List.sublist_append_left _ _) 0 _ rfl)) ?_
         refine E_st 7 rfl (st_move rfl) ?_
         refine E_st 8 rfl (st_move rfl) ?_
         obtain ⟨j9958, hj9959, hx9960⟩ := idx_some h9957
         obtain ⟨cs9961, hs9966, P9967, P9968, hq9969, hr9962, hcs9963, hA9964, hlt9965, hb9970, hho9971⟩ := OS.get (sz := 1) rfl (by decide) (h5.le (hle9479.trans hle9896)) hx9960
         obtain ⟨rfl, rfl⟩ := hr9962
         refine E_st 9 rfl (st_index_old j9958 rfl rfl hj9959 hlt9965 hA9964 sl22) ?_
         refine E_st 10 rfl (st_load_rd rfl one3 (fun w ho => hcs9963 w _ ho (List.sublist_append_left _ _) 0 _ rfl)) ?_
         refine E_out ?_
         refine d_pullb 2 rfl ?_
         refine d_pullb 2 rfl ?_
         refine d_pullb 2 rfl ?_
         refine D_all [11] (by kernel_rfl) rfl ?_
         refine R_callvG (Base.Le.refl _) rfl rfl #[] #[.pointer (some ⟨g6, 0, none⟩), .pointer (some ⟨g7, 0, none⟩), .pointer (some ⟨g8, 0, none⟩)] [.int .i64 (x9940), .int .i64 (x9956)] rfl call33 rfl (cFareShares_1 _ _ x9940 x9956 x12 l16 x17 g6 g7 g8 A13 c14 (h15.le (hle9479.trans hle9896)) x9972 hcl9973) ?_ ?_
         ·
          rintro _ b9974 _ hle9975 ⟨rfl, rfl⟩
          refine ⟨.inr (.cons _ (.cons _ (.cons _ (.refl _)))), ?_⟩
          refine D_st hle9975 12 rfl (by kernel_rfl) (by kernel_rfl) (by kernel_rfl) rfl (st_lss rfl rfl) (.cons _ (.cons _ (.cons _ (.refl _)))) ?_
          refine D_st hle9975 13 rfl (by kernel_rfl) (by kernel_rfl) (by kernel_rfl) rfl (st_not rfl) (.cons _ (.cons _ (.cons _ (.refl _)))) ?_
          refine D_done (by kernel_rfl) ?_
          refine x_then_normal ?_
          refine c_cond _ rfl (fun hc9976 => ?_) (fun hc9976 => ?_)
          ·
           rw [if_neg (of_decide_eq_false (notT hc9976))] at hm
           refine c_region ?_
           refine t_mv rfl rfl ?_
           obtain ⟨_, h9977, hm⟩ := bindS hm
           have h9977 := (chk_some h9977).2
           refine t_st rfl (st_add rfl rfl h9977) ?_
           refine t_as rfl rfl ?_
           refine t_nil ?_
           refine x_block_normal ?_
           refine x_pullb 2 rfl ?_
           refine x_pullb 2 rfl ?_
           refine x_pullb 2 rfl ?_
           exact x_againM ((IntKind.wrap .i64 (shrI .u64 (IntKind.wrap .u64 (x9897 + x9898)) 1)) + 1, x9898) (Option.some.inj hm).symm (e' := [(0, .slice A3 (l18).length c4), (1, .int .i64 (x9)), (2, .int .i64 (x10)), (3, .int .i64 (x11)), (4, .func (.func 33) #[] #[.pointer (some ⟨g6, 0, none⟩), .pointer (some ⟨g7, 0, none⟩), .pointer (some ⟨g8, 0, none⟩)]), (18, .int .i64 (IntKind.wrap .i64 (shrI .u64 (IntKind.wrap .u64 (x9 + x11)) 1))), (19, .int .i64 ((IntKind.wrap .i64 (shrI .u64 (IntKind.wrap .u64 (x9 + x11)) 1)) + x10)), (20, .int .i64 ((IntKind.wrap .i64 (shrI .u64 (IntKind.wrap .u64 (x9897 + x9898)) 1)) + 1)), (21, .int .i64 (x9898)), (22, .int .i64 (((IntKind.wrap .i64 (shrI .u64 (IntKind.wrap .u64 (x9 + x11)) 1)) + x10) - 1))]) ⟨rfl, rfl, rfl, rfl, rfl, rfl, rfl, rfl, rfl, rfl, trivial⟩ (.refl _) ⟨rfl, rfl, ((hle9896.trans hle9975))⟩
          ·
           rw [if_pos (of_decide_eq_true (notF hc9976))] at hm
           refine c_region ?_
           refine t_mv rfl rfl ?_
           refine t_as rfl rfl ?_
           refine t_nil ?_
           refine x_block_normal ?_
           refine x_pullb 2 rfl ?_
           refine x_pullb 2 rfl ?_
           refine x_pullb 2 rfl ?_
           exact x_againM (x9897, IntKind.wrap .i64 (shrI .u64 (IntKind.wrap .u64 (x9897 + x9898)) 1)) (Option.some.inj hm).symm (e' := [(0, .slice A3 (l18).length c4), (1, .int .i64 (x9)), (2, .int .i64 (x10)), (3, .int .i64 (x11)), (4, .func (.func 33) #[] #[.pointer (some ⟨g6, 0, none⟩), .pointer (some ⟨g7, 0, none⟩), .pointer (some ⟨g8, 0, none⟩)]), (18, .int .i64 (IntKind.wrap .i64 (shrI .u64 (IntKind.wrap .u64 (x9 + x11)) 1))), (19, .int .i64 ((IntKind.wrap .i64 (shrI .u64 (IntKind.wrap .u64 (x9 + x11)) 1)) + x10)), (20, .int .i64 (x9897)), (21, .int .i64 (IntKind.wrap .i64 (shrI .u64 (IntKind.wrap .u64 (x9897 + x9898)) 1))), (22, .int .i64 (((IntKind.wrap .i64 (shrI .u64 (IntKind.wrap .u64 (x9 + x11)) 1)) + x10) - 1))]) ⟨rfl, rfl, rfl, rfl, rfl, rfl, rfl, rfl, rfl, rfl, trivial⟩ (.refl _) ⟨rfl, rfl, ((hle9896.trans hle9975))⟩
         exact R_nil
        ·
         rw [if_neg (of_decide_eq_false hc9899)] at hm
         refine c_exit ?_
         refine x_then_exit ?_
         refine x_then_exit ?_
         refine x_block_out ?_
         have hm := congrArg some (houtL9734 _ (Option.some.inj hm).symm)
         obtain rfl := some1 hm
         refine x_pullb 2 rfl ?_
         refine x_pullb 2 rfl ?_
         refine x_pullb 2 rfl ?_
         exact x_join (e' := [(0, .slice A3 (l18).length c4), (1, .int .i64 (x9)), (2, .int .i64 (x10)), (3, .int .i64 (x11)), (4, .func (.func 33) #[] #[.pointer (some ⟨g6, 0, none⟩), .pointer (some ⟨g7, 0, none⟩), .pointer (some ⟨g8, 0, none⟩)]), (18, .int .i64 (IntKind.wrap .i64 (shrI .u64 (IntKind.wrap .u64 (x9 + x11)) 1))), (19, .int .i64 ((IntKind.wrap .i64 (shrI .u64 (IntKind.wrap .u64 (x9 + x11)) 1)) + x10)), (20, .int .i64 (x9897))]) ⟨rfl, rfl, rfl, rfl, rfl, rfl, rfl, rfl, trivial⟩ (.refl _) ⟨rfl, rfl, hle9896⟩
       ·
        rintro b9730 _ _ ⟨rfl, rfl, hle9731⟩
        have hm := hk9733
        refine c_sr ?_
        refine t_mv rfl rfl ?_
        refine t_mv rfl rfl ?_
        obtain ⟨_, h9978, hm⟩ := bindS hm
        have h9978 := (chk_some h9978).2
        refine t_st rfl (st_sub rfl rfl h9978) ?_
        refine t_as rfl rfl ?_
        refine t_ne ?_
        obtain ⟨l9998, hj10000, hk10000⟩ := bindS hm
        refine c_join (fun b9993 e' hp' => ∃ (hs9996 : Hp), [(0, .slice A3 (l9998).length c4), (1, .int .i64 (x9)), (3, .int .i64 (x11)), (4, .func (.func 33) #[] #[.pointer (some ⟨g6, 0, none⟩), .pointer (some ⟨g7, 0, none⟩), .pointer (some ⟨g8, 0, none⟩)]), (18, .int .i64 (IntKind.wrap .i64 (shrI .u64 (IntKind.wrap .u64 (x9 + x11)) 1))), (20, .int .i64 (x9732)), (24, .int .i64 (((IntKind.wrap .i64 (shrI .u64 (IntKind.wrap .u64 (x9 + x11)) 1)) + x10) - x9732))] = e' ∧ (g6, Cl 3 [.int .i64 (x12)]) :: (g7, Cl 22 [.slice A13 (l16).length c14]) :: (g8, Cl 3 [.int .i64 (x17)]) :: (hs9996 ++ R) = hp' ∧ b9730.Le b9993 ∧ OS 3 (OT.fr (RT.int .i64)) b9993.w (.slice A3 l9998.length c4) l9998 hs9996 ∧ l9998.length = l18.length) ?_ ?_
        ·
         have hm := hj10000
         obtain ⟨x10004, hj10005, hk10005⟩ := bindS hm
         refine c_join (fun b10002 e' hp' => [(0, .slice A3 (l18).length c4), (1, .int .i64 (x9)), (2, .int .i64 (x10)), (3, .int .i64 (x11)), (4, .func (.func 33) #[] #[.pointer (some ⟨g6, 0, none⟩), .pointer (some ⟨g7, 0, none⟩), .pointer (some ⟨g8, 0, none⟩)]), (18, .int .i64 (IntKind.wrap .i64 (shrI .u64 (IntKind.wrap .u64 (x9 + x11)) 1))), (20, .int .i64 (x9732)), (24, .int .i64 (((IntKind.wrap .i64 (shrI .u64 (IntKind.wrap .u64 (x9 + x11)) 1)) + x10) - x9732)), (185, .bool (x10004))] = e' ∧ (g6, Cl 3 [.int .i64 (x12)]) :: (g7, Cl 22 [.slice A13 (l16).length c14]) :: (g8, Cl 3 [.int .i64 (x17)]) :: (hs2 ++ R) = hp' ∧ b9730.Le b10002) ?_ ?_
         ·
          have hm := hj10005
          refine c_region ?_
          refine t_mv rfl rfl ?_
          refine t_mv rfl rfl ?_
          refine t_bool rfl (st_lss rfl rfl) (fun hc10006 => ?_) (fun hc10006 => ?_)
          ·
           rw [if_pos hc10006] at hm
           refine t_mv rfl rfl ?_
           refine t_yes 181 rfl rfl rfl ?_
           refine t_mv rfl rfl ?_
           refine t_yes 181 rfl rfl rfl ?_
           refine t_mv rfl rfl ?_
           refine t_yes 181 rfl rfl rfl ?_
           refine t_st rfl (st_lss rfl rfl) ?_
           refine t_st rfl (st_pick_t rfl rfl) ?_
           refine t_nil ?_
           obtain rfl := some1 hm
           refine x_pullb 2 rfl ?_
           refine x_pullb 2 rfl ?_
           refine x_pullb 2 rfl ?_
           exact x_join (e' := [(0, .slice A3 (l18).length c4), (1, .int .i64 (x9)), (2, .int .i64 (x10)), (3, .int .i64 (x11)), (4, .func (.func 33) #[] #[.pointer (some ⟨g6, 0, none⟩), .pointer (some ⟨g7, 0, none⟩), .pointer (some ⟨g8, 0, none⟩)]), (18, .int .i64 (IntKind.wrap .i64 (shrI .u64 (IntKind.wrap .u64 (x9 + x11)) 1))), (20, .int .i64 (x9732)), (24, .int .i64 (((IntKind.wrap .i64 (shrI .u64 (IntKind.wrap .u64 (x9 + x11)) 1)) + x10) - x9732)), (185, .bool (decide (x10 < (((IntKind.wrap .i64 (shrI .u64 (IntKind.wrap .u64 (x9 + x11)) 1)) + x10) - x9732))))]) ⟨rfl, rfl, rfl, rfl, rfl, rfl, rfl, rfl, rfl, trivial⟩ (.refl _) ⟨rfl, rfl, (Base.Le.refl _)⟩
          ·
           rw [if_neg hc10006] at hm
           refine t_mv rfl rfl ?_
           refine t_no 181 rfl rfl rfl rfl rfl ?_
           refine t_no 181 rfl rfl rfl rfl rfl ?_
           refine t_no 181 rfl rfl rfl rfl rfl ?_
           refine t_st rfl (st_pick_f rfl rfl) ?_
           refine t_nil ?_
           obtain rfl := some1 hm
           refine x_pullb 2 rfl ?_
           refine x_pullb 2 rfl ?_
           refine x_pullb 2 rfl ?_
           exact x_join (e' := [(0, .slice A3 (l18).length c4), (1, .int .i64 (x9)), (2, .int .i64 (x10)), (3, .int .i64 (x11)), (4, .func (.func 33) #[] #[.pointer (some ⟨g6, 0, none⟩), .pointer (some ⟨g7, 0, none⟩), .pointer (some ⟨g8, 0, none⟩)]), (18, .int .i64 (IntKind.wrap .i64 (shrI .u64 (IntKind.wrap .u64 (x9 + x11)) 1))), (20, .int .i64 (x9732)), (24, .int .i64 (((IntKind.wrap .i64 (shrI .u64 (IntKind.wrap .u64 (x9 + x11)) 1)) + x10) - x9732)), (185, .bool (false))]) ⟨rfl, rfl, rfl, rfl, rfl, rfl, rfl, rfl, rfl, trivial⟩ (.refl _) ⟨rfl, rfl, (Base.Le.refl _)⟩
         ·
          rintro b10002 _ _ ⟨rfl, rfl, hle10003⟩
          have hm := hk10005
          refine c_cond _ rfl (fun hc10007 => ?_) (fun hc10007 => ?_)
          ·
           rw [if_pos hc10007] at hm
           refine c_region ?_
           refine t_mv rfl rfl ?_
           refine t_mv rfl rfl ?_
           refine t_mv rfl rfl ?_
           refine t_mv rfl rfl ?_
           refine t_mv rfl rfl ?_
           obtain ⟨l10008, hcl10009, hm⟩ := bindS hm
           refine t_pullb 2 rfl ?_
           refine t_pullb 2 rfl ?_
           refine t_pullb 2 rfl ?_
           refine t_out1 [_, _, _] [] hs2 R rfl ?_
           refine t_callG _ rfl call99 rfl (cSlicesRotateCmpFunc _ _ x9732 x10 (((IntKind.wrap .i64 (shrI .u64 (IntKind.wrap .u64 (x9 + x11)) 1)) + x10) - x9732) x12 l16 x17 l18 g6 g7 g8 A13 c14 A3 c4 hs2 (h15.le (hle9479.trans (hle9731.trans hle10003))) (h5.le (hle9479.trans (hle9731.trans hle10003))) l10008 hcl10009) ?_
           rintro _ b10010 _ hle10011 ⟨hs10012, rfl, rfl, h10013, h10014⟩
           refine t_in1 [_, _, _] [] hs10012 R rfl ?_
           refine t_resp 0 rfl (v' := .slice A3 (l10008).length c4) (by rw [h10014]) ?_
           refine t_nil ?_
           obtain rfl := some1 hm
           refine x_pullb 2 rfl ?_
           refine x_pullb 2 rfl ?_
           refine x_pullb 2 rfl ?_
           exact x_join (e' := [(0, .slice A3 (l10008).length c4), (1, .int .i64 (x9)), (3, .int .i64 (x11)), (4, .func (.func 33) #[] #[.pointer (some ⟨g6, 0, none⟩), .pointer (some ⟨g7, 0, none⟩), .pointer (some ⟨g8, 0, none⟩)]), (18, .int .i64 (IntKind.wrap .i64 (shrI .u64 (IntKind.wrap .u64 (x9 + x11)) 1))), (20, .int .i64 (x9732)), (24, .int .i64 (((IntKind.wrap .i64 (shrI .u64 (IntKind.wrap .u64 (x9 + x11)) 1)) + x10) - x9732))]) ⟨rfl, rfl, rfl, rfl, rfl, rfl, rfl, trivial⟩ (.refl _) ⟨hs10012, rfl, rfl, (hle10003.trans hle10011), h10013, (h10014.trans rfl)⟩
          ·
           rw [if_neg (fun hh => Bool.noConfusion (hh.symm.trans hc10007))] at hm
           refine c_skip ?_
           obtain rfl := some1 hm
           refine x_pullb 2 rfl ?_
           refine x_pullb 2 rfl ?_
           refine x_pullb 2 rfl ?_
           exact x_join (e' := [(0, .slice A3 (l18).length c4), (1, .int .i64 (x9)), (3, .int .i64 (x11)), (4, .func (.func 33) #[] #[.pointer (some ⟨g6, 0, none⟩), .pointer (some ⟨g7, 0, none⟩), .pointer (some ⟨g8, 0, none⟩)]), (18, .int .i64 (IntKind.wrap .i64 (shrI .u64 (IntKind.wrap .u64 (x9 + x11)) 1))), (20, .int .i64 (x9732)), (24, .int .i64 (((IntKind.wrap .i64 (shrI .u64 (IntKind.wrap .u64 (x9 + x11)) 1)) + x10) - x9732))]) ⟨rfl, rfl, rfl, rfl, rfl, rfl, rfl, trivial⟩ (.refl _) ⟨hs2, rfl, rfl, hle10003, (h5.le (hle9479.trans (hle9731.trans hle10003))), rfl⟩
        ·
         rintro b9993 _ _ ⟨hs9996, rfl, rfl, hle9994, h9997, hln9999⟩
         have hm := hk10000
         obtain ⟨l10034, hj10036, hk10036⟩ := bindS hm
         refine c_join (fun b10029 e' hp' => ∃ (hs10032 : Hp), [(0, .slice A3 (l10034).length c4), (3, .int .i64 (x11)), (4, .func (.func 33) #[] #[.pointer (some ⟨g6, 0, none⟩), .pointer (some ⟨g7, 0, none⟩), .pointer (some ⟨g8, 0, none⟩)]), (18, .int .i64 (IntKind.wrap .i64 (shrI .u64 (IntKind.wrap .u64 (x9 + x11)) 1))), (24, .int .i64 (((IntKind.wrap .i64 (shrI .u64 (IntKind.wrap .u64 (x9 + x11)) 1)) + x10) - x9732))] = e' ∧ (g6, Cl 3 [.int .i64 (x12)]) :: (g7, Cl 22 [.slice A13 (l16).length c14]) :: (g8, Cl 3 [.int .i64 (x17)]) :: (hs10032 ++ R) = hp' ∧ b9993.Le b10029 ∧ OS 3 (OT.fr (RT.int .i64)) b10029.w (.slice A3 l10034.length c4) l10034 hs10032 ∧ l10034.length = l18.length) ?_ ?_
         ·
          have hm := hj10036
          obtain ⟨x10040, hj10041, hk10041⟩ := bindS hm
          refine c_join (fun b10038 e' hp' => [(0, .slice A3 (l9998).length c4), (1, .int .i64 (x9)), (3, .int .i64 (x11)), (4, .func (.func 33) #[] #[.pointer (some ⟨g6, 0, none⟩), .pointer (some ⟨g7, 0, none⟩), .pointer (some ⟨g8, 0, none⟩)]), (18, .int .i64 (IntKind.wrap .i64 (shrI .u64 (IntKind.wrap .u64 (x9 + x11)) 1))), (20, .int .i64 (x9732)), (24, .int .i64 (((IntKind.wrap .i64 (shrI .u64 (IntKind.wrap .u64 (x9 + x11)) 1)) + x10) - x9732)), (199, .bool (x10040))] = e' ∧ (g6, Cl 3 [.int .i64 (x12)]) :: (g7, Cl 22 [.slice A13 (l16).length c14]) :: (g8, Cl 3 [.int .i64 (x17)]) :: (hs9996 ++ R) = hp' ∧ b9993.Le b10038) ?_ ?_
          ·
           have hm := hj10041
           refine c_region ?_
           refine t_mv rfl rfl ?_
           refine t_mv rfl rfl ?_
           refine t_bool rfl (st_lss rfl rfl) (fun hc10042 => ?_) (fun hc10042 => ?_)
           ·
            rw [if_pos hc10042] at hm
            refine t_mv rfl rfl ?_
            refine t_yes 195 rfl rfl rfl ?_
            refine t_mv rfl rfl ?_
            refine t_yes 195 rfl rfl rfl ?_
            refine t_mv rfl rfl ?_
            refine t_yes 195 rfl rfl rfl ?_
            refine t_st rfl (st_lss rfl rfl) ?_
            refine t_st rfl (st_pick_t rfl rfl) ?_
            refine t_nil ?_
            obtain rfl := some1 hm
            refine x_pullb 2 rfl ?_
            refine x_pullb 2 rfl ?_
            refine x_pullb 2 rfl ?_
            exact x_join (e' := [(0, .slice A3 (l9998).length c4), (1, .int .i64 (x9)), (3, .int .i64 (x11)), (4, .func (.func 33) #[] #[.pointer (some ⟨g6, 0, none⟩), .pointer (some ⟨g7, 0, none⟩), .pointer (some ⟨g8, 0, none⟩)]), (18, .int .i64 (IntKind.wrap .i64 (shrI .u64 (IntKind.wrap .u64 (x9 + x11)) 1))), (20, .int .i64 (x9732)), (24, .int .i64 (((IntKind.wrap .i64 (shrI .u64 (IntKind.wrap .u64 (x9 + x11)) 1)) + x10) - x9732)), (199, .bool (decide (x9732 < (IntKind.wrap .i64 (shrI .u64 (IntKind.wrap .u64 (x9 + x11)) 1)))))]) ⟨rfl, rfl, rfl, rfl, rfl, rfl, rfl, rfl, trivial⟩ (.refl _) ⟨rfl, rfl, (Base.Le.refl _)⟩
           ·
            rw [if_neg hc10042] at hm
            refine t_mv rfl rfl ?_
            refine t_no 195 rfl rfl rfl rfl rfl ?_
            refine t_no 195 rfl rfl rfl rfl rfl ?_
            refine t_no 195 rfl rfl rfl rfl rfl ?_
            refine t_st rfl (st_pick_f rfl rfl) ?_
            refine t_nil ?_
            obtain rfl := some1 hm
            refine x_pullb 2 rfl ?_
            refine x_pullb 2 rfl ?_
            refine x_pullb 2 rfl ?_
            exact x_join (e' := [(0, .slice A3 (l9998).length c4), (1, .int .i64 (x9)), (3, .int .i64 (x11)), (4, .func (.func 33) #[] #[.pointer (some ⟨g6, 0, none⟩), .pointer (some ⟨g7, 0, none⟩), .pointer (some ⟨g8, 0, none⟩)]), (18, .int .i64 (IntKind.wrap .i64 (shrI .u64 (IntKind.wrap .u64 (x9 + x11)) 1))), (20, .int .i64 (x9732)), (24, .int .i64 (((IntKind.wrap .i64 (shrI .u64 (IntKind.wrap .u64 (x9 + x11)) 1)) + x10) - x9732)), (199, .bool (false))]) ⟨rfl, rfl, rfl, rfl, rfl, rfl, rfl, rfl, trivial⟩ (.refl _) ⟨rfl, rfl, (Base.Le.refl _)⟩
          ·
           rintro b10038 _ _ ⟨rfl, rfl, hle10039⟩
           have hm := hk10041
           refine c_cond _ rfl (fun hc10043 => ?_) (fun hc10043 => ?_)
           ·
            rw [if_pos hc10043] at hm
            refine c_region ?_
            refine t_mv rfl rfl ?_
            refine t_mv rfl rfl ?_
            refine t_mv rfl rfl ?_
            refine t_mv rfl rfl ?_
            refine t_mv rfl rfl ?_
            obtain ⟨l10044, hcl10045, hm⟩ := bindS hm
            refine t_pullb 2 rfl ?_
            refine t_pullb 2 rfl ?_
            refine t_pullb 2 rfl ?_
            refine t_out1 [_, _, _] [] hs9996 R rfl ?_
            refine t_callG _ rfl call73 rfl (ih _ _ x9 x9732 (IntKind.wrap .i64 (shrI .u64 (IntKind.wrap .u64 (x9 + x11)) 1)) x12 l16 x17 l9998 g6 g7 g8 A13 c14 A3 c4 hs9996 (h15.le (hle9479.trans (hle9731.trans (hle9994.trans hle10039)))) (h9997.le hle10039) l10044 hcl10045) ?_
            rintro _ b10046 _ hle10047 ⟨hs10048, rfl, rfl, h10049, h10050⟩
            refine t_in1 [_, _, _] [] hs10048 R rfl ?_
            refine t_resp 0 rfl (v' := .slice A3 (l10044).length c4) (by rw [h10050]) ?_
            refine t_nil ?_
            obtain rfl := some1 hm
            refine x_pullb 2 rfl ?_
            refine x_pullb 2 rfl ?_
            refine x_pullb 2 rfl ?_
            exact x_join (e' := [(0, .slice A3 (l10044).length c4), (3, .int .i64 (x11)), (4, .func (.func 33) #[] #[.pointer (some ⟨g6, 0, none⟩), .pointer (some ⟨g7, 0, none⟩), .pointer (some ⟨g8, 0, none⟩)]), (18, .int .i64 (IntKind.wrap .i64 (shrI .u64 (IntKind.wrap .u64 (x9 + x11)) 1))), (24, .int .i64 (((IntKind.wrap .i64 (shrI .u64 (IntKind.wrap .u64 (x9 + x11)) 1)) + x10) - x9732))]) ⟨rfl, rfl, rfl, rfl, rfl, trivial⟩ (.refl _) ⟨hs10048, rfl, rfl, (hle10039.trans hle10047), h10049, (h10050.trans hln9999)⟩
           ·
            rw [if_neg (fun hh => Bool.noConfusion (hh.symm.trans hc10043))] at hm
            refine c_skip ?_
            obtain rfl := some1 hm
            refine x_pullb 2 rfl ?_
            refine x_pullb 2 rfl ?_
            refine x_pullb 2 rfl ?_
            exact x_join (e' := [(0, .slice A3 (l9998).length c4), (3, .int .i64 (x11)), (4, .func (.func 33) #[] #[.pointer (some ⟨g6, 0, none⟩), .pointer (some ⟨g7, 0, none⟩), .pointer (some ⟨g8, 0, none⟩)]), (18, .int .i64 (IntKind.wrap .i64 (shrI .u64 (IntKind.wrap .u64 (x9 + x11)) 1))), (24, .int .i64 (((IntKind.wrap .i64 (shrI .u64 (IntKind.wrap .u64 (x9 + x11)) 1)) + x10) - x9732))]) ⟨rfl, rfl, rfl, rfl, rfl, trivial⟩ (.refl _) ⟨hs9996, rfl, rfl, hle10039, (h9997.le hle10039), hln9999⟩
         ·
          rintro b10029 _ _ ⟨hs10032, rfl, rfl, hle10030, h10033, hln10035⟩
          have hm := hk10036
          obtain ⟨x10054, hj10055, hk10055⟩ := bindS hm
          refine c_join (fun b10052 e' hp' => [(0, .slice A3 (l10034).length c4), (3, .int .i64 (x11)), (4, .func (.func 33) #[] #[.pointer (some ⟨g6, 0, none⟩), .pointer (some ⟨g7, 0, none⟩), .pointer (some ⟨g8, 0, none⟩)]), (18, .int .i64 (IntKind.wrap .i64 (shrI .u64 (IntKind.wrap .u64 (x9 + x11)) 1))), (24, .int .i64 (((IntKind.wrap .i64 (shrI .u64 (IntKind.wrap .u64 (x9 + x11)) 1)) + x10) - x9732)), (213, .bool (x10054))] = e' ∧ (g6, Cl 3 [.int .i64 (x12)]) :: (g7, Cl 22 [.slice A13 (l16).length c14]) :: (g8, Cl 3 [.int .i64 (x17)]) :: (hs10032 ++ R) = hp' ∧ b10029.Le b10052) ?_ ?_
          ·
           have hm := hj10055
           refine c_region ?_
           refine t_mv rfl rfl ?_
           refine t_mv rfl rfl ?_
           refine t_bool rfl (st_lss rfl rfl) (fun hc10056 => ?_) (fun hc10056 => ?_)
           ·
            rw [if_pos hc10056] at hm
            refine t_mv rfl rfl ?_
            refine t_yes 209 rfl rfl rfl ?_
            refine t_mv rfl rfl ?_
            refine t_yes 209 rfl rfl rfl ?_
            refine t_mv rfl rfl ?_
            refine t_yes 209 rfl rfl rfl ?_
            refine t_st rfl (st_lss rfl rfl) ?_
            refine t_st rfl (st_pick_t rfl rfl) ?_
            refine t_nil ?_
            obtain rfl := some1 hm
            refine x_pullb 2 rfl ?_
            refine x_pullb 2 rfl ?_
            refine x_pullb 2 rfl ?_
            exact x_join (e' := [(0, .slice A3 (l10034).length c4), (3, .int .i64 (x11)), (4, .func (.func 33) #[] #[.pointer (some ⟨g6, 0, none⟩), .pointer (some ⟨g7, 0, none⟩), .pointer (some ⟨g8, 0, none⟩)]), (18, .int .i64 (IntKind.wrap .i64 (shrI .u64 (IntKind.wrap .u64 (x9 + x11)) 1))), (24, .int .i64 (((IntKind.wrap .i64 (shrI .u64 (IntKind.wrap .u64 (x9 + x11)) 1)) + x10) - x9732)), (213, .bool (decide ((((IntKind.wrap .i64 (shrI .u64 (IntKind.wrap .u64 (x9 + x11)) 1)) + x10) - x9732) < x11)))]) ⟨rfl, rfl, rfl, rfl, rfl, rfl, trivial⟩ (.refl _) ⟨rfl, rfl, (Base.Le.refl _)⟩
           ·
            rw [if_neg hc10056] at hm
            refine t_mv rfl rfl ?_
            refine t_no 209 rfl rfl rfl rfl rfl ?_
            refine t_no 209 rfl rfl rfl rfl rfl ?_
            refine t_no 209 rfl rfl rfl rfl rfl ?_
            refine t_st rfl (st_pick_f rfl rfl) ?_
            refine t_nil ?_
            obtain rfl := some1 hm
            refine x_pullb 2 rfl ?_
            refine x_pullb 2 rfl ?_
            refine x_pullb 2 rfl ?_
            exact x_join (e' := [(0, .slice A3 (l10034).length c4), (3, .int .i64 (x11)), (4, .func (.func 33) #[] #[.pointer (some ⟨g6, 0, none⟩), .pointer (some ⟨g7, 0, none⟩), .pointer (some ⟨g8, 0, none⟩)]), (18, .int .i64 (IntKind.wrap .i64 (shrI .u64 (IntKind.wrap .u64 (x9 + x11)) 1))), (24, .int .i64 (((IntKind.wrap .i64 (shrI .u64 (IntKind.wrap .u64 (x9 + x11)) 1)) + x10) - x9732)), (213, .bool (false))]) ⟨rfl, rfl, rfl, rfl, rfl, rfl, trivial⟩ (.refl _) ⟨rfl, rfl, (Base.Le.refl _)⟩
          ·
           rintro b10052 _ _ ⟨rfl, rfl, hle10053⟩
           have hm := hk10055
           refine c_cond _ rfl (fun hc10057 => ?_) (fun hc10057 => ?_)
           ·
            rw [if_pos hc10057] at hm
            refine c_region ?_
            refine t_mv rfl rfl ?_
            refine t_mv rfl rfl ?_
            refine t_mv rfl rfl ?_
            refine t_mv rfl rfl ?_
            refine t_mv rfl rfl ?_
            obtain ⟨l10058, hcl10059, hm⟩ := bindS hm
            refine t_pullb 2 rfl ?_
            refine t_pullb 2 rfl ?_
            refine t_pullb 2 rfl ?_
            refine t_out1 [_, _, _] [] hs10032 R rfl ?_
            refine t_callG _ rfl call73 rfl (ih _ _ (IntKind.wrap .i64 (shrI .u64 (IntKind.wrap .u64 (x9 + x11)) 1)) (((IntKind.wrap .i64 (shrI .u64 (IntKind.wrap .u64 (x9 + x11)) 1)) + x10) - x9732) x11 x12 l16 x17 l10034 g6 g7 g8 A13 c14 A3 c4 hs10032 (h15.le (hle9479.trans (hle9731.trans (hle9994.trans (hle10030.trans hle10053))))) (h10033.le hle10053) l10058 hcl10059) ?_
            rintro _ b10060 _ hle10061 ⟨hs10062, rfl, rfl, h10063, h10064⟩
            refine t_in1 [_, _, _] [] hs10062 R rfl ?_
            refine t_nil ?_
            obtain rfl := some1 hm
            refine x_pullb 2 rfl ?_
            refine x_pullb 2 rfl ?_
            refine x_pullb 2 rfl ?_
            exact endM (hle9479.trans (hle9731.trans (hle9994.trans (hle10030.trans (hle10053.trans hle10061))))) rfl (.refl _) ⟨hs10062, rfl, rfl, h10063, (h10064.trans hln10035)⟩
           ·
            rw [if_neg (fun hh => Bool.noConfusion (hh.symm.trans hc10057))] at hm
            refine c_skip ?_
            obtain rfl := some1 hm
            refine x_pullb 2 rfl ?_
            refine x_pullb 2 rfl ?_
            refine x_pullb 2 rfl ?_
            have he10065 := (h10033.le hle10053)
            exact endM (hle9479.trans (hle9731.trans (hle9994.trans (hle10030.trans hle10053)))) rfl (.refl _) ⟨hs10032, rfl, rfl, he10065, hln10035⟩

set_option maxRecDepth 20000 in
theorem cSlicesStableCmpFunc (b : Base) (R : Hp) (x9 : Int) (x10 : Int) (l14 : (List Int)) (x15 : Int) (l16 : (List Int)) (g6 : Nat) (g7 : Nat) (g8 : Nat) (A11 : Option Addr) (c12 : Nat) (A3 : Option Addr) (c4 : Nat) (hs2 : Hp) (h13 : FZ (RT.int .i64) b.w A11 c12 l14) (h5 : OS 3 (OT.fr (RT.int .i64)) b.w (.slice A3 l16.length c4) l16 hs2) (l553 : (List Int)) (hm : mSlicesStableCmpFunc x9 x10 l14 x15 l16 = some l553) :
    CallsG Tryz.prog 54 [.slice A3 (l16).length c4, .int .i64 (x9), .func (.func 33) #[] #[.pointer (some ⟨g6, 0, none⟩), .pointer (some ⟨g7, 0, none⟩), .pointer (some ⟨g8, 0, none⟩)]] b ((g6, Cl 3 [.int .i64 (x10)]) :: (g7, Cl 22 [.slice A11 (l14).length c12]) :: (g8, Cl 3 [.int .i64 (x15)]) :: (hs2 ++ R)) (fun v b' hp' => ∃ (hs551 : Hp), .tuple #[] = v ∧ (g6, Cl 3 [.int .i64 (x10)]) :: (g7, Cl 22 [.slice A11 (l14).length c12]) :: (g8, Cl 3 [.int .i64 (x15)]) :: (hs551 ++ R) = hp' ∧ OS 3 (OT.fr (RT.int .i64)) b'.w (.slice A3 l553.length c4) l553 hs551 ∧ l553.length = l16.length) := by
  refine fn_enterG 63 Tryz.func54 rfl Tryz.ntmps54 rfl ?_
  unfold mSlicesStableCmpFunc at hm
  refine c_sr ?_
  refine t_as rfl rfl ?_
  refine t_ne ?_
  refine c_sr ?_
  refine t_mv rfl rfl ?_
  refine t_as rfl rfl ?_
  refine t_as rfl rfl ?_
  refine t_ne ?_
  obtain ⟨⟨x604, l605⟩, hj607, hk607⟩ := bindS hm
  refine c_join (fun b599 e' hp' => ∃ (hs602 : Hp), [(0, .slice A3 (l605).length c4), (1, .int .i64 (x9)), (2, .func (.func 33) #[] #[.pointer (some ⟨g6, 0, none⟩), .pointer (some ⟨g7, 0, none⟩), .pointer (some ⟨g8, 0, none⟩)]), (6, .int .i64 (20)), (7, .int .i64 (x604))] = e' ∧ (g6, Cl 3 [.int .i64 (x10)]) :: (g7, Cl 22 [.slice A11 (l14).length c12]) :: (g8, Cl 3 [.int .i64 (x15)]) :: (hs602 ++ R) = hp' ∧ b.Le b599 ∧ OS 3 (OT.fr (RT.int .i64)) b599.w (.slice A3 l605.length c4) l605 hs602 ∧ l605.length = l16.length) ?_ ?_
  ·
   have hm := hj607
   refine c_block ?_
   refine c_pullb 2 rfl ?_
   refine c_pullb 2 rfl ?_
   refine c_pullb 2 rfl ?_
   refine c_loopM (unc3 fun x639 x640 l641 => fun b634 e' hp' => ∃ (hs637 : Hp), [(0, .slice A3 (l641).length c4), (1, .int .i64 (x9)), (2, .func (.func 33) #[] #[.pointer (some ⟨g6, 0, none⟩), .pointer (some ⟨g7, 0, none⟩), .pointer (some ⟨g8, 0, none⟩)]), (6, .int .i64 (20)), (7, .int .i64 (x639)), (8, .int .i64 (x640))] = e' ∧ (g6, Cl 3 [.int .i64 (x10)]) :: (g7, Cl 22 [.slice A11 (l14).length c12]) :: (g8, Cl 3 [.int .i64 (x15)]) :: (hs637 ++ R) = hp' ∧ b.Le b634 ∧ OS 3 (OT.fr (RT.int .i64)) b634.w (.slice A3 l641.length c4) l641 hs637 ∧ l641.length = l16.length) hm (e' := [(0, .slice A3 (l16).length c4), (1, .int .i64 (x9)), (2, .func (.func 33) #[] #[.pointer (some ⟨g6, 0, none⟩), .pointer (some ⟨g7, 0, none⟩), .pointer (some ⟨g8, 0, none⟩)]), (6, .int .i64 (20)), (7, .int .i64 (0)), (8, .int .i64 (20))]) ⟨rfl, rfl, rfl, rfl, rfl, rfl, trivial⟩ (.refl _) ⟨hs2, rfl, rfl, (Base.Le.refl _), h5, rfl⟩ ?_
   rintro ⟨x639, x640, l641⟩ b634 _ _ oL608 ⟨hs637, rfl, rfl, hle635, h638, hln642⟩ hstepL608 houtL608
   unfold mSlicesStableCmpFunc_L608 at hstepL608
   have hm := (unc3E hstepL608)
   refine c_seq ?_
   refine c_sr ?_
   refine t_mv rfl rfl ?_
   refine t_mv rfl rfl ?_
   refine t_st rfl (st_leq rfl rfl) ?_
   refine t_ne ?_
   refine c_cond _ rfl (fun hc643 => ?_) (fun hc643 => ?_)
   ·
    rw [if_pos (of_decide_eq_true hc643)] at hm
    refine c_skip ?_
    refine x_then_normal ?_
    refine c_block ?_
    refine c_sr ?_
    refine t_mv rfl rfl ?_
    refine t_mv rfl rfl ?_
    refine t_mv rfl rfl ?_
    refine t_mv rfl rfl ?_
    obtain ⟨l644, hcl645, hm⟩ := bindS hm
    refine t_pullb 2 rfl ?_
    refine t_pullb 2 rfl ?_
    refine t_pullb 2 rfl ?_
    refine t_out1 [_, _, _] [] hs637 R rfl ?_
    refine t_callG _ rfl call72 rfl (cSlicesInsertionSortCmpFunc _ _ x639 x640 x10 l14 x15 l641 g6 g7 g8 A11 c12 A3 c4 hs637 (h13.le hle635) h638 l644 hcl645) ?_
    rintro _ b646 _ hle647 ⟨hs648, rfl, rfl, h649, h650⟩
    refine t_in1 [_, _, _] [] hs648 R rfl ?_
    refine t_resp 0 rfl (v' := .slice A3 (l644).length c4) (by rw [h650]) ?_
    refine t_ne ?_
    refine c_sr ?_
    refine t_mv rfl rfl ?_
    refine t_as rfl rfl ?_
    refine t_ne ?_
    refine c_region ?_
    refine t_mv rfl rfl ?_
    refine t_mv rfl rfl ?_
    obtain ⟨_, h651, hm⟩ := bindS hm
    have h651 := (chk_some h651).2
    refine t_st rfl (st_add rfl rfl h651) ?_
    refine t_as rfl rfl ?_
    refine t_nil ?_
    refine x_block_normal ?_
    refine x_pullb 2 rfl ?_
    refine x_pullb 2 rfl ?_
    refine x_pullb 2 rfl ?_
    exact x_againM (x640, x640 + 20, l644) (Option.some.inj hm).symm (e' := [(0, .slice A3 (l644).length c4), (1, .int .i64 (x9)), (2, .func (.func 33) #[] #[.pointer (some ⟨g6, 0, none⟩), .pointer (some ⟨g7, 0, none⟩), .pointer (some ⟨g8, 0, none⟩)]), (6, .int .i64 (20)), (7, .int .i64 (x640)), (8, .int .i64 (x640 + 20))]) ⟨rfl, rfl, rfl, rfl, rfl, rfl, trivial⟩ (.refl _) ⟨hs648, rfl, rfl, ((hle635.trans hle647)), h649, (h650.trans hln642)⟩
   ·
    rw [if_neg (of_decide_eq_false hc643)] at hm
    refine c_exit ?_
    refine x_then_exit ?_
    refine x_then_exit ?_
    refine x_block_out ?_
    have hm := congrArg some (houtL608 _ (Option.some.inj hm).symm)
    obtain ⟨rfl, rfl⟩ := some2 hm
    refine x_pullb 2 rfl ?_
    refine x_pullb 2 rfl ?_
    refine x_pullb 2 rfl ?_
    exact x_join (e' := [(0, .slice A3 (l641).length c4), (1, .int .i64 (x9)), (2, .func (.func 33) #[] #[.pointer (some ⟨g6, 0, none⟩), .pointer (some ⟨g7, 0, none⟩), .pointer (some ⟨g8, 0, none⟩)]), (6, .int .i64 (20)), (7, .int .i64 (x639))]) ⟨rfl, rfl, rfl, rfl, rfl, trivial⟩ (.refl _) ⟨hs637, rfl, rfl, hle635, h638, hln642⟩
  ·
   rintro b599 _ _ ⟨hs602, rfl, rfl, hle600, h603, hln606⟩
   have hm := (unc2E hk607)
   refine c_sr ?_
   refine t_mv rfl rfl ?_
   refine t_mv rfl rfl ?_
   refine t_mv rfl rfl ?_
   refine t_mv rfl rfl ?_
   obtain ⟨l652, hcl653, hm⟩ := bindS hm
   refine t_pullb 2 rfl ?_
   refine t_pullb 2 rfl ?_
   refine t_pullb 2 rfl ?_
   refine t_out1 [_, _, _] [] hs602 R rfl ?_
   refine t_callG _ rfl call72 rfl (cSlicesInsertionSortCmpFunc _ _ x604 x9 x10 l14 x15 l605 g6 g7 g8 A11 c12 A3 c4 hs602 (h13.le hle600) h603 l652 hcl653) ?_
   rintro _ b654 _ hle655 ⟨hs656, rfl, rfl, h657, h658⟩
   refine t_in1 [_, _, _] [] hs656 R rfl ?_
   refine t_resp 0 rfl (v' := .slice A3 (l652).length c4) (by rw [h658]) ?_
   refine t_ne ?_
   refine c_block ?_
   refine c_pullb 2 rfl ?_
   refine c_pullb 2 rfl ?_
   refine c_pullb 2 rfl ?_
   refine c_loopM (unc2 fun x947 l948 => fun b942 e' hp' => ∃ (hs945 : Hp), [(0, .slice A3 (l948).length c4), (1, .int .i64 (x9)), (2, .func (.func 33) #[] #[.pointer (some ⟨g6, 0, none⟩), .pointer (some ⟨g7, 0, none⟩), .pointer (some ⟨g8, 0, none⟩)]), (6, .int .i64 (x947))] = e' ∧ (g6, Cl 3 [.int .i64 (x10)]) :: (g7, Cl 22 [.slice A11 (l14).length c12]) :: (g8, Cl 3 [.int .i64 (x15)]) :: (hs945 ++ R) = hp' ∧ b654.Le b942 ∧ OS 3 (OT.fr (RT.int .i64)) b942.w (.slice A3 l948.length c4) l948 hs945 ∧ l948.length = l16.length) hm (e' := [(0, .slice A3 (l652).length c4), (1, .int .i64 (x9)), (2, .func (.func 33) #[] #[.pointer (some ⟨g6, 0, none⟩), .pointer (some ⟨g7, 0, none⟩), .pointer (some ⟨g8, 0, none⟩)]), (6, .int .i64 (20))]) ⟨rfl, rfl, rfl, rfl, trivial⟩ (.refl _) ⟨hs656, rfl, rfl, (Base.Le.refl _), h657, (h658.trans hln606)⟩ ?_
   rintro ⟨x947, l948⟩ b942 _ _ oL659 ⟨hs945, rfl, rfl, hle943, h946, hln949⟩ hstepL659 houtL659
   unfold mSlicesStableCmpFunc_L659 at hstepL659
   have hm := (unc2E hstepL659)
   refine c_seq ?_
   refine c_sr ?_
   refine t_mv rfl rfl ?_
   refine t_mv rfl rfl ?_
   refine t_st rfl (st_lss rfl rfl) ?_
   refine t_ne ?_
   refine c_cond _ rfl (fun hc950 => ?_) (fun hc950 => ?_)
   ·
    rw [if_pos (of_decide_eq_true hc950)] at hm
    refine c_skip ?_
    refine x_then_normal ?_
    refine c_block ?_
    refine c_sr ?_
    refine t_mv rfl rfl ?_
    obtain ⟨_, h951, hm⟩ := bindS hm
    have h951 := (chk_some h951).2
    refine t_st rfl (st_mul rfl rfl h951) ?_
    refine t_as rfl rfl ?_
    refine t_as rfl rfl ?_
    refine t_ne ?_
    obtain ⟨⟨x1007, l1008⟩, hj1010, hk1010⟩ := bindS hm
    refine c_join (fun b1002 e' hp' => ∃ (hs1005 : Hp), [(0, .slice A3 (l1008).length c4), (1, .int .i64 (x9)), (2, .func (.func 33) #[] #[.pointer (some ⟨g6, 0, none⟩), .pointer (some ⟨g7, 0, none⟩), .pointer (some ⟨g8, 0, none⟩)]), (6, .int .i64 (x947)), (7, .int .i64 (x1007))] = e' ∧ (g6, Cl 3 [.int .i64 (x10)]) :: (g7, Cl 22 [.slice A11 (l14).length c12]) :: (g8, Cl 3 [.int .i64 (x15)]) :: (hs1005 ++ R) = hp' ∧ b942.Le b1002 ∧ OS 3 (OT.fr (RT.int .i64)) b1002.w (.slice A3 l1008.length c4) l1008 hs1005 ∧ l1008.length = l16.length) ?_ ?_
    ·
     have hm := hj1010
     refine c_block ?_
     refine c_pullb 2 rfl ?_
     refine c_pullb 2 rfl ?_
     refine c_pullb 2 rfl ?_
     refine c_loopM (unc3 fun x1046 x1047 l1048 => fun b1041 e' hp' => ∃ (hs1044 : Hp), [(0, .slice A3 (l1048).length c4), (1, .int .i64 (x9)), (2, .func (.func 33) #[] #[.pointer (some ⟨g6, 0, none⟩), .pointer (some ⟨g7, 0, none⟩), .pointer (some ⟨g8, 0, none⟩)]), (6, .int .i64 (x947)), (7, .int .i64 (x1046)), (8, .int .i64 (x1047))] = e' ∧ (g6, Cl 3 [.int .i64 (x10)]) :: (g7, Cl 22 [.slice A11 (l14).length c12]) :: (g8, Cl 3 [.int .i64 (x15)]) :: (hs1044 ++ R) = hp' ∧ b942.Le b1041 ∧ OS 3 (OT.fr (RT.int .i64)) b1041.w (.slice A3 l1048.length c4) l1048 hs1044 ∧ l1048.length = l16.length) hm (e' := [(0, .slice A3 (l948).length c4), (1, .int .i64 (x9)), (2, .func (.func 33) #[] #[.pointer (some ⟨g6, 0, none⟩), .pointer (some ⟨g7, 0, none⟩), .pointer (some ⟨g8, 0, none⟩)]), (6, .int .i64 (x947)), (7, .int .i64 (0)), (8, .int .i64 (2 * x947))]) ⟨rfl, rfl, rfl, rfl, rfl, rfl, trivial⟩ (.refl _) ⟨hs945, rfl, rfl, (Base.Le.refl _), h946, hln949⟩ ?_
     rintro ⟨x1046, x1047, l1048⟩ b1041 _ _ oL1011 ⟨hs1044, rfl, rfl, hle1042, h1045, hln1049⟩ hstepL1011 houtL1011
     unfold mSlicesStableCmpFunc_L1011 at hstepL1011
     have hm := (unc3E hstepL1011)
     refine c_seq ?_
     refine c_sr ?_
     refine t_mv rfl rfl ?_
     refine t_mv rfl rfl ?_
     refine t_st rfl (st_leq rfl rfl) ?_
     refine t_ne ?_
     refine c_cond _ rfl (fun hc1050 => ?_) (fun hc1050 => ?_)
     ·
      rw [if_pos (of_decide_eq_true hc1050)] at hm
      refine c_skip ?_
      refine x_then_normal ?_
      refine c_block ?_
      refine c_sr ?_
      refine t_mv rfl rfl ?_
      refine t_mv rfl rfl ?_
      refine t_mv rfl rfl ?_
      refine t_mv rfl rfl ?_
      obtain ⟨_, h1051, hm⟩ := bindS hm
      have h1051 := (chk_some h1051).2
      refine t_st rfl (st_add rfl rfl h1051) ?_
      refine t_mv rfl rfl ?_
      refine t_mv rfl rfl ?_
      obtain ⟨l1052, hcl1053, hm⟩ := bindS hm
      obtain ⟨Nhcl1053, hcl1053⟩ := lim_some hcl1053
      refine t_pullb 2 rfl ?_
      refine t_pullb 2 rfl ?_
      refine t_pullb 2 rfl ?_
      refine t_out1 [_, _, _] [] hs1044 R rfl ?_
      refine t_callG _ rfl call73 rfl (cSlicesSymMergeCmpFunc Nhcl1053 _ _ x1046 (x1046 + x947) x1047 x10 l14 x15 l1048 g6 g7 g8 A11 c12 A3 c4 hs1044 (h13.le (hle600.trans (hle655.trans (hle943.trans hle1042)))) h1045 l1052 hcl1053) ?_
      rintro _ b1054 _ hle1055 ⟨hs1056, rfl, rfl, h1057, h1058⟩
      refine t_in1 [_, _, _] [] hs1056 R rfl ?_
      refine t_resp 0 rfl (v' := .slice A3 (l1052).length c4) (by rw [h1058]) ?_
      refine t_ne ?_
      refine c_sr ?_
      refine t_mv rfl rfl ?_
      refine t_as rfl rfl ?_
      refine t_ne ?_
      refine c_region ?_
      refine t_mv rfl rfl ?_
      refine t_mv rfl rfl ?_
      obtain ⟨_, h1059, hm⟩ := bindS hm
      have h1059 := (chk_some h1059).2
      refine t_st rfl (st_mul rfl rfl h1059) ?_
      obtain ⟨_, h1060, hm⟩ := bindS hm
      have h1060 := (chk_some h1060).2
      refine t_st rfl (st_add rfl rfl h1060) ?_
      refine t_as rfl rfl ?_
      refine t_nil ?_
      refine x_block_normal ?_
      refine x_pullb 2 rfl ?_
      refine x_pullb 2 rfl ?_
      refine x_pullb 2 rfl ?_
      exact x_againM (x1047, x1047 + (2 * x947), l1052) (Option.some.inj hm).symm (e' := [(0, .slice A3 (l1052).length c4), (1, .int .i64 (x9)), (2, .func (.func 33) #[] #[.pointer (some ⟨g6, 0, none⟩), .pointer (some ⟨g7, 0, none⟩), .pointer (some ⟨g8, 0, none⟩)]), (6, .int .i64 (x947)), (7, .int .i64 (x1047)), (8, .int .i64 (x1047 + (2 * x947)))]) ⟨rfl, rfl, rfl, rfl, rfl, rfl, trivial⟩ (.refl _) ⟨hs1056, rfl, rfl, ((hle1042.trans hle1055)), h1057, (h1058.trans hln1049)⟩
     ·
      rw [if_neg (of_decide_eq_false hc1050)] at hm
      refine c_exit ?_
      refine x_then_exit ?_
      refine x_then_exit ?_
      refine x_block_out ?_
      have hm := congrArg some (houtL1011 _ (Option.some.inj hm).symm)
      obtain ⟨rfl, rfl⟩ := some2 hm
      refine x_pullb 2 rfl ?_
      refine x_pullb 2 rfl ?_
      refine x_pullb 2 rfl ?_
      exact x_join (e' := [(0, .slice A3 (l1048).length c4), (1, .int .i64 (x9)), (2, .func (.func 33) #[] #[.pointer (some ⟨g6, 0, none⟩), .pointer (some ⟨g7, 0, none⟩), .pointer (some ⟨g8, 0, none⟩)]), (6, .int .i64 (x947)), (7, .int .i64 (x1046))]) ⟨rfl, rfl, rfl, rfl, rfl, trivial⟩ (.refl _) ⟨hs1044, rfl, rfl, hle1042, h1045, hln1049⟩
    ·
     rintro b1002 _ _ ⟨hs1005, rfl, rfl, hle1003, h1006, hln1009⟩
     have hm := (unc2E hk1010)
     obtain ⟨l1075, hj1077, hk1077⟩ := bindS hm
     refine c_join (fun b1070 e' hp' => ∃ (hs1073 : Hp), [(0, .slice A3 (l1075).length c4), (1, .int .i64 (x9)), (2, .func (.func 33) #[] #[.pointer (some ⟨g6, 0, none⟩), .pointer (some ⟨g7, 0, none⟩), .pointer (some ⟨g8, 0, none⟩)]), (6, .int .i64 (x947))] = e' ∧ (g6, Cl 3 [.int .i64 (x10)]) :: (g7, Cl 22 [.slice A11 (l14).length c12]) :: (g8, Cl 3 [.int .i64 (x15)]) :: (hs1073 ++ R) = hp' ∧ b1002.Le b1070 ∧ OS 3 (OT.fr (RT.int .i64)) b1070.w (.slice A3 l1075.length c4) l1075 hs1073 ∧ l1075.length = l16.length) ?_ ?_
     ·
      have hm := hj1077
      refine c_sr ?_
      refine t_mv rfl rfl ?_
      refine t_mv rfl rfl ?_
      obtain ⟨_, h1078, hm⟩ := bindS hm
      have h1078 := (chk_some h1078).2
      refine t_st rfl (st_add rfl rfl h1078) ?_
      refine t_as rfl rfl ?_
      refine t_ne ?_
      refine c_sr ?_
      refine t_mv rfl rfl ?_
      refine t_mv rfl rfl ?_
      refine t_st rfl (st_lss rfl rfl) ?_
      refine t_ne ?_
      refine c_cond _ rfl (fun hc1079 => ?_) (fun hc1079 => ?_)
      ·
       rw [if_pos (of_decide_eq_true hc1079)] at hm
       refine c_region ?_
       refine t_mv rfl rfl ?_
       refine t_mv rfl rfl ?_
       refine t_mv rfl rfl ?_
       refine t_mv rfl rfl ?_
       refine t_mv rfl rfl ?_
       obtain ⟨l1080, hcl1081, hm⟩ := bindS hm
       obtain ⟨Nhcl1081, hcl1081⟩ := lim_some hcl1081
       refine t_pullb 2 rfl ?_
       refine t_pullb 2 rfl ?_
       refine t_pullb 2 rfl ?_
       refine t_out1 [_, _, _] [] hs1005 R rfl ?_
       refine t_callG _ rfl call73 rfl (cSlicesSymMergeCmpFunc Nhcl1081 _ _ x1007 (x1007 + x947) x9 x10 l14 x15 l1008 g6 g7 g8 A11 c12 A3 c4 hs1005 (h13.le (hle600.trans (hle655.trans (hle943.trans hle1003)))) h1006 l1080 hcl1081) ?_
       rintro _ b1082 _ hle1083 ⟨hs1084, rfl, rfl, h1085, h1086⟩
       refine t_in1 [_, _, _] [] hs1084 R rfl ?_
       refine t_resp 0 rfl (v' := .slice A3 (l1080).length c4) (by rw [h1086]) ?_
       refine t_nil ?_
       obtain rfl := some1 hm
       refine x_pullb 2 rfl ?_
       refine x_pullb 2 rfl ?_
       refine x_pullb 2 rfl ?_
       exact x_join (e' := [(0, .slice A3 (l1080).length c4), (1, .int .i64 (x9)), (2, .func (.func 33) #[] #[.pointer (some ⟨g6, 0, none⟩), .pointer (some ⟨g7, 0, none⟩), .pointer (some ⟨g8, 0, none⟩)]), (6, .int .i64 (x947))]) ⟨rfl, rfl, rfl, rfl, trivial⟩ (.refl _) ⟨hs1084, rfl, rfl, hle1083, h1085, (h1086.trans hln1009)⟩
      ·
       rw [if_neg (of_decide_eq_false hc1079)] at hm
       refine c_skip ?_
       obtain rfl := some1 hm
       refine x_pullb 2 rfl ?_
       refine x_pullb 2 rfl ?_
       refine x_pullb 2 rfl ?_
       exact x_join (e' := [(0, .slice A3 (l1008).length c4), (1, .int .i64 (x9)), (2, .func (.func 33) #[] #[.pointer (some ⟨g6, 0, none⟩), .pointer (some ⟨g7, 0, none⟩), .pointer (some ⟨g8, 0, none⟩)]), (6, .int .i64 (x947))]) ⟨rfl, rfl, rfl, rfl, trivial⟩ (.refl _) ⟨hs1005, rfl, rfl, (Base.Le.refl _), h1006, hln1009⟩
     ·
      rintro b1070 _ _ ⟨hs1073, rfl, rfl, hle1071, h1074, hln1076⟩
      have hm := hk1077
      refine c_region ?_
      refine t_mv rfl rfl ?_
      obtain ⟨_, h1087, hm⟩ := bindS hm
      have h1087 := (chk_some h1087).2
      refine t_st rfl (st_mul rfl rfl h1087) ?_
      refine t_as rfl rfl ?_
      refine t_nil ?_
      refine x_block_normal ?_
      refine x_pullb 2 rfl ?_
      refine x_pullb 2 rfl ?_
      refine x_pullb 2 rfl ?_
      exact x_againM (x947 * 2, l1075) (Option.some.inj hm).symm (e' := [(0, .slice A3 (l1075).length c4), (1, .int .i64 (x9)), (2, .func (.func 33) #[] #[.pointer (some ⟨g6, 0, none⟩), .pointer (some ⟨g7, 0, none⟩), .pointer (some ⟨g8, 0, none⟩)]), (6, .int .i64 (x947 * 2))]) ⟨rfl, rfl, rfl, rfl, trivial⟩ (.refl _) ⟨hs1073, rfl, rfl, ((hle943.trans (hle1003.trans hle1071))), h1074, hln1076⟩
   ·
    rw [if_neg (of_decide_eq_false hc950)] at hm
    refine c_exit ?_
    refine x_then_exit ?_
    refine x_then_exit ?_
    refine x_block_out ?_
    have hm := congrArg some (houtL659 _ (Option.some.inj hm).symm)
    obtain rfl := some1 hm
    refine x_pullb 2 rfl ?_
    refine x_pullb 2 rfl ?_
    refine x_pullb 2 rfl ?_
    exact endM (hle600.trans (hle655.trans hle943)) rfl (.refl _) ⟨hs945, rfl, rfl, h946, hln949⟩

set_option maxRecDepth 20000 in
theorem cSlicesSortStableFunc (b : Base) (R : Hp) (x9 : Int) (l13 : (List Int)) (x14 : Int) (l15 : (List Int)) (g6 : Nat) (g7 : Nat) (g8 : Nat) (A10 : Option Addr) (c11 : Nat) (A3 : Option Addr) (c4 : Nat) (hs2 : Hp) (h12 : FZ (RT.int .i64) b.w A10 c11 l13) (h5 : OS 3 (OT.fr (RT.int .i64)) b.w (.slice A3 l15.length c4) l15 hs2) (l26 : (List Int)) (hm : mSlicesSortStableFunc x9 l13 x14 l15 = some l26) :
    CallsG Tryz.prog 32 [.slice A3 (l15).length c4, .func (.func 33) #[] #[.pointer (some ⟨g6, 0, none⟩), .pointer (some ⟨g7, 0, none⟩), .pointer (some ⟨g8, 0, none⟩)]] b ((g6, Cl 3 [.int .i64 (x9)]) :: (g7, Cl 22 [.slice A10 (l13).length c11]) :: (g8, Cl 3 [.int .i64 (x14)]) :: (hs2 ++ R)) (fun v b' hp' => ∃ (hs24 : Hp), .tuple #[] = v ∧ (g6, Cl 3 [.int .i64 (x9)]) :: (g7, Cl 22 [.slice A10 (l13).length c11]) :: (g8, Cl 3 [.int .i64 (x14)]) :: (hs24 ++ R) = hp' ∧ OS 3 (OT.fr (RT.int .i64)) b'.w (.slice A3 l26.length c4) l26 hs24 ∧ l26.length = l15.length) := by
  refine fn_enterG 9 Tryz.func32 rfl Tryz.ntmps32 rfl ?_
  unfold mSlicesSortStableFunc at hm
  refine c_region ?_
  refine t_mv rfl rfl ?_
  refine t_mv rfl rfl ?_
  refine t_st rfl (st_len rfl sl22) ?_
  refine t_mv rfl rfl ?_
  obtain ⟨l28, hcl29, hm⟩ := bindS hm
  refine t_pullb 2 rfl ?_
  refine t_pullb 2 rfl ?_
  refine t_pullb 2 rfl ?_
  refine t_out1 [_, _, _] [] hs2 R rfl ?_
  refine t_callG _ rfl call54 rfl (cSlicesStableCmpFunc _ _ (l15.length : Int) x9 l13 x14 l15 g6 g7 g8 A10 c11 A3 c4 hs2 h12 h5 l28 hcl29) ?_
  rintro _ b30 _ hle31 ⟨hs32, rfl, rfl, h33, h34⟩
  refine t_in1 [_, _, _] [] hs32 R rfl ?_
  refine t_nil ?_
  obtain rfl := some1 hm
  refine x_pullb 2 rfl ?_
  refine x_pullb 2 rfl ?_
  refine x_pullb 2 rfl ?_
  exact endM hle31 rfl (.refl _) ⟨hs32, rfl, rfl, h33, (h34.trans rfl)⟩

set_option maxRecDepth 20000 in
theorem cFareShares (b : Base) (R : Hp) (x1 : Int) (l5 : (List Int)) (A2 : Option Addr) (c3 : Nat) (h4 : FZ (RT.int .i64) b.w A2 c3 l5) (x416 : Int) (l417 : (List Int)) (hm : mFareShares x1 l5 = some (x416, l417)) :
    CallsG Tryz.prog 14 [.int .i64 (x1), .slice A2 (l5).length c3] b (R) (fun v b' hp' => ∃ (A413 : Option Addr), ∃ (c414 : Nat), ∃ (hs412 : Hp), .tuple #[.slice A413 (l417).length c414, .int .i64 (x416)] = v ∧ (hs412 ++ R) = hp' ∧ OS 3 (OT.fr (RT.int .i64)) b'.w (.slice A413 l417.length c414) l417 hs412) := by
  refine fn_enterG 86 Tryz.func14 rfl Tryz.ntmps14 rfl ?_
  unfold mFareShares at hm
  refine c_sr ?_
  refine t_do rfl (u_box _ rfl rfl) ?_
  rintro _ _ ⟨g418, rfl, rfl⟩
  refine t_do rfl (u_box _ rfl rfl) ?_
  rintro _ _ ⟨g419, rfl, rfl⟩
  refine t_as rfl rfl ?_
  refine t_as rfl rfl ?_
  refine t_ne ?_
  refine c_seq ?_
  refine c_block ?_
  refine c_sr ?_
  refine t_st rfl (st_load 1 rfl one3 rfl rfl) ?_
  obtain ⟨x420, hcl421, hm⟩ := bindS hm
  refine t_do rfl (u_callW0 _ call19 rfl (fun w ho => cFareWithin _ [] x1 0 100000 x420 hcl421) (fun _ _ _ h => h.2.symm)) ?_
  rintro _ _ ⟨⟨_, rfl, _⟩, rfl⟩
  refine t_st rfl (st_not rfl) ?_
  refine t_as rfl rfl ?_
  refine t_ne ?_
  refine c_cond _ rfl (fun hc422 => ?_) (fun hc422 => ?_)
  ·
   rw [if_neg (fun hh => Bool.noConfusion (hh.symm.trans (notT hc422)))] at hm
   refine c_sr ?_
   refine t_as rfl rfl ?_
   refine t_as rfl rfl ?_
   refine t_ne ?_
   refine c_ret ?_
   refine x_block_ret ?_
   refine x_then_ret ?_
   obtain ⟨rfl, rfl⟩ := some2 hm
   exact retM (rs := [.tmp 4, .tmp 5]) [.slice none 0 0, .int .i64 (2)] (Base.Le.refl _) (by decide) rfl ⟨rfl, ⟨rfl, trivial⟩⟩ rfl (.cons _ (.cons _ (.refl _))) ⟨none, 0, [], rfl, rfl, OS.nil⟩
  ·
   rw [if_pos (notF hc422)] at hm
   refine c_sr ?_
   refine t_st rfl (st_load 0 rfl one22 rfl rfl) ?_
   refine t_st rfl (st_len rfl sl22) ?_
   obtain ⟨x423, hcl424, hm⟩ := bindS hm
   refine t_do rfl (u_callW0 _ call19 rfl (fun w ho => cFareWithin _ [] (l5.length : Int) 1 6 x423 hcl424) (fun _ _ _ h => h.2.symm)) ?_
   rintro _ _ ⟨⟨_, rfl, _⟩, rfl⟩
   refine t_st rfl (st_not rfl) ?_
   refine t_as rfl rfl ?_
   refine t_ne ?_
   refine c_cond _ rfl (fun hc425 => ?_) (fun hc425 => ?_)
   ·
    rw [if_neg (fun hh => Bool.noConfusion (hh.symm.trans (notT hc425)))] at hm
    refine c_sr ?_
    refine t_as rfl rfl ?_
    refine t_as rfl rfl ?_
    refine t_ne ?_
    refine c_ret ?_
    refine x_block_ret ?_
    refine x_then_ret ?_
    obtain ⟨rfl, rfl⟩ := some2 hm
    exact retM (rs := [.tmp 4, .tmp 5]) [.slice none 0 0, .int .i64 (4)] (Base.Le.refl _) (by decide) rfl ⟨rfl, ⟨rfl, trivial⟩⟩ rfl (.cons _ (.cons _ (.refl _))) ⟨none, 0, [], rfl, rfl, OS.nil⟩
   ·
    rw [if_pos (notF hc425)] at hm
    refine c_skip ?_
    refine x_block_normal ?_
    refine x_then_normal ?_
    refine c_sr ?_
    refine t_do rfl (u_alloc [.int .i64 0] zero3 rfl) ?_
    rintro _ _ ⟨g426, rfl, rfl⟩
    refine t_do rfl (u_store 0 rfl rfl siz3 rfl rfl (by simp)) ?_
    rintro _ _ rfl
    refine t_ne ?_
    refine c_seq ?_
    refine c_sr ?_
    refine t_st rfl (st_load 1 rfl one22 rfl rfl) ?_
    refine t_st rfl (st_len rfl sl22) ?_
    refine t_mv rfl rfl ?_
    refine t_ne ?_
    refine c_block ?_
    have hb428 : l5.length ≤ 9223372036854775807 := (FZ.bd h4)
    refine c_pullb 1 rfl ?_
    refine c_pullb 2 rfl ?_
    obtain ⟨t462, hl463, hk464⟩ := bindS hm
    refine c_forM (fun k461 => fun x460 => fun b458 e' hp' => [(2, .pointer (some ⟨g418, 0, none⟩)), (3, .pointer (some ⟨g419, 0, none⟩)), (6, .pointer (some ⟨g426, 0, none⟩)), (25, .slice A2 (l5).length c3), (26, .int .i64 ((l5.length : Int))), (27, .int .i64 ((k461 : Int)))] = e' ∧ (g418, Cl 3 [.int .i64 (x1)]) :: (g419, Cl 22 [.slice A2 (l5).length c3]) :: (g426, Cl 3 [.int .i64 (x460)]) :: R = hp' ∧ b.Le b458) hl463 (e' := [(2, .pointer (some ⟨g418, 0, none⟩)), (3, .pointer (some ⟨g419, 0, none⟩)), (6, .pointer (some ⟨g426, 0, none⟩)), (25, .slice A2 (l5).length c3), (26, .int .i64 ((l5.length : Int))), (27, .int .i64 0)]) ⟨rfl, rfl, rfl, rfl, rfl, rfl, trivial⟩ (.refl _) ⟨rfl, rfl, (Base.Le.refl _)⟩ ?_ ?_
    ·
     rintro k461 x460 b458 _ _ oL427 hknL427 ⟨rfl, rfl, hle459⟩ hstepL427 houtL427
     unfold mFareShares_L427 at hstepL427
     have hm := hstepL427
     refine c_sr ?_
     refine t_st rfl (st_lss_t rfl rfl (by omega)) ?_
     refine t_ne ?_
     refine c_seq ?_
     refine c_cond_t rfl ?_
     refine c_skip ?_
     refine x_then_normal ?_
     refine c_seq ?_
     refine c_block ?_
     refine c_sr ?_
     obtain ⟨x465, h466, hm⟩ := bindS hm
     obtain ⟨j467, hj468, hx469⟩ := idx_some h466
     obtain ⟨cs470, hr471, hcs472, hA473, hlt474⟩ := FZ.get (sz := 1) rfl (by decide) (h4.le hle459) hx469
     obtain rfl := hr471
     refine t_st rfl (st_index_old j467 rfl rfl hj468 hlt474 hA473 sl22) ?_
     refine t_st rfl (st_load_old rfl one3 (hcs472 0 _ rfl)) ?_
     refine t_as rfl rfl ?_
     refine t_ne ?_
     refine c_seq ?_
     refine c_sr ?_
     refine t_mv rfl rfl ?_
     obtain ⟨x475, hcl476, hm⟩ := bindS hm
     refine t_do rfl (u_callW0 _ call19 rfl (fun w ho => cFareWithin _ [] x465 0 10000 x475 hcl476) (fun _ _ _ h => h.2.symm)) ?_
     rintro _ _ ⟨⟨_, rfl, _⟩, rfl⟩
     refine t_st rfl (st_not rfl) ?_
     refine t_ne ?_
     refine c_cond _ rfl (fun hc477 => ?_) (fun hc477 => ?_)
     ·
      rw [if_neg (fun hh => Bool.noConfusion (hh.symm.trans (notT hc477)))] at hm
      refine c_sr ?_
      refine t_as rfl rfl ?_
      refine t_as rfl rfl ?_
      refine t_ne ?_
      refine c_ret ?_
      refine x_then_ret ?_
      refine x_block_ret ?_
      refine x_then_ret ?_
      refine x_then_ret ?_
      refine x_block_ret ?_
      refine x_then_ret ?_
      have hq478 := houtL427 _ (Option.some.inj hm).symm
      rw [hq478] at hk464
      have hm := elimR hk464
      obtain ⟨rfl, rfl⟩ := some2 hm
      exact retM (rs := [.tmp 4, .tmp 5]) [.slice none 0 0, .int .i64 (2)] hle459 (by decide) rfl ⟨rfl, ⟨rfl, trivial⟩⟩ rfl (.cons _ (.cons _ (.cons _ (.refl _)))) ⟨none, 0, [], rfl, rfl, OS.nil⟩
     ·
      rw [if_pos (notF hc477)] at hm
      refine c_skip ?_
      refine x_then_normal ?_
      refine c_region ?_
      refine t_st rfl (st_load 2 rfl one3 rfl rfl) ?_
      refine t_mv rfl rfl ?_
      obtain ⟨_, h479, hm⟩ := bindS hm
      have h479 := (chk_some h479).2
      refine t_st rfl (st_add rfl rfl h479) ?_
      refine t_do rfl (u_store 2 rfl rfl siz3 rfl rfl (by simp)) ?_
      rintro _ _ rfl
      refine t_nil ?_
      refine x_block_normal ?_
      refine x_then_normal ?_
      refine c_region ?_
      refine t_st rfl (st_add rfl rfl (by omega)) ?_
      refine t_mv rfl rfl ?_
      refine t_nil ?_
      refine x_pullb 2 rfl ?_
      refine x_pullb 2 rfl ?_
      refine x_pullb 2 rfl ?_
      exact x_againM (x460 + x465) (Option.some.inj hm).symm (e' := [(2, .pointer (some ⟨g418, 0, none⟩)), (3, .pointer (some ⟨g419, 0, none⟩)), (6, .pointer (some ⟨g426, 0, none⟩)), (25, .slice A2 (l5).length c3), (26, .int .i64 ((l5.length : Int))), (27, .int .i64 ((k461 : Int) + 1))]) ⟨rfl, rfl, rfl, rfl, rfl, rfl, trivial⟩ (.refl _) ⟨rfl, rfl, (hle459)⟩
    ·
     rintro x460 b458 _ _ ⟨rfl, rfl, hle459⟩ hq480
     rw [hq480] at hk464
     have hm := elimL hk464
     refine c_sr ?_
     refine t_st rfl (st_lss_f rfl rfl (by omega)) ?_
     refine t_ne ?_
     refine c_seq ?_
     refine c_cond_f rfl ?_
     refine c_exit ?_
     refine x_then_exit ?_
     refine x_then_exit ?_
     refine x_block_out ?_
     refine x_then_normal ?_
     refine c_seq ?_
     refine c_sr ?_
     refine t_st rfl (st_load 2 rfl one3 rfl rfl) ?_
     refine t_st rfl (st_eql rfl rfl) ?_
     refine t_ne ?_
     refine c_cond _ rfl (fun hc481 => ?_) (fun hc481 => ?_)
     ·
      rw [if_pos (of_decide_eq_true hc481)] at hm
      refine c_sr ?_
      refine t_as rfl rfl ?_
      refine t_as rfl rfl ?_
      refine t_ne ?_
      refine c_ret ?_
      refine x_then_ret ?_
      obtain ⟨rfl, rfl⟩ := some2 hm
      exact retM (rs := [.tmp 4, .tmp 5]) [.slice none 0 0, .int .i64 (1)] hle459 (by decide) rfl ⟨rfl, ⟨rfl, trivial⟩⟩ rfl (.cons _ (.cons _ (.cons _ (.refl _)))) ⟨none, 0, [], rfl, rfl, OS.nil⟩
     ·
      rw [if_neg (of_decide_eq_false hc481)] at hm
      refine c_skip ?_
      refine x_then_normal ?_
      refine c_sr ?_
      refine t_as rfl rfl ?_
      refine t_as rfl rfl ?_
      refine t_ne ?_
      refine c_sr ?_
      refine t_st rfl (st_load 0 rfl one3 rfl rfl) ?_
      refine t_as rfl rfl ?_
      refine t_ne ?_
      refine c_seq ?_
      refine c_sr ?_
      refine t_st rfl (st_load 1 rfl one22 rfl rfl) ?_
      refine t_st rfl (st_len rfl sl22) ?_
      refine t_mv rfl rfl ?_
      refine t_ne ?_
      refine c_block ?_
      have hb483 : l5.length ≤ 9223372036854775807 := (FZ.bd (h4.le hle459))
      refine c_pullb 2 rfl ?_
      refine c_pullb 2 rfl ?_
      refine c_pullb 2 rfl ?_
      obtain ⟨⟨x595, l596, l597⟩, hl599, hk600⟩ := bindS hm
      refine c_forS (fun k598 => unc3 fun x595 l596 l597 => fun b583 e' hp' => ∃ (A587 : Option Addr), ∃ (c588 : Nat), ∃ (hs586 : Hp), ∃ (A592 : Option Addr), ∃ (c593 : Nat), ∃ (hs591 : Hp), [(2, .pointer (some ⟨g418, 0, none⟩)), (3, .pointer (some ⟨g419, 0, none⟩)), (6, .pointer (some ⟨g426, 0, none⟩)), (9, .slice A587 (l596).length c588), (10, .slice A592 (l597).length c593), (11, .int .i64 (x595)), (41, .slice A2 (l5).length c3), (42, .int .i64 ((l5.length : Int))), (43, .int .i64 ((k598 : Int)))] = e' ∧ (g418, Cl 3 [.int .i64 (x1)]) :: (g419, Cl 22 [.slice A2 (l5).length c3]) :: (g426, Cl 3 [.int .i64 (x460)]) :: (hs586 ++ (hs591 ++ R)) = hp' ∧ b458.Le b583 ∧ OS 3 (OT.fr (RT.int .i64)) b583.w (.slice A587 l596.length c588) l596 hs586 ∧ OS 3 (OT.fr (RT.int .i64)) b583.w (.slice A592 l597.length c593) l597 hs591) hl599 (e' := [(2, .pointer (some ⟨g418, 0, none⟩)), (3, .pointer (some ⟨g419, 0, none⟩)), (6, .pointer (some ⟨g426, 0, none⟩)), (9, .slice none 0 0), (10, .slice none 0 0), (11, .int .i64 (x1)), (41, .slice A2 (l5).length c3), (42, .int .i64 ((l5.length : Int))), (43, .int .i64 0)]) ⟨rfl, rfl, rfl, rfl, rfl, rfl, rfl, rfl, rfl, trivial⟩ (.refl _) ⟨none, 0, [], none, 0, [], rfl, rfl, (Base.Le.refl _), OS.nil, OS.nil⟩ ?_ ?_
      ·
       rintro k598 ⟨x595, l596, l597⟩ b583 _ _ oL482 hknL482 ⟨A587, c588, hs586, A592, c593, hs591, rfl, rfl, hle584, h589, h594⟩ hstepL482
       unfold mFareShares_L482 at hstepL482
       have hm := (unc3E hstepL482)
       refine c_sr ?_
       refine t_st rfl (st_lss_t rfl rfl (by omega)) ?_
       refine t_ne ?_
       refine c_seq ?_
       refine c_cond_t rfl ?_
       refine c_skip ?_
       refine x_then_normal ?_
       refine c_seq ?_
       refine c_block ?_
       refine c_sr ?_
       refine t_mv rfl rfl ?_
       obtain ⟨x601, h602, hm⟩ := bindS hm
       obtain ⟨j603, hj604, hx605⟩ := idx_some h602
       obtain ⟨cs606, hr607, hcs608, hA609, hlt610⟩ := FZ.get (sz := 1) rfl (by decide) (h4.le (hle459.trans hle584)) hx605
       obtain rfl := hr607
       refine t_st rfl (st_index_old j603 rfl rfl hj604 hlt610 hA609 sl22) ?_
       refine t_st rfl (st_load_old rfl one3 (hcs608 0 _ rfl)) ?_
       refine t_as rfl rfl ?_
       refine t_as rfl rfl ?_
       refine t_ne ?_
       refine c_sr ?_
       refine t_mv rfl rfl ?_
       refine t_st rfl (st_load 0 rfl one3 rfl rfl) ?_
       refine t_mv rfl rfl ?_
       obtain ⟨_, h611, hm⟩ := bindS hm
       have h611 := (chk_some h611).2
       refine t_st rfl (st_mul rfl rfl h611) ?_
       refine t_st rfl (st_load 2 rfl one3 rfl rfl) ?_
       obtain ⟨_, h612, hm⟩ := bindS hm
       obtain ⟨_, h613, hm⟩ := bindS hm
       have h613 := (chk_some h613).2
       refine t_st rfl (st_quo rfl rfl (ne0_some h612) h613) ?_
       refine t_do rfl (u_bslice (el := 3) [(0, .int .i64 (Int.tdiv (x1 * x601) x460))] [.int .i64 (Int.tdiv (x1 * x601) x460)] rfl (fun _ => by kernel_rfl)) ?_
       rintro _ _ ⟨g614, rfl, rfl⟩
       obtain ⟨_, h615, hm⟩ := bindS hm
       have h615 := room_some h615
       refine t_do rfl (u_appOS (r := (RT.int .i64)) (l := l596) [_, _, _, _] (hs591 ++ R) [[.int .i64 (Int.tdiv (x1 * x601) x460)]] [Int.tdiv (x1 * x601) x460] rfl (by decide) sl22 inf3 rfl rfl rfl rfl h589 rfl (fun w ho => Rd.own (i := 0) ho rfl) ⟨rfl, trivial⟩ h615) ?_
       rintro _ _ ⟨hs616, rfl, h617⟩
       obtain ⟨A618, c619, rfl, _⟩ := h617.form
       refine t_as rfl rfl ?_
       refine t_ne ?_
       refine c_sr ?_
       refine t_mv rfl rfl ?_
       refine t_mv rfl rfl ?_
       refine t_mv rfl rfl ?_
       obtain ⟨x620, h621, hm⟩ := bindS hm
       obtain ⟨j622, hj623, hx624⟩ := idx_some h621
       obtain ⟨cs625, hs630, P631, P632, hq633, hr626, hcs627, hA628, hlt629, hb634, hho635⟩ := OS.get (sz := 1) rfl (by decide) h617 hx624
       obtain ⟨rfl, rfl⟩ := hr626
       refine t_st rfl (st_index_old j622 rfl rfl hj623 hlt629 hA628 sl22) ?_
       refine t_st rfl (st_load_rd rfl one3 (fun w ho => hcs627 w _ ho (.cons _ (.cons _ (.cons _ (.cons _ (List.sublist_append_left _ _))))) 0 _ rfl)) ?_
       obtain ⟨_, h636, hm⟩ := bindS hm
       have h636 := (chk_some h636).2
       refine t_st rfl (st_sub rfl rfl h636) ?_
       refine t_as rfl rfl ?_
       refine t_ne ?_
       refine c_region ?_
       refine t_mv rfl rfl ?_
       refine t_mv rfl rfl ?_
       refine t_do rfl (u_bslice (el := 3) [(0, .int .i64 ((k598 : Int)))] [.int .i64 ((k598 : Int))] rfl (fun _ => by kernel_rfl)) ?_
       rintro _ _ ⟨g637, rfl, rfl⟩
       obtain ⟨_, h638, hm⟩ := bindS hm
       have h638 := room_some h638
       refine t_front2 [_, _, _, _, _] hs616 hs591 R rfl ?_
       refine t_do rfl (u_appOS (r := (RT.int .i64)) (l := l597) [_, _, _, _, _] (hs616 ++ R) [[.int .i64 ((k598 : Int))]] [(k598 : Int)] rfl (by decide) sl22 inf3 rfl rfl rfl rfl h594 rfl (fun w ho => Rd.own (i := 0) ho rfl) ⟨rfl, trivial⟩ h638) ?_
       rintro _ _ ⟨hs639, rfl, h640⟩
       obtain ⟨A641, c642, rfl, _⟩ := h640.form
       refine t_as rfl rfl ?_
       refine t_nil ?_
       refine x_block_normal ?_
       refine x_then_normal ?_
       refine c_region ?_
       refine t_st rfl (st_add rfl rfl (by omega)) ?_
       refine t_mv rfl rfl ?_
       refine t_nil ?_
       refine x_pullb 4 rfl ?_
       refine x_pullb 4 rfl ?_
       refine x_pullb 4 rfl ?_
       refine x_front2 [_, _, _, _, _] hs639 hs616 R rfl ?_
       obtain rfl := some1 hm
       exact x_againS (e' := [(2, .pointer (some ⟨g418, 0, none⟩)), (3, .pointer (some ⟨g419, 0, none⟩)), (6, .pointer (some ⟨g426, 0, none⟩)), (9, .slice A618 (l596 ++ [Int.tdiv (x1 * x601) x460]).length c619), (10, .slice A641 (l597 ++ [(k598 : Int)]).length c642), (11, .int .i64 (x595 - x620)), (41, .slice A2 (l5).length c3), (42, .int .i64 ((l5.length : Int))), (43, .int .i64 ((k598 : Int) + 1))]) ⟨rfl, rfl, rfl, rfl, rfl, rfl, rfl, rfl, rfl, trivial⟩ (.cons_cons _ (.cons_cons _ (.cons_cons _ (.cons _ (.cons _ (.refl _)))))) ⟨A618, c619, hs616, A641, c642, hs639, rfl, rfl, (hle584), h617, h640⟩
      ·
       rintro b583 _ _ ⟨A587, c588, hs586, A592, c593, hs591, rfl, rfl, hle584, h589, h594⟩
       have hm := (unc3E hk600)
       refine c_sr ?_
       refine t_st rfl (st_lss_f rfl rfl (by omega)) ?_
       refine t_ne ?_
       refine c_seq ?_
       refine c_cond_f rfl ?_
       refine c_exit ?_
       refine x_then_exit ?_
       refine x_then_exit ?_
       refine x_block_out ?_
       refine x_then_normal ?_
       refine c_sr ?_
       refine t_mv rfl rfl ?_
       refine t_st rfl (st_func _ _ rfl rfl) ?_
       obtain ⟨l643, hcl644, hm⟩ := bindS hm
       refine t_pullb 2 rfl ?_
       refine t_pullb 2 rfl ?_
       refine t_pullb 2 rfl ?_
       refine t_front2 [_, _, _] hs586 hs591 R rfl ?_
       refine t_out1 [_, _, _] [] hs591 (hs586 ++ R) rfl ?_
       refine t_callG _ rfl call32 rfl (cSlicesSortStableFunc _ _ x1 l5 x460 l597 g418 g419 g426 A2 c3 A592 c593 hs591 (h4.le (hle459.trans hle584)) h594 l643 hcl644) ?_
       rintro _ b645 _ hle646 ⟨hs647, rfl, rfl, h648, h649⟩
       refine t_in1 [_, _, _] [] hs647 (hs586 ++ R) rfl ?_
       refine t_resp 10 rfl (v' := .slice A592 (l643).length c593) (by rw [h649]) ?_
       refine t_ne ?_
       refine c_seq ?_
       refine c_sr ?_
       refine t_mv rfl rfl ?_
       refine t_mv rfl rfl ?_
       refine t_frz [_, _, _] hs647 (hs586 ++ R) rfl ?_
       intro b650 hle651 hz652
       have h653 := OS.frz (l := l643) h648 hle651.cells hz652
       obtain ⟨l654, h655, hm⟩ := bindS hm
       obtain ⟨j656, j657, hj658, hj659, hj660, hj661, hx662⟩ := cutS_some h655
       have h663 := FZ.sub (sz := 1) rfl h653 hj660 hj661
       have h664 := h653.1.1
       rw [← hx662] at h663
       refine t_st rfl (hx662 ▸ st_part (l := l643) j656 j657 rfl (.inl ⟨rfl, by omega⟩) (.inr ⟨_, _, _, rfl, rfl, hj659⟩) hj660 hj661 h664 sl22) ?_
       refine t_st rfl (st_len rfl sl22) ?_
       refine t_mv rfl rfl ?_
       refine t_ne ?_
       refine c_block ?_
       have hb670 : l654.length ≤ 9223372036854775807 := (FZ.bd h663)
       obtain ⟨l774, hl776, hk777⟩ := bindS hm
       refine c_forS (fun k775 => fun l774 => fun b767 e' hp' => ∃ (A771 : Option Addr), ∃ (c772 : Nat), ∃ (hs770 : Hp), [(9, .slice A771 (l774).length c772), (72, .slice (subA A592 c593 j656 1) (l654).length (c593 - j656)), (73, .int .i64 ((l654.length : Int))), (74, .int .i64 ((k775 : Int)))] = e' ∧ (hs770 ++ R) = hp' ∧ b650.Le b767 ∧ OS 3 (OT.fr (RT.int .i64)) b767.w (.slice A771 l774.length c772) l774 hs770) hl776 (e' := [(9, .slice A587 (l596).length c588), (72, .slice (subA A592 c593 j656 1) (l654).length (c593 - j656)), (73, .int .i64 ((l654.length : Int))), (74, .int .i64 0)]) ⟨rfl, rfl, rfl, rfl, trivial⟩ (.cons _ (.cons _ (.cons _ (.refl _)))) ⟨A587, c588, hs586, rfl, rfl, (Base.Le.refl _), (h589.le (hle646.trans hle651))⟩ ?_ ?_
       ·
        rintro k775 l774 b767 _ _ oL669 hknL669 ⟨A771, c772, hs770, rfl, rfl, hle768, h773⟩ hstepL669
        unfold mFareShares_L669 at hstepL669
        have hm := hstepL669
        refine c_sr ?_
        refine t_st rfl (st_lss_t rfl rfl (by omega)) ?_
        refine t_ne ?_
        refine c_seq ?_
        refine c_cond_t rfl ?_
        refine c_skip ?_
        refine x_then_normal ?_
        refine c_seq ?_
        refine c_block ?_
        refine c_sr ?_
        obtain ⟨x778, h779, hm⟩ := bindS hm
        obtain ⟨j780, hj781, hx782⟩ := idx_some h779
        obtain ⟨cs783, hr784, hcs785, hA786, hlt787⟩ := FZ.get (sz := 1) rfl (by decide) (h663.le hle768) hx782
        obtain rfl := hr784
        refine t_st rfl (st_index_old j780 rfl rfl hj781 hlt787 hA786 sl22) ?_
        refine t_st rfl (st_load_old rfl one3 (hcs785 0 _ rfl)) ?_
        refine t_as rfl rfl ?_
        refine t_ne ?_
        refine c_region ?_
        refine t_mv rfl rfl ?_
        refine t_mv rfl rfl ?_
        obtain ⟨x788, h789, hm⟩ := bindS hm
        obtain ⟨j790, hj791, hx792⟩ := idx_some h789
        obtain ⟨cs793, hs798, P799, P800, hq801, hr794, hcs795, hA796, hlt797, hb802, hho803⟩ := OS.get (sz := 1) rfl (by decide) h773 hx792
        obtain ⟨rfl, rfl⟩ := hr794
        refine t_st rfl (st_index_old j790 rfl rfl hj791 hlt797 hA796 sl22) ?_
        refine t_st rfl (st_load_rd rfl one3 (fun w ho => hcs795 w _ ho (List.sublist_append_left _ _) 0 _ rfl)) ?_
        obtain ⟨_, h804, hm⟩ := bindS hm
        have h804 := (chk_some h804).2
        refine t_st rfl (st_add rfl rfl h804) ?_
        obtain ⟨x805, h806, hm⟩ := bindS hm
        obtain ⟨j807, hj808, hx809⟩ := idx_some h806
        obtain ⟨cs810, hs815, P816, P817, hq818, hr811, hcs812, hA813, hlt814, hb819, hho820⟩ := OS.get (sz := 1) rfl (by decide) h773 hx809
        obtain ⟨rfl, rfl⟩ := hr811
        refine t_st rfl (st_index_old j807 rfl rfl hj808 hlt814 hA813 sl22) ?_
        refine t_do rfl (u_putOS hj808 (sz := 1) (a' := x788 + 1) rfl [] R 0 1 [.int .i64 (x788 + 1)] rfl h773 hx809 rfl rfl rfl siz3 rfl (mem_c rfl mem_n) (fun cs hsj hh => by obtain ⟨rfl, rfl⟩ := hh; exact ⟨by decide, rfl, rfl⟩)) ?_
        rintro _ _ ⟨hs821, rfl, h822⟩
        refine t_resp 9 rfl (v' := .slice A771 (put l774 x778 (x788 + 1)).length c772) (by simp only [put_length]) ?_
        refine t_nil ?_
        refine x_block_normal ?_
        refine x_then_normal ?_
        refine c_region ?_
        refine t_st rfl (st_add rfl rfl (by omega)) ?_
        refine t_mv rfl rfl ?_
        refine t_nil ?_
        obtain rfl := some1 hm
        exact x_againS (e' := [(9, .slice A771 (put l774 x778 (x788 + 1)).length c772), (72, .slice (subA A592 c593 j656 1) (l654).length (c593 - j656)), (73, .int .i64 ((l654.length : Int))), (74, .int .i64 ((k775 : Int) + 1))]) ⟨rfl, rfl, rfl, rfl, trivial⟩ (.refl _) ⟨A771, c772, hs821, rfl, rfl, (hle768), h822⟩
       ·
        rintro b767 _ _ ⟨A771, c772, hs770, rfl, rfl, hle768, h773⟩
        have hm := hk777
        refine c_sr ?_
        refine t_st rfl (st_lss_f rfl rfl (by omega)) ?_
        refine t_ne ?_
        refine c_seq ?_
        refine c_cond_f rfl ?_
        refine c_exit ?_
        refine x_then_exit ?_
        refine x_then_exit ?_
        refine x_block_out ?_
        refine x_then_normal ?_
        refine c_sr ?_
        refine t_mv rfl rfl ?_
        refine t_as rfl rfl ?_
        refine t_as rfl rfl ?_
        refine t_ne ?_
        refine c_ret ?_
        obtain ⟨rfl, rfl⟩ := some2 hm
        exact retM (rs := [.tmp 4, .tmp 5]) [.slice A771 (l774).length c772, .int .i64 (0)] (hle459.trans (hle584.trans (hle646.trans (hle651.trans hle768)))) (by decide) rfl ⟨rfl, ⟨rfl, trivial⟩⟩ rfl (.refl _) ⟨A771, c772, hs770, rfl, rfl, h773⟩

set_option maxRecDepth 20000 in
theorem cFishkeep2FareWhole (b : Base) (R : Hp) (x1 : Int) (l5 : (List Int)) (A2 : Option Addr) (c3 : Nat) (h4 : FZ (RT.int .i64) b.w A2 c3 l5) (x323 : Bool) (hm : mFishkeep2FareWhole x1 l5 = some x323) :
    CallsG Tryz.prog 4 [.int .i64 (x1), .slice A2 (l5).length c3] b (R) (fun v b' hp' => .bool (x323) = v ∧ R = hp') := by
  refine fn_enterG 95 Tryz.func4 rfl Tryz.ntmps4 rfl ?_
  unfold mFishkeep2FareWhole at hm
  refine c_sr ?_
  refine t_as rfl rfl ?_
  refine t_ne ?_
  refine c_seq ?_
  refine c_sr ?_
  obtain ⟨_, hcl324, hm⟩ := bindS hm
  refine t_do rfl (u_callW0 _ call6 rfl (fun w ho => cFishkeep2AwakeFare _ [] hcl324) (fun _ _ _ h => h.2.symm)) ?_
  rintro _ _ ⟨⟨_, rfl, _⟩, rfl⟩
  refine t_st rfl (st_not_t rfl) ?_
  refine t_ne ?_
  refine c_cond_f rfl ?_
  refine c_skip ?_
  refine x_then_normal ?_
  refine c_seq ?_
  refine c_sr ?_
  obtain ⟨x325, hcl326, hm⟩ := bindS hm
  refine t_do rfl (u_callW0 _ call8 rfl (fun w ho => cFishkeep2Fares _ [] x325 hcl326) (fun _ _ _ h => h.2.symm)) ?_
  rintro _ _ ⟨⟨_, rfl, _⟩, rfl⟩
  refine t_st rfl (st_not rfl) ?_
  refine t_ne ?_
  refine c_cond _ rfl (fun hc327 => ?_) (fun hc327 => ?_)
  ·
   rw [if_neg (fun hh => Bool.noConfusion (hh.symm.trans (notT hc327)))] at hm
   refine c_sr ?_
   refine t_as rfl rfl ?_
   refine t_ne ?_
   refine c_ret ?_
   refine x_then_ret ?_
   obtain rfl := some1 hm
   exact retM (rs := [.tmp 4]) [.bool (false)] (Base.Le.refl _) (by decide) rfl ⟨rfl, trivial⟩ rfl (.refl _) ⟨rfl, rfl⟩
  ·
   rw [if_pos (notF hc327)] at hm
   refine c_skip ?_
   refine x_then_normal ?_
   refine c_seq ?_
   refine c_sr ?_
   refine t_mv rfl rfl ?_
   refine t_mv rfl rfl ?_
   obtain ⟨x328, hcl329, hm⟩ := bindS hm
   refine t_do rfl (u_callW0 _ call13 rfl (fun w ho => cFishref2SharesFault _ [] x1 l5 A2 c3 (h4.old ho) x328 hcl329) (fun _ _ _ h => h.2.symm)) ?_
   rintro _ _ ⟨⟨_, rfl, _⟩, rfl⟩
   refine t_st rfl (st_neq rfl rfl) ?_
   refine t_ne ?_
   refine c_cond _ rfl (fun hc330 => ?_) (fun hc330 => ?_)
   ·
    rw [if_pos (of_decide_eq_true hc330)] at hm
    refine c_sr ?_
    refine t_as rfl rfl ?_
    refine t_ne ?_
    refine c_ret ?_
    refine x_then_ret ?_
    obtain rfl := some1 hm
    exact retM (rs := [.tmp 4]) [.bool (true)] (Base.Le.refl _) (by decide) rfl ⟨rfl, trivial⟩ rfl (.refl _) ⟨rfl, rfl⟩
   ·
    rw [if_neg (of_decide_eq_false hc330)] at hm
    refine c_skip ?_
    refine x_then_normal ?_
    refine c_sr ?_
    refine t_mv rfl rfl ?_
    refine t_mv rfl rfl ?_
    obtain ⟨⟨x331, l332⟩, hcl333, hm⟩ := bindS hm
    have hm := (unc2E hm)
    refine t_callG _ rfl call14 rfl (cFareShares _ _ x1 l5 A2 c3 h4 x331 l332 hcl333) ?_
    rintro _ b334 _ hle335 ⟨A336, c337, hs338, rfl, rfl, h339⟩
    refine t_in1 [] [] hs338 R rfl ?_
    refine t_mv rfl rfl ?_
    refine t_st rfl (st_extract rfl rfl) ?_
    refine t_st rfl (st_extract rfl rfl) ?_
    refine t_as rfl rfl ?_
    refine t_as rfl rfl ?_
    refine t_ne ?_
    refine c_seq ?_
    obtain ⟨x343, hj344, hk344⟩ := bindS hm
    refine c_join (fun b341 e' hp' => [(0, .int .i64 (x1)), (1, .slice A2 (l5).length c3), (5, .slice A336 (l332).length c337), (35, .bool (x343))] = e' ∧ (hs338 ++ R) = hp' ∧ b334.Le b341) ?_ ?_
    ·
     have hm := hj344
     refine c_region ?_
     refine t_mv rfl rfl ?_
     refine t_bool rfl (st_neq rfl rfl) (fun hc345 => ?_) (fun hc345 => ?_)
     ·
      rw [if_pos hc345] at hm
      refine t_mv rfl rfl ?_
      refine t_no 29 rfl rfl rfl rfl rfl ?_
      refine t_no 29 rfl rfl rfl rfl rfl ?_
      refine t_no 29 rfl rfl rfl rfl rfl ?_
      refine t_no 29 rfl rfl rfl rfl rfl ?_
      refine t_no 29 rfl rfl rfl rfl rfl ?_
      refine t_st rfl (st_pick_t rfl rfl) ?_
      refine t_nil ?_
      obtain rfl := some1 hm
      exact x_join (e' := [(0, .int .i64 (x1)), (1, .slice A2 (l5).length c3), (5, .slice A336 (l332).length c337), (35, .bool (true))]) ⟨rfl, rfl, rfl, rfl, trivial⟩ (.refl _) ⟨rfl, rfl, (Base.Le.refl _)⟩
     ·
      rw [if_neg hc345] at hm
      refine t_mv rfl rfl ?_
      refine t_yes 29 rfl rfl rfl ?_
      refine t_mv rfl rfl ?_
      refine t_yes 29 rfl rfl rfl ?_
      refine t_st rfl (st_len rfl sl22) ?_
      refine t_yes 29 rfl rfl rfl ?_
      refine t_mv rfl rfl ?_
      refine t_yes 29 rfl rfl rfl ?_
      refine t_st rfl (st_len rfl sl22) ?_
      refine t_yes 29 rfl rfl rfl ?_
      refine t_st rfl (st_neq rfl rfl) ?_
      refine t_st rfl (st_pick_f rfl rfl) ?_
      refine t_nil ?_
      obtain rfl := some1 hm
      exact x_join (e' := [(0, .int .i64 (x1)), (1, .slice A2 (l5).length c3), (5, .slice A336 (l332).length c337), (35, .bool (decide ((l332.length : Int) ≠ (l5.length : Int))))]) ⟨rfl, rfl, rfl, rfl, trivial⟩ (.refl _) ⟨rfl, rfl, (Base.Le.refl _)⟩
    ·
     rintro b341 _ _ ⟨rfl, rfl, hle342⟩
     have hm := hk344
     refine c_cond _ rfl (fun hc346 => ?_) (fun hc346 => ?_)
     ·
      rw [if_pos hc346] at hm
      refine c_sr ?_
      refine t_as rfl rfl ?_
      refine t_ne ?_
      refine c_ret ?_
      refine x_then_ret ?_
      obtain rfl := some1 hm
      exact retM (rs := [.tmp 4]) [.bool (false)] (hle335.trans hle342) (by decide) rfl ⟨rfl, trivial⟩ rfl (sub_skip hs338 (.refl _)) ⟨rfl, rfl⟩
     ·
      rw [if_neg (fun hh => Bool.noConfusion (hh.symm.trans hc346))] at hm
      refine c_skip ?_
      refine x_then_normal ?_
      refine c_sr ?_
      refine t_as rfl rfl ?_
      refine t_as rfl rfl ?_
      refine t_ne ?_
      refine c_seq ?_
      refine c_sr ?_
      refine t_mv rfl rfl ?_
      refine t_st rfl (st_len rfl sl22) ?_
      refine t_mv rfl rfl ?_
      refine t_ne ?_
      refine c_block ?_
      have hb348 : l5.length ≤ 9223372036854775807 := (FZ.bd (h4.le (hle335.trans hle342)))
      obtain ⟨x374, hl376, hk377⟩ := bindS hm
      refine c_forS (fun k375 => fun x374 => fun b372 e' hp' => [(0, .int .i64 (x1)), (1, .slice A2 (l5).length c3), (5, .slice A336 (l332).length c337), (7, .int .i64 (0)), (8, .int .i64 (x374)), (36, .slice A2 (l5).length c3), (37, .int .i64 ((l5.length : Int))), (38, .int .i64 ((k375 : Int)))] = e' ∧ (hs338 ++ R) = hp' ∧ b341.Le b372) hl376 (e' := [(0, .int .i64 (x1)), (1, .slice A2 (l5).length c3), (5, .slice A336 (l332).length c337), (7, .int .i64 (0)), (8, .int .i64 (0)), (36, .slice A2 (l5).length c3), (37, .int .i64 ((l5.length : Int))), (38, .int .i64 0)]) ⟨rfl, rfl, rfl, rfl, rfl, rfl, rfl, rfl, trivial⟩ (.refl _) ⟨rfl, rfl, (Base.Le.refl _)⟩ ?_ ?_
      ·
       rintro k375 x374 b372 _ _ oL347 hknL347 ⟨rfl, rfl, hle373⟩ hstepL347
       unfold mFishkeep2FareWhole_L347 at hstepL347
       have hm := hstepL347
       refine c_sr ?_
       refine t_st rfl (st_lss_t rfl rfl (by omega)) ?_
       refine t_ne ?_
       refine c_seq ?_
       refine c_cond_t rfl ?_
       refine c_skip ?_
       refine x_then_normal ?_
       refine c_seq ?_
       refine c_block ?_
       refine c_sr ?_
       obtain ⟨x378, h379, hm⟩ := bindS hm
       obtain ⟨j380, hj381, hx382⟩ := idx_some h379
       obtain ⟨cs383, hr384, hcs385, hA386, hlt387⟩ := FZ.get (sz := 1) rfl (by decide) (h4.le (hle335.trans (hle342.trans hle373))) hx382
       obtain rfl := hr384
       refine t_st rfl (st_index_old j380 rfl rfl hj381 hlt387 hA386 sl22) ?_
       refine t_st rfl (st_load_old rfl one3 (hcs385 0 _ rfl)) ?_
       refine t_as rfl rfl ?_
       refine t_ne ?_
       refine c_region ?_
       refine t_mv rfl rfl ?_
       refine t_mv rfl rfl ?_
       obtain ⟨_, h388, hm⟩ := bindS hm
       have h388 := (chk_some h388).2
       refine t_st rfl (st_add rfl rfl h388) ?_
       refine t_as rfl rfl ?_
       refine t_nil ?_
       refine x_block_normal ?_
       refine x_then_normal ?_
       refine c_region ?_
       refine t_st rfl (st_add rfl rfl (by omega)) ?_
       refine t_mv rfl rfl ?_
       refine t_nil ?_
       obtain rfl := some1 hm
       exact x_againS (e' := [(0, .int .i64 (x1)), (1, .slice A2 (l5).length c3), (5, .slice A336 (l332).length c337), (7, .int .i64 (0)), (8, .int .i64 (x374 + x378)), (36, .slice A2 (l5).length c3), (37, .int .i64 ((l5.length : Int))), (38, .int .i64 ((k375 : Int) + 1))]) ⟨rfl, rfl, rfl, rfl, rfl, rfl, rfl, rfl, trivial⟩ (.refl _) ⟨rfl, rfl, (hle373)⟩
      ·
       rintro b372 _ _ ⟨rfl, rfl, hle373⟩
       have hm := hk377
       refine c_sr ?_
       refine t_st rfl (st_lss_f rfl rfl (by omega)) ?_
       refine t_ne ?_
       refine c_seq ?_
       refine c_cond_f rfl ?_
       refine c_exit ?_
       refine x_then_exit ?_
       refine x_then_exit ?_
       refine x_block_out ?_
       refine x_then_normal ?_
       refine c_seq ?_
       refine c_sr ?_
       refine t_mv rfl rfl ?_
       refine t_st rfl (st_len rfl sl22) ?_
       refine t_mv rfl rfl ?_
       refine t_ne ?_
       refine c_block ?_
       have hb390 : l332.length ≤ 9223372036854775807 := (OS.len h339)
       obtain ⟨t556, hl557, hk558⟩ := bindS hm
       refine c_forM (fun k555 => fun x554 => fun b552 e' hp' => [(0, .int .i64 (x1)), (1, .slice A2 (l5).length c3), (7, .int .i64 (x554)), (8, .int .i64 (x374)), (46, .slice A336 (l332).length c337), (47, .int .i64 ((l332.length : Int))), (48, .int .i64 ((k555 : Int)))] = e' ∧ (hs338 ++ R) = hp' ∧ b372.Le b552) hl557 (e' := [(0, .int .i64 (x1)), (1, .slice A2 (l5).length c3), (7, .int .i64 (0)), (8, .int .i64 (x374)), (46, .slice A336 (l332).length c337), (47, .int .i64 ((l332.length : Int))), (48, .int .i64 0)]) ⟨rfl, rfl, rfl, rfl, rfl, rfl, rfl, trivial⟩ (.refl _) ⟨rfl, rfl, (Base.Le.refl _)⟩ ?_ ?_
       ·
        rintro k555 x554 b552 _ _ oL389 hknL389 ⟨rfl, rfl, hle553⟩ hstepL389 houtL389
        unfold mFishkeep2FareWhole_L389 at hstepL389
        have hm := hstepL389
        refine c_sr ?_
        refine t_st rfl (st_lss_t rfl rfl (by omega)) ?_
        refine t_ne ?_
        refine c_seq ?_
        refine c_cond_t rfl ?_
        refine c_skip ?_
        refine x_then_normal ?_
        refine c_seq ?_
        refine c_block ?_
        refine c_sr ?_
        refine t_mv rfl rfl ?_
        obtain ⟨x559, h560, hm⟩ := bindS hm
        obtain ⟨j561, hj562, hx563⟩ := idx_some h560
        obtain ⟨cs564, hs569, P570, P571, hq572, hr565, hcs566, hA567, hlt568, hb573, hho574⟩ := OS.get (sz := 1) rfl (by decide) (h339.le (hle342.trans (hle373.trans hle553))) hx563
        obtain ⟨rfl, rfl⟩ := hr565
        refine t_st rfl (st_index_old j561 rfl rfl hj562 hlt568 hA567 sl22) ?_
        refine t_st rfl (st_load_rd rfl one3 (fun w ho => hcs566 w _ ho (List.sublist_append_left _ _) 0 _ rfl)) ?_
        refine t_as rfl rfl ?_
        refine t_as rfl rfl ?_
        refine t_ne ?_
        refine c_sr ?_
        refine t_mv rfl rfl ?_
        refine t_mv rfl rfl ?_
        obtain ⟨_, h575, hm⟩ := bindS hm
        have h575 := (chk_some h575).2
        refine t_st rfl (st_add rfl rfl h575) ?_
        refine t_as rfl rfl ?_
        refine t_ne ?_
        obtain ⟨x607, hj608, hk608⟩ := bindS hm
        refine c_join (fun b605 e' hp' => [(0, .int .i64 (x1)), (1, .slice A2 (l5).length c3), (7, .int .i64 (x554 + x559)), (8, .int .i64 (x374)), (46, .slice A336 (l332).length c337), (47, .int .i64 ((l332.length : Int))), (48, .int .i64 ((k555 : Int))), (90, .bool (x607))] = e' ∧ (hs338 ++ R) = hp' ∧ b552.Le b605) ?_ ?_
        ·
         have hm := hj608
         refine c_region ?_
         refine t_mv rfl rfl ?_
         refine t_bool rfl (st_lss rfl rfl) (fun hc609 => ?_) (fun hc609 => ?_)
         ·
          rw [if_pos hc609] at hm
          refine t_mv rfl rfl ?_
          refine t_no 58 rfl rfl rfl rfl rfl ?_
          refine t_no 58 rfl rfl rfl rfl rfl ?_
          refine t_no 58 rfl rfl rfl rfl rfl ?_
          refine t_st rfl (st_pick_t rfl rfl) ?_
          refine t_mv rfl rfl ?_
          refine t_no 63 rfl rfl rfl rfl rfl ?_
          refine t_no 63 rfl rfl rfl rfl rfl ?_
          refine t_no 63 rfl rfl rfl rfl rfl ?_
          refine t_no 63 rfl rfl rfl rfl rfl ?_
          refine t_no 63 rfl rfl rfl rfl rfl ?_
          refine t_no 63 rfl rfl rfl rfl rfl ?_
          refine t_no 63 rfl rfl rfl rfl rfl ?_
          refine t_no 63 rfl rfl rfl rfl rfl ?_
          refine t_no 63 rfl rfl rfl rfl rfl ?_
          refine t_no 63 rfl rfl rfl rfl rfl ?_
          refine t_no 63 rfl rfl rfl rfl rfl ?_
          refine t_no 63 rfl rfl rfl rfl rfl ?_
          refine t_st rfl (st_pick_t rfl rfl) ?_
          refine t_mv rfl rfl ?_
          refine t_no 77 rfl rfl rfl rfl rfl ?_
          refine t_no 77 rfl rfl rfl rfl rfl ?_
          refine t_no 77 rfl rfl rfl rfl rfl ?_
          refine t_no 77 rfl rfl rfl rfl rfl ?_
          refine t_no 77 rfl rfl rfl rfl rfl ?_
          refine t_no 77 rfl rfl rfl rfl rfl ?_
          refine t_no 77 rfl rfl rfl rfl rfl ?_
          refine t_no 77 rfl rfl rfl rfl rfl ?_
          refine t_no 77 rfl rfl rfl rfl rfl ?_
          refine t_no 77 rfl rfl rfl rfl rfl ?_
          refine t_no 77 rfl rfl rfl rfl rfl ?_
          refine t_no 77 rfl rfl rfl rfl rfl ?_
          refine t_st rfl (st_pick_t rfl rfl) ?_
          refine t_nil ?_
          obtain rfl := some1 hm
          exact x_join (e' := [(0, .int .i64 (x1)), (1, .slice A2 (l5).length c3), (7, .int .i64 (x554 + x559)), (8, .int .i64 (x374)), (46, .slice A336 (l332).length c337), (47, .int .i64 ((l332.length : Int))), (48, .int .i64 ((k555 : Int))), (90, .bool (true))]) ⟨rfl, rfl, rfl, rfl, rfl, rfl, rfl, rfl, trivial⟩ (.refl _) ⟨rfl, rfl, (Base.Le.refl _)⟩
         ·
          rw [if_neg hc609] at hm
          refine t_mv rfl rfl ?_
          refine t_yes 58 rfl rfl rfl ?_
          refine t_mv rfl rfl ?_
          refine t_yes 58 rfl rfl rfl ?_
          refine t_mv rfl rfl ?_
          refine t_yes 58 rfl rfl rfl ?_
          refine t_bool rfl (st_gtr rfl rfl) (fun hc610 => ?_) (fun hc610 => ?_)
          ·
           rw [if_pos hc610] at hm
           refine t_st rfl (st_pick_f rfl rfl) ?_
           refine t_mv rfl rfl ?_
           refine t_no 63 rfl rfl rfl rfl rfl ?_
           refine t_no 63 rfl rfl rfl rfl rfl ?_
           refine t_no 63 rfl rfl rfl rfl rfl ?_
           refine t_no 63 rfl rfl rfl rfl rfl ?_
           refine t_no 63 rfl rfl rfl rfl rfl ?_
           refine t_no 63 rfl rfl rfl rfl rfl ?_
           refine t_no 63 rfl rfl rfl rfl rfl ?_
           refine t_no 63 rfl rfl rfl rfl rfl ?_
           refine t_no 63 rfl rfl rfl rfl rfl ?_
           refine t_no 63 rfl rfl rfl rfl rfl ?_
           refine t_no 63 rfl rfl rfl rfl rfl ?_
           refine t_no 63 rfl rfl rfl rfl rfl ?_
           refine t_st rfl (st_pick_t rfl rfl) ?_
           refine t_mv rfl rfl ?_
           refine t_no 77 rfl rfl rfl rfl rfl ?_
           refine t_no 77 rfl rfl rfl rfl rfl ?_
           refine t_no 77 rfl rfl rfl rfl rfl ?_
           refine t_no 77 rfl rfl rfl rfl rfl ?_
           refine t_no 77 rfl rfl rfl rfl rfl ?_
           refine t_no 77 rfl rfl rfl rfl rfl ?_
           refine t_no 77 rfl rfl rfl rfl rfl ?_
           refine t_no 77 rfl rfl rfl rfl rfl ?_
           refine t_no 77 rfl rfl rfl rfl rfl ?_
           refine t_no 77 rfl rfl rfl rfl rfl ?_
           refine t_no 77 rfl rfl rfl rfl rfl ?_
           refine t_no 77 rfl rfl rfl rfl rfl ?_
           refine t_st rfl (st_pick_t rfl rfl) ?_
           refine t_nil ?_
           obtain rfl := some1 hm
           exact x_join (e' := [(0, .int .i64 (x1)), (1, .slice A2 (l5).length c3), (7, .int .i64 (x554 + x559)), (8, .int .i64 (x374)), (46, .slice A336 (l332).length c337), (47, .int .i64 ((l332.length : Int))), (48, .int .i64 ((k555 : Int))), (90, .bool (true))]) ⟨rfl, rfl, rfl, rfl, rfl, rfl, rfl, rfl, trivial⟩ (.refl _) ⟨rfl, rfl, (Base.Le.refl _)⟩
          ·
           rw [if_neg hc610] at hm
           refine t_st rfl (st_pick_f rfl rfl) ?_
           refine t_mv rfl rfl ?_
           refine t_yes 63 rfl rfl rfl ?_
           refine t_mv rfl rfl ?_
           refine t_yes 63 rfl rfl rfl ?_
           refine t_mv rfl rfl ?_
           refine t_yes 63 rfl rfl rfl ?_
           obtain ⟨_, h611, hm⟩ := bindS hm
           have h611 := (chk_some h611).2
           refine t_st rfl (st_mul rfl rfl h611) ?_
           refine t_yes 63 rfl rfl rfl ?_
           refine t_mv rfl rfl ?_
           refine t_yes 63 rfl rfl rfl ?_
           refine t_mv rfl rfl ?_
           refine t_yes 63 rfl rfl rfl ?_
           refine t_mv rfl rfl ?_
           refine t_yes 63 rfl rfl rfl ?_
           obtain ⟨x612, h613, hm⟩ := bindS hm
           obtain ⟨j614, hj615, hx616⟩ := idx_some h613
           obtain ⟨cs617, hr618, hcs619, hA620, hlt621⟩ := FZ.get (sz := 1) rfl (by decide) (h4.le (hle335.trans (hle342.trans (hle373.trans hle553)))) hx616
           obtain rfl := hr618
           refine t_st rfl (st_index_old j614 rfl rfl hj615 hlt621 hA620 sl22) ?_
           refine t_yes 63 rfl rfl rfl ?_
           refine t_st rfl (st_load_old rfl one3 (hcs619 0 _ rfl)) ?_
           refine t_yes 63 rfl rfl rfl ?_
           obtain ⟨_, h622, hm⟩ := bindS hm
           have h622 := (chk_some h622).2
           refine t_st rfl (st_mul rfl rfl h622) ?_
           refine t_yes 63 rfl rfl rfl ?_
           obtain ⟨_, h623, hm⟩ := bindS hm
           have h623 := (chk_some h623).2
           refine t_st rfl (st_sub rfl rfl h623) ?_
           refine t_yes 63 rfl rfl rfl ?_
           refine t_mv rfl rfl ?_
           refine t_yes 63 rfl rfl rfl ?_
           refine t_bool rfl (st_geq rfl rfl) (fun hc624 => ?_) (fun hc624 => ?_)
           ·
            rw [if_pos hc624] at hm
            refine t_st rfl (st_pick_f rfl rfl) ?_
            refine t_mv rfl rfl ?_
            refine t_no 77 rfl rfl rfl rfl rfl ?_
            refine t_no 77 rfl rfl rfl rfl rfl ?_
            refine t_no 77 rfl rfl rfl rfl rfl ?_
            refine t_no 77 rfl rfl rfl rfl rfl ?_
            refine t_no 77 rfl rfl rfl rfl rfl ?_
            refine t_no 77 rfl rfl rfl rfl rfl ?_
            refine t_no 77 rfl rfl rfl rfl rfl ?_
            refine t_no 77 rfl rfl rfl rfl rfl ?_
            refine t_no 77 rfl rfl rfl rfl rfl ?_
            refine t_no 77 rfl rfl rfl rfl rfl ?_
            refine t_no 77 rfl rfl rfl rfl rfl ?_
            refine t_no 77 rfl rfl rfl rfl rfl ?_
            refine t_st rfl (st_pick_t rfl rfl) ?_
            refine t_nil ?_
            obtain rfl := some1 hm
            exact x_join (e' := [(0, .int .i64 (x1)), (1, .slice A2 (l5).length c3), (7, .int .i64 (x554 + x559)), (8, .int .i64 (x374)), (46, .slice A336 (l332).length c337), (47, .int .i64 ((l332.length : Int))), (48, .int .i64 ((k555 : Int))), (90, .bool (true))]) ⟨rfl, rfl, rfl, rfl, rfl, rfl, rfl, rfl, trivial⟩ (.refl _) ⟨rfl, rfl, (Base.Le.refl _)⟩
           ·
            rw [if_neg hc624] at hm
            refine t_st rfl (st_pick_f rfl rfl) ?_
            refine t_mv rfl rfl ?_
            refine t_yes 77 rfl rfl rfl ?_
            refine t_mv rfl rfl ?_
            refine t_yes 77 rfl rfl rfl ?_
            refine t_mv rfl rfl ?_
            refine t_yes 77 rfl rfl rfl ?_
            refine t_mv rfl rfl ?_
            refine t_yes 77 rfl rfl rfl ?_
            obtain ⟨x625, h626, hm⟩ := bindS hm
            obtain ⟨j627, hj628, hx629⟩ := idx_some h626
            obtain ⟨cs630, hr631, hcs632, hA633, hlt634⟩ := FZ.get (sz := 1) rfl (by decide) (h4.le (hle335.trans (hle342.trans (hle373.trans hle553)))) hx629
            obtain rfl := hr631
            refine t_st rfl (st_index_old j627 rfl rfl hj628 hlt634 hA633 sl22) ?_
            refine t_yes 77 rfl rfl rfl ?_
            refine t_st rfl (st_load_old rfl one3 (hcs632 0 _ rfl)) ?_
            refine t_yes 77 rfl rfl rfl ?_
            obtain ⟨_, h635, hm⟩ := bindS hm
            have h635 := (chk_some h635).2
            refine t_st rfl (st_mul rfl rfl h635) ?_
            refine t_yes 77 rfl rfl rfl ?_
            refine t_mv rfl rfl ?_
            refine t_yes 77 rfl rfl rfl ?_
            refine t_mv rfl rfl ?_
            refine t_yes 77 rfl rfl rfl ?_
            obtain ⟨_, h636, hm⟩ := bindS hm
            have h636 := (chk_some h636).2
            refine t_st rfl (st_mul rfl rfl h636) ?_
            refine t_yes 77 rfl rfl rfl ?_
            obtain ⟨_, h637, hm⟩ := bindS hm
            have h637 := (chk_some h637).2
            refine t_st rfl (st_sub rfl rfl h637) ?_
            refine t_yes 77 rfl rfl rfl ?_
            refine t_mv rfl rfl ?_
            refine t_yes 77 rfl rfl rfl ?_
            refine t_st rfl (st_geq rfl rfl) ?_
            refine t_st rfl (st_pick_f rfl rfl) ?_
            refine t_nil ?_
            obtain rfl := some1 hm
            exact x_join (e' := [(0, .int .i64 (x1)), (1, .slice A2 (l5).length c3), (7, .int .i64 (x554 + x559)), (8, .int .i64 (x374)), (46, .slice A336 (l332).length c337), (47, .int .i64 ((l332.length : Int))), (48, .int .i64 ((k555 : Int))), (90, .bool (decide (x374 ≤ ((x1 * x625) - (x559 * x374)))))]) ⟨rfl, rfl, rfl, rfl, rfl, rfl, rfl, rfl, trivial⟩ (.refl _) ⟨rfl, rfl, (Base.Le.refl _)⟩
        ·
         rintro b605 _ _ ⟨rfl, rfl, hle606⟩
         have hm := hk608
         refine c_cond _ rfl (fun hc638 => ?_) (fun hc638 => ?_)
         ·
          rw [if_pos hc638] at hm
          refine c_sr ?_
          refine t_as rfl rfl ?_
          refine t_ne ?_
          refine c_ret ?_
          refine x_block_ret ?_
          refine x_then_ret ?_
          refine x_then_ret ?_
          refine x_block_ret ?_
          refine x_then_ret ?_
          have hq639 := houtL389 _ (Option.some.inj hm).symm
          rw [hq639] at hk558
          have hm := elimR hk558
          obtain rfl := some1 hm
          exact retM (rs := [.tmp 4]) [.bool (false)] (hle335.trans (hle342.trans (hle373.trans (hle553.trans hle606)))) (by decide) rfl ⟨rfl, trivial⟩ rfl (sub_skip hs338 (.refl _)) ⟨rfl, rfl⟩
         ·
          rw [if_neg (fun hh => Bool.noConfusion (hh.symm.trans hc638))] at hm
          refine c_skip ?_
          refine x_block_normal ?_
          refine x_then_normal ?_
          refine c_region ?_
          refine t_st rfl (st_add rfl rfl (by omega)) ?_
          refine t_mv rfl rfl ?_
          refine t_nil ?_
          exact x_againM (x554 + x559) (Option.some.inj hm).symm (e' := [(0, .int .i64 (x1)), (1, .slice A2 (l5).length c3), (7, .int .i64 (x554 + x559)), (8, .int .i64 (x374)), (46, .slice A336 (l332).length c337), (47, .int .i64 ((l332.length : Int))), (48, .int .i64 ((k555 : Int) + 1))]) ⟨rfl, rfl, rfl, rfl, rfl, rfl, rfl, trivial⟩ (.refl _) ⟨rfl, rfl, ((hle553.trans hle606))⟩
       ·
        rintro x554 b552 _ _ ⟨rfl, rfl, hle553⟩ hq640
        rw [hq640] at hk558
        have hm := elimL hk558
        refine c_sr ?_
        refine t_st rfl (st_lss_f rfl rfl (by omega)) ?_
        refine t_ne ?_
        refine c_seq ?_
        refine c_cond_f rfl ?_
        refine c_exit ?_
        refine x_then_exit ?_
        refine x_then_exit ?_
        refine x_block_out ?_
        refine x_then_normal ?_
        refine c_sr ?_
        refine t_mv rfl rfl ?_
        refine t_mv rfl rfl ?_
        refine t_st rfl (st_eql rfl rfl) ?_
        refine t_as rfl rfl ?_
        refine t_ne ?_
        refine c_ret ?_
        obtain rfl := some1 hm
        exact retM (rs := [.tmp 4]) [.bool (decide (x554 = x1))] (hle335.trans (hle342.trans (hle373.trans hle553))) (by decide) rfl ⟨rfl, trivial⟩ rfl (sub_skip hs338 (.refl _)) ⟨rfl, rfl⟩

end Go.Proofs.YtnlnohallnfbmaaGreatDoor
