/- Contracts: the code computes its model (part 5). -/
import Derived.Test.YthcgoaejnpelbaaGreatDoorOP4
set_option linter.unusedVariables false
set_option linter.unusedSimpArgs false
namespace Go.Proofs.YthcgoaejnpelbaaGreatDoor
open Go.RowKit Go.Fp

set_option maxRecDepth 20000 in
theorem cSlicesSymMergeCmpFunc_2 : ∀ (N : Nat) (b : Base) (R : Hp) (x7 : Int) (x8 : Int) (x9 : Int) (l13 : (List FareSpan)) (l14 : (List Int)) (g6 : Nat) (A10 : Option Addr) (c11 : Nat) (A3 : Option Addr) (c4 : Nat) (hs2 : Hp) (h12 : FZ rFareSpan b.w A10 c11 l13) (h5 : OS 3 (OT.fr (RT.int .i64)) b.w (.slice A3 l14.length c4) l14 hs2) (l6681 : (List Int)) (hm : mSlicesSymMergeCmpFunc_2 N x7 x8 x9 l13 l14 = some l6681),
    CallsG Tryz.prog 59 [.slice A3 (l14).length c4, .int .i64 (x7), .int .i64 (x8), .int .i64 (x9), .func (.func 25) #[] #[.pointer (some ⟨g6, 0, none⟩)]] b ((g6, Cl 36 [.slice A10 (l13).length c11]) :: (hs2 ++ R)) (fun v b' hp' => ∃ (hs6679 : Hp), .tuple #[] = v ∧ (g6, Cl 36 [.slice A10 (l13).length c11]) :: (hs6679 ++ R) = hp' ∧ OS 3 (OT.fr (RT.int .i64)) b'.w (.slice A3 l6681.length c4) l6681 hs6679 ∧ l6681.length = l14.length) := by
  intro N
  induction N with
  | zero =>
    intro b R x7 x8 x9 l13 l14 g6 A10 c11 A3 c4 hs2 h12 h5 l6681 hm
    unfold mSlicesSymMergeCmpFunc_2 at hm
    cases hm
  | succ N ih =>
    intro b R x7 x8 x9 l13 l14 g6 A10 c11 A3 c4 hs2 h12 h5 l6681 hm
    refine fn_enterG 220 Tryz.func59 rfl Tryz.ntmps59 rfl ?_
    unfold mSlicesSymMergeCmpFunc_2 at hm
    refine c_seq ?_
    refine c_sr ?_
    refine t_mv rfl rfl ?_
    refine t_mv rfl rfl ?_
    obtain ⟨_, h6683, hm⟩ := bindS hm
    have h6683 := (chk_some h6683).2
    refine t_st rfl (st_sub rfl rfl h6683) ?_
    refine t_st rfl (st_eql rfl rfl) ?_
    refine t_ne ?_
    refine c_cond _ rfl (fun hc6684 => ?_) (fun hc6684 => ?_)
    ·
     rw [if_pos (of_decide_eq_true hc6684)] at hm
     refine c_sr ?_
     refine t_mv rfl rfl ?_
     refine t_as rfl rfl ?_
     refine t_ne ?_
     refine c_sr ?_
     refine t_mv rfl rfl ?_
     refine t_as rfl rfl ?_
     refine t_ne ?_
     obtain ⟨x6925, hj6926, hk6926⟩ := bindS hm
     refine c_join (fun b6923 e' hp' => [(0, .slice A3 (l14).length c4), (1, .int .i64 (x7)), (10, .int .i64 (x6925))] = e' ∧ (g6, Cl 36 [.slice A10 (l13).length c11]) :: (hs2 ++ R) = hp' ∧ b.Le b6923) ?_ ?_
     ·
      have hm := hj6926
      refine c_block ?_
      refine c_loopM (unc2 fun x7086 x7087 => fun b7084 e' hp' => [(0, .slice A3 (l14).length c4), (1, .int .i64 (x7)), (4, .func (.func 25) #[] #[.pointer (some ⟨g6, 0, none⟩)]), (10, .int .i64 (x7086)), (11, .int .i64 (x7087))] = e' ∧ (g6, Cl 36 [.slice A10 (l13).length c11]) :: (hs2 ++ R) = hp' ∧ b.Le b7084) hm (e' := [(0, .slice A3 (l14).length c4), (1, .int .i64 (x7)), (4, .func (.func 25) #[] #[.pointer (some ⟨g6, 0, none⟩)]), (10, .int .i64 (x8)), (11, .int .i64 (x9))]) ⟨rfl, rfl, rfl, rfl, rfl, trivial⟩ (.refl _) ⟨rfl, rfl, (Base.Le.refl _)⟩ ?_
      rintro ⟨x7086, x7087⟩ b7084 _ _ oL6927 ⟨rfl, rfl, hle7085⟩ hstepL6927 houtL6927
      unfold mSlicesSymMergeCmpFunc_2_L6927 at hstepL6927
      have hm := (unc2E hstepL6927)
      refine c_seq ?_
      refine c_sr ?_
      refine t_mv rfl rfl ?_
      refine t_mv rfl rfl ?_
      refine t_st rfl (st_lss rfl rfl) ?_
      refine t_ne ?_
      refine c_cond _ rfl (fun hc7088 => ?_) (fun hc7088 => ?_)
      ·
       rw [if_pos (of_decide_eq_true hc7088)] at hm
       refine c_skip ?_
       refine x_then_normal ?_
       refine c_block ?_
       refine c_sr ?_
       refine t_mv rfl rfl ?_
       refine t_mv rfl rfl ?_
       obtain ⟨_, h7089, hm⟩ := bindS hm
       have h7089 := (chk_some h7089).2
       refine t_st rfl (st_add rfl rfl h7089) ?_
       refine t_st rfl (st_conv rfl int3_i64 int110_u64) ?_
       obtain ⟨_, h7090, hm⟩ := bindS hm
       have h7090 := shN_some h7090
       refine t_st rfl (st_shr rfl rfl h7090) ?_
       refine t_st rfl (st_conv rfl int110_u64 int3_i64) ?_
       refine t_as rfl rfl ?_
       refine t_ne ?_
       refine c_seq ?_
       obtain ⟨x7127, h7128, hm⟩ := bindS hm
       obtain ⟨x7143, h7144, hm⟩ := bindS hm
       obtain ⟨x7159, hcl7160, hm⟩ := bindS hm
       refine D_drawI mixed (.refl _) ?_
       refine E_s0 0 rfl (st_move rfl) ?_
       refine E_s0 1 rfl (st_move rfl) ?_
       refine E_s0 2 rfl (st_move rfl) ?_
       obtain ⟨j7129, hj7130, hx7131⟩ := idx_some h7128
       obtain ⟨cs7132, hs7137, P7138, P7139, hq7140, hr7133, hcs7134, hA7135, hlt7136, hb7141, hho7142⟩ := OS.get (sz := 1) rfl (by decide) (h5.le hle7085) hx7131
       obtain ⟨rfl, rfl⟩ := hr7133
       refine E_s0 3 rfl (st_index_old j7129 rfl rfl hj7130 hlt7136 hA7135 sl22) ?_
       refine E_st 4 rfl (st_load_rd rfl one3 (fun w ho => hcs7134 w _ ho (.cons _ (List.sublist_append_left _ _)) 0 _ rfl)) ?_
       refine E_s0 5 rfl (st_move rfl) ?_
       refine E_s0 6 rfl (st_move rfl) ?_
       obtain ⟨j7145, hj7146, hx7147⟩ := idx_some h7144
       obtain ⟨cs7148, hs7153, P7154, P7155, hq7156, hr7149, hcs7150, hA7151, hlt7152, hb7157, hho7158⟩ := OS.get (sz := 1) rfl (by decide) (h5.le hle7085) hx7147
       obtain ⟨rfl, rfl⟩ := hr7149
       refine E_s0 7 rfl (st_index_old j7145 rfl rfl hj7146 hlt7152 hA7151 sl22) ?_
       refine E_st 8 rfl (st_load_rd rfl one3 (fun w ho => hcs7150 w _ ho (.cons _ (List.sublist_append_left _ _)) 0 _ rfl)) ?_
       refine E_out ?_
       refine D_all [9] (by kernel_rfl) rfl ?_
       refine R_callvG (Base.Le.refl _) rfl rfl #[] #[.pointer (some ⟨g6, 0, none⟩)] [.int .i64 (x7127), .int .i64 (x7143)] rfl call25 rfl (cFarePack_1 _ _ x7127 x7143 l13 g6 A10 c11 (h12.le hle7085) x7159 hcl7160) ?_ ?_
       ·
        rintro _ b7161 _ hle7162 ⟨rfl, rfl⟩
        refine ⟨.inl (by kernel_rfl), ?_⟩
        refine E_il hle7162 ?_
        refine E_s0 10 rfl (st_lss rfl rfl) ?_
        refine E_out ?_
        refine D_done (by kernel_rfl) ?_
        refine x_then_normal ?_
        refine c_cond _ rfl (fun hc7163 => ?_) (fun hc7163 => ?_)
        ·
         rw [if_pos (of_decide_eq_true hc7163)] at hm
         refine c_region ?_
         refine t_mv rfl rfl ?_
         obtain ⟨_, h7164, hm⟩ := bindS hm
         have h7164 := (chk_some h7164).2
         refine t_st rfl (st_add rfl rfl h7164) ?_
         refine t_as rfl rfl ?_
         refine t_nil ?_
         refine x_block_normal ?_
         exact x_againM ((IntKind.wrap .i64 (shrI .u64 (IntKind.wrap .u64 (x7086 + x7087)) 1)) + 1, x7087) (Option.some.inj hm).symm (e' := [(0, .slice A3 (l14).length c4), (1, .int .i64 (x7)), (4, .func (.func 25) #[] #[.pointer (some ⟨g6, 0, none⟩)]), (10, .int .i64 ((IntKind.wrap .i64 (shrI .u64 (IntKind.wrap .u64 (x7086 + x7087)) 1)) + 1)), (11, .int .i64 (x7087))]) ⟨rfl, rfl, rfl, rfl, rfl, trivial⟩ (.refl _) ⟨rfl, rfl, ((hle7085.trans hle7162))⟩
        ·
         rw [if_neg (of_decide_eq_false hc7163)] at hm
         refine c_region ?_
         refine t_mv rfl rfl ?_
         refine t_as rfl rfl ?_
         refine t_nil ?_
         refine x_block_normal ?_
         exact x_againM (x7086, IntKind.wrap .i64 (shrI .u64 (IntKind.wrap .u64 (x7086 + x7087)) 1)) (Option.some.inj hm).symm (e' := [(0, .slice A3 (l14).length c4), (1, .int .i64 (x7)), (4, .func (.func 25) #[] #[.pointer (some ⟨g6, 0, none⟩)]), (10, .int .i64 (x7086)), (11, .int .i64 (IntKind.wrap .i64 (shrI .u64 (IntKind.wrap .u64 (x7086 + x7087)) 1)))]) ⟨rfl, rfl, rfl, rfl, rfl, trivial⟩ (.refl _) ⟨rfl, rfl, ((hle7085.trans hle7162))⟩
       exact R_nil
      ·
       rw [if_neg (of_decide_eq_false hc7088)] at hm
       refine c_exit ?_
       refine x_then_exit ?_
       refine x_then_exit ?_
       refine x_block_out ?_
       have hm := congrArg some (houtL6927 _ (Option.some.inj hm).symm)
       obtain rfl := some1 hm
       exact x_join (e' := [(0, .slice A3 (l14).length c4), (1, .int .i64 (x7)), (10, .int .i64 (x7086))]) ⟨rfl, rfl, rfl, trivial⟩ (.refl _) ⟨rfl, rfl, hle7085⟩
     ·
      rintro b6923 _ _ ⟨rfl, rfl, hle6924⟩
      have hm := hk6926
      obtain ⟨l7614, hj7616, hk7616⟩ := bindS hm
      refine c_join (fun b7609 e' hp' => ∃ (hs7612 : Hp), [] = e' ∧ (g6, Cl 36 [.slice A10 (l13).length c11]) :: (hs7612 ++ R) = hp' ∧ b6923.Le b7609 ∧ OS 3 (OT.fr (RT.int .i64)) b7609.w (.slice A3 l7614.length c4) l7614 hs7612 ∧ l7614.length = l14.length) ?_ ?_
      ·
       have hm := hj7616
       refine c_sr ?_
       refine t_mv rfl rfl ?_
       refine t_as rfl rfl ?_
       refine t_ne ?_
       refine c_block ?_
       refine c_loopM (unc2 fun x7915 l7916 => fun b7910 e' hp' => ∃ (hs7913 : Hp), [(0, .slice A3 (l7916).length c4), (10, .int .i64 (x6925)), (13, .int .i64 (x7915))] = e' ∧ (g6, Cl 36 [.slice A10 (l13).length c11]) :: (hs7913 ++ R) = hp' ∧ b6923.Le b7910 ∧ OS 3 (OT.fr (RT.int .i64)) b7910.w (.slice A3 l7916.length c4) l7916 hs7913 ∧ l7916.length = l14.length) hm (e' := [(0, .slice A3 (l14).length c4), (10, .int .i64 (x6925)), (13, .int .i64 (x7))]) ⟨rfl, rfl, rfl, trivial⟩ (.refl _) ⟨hs2, rfl, rfl, (Base.Le.refl _), (h5.le hle6924), rfl⟩ ?_
       rintro ⟨x7915, l7916⟩ b7910 _ _ oL7617 ⟨hs7913, rfl, rfl, hle7911, h7914, hln7917⟩ hstepL7617 houtL7617
       unfold mSlicesSymMergeCmpFunc_2_L7617 at hstepL7617
       have hm := (unc2E hstepL7617)
       refine c_seq ?_
       refine c_sr ?_
       refine t_mv rfl rfl ?_
       refine t_mv rfl rfl ?_
       obtain ⟨_, h7918, hm⟩ := bindS hm
       have h7918 := (chk_some h7918).2
       refine t_st rfl (st_sub rfl rfl h7918) ?_
       refine t_st rfl (st_lss rfl rfl) ?_
       refine t_ne ?_
       refine c_cond _ rfl (fun hc7919 => ?_) (fun hc7919 => ?_)
       ·
        rw [if_pos (of_decide_eq_true hc7919)] at hm
        refine c_skip ?_
        refine x_then_normal ?_
        refine c_seq ?_
        refine c_block ?_
        obtain ⟨_, h7990, hm⟩ := bindS hm
        obtain ⟨_, h7991, hm⟩ := bindS hm
        obtain ⟨x7992, h7993, hm⟩ := bindS hm
        obtain ⟨x8008, h8009, hm⟩ := bindS hm
        obtain ⟨x8024, h8025, hm⟩ := bindS hm
        obtain ⟨x8042, h8043, hm⟩ := bindS hm
        refine D_drawI mixed (.refl _) ?_
        refine E_s0 0 rfl (st_move rfl) ?_
        refine E_s0 1 rfl (st_move rfl) ?_
        refine E_s0 2 rfl (st_move rfl) ?_
        refine E_s0 3 rfl (st_move rfl) ?_
        have h7990 := (chk_some h7990).2
        refine E_s0 4 rfl (st_add rfl rfl h7990) ?_
        refine E_s0 5 rfl (st_move rfl) ?_
        refine E_s0 6 rfl (st_move rfl) ?_
        have h7991 := (chk_some h7991).2
        refine E_s0 7 rfl (st_add rfl rfl h7991) ?_
        obtain ⟨j7994, hj7995, hx7996⟩ := idx_some h7993
        obtain ⟨cs7997, hs8002, P8003, P8004, hq8005, hr7998, hcs7999, hA8000, hlt8001, hb8006, hho8007⟩ := OS.get (sz := 1) rfl (by decide) h7914 hx7996
        obtain ⟨rfl, rfl⟩ := hr7998
        refine E_s0 8 rfl (st_index_old j7994 rfl rfl hj7995 hlt8001 hA8000 sl22) ?_
        refine E_st 9 rfl (st_load_rd rfl one3 (fun w ho => hcs7999 w _ ho (.cons _ (List.sublist_append_left _ _)) 0 _ rfl)) ?_
        refine E_s0 10 rfl (st_move rfl) ?_
        refine E_s0 11 rfl (st_move rfl) ?_
        obtain ⟨j8010, hj8011, hx8012⟩ := idx_some h8009
        obtain ⟨cs8013, hs8018, P8019, P8020, hq8021, hr8014, hcs8015, hA8016, hlt8017, hb8022, hho8023⟩ := OS.get (sz := 1) rfl (by decide) h7914 hx8012
        obtain ⟨rfl, rfl⟩ := hr8014
        refine E_s0 12 rfl (st_index_old j8010 rfl rfl hj8011 hlt8017 hA8016 sl22) ?_
        refine E_st 13 rfl (st_load_rd rfl one3 (fun w ho => hcs8015 w _ ho (.cons _ (List.sublist_append_left _ _)) 0 _ rfl)) ?_
        obtain ⟨j8026, hj8027, hx8028⟩ := idx_some h8025
        obtain ⟨cs8029, hs8034, P8035, P8036, hq8037, hr8030, hcs8031, hA8032, hlt8033, hb8038, hho8039⟩ := OS.get (sz := 1) rfl (by decide) h7914 hx8028
        obtain ⟨rfl, rfl⟩ := hr8030
        refine E_s0 14 rfl (st_index_old j8026 rfl rfl hj8027 hlt8033 hA8032 sl22) ?_
        refine E_out ?_
        refine D_all [15] (by kernel_rfl) rfl ?_
        refine R_do (Base.Le.refl _) rfl rfl (u_putOS hj8027 (sz := 1) (a' := x7992) rfl [_] R 0 1 [.int .i64 (x7992)] rfl h7914 hx8028 rfl rfl rfl siz3 rfl (mem_c rfl mem_n) (fun cs hsj hh => by obtain ⟨rfl, rfl⟩ := hh; exact ⟨by decide, rfl, rfl⟩)) ?_ ?_
        ·
         rintro _ _ ⟨hs8040, rfl, h8041⟩
         refine ⟨.inl (by kernel_rfl), ?_⟩
         refine d_resp 0 rfl (v' := .slice A3 (put l7916 x7915 x7992).length c4) (by simp only [put_length]) ?_
         refine d_resp 63 rfl (v' := .slice A3 (put l7916 x7915 x7992).length c4) (by simp only [put_length]) ?_
         obtain ⟨j8044, hj8045, hx8046⟩ := idx_some h8043
         obtain ⟨cs8047, hs8052, P8053, P8054, hq8055, hr8048, hcs8049, hA8050, hlt8051, hb8056, hho8057⟩ := OS.get (sz := 1) rfl (by decide) h8041 hx8046
         obtain ⟨rfl, rfl⟩ := hr8048
         refine E_il (Base.Le.refl _) ?_
         refine E_s0 16 rfl (st_index_old j8044 rfl rfl hj8045 hlt8051 hA8050 sl22) ?_
         refine E_out ?_
         refine D_all [17] (by kernel_rfl) rfl ?_
         refine R_do (Base.Le.refl _) rfl rfl (u_putOS hj8045 (sz := 1) (a' := x8008) rfl [_] R 0 1 [.int .i64 (x8008)] rfl h8041 hx8046 rfl rfl rfl siz3 rfl (mem_c rfl mem_n) (fun cs hsj hh => by obtain ⟨rfl, rfl⟩ := hh; exact ⟨by decide, rfl, rfl⟩)) ?_ ?_
         ·
          rintro _ _ ⟨hs8058, rfl, h8059⟩
          refine ⟨.inl (by kernel_rfl), ?_⟩
          refine d_resp 0 rfl (v' := .slice A3 (put (put l7916 x7915 x7992) (x7915 + 1) x8008).length c4) (by simp only [put_length]) ?_
          refine D_done (by kernel_rfl) ?_
          refine x_block_normal ?_
          refine x_then_normal ?_
          refine c_region ?_
          refine t_mv rfl rfl ?_
          obtain ⟨_, h8060, hm⟩ := bindS hm
          have h8060 := (chk_some h8060).2
          refine t_st rfl (st_add rfl rfl h8060) ?_
          refine t_as rfl rfl ?_
          refine t_nil ?_
          exact x_againM (x7915 + 1, put (put l7916 x7915 x7992) (x7915 + 1) x8008) (Option.some.inj hm).symm (e' := [(0, .slice A3 (put (put l7916 x7915 x7992) (x7915 + 1) x8008).length c4), (10, .int .i64 (x6925)), (13, .int .i64 (x7915 + 1))]) ⟨rfl, rfl, rfl, trivial⟩ (.refl _) ⟨hs8058, rfl, rfl, (hle7911), h8059, ((put_length _ _ _).trans ((put_length _ _ _).trans hln7917))⟩
         exact R_nil
        exact R_nil
       ·
        rw [if_neg (of_decide_eq_false hc7919)] at hm
        refine c_exit ?_
        refine x_then_exit ?_
        refine x_then_exit ?_
        refine x_block_out ?_
        have hm := congrArg some (houtL7617 _ (Option.some.inj hm).symm)
        obtain rfl := some1 hm
        exact x_join (e' := []) trivial (.refl _) ⟨hs7913, rfl, rfl, hle7911, h7914, hln7917⟩
      ·
       rintro b7609 _ _ ⟨hs7612, rfl, rfl, hle7610, h7613, hln7615⟩
       have hm := hk7616
       refine c_ret ?_
       refine x_then_ret ?_
       obtain rfl := some1 hm
       exact retM (rs := []) [] (hle6924.trans hle7610) (by decide) rfl trivial rfl (.refl _) ⟨hs7612, rfl, rfl, h7613, hln7615⟩
    ·
     rw [if_neg (of_decide_eq_false hc6684)] at hm
     refine c_skip ?_
     refine x_then_normal ?_
     refine c_seq ?_
     refine c_sr ?_
     refine t_mv rfl rfl ?_
     refine t_mv rfl rfl ?_
     obtain ⟨_, h8061, hm⟩ := bindS hm
     have h8061 := (chk_some h8061).2
     refine t_st rfl (st_sub rfl rfl h8061) ?_
     refine t_st rfl (st_eql rfl rfl) ?_
     refine t_ne ?_
     refine c_cond _ rfl (fun hc8062 => ?_) (fun hc8062 => ?_)
     ·
      rw [if_pos (of_decide_eq_true hc8062)] at hm
      refine c_sr ?_
      refine t_mv rfl rfl ?_
      refine t_as rfl rfl ?_
      refine t_ne ?_
      refine c_sr ?_
      refine t_mv rfl rfl ?_
      refine t_as rfl rfl ?_
      refine t_ne ?_
      obtain ⟨x8303, hj8304, hk8304⟩ := bindS hm
      refine c_join (fun b8301 e' hp' => [(0, .slice A3 (l14).length c4), (2, .int .i64 (x8)), (14, .int .i64 (x8303))] = e' ∧ (g6, Cl 36 [.slice A10 (l13).length c11]) :: (hs2 ++ R) = hp' ∧ b.Le b8301) ?_ ?_
      ·
       have hm := hj8304
       refine c_block ?_
       refine c_loopM (unc2 fun x8464 x8465 => fun b8462 e' hp' => [(0, .slice A3 (l14).length c4), (2, .int .i64 (x8)), (4, .func (.func 25) #[] #[.pointer (some ⟨g6, 0, none⟩)]), (14, .int .i64 (x8464)), (15, .int .i64 (x8465))] = e' ∧ (g6, Cl 36 [.slice A10 (l13).length c11]) :: (hs2 ++ R) = hp' ∧ b.Le b8462) hm (e' := [(0, .slice A3 (l14).length c4), (2, .int .i64 (x8)), (4, .func (.func 25) #[] #[.pointer (some ⟨g6, 0, none⟩)]), (14, .int .i64 (x7)), (15, .int .i64 (x8))]) ⟨rfl, rfl, rfl, rfl, rfl, trivial⟩ (.refl _) ⟨rfl, rfl, (Base.Le.refl _)⟩ ?_
       rintro ⟨x8464, x8465⟩ b8462 _ _ oL8305 ⟨rfl, rfl, hle8463⟩ hstepL8305 houtL8305
       unfold mSlicesSymMergeCmpFunc_2_L8305 at hstepL8305
       have hm := (unc2E hstepL8305)
       refine c_seq ?_
       refine c_sr ?_
       refine t_mv rfl rfl ?_
       refine t_mv rfl rfl ?_
       refine t_st rfl (st_lss rfl rfl) ?_
       refine t_ne ?_
       refine c_cond _ rfl (fun hc8466 => ?_) (fun hc8466 => ?_)
       ·
        rw [if_pos (of_decide_eq_true hc8466)] at hm
        refine c_skip ?_
        refine x_then_normal ?_
        refine c_block ?_
        refine c_sr ?_
        refine t_mv rfl rfl ?_
        refine t_mv rfl rfl ?_
        obtain ⟨_, h8467, hm⟩ := bindS hm
        have h8467 := (chk_some h8467).2
        refine t_st rfl (st_add rfl rfl h8467) ?_
        refine t_st rfl (st_conv rfl int3_i64 int110_u64) ?_
        obtain ⟨_, h8468, hm⟩ := bindS hm
        have h8468 := shN_some h8468
        refine t_st rfl (st_shr rfl rfl h8468) ?_
        refine t_st rfl (st_conv rfl int110_u64 int3_i64) ?_
        refine t_as rfl rfl ?_
        refine t_ne ?_
        refine c_seq ?_
        obtain ⟨x8505, h8506, hm⟩ := bindS hm
        obtain ⟨x8521, h8522, hm⟩ := bindS hm
        obtain ⟨x8537, hcl8538, hm⟩ := bindS hm
        refine D_drawI mixed (.refl _) ?_
        refine E_s0 0 rfl (st_move rfl) ?_
        refine E_s0 1 rfl (st_move rfl) ?_
        refine E_s0 2 rfl (st_move rfl) ?_
        obtain ⟨j8507, hj8508, hx8509⟩ := idx_some h8506
        obtain ⟨cs8510, hs8515, P8516, P8517, hq8518, hr8511, hcs8512, hA8513, hlt8514, hb8519, hho8520⟩ := OS.get (sz := 1) rfl (by decide) (h5.le hle8463) hx8509
        obtain ⟨rfl, rfl⟩ := hr8511
        refine E_s0 3 rfl (st_index_old j8507 rfl rfl hj8508 hlt8514 hA8513 sl22) ?_
        refine E_st 4 rfl (st_load_rd rfl one3 (fun w ho => hcs8512 w _ ho (.cons _ (List.sublist_append_left _ _)) 0 _ rfl)) ?_
        refine E_s0 5 rfl (st_move rfl) ?_
        refine E_s0 6 rfl (st_move rfl) ?_
        obtain ⟨j8523, hj8524, hx8525⟩ := idx_some h8522
        obtain ⟨cs8526, hs8531, P8532, P8533, hq8534, hr8527, hcs8528, hA8529, hlt8530, hb8535, hho8536⟩ := OS.get (sz := 1) rfl (by decide) (h5.le hle8463) hx8525
        obtain ⟨rfl, rfl⟩ := hr8527
        refine E_s0 7 rfl (st_index_old j8523 rfl rfl hj8524 hlt8530 hA8529 sl22) ?_
        refine E_st 8 rfl (st_load_rd rfl one3 (fun w ho => hcs8528 w _ ho (.cons _ (List.sublist_append_left _ _)) 0 _ rfl)) ?_
        refine E_out ?_
        refine D_all [9] (by kernel_rfl) rfl ?_
        refine R_callvG (Base.Le.refl _) rfl rfl #[] #[.pointer (some ⟨g6, 0, none⟩)] [.int .i64 (x8505), .int .i64 (x8521)] rfl call25 rfl (cFarePack_1 _ _ x8505 x8521 l13 g6 A10 c11 (h12.le hle8463) x8537 hcl8538) ?_ ?_
        ·
         rintro _ b8539 _ hle8540 ⟨rfl, rfl⟩
         refine ⟨.inl (by kernel_rfl), ?_⟩
         refine E_il hle8540 ?_
         refine E_s0 10 rfl (st_lss rfl rfl) ?_
         refine E_s0 11 rfl (st_not rfl) ?_
         refine E_out ?_
         refine D_done (by kernel_rfl) ?_
         refine x_then_normal ?_
         refine c_cond _ rfl (fun hc8541 => ?_) (fun hc8541 => ?_)
         ·
          rw [if_neg (of_decide_eq_false (notT hc8541))] at hm
          refine c_region ?_
          refine t_mv rfl rfl ?_
          obtain ⟨_, h8542, hm⟩ := bindS hm
          have h8542 := (chk_some h8542).2
          refine t_st rfl (st_add rfl rfl h8542) ?_
          refine t_as rfl rfl ?_
          refine t_nil ?_
          refine x_block_normal ?_
          exact x_againM ((IntKind.wrap .i64 (shrI .u64 (IntKind.wrap .u64 (x8464 + x8465)) 1)) + 1, x8465) (Option.some.inj hm).symm (e' := [(0, .slice A3 (l14).length c4), (2, .int .i64 (x8)), (4, .func (.func 25) #[] #[.pointer (some ⟨g6, 0, none⟩)]), (14, .int .i64 ((IntKind.wrap .i64 (shrI .u64 (IntKind.wrap .u64 (x8464 + x8465)) 1)) + 1)), (15, .int .i64 (x8465))]) ⟨rfl, rfl, rfl, rfl, rfl, trivial⟩ (.refl _) ⟨rfl, rfl, ((hle8463.trans hle8540))⟩
         ·
          rw [if_pos (of_decide_eq_true (notF hc8541))] at hm
          refine c_region ?_
          refine t_mv rfl rfl ?_
          refine t_as rfl rfl ?_
          refine t_nil ?_
          refine x_block_normal ?_
          exact x_againM (x8464, IntKind.wrap .i64 (shrI .u64 (IntKind.wrap .u64 (x8464 + x8465)) 1)) (Option.some.inj hm).symm (e' := [(0, .slice A3 (l14).length c4), (2, .int .i64 (x8)), (4, .func (.func 25) #[] #[.pointer (some ⟨g6, 0, none⟩)]), (14, .int .i64 (x8464)), (15, .int .i64 (IntKind.wrap .i64 (shrI .u64 (IntKind.wrap .u64 (x8464 + x8465)) 1)))]) ⟨rfl, rfl, rfl, rfl, rfl, trivial⟩ (.refl _) ⟨rfl, rfl, ((hle8463.trans hle8540))⟩
        exact R_nil
       ·
        rw [if_neg (of_decide_eq_false hc8466)] at hm
        refine c_exit ?_
        refine x_then_exit ?_
        refine x_then_exit ?_
        refine x_block_out ?_
        have hm := congrArg some (houtL8305 _ (Option.some.inj hm).symm)
        obtain rfl := some1 hm
        exact x_join (e' := [(0, .slice A3 (l14).length c4), (2, .int .i64 (x8)), (14, .int .i64 (x8464))]) ⟨rfl, rfl, rfl, trivial⟩ (.refl _) ⟨rfl, rfl, hle8463⟩
      ·
       rintro b8301 _ _ ⟨rfl, rfl, hle8302⟩
       have hm := hk8304
       obtain ⟨l8989, hj8991, hk8991⟩ := bindS hm
       refine c_join (fun b8984 e' hp' => ∃ (hs8987 : Hp), [] = e' ∧ (g6, Cl 36 [.slice A10 (l13).length c11]) :: (hs8987 ++ R) = hp' ∧ b8301.Le b8984 ∧ OS 3 (OT.fr (RT.int .i64)) b8984.w (.slice A3 l8989.length c4) l8989 hs8987 ∧ l8989.length = l14.length) ?_ ?_
       ·
        have hm := hj8991
        refine c_sr ?_
        refine t_mv rfl rfl ?_
        refine t_as rfl rfl ?_
        refine t_ne ?_
        refine c_block ?_
        refine c_loopM (unc2 fun x9288 l9289 => fun b9283 e' hp' => ∃ (hs9286 : Hp), [(0, .slice A3 (l9289).length c4), (14, .int .i64 (x8303)), (17, .int .i64 (x9288))] = e' ∧ (g6, Cl 36 [.slice A10 (l13).length c11]) :: (hs9286 ++ R) = hp' ∧ b8301.Le b9283 ∧ OS 3 (OT.fr (RT.int .i64)) b9283.w (.slice A3 l9289.length c4) l9289 hs9286 ∧ l9289.length = l14.length) hm (e' := [(0, .slice A3 (l14).length c4), (14, .int .i64 (x8303)), (17, .int .i64 (x8))]) ⟨rfl, rfl, rfl, trivial⟩ (.refl _) ⟨hs2, rfl, rfl, (Base.Le.refl _), (h5.le hle8302), rfl⟩ ?_
        rintro ⟨x9288, l9289⟩ b9283 _ _ oL8992 ⟨hs9286, rfl, rfl, hle9284, h9287, hln9290⟩ hstepL8992 houtL8992
        unfold mSlicesSymMergeCmpFunc_2_L8992 at hstepL8992
        have hm := (unc2E hstepL8992)
        refine c_seq ?_
        refine c_sr ?_
        refine t_mv rfl rfl ?_
        refine t_mv rfl rfl ?_
        refine t_st rfl (st_gtr rfl rfl) ?_
        refine t_ne ?_
        refine c_cond _ rfl (fun hc9291 => ?_) (fun hc9291 => ?_)
        ·
         rw [if_pos (of_decide_eq_true hc9291)] at hm
         refine c_skip ?_
         refine x_then_normal ?_
         refine c_seq ?_
         refine c_block ?_
         obtain ⟨_, h9362, hm⟩ := bindS hm
         obtain ⟨_, h9363, hm⟩ := bindS hm
         obtain ⟨x9364, h9365, hm⟩ := bindS hm
         obtain ⟨x9380, h9381, hm⟩ := bindS hm
         obtain ⟨x9396, h9397, hm⟩ := bindS hm
         obtain ⟨x9414, h9415, hm⟩ := bindS hm
         refine D_drawI mixed (.refl _) ?_
         refine E_s0 0 rfl (st_move rfl) ?_
         refine E_s0 1 rfl (st_move rfl) ?_
         refine E_s0 2 rfl (st_move rfl) ?_
         refine E_s0 3 rfl (st_move rfl) ?_
         have h9362 := (chk_some h9362).2
         refine E_s0 4 rfl (st_sub rfl rfl h9362) ?_
         refine E_s0 5 rfl (st_move rfl) ?_
         refine E_s0 6 rfl (st_move rfl) ?_
         have h9363 := (chk_some h9363).2
         refine E_s0 7 rfl (st_sub rfl rfl h9363) ?_
         obtain ⟨j9366, hj9367, hx9368⟩ := idx_some h9365
         obtain ⟨cs9369, hs9374, P9375, P9376, hq9377, hr9370, hcs9371, hA9372, hlt9373, hb9378, hho9379⟩ := OS.get (sz := 1) rfl (by decide) h9287 hx9368
         obtain ⟨rfl, rfl⟩ := hr9370
         refine E_s0 8 rfl (st_index_old j9366 rfl rfl hj9367 hlt9373 hA9372 sl22) ?_
         refine E_st 9 rfl (st_load_rd rfl one3 (fun w ho => hcs9371 w _ ho (.cons _ (List.sublist_append_left _ _)) 0 _ rfl)) ?_
         refine E_s0 10 rfl (st_move rfl) ?_
         refine E_s0 11 rfl (st_move rfl) ?_
         obtain ⟨j9382, hj9383, hx9384⟩ := idx_some h9381
         obtain ⟨cs9385, hs9390, P9391, P9392, hq9393, hr9386, hcs9387, hA9388, hlt9389, hb9394, hho9395⟩ := OS.get (sz := 1) rfl (by decide) h9287 hx9384
         obtain ⟨rfl, rfl⟩ := hr9386
         refine E_s0 12 rfl (st_index_old j9382 rfl rfl hj9383 hlt9389 hA9388 sl22) ?_
         refine E_st 13 rfl (st_load_rd rfl one3 (fun w ho => hcs9387 w _ ho (.cons _ (List.sublist_append_left _ _)) 0 _ rfl)) ?_
         obtain ⟨j9398, hj9399, hx9400⟩ := idx_some h9397
         obtain ⟨cs9401, hs9406, P9407, P9408, hq9409, hr9402, hcs9403, hA9404, hlt9405, hb9410, hho9411⟩ := OS.get (sz := 1) rfl (by decide) h9287 hx9400
         obtain ⟨rfl, rfl⟩ := hr9402
         refine E_s0 14 rfl (st_index_old j9398 rfl rfl hj9399 hlt9405 hA9404 sl22) ?_
         refine E_out ?_
         refine D_all [15] (by kernel_rfl) rfl ?_
         refine R_do (Base.Le.refl _) rfl rfl (u_putOS hj9399 (sz := 1) (a' := x9364) rfl [_] R 0 1 [.int .i64 (x9364)] rfl h9287 hx9400 rfl rfl rfl siz3 rfl (mem_c rfl mem_n) (fun cs hsj hh => by obtain ⟨rfl, rfl⟩ := hh; exact ⟨by decide, rfl, rfl⟩)) ?_ ?_
         ·
          rintro _ _ ⟨hs9412, rfl, h9413⟩
          refine ⟨.inl (by kernel_rfl), ?_⟩
          refine d_resp 0 rfl (v' := .slice A3 (put l9289 x9288 x9364).length c4) (by simp only [put_length]) ?_
          refine d_resp 115 rfl (v' := .slice A3 (put l9289 x9288 x9364).length c4) (by simp only [put_length]) ?_
          obtain ⟨j9416, hj9417, hx9418⟩ := idx_some h9415
          obtain ⟨cs9419, hs9424, P9425, P9426, hq9427, hr9420, hcs9421, hA9422, hlt9423, hb9428, hho9429⟩ := OS.get (sz := 1) rfl (by decide) h9413 hx9418
          obtain ⟨rfl, rfl⟩ := hr9420
          refine E_il (Base.Le.refl _) ?_
          refine E_s0 16 rfl (st_index_old j9416 rfl rfl hj9417 hlt9423 hA9422 sl22) ?_
          refine E_out ?_
          refine D_all [17] (by kernel_rfl) rfl ?_
          refine R_do (Base.Le.refl _) rfl rfl (u_putOS hj9417 (sz := 1) (a' := x9380) rfl [_] R 0 1 [.int .i64 (x9380)] rfl h9413 hx9418 rfl rfl rfl siz3 rfl (mem_c rfl mem_n) (fun cs hsj hh => by obtain ⟨rfl, rfl⟩ := hh; exact ⟨by decide, rfl, rfl⟩)) ?_ ?_
          ·
           rintro _ _ ⟨hs9430, rfl, h9431⟩
           refine ⟨.inl (by kernel_rfl), ?_⟩
           refine d_resp 0 rfl (v' := .slice A3 (put (put l9289 x9288 x9364) (x9288 - 1) x9380).length c4) (by simp only [put_length]) ?_
           refine D_done (by kernel_rfl) ?_
           refine x_block_normal ?_
           refine x_then_normal ?_
           refine c_region ?_
           refine t_mv rfl rfl ?_
           obtain ⟨_, h9432, hm⟩ := bindS hm
           have h9432 := (chk_some h9432).2
           refine t_st rfl (st_sub rfl rfl h9432) ?_
           refine t_as rfl rfl ?_
           refine t_nil ?_
           exact x_againM (x9288 - 1, put (put l9289 x9288 x9364) (x9288 - 1) x9380) (Option.some.inj hm).symm (e' := [(0, .slice A3 (put (put l9289 x9288 x9364) (x9288 - 1) x9380).length c4), (14, .int .i64 (x8303)), (17, .int .i64 (x9288 - 1))]) ⟨rfl, rfl, rfl, trivial⟩ (.refl _) ⟨hs9430, rfl, rfl, (hle9284), h9431, ((put_length _ _ _).trans ((put_length _ _ _).trans hln9290))⟩
          exact R_nil
         exact R_nil
        ·
         rw [if_neg (of_decide_eq_false hc9291)] at hm
         refine c_exit ?_
         refine x_then_exit ?_
         refine x_then_exit ?_
         refine x_block_out ?_
         have hm := congrArg some (houtL8992 _ (Option.some.inj hm).symm)
         obtain rfl := some1 hm
         exact x_join (e' := []) trivial (.refl _) ⟨hs9286, rfl, rfl, hle9284, h9287, hln9290⟩
       ·
        rintro b8984 _ _ ⟨hs8987, rfl, rfl, hle8985, h8988, hln8990⟩
        have hm := hk8991
        refine c_ret ?_
        refine x_then_ret ?_
        obtain rfl := some1 hm
        exact retM (rs := []) [] (hle8302.trans hle8985) (by decide) rfl trivial rfl (.refl _) ⟨hs8987, rfl, rfl, h8988, hln8990⟩
     ·
      rw [if_neg (of_decide_eq_false hc8062)] at hm
      refine c_skip ?_
      refine x_then_normal ?_
      refine c_sr ?_
      refine t_mv rfl rfl ?_
      refine t_mv rfl rfl ?_
      obtain ⟨_, h9433, hm⟩ := bindS hm
      have h9433 := (chk_some h9433).2
      refine t_st rfl (st_add rfl rfl h9433) ?_
      refine t_st rfl (st_conv rfl int3_i64 int110_u64) ?_
      obtain ⟨_, h9434, hm⟩ := bindS hm
      have h9434 := shN_some h9434
      refine t_st rfl (st_shr rfl rfl h9434) ?_
      refine t_st rfl (st_conv rfl int110_u64 int3_i64) ?_
      refine t_as rfl rfl ?_
      refine t_ne ?_
      refine c_sr ?_
      refine t_mv rfl rfl ?_
      refine t_mv rfl rfl ?_
      obtain ⟨_, h9435, hm⟩ := bindS hm
      have h9435 := (chk_some h9435).2
      refine t_st rfl (st_add rfl rfl h9435) ?_
      refine t_as rfl rfl ?_
      refine t_ne ?_
      refine c_sr ?_
      refine t_as rfl rfl ?_
      refine t_as rfl rfl ?_
      refine t_ne ?_
      obtain ⟨⟨x9440, x9441⟩, hj9442, hk9442⟩ := bindS hm
      refine c_join (fun b9438 e' hp' => [(0, .slice A3 (l14).length c4), (1, .int .i64 (x7)), (2, .int .i64 (x8)), (3, .int .i64 (x9)), (4, .func (.func 25) #[] #[.pointer (some ⟨g6, 0, none⟩)]), (18, .int .i64 (IntKind.wrap .i64 (shrI .u64 (IntKind.wrap .u64 (x7 + x9)) 1))), (19, .int .i64 ((IntKind.wrap .i64 (shrI .u64 (IntKind.wrap .u64 (x7 + x9)) 1)) + x8)), (20, .int .i64 (x9440)), (21, .int .i64 (x9441))] = e' ∧ (g6, Cl 36 [.slice A10 (l13).length c11]) :: (hs2 ++ R) = hp' ∧ b.Le b9438) ?_ ?_
      ·
       have hm := hj9442
       refine c_sr ?_
       refine t_mv rfl rfl ?_
       refine t_mv rfl rfl ?_
       refine t_st rfl (st_gtr rfl rfl) ?_
       refine t_ne ?_
       refine c_cond _ rfl (fun hc9443 => ?_) (fun hc9443 => ?_)
       ·
        rw [if_pos (of_decide_eq_true hc9443)] at hm
        refine c_sr ?_
        refine t_mv rfl rfl ?_
        refine t_mv rfl rfl ?_
        obtain ⟨_, h9444, hm⟩ := bindS hm
        have h9444 := (chk_some h9444).2
        refine t_st rfl (st_sub rfl rfl h9444) ?_
        refine t_as rfl rfl ?_
        refine t_ne ?_
        refine c_region ?_
        refine t_mv rfl rfl ?_
        refine t_as rfl rfl ?_
        refine t_nil ?_
        obtain ⟨rfl, rfl⟩ := some2 hm
        exact x_join (e' := [(0, .slice A3 (l14).length c4), (1, .int .i64 (x7)), (2, .int .i64 (x8)), (3, .int .i64 (x9)), (4, .func (.func 25) #[] #[.pointer (some ⟨g6, 0, none⟩)]), (18, .int .i64 (IntKind.wrap .i64 (shrI .u64 (IntKind.wrap .u64 (x7 + x9)) 1))), (19, .int .i64 ((IntKind.wrap .i64 (shrI .u64 (IntKind.wrap .u64 (x7 + x9)) 1)) + x8)), (20, .int .i64 (((IntKind.wrap .i64 (shrI .u64 (IntKind.wrap .u64 (x7 + x9)) 1)) + x8) - x9)), (21, .int .i64 (IntKind.wrap .i64 (shrI .u64 (IntKind.wrap .u64 (x7 + x9)) 1)))]) ⟨rfl, rfl, rfl, rfl, rfl, rfl, rfl, rfl, rfl, trivial⟩ (.refl _) ⟨rfl, rfl, (Base.Le.refl _)⟩
       ·
        rw [if_neg (of_decide_eq_false hc9443)] at hm
        refine c_sr ?_
        refine t_mv rfl rfl ?_
        refine t_as rfl rfl ?_
        refine t_ne ?_
        refine c_region ?_
        refine t_mv rfl rfl ?_
        refine t_as rfl rfl ?_
        refine t_nil ?_
        obtain ⟨rfl, rfl⟩ := some2 hm
        exact x_join (e' := [(0, .slice A3 (l14).length c4), (1, .int .i64 (x7)), (2, .int .i64 (x8)), (3, .int .i64 (x9)), (4, .func (.func 25) #[] #[.pointer (some ⟨g6, 0, none⟩)]), (18, .int .i64 (IntKind.wrap .i64 (shrI .u64 (IntKind.wrap .u64 (x7 + x9)) 1))), (19, .int .i64 ((IntKind.wrap .i64 (shrI .u64 (IntKind.wrap .u64 (x7 + x9)) 1)) + x8)), (20, .int .i64 (x7)), (21, .int .i64 (x8))]) ⟨rfl, rfl, rfl, rfl, rfl, rfl, rfl, rfl, rfl, trivial⟩ (.refl _) ⟨rfl, rfl, (Base.Le.refl _)⟩
      ·
       rintro b9438 _ _ ⟨rfl, rfl, hle9439⟩
       have hm := (unc2E hk9442)
       refine c_sr ?_
       refine t_mv rfl rfl ?_
       obtain ⟨_, h9445, hm⟩ := bindS hm
       have h9445 := (chk_some h9445).2
       refine t_st rfl (st_sub rfl rfl h9445) ?_
       refine t_as rfl rfl ?_
       refine t_ne ?_
       obtain ⟨x9692, hj9693, hk9693⟩ := bindS hm
       refine c_join (fun b9690 e' hp' => [(0, .slice A3 (l14).length c4), (1, .int .i64 (x7)), (2, .int .i64 (x8)), (3, .int .i64 (x9)), (4, .func (.func 25) #[] #[.pointer (some ⟨g6, 0, none⟩)]), (18, .int .i64 (IntKind.wrap .i64 (shrI .u64 (IntKind.wrap .u64 (x7 + x9)) 1))), (19, .int .i64 ((IntKind.wrap .i64 (shrI .u64 (IntKind.wrap .u64 (x7 + x9)) 1)) + x8)), (20, .int .i64 (x9692))] = e' ∧ (g6, Cl 36 [.slice A10 (l13).length c11]) :: (hs2 ++ R) = hp' ∧ b9438.Le b9690) ?_ ?_
       ·
        have hm := hj9693
        refine c_block ?_
        refine c_loopM (unc2 fun x9857 x9858 => fun b9855 e' hp' => [(0, .slice A3 (l14).length c4), (1, .int .i64 (x7)), (2, .int .i64 (x8)), (3, .int .i64 (x9)), (4, .func (.func 25) #[] #[.pointer (some ⟨g6, 0, none⟩)]), (18, .int .i64 (IntKind.wrap .i64 (shrI .u64 (IntKind.wrap .u64 (x7 + x9)) 1))), (19, .int .i64 ((IntKind.wrap .i64 (shrI .u64 (IntKind.wrap .u64 (x7 + x9)) 1)) + x8)), (20, .int .i64 (x9857)), (21, .int .i64 (x9858)), (22, .int .i64 (((IntKind.wrap .i64 (shrI .u64 (IntKind.wrap .u64 (x7 + x9)) 1)) + x8) - 1))] = e' ∧ (g6, Cl 36 [.slice A10 (l13).length c11]) :: (hs2 ++ R) = hp' ∧ b9438.Le b9855) hm (e' := [(0, .slice A3 (l14).length c4), (1, .int .i64 (x7)), (2, .int .i64 (x8)), (3, .int .i64 (x9)), (4, .func (.func 25) #[] #[.pointer (some ⟨g6, 0, none⟩)]), (18, .int .i64 (IntKind.wrap .i64 (shrI .u64 (IntKind.wrap .u64 (x7 + x9)) 1))), (19, .int .i64 ((IntKind.wrap .i64 (shrI .u64 (IntKind.wrap .u64 (x7 + x9)) 1)) + x8)), (20, .int .i64 (x9440)), (21, .int .i64 (x9441)), (22, .int .i64 (((IntKind.wrap .i64 (shrI .u64 (IntKind.wrap .u64 (x7 + x9)) 1)) + x8) - 1))]) ⟨rfl, rfl, rfl, rfl, rfl, rfl, rfl, rfl, rfl, rfl, trivial⟩ (.refl _) ⟨rfl, rfl, (Base.Le.refl _)⟩ ?_
        rintro ⟨x9857, x9858⟩ b9855 _ _ oL9694 ⟨rfl, rfl, hle9856⟩ hstepL9694 houtL9694
        unfold mSlicesSymMergeCmpFunc_2_L9694 at hstepL9694
        have hm := (unc2E hstepL9694)
        refine c_seq ?_
        refine c_sr ?_
        refine t_mv rfl rfl ?_
        refine t_mv rfl rfl ?_
        refine t_st rfl (st_lss rfl rfl) ?_
        refine t_ne ?_
        refine c_cond _ rfl (fun hc9859 => ?_) (fun hc9859 => ?_)
        ·
         rw [if_pos (of_decide_eq_true hc9859)] at hm
         refine c_skip ?_
         refine x_then_normal ?_
         refine c_block ?_
         refine c_sr ?_
         refine t_mv rfl rfl ?_
         refine t_mv rfl rfl ?_
         obtain ⟨_, h9860, hm⟩ := bindS hm
         have h9860 := (chk_some h9860).2
         refine t_st rfl (st_add rfl rfl h9860) ?_
         refine t_st rfl (st_conv rfl int3_i64 int110_u64) ?_
         obtain ⟨_, h9861, hm⟩ := bindS hm
         have h9861 := shN_some h9861
         refine t_st rfl (st_shr rfl rfl h9861) ?_
         refine t_st rfl (st_conv rfl int110_u64 int3_i64) ?_
         refine t_as rfl rfl ?_
         refine t_ne ?_
         refine c_seq ?_
         obtain ⟨_, h9899, hm⟩ := bindS hm
         obtain ⟨x9900, h9901, hm⟩ := bindS hm
         obtain ⟨x9916, h9917, hm⟩ := bindS hm
         obtain ⟨x9932, hcl9933, hm⟩ := bindS hm
         refine D_drawI mixed (.refl _) ?_
         refine E_s0 0 rfl (st_move rfl) ?_
         refine E_s0 1 rfl (st_move rfl) ?_
         refine E_s0 2 rfl (st_move rfl) ?_
         refine E_s0 3 rfl (st_move rfl) ?_
         have h9899 := (chk_some h9899).2
         refine E_s0 4 rfl (st_sub rfl rfl h9899) ?_
         obtain ⟨j9902, hj9903, hx9904⟩ := idx_some h9901
         obtain ⟨cs9905, hs9910, P9911, P9912, hq9913, hr9906, hcs9907, hA9908, hlt9909, hb9914, hho9915⟩ := OS.get (sz := 1) rfl (by decide) (h5.le (hle9439.trans hle9856)) hx9904
         obtain ⟨rfl, rfl⟩ := hr9906
         refine E_s0 5 rfl (st_index_old j9902 rfl rfl hj9903 hlt9909 hA9908 sl22) ?_
         refine E_st 6 rfl (st_load_rd rfl one3 (fun w ho => hcs9907 w _ ho (.cons _ (List.sublist_append_left _ _)) 0 _ rfl)) ?_
         refine E_s0 7 rfl (st_move rfl) ?_
         refine E_s0 8 rfl (st_move rfl) ?_
         obtain ⟨j9918, hj9919, hx9920⟩ := idx_some h9917
         obtain ⟨cs9921, hs9926, P9927, P9928, hq9929, hr9922, hcs9923, hA9924, hlt9925, hb9930, hho9931⟩ := OS.get (sz := 1) rfl (by decide) (h5.le (hle9439.trans hle9856)) hx9920
         obtain ⟨rfl, rfl⟩ := hr9922
         refine E_s0 9 rfl (st_index_old j9918 rfl rfl hj9919 hlt9925 hA9924 sl22) ?_
         refine E_st 10 rfl (st_load_rd rfl one3 (fun w ho => hcs9923 w _ ho (.cons _ (List.sublist_append_left _ _)) 0 _ rfl)) ?_
         refine E_out ?_
         refine D_all [11] (by kernel_rfl) rfl ?_
         refine R_callvG (Base.Le.refl _) rfl rfl #[] #[.pointer (some ⟨g6, 0, none⟩)] [.int .i64 (x9900), .int .i64 (x9916)] rfl call25 rfl (cFarePack_1 _ _ x9900 x9916 l13 g6 A10 c11 (h12.le (hle9439.trans hle9856)) x9932 hcl9933) ?_ ?_
         ·
          rintro _ b9934 _ hle9935 ⟨rfl, rfl⟩
          refine ⟨.inl (by kernel_rfl), ?_⟩
          refine E_il hle9935 ?_
          refine E_s0 12 rfl (st_lss rfl rfl) ?_
          refine E_s0 13 rfl (st_not rfl) ?_
          refine E_out ?_
          refine D_done (by kernel_rfl) ?_
          refine x_then_normal ?_
          refine c_cond _ rfl (fun hc9936 => ?_) (fun hc9936 => ?_)
          ·
           rw [if_neg (of_decide_eq_false (notT hc9936))] at hm
           refine c_region ?_
           refine t_mv rfl rfl ?_
           obtain ⟨_, h9937, hm⟩ := bindS hm
           have h9937 := (chk_some h9937).2
           refine t_st rfl (st_add rfl rfl h9937) ?_
           refine t_as rfl rfl ?_
           refine t_nil ?_
           refine x_block_normal ?_
           exact x_againM ((IntKind.wrap .i64 (shrI .u64 (IntKind.wrap .u64 (x9857 + x9858)) 1)) + 1, x9858) (Option.some.inj hm).symm (e' := [(0, .slice A3 (l14).length c4), (1, .int .i64 (x7)), (2, .int .i64 (x8)), (3, .int .i64 (x9)), (4, .func (.func 25) #[] #[.pointer (some ⟨g6, 0, none⟩)]), (18, .int .i64 (IntKind.wrap .i64 (shrI .u64 (IntKind.wrap .u64 (x7 + x9)) 1))), (19, .int .i64 ((IntKind.wrap .i64 (shrI .u64 (IntKind.wrap .u64 (x7 + x9)) 1)) + x8)), (20, .int .i64 ((IntKind.wrap .i64 (shrI .u64 (IntKind.wrap .u64 (x9857 + x9858)) 1)) + 1)), (21, .int .i64 (x9858)), (22, .int .i64 (((IntKind.wrap .i64 (shrI .u64 (IntKind.wrap .u64 (x7 + x9)) 1)) + x8) - 1))]) ⟨rfl, rfl, rfl, rfl, rfl, rfl, rfl, rfl, rfl, rfl, trivial⟩ (.refl _) ⟨rfl, rfl, ((hle9856.trans hle9935))⟩
          ·
           rw [if_pos (of_decide_eq_true (notF hc9936))] at hm
           refine c_region ?_
           refine t_mv rfl rfl ?_
           refine t_as rfl rfl ?_
           refine t_nil ?_
           refine x_block_normal ?_
           exact x_againM (x9857, IntKind.wrap .i64 (shrI .u64 (IntKind.wrap .u64 (x9857 + x9858)) 1)) (Option.some.inj hm).symm (e' := [(0, .slice A3 (l14).length c4), (1, .int .i64 (x7)), (2, .int .i64 (x8)), (3, .int .i64 (x9)), (4, .func (.func 25) #[] #[.pointer (some ⟨g6, 0, none⟩)]), (18, .int .i64 (IntKind.wrap .i64 (shrI .u64 (IntKind.wrap .u64 (x7 + x9)) 1))), (19, .int .i64 ((IntKind.wrap .i64 (shrI .u64 (IntKind.wrap .u64 (x7 + x9)) 1)) + x8)), (20, .int .i64 (x9857)), (21, .int .i64 (IntKind.wrap .i64 (shrI .u64 (IntKind.wrap .u64 (x9857 + x9858)) 1))), (22, .int .i64 (((IntKind.wrap .i64 (shrI .u64 (IntKind.wrap .u64 (x7 + x9)) 1)) + x8) - 1))]) ⟨rfl, rfl, rfl, rfl, rfl, rfl, rfl, rfl, rfl, rfl, trivial⟩ (.refl _) ⟨rfl, rfl, ((hle9856.trans hle9935))⟩
         exact R_nil
        ·
         rw [if_neg (of_decide_eq_false hc9859)] at hm
         refine c_exit ?_
         refine x_then_exit ?_
         refine x_then_exit ?_
         refine x_block_out ?_
         have hm := congrArg some (houtL9694 _ (Option.some.inj hm).symm)
         obtain rfl := some1 hm
         exact x_join (e' := [(0, .slice A3 (l14).length c4), (1, .int .i64 (x7)), (2, .int .i64 (x8)), (3, .int .i64 (x9)), (4, .func (.func 25) #[] #[.pointer (some ⟨g6, 0, none⟩)]), (18, .int .i64 (IntKind.wrap .i64 (shrI .u64 (IntKind.wrap .u64 (x7 + x9)) 1))), (19, .int .i64 ((IntKind.wrap .i64 (shrI .u64 (IntKind.wrap .u64 (x7 + x9)) 1)) + x8)), (20, .int .i64 (x9857))]) ⟨rfl, rfl, rfl, rfl, rfl, rfl, rfl, rfl, trivial⟩ (.refl _) ⟨rfl, rfl, hle9856⟩
       ·
        rintro b9690 _ _ ⟨rfl, rfl, hle9691⟩
        have hm := hk9693
        refine c_sr ?_
        refine t_mv rfl rfl ?_
        refine t_mv rfl rfl ?_
        obtain ⟨_, h9938, hm⟩ := bindS hm
        have h9938 := (chk_some h9938).2
        refine t_st rfl (st_sub rfl rfl h9938) ?_
        refine t_as rfl rfl ?_
        refine t_ne ?_
        obtain ⟨l9958, hj9960, hk9960⟩ := bindS hm
        refine c_join (fun b9953 e' hp' => ∃ (hs9956 : Hp), [(0, .slice A3 (l9958).length c4), (1, .int .i64 (x7)), (3, .int .i64 (x9)), (4, .func (.func 25) #[] #[.pointer (some ⟨g6, 0, none⟩)]), (18, .int .i64 (IntKind.wrap .i64 (shrI .u64 (IntKind.wrap .u64 (x7 + x9)) 1))), (20, .int .i64 (x9692)), (24, .int .i64 (((IntKind.wrap .i64 (shrI .u64 (IntKind.wrap .u64 (x7 + x9)) 1)) + x8) - x9692))] = e' ∧ (g6, Cl 36 [.slice A10 (l13).length c11]) :: (hs9956 ++ R) = hp' ∧ b9690.Le b9953 ∧ OS 3 (OT.fr (RT.int .i64)) b9953.w (.slice A3 l9958.length c4) l9958 hs9956 ∧ l9958.length = l14.length) ?_ ?_
        ·
         have hm := hj9960
         obtain ⟨x9964, hj9965, hk9965⟩ := bindS hm
         refine c_join (fun b9962 e' hp' => [(0, .slice A3 (l14).length c4), (1, .int .i64 (x7)), (2, .int .i64 (x8)), (3, .int .i64 (x9)), (4, .func (.func 25) #[] #[.pointer (some ⟨g6, 0, none⟩)]), (18, .int .i64 (IntKind.wrap .i64 (shrI .u64 (IntKind.wrap .u64 (x7 + x9)) 1))), (20, .int .i64 (x9692)), (24, .int .i64 (((IntKind.wrap .i64 (shrI .u64 (IntKind.wrap .u64 (x7 + x9)) 1)) + x8) - x9692)), (185, .bool (x9964))] = e' ∧ (g6, Cl 36 [.slice A10 (l13).length c11]) :: (hs2 ++ R) = hp' ∧ b9690.Le b9962) ?_ ?_
         ·
          have hm := hj9965
          refine c_region ?_
          refine t_mv rfl rfl ?_
          refine t_mv rfl rfl ?_
          refine t_bool rfl (st_lss rfl rfl) (fun hc9966 => ?_) (fun hc9966 => ?_)
          ·
           rw [if_pos hc9966] at hm
           refine t_mv rfl rfl ?_
           refine t_yes 181 rfl rfl rfl ?_
           refine t_mv rfl rfl ?_
           refine t_yes 181 rfl rfl rfl ?_
           refine t_mv rfl rfl ?_
           refine t_yes 181 rfl rfl rfl ?_
           refine t_st rfl (st_lss rfl rfl) ?_
           refine t_st rfl (st_pick_t rfl rfl) ?_
           refine t_nil ?_
           obtain rfl := some1 hm
           exact x_join (e' := [(0, .slice A3 (l14).length c4), (1, .int .i64 (x7)), (2, .int .i64 (x8)), (3, .int .i64 (x9)), (4, .func (.func 25) #[] #[.pointer (some ⟨g6, 0, none⟩)]), (18, .int .i64 (IntKind.wrap .i64 (shrI .u64 (IntKind.wrap .u64 (x7 + x9)) 1))), (20, .int .i64 (x9692)), (24, .int .i64 (((IntKind.wrap .i64 (shrI .u64 (IntKind.wrap .u64 (x7 + x9)) 1)) + x8) - x9692)), (185, .bool (decide (x8 < (((IntKind.wrap .i64 (shrI .u64 (IntKind.wrap .u64 (x7 + x9)) 1)) + x8) - x9692))))]) ⟨rfl, rfl, rfl, rfl, rfl, rfl, rfl, rfl, rfl, trivial⟩ (.refl _) ⟨rfl, rfl, (Base.Le.refl _)⟩
          ·
           rw [if_neg hc9966] at hm
           refine t_mv rfl rfl ?_
           refine t_no 181 rfl rfl rfl rfl rfl ?_
           refine t_no 181 rfl rfl rfl rfl rfl ?_
           refine t_no 181 rfl rfl rfl rfl rfl ?_
           refine t_st rfl (st_pick_f rfl rfl) ?_
           refine t_nil ?_
           obtain rfl := some1 hm
           exact x_join (e' := [(0, .slice A3 (l14).length c4), (1, .int .i64 (x7)), (2, .int .i64 (x8)), (3, .int .i64 (x9)), (4, .func (.func 25) #[] #[.pointer (some ⟨g6, 0, none⟩)]), (18, .int .i64 (IntKind.wrap .i64 (shrI .u64 (IntKind.wrap .u64 (x7 + x9)) 1))), (20, .int .i64 (x9692)), (24, .int .i64 (((IntKind.wrap .i64 (shrI .u64 (IntKind.wrap .u64 (x7 + x9)) 1)) + x8) - x9692)), (185, .bool (false))]) ⟨rfl, rfl, rfl, rfl, rfl, rfl, rfl, rfl, rfl, trivial⟩ (.refl _) ⟨rfl, rfl, (Base.Le.refl _)⟩
         ·
          rintro b9962 _ _ ⟨rfl, rfl, hle9963⟩
          have hm := hk9965
          refine c_cond _ rfl (fun hc9967 => ?_) (fun hc9967 => ?_)
          ·
           rw [if_pos hc9967] at hm
           refine c_region ?_
           refine t_mv rfl rfl ?_
           refine t_mv rfl rfl ?_
           refine t_mv rfl rfl ?_
           refine t_mv rfl rfl ?_
           refine t_mv rfl rfl ?_
           obtain ⟨l9968, hcl9969, hm⟩ := bindS hm
           refine t_out1 [_] [] hs2 R rfl ?_
           refine t_callG _ rfl call87 rfl (cSlicesRotateCmpFunc_2 _ _ x9692 x8 (((IntKind.wrap .i64 (shrI .u64 (IntKind.wrap .u64 (x7 + x9)) 1)) + x8) - x9692) l13 l14 g6 A10 c11 A3 c4 hs2 (h12.le (hle9439.trans (hle9691.trans hle9963))) (h5.le (hle9439.trans (hle9691.trans hle9963))) l9968 hcl9969) ?_
           rintro _ b9970 _ hle9971 ⟨hs9972, rfl, rfl, h9973, h9974⟩
           refine t_in1 [_] [] hs9972 R rfl ?_
           refine t_resp 0 rfl (v' := .slice A3 (l9968).length c4) (by rw [h9974]) ?_
           refine t_nil ?_
           obtain rfl := some1 hm
           exact x_join (e' := [(0, .slice A3 (l9968).length c4), (1, .int .i64 (x7)), (3, .int .i64 (x9)), (4, .func (.func 25) #[] #[.pointer (some ⟨g6, 0, none⟩)]), (18, .int .i64 (IntKind.wrap .i64 (shrI .u64 (IntKind.wrap .u64 (x7 + x9)) 1))), (20, .int .i64 (x9692)), (24, .int .i64 (((IntKind.wrap .i64 (shrI .u64 (IntKind.wrap .u64 (x7 + x9)) 1)) + x8) - x9692))]) ⟨rfl, rfl, rfl, rfl, rfl, rfl, rfl, trivial⟩ (.refl _) ⟨hs9972, rfl, rfl, (hle9963.trans hle9971), h9973, (h9974.trans rfl)⟩
          ·
           rw [if_neg (fun hh => Bool.noConfusion (hh.symm.trans hc9967))] at hm
           refine c_skip ?_
           obtain rfl := some1 hm
           exact x_join (e' := [(0, .slice A3 (l14).length c4), (1, .int .i64 (x7)), (3, .int .i64 (x9)), (4, .func (.func 25) #[] #[.pointer (some ⟨g6, 0, none⟩)]), (18, .int .i64 (IntKind.wrap .i64 (shrI .u64 (IntKind.wrap .u64 (x7 + x9)) 1))), (20, .int .i64 (x9692)), (24, .int .i64 (((IntKind.wrap .i64 (shrI .u64 (IntKind.wrap .u64 (x7 + x9)) 1)) + x8) - x9692))]) ⟨rfl, rfl, rfl, rfl, rfl, rfl, rfl, trivial⟩ (.refl _) ⟨hs2, rfl, rfl, hle9963, (h5.le (hle9439.trans (hle9691.trans hle9963))), rfl⟩
        ·
         rintro b9953 _ _ ⟨hs9956, rfl, rfl, hle9954, h9957, hln9959⟩
         have hm := hk9960
         obtain ⟨l9994, hj9996, hk9996⟩ := bindS hm
         refine c_join (fun b9989 e' hp' => ∃ (hs9992 : Hp), [(0, .slice A3 (l9994).length c4), (3, .int .i64 (x9)), (4, .func (.func 25) #[] #[.pointer (some ⟨g6, 0, none⟩)]), (18, .int .i64 (IntKind.wrap .i64 (shrI .u64 (IntKind.wrap .u64 (x7 + x9)) 1))), (24, .int .i64 (((IntKind.wrap .i64 (shrI .u64 (IntKind.wrap .u64 (x7 + x9)) 1)) + x8) - x9692))] = e' ∧ (g6, Cl 36 [.slice A10 (l13).length c11]) :: (hs9992 ++ R) = hp' ∧ b9953.Le b9989 ∧ OS 3 (OT.fr (RT.int .i64)) b9989.w (.slice A3 l9994.length c4) l9994 hs9992 ∧ l9994.length = l14.length) ?_ ?_
         ·
          have hm := hj9996
          obtain ⟨x10000, hj10001, hk10001⟩ := bindS hm
          refine c_join (fun b9998 e' hp' => [(0, .slice A3 (l9958).length c4), (1, .int .i64 (x7)), (3, .int .i64 (x9)), (4, .func (.func 25) #[] #[.pointer (some ⟨g6, 0, none⟩)]), (18, .int .i64 (IntKind.wrap .i64 (shrI .u64 (IntKind.wrap .u64 (x7 + x9)) 1))), (20, .int .i64 (x9692)), (24, .int .i64 (((IntKind.wrap .i64 (shrI .u64 (IntKind.wrap .u64 (x7 + x9)) 1)) + x8) - x9692)), (199, .bool (x10000))] = e' ∧ (g6, Cl 36 [.slice A10 (l13).length c11]) :: (hs9956 ++ R) = hp' ∧ b9953.Le b9998) ?_ ?_
          ·
           have hm := hj10001
           refine c_region ?_
           refine t_mv rfl rfl ?_
           refine t_mv rfl rfl ?_
           refine t_bool rfl (st_lss rfl rfl) (fun hc10002 => ?_) (fun hc10002 => ?_)
           ·
            rw [if_pos hc10002] at hm
            refine t_mv rfl rfl ?_
            refine t_yes 195 rfl rfl rfl ?_
            refine t_mv rfl rfl ?_
            refine t_yes 195 rfl rfl rfl ?_
            refine t_mv rfl rfl ?_
            refine t_yes 195 rfl rfl rfl ?_
            refine t_st rfl (st_lss rfl rfl) ?_
            refine t_st rfl (st_pick_t rfl rfl) ?_
            refine t_nil ?_
            obtain rfl := some1 hm
            exact x_join (e' := [(0, .slice A3 (l9958).length c4), (1, .int .i64 (x7)), (3, .int .i64 (x9)), (4, .func (.func 25) #[] #[.pointer (some ⟨g6, 0, none⟩)]), (18, .int .i64 (IntKind.wrap .i64 (shrI .u64 (IntKind.wrap .u64 (x7 + x9)) 1))), (20, .int .i64 (x9692)), (24, .int .i64 (((IntKind.wrap .i64 (shrI .u64 (IntKind.wrap .u64 (x7 + x9)) 1)) + x8) - x9692)), (199, .bool (decide (x9692 < (IntKind.wrap .i64 (shrI .u64 (IntKind.wrap .u64 (x7 + x9)) 1)))))]) ⟨rfl, rfl, rfl, rfl, rfl, rfl, rfl, rfl, trivial⟩ (.refl _) ⟨rfl, rfl, (Base.Le.refl _)⟩
           ·
            rw [if_neg hc10002] at hm
            refine t_mv rfl rfl ?_
            refine t_no 195 rfl rfl rfl rfl rfl ?_
            refine t_no 195 rfl rfl rfl rfl rfl ?_
            refine t_no 195 rfl rfl rfl rfl rfl ?_
            refine t_st rfl (st_pick_f rfl rfl) ?_
            refine t_nil ?_
            obtain rfl := some1 hm
            exact x_join (e' := [(0, .slice A3 (l9958).length c4), (1, .int .i64 (x7)), (3, .int .i64 (x9)), (4, .func (.func 25) #[] #[.pointer (some ⟨g6, 0, none⟩)]), (18, .int .i64 (IntKind.wrap .i64 (shrI .u64 (IntKind.wrap .u64 (x7 + x9)) 1))), (20, .int .i64 (x9692)), (24, .int .i64 (((IntKind.wrap .i64 (shrI .u64 (IntKind.wrap .u64 (x7 + x9)) 1)) + x8) - x9692)), (199, .bool (false))]) ⟨rfl, rfl, rfl, rfl, rfl, rfl, rfl, rfl, trivial⟩ (.refl _) ⟨rfl, rfl, (Base.Le.refl _)⟩
          ·
           rintro b9998 _ _ ⟨rfl, rfl, hle9999⟩
           have hm := hk10001
           refine c_cond _ rfl (fun hc10003 => ?_) (fun hc10003 => ?_)
           ·
            rw [if_pos hc10003] at hm
            refine c_region ?_
            refine t_mv rfl rfl ?_
            refine t_mv rfl rfl ?_
            refine t_mv rfl rfl ?_
            refine t_mv rfl rfl ?_
            refine t_mv rfl rfl ?_
            obtain ⟨l10004, hcl10005, hm⟩ := bindS hm
            refine t_out1 [_] [] hs9956 R rfl ?_
            refine t_callG _ rfl call59 rfl (ih _ _ x7 x9692 (IntKind.wrap .i64 (shrI .u64 (IntKind.wrap .u64 (x7 + x9)) 1)) l13 l9958 g6 A10 c11 A3 c4 hs9956 (h12.le (hle9439.trans (hle9691.trans (hle9954.trans hle9999)))) (h9957.le hle9999) l10004 hcl10005) ?_
            rintro _ b10006 _ hle10007 ⟨hs10008, rfl, rfl, h10009, h10010⟩
            refine t_in1 [_] [] hs10008 R rfl ?_
            refine t_resp 0 rfl (v' := .slice A3 (l10004).length c4) (by rw [h10010]) ?_
            refine t_nil ?_
            obtain rfl := some1 hm
            exact x_join (e' := [(0, .slice A3 (l10004).length c4), (3, .int .i64 (x9)), (4, .func (.func 25) #[] #[.pointer (some ⟨g6, 0, none⟩)]), (18, .int .i64 (IntKind.wrap .i64 (shrI .u64 (IntKind.wrap .u64 (x7 + x9)) 1))), (24, .int .i64 (((IntKind.wrap .i64 (shrI .u64 (IntKind.wrap .u64 (x7 + x9)) 1)) + x8) - x9692))]) ⟨rfl, rfl, rfl, rfl, rfl, trivial⟩ (.refl _) ⟨hs10008, rfl, rfl, (hle9999.trans hle10007), h10009, (h10010.trans hln9959)⟩
           ·
            rw [if_neg (fun hh => Bool.noConfusion (hh.symm.trans hc10003))] at hm
            refine c_skip ?_
            obtain rfl := some1 hm
            exact x_join (e' := [(0, .slice A3 (l9958).length c4), (3, .int .i64 (x9)), (4, .func (.func 25) #[] #[.pointer (some ⟨g6, 0, none⟩)]), (18, .int .i64 (IntKind.wrap .i64 (shrI .u64 (IntKind.wrap .u64 (x7 + x9)) 1))), (24, .int .i64 (((IntKind.wrap .i64 (shrI .u64 (IntKind.wrap .u64 (x7 + x9)) 1)) + x8) - x9692))]) ⟨rfl, rfl, rfl, rfl, rfl, trivial⟩ (.refl _) ⟨hs9956, rfl, rfl, hle9999, (h9957.le hle9999), hln9959⟩
         ·
          rintro b9989 _ _ ⟨hs9992, rfl, rfl, hle9990, h9993, hln9995⟩
          have hm := hk9996
          obtain ⟨x10014, hj10015, hk10015⟩ := bindS hm
          refine c_join (fun b10012 e' hp' => [(0, .slice A3 (l9994).length c4), (3, .int .i64 (x9)), (4, .func (.func 25) #[] #[.pointer (some ⟨g6, 0, none⟩)]), (18, .int .i64 (IntKind.wrap .i64 (shrI .u64 (IntKind.wrap .u64 (x7 + x9)) 1))), (24, .int .i64 (((IntKind.wrap .i64 (shrI .u64 (IntKind.wrap .u64 (x7 + x9)) 1)) + x8) - x9692)), (213, .bool (x10014))] = e' ∧ (g6, Cl 36 [.slice A10 (l13).length c11]) :: (hs9992 ++ R) = hp' ∧ b9989.Le b10012) ?_ ?_
          ·
           have hm := hj10015
           refine c_region ?_
           refine t_mv rfl rfl ?_
           refine t_mv rfl rfl ?_
           refine t_bool rfl (st_lss rfl rfl) (fun hc10016 => ?_) (fun hc10016 => ?_)
           ·
            rw [if_pos hc10016] at hm
            refine t_mv rfl rfl ?_
            refine t_yes 209 rfl rfl rfl ?_
            refine t_mv rfl rfl ?_
            refine t_yes 209 rfl rfl rfl ?_
            refine t_mv rfl rfl ?_
            refine t_yes 209 rfl rfl rfl ?_
            refine t_st rfl (st_lss rfl rfl) ?_
            refine t_st rfl (st_pick_t rfl rfl) ?_
            refine t_nil ?_
            obtain rfl := some1 hm
            exact x_join (e' := [(0, .slice A3 (l9994).length c4), (3, .int .i64 (x9)), (4, .func (.func 25) #[] #[.pointer (some ⟨g6, 0, none⟩)]), (18, .int .i64 (IntKind.wrap .i64 (shrI .u64 (IntKind.wrap .u64 (x7 + x9)) 1))), (24, .int .i64 (((IntKind.wrap .i64 (shrI .u64 (IntKind.wrap .u64 (x7 + x9)) 1)) + x8) - x9692)), (213, .bool (decide ((((IntKind.wrap .i64 (shrI .u64 (IntKind.wrap .u64 (x7 + x9)) 1)) + x8) - x9692) < x9)))]) ⟨rfl, rfl, rfl, rfl, rfl, rfl, trivial⟩ (.refl _) ⟨rfl, rfl, (Base.Le.refl _)⟩
           ·
            rw [if_neg hc10016] at hm
            refine t_mv rfl rfl ?_
            refine t_no 209 rfl rfl rfl rfl rfl ?_
            refine t_no 209 rfl rfl rfl rfl rfl ?_
            refine t_no 209 rfl rfl rfl rfl rfl ?_
            refine t_st rfl (st_pick_f rfl rfl) ?_
            refine t_nil ?_
            obtain rfl := some1 hm
            exact x_join (e' := [(0, .slice A3 (l9994).length c4), (3, .int .i64 (x9)), (4, .func (.func 25) #[] #[.pointer (some ⟨g6, 0, none⟩)]), (18, .int .i64 (IntKind.wrap .i64 (shrI .u64 (IntKind.wrap .u64 (x7 + x9)) 1))), (24, .int .i64 (((IntKind.wrap .i64 (shrI .u64 (IntKind.wrap .u64 (x7 + x9)) 1)) + x8) - x9692)), (213, .bool (false))]) ⟨rfl, rfl, rfl, rfl, rfl, rfl, trivial⟩ (.refl _) ⟨rfl, rfl, (Base.Le.refl _)⟩
          ·
           rintro b10012 _ _ ⟨rfl, rfl, hle10013⟩
           have hm := hk10015
           refine c_cond _ rfl (fun hc10017 => ?_) (fun hc10017 => ?_)
           ·
            rw [if_pos hc10017] at hm
            refine c_region ?_
            refine t_mv rfl rfl ?_
            refine t_mv rfl rfl ?_
            refine t_mv rfl rfl ?_
            refine t_mv rfl rfl ?_
            refine t_mv rfl rfl ?_
            obtain ⟨l10018, hcl10019, hm⟩ := bindS hm
            refine t_out1 [_] [] hs9992 R rfl ?_
            refine t_callG _ rfl call59 rfl (ih _ _ (IntKind.wrap .i64 (shrI .u64 (IntKind.wrap .u64 (x7 + x9)) 1)) (((IntKind.wrap .i64 (shrI .u64 (IntKind.wrap .u64 (x7 + x9)) 1)) + x8) - x9692) x9 l13 l9994 g6 A10 c11 A3 c4 hs9992 (h12.le (hle9439.trans (hle9691.trans (hle9954.trans (hle9990.trans hle10013))))) (h9993.le hle10013) l10018 hcl10019) ?_
            rintro _ b10020 _ hle10021 ⟨hs10022, rfl, rfl, h10023, h10024⟩
            refine t_in1 [_] [] hs10022 R rfl ?_
            refine t_nil ?_
            obtain rfl := some1 hm
            exact endM (hle9439.trans (hle9691.trans (hle9954.trans (hle9990.trans (hle10013.trans hle10021))))) rfl (.refl _) ⟨hs10022, rfl, rfl, h10023, (h10024.trans hln9995)⟩
           ·
            rw [if_neg (fun hh => Bool.noConfusion (hh.symm.trans hc10017))] at hm
            refine c_skip ?_
            obtain rfl := some1 hm
            have he10025 := (h9993.le hle10013)
            exact endM (hle9439.trans (hle9691.trans (hle9954.trans (hle9990.trans hle10013)))) rfl (.refl _) ⟨hs9992, rfl, rfl, he10025, hln9995⟩

set_option maxRecDepth 20000 in
theorem cSlicesStableCmpFunc_2 (b : Base) (R : Hp) (x7 : Int) (l11 : (List FareSpan)) (l12 : (List Int)) (g6 : Nat) (A8 : Option Addr) (c9 : Nat) (A3 : Option Addr) (c4 : Nat) (hs2 : Hp) (h10 : FZ rFareSpan b.w A8 c9 l11) (h5 : OS 3 (OT.fr (RT.int .i64)) b.w (.slice A3 l12.length c4) l12 hs2) (l549 : (List Int)) (hm : mSlicesStableCmpFunc_2 x7 l11 l12 = some l549) :
    CallsG Tryz.prog 39 [.slice A3 (l12).length c4, .int .i64 (x7), .func (.func 25) #[] #[.pointer (some ⟨g6, 0, none⟩)]] b ((g6, Cl 36 [.slice A8 (l11).length c9]) :: (hs2 ++ R)) (fun v b' hp' => ∃ (hs547 : Hp), .tuple #[] = v ∧ (g6, Cl 36 [.slice A8 (l11).length c9]) :: (hs547 ++ R) = hp' ∧ OS 3 (OT.fr (RT.int .i64)) b'.w (.slice A3 l549.length c4) l549 hs547 ∧ l549.length = l12.length) := by
  refine fn_enterG 63 Tryz.func39 rfl Tryz.ntmps39 rfl ?_
  unfold mSlicesStableCmpFunc_2 at hm
  refine c_sr ?_
  refine t_as rfl rfl ?_
  refine t_ne ?_
  refine c_sr ?_
  refine t_mv rfl rfl ?_
  refine t_as rfl rfl ?_
  refine t_as rfl rfl ?_
  refine t_ne ?_
  obtain ⟨⟨x600, l601⟩, hj603, hk603⟩ := bindS hm
  refine c_join (fun b595 e' hp' => ∃ (hs598 : Hp), [(0, .slice A3 (l601).length c4), (1, .int .i64 (x7)), (2, .func (.func 25) #[] #[.pointer (some ⟨g6, 0, none⟩)]), (6, .int .i64 (20)), (7, .int .i64 (x600))] = e' ∧ (g6, Cl 36 [.slice A8 (l11).length c9]) :: (hs598 ++ R) = hp' ∧ b.Le b595 ∧ OS 3 (OT.fr (RT.int .i64)) b595.w (.slice A3 l601.length c4) l601 hs598 ∧ l601.length = l12.length) ?_ ?_
  ·
   have hm := hj603
   refine c_block ?_
   refine c_loopM (unc3 fun x635 x636 l637 => fun b630 e' hp' => ∃ (hs633 : Hp), [(0, .slice A3 (l637).length c4), (1, .int .i64 (x7)), (2, .func (.func 25) #[] #[.pointer (some ⟨g6, 0, none⟩)]), (6, .int .i64 (20)), (7, .int .i64 (x635)), (8, .int .i64 (x636))] = e' ∧ (g6, Cl 36 [.slice A8 (l11).length c9]) :: (hs633 ++ R) = hp' ∧ b.Le b630 ∧ OS 3 (OT.fr (RT.int .i64)) b630.w (.slice A3 l637.length c4) l637 hs633 ∧ l637.length = l12.length) hm (e' := [(0, .slice A3 (l12).length c4), (1, .int .i64 (x7)), (2, .func (.func 25) #[] #[.pointer (some ⟨g6, 0, none⟩)]), (6, .int .i64 (20)), (7, .int .i64 (0)), (8, .int .i64 (20))]) ⟨rfl, rfl, rfl, rfl, rfl, rfl, trivial⟩ (.refl _) ⟨hs2, rfl, rfl, (Base.Le.refl _), h5, rfl⟩ ?_
   rintro ⟨x635, x636, l637⟩ b630 _ _ oL604 ⟨hs633, rfl, rfl, hle631, h634, hln638⟩ hstepL604 houtL604
   unfold mSlicesStableCmpFunc_2_L604 at hstepL604
   have hm := (unc3E hstepL604)
   refine c_seq ?_
   refine c_sr ?_
   refine t_mv rfl rfl ?_
   refine t_mv rfl rfl ?_
   refine t_st rfl (st_leq rfl rfl) ?_
   refine t_ne ?_
   refine c_cond _ rfl (fun hc639 => ?_) (fun hc639 => ?_)
   ·
    rw [if_pos (of_decide_eq_true hc639)] at hm
    refine c_skip ?_
    refine x_then_normal ?_
    refine c_block ?_
    refine c_sr ?_
    refine t_mv rfl rfl ?_
    refine t_mv rfl rfl ?_
    refine t_mv rfl rfl ?_
    refine t_mv rfl rfl ?_
    obtain ⟨l640, hcl641, hm⟩ := bindS hm
    refine t_out1 [_] [] hs633 R rfl ?_
    refine t_callG _ rfl call58 rfl (cSlicesInsertionSortCmpFunc_2 _ _ x635 x636 l11 l637 g6 A8 c9 A3 c4 hs633 (h10.le hle631) h634 l640 hcl641) ?_
    rintro _ b642 _ hle643 ⟨hs644, rfl, rfl, h645, h646⟩
    refine t_in1 [_] [] hs644 R rfl ?_
    refine t_resp 0 rfl (v' := .slice A3 (l640).length c4) (by rw [h646]) ?_
    refine t_ne ?_
    refine c_sr ?_
    refine t_mv rfl rfl ?_
    refine t_as rfl rfl ?_
    refine t_ne ?_
    refine c_region ?_
    refine t_mv rfl rfl ?_
    refine t_mv rfl rfl ?_
    obtain ⟨_, h647, hm⟩ := bindS hm
    have h647 := (chk_some h647).2
    refine t_st rfl (st_add rfl rfl h647) ?_
    refine t_as rfl rfl ?_
    refine t_nil ?_
    refine x_block_normal ?_
    exact x_againM (x636, x636 + 20, l640) (Option.some.inj hm).symm (e' := [(0, .slice A3 (l640).length c4), (1, .int .i64 (x7)), (2, .func (.func 25) #[] #[.pointer (some ⟨g6, 0, none⟩)]), (6, .int .i64 (20)), (7, .int .i64 (x636)), (8, .int .i64 (x636 + 20))]) ⟨rfl, rfl, rfl, rfl, rfl, rfl, trivial⟩ (.refl _) ⟨hs644, rfl, rfl, ((hle631.trans hle643)), h645, (h646.trans hln638)⟩
   ·
    rw [if_neg (of_decide_eq_false hc639)] at hm
    refine c_exit ?_
    refine x_then_exit ?_
    refine x_then_exit ?_
    refine x_block_out ?_
    have hm := congrArg some (houtL604 _ (Option.some.inj hm).symm)
    obtain ⟨rfl, rfl⟩ := some2 hm
    exact x_join (e' := [(0, .slice A3 (l637).length c4), (1, .int .i64 (x7)), (2, .func (.func 25) #[] #[.pointer (some ⟨g6, 0, none⟩)]), (6, .int .i64 (20)), (7, .int .i64 (x635))]) ⟨rfl, rfl, rfl, rfl, rfl, trivial⟩ (.refl _) ⟨hs633, rfl, rfl, hle631, h634, hln638⟩
  ·
   rintro b595 _ _ ⟨hs598, rfl, rfl, hle596, h599, hln602⟩
   have hm := (unc2E hk603)
   refine c_sr ?_
   refine t_mv rfl rfl ?_
   refine t_mv rfl rfl ?_
   refine t_mv rfl rfl ?_
   refine t_mv rfl rfl ?_
   obtain ⟨l648, hcl649, hm⟩ := bindS hm
   refine t_out1 [_] [] hs598 R rfl ?_
   refine t_callG _ rfl call58 rfl (cSlicesInsertionSortCmpFunc_2 _ _ x600 x7 l11 l601 g6 A8 c9 A3 c4 hs598 (h10.le hle596) h599 l648 hcl649) ?_
   rintro _ b650 _ hle651 ⟨hs652, rfl, rfl, h653, h654⟩
   refine t_in1 [_] [] hs652 R rfl ?_
   refine t_resp 0 rfl (v' := .slice A3 (l648).length c4) (by rw [h654]) ?_
   refine t_ne ?_
   refine c_block ?_
   refine c_loopM (unc2 fun x943 l944 => fun b938 e' hp' => ∃ (hs941 : Hp), [(0, .slice A3 (l944).length c4), (1, .int .i64 (x7)), (2, .func (.func 25) #[] #[.pointer (some ⟨g6, 0, none⟩)]), (6, .int .i64 (x943))] = e' ∧ (g6, Cl 36 [.slice A8 (l11).length c9]) :: (hs941 ++ R) = hp' ∧ b650.Le b938 ∧ OS 3 (OT.fr (RT.int .i64)) b938.w (.slice A3 l944.length c4) l944 hs941 ∧ l944.length = l12.length) hm (e' := [(0, .slice A3 (l648).length c4), (1, .int .i64 (x7)), (2, .func (.func 25) #[] #[.pointer (some ⟨g6, 0, none⟩)]), (6, .int .i64 (20))]) ⟨rfl, rfl, rfl, rfl, trivial⟩ (.refl _) ⟨hs652, rfl, rfl, (Base.Le.refl _), h653, (h654.trans hln602)⟩ ?_
   rintro ⟨x943, l944⟩ b938 _ _ oL655 ⟨hs941, rfl, rfl, hle939, h942, hln945⟩ hstepL655 houtL655
   unfold mSlicesStableCmpFunc_2_L655 at hstepL655
   have hm := (unc2E hstepL655)
   refine c_seq ?_
   refine c_sr ?_
   refine t_mv rfl rfl ?_
   refine t_mv rfl rfl ?_
   refine t_st rfl (st_lss rfl rfl) ?_
   refine t_ne ?_
   refine c_cond _ rfl (fun hc946 => ?_) (fun hc946 => ?_)
   ·
    rw [if_pos (of_decide_eq_true hc946)] at hm
    refine c_skip ?_
    refine x_then_normal ?_
    refine c_block ?_
    refine c_sr ?_
    refine t_mv rfl rfl ?_
    obtain ⟨_, h947, hm⟩ := bindS hm
    have h947 := (chk_some h947).2
    refine t_st rfl (st_mul rfl rfl h947) ?_
    refine t_as rfl rfl ?_
    refine t_as rfl rfl ?_
    refine t_ne ?_
    obtain ⟨⟨x1003, l1004⟩, hj1006, hk1006⟩ := bindS hm
    refine c_join (fun b998 e' hp' => ∃ (hs1001 : Hp), [(0, .slice A3 (l1004).length c4), (1, .int .i64 (x7)), (2, .func (.func 25) #[] #[.pointer (some ⟨g6, 0, none⟩)]), (6, .int .i64 (x943)), (7, .int .i64 (x1003))] = e' ∧ (g6, Cl 36 [.slice A8 (l11).length c9]) :: (hs1001 ++ R) = hp' ∧ b938.Le b998 ∧ OS 3 (OT.fr (RT.int .i64)) b998.w (.slice A3 l1004.length c4) l1004 hs1001 ∧ l1004.length = l12.length) ?_ ?_
    ·
     have hm := hj1006
     refine c_block ?_
     refine c_loopM (unc3 fun x1042 x1043 l1044 => fun b1037 e' hp' => ∃ (hs1040 : Hp), [(0, .slice A3 (l1044).length c4), (1, .int .i64 (x7)), (2, .func (.func 25) #[] #[.pointer (some ⟨g6, 0, none⟩)]), (6, .int .i64 (x943)), (7, .int .i64 (x1042)), (8, .int .i64 (x1043))] = e' ∧ (g6, Cl 36 [.slice A8 (l11).length c9]) :: (hs1040 ++ R) = hp' ∧ b938.Le b1037 ∧ OS 3 (OT.fr (RT.int .i64)) b1037.w (.slice A3 l1044.length c4) l1044 hs1040 ∧ l1044.length = l12.length) hm (e' := [(0, .slice A3 (l944).length c4), (1, .int .i64 (x7)), (2, .func (.func 25) #[] #[.pointer (some ⟨g6, 0, none⟩)]), (6, .int .i64 (x943)), (7, .int .i64 (0)), (8, .int .i64 (2 * x943))]) ⟨rfl, rfl, rfl, rfl, rfl, rfl, trivial⟩ (.refl _) ⟨hs941, rfl, rfl, (Base.Le.refl _), h942, hln945⟩ ?_
     rintro ⟨x1042, x1043, l1044⟩ b1037 _ _ oL1007 ⟨hs1040, rfl, rfl, hle1038, h1041, hln1045⟩ hstepL1007 houtL1007
     unfold mSlicesStableCmpFunc_2_L1007 at hstepL1007
     have hm := (unc3E hstepL1007)
     refine c_seq ?_
     refine c_sr ?_
     refine t_mv rfl rfl ?_
     refine t_mv rfl rfl ?_
     refine t_st rfl (st_leq rfl rfl) ?_
     refine t_ne ?_
     refine c_cond _ rfl (fun hc1046 => ?_) (fun hc1046 => ?_)
     ·
      rw [if_pos (of_decide_eq_true hc1046)] at hm
      refine c_skip ?_
      refine x_then_normal ?_
      refine c_block ?_
      refine c_sr ?_
      refine t_mv rfl rfl ?_
      refine t_mv rfl rfl ?_
      refine t_mv rfl rfl ?_
      refine t_mv rfl rfl ?_
      obtain ⟨_, h1047, hm⟩ := bindS hm
      have h1047 := (chk_some h1047).2
      refine t_st rfl (st_add rfl rfl h1047) ?_
      refine t_mv rfl rfl ?_
      refine t_mv rfl rfl ?_
      obtain ⟨l1048, hcl1049, hm⟩ := bindS hm
      obtain ⟨Nhcl1049, hcl1049⟩ := lim_some hcl1049
      refine t_out1 [_] [] hs1040 R rfl ?_
      refine t_callG _ rfl call59 rfl (cSlicesSymMergeCmpFunc_2 Nhcl1049 _ _ x1042 (x1042 + x943) x1043 l11 l1044 g6 A8 c9 A3 c4 hs1040 (h10.le (hle596.trans (hle651.trans (hle939.trans hle1038)))) h1041 l1048 hcl1049) ?_
      rintro _ b1050 _ hle1051 ⟨hs1052, rfl, rfl, h1053, h1054⟩
      refine t_in1 [_] [] hs1052 R rfl ?_
      refine t_resp 0 rfl (v' := .slice A3 (l1048).length c4) (by rw [h1054]) ?_
      refine t_ne ?_
      refine c_sr ?_
      refine t_mv rfl rfl ?_
      refine t_as rfl rfl ?_
      refine t_ne ?_
      refine c_region ?_
      refine t_mv rfl rfl ?_
      refine t_mv rfl rfl ?_
      obtain ⟨_, h1055, hm⟩ := bindS hm
      have h1055 := (chk_some h1055).2
      refine t_st rfl (st_mul rfl rfl h1055) ?_
      obtain ⟨_, h1056, hm⟩ := bindS hm
      have h1056 := (chk_some h1056).2
      refine t_st rfl (st_add rfl rfl h1056) ?_
      refine t_as rfl rfl ?_
      refine t_nil ?_
      refine x_block_normal ?_
      exact x_againM (x1043, x1043 + (2 * x943), l1048) (Option.some.inj hm).symm (e' := [(0, .slice A3 (l1048).length c4), (1, .int .i64 (x7)), (2, .func (.func 25) #[] #[.pointer (some ⟨g6, 0, none⟩)]), (6, .int .i64 (x943)), (7, .int .i64 (x1043)), (8, .int .i64 (x1043 + (2 * x943)))]) ⟨rfl, rfl, rfl, rfl, rfl, rfl, trivial⟩ (.refl _) ⟨hs1052, rfl, rfl, ((hle1038.trans hle1051)), h1053, (h1054.trans hln1045)⟩
     ·
      rw [if_neg (of_decide_eq_false hc1046)] at hm
      refine c_exit ?_
      refine x_then_exit ?_
      refine x_then_exit ?_
      refine x_block_out ?_
      have hm := congrArg some (houtL1007 _ (Option.some.inj hm).symm)
      obtain ⟨rfl, rfl⟩ := some2 hm
      exact x_join (e' := [(0, .slice A3 (l1044).length c4), (1, .int .i64 (x7)), (2, .func (.func 25) #[] #[.pointer (some ⟨g6, 0, none⟩)]), (6, .int .i64 (x943)), (7, .int .i64 (x1042))]) ⟨rfl, rfl, rfl, rfl, rfl, trivial⟩ (.refl _) ⟨hs1040, rfl, rfl, hle1038, h1041, hln1045⟩
    ·
     rintro b998 _ _ ⟨hs1001, rfl, rfl, hle999, h1002, hln1005⟩
     have hm := (unc2E hk1006)
     obtain ⟨l1071, hj1073, hk1073⟩ := bindS hm
     refine c_join (fun b1066 e' hp' => ∃ (hs1069 : Hp), [(0, .slice A3 (l1071).length c4), (1, .int .i64 (x7)), (2, .func (.func 25) #[] #[.pointer (some ⟨g6, 0, none⟩)]), (6, .int .i64 (x943))] = e' ∧ (g6, Cl 36 [.slice A8 (l11).length c9]) :: (hs1069 ++ R) = hp' ∧ b998.Le b1066 ∧ OS 3 (OT.fr (RT.int .i64)) b1066.w (.slice A3 l1071.length c4) l1071 hs1069 ∧ l1071.length = l12.length) ?_ ?_
     ·
      have hm := hj1073
      refine c_sr ?_
      refine t_mv rfl rfl ?_
      refine t_mv rfl rfl ?_
      obtain ⟨_, h1074, hm⟩ := bindS hm
      have h1074 := (chk_some h1074).2
      refine t_st rfl (st_add rfl rfl h1074) ?_
      refine t_as rfl rfl ?_
      refine t_ne ?_
      refine c_sr ?_
      refine t_mv rfl rfl ?_
      refine t_mv rfl rfl ?_
      refine t_st rfl (st_lss rfl rfl) ?_
      refine t_ne ?_
      refine c_cond _ rfl (fun hc1075 => ?_) (fun hc1075 => ?_)
      ·
       rw [if_pos (of_decide_eq_true hc1075)] at hm
       refine c_region ?_
       refine t_mv rfl rfl ?_
       refine t_mv rfl rfl ?_
       refine t_mv rfl rfl ?_
       refine t_mv rfl rfl ?_
       refine t_mv rfl rfl ?_
       obtain ⟨l1076, hcl1077, hm⟩ := bindS hm
       obtain ⟨Nhcl1077, hcl1077⟩ := lim_some hcl1077
       refine t_out1 [_] [] hs1001 R rfl ?_
       refine t_callG _ rfl call59 rfl (cSlicesSymMergeCmpFunc_2 Nhcl1077 _ _ x1003 (x1003 + x943) x7 l11 l1004 g6 A8 c9 A3 c4 hs1001 (h10.le (hle596.trans (hle651.trans (hle939.trans hle999)))) h1002 l1076 hcl1077) ?_
       rintro _ b1078 _ hle1079 ⟨hs1080, rfl, rfl, h1081, h1082⟩
       refine t_in1 [_] [] hs1080 R rfl ?_
       refine t_resp 0 rfl (v' := .slice A3 (l1076).length c4) (by rw [h1082]) ?_
       refine t_nil ?_
       obtain rfl := some1 hm
       exact x_join (e' := [(0, .slice A3 (l1076).length c4), (1, .int .i64 (x7)), (2, .func (.func 25) #[] #[.pointer (some ⟨g6, 0, none⟩)]), (6, .int .i64 (x943))]) ⟨rfl, rfl, rfl, rfl, trivial⟩ (.refl _) ⟨hs1080, rfl, rfl, hle1079, h1081, (h1082.trans hln1005)⟩
      ·
       rw [if_neg (of_decide_eq_false hc1075)] at hm
       refine c_skip ?_
       obtain rfl := some1 hm
       exact x_join (e' := [(0, .slice A3 (l1004).length c4), (1, .int .i64 (x7)), (2, .func (.func 25) #[] #[.pointer (some ⟨g6, 0, none⟩)]), (6, .int .i64 (x943))]) ⟨rfl, rfl, rfl, rfl, trivial⟩ (.refl _) ⟨hs1001, rfl, rfl, (Base.Le.refl _), h1002, hln1005⟩
     ·
      rintro b1066 _ _ ⟨hs1069, rfl, rfl, hle1067, h1070, hln1072⟩
      have hm := hk1073
      refine c_region ?_
      refine t_mv rfl rfl ?_
      obtain ⟨_, h1083, hm⟩ := bindS hm
      have h1083 := (chk_some h1083).2
      refine t_st rfl (st_mul rfl rfl h1083) ?_
      refine t_as rfl rfl ?_
      refine t_nil ?_
      refine x_block_normal ?_
      exact x_againM (x943 * 2, l1071) (Option.some.inj hm).symm (e' := [(0, .slice A3 (l1071).length c4), (1, .int .i64 (x7)), (2, .func (.func 25) #[] #[.pointer (some ⟨g6, 0, none⟩)]), (6, .int .i64 (x943 * 2))]) ⟨rfl, rfl, rfl, rfl, trivial⟩ (.refl _) ⟨hs1069, rfl, rfl, ((hle939.trans (hle999.trans hle1067))), h1070, hln1072⟩
   ·
    rw [if_neg (of_decide_eq_false hc946)] at hm
    refine c_exit ?_
    refine x_then_exit ?_
    refine x_then_exit ?_
    refine x_block_out ?_
    have hm := congrArg some (houtL655 _ (Option.some.inj hm).symm)
    obtain rfl := some1 hm
    exact endM (hle596.trans (hle651.trans hle939)) rfl (.refl _) ⟨hs941, rfl, rfl, h942, hln945⟩

set_option maxRecDepth 20000 in
theorem cSlicesSortStableFunc_2 (b : Base) (R : Hp) (l10 : (List FareSpan)) (l11 : (List Int)) (g6 : Nat) (A7 : Option Addr) (c8 : Nat) (A3 : Option Addr) (c4 : Nat) (hs2 : Hp) (h9 : FZ rFareSpan b.w A7 c8 l10) (h5 : OS 3 (OT.fr (RT.int .i64)) b.w (.slice A3 l11.length c4) l11 hs2) (l22 : (List Int)) (hm : mSlicesSortStableFunc_2 l10 l11 = some l22) :
    CallsG Tryz.prog 24 [.slice A3 (l11).length c4, .func (.func 25) #[] #[.pointer (some ⟨g6, 0, none⟩)]] b ((g6, Cl 36 [.slice A7 (l10).length c8]) :: (hs2 ++ R)) (fun v b' hp' => ∃ (hs20 : Hp), .tuple #[] = v ∧ (g6, Cl 36 [.slice A7 (l10).length c8]) :: (hs20 ++ R) = hp' ∧ OS 3 (OT.fr (RT.int .i64)) b'.w (.slice A3 l22.length c4) l22 hs20 ∧ l22.length = l11.length) := by
  refine fn_enterG 9 Tryz.func24 rfl Tryz.ntmps24 rfl ?_
  unfold mSlicesSortStableFunc_2 at hm
  refine c_region ?_
  refine t_mv rfl rfl ?_
  refine t_mv rfl rfl ?_
  refine t_st rfl (st_len rfl sl22) ?_
  refine t_mv rfl rfl ?_
  obtain ⟨l24, hcl25, hm⟩ := bindS hm
  refine t_out1 [_] [] hs2 R rfl ?_
  refine t_callG _ rfl call39 rfl (cSlicesStableCmpFunc_2 _ _ (l11.length : Int) l10 l11 g6 A7 c8 A3 c4 hs2 h9 h5 l24 hcl25) ?_
  rintro _ b26 _ hle27 ⟨hs28, rfl, rfl, h29, h30⟩
  refine t_in1 [_] [] hs28 R rfl ?_
  refine t_nil ?_
  obtain rfl := some1 hm
  exact endM hle27 rfl (.refl _) ⟨hs28, rfl, rfl, h29, (h30.trans rfl)⟩

set_option maxRecDepth 20000 in
theorem cFarePack_2 (b : Base) (R : Hp) (x3 : Int) (l7 : (List FareSpan)) (x8 : Int) (g1 : Nat) (g2 : Nat) (A4 : Option Addr) (c5 : Nat) (h6 : FZ rFareSpan b.w A4 c5 l7) (x19 : Bool) (hm : mFarePack_2 x3 l7 x8 = some x19) :
    CallsG Tryz.prog 27 [.int .i64 (x3), .pointer (some ⟨g1, 0, none⟩), .pointer (some ⟨g2, 0, none⟩)] b ((g1, Cl 36 [.slice A4 (l7).length c5]) :: (g2, Cl 3 [.int .i64 (x8)]) :: R) (fun v b' hp' => .bool (x19) = v ∧ (g1, Cl 36 [.slice A4 (l7).length c5]) :: (g2, Cl 3 [.int .i64 (x8)]) :: R = hp') := by
  refine fn_enterG 12 Tryz.func27 rfl Tryz.ntmps27 rfl ?_
  unfold mFarePack_2 at hm
  refine c_sr ?_
  refine t_as rfl rfl ?_
  refine t_ne ?_
  refine c_sr ?_
  refine t_mv rfl rfl ?_
  refine t_st rfl (st_load 0 rfl one36 rfl rfl) ?_
  refine t_st rfl (st_load 1 rfl one3 rfl rfl) ?_
  obtain ⟨x20, h21, hm⟩ := bindS hm
  obtain ⟨j22, hj23, hx24⟩ := idx_some h21
  obtain ⟨cs25, hr26, hcs27, hA28, hlt29⟩ := FZ.get (sz := 2) rfl (by decide) h6 hx24
  obtain ⟨_, _, rfl, rfl, rfl⟩ := hr26
  refine t_st rfl (st_index_old j22 rfl rfl hj23 hlt29 hA28 sl36) ?_
  refine t_st rfl (st_field_old rfl hA28 fld42_0) ?_
  refine t_st rfl (st_load_old rfl one3 (hcs27 0 _ rfl)) ?_
  refine t_st rfl (st_leq rfl rfl) ?_
  refine t_as rfl rfl ?_
  refine t_ne ?_
  refine c_ret ?_
  obtain rfl := some1 hm
  refine x_pullb 1 rfl ?_
  refine x_pullb 1 rfl ?_
  exact retM (rs := [.tmp 4]) [.bool (decide (x3 ≤ x20.From))] (Base.Le.refl _) (by decide) rfl ⟨rfl, trivial⟩ rfl (.refl _) ⟨rfl, rfl⟩

set_option maxRecDepth 20000 in
theorem cSlicesIndexFunc_6 (b : Base) (R : Hp) (l11 : (List FareSpan)) (x12 : Int) (l13 : (List Int)) (g6 : Nat) (g7 : Nat) (A8 : Option Addr) (c9 : Nat) (A3 : Option Addr) (c4 : Nat) (hs2 : Hp) (h10 : FZ rFareSpan b.w A8 c9 l11) (h5 : OS 3 (OT.fr (RT.int .i64)) b.w (.slice A3 l13.length c4) l13 hs2) (x66 : Int) (hm : mSlicesIndexFunc_6 l11 x12 l13 = some x66) :
    CallsG Tryz.prog 23 [.slice A3 (l13).length c4, .func (.func 27) #[] #[.pointer (some ⟨g6, 0, none⟩), .pointer (some ⟨g7, 0, none⟩)]] b ((g6, Cl 36 [.slice A8 (l11).length c9]) :: (g7, Cl 3 [.int .i64 (x12)]) :: (hs2 ++ R)) (fun v b' hp' => .int .i64 (x66) = v ∧ (g6, Cl 36 [.slice A8 (l11).length c9]) :: (g7, Cl 3 [.int .i64 (x12)]) :: (hs2 ++ R) = hp') := by
  refine fn_enterG 19 Tryz.func23 rfl Tryz.ntmps23 rfl ?_
  unfold mSlicesIndexFunc_6 at hm
  refine c_sr ?_
  refine t_as rfl rfl ?_
  refine t_ne ?_
  refine c_seq ?_
  refine c_sr ?_
  refine t_mv rfl rfl ?_
  refine t_st rfl (st_len rfl sl22) ?_
  refine t_mv rfl rfl ?_
  refine t_ne ?_
  refine c_block ?_
  have hb68 : l13.length ≤ 9223372036854775807 := (OS.len h5)
  refine c_pullb 1 rfl ?_
  refine c_pullb 1 rfl ?_
  obtain ⟨t93, hl94, hk95⟩ := bindS hm
  refine c_forM (fun k92 => fun _ => fun b90 e' hp' => [(0, .slice A3 (l13).length c4), (1, .func (.func 27) #[] #[.pointer (some ⟨g6, 0, none⟩), .pointer (some ⟨g7, 0, none⟩)]), (7, .int .i64 ((l13.length : Int))), (8, .int .i64 ((k92 : Int)))] = e' ∧ (g6, Cl 36 [.slice A8 (l11).length c9]) :: (g7, Cl 3 [.int .i64 (x12)]) :: (hs2 ++ R) = hp' ∧ b.Le b90) hl94 (e' := [(0, .slice A3 (l13).length c4), (1, .func (.func 27) #[] #[.pointer (some ⟨g6, 0, none⟩), .pointer (some ⟨g7, 0, none⟩)]), (7, .int .i64 ((l13.length : Int))), (8, .int .i64 0)]) ⟨rfl, rfl, rfl, rfl, trivial⟩ (.refl _) ⟨rfl, rfl, (Base.Le.refl _)⟩ ?_ ?_
  ·
   rintro k92 _ b90 _ _ oL67 hknL67 ⟨rfl, rfl, hle91⟩ hstepL67 houtL67
   unfold mSlicesIndexFunc_6_L67 at hstepL67
   have hm := hstepL67
   refine c_sr ?_
   refine t_st rfl (st_lss_t rfl rfl (by omega)) ?_
   refine t_ne ?_
   refine c_seq ?_
   refine c_cond_t rfl ?_
   refine c_skip ?_
   refine x_then_normal ?_
   refine c_seq ?_
   refine c_block ?_
   refine c_sr ?_
   refine t_mv rfl rfl ?_
   refine t_as rfl rfl ?_
   refine t_ne ?_
   refine c_sr ?_
   refine t_mv rfl rfl ?_
   refine t_mv rfl rfl ?_
   refine t_mv rfl rfl ?_
   obtain ⟨x96, h97, hm⟩ := bindS hm
   obtain ⟨j98, hj99, hx100⟩ := idx_some h97
   obtain ⟨cs101, hs106, P107, P108, hq109, hr102, hcs103, hA104, hlt105, hb110, hho111⟩ := OS.get (sz := 1) rfl (by decide) (h5.le hle91) hx100
   obtain ⟨rfl, rfl⟩ := hr102
   refine t_st rfl (st_index_old j98 rfl rfl hj99 hlt105 hA104 sl22) ?_
   refine t_st rfl (st_load_rd rfl one3 (fun w ho => hcs103 w _ ho (.cons _ (.cons _ (List.sublist_append_left _ _))) 0 _ rfl)) ?_
   obtain ⟨x112, hcl113, hm⟩ := bindS hm
   refine t_pullb 1 rfl ?_
   refine t_pullb 1 rfl ?_
   refine t_callvG #[] #[.pointer (some ⟨g6, 0, none⟩), .pointer (some ⟨g7, 0, none⟩)] [.int .i64 (x96)] rfl rfl call27 rfl (cFarePack_2 _ _ x96 l11 x12 g6 g7 A8 c9 (h10.le hle91) x112 hcl113) ?_
   rintro _ b114 _ hle115 ⟨rfl, rfl⟩
   refine t_ne ?_
   refine c_cond _ rfl (fun hc116 => ?_) (fun hc116 => ?_)
   ·
    rw [if_pos hc116] at hm
    refine c_sr ?_
    refine t_mv rfl rfl ?_
    refine t_as rfl rfl ?_
    refine t_ne ?_
    refine c_ret ?_
    refine x_block_ret ?_
    refine x_then_ret ?_
    refine x_then_ret ?_
    refine x_block_ret ?_
    refine x_then_ret ?_
    have hq117 := houtL67 _ (Option.some.inj hm).symm
    rw [hq117] at hk95
    have hm := elimR hk95
    obtain rfl := some1 hm
    refine x_pullb 1 rfl ?_
    refine x_pullb 1 rfl ?_
    exact retM (rs := [.tmp 4]) [.int .i64 ((k92 : Int))] (hle91.trans hle115) (by decide) rfl ⟨rfl, trivial⟩ rfl (.refl _) ⟨rfl, rfl⟩
   ·
    rw [if_neg (fun hh => Bool.noConfusion (hh.symm.trans hc116))] at hm
    refine c_skip ?_
    refine x_block_normal ?_
    refine x_then_normal ?_
    refine c_region ?_
    refine t_st rfl (st_add rfl rfl (by omega)) ?_
    refine t_mv rfl rfl ?_
    refine t_nil ?_
    refine x_pullb 1 rfl ?_
    refine x_pullb 1 rfl ?_
    exact x_againM () (Option.some.inj hm).symm (e' := [(0, .slice A3 (l13).length c4), (1, .func (.func 27) #[] #[.pointer (some ⟨g6, 0, none⟩), .pointer (some ⟨g7, 0, none⟩)]), (7, .int .i64 ((l13.length : Int))), (8, .int .i64 ((k92 : Int) + 1))]) ⟨rfl, rfl, rfl, rfl, trivial⟩ (.refl _) ⟨rfl, rfl, ((hle91.trans hle115))⟩
  ·
   rintro _ b90 _ _ ⟨rfl, rfl, hle91⟩ hq118
   rw [hq118] at hk95
   have hm := elimL hk95
   refine c_sr ?_
   refine t_st rfl (st_lss_f rfl rfl (by omega)) ?_
   refine t_ne ?_
   refine c_seq ?_
   refine c_cond_f rfl ?_
   refine c_exit ?_
   refine x_then_exit ?_
   refine x_then_exit ?_
   refine x_block_out ?_
   refine x_then_normal ?_
   refine c_sr ?_
   refine t_as rfl rfl ?_
   refine t_ne ?_
   refine c_ret ?_
   obtain rfl := some1 hm
   refine x_pullb 1 rfl ?_
   refine x_pullb 1 rfl ?_
   exact retM (rs := [.tmp 4]) [.int .i64 ((-1))] hle91 (by decide) rfl ⟨rfl, trivial⟩ rfl (.refl _) ⟨rfl, rfl⟩

set_option maxRecDepth 20000 in
theorem cFarePack (b : Base) (R : Hp) (l4 : (List FareSpan)) (x5 : Int) (x6 : Int) (A1 : Option Addr) (c2 : Nat) (h3 : FZ rFareSpan b.w A1 c2 l4) (x542 : Int) (l543 : (List Int)) (hm : mFarePack l4 x5 x6 = some (x542, l543)) :
    CallsG Tryz.prog 14 [.slice A1 (l4).length c2, .int .i64 (x5), .int .i64 (x6)] b (R) (fun v b' hp' => ∃ (A539 : Option Addr), ∃ (c540 : Nat), ∃ (hs538 : Hp), .tuple #[.slice A539 (l543).length c540, .int .i64 (x542)] = v ∧ (hs538 ++ R) = hp' ∧ OS 3 (OT.fr (RT.int .i64)) b'.w (.slice A539 l543.length c540) l543 hs538) := by
  refine fn_enterG 82 Tryz.func14 rfl Tryz.ntmps14 rfl ?_
  unfold mFarePack at hm
  refine c_sr ?_
  refine t_do rfl (u_box _ rfl rfl) ?_
  rintro _ _ ⟨g544, rfl, rfl⟩
  refine t_as rfl rfl ?_
  refine t_as rfl rfl ?_
  refine t_ne ?_
  refine c_seq ?_
  refine c_sr ?_
  refine t_st rfl (st_load 0 rfl one36 rfl rfl) ?_
  refine t_st rfl (st_len rfl sl36) ?_
  refine t_st rfl (st_gtr rfl rfl) ?_
  refine t_ne ?_
  refine c_cond _ rfl (fun hc545 => ?_) (fun hc545 => ?_)
  ·
   rw [if_pos (of_decide_eq_true hc545)] at hm
   refine c_sr ?_
   refine t_as rfl rfl ?_
   refine t_as rfl rfl ?_
   refine t_ne ?_
   refine c_ret ?_
   refine x_then_ret ?_
   obtain ⟨rfl, rfl⟩ := some2 hm
   exact retM (rs := [.tmp 6, .tmp 7]) [.slice none 0 0, .int .i64 (4)] (Base.Le.refl _) (by decide) rfl ⟨rfl, ⟨rfl, trivial⟩⟩ rfl (.cons _ (.refl _)) ⟨none, 0, [], rfl, rfl, OS.nil⟩
  ·
   rw [if_neg (of_decide_eq_false hc545)] at hm
   refine c_skip ?_
   refine x_then_normal ?_
   refine c_seq ?_
   obtain ⟨x553, hj554, hk554⟩ := bindS hm
   refine c_join (fun b551 e' hp' => [(1, .int .i64 (x5)), (2, .int .i64 (x6)), (3, .pointer (some ⟨g544, 0, none⟩)), (26, .bool (x553))] = e' ∧ (g544, Cl 36 [.slice A1 (l4).length c2]) :: R = hp' ∧ b.Le b551) ?_ ?_
   ·
    have hm := hj554
    refine c_region ?_
    refine t_mv rfl rfl ?_
    obtain ⟨x555, hcl556, hm⟩ := bindS hm
    refine t_do rfl (u_callW0 _ call16 rfl (fun w ho => cFareWithin _ [] x5 1 80 x555 hcl556) (fun _ _ _ h => h.2.symm)) ?_
    rintro _ _ ⟨⟨_, rfl, _⟩, rfl⟩
    rcases Bool.eq_false_or_eq_true x555 with hc557 | hc557
    ·
     rw [if_pos hc557] at hm
     refine t_resp 20 rfl (v' := .bool true) (by rw [hc557] <;> rfl) ?_
     refine t_st rfl (st_not_t rfl) ?_
     refine t_mv rfl rfl ?_
     refine t_yes 22 rfl rfl rfl ?_
     refine t_mv rfl rfl ?_
     refine t_yes 22 rfl rfl rfl ?_
     obtain ⟨x558, hcl559, hm⟩ := bindS hm
     refine t_do rfl (u_callW0 _ call16 rfl (fun w ho => cFareWithin _ [] x6 2 12 x558 hcl559) (fun _ _ _ h => h.2.symm)) ?_
     rintro _ _ ⟨⟨_, rfl, _⟩, rfl⟩
     refine t_yes 22 rfl rfl rfl ?_
     refine t_st rfl (st_not rfl) ?_
     refine t_st rfl (st_pick_f rfl rfl) ?_
     refine t_nil ?_
     obtain rfl := some1 hm
     exact x_join (e' := [(1, .int .i64 (x5)), (2, .int .i64 (x6)), (3, .pointer (some ⟨g544, 0, none⟩)), (26, .bool (!x558))]) ⟨rfl, rfl, rfl, rfl, trivial⟩ (.refl _) ⟨rfl, rfl, (Base.Le.refl _)⟩
    ·
     rw [if_neg (fun hh => Bool.noConfusion (hh.symm.trans hc557))] at hm
     refine t_resp 20 rfl (v' := .bool false) (by rw [hc557] <;> rfl) ?_
     refine t_st rfl (st_not_f rfl) ?_
     refine t_mv rfl rfl ?_
     refine t_no 22 rfl rfl rfl rfl rfl ?_
     refine t_no 22 rfl rfl rfl rfl rfl ?_
     refine t_no 22 rfl rfl rfl rfl rfl ?_
     refine t_st rfl (st_pick_t rfl rfl) ?_
     refine t_nil ?_
     obtain rfl := some1 hm
     exact x_join (e' := [(1, .int .i64 (x5)), (2, .int .i64 (x6)), (3, .pointer (some ⟨g544, 0, none⟩)), (26, .bool (true))]) ⟨rfl, rfl, rfl, rfl, trivial⟩ (.refl _) ⟨rfl, rfl, (Base.Le.refl _)⟩
   ·
    rintro b551 _ _ ⟨rfl, rfl, hle552⟩
    have hm := hk554
    refine c_cond _ rfl (fun hc560 => ?_) (fun hc560 => ?_)
    ·
     rw [if_pos hc560] at hm
     refine c_sr ?_
     refine t_as rfl rfl ?_
     refine t_as rfl rfl ?_
     refine t_ne ?_
     refine c_ret ?_
     refine x_then_ret ?_
     obtain ⟨rfl, rfl⟩ := some2 hm
     exact retM (rs := [.tmp 6, .tmp 7]) [.slice none 0 0, .int .i64 (2)] hle552 (by decide) rfl ⟨rfl, ⟨rfl, trivial⟩⟩ rfl (.cons _ (.refl _)) ⟨none, 0, [], rfl, rfl, OS.nil⟩
    ·
     rw [if_neg (fun hh => Bool.noConfusion (hh.symm.trans hc560))] at hm
     refine c_skip ?_
     refine x_then_normal ?_
     refine c_sr ?_
     refine t_st rfl (st_load 0 rfl one36 rfl rfl) ?_
     refine t_st rfl (st_len rfl sl36) ?_
     obtain ⟨m561, h562, hm⟩ := bindS hm
     have h562 := mkLen_some h562
     refine t_do rfl (u_mkOS (r := (RT.int .i64)) [_] R [.int .i64 (0)] 0 m561 rfl h562.1 rfl rfl sl22 inf3 rfl rfl rfl (by decide) rfl h562.2.1 h562.2.2) ?_
     rintro _ _ ⟨hs563, rfl, h564⟩
     obtain ⟨A565, c566, rfl, _⟩ := h564.form
     refine t_as rfl rfl ?_
     refine t_ne ?_
     refine c_seq ?_
     refine c_sr ?_
     refine t_st rfl (st_load 0 rfl one36 rfl rfl) ?_
     refine t_st rfl (st_len rfl sl36) ?_
     refine t_mv rfl rfl ?_
     refine t_ne ?_
     refine c_block ?_
     have hb568 : l4.length ≤ 9223372036854775807 := (FZ.bd (h3.le hle552))
     obtain ⟨t646, hl647, hk648⟩ := bindS hm
     refine c_forM (fun k645 => fun l643 => fun b638 e' hp' => ∃ (hs641 : Hp), [(1, .int .i64 (x5)), (2, .int .i64 (x6)), (3, .pointer (some ⟨g544, 0, none⟩)), (8, .slice A565 (l643).length c566), (30, .slice A1 (l4).length c2), (31, .int .i64 ((l4.length : Int))), (32, .int .i64 ((k645 : Int)))] = e' ∧ (g544, Cl 36 [.slice A1 (l4).length c2]) :: (hs641 ++ R) = hp' ∧ b551.Le b638 ∧ OS 3 (OT.fr (RT.int .i64)) b638.w (.slice A565 l643.length c566) l643 hs641 ∧ l643.length = m561) hl647 (e' := [(1, .int .i64 (x5)), (2, .int .i64 (x6)), (3, .pointer (some ⟨g544, 0, none⟩)), (8, .slice A565 (List.replicate m561 (0 : Int)).length c566), (30, .slice A1 (l4).length c2), (31, .int .i64 ((l4.length : Int))), (32, .int .i64 0)]) ⟨rfl, rfl, rfl, rfl, rfl, rfl, rfl, trivial⟩ (.refl _) ⟨hs563, rfl, rfl, (Base.Le.refl _), h564, List.length_replicate⟩ ?_ ?_
     ·
      rintro k645 l643 b638 _ _ oL567 hknL567 ⟨hs641, rfl, rfl, hle639, h642, hln644⟩ hstepL567 houtL567
      unfold mFarePack_L567 at hstepL567
      have hm := hstepL567
      refine c_sr ?_
      refine t_st rfl (st_lss_t rfl rfl (by omega)) ?_
      refine t_ne ?_
      refine c_seq ?_
      refine c_cond_t rfl ?_
      refine c_skip ?_
      refine x_then_normal ?_
      refine c_seq ?_
      refine c_block ?_
      refine c_sr ?_
      refine t_mv rfl rfl ?_
      obtain ⟨x649, h650, hm⟩ := bindS hm
      obtain ⟨j651, hj652, hx653⟩ := idx_some h650
      obtain ⟨cs654, hr655, hcs656, hA657, hlt658⟩ := FZ.get (sz := 2) rfl (by decide) (h3.le (hle552.trans hle639)) hx653
      obtain ⟨_, _, rfl, rfl, rfl⟩ := hr655
      refine t_st rfl (st_index_old j651 rfl rfl hj652 hlt658 hA657 sl36) ?_
      refine t_st rfl (st_loadN_old (vs := [.int .i64 (x649.From), .int .i64 (x649.To)]) 2 rfl agg42 hA657 rfl (fun j u hu => hcs656 j u hu)) ?_
      refine t_do rfl (u_alloc [.int .i64 0, .int .i64 0] zero42 rfl) ?_
      rintro _ _ ⟨g659, rfl, rfl⟩
      refine t_as rfl rfl ?_
      refine t_do rfl (u_storeN (vs := [_, _]) 0 2 rfl rfl rfl siz42 rfl (mem_c rfl (mem_c rfl mem_n)) rfl (by simp)) ?_
      rintro _ _ rfl
      refine t_ne ?_
      refine c_seq ?_
      refine c_sr ?_
      refine t_st rfl (st_field rfl fld42_0) ?_
      refine t_st rfl (st_load 0 rfl one3 rfl rfl) ?_
      refine t_st rfl (st_field rfl fld42_1) ?_
      refine t_st rfl (st_load 0 rfl one3 rfl rfl) ?_
      refine t_mv rfl rfl ?_
      obtain ⟨x660, hcl661, hm⟩ := bindS hm
      refine t_do rfl (u_callW0 _ call18 rfl (fun w ho => cFareSpan _ [] x649.From x649.To x6 x660 hcl661) (fun _ _ _ h => h.2.symm)) ?_
      rintro _ _ ⟨⟨_, rfl, _⟩, rfl⟩
      refine t_st rfl (st_not rfl) ?_
      refine t_ne ?_
      refine c_cond _ rfl (fun hc662 => ?_) (fun hc662 => ?_)
      ·
       rw [if_neg (fun hh => Bool.noConfusion (hh.symm.trans (notT hc662)))] at hm
       refine c_sr ?_
       refine t_as rfl rfl ?_
       refine t_as rfl rfl ?_
       refine t_ne ?_
       refine c_ret ?_
       refine x_then_ret ?_
       refine x_block_ret ?_
       refine x_then_ret ?_
       refine x_then_ret ?_
       refine x_block_ret ?_
       refine x_then_ret ?_
       have hq663 := houtL567 _ (Option.some.inj hm).symm
       rw [hq663] at hk648
       have hm := elimR hk648
       obtain ⟨rfl, rfl⟩ := some2 hm
       exact retM (rs := [.tmp 6, .tmp 7]) [.slice none 0 0, .int .i64 (2)] (hle552.trans hle639) (by decide) rfl ⟨rfl, ⟨rfl, trivial⟩⟩ rfl (.cons _ (.cons _ (sub_skip hs641 (.refl _)))) ⟨none, 0, [], rfl, rfl, OS.nil⟩
      ·
       rw [if_pos (notF hc662)] at hm
       refine c_skip ?_
       refine x_then_normal ?_
       refine c_region ?_
       refine t_mv rfl rfl ?_
       refine t_mv rfl rfl ?_
       refine t_mv rfl rfl ?_
       obtain ⟨x664, h665, hm⟩ := bindS hm
       obtain ⟨j666, hj667, hx668⟩ := idx_some h665
       obtain ⟨cs669, hs674, P675, P676, hq677, hr670, hcs671, hA672, hlt673, hb678, hho679⟩ := OS.get (sz := 1) rfl (by decide) h642 hx668
       obtain ⟨rfl, rfl⟩ := hr670
       refine t_st rfl (st_index_old j666 rfl rfl hj667 hlt673 hA672 sl22) ?_
       refine t_do rfl (u_putOS hj667 (sz := 1) (a' := (k645 : Int)) rfl [_, _] R 0 1 [.int .i64 ((k645 : Int))] rfl h642 hx668 rfl rfl rfl siz3 rfl (mem_c rfl mem_n) (fun cs hsj hh => by obtain ⟨rfl, rfl⟩ := hh; exact ⟨by decide, rfl, rfl⟩)) ?_
       rintro _ _ ⟨hs680, rfl, h681⟩
       refine t_resp 8 rfl (v' := .slice A565 (put l643 (k645 : Int) (k645 : Int)).length c566) (by simp only [put_length]) ?_
       refine t_nil ?_
       refine x_block_normal ?_
       refine x_then_normal ?_
       refine c_region ?_
       refine t_st rfl (st_add rfl rfl (by omega)) ?_
       refine t_mv rfl rfl ?_
       refine t_nil ?_
       refine x_pullb 1 rfl ?_
       exact x_againM (put l643 (k645 : Int) (k645 : Int)) (Option.some.inj hm).symm (e' := [(1, .int .i64 (x5)), (2, .int .i64 (x6)), (3, .pointer (some ⟨g544, 0, none⟩)), (8, .slice A565 (put l643 (k645 : Int) (k645 : Int)).length c566), (30, .slice A1 (l4).length c2), (31, .int .i64 ((l4.length : Int))), (32, .int .i64 ((k645 : Int) + 1))]) ⟨rfl, rfl, rfl, rfl, rfl, rfl, rfl, trivial⟩ (.cons_cons _ (.cons _ (.refl _))) ⟨hs680, rfl, rfl, (hle639), h681, ((put_length _ _ _).trans hln644)⟩
     ·
      rintro l643 b638 _ _ ⟨hs641, rfl, rfl, hle639, h642, hln644⟩ hq682
      rw [hq682] at hk648
      have hm := elimL hk648
      refine c_sr ?_
      refine t_st rfl (st_lss_f rfl rfl (by omega)) ?_
      refine t_ne ?_
      refine c_seq ?_
      refine c_cond_f rfl ?_
      refine c_exit ?_
      refine x_then_exit ?_
      refine x_then_exit ?_
      refine x_block_out ?_
      refine x_then_normal ?_
      refine c_sr ?_
      refine t_mv rfl rfl ?_
      refine t_st rfl (st_func _ _ rfl rfl) ?_
      obtain ⟨l683, hcl684, hm⟩ := bindS hm
      refine t_out1 [_] [] hs641 R rfl ?_
      refine t_callG _ rfl call24 rfl (cSlicesSortStableFunc_2 _ _ l4 l643 g544 A1 c2 A565 c566 hs641 (h3.le (hle552.trans hle639)) h642 l683 hcl684) ?_
      rintro _ b685 _ hle686 ⟨hs687, rfl, rfl, h688, h689⟩
      refine t_in1 [_] [] hs687 R rfl ?_
      refine t_resp 8 rfl (v' := .slice A565 (l683).length c566) (by rw [h689]) ?_
      refine t_ne ?_
      refine c_sr ?_
      refine t_mv rfl rfl ?_
      obtain ⟨m690, h691, hm⟩ := bindS hm
      have h691 := mkLen_some h691
      refine t_do rfl (u_mkOS (r := (RT.int .i64)) [_] (hs687 ++ R) [.int .i64 (0)] 0 m690 rfl h691.1 rfl rfl sl22 inf3 rfl rfl rfl (by decide) rfl h691.2.1 h691.2.2) ?_
      rintro _ _ ⟨hs692, rfl, h693⟩
      obtain ⟨A694, c695, rfl, _⟩ := h693.form
      refine t_as rfl rfl ?_
      refine t_ne ?_
      refine c_sr ?_
      refine t_st rfl (st_load 0 rfl one36 rfl rfl) ?_
      refine t_st rfl (st_len rfl sl36) ?_
      obtain ⟨m696, h697, hm⟩ := bindS hm
      have h697 := mkLen_some h697
      refine t_do rfl (u_mkOS (r := (RT.int .i64)) [_] (hs692 ++ (hs687 ++ R)) [.int .i64 (0)] 0 m696 rfl h697.1 rfl rfl sl22 inf3 rfl rfl rfl (by decide) rfl h697.2.1 h697.2.2) ?_
      rintro _ _ ⟨hs698, rfl, h699⟩
      obtain ⟨A700, c701, rfl, _⟩ := h699.form
      refine t_as rfl rfl ?_
      refine t_ne ?_
      refine c_seq ?_
      refine c_sr ?_
      refine t_mv rfl rfl ?_
      refine t_st rfl (st_len rfl sl22) ?_
      refine t_mv rfl rfl ?_
      refine t_ne ?_
      refine c_block ?_
      have hb703 : l683.length ≤ 9223372036854775807 := (OS.len h688)
      refine c_front3 [_] hs698 hs692 hs687 R rfl ?_
      refine c_front2 [_] hs687 hs698 (hs692 ++ R) rfl ?_
      refine c_front3 [_] hs698 hs687 hs692 R rfl ?_
      obtain ⟨t955, hl956, hk957⟩ := bindS hm
      refine c_forM (fun k954 => unc2 fun l950 l952 => fun b942 e' hp' => ∃ (hs945 : Hp), ∃ (hs948 : Hp), [(3, .pointer (some ⟨g544, 0, none⟩)), (11, .slice A694 (l950).length c695), (12, .slice A700 (l952).length c701), (57, .slice A565 (l683).length c566), (58, .int .i64 ((l683.length : Int))), (59, .int .i64 ((k954 : Int)))] = e' ∧ (g544, Cl 36 [.slice A1 (l4).length c2]) :: (hs945 ++ (hs948 ++ (hs687 ++ R))) = hp' ∧ b685.Le b942 ∧ OS 3 (OT.fr (RT.int .i64)) b942.w (.slice A694 l950.length c695) l950 hs945 ∧ l950.length = m690 ∧ OS 3 (OT.fr (RT.int .i64)) b942.w (.slice A700 l952.length c701) l952 hs948 ∧ l952.length = m696) hl956 (e' := [(3, .pointer (some ⟨g544, 0, none⟩)), (11, .slice A694 (List.replicate m690 (0 : Int)).length c695), (12, .slice A700 (List.replicate m696 (0 : Int)).length c701), (57, .slice A565 (l683).length c566), (58, .int .i64 ((l683.length : Int))), (59, .int .i64 0)]) ⟨rfl, rfl, rfl, rfl, rfl, rfl, trivial⟩ (.refl _) ⟨hs692, hs698, rfl, rfl, (Base.Le.refl _), h693, List.length_replicate, h699, List.length_replicate⟩ ?_ ?_
      ·
       rintro k954 ⟨l950, l952⟩ b942 _ _ oL702 hknL702 ⟨hs945, hs948, rfl, rfl, hle943, h946, hln951, h949, hln953⟩ hstepL702 houtL702
       unfold mFarePack_L702 at hstepL702
       have hm := (unc2E hstepL702)
       refine c_sr ?_
       refine t_st rfl (st_lss_t rfl rfl (by omega)) ?_
       refine t_ne ?_
       refine c_seq ?_
       refine c_cond_t rfl ?_
       refine c_skip ?_
       refine x_then_normal ?_
       refine c_seq ?_
       refine c_block ?_
       refine c_sr ?_
       obtain ⟨x958, h959, hm⟩ := bindS hm
       obtain ⟨j960, hj961, hx962⟩ := idx_some h959
       obtain ⟨cs963, hs968, P969, P970, hq971, hr964, hcs965, hA966, hlt967, hb972, hho973⟩ := OS.get (sz := 1) rfl (by decide) (h688.le hle943) hx962
       obtain ⟨rfl, rfl⟩ := hr964
       refine t_st rfl (st_index_old j960 rfl rfl hj961 hlt967 hA966 sl22) ?_
       refine t_st rfl (st_load_rd rfl one3 (fun w ho => hcs965 w _ ho (.cons _ (sub_skip hs945 (sub_skip hs948 (List.sublist_append_left _ _)))) 0 _ rfl)) ?_
       refine t_do rfl (u_alloc [.int .i64 0] zero3 rfl) ?_
       rintro _ _ ⟨g974, rfl, rfl⟩
       refine t_do rfl (u_store 0 rfl rfl siz3 rfl rfl (by simp)) ?_
       rintro _ _ rfl
       refine t_ne ?_
       refine c_sr ?_
       refine t_mv rfl rfl ?_
       refine t_st rfl (st_func _ _ rfl rfl) ?_
       obtain ⟨x975, hcl976, hm⟩ := bindS hm
       refine t_pullb 1 rfl ?_
       refine t_out1 [_, _] [] hs945 (hs948 ++ (hs687 ++ R)) rfl ?_
       refine t_callG _ rfl call23 rfl (cSlicesIndexFunc_6 _ _ l4 x958 l950 g544 g974 A1 c2 A694 c695 hs945 (h3.le (hle552.trans (hle639.trans (hle686.trans hle943)))) h946 x975 hcl976) ?_
       rintro _ b977 _ hle978 ⟨rfl, rfl⟩
       refine t_in1 [_, _] [] hs945 (hs948 ++ (hs687 ++ R)) rfl ?_
       refine t_as rfl rfl ?_
       refine t_ne ?_
       refine c_seq ?_
       refine c_sr ?_
       refine t_mv rfl rfl ?_
       refine t_st rfl (st_lss rfl rfl) ?_
       refine t_ne ?_
       refine c_cond _ rfl (fun hc979 => ?_) (fun hc979 => ?_)
       ·
        rw [if_pos (of_decide_eq_true hc979)] at hm
        refine c_sr ?_
        refine t_as rfl rfl ?_
        refine t_as rfl rfl ?_
        refine t_ne ?_
        refine c_ret ?_
        refine x_then_ret ?_
        refine x_block_ret ?_
        refine x_then_ret ?_
        refine x_then_ret ?_
        refine x_block_ret ?_
        refine x_then_ret ?_
        have hq980 := houtL702 _ (Option.some.inj hm).symm
        rw [hq980] at hk957
        have hm := elimR hk957
        obtain ⟨rfl, rfl⟩ := some2 hm
        exact retM (rs := [.tmp 6, .tmp 7]) [.slice none 0 0, .int .i64 (14)] (hle552.trans (hle639.trans (hle686.trans (hle943.trans hle978)))) (by decide) rfl ⟨rfl, ⟨rfl, trivial⟩⟩ rfl (.cons _ (.cons _ (sub_skip hs945 (sub_skip hs948 (sub_skip hs687 (.refl _)))))) ⟨none, 0, [], rfl, rfl, OS.nil⟩
       ·
        rw [if_neg (of_decide_eq_false hc979)] at hm
        refine c_skip ?_
        refine x_then_normal ?_
        obtain ⟨x1027, h1028, hm⟩ := bindS hm
        obtain ⟨x1037, h1038, hm⟩ := bindS hm
        obtain ⟨x1055, h1056, hm⟩ := bindS hm
        refine c_front2 [_, _] hs945 hs948 (hs687 ++ R) rfl ?_
        refine D_drawI mixed (.cons_cons _ (.cons_cons _ (sub_app hs948 (sub_skip hs945 (.refl _))))) ?_
        refine E_s0 0 rfl (st_move rfl) ?_
        refine E_s0 1 rfl (st_move rfl) ?_
        refine E_s0 2 rfl (st_move rfl) ?_
        refine E_st 3 rfl (st_load 1 rfl one3 rfl rfl) ?_
        refine E_st 4 rfl (st_load 0 rfl one36 rfl rfl) ?_
        refine E_st 5 rfl (st_load 1 rfl one3 rfl rfl) ?_
        obtain ⟨j1029, hj1030, hx1031⟩ := idx_some h1028
        obtain ⟨cs1032, hr1033, hcs1034, hA1035, hlt1036⟩ := FZ.get (sz := 2) rfl (by decide) (h3.le (hle552.trans (hle639.trans (hle686.trans (hle943.trans hle978))))) hx1031
        obtain ⟨_, _, rfl, rfl, rfl⟩ := hr1033
        refine E_s0 6 rfl (st_index_old j1029 rfl rfl hj1030 hlt1036 hA1035 sl36) ?_
        refine E_s0 7 rfl (st_field_old rfl hA1035 fld42_1) ?_
        refine E_st 8 rfl (st_load_old rfl one3 (hcs1034 1 _ rfl)) ?_
        refine E_s0 9 rfl (st_move rfl) ?_
        obtain ⟨j1039, hj1040, hx1041⟩ := idx_some h1038
        obtain ⟨cs1042, hs1047, P1048, P1049, hq1050, hr1043, hcs1044, hA1045, hlt1046, hb1051, hho1052⟩ := OS.get (sz := 1) rfl (by decide) (h946.le hle978) hx1041
        obtain ⟨rfl, rfl⟩ := hr1043
        refine E_s0 10 rfl (st_index_old j1039 rfl rfl hj1040 hlt1046 hA1045 sl22) ?_
        refine E_out ?_
        refine d_front2 [_, _] hs948 hs945 (hs687 ++ R) rfl ?_
        refine D_all [11] (by kernel_rfl) rfl ?_
        refine R_do (Base.Le.refl _) rfl rfl (u_putOS hj1040 (sz := 1) (a' := x1027.To) rfl [_, _] (hs948 ++ (hs687 ++ R)) 0 1 [.int .i64 (x1027.To)] rfl (h946.le hle978) hx1041 rfl rfl rfl siz3 rfl (mem_c rfl mem_n) (fun cs hsj hh => by obtain ⟨rfl, rfl⟩ := hh; exact ⟨by decide, rfl, rfl⟩)) ?_ ?_
        ·
         rintro _ _ ⟨hs1053, rfl, h1054⟩
         refine ⟨.inr (.cons_cons _ (.cons_cons _ (sub_skip hs1053 (.refl _)))), ?_⟩
         refine d_resp 11 rfl (v' := .slice A694 (put l950 x975 x1027.To).length c695) (by simp only [put_length]) ?_
         obtain ⟨j1057, hj1058, hx1059⟩ := idx_some h1056
         obtain ⟨cs1060, hs1065, P1066, P1067, hq1068, hr1061, hcs1062, hA1063, hlt1064, hb1069, hho1070⟩ := OS.get (sz := 1) rfl (by decide) (h949.le hle978) hx1059
         obtain ⟨rfl, rfl⟩ := hr1061
         refine E_in (Base.Le.refl _) (.cons_cons _ (.cons_cons _ (sub_skip hs1053 (.refl _)))) ?_
         refine E_s0 12 rfl (st_index_old j1057 rfl rfl hj1058 hlt1064 hA1063 sl22) ?_
         refine E_out ?_
         refine d_front2 [_, _] hs1053 hs948 (hs687 ++ R) rfl ?_
         refine D_all [13] (by kernel_rfl) rfl ?_
         refine R_do (Base.Le.refl _) rfl rfl (u_putOS hj1058 (sz := 1) (a' := x975) rfl [_, _] (hs1053 ++ (hs687 ++ R)) 0 1 [.int .i64 (x975)] rfl (h949.le hle978) hx1059 rfl rfl rfl siz3 rfl (mem_c rfl mem_n) (fun cs hsj hh => by obtain ⟨rfl, rfl⟩ := hh; exact ⟨by decide, rfl, rfl⟩)) ?_ ?_
         ·
          rintro _ _ ⟨hs1071, rfl, h1072⟩
          refine ⟨.inl (by kernel_rfl), ?_⟩
          refine d_resp 12 rfl (v' := .slice A700 (put l952 x958 x975).length c701) (by simp only [put_length]) ?_
          refine D_done (by kernel_rfl) ?_
          refine x_block_normal ?_
          refine x_then_normal ?_
          refine c_region ?_
          refine t_st rfl (st_add rfl rfl (by omega)) ?_
          refine t_mv rfl rfl ?_
          refine t_nil ?_
          refine x_front3 [_, _] hs1071 hs1053 hs687 R rfl ?_
          refine x_front2 [_, _] hs687 hs1071 (hs1053 ++ R) rfl ?_
          refine x_front3 [_, _] hs1071 hs687 hs1053 R rfl ?_
          exact x_againM (put l950 x975 x1027.To, put l952 x958 x975) (Option.some.inj hm).symm (e' := [(3, .pointer (some ⟨g544, 0, none⟩)), (11, .slice A694 (put l950 x975 x1027.To).length c695), (12, .slice A700 (put l952 x958 x975).length c701), (57, .slice A565 (l683).length c566), (58, .int .i64 ((l683.length : Int))), (59, .int .i64 ((k954 : Int) + 1))]) ⟨rfl, rfl, rfl, rfl, rfl, rfl, trivial⟩ (.cons_cons _ (.cons _ (.refl _))) ⟨hs1053, hs1071, rfl, rfl, ((hle943.trans hle978)), h1054, ((put_length _ _ _).trans hln951), h1072, ((put_length _ _ _).trans hln953)⟩
         exact R_nil
        exact R_nil
      ·
       rintro ⟨l950, l952⟩ b942 _ _ ⟨hs945, hs948, rfl, rfl, hle943, h946, hln951, h949, hln953⟩ hq1073
       rw [hq1073] at hk957
       have hm := elimL hk957
       have hm := (unc2E hm)
       refine c_sr ?_
       refine t_st rfl (st_lss_f rfl rfl (by omega)) ?_
       refine t_ne ?_
       refine c_seq ?_
       refine c_cond_f rfl ?_
       refine c_exit ?_
       refine x_then_exit ?_
       refine x_then_exit ?_
       refine x_block_out ?_
       refine x_then_normal ?_
       refine c_sr ?_
       refine t_mv rfl rfl ?_
       refine t_as rfl rfl ?_
       refine t_as rfl rfl ?_
       refine t_ne ?_
       refine c_ret ?_
       obtain ⟨rfl, rfl⟩ := some2 hm
       refine x_front2 [_] hs945 hs948 (hs687 ++ R) rfl ?_
       exact retM (rs := [.tmp 6, .tmp 7]) [.slice A700 (l952).length c701, .int .i64 (0)] (hle552.trans (hle639.trans (hle686.trans hle943))) (by decide) rfl ⟨rfl, ⟨rfl, trivial⟩⟩ rfl (.cons _ (sub_app hs948 (sub_skip hs945 (sub_skip hs687 (.refl _))))) ⟨A700, c701, hs948, rfl, rfl, h949⟩

end Go.Proofs.YthcgoaejnpelbaaGreatDoor
