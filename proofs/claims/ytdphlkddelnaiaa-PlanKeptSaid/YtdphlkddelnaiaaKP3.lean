/- Contracts: the code computes its model (part 3). -/
import Derived.Test.YtdphlkddelnaiaaKP2
set_option linter.unusedVariables false
set_option linter.unusedSimpArgs false
namespace Go.Proofs.Ytdphlkddelnaiaa
open Go.RowKit Go.Fp

set_option maxRecDepth 20000 in
theorem cSlicesCompare (b : Base) (R : Hp) (l4 : (List Int)) (l8 : (List Int)) (A1 : Option Addr) (c2 : Nat) (A5 : Option Addr) (c6 : Nat) (h3 : FZ (RT.int .i64) b.w A1 c2 l4) (h7 : FZ (RT.int .i64) b.w A5 c6 l8) (x69 : Int) (hm : mSlicesCompare l4 l8 = some x69) :
    CallsG Try.prog 16 [.slice A1 (l4).length c2, .slice A5 (l8).length c6] b (R) (fun v b' hp' => .int .i64 (x69) = v ∧ R = hp') := by
  refine fn_enterG 36 Try.func16 rfl Try.ntmps16 rfl ?_
  unfold mSlicesCompare at hm
  refine c_seq ?_
  refine c_region ?_
  refine t_st rfl (st_assign rfl) ?_
  refine t_nil ?_
  refine x_then_normal ?_
  refine c_seq ?_
  refine c_seq ?_
  refine c_region ?_
  refine t_st rfl (st_move rfl) ?_
  refine t_st rfl (st_len rfl sl30) ?_
  refine t_st rfl (st_move rfl) ?_
  refine t_nil ?_
  refine x_then_normal ?_
  refine c_block ?_
  have hb71 : l4.length ≤ 9223372036854775807 := (FZ.bd h3)
  obtain ⟨t99, hl100, hk101⟩ := bindS hm
  refine c_forM (fun k98 => fun _ => fun b96 e' hp' => [(0, .slice A1 (l4).length c2), (1, .slice A5 (l8).length c6), (9, .slice A1 (l4).length c2), (10, .int .i64 ((l4.length : Int))), (11, .int .i64 ((k98 : Int)))] = e' ∧ R = hp' ∧ b.Le b96) hl100 (e' := [(0, .slice A1 (l4).length c2), (1, .slice A5 (l8).length c6), (9, .slice A1 (l4).length c2), (10, .int .i64 ((l4.length : Int))), (11, .int .i64 0)]) (hp' := R) ⟨rfl, rfl, rfl, rfl, rfl, trivial⟩ (.refl _) ⟨rfl, rfl, (Base.Le.refl _)⟩ ?_ ?_
  ·
   rintro k98 _ b96 _ _ oL70 hknL70 ⟨rfl, rfl, hle97⟩ hstepL70 houtL70
   unfold mSlicesCompare_L70 at hstepL70
   have hm := hstepL70
   refine c_seq ?_
   refine c_region ?_
   refine t_st rfl (st_lss_t rfl rfl (by omega)) ?_
   refine t_nil ?_
   refine x_then_normal ?_
   refine c_seq ?_
   refine c_cond_t rfl ?_
   refine c_skip ?_
   refine x_then_normal ?_
   refine c_seq ?_
   refine c_block ?_
   refine c_seq ?_
   refine c_region ?_
   refine t_st rfl (st_move rfl) ?_
   obtain ⟨x102, h103, hm⟩ := bindS hm
   obtain ⟨j104, hj105, hx106⟩ := idx_some h103
   obtain ⟨cs107, hr108, hcs109, hA110, hlt111⟩ := FZ.get (sz := 1) rfl (by decide) (h3.le hle97) hx106
   obtain rfl := hr108
   refine t_st rfl (st_index_old j104 rfl rfl hj105 hlt111 hA110 sl30) ?_
   refine t_st rfl (st_load_old rfl one3 (hcs109 0 _ rfl)) ?_
   refine t_st rfl (st_assign rfl) ?_
   refine t_st rfl (st_assign rfl) ?_
   refine t_nil ?_
   refine x_then_normal ?_
   refine c_seq ?_
   refine c_seq ?_
   refine c_region ?_
   refine t_st rfl (st_move rfl) ?_
   refine t_st rfl (st_move rfl) ?_
   refine t_st rfl (st_len rfl sl30) ?_
   refine t_st rfl (st_geq rfl rfl) ?_
   refine t_nil ?_
   refine x_then_normal ?_
   refine c_cond _ rfl (fun hc112 => ?_) (fun hc112 => ?_)
   ·
    rw [if_pos (of_decide_eq_true hc112)] at hm
    refine c_seq ?_
    refine c_region ?_
    refine t_st rfl (st_assign rfl) ?_
    refine t_nil ?_
    refine x_then_normal ?_
    refine c_ret ?_
    refine x_then_ret ?_
    refine x_block_ret ?_
    refine x_then_ret ?_
    refine x_then_ret ?_
    refine x_block_ret ?_
    refine x_then_ret ?_
    have hq113 := houtL70 _ (Option.some.inj hm).symm
    rw [hq113] at hk101
    have hm := elimR hk101
    obtain rfl := some1 hm
    exact retM (rs := [.tmp 4]) [.int .i64 (1)] hle97 (by decide) rfl ⟨rfl, trivial⟩ rfl (hp' := R) (.refl _) ⟨rfl, rfl⟩
   ·
    rw [if_neg (of_decide_eq_false hc112)] at hm
    refine c_skip ?_
    refine x_then_normal ?_
    refine c_seq ?_
    refine c_region ?_
    refine t_st rfl (st_move rfl) ?_
    refine t_st rfl (st_move rfl) ?_
    obtain ⟨x114, h115, hm⟩ := bindS hm
    obtain ⟨j116, hj117, hx118⟩ := idx_some h115
    obtain ⟨cs119, hr120, hcs121, hA122, hlt123⟩ := FZ.get (sz := 1) rfl (by decide) (h7.le hle97) hx118
    obtain rfl := hr120
    refine t_st rfl (st_index_old j116 rfl rfl hj117 hlt123 hA122 sl30) ?_
    refine t_st rfl (st_load_old rfl one3 (hcs121 0 _ rfl)) ?_
    refine t_st rfl (st_assign rfl) ?_
    refine t_nil ?_
    refine x_then_normal ?_
    refine c_seq ?_
    refine c_region ?_
    refine t_st rfl (st_move rfl) ?_
    refine t_st rfl (st_move rfl) ?_
    obtain ⟨x124, hcl125, hm⟩ := bindS hm
    refine t_do rfl (u_callW0 _ call31 rfl (fun w ho => cCmpCompare _ [] x102 x114 x124 hcl125) (fun _ _ _ h => h.2.symm)) ?_
    rintro _ _ ⟨⟨_, rfl, _⟩, rfl⟩
    refine t_st rfl (st_assign rfl) ?_
    refine t_nil ?_
    refine x_then_normal ?_
    refine c_seq ?_
    refine c_region ?_
    refine t_st rfl (st_move rfl) ?_
    refine t_st rfl (st_neq rfl rfl) ?_
    refine t_nil ?_
    refine x_then_normal ?_
    refine c_cond _ rfl (fun hc126 => ?_) (fun hc126 => ?_)
    ·
     rw [if_pos (of_decide_eq_true hc126)] at hm
     refine c_seq ?_
     refine c_region ?_
     refine t_st rfl (st_move rfl) ?_
     refine t_st rfl (st_assign rfl) ?_
     refine t_nil ?_
     refine x_then_normal ?_
     refine c_ret ?_
     refine x_block_ret ?_
     refine x_then_ret ?_
     refine x_then_ret ?_
     refine x_block_ret ?_
     refine x_then_ret ?_
     have hq127 := houtL70 _ (Option.some.inj hm).symm
     rw [hq127] at hk101
     have hm := elimR hk101
     obtain rfl := some1 hm
     exact retM (rs := [.tmp 4]) [.int .i64 (x124)] hle97 (by decide) rfl ⟨rfl, trivial⟩ rfl (hp' := R) (.refl _) ⟨rfl, rfl⟩
    ·
     rw [if_neg (of_decide_eq_false hc126)] at hm
     refine c_skip ?_
     refine x_block_normal ?_
     refine x_then_normal ?_
     refine c_region ?_
     refine t_st rfl (st_add rfl rfl (by omega)) ?_
     refine t_st rfl (st_move rfl) ?_
     refine t_nil ?_
     exact x_againM () (Option.some.inj hm).symm (e' := [(0, .slice A1 (l4).length c2), (1, .slice A5 (l8).length c6), (9, .slice A1 (l4).length c2), (10, .int .i64 ((l4.length : Int))), (11, .int .i64 ((k98 : Int) + 1))]) (hp' := R) ⟨rfl, rfl, rfl, rfl, rfl, trivial⟩ (.refl _) ⟨rfl, rfl, (hle97)⟩
  ·
   rintro _ b96 _ _ ⟨rfl, rfl, hle97⟩ hq128
   rw [hq128] at hk101
   have hm := elimL hk101
   refine c_seq ?_
   refine c_region ?_
   refine t_st rfl (st_lss_f rfl rfl (by omega)) ?_
   refine t_nil ?_
   refine x_then_normal ?_
   refine c_seq ?_
   refine c_cond_f rfl ?_
   refine c_exit ?_
   refine x_then_exit ?_
   refine x_then_exit ?_
   refine x_block_out ?_
   refine x_then_normal ?_
   refine c_seq ?_
   refine c_seq ?_
   refine c_region ?_
   refine t_st rfl (st_move rfl) ?_
   refine t_st rfl (st_len rfl sl30) ?_
   refine t_st rfl (st_move rfl) ?_
   refine t_st rfl (st_len rfl sl30) ?_
   refine t_st rfl (st_lss rfl rfl) ?_
   refine t_nil ?_
   refine x_then_normal ?_
   refine c_cond _ rfl (fun hc129 => ?_) (fun hc129 => ?_)
   ·
    rw [if_pos (of_decide_eq_true hc129)] at hm
    refine c_seq ?_
    refine c_region ?_
    refine t_st rfl (st_assign rfl) ?_
    refine t_nil ?_
    refine x_then_normal ?_
    refine c_ret ?_
    refine x_then_ret ?_
    obtain rfl := some1 hm
    exact retM (rs := [.tmp 4]) [.int .i64 ((-1))] hle97 (by decide) rfl ⟨rfl, trivial⟩ rfl (hp' := R) (.refl _) ⟨rfl, rfl⟩
   ·
    rw [if_neg (of_decide_eq_false hc129)] at hm
    refine c_skip ?_
    refine x_then_normal ?_
    refine c_seq ?_
    refine c_region ?_
    refine t_st rfl (st_assign rfl) ?_
    refine t_nil ?_
    refine x_then_normal ?_
    refine c_ret ?_
    obtain rfl := some1 hm
    exact retM (rs := [.tmp 4]) [.int .i64 (0)] hle97 (by decide) rfl ⟨rfl, trivial⟩ rfl (hp' := R) (.refl _) ⟨rfl, rfl⟩

set_option maxRecDepth 20000 in
theorem cPlanBroken_1 (b : Base) (R : Hp) (s3 : PlanRule) (x4 : Int) (x5 : Int) (l9 : (List PlanRule)) (l13 : (List Int)) (g1 : Nat) (g2 : Nat) (A6 : Option Addr) (c7 : Nat) (A10 : Option Addr) (c11 : Nat) (h8 : FZ rPlanRule b.w A6 c7 l9) (h12 : FZ (RT.int .i64) b.w A10 c11 l13) (x19 : Bool) (hm : mPlanBroken_1 s3 x4 x5 l9 l13 = some x19) :
    CallsG Try.prog 33 [.agg #[.int .i64 (s3.From), .int .i64 (s3.To), .int .i64 (s3.Min), .int .i64 (s3.Max), .int .i64 (s3.Weight)], .pointer (some ⟨g1, 0, none⟩), .pointer (some ⟨g2, 0, none⟩)] b ((g1, Cl 24 [.int .i64 (x4), .int .i64 (x5), .slice A6 (l9).length c7]) :: (g2, Cl 30 [.slice A10 (l13).length c11]) :: R) (fun v b' hp' => .bool (x19) = v ∧ (g1, Cl 24 [.int .i64 (x4), .int .i64 (x5), .slice A6 (l9).length c7]) :: (g2, Cl 30 [.slice A10 (l13).length c11]) :: R = hp') := by
  refine fn_enterG 12 Try.func33 rfl Try.ntmps33 rfl ?_
  unfold mPlanBroken_1 at hm
  refine c_seq ?_
  refine c_region ?_
  refine t_do rfl (u_box _ rfl rfl) ?_
  rintro _ _ ⟨g20, rfl, rfl⟩
  refine t_st rfl (st_assign rfl) ?_
  refine t_nil ?_
  refine x_then_normal ?_
  refine c_seq ?_
  obtain ⟨x23, hcl24, hm⟩ := bindS hm
  refine D_drawS ((g20, Cl 29 [.int .i64 (s3.From), .int .i64 (s3.To), .int .i64 (s3.Min), .int .i64 (s3.Max), .int .i64 (s3.Weight)]) :: (g1, Cl 24 [.int .i64 (x4), .int .i64 (x5), .slice A6 (l9).length c7]) :: (g2, Cl 30 [.slice A10 (l13).length c11]) :: R) mixed ?_
  refine E_in (.cons_cons _ (.cons_cons _ (.cons_cons _ (.refl _)))) ?_
  refine E_st 0 rfl (st_loadD (vs := [_, _, _]) 1 3 rfl agg24 rfl rfl rfl) ?_
  refine E_st 1 rfl (st_loadD (vs := [_, _, _, _, _]) 0 5 rfl agg29 rfl rfl rfl) ?_
  refine E_st 2 rfl (st_load 2 rfl one30 rfl rfl) ?_
  refine E_st 4 rfl (st_field rfl fld29_3) ?_
  refine E_st 5 rfl (st_load 0 rfl one3 rfl rfl) ?_
  refine E_out ?_
  refine D_all [3] (by kernel_rfl) rfl ?_
  refine R_do (Base.Le.refl _) rfl rfl (u_callW0 _ call34 rfl (fun w ho => cPlanGap_2 _ [] (⟨x4, x5, l9⟩ : PlanPeriodic) s3 l13 A6 c7 A10 c11 (h8.old ho) (h12.old ho) x23 hcl24) (fun _ _ _ h => h.2.symm)) ?_ ?_
  ·
   rintro _ _ ⟨⟨_, rfl, _⟩, rfl⟩
   refine ⟨.inr (.cons_cons _ (.cons_cons _ (.cons_cons _ (.refl _)))), ?_⟩
   refine E_in (.cons_cons _ (.cons_cons _ (.cons_cons _ (.refl _)))) ?_
   refine E_st 6 rfl (st_gtr rfl rfl) ?_
   refine E_st 7 rfl (st_assign rfl) ?_
   refine E_out ?_
   refine D_done (by kernel_rfl) ?_
   refine x_then_normal ?_
   refine c_ret ?_
   obtain rfl := some1 hm
   refine x_pullb 2 rfl ?_
   refine x_pullb 2 rfl ?_
   exact retM (rs := [.tmp 4]) [.bool (decide (s3.Max < x23))] (Base.Le.refl _) (by decide) rfl ⟨rfl, trivial⟩ rfl (hp' := (g1, Cl 24 [.int .i64 (x4), .int .i64 (x5), .slice A6 (l9).length c7]) :: (g2, Cl 30 [.slice A10 (l13).length c11]) :: R) (.cons_cons _ (.cons_cons _ (.cons _ (.refl _)))) ⟨rfl, rfl⟩
  exact R_nil

set_option maxRecDepth 20000 in
theorem cSlicesIndexFunc_3 (b : Base) (R : Hp) (l6 : (List PlanRule)) (x7 : Int) (x8 : Int) (l12 : (List PlanRule)) (l16 : (List Int)) (g1 : Nat) (g2 : Nat) (A3 : Option Addr) (c4 : Nat) (A9 : Option Addr) (c10 : Nat) (A13 : Option Addr) (c14 : Nat) (h5 : FZ rPlanRule b.w A3 c4 l6) (h11 : FZ rPlanRule b.w A9 c10 l12) (h15 : FZ (RT.int .i64) b.w A13 c14 l16) (x57 : Int) (hm : mSlicesIndexFunc_3 l6 x7 x8 l12 l16 = some x57) :
    CallsG Try.prog 26 [.slice A3 (l6).length c4, .func (.func 33) #[] #[.pointer (some ⟨g1, 0, none⟩), .pointer (some ⟨g2, 0, none⟩)]] b ((g1, Cl 24 [.int .i64 (x7), .int .i64 (x8), .slice A9 (l12).length c10]) :: (g2, Cl 30 [.slice A13 (l16).length c14]) :: R) (fun v b' hp' => .int .i64 (x57) = v ∧ (g1, Cl 24 [.int .i64 (x7), .int .i64 (x8), .slice A9 (l12).length c10]) :: (g2, Cl 30 [.slice A13 (l16).length c14]) :: R = hp') := by
  refine fn_enterG 19 Try.func26 rfl Try.ntmps26 rfl ?_
  unfold mSlicesIndexFunc_3 at hm
  refine c_seq ?_
  refine c_region ?_
  refine t_st rfl (st_assign rfl) ?_
  refine t_nil ?_
  refine x_then_normal ?_
  refine c_seq ?_
  refine c_seq ?_
  refine c_region ?_
  refine t_st rfl (st_move rfl) ?_
  refine t_st rfl (st_len rfl sl22) ?_
  refine t_st rfl (st_move rfl) ?_
  refine t_nil ?_
  refine x_then_normal ?_
  refine c_block ?_
  have hb59 : l6.length ≤ 9223372036854775807 := (FZ.bd h5)
  refine c_pullb 1 rfl ?_
  refine c_pullb 1 rfl ?_
  obtain ⟨t78, hl79, hk80⟩ := bindS hm
  refine c_forM (fun k77 => fun _ => fun b75 e' hp' => [(0, .slice A3 (l6).length c4), (1, .func (.func 33) #[] #[.pointer (some ⟨g1, 0, none⟩), .pointer (some ⟨g2, 0, none⟩)]), (7, .int .i64 ((l6.length : Int))), (8, .int .i64 ((k77 : Int)))] = e' ∧ (g1, Cl 24 [.int .i64 (x7), .int .i64 (x8), .slice A9 (l12).length c10]) :: (g2, Cl 30 [.slice A13 (l16).length c14]) :: R = hp' ∧ b.Le b75) hl79 (e' := [(0, .slice A3 (l6).length c4), (1, .func (.func 33) #[] #[.pointer (some ⟨g1, 0, none⟩), .pointer (some ⟨g2, 0, none⟩)]), (7, .int .i64 ((l6.length : Int))), (8, .int .i64 0)]) (hp' := (g1, Cl 24 [.int .i64 (x7), .int .i64 (x8), .slice A9 (l12).length c10]) :: (g2, Cl 30 [.slice A13 (l16).length c14]) :: R) ⟨rfl, rfl, rfl, rfl, trivial⟩ (.cons_cons _ (.cons_cons _ (.refl _))) ⟨rfl, rfl, (Base.Le.refl _)⟩ ?_ ?_
  ·
   rintro k77 _ b75 _ _ oL58 hknL58 ⟨rfl, rfl, hle76⟩ hstepL58 houtL58
   unfold mSlicesIndexFunc_3_L58 at hstepL58
   have hm := hstepL58
   refine c_seq ?_
   refine c_region ?_
   refine t_st rfl (st_lss_t rfl rfl (by omega)) ?_
   refine t_nil ?_
   refine x_then_normal ?_
   refine c_seq ?_
   refine c_cond_t rfl ?_
   refine c_skip ?_
   refine x_then_normal ?_
   refine c_seq ?_
   refine c_block ?_
   refine c_seq ?_
   refine c_region ?_
   refine t_st rfl (st_move rfl) ?_
   refine t_st rfl (st_assign rfl) ?_
   refine t_nil ?_
   refine x_then_normal ?_
   refine c_seq ?_
   refine c_region ?_
   refine t_st rfl (st_move rfl) ?_
   refine t_st rfl (st_move rfl) ?_
   refine t_st rfl (st_move rfl) ?_
   obtain ⟨x81, h82, hm⟩ := bindS hm
   obtain ⟨j83, hj84, hx85⟩ := idx_some h82
   obtain ⟨cs86, hr87, hcs88, hA89, hlt90⟩ := FZ.get (sz := 5) rfl (by decide) (h5.le hle76) hx85
   obtain ⟨_, _, rfl, rfl, ⟨_, _, rfl, rfl, ⟨_, _, rfl, rfl, ⟨_, _, rfl, rfl, rfl⟩⟩⟩⟩ := hr87
   refine t_st rfl (st_index_old j83 rfl rfl hj84 hlt90 hA89 sl22) ?_
   refine t_st rfl (st_loadN_old (vs := [.int .i64 (x81.From), .int .i64 (x81.To), .int .i64 (x81.Min), .int .i64 (x81.Max), .int .i64 (x81.Weight)]) 5 rfl agg29 hA89 rfl (fun j u hu => hcs88 j u hu)) ?_
   obtain ⟨x91, hcl92, hm⟩ := bindS hm
   refine t_pullb 1 rfl ?_
   refine t_pullb 1 rfl ?_
   refine t_callvG #[] #[.pointer (some ⟨g1, 0, none⟩), .pointer (some ⟨g2, 0, none⟩)] [.agg #[.int .i64 (x81.From), .int .i64 (x81.To), .int .i64 (x81.Min), .int .i64 (x81.Max), .int .i64 (x81.Weight)]] rfl rfl call33 rfl (cPlanBroken_1 _ _ x81 x7 x8 l12 l16 g1 g2 A9 c10 A13 c14 (h11.le hle76) (h15.le hle76) x91 hcl92) ?_
   rintro _ b93 _ hle94 ⟨rfl, rfl⟩
   refine t_nil ?_
   refine x_then_normal ?_
   refine c_cond _ rfl (fun hc95 => ?_) (fun hc95 => ?_)
   ·
    rw [if_pos hc95] at hm
    refine c_seq ?_
    refine c_region ?_
    refine t_st rfl (st_move rfl) ?_
    refine t_st rfl (st_assign rfl) ?_
    refine t_nil ?_
    refine x_then_normal ?_
    refine c_ret ?_
    refine x_block_ret ?_
    refine x_then_ret ?_
    refine x_then_ret ?_
    refine x_block_ret ?_
    refine x_then_ret ?_
    have hq96 := houtL58 _ (Option.some.inj hm).symm
    rw [hq96] at hk80
    have hm := elimR hk80
    obtain rfl := some1 hm
    refine x_pullb 1 rfl ?_
    refine x_pullb 1 rfl ?_
    exact retM (rs := [.tmp 4]) [.int .i64 ((k77 : Int))] (hle76.trans hle94) (by decide) rfl ⟨rfl, trivial⟩ rfl (hp' := (g1, Cl 24 [.int .i64 (x7), .int .i64 (x8), .slice A9 (l12).length c10]) :: (g2, Cl 30 [.slice A13 (l16).length c14]) :: R) (.cons_cons _ (.cons_cons _ (.refl _))) ⟨rfl, rfl⟩
   ·
    rw [if_neg (fun hh => Bool.noConfusion (hh.symm.trans hc95))] at hm
    refine c_skip ?_
    refine x_block_normal ?_
    refine x_then_normal ?_
    refine c_region ?_
    refine t_st rfl (st_add rfl rfl (by omega)) ?_
    refine t_st rfl (st_move rfl) ?_
    refine t_nil ?_
    refine x_pullb 1 rfl ?_
    refine x_pullb 1 rfl ?_
    exact x_againM () (Option.some.inj hm).symm (e' := [(0, .slice A3 (l6).length c4), (1, .func (.func 33) #[] #[.pointer (some ⟨g1, 0, none⟩), .pointer (some ⟨g2, 0, none⟩)]), (7, .int .i64 ((l6.length : Int))), (8, .int .i64 ((k77 : Int) + 1))]) (hp' := (g1, Cl 24 [.int .i64 (x7), .int .i64 (x8), .slice A9 (l12).length c10]) :: (g2, Cl 30 [.slice A13 (l16).length c14]) :: R) ⟨rfl, rfl, rfl, rfl, trivial⟩ (.cons_cons _ (.cons_cons _ (.refl _))) ⟨rfl, rfl, ((hle76.trans hle94))⟩
  ·
   rintro _ b75 _ _ ⟨rfl, rfl, hle76⟩ hq97
   rw [hq97] at hk80
   have hm := elimL hk80
   refine c_seq ?_
   refine c_region ?_
   refine t_st rfl (st_lss_f rfl rfl (by omega)) ?_
   refine t_nil ?_
   refine x_then_normal ?_
   refine c_seq ?_
   refine c_cond_f rfl ?_
   refine c_exit ?_
   refine x_then_exit ?_
   refine x_then_exit ?_
   refine x_block_out ?_
   refine x_then_normal ?_
   refine c_seq ?_
   refine c_region ?_
   refine t_st rfl (st_assign rfl) ?_
   refine t_nil ?_
   refine x_then_normal ?_
   refine c_ret ?_
   obtain rfl := some1 hm
   refine x_pullb 1 rfl ?_
   refine x_pullb 1 rfl ?_
   exact retM (rs := [.tmp 4]) [.int .i64 ((-1))] hle76 (by decide) rfl ⟨rfl, trivial⟩ rfl (hp' := (g1, Cl 24 [.int .i64 (x7), .int .i64 (x8), .slice A9 (l12).length c10]) :: (g2, Cl 30 [.slice A13 (l16).length c14]) :: R) (.cons_cons _ (.cons_cons _ (.refl _))) ⟨rfl, rfl⟩

set_option maxRecDepth 20000 in
theorem cPlanBroken (b : Base) (R : Hp) (s1 : PlanPeriodic) (l8 : (List Int)) (A2 : Option Addr) (c3 : Nat) (A5 : Option Addr) (c6 : Nat) (h4 : FZ rPlanRule b.w A2 c3 s1.Rules) (h7 : FZ (RT.int .i64) b.w A5 c6 l8) (x18 : Int) (x19 : Int) (hm : mPlanBroken s1 l8 = some (x18, x19)) :
    CallsG Try.prog 17 [.agg #[.int .i64 (s1.Period), .int .i64 (s1.Events), .slice A2 (s1.Rules).length c3], .slice A5 (l8).length c6] b (R) (fun v b' hp' => .tuple #[.int .i64 (x18), .int .i64 (x19)] = v ∧ R = hp') := by
  refine fn_enterG 17 Try.func17 rfl Try.ntmps17 rfl ?_
  unfold mPlanBroken at hm
  refine c_seq ?_
  refine c_region ?_
  refine t_do rfl (u_box _ rfl rfl) ?_
  rintro _ _ ⟨g20, rfl, rfl⟩
  refine t_do rfl (u_box _ rfl rfl) ?_
  rintro _ _ ⟨g21, rfl, rfl⟩
  refine t_st rfl (st_assign rfl) ?_
  refine t_st rfl (st_assign rfl) ?_
  refine t_nil ?_
  refine x_then_normal ?_
  refine c_seq ?_
  refine c_seq ?_
  refine c_region ?_
  refine t_st rfl (st_loadD (vs := [_, _, _]) 1 3 rfl agg24 rfl rfl rfl) ?_
  refine t_st rfl (st_load 0 rfl one30 rfl rfl) ?_
  obtain ⟨x22, hcl23, hm⟩ := bindS hm
  refine t_do rfl (u_callW0 _ call32 rfl (fun w ho => cPlanCheckTimes _ [] s1 l8 A2 c3 A5 c6 (h4.old ho) (h7.old ho) x22 hcl23) (fun _ _ _ h => h.2.symm)) ?_
  rintro _ _ ⟨⟨_, rfl, _⟩, rfl⟩
  refine t_st rfl (st_assign rfl) ?_
  refine t_nil ?_
  refine x_then_normal ?_
  refine c_seq ?_
  refine c_region ?_
  refine t_st rfl (st_move rfl) ?_
  refine t_st rfl (st_neq rfl rfl) ?_
  refine t_nil ?_
  refine x_then_normal ?_
  refine c_cond _ rfl (fun hc24 => ?_) (fun hc24 => ?_)
  ·
   rw [if_pos (of_decide_eq_true hc24)] at hm
   refine c_seq ?_
   refine c_region ?_
   refine t_st rfl (st_move rfl) ?_
   refine t_st rfl (st_assign rfl) ?_
   refine t_st rfl (st_assign rfl) ?_
   refine t_nil ?_
   refine x_then_normal ?_
   refine c_ret ?_
   refine x_then_ret ?_
   obtain ⟨rfl, rfl⟩ := some2 hm
   exact retM (rs := [.tmp 4, .tmp 5]) [.int .i64 (0), .int .i64 (x22)] (Base.Le.refl _) (by decide) rfl ⟨rfl, ⟨rfl, trivial⟩⟩ rfl (hp' := R) (.cons _ (.cons _ (.refl _))) ⟨rfl, rfl⟩
  ·
   rw [if_neg (of_decide_eq_false hc24)] at hm
   refine c_skip ?_
   refine x_then_normal ?_
   refine c_seq ?_
   refine c_region ?_
   refine t_st rfl (st_field rfl fld24_2) ?_
   refine t_st rfl (st_load 1 rfl one22 rfl rfl) ?_
   refine t_st rfl (st_func _ _ rfl rfl) ?_
   obtain ⟨x25, hcl26, hm⟩ := bindS hm
   refine t_pullb 1 rfl ?_
   refine t_callG _ rfl call26 rfl (cSlicesIndexFunc_3 _ _ s1.Rules s1.Period s1.Events s1.Rules l8 g20 g21 A2 c3 A2 c3 A5 c6 h4 h4 h7 x25 hcl26) ?_
   rintro _ b27 _ hle28 ⟨rfl, rfl⟩
   refine t_st rfl (st_assign rfl) ?_
   refine t_st rfl (st_assign rfl) ?_
   refine t_nil ?_
   refine x_then_normal ?_
   refine c_ret ?_
   obtain ⟨rfl, rfl⟩ := some2 hm
   exact retM (rs := [.tmp 4, .tmp 5]) [.int .i64 (x25), .int .i64 (0)] hle28 (by decide) rfl ⟨rfl, ⟨rfl, trivial⟩⟩ rfl (hp' := R) (.cons _ (.cons _ (.refl _))) ⟨rfl, rfl⟩

set_option maxRecDepth 20000 in
theorem clSlicesClone (A : Option Addr) (n c : Nat) (xs : List Value) (w : World) (hR : Rd w A xs) (hl : xs.length = n * 1) (hn : n * 8 ≤ 140737488355328 ∧ n ≤ 9223372036854775807) :
    CallsH Try.prog 18 [.slice A n c] w [] (fun v hp' => Seg0 3 1 v n xs hp') := by
  refine fn_enter 8 Try.func18 rfl Try.ntmps18 rfl ?_
  refine c_seq ?_
  refine c_region ?_
  refine t_st rfl (st_assign rfl) ?_
  refine t_nil ?_
  refine x_then_normal ?_
  refine c_seq ?_
  refine c_seq ?_
  refine c_region ?_
  refine t_st rfl (st_move rfl) ?_
  refine t_bool rfl (st_eqnil rfl rfl sl30) (fun hc1 => ?_) (fun hc1 => ?_)
  ·
    refine t_nil ?_
    refine x_then_normal ?_
    refine c_cond_t rfl ?_
    refine c_seq ?_
    refine c_region ?_
    refine t_st rfl (st_assign rfl) ?_
    refine t_nil ?_
    refine x_then_normal ?_
    refine c_ret ?_
    refine x_then_ret ?_
    subst hc1
    obtain rfl := hR.none_nil
    obtain rfl : n = 0 := by simp at hl; omega
    refine x_drop (hp' := []) (by repeat (first | exact List.Sublist.refl _ | exact List.nil_sublist _ | exact List.sublist_append_left _ _ | exact List.sublist_append_right _ _ | exact (List.sublist_append_right _ _).trans (List.sublist_append_right _ _) | apply List.Sublist.cons_cons | apply List.Sublist.cons)) ?_
    exact ret1 (Base.Le.refl _) rfl rfl (Seg0.nil)
  ·
    refine t_nil ?_
    refine x_then_normal ?_
    refine c_cond_f rfl ?_
    refine c_skip ?_
    refine x_then_normal ?_
    refine c_seq ?_
    refine c_region ?_
    refine t_do rfl (u_bslice (el := 3) [] [] rfl (fun _ => by kernel_rfl)) ?_
    rintro _ _ ⟨g0, rfl, rfl⟩
    refine t_st rfl (st_move rfl) ?_
    refine t_do rfl (u_app0 xs sl30 inf3 rfl (by decide) rfl rfl hl (fun w ho => hR.old ho) hn.2 hn.1) ?_
    rintro _ _ ⟨hs, rfl, hseg⟩
    refine t_st rfl (st_assign rfl) ?_
    refine t_nil ?_
    refine x_then_normal ?_
    refine c_ret ?_
    refine x_drop (hp' := hs) (by repeat (first | exact List.Sublist.refl _ | exact List.nil_sublist _ | exact List.sublist_append_left _ _ | exact List.sublist_append_right _ _ | exact (List.sublist_append_right _ _).trans (List.sublist_append_right _ _) | apply List.Sublist.cons_cons | apply List.Sublist.cons)) ?_
    exact ret1 (Base.Le.refl _) rfl rfl hseg

set_option maxRecDepth 20000 in
theorem cSlicesClone (b : Base) (R : Hp) (l4 : (List Int)) (A1 : Option Addr) (c2 : Nat) (h3 : FZ (RT.int .i64) b.w A1 c2 l4) (l10 : (List Int)) (hm : mSlicesClone l4 = some l10) :
    CallsG Try.prog 18 [.slice A1 (l4).length c2] b (R) (fun v b' hp' => ∃ (A7 : Option Addr), ∃ (c8 : Nat), ∃ (hs6 : Hp), .slice A7 (l10).length c8 = v ∧ (hs6 ++ R) = hp' ∧ OS 3 (OT.fr (RT.int .i64)) b'.w (.slice A7 l10.length c8) l10 hs6) := by
  unfold mSlicesClone at hm
  obtain ⟨_, hroom, hm⟩ := bindS hm
  have hroom := room_some hroom
  obtain rfl := some1 hm
  exact clone_of (r := (RT.int .i64)) (sz := 1) (by_ := 8) rfl (by decide) clSlicesClone h3 hroom

set_option maxRecDepth 20000 in
theorem cPlanCost_2 (b : Base) (R : Hp) (s1 : PlanPeriodic) (l8 : (List Int)) (A2 : Option Addr) (c3 : Nat) (A5 : Option Addr) (c6 : Nat) (h4 : FZ rPlanRule b.w A2 c3 s1.Rules) (h7 : FZ (RT.int .i64) b.w A5 c6 l8) (x82 : Int) (hm : mPlanCost_2 s1 l8 = some x82) :
    CallsG Try.prog 35 [.agg #[.int .i64 (s1.Period), .int .i64 (s1.Events), .slice A2 (s1.Rules).length c3], .slice A5 (l8).length c6] b (R) (fun v b' hp' => .int .i64 (x82) = v ∧ R = hp') := by
  refine fn_enterG 29 Try.func35 rfl Try.ntmps35 rfl ?_
  unfold mPlanCost_2 at hm
  refine c_seq ?_
  refine c_region ?_
  refine t_do rfl (u_box _ rfl rfl) ?_
  rintro _ _ ⟨g83, rfl, rfl⟩
  refine t_st rfl (st_assign rfl) ?_
  refine t_nil ?_
  refine x_then_normal ?_
  refine c_seq ?_
  refine c_region ?_
  refine t_st rfl (st_assign rfl) ?_
  refine t_nil ?_
  refine x_then_normal ?_
  refine c_seq ?_
  refine c_seq ?_
  refine c_region ?_
  refine t_st rfl (st_field rfl fld24_2) ?_
  refine t_st rfl (st_load 0 rfl one22 rfl rfl) ?_
  refine t_st rfl (st_len rfl sl22) ?_
  refine t_st rfl (st_move rfl) ?_
  refine t_nil ?_
  refine x_then_normal ?_
  refine c_block ?_
  have hb85 : s1.Rules.length ≤ 9223372036854775807 := (FZ.bd h4)
  obtain ⟨x131, hl133, hk134⟩ := bindS hm
  refine c_forS (fun k132 => fun x131 => fun b129 e' hp' => [(1, .slice A5 (l8).length c6), (2, .pointer (some ⟨g83, 0, none⟩)), (5, .int .i64 (x131)), (9, .slice A2 (s1.Rules).length c3), (10, .int .i64 ((s1.Rules.length : Int))), (11, .int .i64 ((k132 : Int)))] = e' ∧ (g83, Cl 24 [.int .i64 (s1.Period), .int .i64 (s1.Events), .slice A2 (s1.Rules).length c3]) :: R = hp' ∧ b.Le b129) hl133 (e' := [(1, .slice A5 (l8).length c6), (2, .pointer (some ⟨g83, 0, none⟩)), (5, .int .i64 (0)), (9, .slice A2 (s1.Rules).length c3), (10, .int .i64 ((s1.Rules.length : Int))), (11, .int .i64 0)]) (hp' := (g83, Cl 24 [.int .i64 (s1.Period), .int .i64 (s1.Events), .slice A2 (s1.Rules).length c3]) :: R) ⟨rfl, rfl, rfl, rfl, rfl, rfl, trivial⟩ (.cons_cons _ (.refl _)) ⟨rfl, rfl, (Base.Le.refl _)⟩ ?_ ?_
  ·
   rintro k132 x131 b129 _ _ oL84 hknL84 ⟨rfl, rfl, hle130⟩ hstepL84
   unfold mPlanCost_2_L84 at hstepL84
   have hm := hstepL84
   refine c_seq ?_
   refine c_region ?_
   refine t_st rfl (st_lss_t rfl rfl (by omega)) ?_
   refine t_nil ?_
   refine x_then_normal ?_
   refine c_seq ?_
   refine c_cond_t rfl ?_
   refine c_skip ?_
   refine x_then_normal ?_
   refine c_seq ?_
   refine c_block ?_
   refine c_seq ?_
   refine c_region ?_
   obtain ⟨x135, h136, hm⟩ := bindS hm
   obtain ⟨j137, hj138, hx139⟩ := idx_some h136
   obtain ⟨cs140, hr141, hcs142, hA143, hlt144⟩ := FZ.get (sz := 5) rfl (by decide) (h4.le hle130) hx139
   obtain ⟨_, _, rfl, rfl, ⟨_, _, rfl, rfl, ⟨_, _, rfl, rfl, ⟨_, _, rfl, rfl, rfl⟩⟩⟩⟩ := hr141
   refine t_st rfl (st_index_old j137 rfl rfl hj138 hlt144 hA143 sl22) ?_
   refine t_st rfl (st_loadN_old (vs := [.int .i64 (x135.From), .int .i64 (x135.To), .int .i64 (x135.Min), .int .i64 (x135.Max), .int .i64 (x135.Weight)]) 5 rfl agg29 hA143 rfl (fun j u hu => hcs142 j u hu)) ?_
   refine t_do rfl (u_alloc [.int .i64 0, .int .i64 0, .int .i64 0, .int .i64 0, .int .i64 0] zero29 rfl) ?_
   rintro _ _ ⟨g145, rfl, rfl⟩
   refine t_do rfl (u_storeN (vs := [_, _, _, _, _]) 0 5 rfl rfl rfl siz29 rfl (by intro u hu; simp only [List.mem_cons, List.not_mem_nil, or_false] at hu; rcases hu with rfl | rfl | rfl | rfl | rfl <;> rfl) rfl (by simp)) ?_
   rintro _ _ rfl
   refine t_nil ?_
   refine x_then_normal ?_
   obtain ⟨x151, hcl152, hm⟩ := bindS hm
   obtain ⟨_, h153, hm⟩ := bindS hm
   obtain ⟨_, h154, hm⟩ := bindS hm
   obtain ⟨_, h155, hm⟩ := bindS hm
   refine D_drawS ((g145, Cl 29 [.int .i64 (x135.From), .int .i64 (x135.To), .int .i64 (x135.Min), .int .i64 (x135.Max), .int .i64 (x135.Weight)]) :: (g83, Cl 24 [.int .i64 (s1.Period), .int .i64 (s1.Events), .slice A2 (s1.Rules).length c3]) :: R) mixed ?_
   refine E_in (.cons_cons _ (.cons_cons _ (.refl _))) ?_
   refine E_st 0 rfl (st_move rfl) ?_
   refine E_st 1 rfl (st_field rfl fld29_4) ?_
   refine E_st 2 rfl (st_load 0 rfl one3 rfl rfl) ?_
   refine E_st 3 rfl (st_loadD (vs := [_, _, _]) 1 3 rfl agg24 rfl rfl rfl) ?_
   refine E_st 4 rfl (st_loadD (vs := [_, _, _, _, _]) 0 5 rfl agg29 rfl rfl rfl) ?_
   refine E_st 5 rfl (st_move rfl) ?_
   refine E_st 7 rfl (st_field rfl fld29_2) ?_
   refine E_st 8 rfl (st_load 0 rfl one3 rfl rfl) ?_
   refine E_out ?_
   refine D_all [6] (by kernel_rfl) rfl ?_
   refine R_do (Base.Le.refl _) rfl rfl (u_callW0 _ call34 rfl (fun w ho => cPlanGap_2 _ [] s1 x135 l8 A2 c3 A5 c6 ((h4.le hle130).old ho) ((h7.le hle130).old ho) x151 hcl152) (fun _ _ _ h => h.2.symm)) ?_ ?_
   ·
    rintro _ _ ⟨⟨_, rfl, _⟩, rfl⟩
    refine ⟨.inr (.cons_cons _ (.cons_cons _ (.refl _))), ?_⟩
    have h153 := (chk_some h153).2
    refine E_in (.cons_cons _ (.cons_cons _ (.refl _))) ?_
    refine E_st 9 rfl (st_sub rfl rfl h153) ?_
    have h154 := (chk_some h154).2
    refine E_st 10 rfl (st_mul rfl rfl h154) ?_
    have h155 := (chk_some h155).2
    refine E_st 11 rfl (st_add rfl rfl h155) ?_
    refine E_st 12 rfl (st_assign rfl) ?_
    refine E_out ?_
    refine D_done (by kernel_rfl) ?_
    refine x_block_normal ?_
    refine x_then_normal ?_
    refine c_region ?_
    refine t_st rfl (st_add rfl rfl (by omega)) ?_
    refine t_st rfl (st_move rfl) ?_
    refine t_nil ?_
    refine x_pullb 1 rfl ?_
    obtain rfl := some1 hm
    exact x_againS (e' := [(1, .slice A5 (l8).length c6), (2, .pointer (some ⟨g83, 0, none⟩)), (5, .int .i64 (x131 + (x135.Weight * (x151 - x135.Min)))), (9, .slice A2 (s1.Rules).length c3), (10, .int .i64 ((s1.Rules.length : Int))), (11, .int .i64 ((k132 : Int) + 1))]) (hp' := (g83, Cl 24 [.int .i64 (s1.Period), .int .i64 (s1.Events), .slice A2 (s1.Rules).length c3]) :: R) ⟨rfl, rfl, rfl, rfl, rfl, rfl, trivial⟩ (.cons_cons _ (.cons _ (.refl _))) ⟨rfl, rfl, (hle130)⟩
   exact R_nil
  ·
   rintro b129 _ _ ⟨rfl, rfl, hle130⟩
   have hm := hk134
   refine c_seq ?_
   refine c_region ?_
   refine t_st rfl (st_lss_f rfl rfl (by omega)) ?_
   refine t_nil ?_
   refine x_then_normal ?_
   refine c_seq ?_
   refine c_cond_f rfl ?_
   refine c_exit ?_
   refine x_then_exit ?_
   refine x_then_exit ?_
   refine x_block_out ?_
   refine x_then_normal ?_
   refine c_seq ?_
   refine c_region ?_
   refine t_st rfl (st_move rfl) ?_
   refine t_st rfl (st_assign rfl) ?_
   refine t_nil ?_
   refine x_then_normal ?_
   refine c_ret ?_
   obtain rfl := some1 hm
   exact retM (rs := [.tmp 4]) [.int .i64 (x131)] hle130 (by decide) rfl ⟨rfl, trivial⟩ rfl (hp' := R) (.cons _ (.refl _)) ⟨rfl, rfl⟩

set_option maxRecDepth 20000 in
theorem cPlanCost (b : Base) (R : Hp) (s1 : PlanPeriodic) (l8 : (List Int)) (A2 : Option Addr) (c3 : Nat) (A5 : Option Addr) (c6 : Nat) (h4 : FZ rPlanRule b.w A2 c3 s1.Rules) (h7 : FZ (RT.int .i64) b.w A5 c6 l8) (x15 : Int) (x16 : Int) (hm : mPlanCost s1 l8 = some (x15, x16)) :
    CallsG Try.prog 19 [.agg #[.int .i64 (s1.Period), .int .i64 (s1.Events), .slice A2 (s1.Rules).length c3], .slice A5 (l8).length c6] b (R) (fun v b' hp' => .tuple #[.int .i64 (x15), .int .i64 (x16)] = v ∧ R = hp') := by
  refine fn_enterG 16 Try.func19 rfl Try.ntmps19 rfl ?_
  unfold mPlanCost at hm
  refine c_seq ?_
  refine c_region ?_
  refine t_do rfl (u_box _ rfl rfl) ?_
  rintro _ _ ⟨g17, rfl, rfl⟩
  refine t_st rfl (st_assign rfl) ?_
  refine t_st rfl (st_assign rfl) ?_
  refine t_nil ?_
  refine x_then_normal ?_
  refine c_seq ?_
  refine c_seq ?_
  refine c_region ?_
  refine t_st rfl (st_loadD (vs := [_, _, _]) 0 3 rfl agg24 rfl rfl rfl) ?_
  refine t_st rfl (st_move rfl) ?_
  obtain ⟨x18, hcl19, hm⟩ := bindS hm
  refine t_do rfl (u_callW0 _ call32 rfl (fun w ho => cPlanCheckTimes _ [] s1 l8 A2 c3 A5 c6 (h4.old ho) (h7.old ho) x18 hcl19) (fun _ _ _ h => h.2.symm)) ?_
  rintro _ _ ⟨⟨_, rfl, _⟩, rfl⟩
  refine t_st rfl (st_assign rfl) ?_
  refine t_nil ?_
  refine x_then_normal ?_
  refine c_seq ?_
  refine c_region ?_
  refine t_st rfl (st_move rfl) ?_
  refine t_st rfl (st_neq rfl rfl) ?_
  refine t_nil ?_
  refine x_then_normal ?_
  refine c_cond _ rfl (fun hc20 => ?_) (fun hc20 => ?_)
  ·
   rw [if_pos (of_decide_eq_true hc20)] at hm
   refine c_seq ?_
   refine c_region ?_
   refine t_st rfl (st_move rfl) ?_
   refine t_st rfl (st_assign rfl) ?_
   refine t_st rfl (st_assign rfl) ?_
   refine t_nil ?_
   refine x_then_normal ?_
   refine c_ret ?_
   refine x_then_ret ?_
   obtain ⟨rfl, rfl⟩ := some2 hm
   exact retM (rs := [.tmp 4, .tmp 5]) [.int .i64 (0), .int .i64 (x18)] (Base.Le.refl _) (by decide) rfl ⟨rfl, ⟨rfl, trivial⟩⟩ rfl (hp' := R) (.cons _ (.refl _)) ⟨rfl, rfl⟩
  ·
   rw [if_neg (of_decide_eq_false hc20)] at hm
   refine c_skip ?_
   refine x_then_normal ?_
   refine c_seq ?_
   refine c_region ?_
   refine t_st rfl (st_loadD (vs := [_, _, _]) 0 3 rfl agg24 rfl rfl rfl) ?_
   refine t_st rfl (st_move rfl) ?_
   obtain ⟨x21, hcl22, hm⟩ := bindS hm
   refine t_do rfl (u_callW0 _ call35 rfl (fun w ho => cPlanCost_2 _ [] s1 l8 A2 c3 A5 c6 (h4.old ho) (h7.old ho) x21 hcl22) (fun _ _ _ h => h.2.symm)) ?_
   rintro _ _ ⟨⟨_, rfl, _⟩, rfl⟩
   refine t_st rfl (st_assign rfl) ?_
   refine t_st rfl (st_assign rfl) ?_
   refine t_nil ?_
   refine x_then_normal ?_
   refine c_ret ?_
   obtain ⟨rfl, rfl⟩ := some2 hm
   exact retM (rs := [.tmp 4, .tmp 5]) [.int .i64 (x21), .int .i64 (0)] (Base.Le.refl _) (by decide) rfl ⟨rfl, ⟨rfl, trivial⟩⟩ rfl (hp' := R) (.cons _ (.refl _)) ⟨rfl, rfl⟩

set_option maxRecDepth 20000 in
theorem cPlanSearchStart_2 (b : Base) (R : Hp) (x21 : Int) (x22 : Int) (l26 : (List PlanRule)) (x27 : Int) (x28 : Int) (l32 : (List PlanRule)) (x33 : Int) (l34 : (List Int)) (l35 : (List Bool)) (l36 : (List Int)) (g16 : Nat) (g17 : Nat) (g18 : Nat) (g19 : Nat) (g20 : Nat) (A23 : Option Addr) (c24 : Nat) (A29 : Option Addr) (c30 : Nat) (A3 : Option Addr) (c4 : Nat) (hs2 : Hp) (A8 : Option Addr) (c9 : Nat) (hs7 : Hp) (A13 : Option Addr) (c14 : Nat) (hs12 : Hp) (h25 : FZ rPlanRule b.w A23 c24 l26) (h31 : FZ rPlanRule b.w A29 c30 l32) (h5 : OS 3 (OT.fr (RT.int .i64)) b.w (.slice A3 l34.length c4) l34 hs2) (h10 : OS 4 (OT.fr RT.bool) b.w (.slice A8 l35.length c9) l35 hs7) (h15 : OS 3 (OT.fr (RT.int .i64)) b.w (.slice A13 l36.length c14) l36 hs12) (hnz37 : (A13 = none ↔ l36 = [])) (l561 : (List (List Int))) (hm : mPlanSearchStart_2 x21 x22 l26 x27 x28 l32 x33 l34 l35 l36 = some l561) :
    CallsG Try.prog 40 [.pointer (some ⟨g16, 0, none⟩)] b ((g16, Cl 63 [.int .i64 (x21), .int .i64 (x22), .slice A23 (l26).length c24, .func (.func 38) #[] #[.pointer (some ⟨g17, 0, none⟩), .pointer (some ⟨g18, 0, none⟩), .pointer (some ⟨g19, 0, none⟩)], .func (.func 37) #[] #[.pointer (some ⟨g18, 0, none⟩), .pointer (some ⟨g17, 0, none⟩), .pointer (some ⟨g20, 0, none⟩), .pointer (some ⟨g19, 0, none⟩)], .slice A3 (l34).length c4, .slice A8 (l35).length c9]) :: (g17, Cl 24 [.int .i64 (x27), .int .i64 (x28), .slice A29 (l32).length c30]) :: (g18, Cl 30 [.slice A13 (l36).length c14]) :: (g19, Cl 3 [.int .i64 (x33)]) :: (g20, Cl 56 [.pointer (some ⟨g16, 0, none⟩)]) :: (hs2 ++ (hs7 ++ (hs12 ++ R)))) (fun v b' hp' => ∃ (g560 : Nat), ∃ (cs562 : List Value), .pointer (some ⟨g560, 0, none⟩) = v ∧ (g560, Cl 76 cs562) :: (g16, Cl 63 [.int .i64 (x21), .int .i64 (x22), .slice A23 (l26).length c24, .func (.func 38) #[] #[.pointer (some ⟨g17, 0, none⟩), .pointer (some ⟨g18, 0, none⟩), .pointer (some ⟨g19, 0, none⟩)], .func (.func 37) #[] #[.pointer (some ⟨g18, 0, none⟩), .pointer (some ⟨g17, 0, none⟩), .pointer (some ⟨g20, 0, none⟩), .pointer (some ⟨g19, 0, none⟩)], .slice A3 (l34).length c4, .slice A8 (l35).length c9]) :: (g17, Cl 24 [.int .i64 (x27), .int .i64 (x28), .slice A29 (l32).length c30]) :: (g18, Cl 30 [.slice A13 (l36).length c14]) :: (g19, Cl 3 [.int .i64 (x33)]) :: (g20, Cl 56 [.pointer (some ⟨g16, 0, none⟩)]) :: (hs2 ++ (hs7 ++ (hs12 ++ R))) = hp' ∧ (RT.arr 8 (RT.arr 8 (RT.int .i64))).rep b'.w cs562 l561) := by
  refine fn_enterG 47 Try.func40 rfl Try.ntmps40 rfl ?_
  unfold mPlanSearchStart_2 at hm
  refine c_seq ?_
  refine c_region ?_
  refine t_st rfl (st_assign rfl) ?_
  refine t_nil ?_
  refine x_then_normal ?_
  refine c_seq ?_
  refine c_region ?_
  refine t_st rfl (st_build (v := .agg #[.int .i64 (0), .int .i64 (0), .int .i64 (0), .int .i64 (0), .int .i64 (0), .int .i64 (0), .int .i64 (0), .int .i64 (0), .int .i64 (0), .int .i64 (0), .int .i64 (0), .int .i64 (0), .int .i64 (0), .int .i64 (0), .int .i64 (0), .int .i64 (0), .int .i64 (0), .int .i64 (0), .int .i64 (0), .int .i64 (0), .int .i64 (0), .int .i64 (0), .int .i64 (0), .int .i64 (0), .int .i64 (0), .int .i64 (0), .int .i64 (0), .int .i64 (0), .int .i64 (0), .int .i64 (0), .int .i64 (0), .int .i64 (0), .int .i64 (0), .int .i64 (0), .int .i64 (0), .int .i64 (0), .int .i64 (0), .int .i64 (0), .int .i64 (0), .int .i64 (0), .int .i64 (0), .int .i64 (0), .int .i64 (0), .int .i64 (0), .int .i64 (0), .int .i64 (0), .int .i64 (0), .int .i64 (0), .int .i64 (0), .int .i64 (0), .int .i64 (0), .int .i64 (0), .int .i64 (0), .int .i64 (0), .int .i64 (0), .int .i64 (0), .int .i64 (0), .int .i64 (0), .int .i64 (0), .int .i64 (0), .int .i64 (0), .int .i64 (0), .int .i64 (0), .int .i64 (0)]) [] rfl (fun _ => by kernel_rfl)) ?_
  have h565 : (RT.arr 8 (RT.arr 8 (RT.int .i64))).rep b.w ((List.replicate 8 ((List.replicate 8 [.int .i64 0]).flatten)).flatten) (List.replicate 8 (List.replicate 8 (0 : Int))) := (arr_zero 8 (arr_zero 8 rfl))
  refine t_do rfl (u_box ((List.replicate 8 ((List.replicate 8 [.int .i64 0]).flatten)).flatten) rfl (by kernel_rfl)) ?_
  rintro _ _ ⟨g564, rfl, rfl⟩
  refine t_st rfl (st_assign rfl) ?_
  refine t_nil ?_
  refine x_then_normal ?_
  refine c_seq ?_
  refine c_seq ?_
  refine c_region ?_
  refine t_st rfl (st_move rfl) ?_
  refine t_st rfl (st_nil rfl) ?_
  refine t_st rfl (st_field rfl fld63_0) ?_
  refine t_st rfl (st_field rfl fld24_1) ?_
  refine t_st rfl (st_load 1 rfl one3 rfl rfl) ?_
  refine t_st rfl (st_move rfl) ?_
  refine t_nil ?_
  refine x_then_normal ?_
  refine c_block ?_
  obtain ⟨_, h567, hm⟩ := bindS hm
  have h567 := (chk_some h567).2
  refine c_pullb 5 rfl ?_
  refine c_pullb 5 rfl ?_
  refine c_pullb 5 rfl ?_
  refine c_pullb 5 rfl ?_
  refine c_pullb 4 rfl ?_
  refine c_pullb 5 rfl ?_
  refine c_front3 [_, _, _, _, _, _] hs2 hs7 hs12 R rfl ?_
  refine c_front3 [_, _, _, _, _, _] hs12 hs2 hs7 R rfl ?_
  refine c_front3 [_, _, _, _, _, _] hs7 hs12 hs2 R rfl ?_
  obtain ⟨l911, hl915, hk916⟩ := bindS hm
  refine c_forS (fun k914 => fun l911 => fun b909 e' hp' => ∃ (cs912 : List Value), [(0, .pointer (some ⟨g16, 0, none⟩)), (3, .pointer (some ⟨g564, 0, none⟩)), (12, .int .i64 (x22)), (13, .int .i64 ((k914 : Int)))] = e' ∧ (g16, Cl 63 [.int .i64 (x21), .int .i64 (x22), .slice A23 (l26).length c24, .func (.func 38) #[] #[.pointer (some ⟨g17, 0, none⟩), .pointer (some ⟨g18, 0, none⟩), .pointer (some ⟨g19, 0, none⟩)], .func (.func 37) #[] #[.pointer (some ⟨g18, 0, none⟩), .pointer (some ⟨g17, 0, none⟩), .pointer (some ⟨g20, 0, none⟩), .pointer (some ⟨g19, 0, none⟩)], .slice A3 (l34).length c4, .slice A8 (l35).length c9]) :: (g564, Cl 76 cs912) :: (g17, Cl 24 [.int .i64 (x27), .int .i64 (x28), .slice A29 (l32).length c30]) :: (g18, Cl 30 [.slice A13 (l36).length c14]) :: (g19, Cl 3 [.int .i64 (x33)]) :: (g20, Cl 56 [.pointer (some ⟨g16, 0, none⟩)]) :: (hs2 ++ (hs7 ++ (hs12 ++ R))) = hp' ∧ b.Le b909 ∧ (RT.arr 8 (RT.arr 8 (RT.int .i64))).rep b909.w cs912 l911) hl915 (e' := [(0, .pointer (some ⟨g16, 0, none⟩)), (3, .pointer (some ⟨g564, 0, none⟩)), (12, .int .i64 (x22)), (13, .int .i64 0)]) (hp' := (g16, Cl 63 [.int .i64 (x21), .int .i64 (x22), .slice A23 (l26).length c24, .func (.func 38) #[] #[.pointer (some ⟨g17, 0, none⟩), .pointer (some ⟨g18, 0, none⟩), .pointer (some ⟨g19, 0, none⟩)], .func (.func 37) #[] #[.pointer (some ⟨g18, 0, none⟩), .pointer (some ⟨g17, 0, none⟩), .pointer (some ⟨g20, 0, none⟩), .pointer (some ⟨g19, 0, none⟩)], .slice A3 (l34).length c4, .slice A8 (l35).length c9]) :: (g564, Cl 76 ((List.replicate 8 ((List.replicate 8 [.int .i64 0]).flatten)).flatten)) :: (g17, Cl 24 [.int .i64 (x27), .int .i64 (x28), .slice A29 (l32).length c30]) :: (g18, Cl 30 [.slice A13 (l36).length c14]) :: (g19, Cl 3 [.int .i64 (x33)]) :: (g20, Cl 56 [.pointer (some ⟨g16, 0, none⟩)]) :: (hs2 ++ (hs7 ++ (hs12 ++ R)))) ⟨rfl, rfl, rfl, rfl, trivial⟩ (.cons_cons _ (.cons_cons _ (.cons_cons _ (.cons_cons _ (.cons_cons _ (.cons_cons _ (sub_app hs2 (sub_app hs7 (sub_app hs12 (.refl _)))))))))) ⟨(List.replicate 8 ((List.replicate 8 [.int .i64 0]).flatten)).flatten, rfl, rfl, (Base.Le.refl _), h565⟩ ?_ ?_
  ·
   rintro k914 l911 b909 _ _ oL566 hknL566 ⟨cs912, rfl, rfl, hle910, h913⟩ hstepL566
   unfold mPlanSearchStart_2_L566 at hstepL566
   have hm := hstepL566
   refine c_seq ?_
   refine c_region ?_
   refine t_st rfl (st_lss_t rfl rfl (by omega)) ?_
   refine t_nil ?_
   refine x_then_normal ?_
   refine c_seq ?_
   refine c_cond_t rfl ?_
   refine c_skip ?_
   refine x_then_normal ?_
   refine c_seq ?_
   refine c_block ?_
   refine c_seq ?_
   refine c_region ?_
   refine t_st rfl (st_move rfl) ?_
   refine t_st rfl (st_assign rfl) ?_
   refine t_nil ?_
   refine x_then_normal ?_
   refine c_seq ?_
   refine c_seq ?_
   refine c_region ?_
   refine t_st rfl (st_move rfl) ?_
   refine t_st rfl (st_nil rfl) ?_
   refine t_st rfl (st_field rfl fld63_0) ?_
   refine t_st rfl (st_field rfl fld24_1) ?_
   refine t_st rfl (st_load 0 rfl one3 rfl rfl) ?_
   refine t_st rfl (st_move rfl) ?_
   refine t_nil ?_
   refine x_then_normal ?_
   refine c_block ?_
   obtain ⟨_, h918, hm⟩ := bindS hm
   have h918 := (chk_some h918).2
   refine c_pullb 5 rfl ?_
   refine c_pullb 5 rfl ?_
   refine c_pullb 5 rfl ?_
   refine c_pullb 5 rfl ?_
   refine c_pullb 5 rfl ?_
   refine c_pullb 5 rfl ?_
   refine c_front3 [_, _, _, _, _, _] hs2 hs7 hs12 R rfl ?_
   refine c_front3 [_, _, _, _, _, _] hs12 hs2 hs7 R rfl ?_
   refine c_front3 [_, _, _, _, _, _] hs7 hs12 hs2 R rfl ?_
   obtain ⟨l1014, hl1018, hk1019⟩ := bindS hm
   refine c_forS (fun k1017 => fun l1014 => fun b1012 e' hp' => ∃ (cs1015 : List Value), [(0, .pointer (some ⟨g16, 0, none⟩)), (3, .pointer (some ⟨g564, 0, none⟩)), (4, .int .i64 ((k914 : Int))), (12, .int .i64 (x22)), (13, .int .i64 ((k914 : Int))), (20, .int .i64 (x22)), (21, .int .i64 ((k1017 : Int)))] = e' ∧ (g16, Cl 63 [.int .i64 (x21), .int .i64 (x22), .slice A23 (l26).length c24, .func (.func 38) #[] #[.pointer (some ⟨g17, 0, none⟩), .pointer (some ⟨g18, 0, none⟩), .pointer (some ⟨g19, 0, none⟩)], .func (.func 37) #[] #[.pointer (some ⟨g18, 0, none⟩), .pointer (some ⟨g17, 0, none⟩), .pointer (some ⟨g20, 0, none⟩), .pointer (some ⟨g19, 0, none⟩)], .slice A3 (l34).length c4, .slice A8 (l35).length c9]) :: (g564, Cl 76 cs1015) :: (g17, Cl 24 [.int .i64 (x27), .int .i64 (x28), .slice A29 (l32).length c30]) :: (g18, Cl 30 [.slice A13 (l36).length c14]) :: (g19, Cl 3 [.int .i64 (x33)]) :: (g20, Cl 56 [.pointer (some ⟨g16, 0, none⟩)]) :: (hs2 ++ (hs7 ++ (hs12 ++ R))) = hp' ∧ b909.Le b1012 ∧ (RT.arr 8 (RT.arr 8 (RT.int .i64))).rep b1012.w cs1015 l1014) hl1018 (e' := [(0, .pointer (some ⟨g16, 0, none⟩)), (3, .pointer (some ⟨g564, 0, none⟩)), (4, .int .i64 ((k914 : Int))), (12, .int .i64 (x22)), (13, .int .i64 ((k914 : Int))), (20, .int .i64 (x22)), (21, .int .i64 0)]) (hp' := (g16, Cl 63 [.int .i64 (x21), .int .i64 (x22), .slice A23 (l26).length c24, .func (.func 38) #[] #[.pointer (some ⟨g17, 0, none⟩), .pointer (some ⟨g18, 0, none⟩), .pointer (some ⟨g19, 0, none⟩)], .func (.func 37) #[] #[.pointer (some ⟨g18, 0, none⟩), .pointer (some ⟨g17, 0, none⟩), .pointer (some ⟨g20, 0, none⟩), .pointer (some ⟨g19, 0, none⟩)], .slice A3 (l34).length c4, .slice A8 (l35).length c9]) :: (g564, Cl 76 cs912) :: (g17, Cl 24 [.int .i64 (x27), .int .i64 (x28), .slice A29 (l32).length c30]) :: (g18, Cl 30 [.slice A13 (l36).length c14]) :: (g19, Cl 3 [.int .i64 (x33)]) :: (g20, Cl 56 [.pointer (some ⟨g16, 0, none⟩)]) :: (hs2 ++ (hs7 ++ (hs12 ++ R)))) ⟨rfl, rfl, rfl, rfl, rfl, rfl, rfl, trivial⟩ (.cons_cons _ (.cons_cons _ (.cons_cons _ (.cons_cons _ (.cons_cons _ (.cons_cons _ (sub_app hs2 (sub_app hs7 (sub_app hs12 (.refl _)))))))))) ⟨cs912, rfl, rfl, (Base.Le.refl _), h913⟩ ?_ ?_
   ·
    rintro k1017 l1014 b1012 _ _ oL917 hknL917 ⟨cs1015, rfl, rfl, hle1013, h1016⟩ hstepL917
    unfold mPlanSearchStart_2_L917 at hstepL917
    have hm := hstepL917
    refine c_seq ?_
    refine c_region ?_
    refine t_st rfl (st_lss_t rfl rfl (by omega)) ?_
    refine t_nil ?_
    refine x_then_normal ?_
    refine c_seq ?_
    refine c_cond_t rfl ?_
    refine c_skip ?_
    refine x_then_normal ?_
    refine c_seq ?_
    refine c_block ?_
    refine c_seq ?_
    refine c_region ?_
    refine t_st rfl (st_move rfl) ?_
    refine t_st rfl (st_assign rfl) ?_
    refine t_nil ?_
    refine x_then_normal ?_
    refine c_seq ?_
    refine c_region ?_
    refine t_st rfl (st_move rfl) ?_
    refine t_st rfl (st_move rfl) ?_
    refine t_st rfl (st_neq rfl rfl) ?_
    refine t_nil ?_
    refine x_then_normal ?_
    refine c_cond _ rfl (fun hc1020 => ?_) (fun hc1020 => ?_)
    ·
     rw [if_pos (of_decide_eq_true hc1020)] at hm
     obtain ⟨_, h1043, hm⟩ := bindS hm
     obtain ⟨x1044, h1045, hm⟩ := bindS hm
     obtain ⟨x1053, h1054, hm⟩ := bindS hm
     refine D_drawS ((g16, Cl 63 [.int .i64 (x21), .int .i64 (x22), .slice A23 (l26).length c24, .func (.func 38) #[] #[.pointer (some ⟨g17, 0, none⟩), .pointer (some ⟨g18, 0, none⟩), .pointer (some ⟨g19, 0, none⟩)], .func (.func 37) #[] #[.pointer (some ⟨g18, 0, none⟩), .pointer (some ⟨g17, 0, none⟩), .pointer (some ⟨g20, 0, none⟩), .pointer (some ⟨g19, 0, none⟩)], .slice A3 (l34).length c4, .slice A8 (l35).length c9]) :: (g17, Cl 24 [.int .i64 (x27), .int .i64 (x28), .slice A29 (l32).length c30]) :: (g18, Cl 30 [.slice A13 (l36).length c14]) :: (g19, Cl 3 [.int .i64 (x33)]) :: (g20, Cl 56 [.pointer (some ⟨g16, 0, none⟩)]) :: (hs2 ++ (hs7 ++ (hs12 ++ R)))) mixed ?_
     refine E_in (.cons_cons _ (.cons _ (.cons_cons _ (.cons_cons _ (.cons_cons _ (.cons_cons _ (sub_app hs2 (sub_app hs7 (sub_app hs12 (.refl _)))))))))) ?_
     refine E_st 0 rfl (st_move rfl) ?_
     refine E_st 1 rfl (st_move rfl) ?_
     refine E_st 2 rfl (st_move rfl) ?_
     refine E_st 3 rfl (st_move rfl) ?_
     refine E_st 4 rfl (st_nil rfl) ?_
     refine E_st 5 rfl (st_field rfl fld63_0) ?_
     refine E_st 6 rfl (st_field rfl fld24_0) ?_
     refine E_st 7 rfl (st_load 0 rfl one3 rfl rfl) ?_
     have h1043 := (chk_some h1043).2
     refine E_st 8 rfl (st_sub rfl rfl h1043) ?_
     refine E_st 9 rfl (st_nil rfl) ?_
     refine E_out ?_
     obtain ⟨j1046, hj1047, hx1048⟩ := idx_some h1045
     obtain ⟨cs1049, hr1050, hcs1051, hlt1052⟩ := arr_in (sz := 8) rfl h1016 hx1048
     refine D_all [10] (by kernel_rfl) rfl ?_
     refine R_do (Base.Le.refl _) rfl rfl (Stable.does (st_baddr j1046 rfl rfl hj1047 hlt1052 arr76 (Nat.zero_add _))) ?_ ?_
     ·
      rintro _ _ ⟨rfl, rfl⟩
      refine ⟨.inr (.cons_cons _ (.cons _ (.cons_cons _ (.cons_cons _ (.cons_cons _ (.cons_cons _ (sub_app hs2 (sub_app hs7 (sub_app hs12 (.refl _)))))))))), ?_⟩
      obtain ⟨j1055, hj1056, hx1057⟩ := idx_some h1054
      obtain ⟨cs1058, hr1059, hcs1060, hlt1061⟩ := arr_in (sz := 1) rfl hr1050 hx1057
      have hcs1062 := fun i u hu => (Nat.add_assoc (j1046 * 8) (j1055 * 1) i) ▸ hcs1051 _ _ (hcs1060 i u hu)
      obtain rfl := hr1059
      refine E_in (.cons_cons _ (.cons _ (.cons_cons _ (.cons_cons _ (.cons_cons _ (.cons_cons _ (sub_app hs2 (sub_app hs7 (sub_app hs12 (.refl _)))))))))) ?_
      refine E_st 11 rfl (st_baddr j1055 rfl rfl hj1056 hlt1061 arr64 rfl) ?_
      refine E_out ?_
      have h1063 : (RT.arr 8 (RT.arr 8 (RT.int .i64))).rep b1012.w (cs1015.set (j1046 * 8 + j1055 * 1) (.int .i64 (x21 - 1))) (put l1014 (k914 : Int) (put x1044 (k1017 : Int) (x21 - 1))) := arr_put (k := j1055 * 1) hj1047 h1016 hx1048 (by show j1055 * 1 < 8; omega) rfl (fun _ hd1 => arr_put (k := 0) hj1056 hd1 hx1057 (by decide) rfl int_set)
      refine D_all [12] (by kernel_rfl) rfl ?_
      refine R_do (Base.Le.refl _) rfl rfl (u_storeArr 1 rfl rfl siz3 rfl rfl h1016 (by show j1046 * 8 + j1055 * 1 < 64; omega)) ?_ ?_
      ·
       rintro _ _ rfl
       refine ⟨.inr (.cons_cons _ (.cons _ (.cons_cons _ (.cons_cons _ (.cons_cons _ (.cons_cons _ (sub_app hs2 (sub_app hs7 (sub_app hs12 (.refl _)))))))))), ?_⟩
       refine D_done (by kernel_rfl) ?_
       refine x_block_normal ?_
       refine x_then_normal ?_
       refine c_region ?_
       refine t_st rfl (st_add rfl rfl (by omega)) ?_
       refine t_st rfl (st_move rfl) ?_
       refine t_nil ?_
       refine x_pullb 5 rfl ?_
       refine x_pullb 5 rfl ?_
       refine x_pullb 5 rfl ?_
       refine x_pullb 5 rfl ?_
       refine x_pullb 5 rfl ?_
       refine x_pullb 5 rfl ?_
       refine x_front3 [_, _, _, _, _, _] hs2 hs7 hs12 R rfl ?_
       refine x_front3 [_, _, _, _, _, _] hs12 hs2 hs7 R rfl ?_
       refine x_front3 [_, _, _, _, _, _] hs7 hs12 hs2 R rfl ?_
       obtain rfl := some1 hm
       exact x_againS (e' := [(0, .pointer (some ⟨g16, 0, none⟩)), (3, .pointer (some ⟨g564, 0, none⟩)), (4, .int .i64 ((k914 : Int))), (12, .int .i64 (x22)), (13, .int .i64 ((k914 : Int))), (20, .int .i64 (x22)), (21, .int .i64 ((k1017 : Int) + 1))]) (hp' := (g16, Cl 63 [.int .i64 (x21), .int .i64 (x22), .slice A23 (l26).length c24, .func (.func 38) #[] #[.pointer (some ⟨g17, 0, none⟩), .pointer (some ⟨g18, 0, none⟩), .pointer (some ⟨g19, 0, none⟩)], .func (.func 37) #[] #[.pointer (some ⟨g18, 0, none⟩), .pointer (some ⟨g17, 0, none⟩), .pointer (some ⟨g20, 0, none⟩), .pointer (some ⟨g19, 0, none⟩)], .slice A3 (l34).length c4, .slice A8 (l35).length c9]) :: (g564, Cl 76 (cs1015.set (j1046 * 8 + j1055 * 1) (.int .i64 (x21 - 1)))) :: (g17, Cl 24 [.int .i64 (x27), .int .i64 (x28), .slice A29 (l32).length c30]) :: (g18, Cl 30 [.slice A13 (l36).length c14]) :: (g19, Cl 3 [.int .i64 (x33)]) :: (g20, Cl 56 [.pointer (some ⟨g16, 0, none⟩)]) :: (hs2 ++ (hs7 ++ (hs12 ++ R)))) ⟨rfl, rfl, rfl, rfl, rfl, rfl, rfl, trivial⟩ (.cons_cons _ (.cons_cons _ (.cons_cons _ (.cons_cons _ (.cons_cons _ (.cons_cons _ (sub_app hs2 (sub_app hs7 (sub_app hs12 (.refl _)))))))))) ⟨cs1015.set (j1046 * 8 + j1055 * 1) (.int .i64 (x21 - 1)), rfl, rfl, (hle1013), h1063⟩
      exact R_nil
     exact R_nil
    ·
     rw [if_neg (of_decide_eq_false hc1020)] at hm
     refine c_skip ?_
     refine x_block_normal ?_
     refine x_then_normal ?_
     refine c_region ?_
     refine t_st rfl (st_add rfl rfl (by omega)) ?_
     refine t_st rfl (st_move rfl) ?_
     refine t_nil ?_
     refine x_pullb 5 rfl ?_
     refine x_pullb 5 rfl ?_
     refine x_pullb 5 rfl ?_
     refine x_pullb 5 rfl ?_
     refine x_pullb 5 rfl ?_
     refine x_pullb 5 rfl ?_
     refine x_front3 [_, _, _, _, _, _] hs2 hs7 hs12 R rfl ?_
     refine x_front3 [_, _, _, _, _, _] hs12 hs2 hs7 R rfl ?_
     refine x_front3 [_, _, _, _, _, _] hs7 hs12 hs2 R rfl ?_
     obtain rfl := some1 hm
     exact x_againS (e' := [(0, .pointer (some ⟨g16, 0, none⟩)), (3, .pointer (some ⟨g564, 0, none⟩)), (4, .int .i64 ((k914 : Int))), (12, .int .i64 (x22)), (13, .int .i64 ((k914 : Int))), (20, .int .i64 (x22)), (21, .int .i64 ((k1017 : Int) + 1))]) (hp' := (g16, Cl 63 [.int .i64 (x21), .int .i64 (x22), .slice A23 (l26).length c24, .func (.func 38) #[] #[.pointer (some ⟨g17, 0, none⟩), .pointer (some ⟨g18, 0, none⟩), .pointer (some ⟨g19, 0, none⟩)], .func (.func 37) #[] #[.pointer (some ⟨g18, 0, none⟩), .pointer (some ⟨g17, 0, none⟩), .pointer (some ⟨g20, 0, none⟩), .pointer (some ⟨g19, 0, none⟩)], .slice A3 (l34).length c4, .slice A8 (l35).length c9]) :: (g564, Cl 76 cs1015) :: (g17, Cl 24 [.int .i64 (x27), .int .i64 (x28), .slice A29 (l32).length c30]) :: (g18, Cl 30 [.slice A13 (l36).length c14]) :: (g19, Cl 3 [.int .i64 (x33)]) :: (g20, Cl 56 [.pointer (some ⟨g16, 0, none⟩)]) :: (hs2 ++ (hs7 ++ (hs12 ++ R)))) ⟨rfl, rfl, rfl, rfl, rfl, rfl, rfl, trivial⟩ (.cons_cons _ (.cons_cons _ (.cons_cons _ (.cons_cons _ (.cons_cons _ (.cons_cons _ (sub_app hs2 (sub_app hs7 (sub_app hs12 (.refl _)))))))))) ⟨cs1015, rfl, rfl, (hle1013), h1016⟩
   ·
    rintro b1012 _ _ ⟨cs1015, rfl, rfl, hle1013, h1016⟩
    have hm := hk1019
    refine c_seq ?_
    refine c_region ?_
    refine t_st rfl (st_lss_f rfl rfl (by omega)) ?_
    refine t_nil ?_
    refine x_then_normal ?_
    refine c_seq ?_
    refine c_cond_f rfl ?_
    refine c_exit ?_
    refine x_then_exit ?_
    refine x_then_exit ?_
    refine x_block_out ?_
    refine x_then_normal ?_
    refine c_region ?_
    refine t_st rfl (st_move rfl) ?_
    refine t_st rfl (st_move rfl) ?_
    refine t_st rfl (st_nil rfl) ?_
    obtain ⟨x1065, h1066, hm⟩ := bindS hm
    obtain ⟨j1067, hj1068, hx1069⟩ := idx_some h1066
    obtain ⟨cs1070, hr1071, hcs1072, hlt1073⟩ := arr_in (sz := 8) rfl h1016 hx1069
    refine t_st rfl (st_baddr j1067 rfl rfl hj1068 hlt1073 arr76 (Nat.zero_add _)) ?_
    obtain ⟨x1074, h1075, hm⟩ := bindS hm
    obtain ⟨j1076, hj1077, hx1078⟩ := idx_some h1075
    obtain ⟨cs1079, hr1080, hcs1081, hlt1082⟩ := arr_in (sz := 1) rfl hr1071 hx1078
    have hcs1083 := fun i u hu => (Nat.add_assoc (j1067 * 8) (j1076 * 1) i) ▸ hcs1072 _ _ (hcs1081 i u hu)
    obtain rfl := hr1080
    refine t_st rfl (st_baddr j1076 rfl rfl hj1077 hlt1082 arr64 rfl) ?_
    have h1084 : (RT.arr 8 (RT.arr 8 (RT.int .i64))).rep b1012.w (cs1015.set (j1067 * 8 + j1076 * 1) (.int .i64 (0))) (put l1014 (k914 : Int) (put x1065 0 0)) := arr_put (k := j1076 * 1) hj1068 h1016 hx1069 (by show j1076 * 1 < 8; omega) rfl (fun _ hd1 => arr_put (k := 0) hj1077 hd1 hx1078 (by decide) rfl int_set)
    refine t_do rfl (u_storeArr 1 rfl rfl siz3 rfl rfl h1016 (by show j1067 * 8 + j1076 * 1 < 64; omega)) ?_
    rintro _ _ rfl
    refine t_nil ?_
    refine x_block_normal ?_
    refine x_then_normal ?_
    refine c_region ?_
    refine t_st rfl (st_add rfl rfl (by omega)) ?_
    refine t_st rfl (st_move rfl) ?_
    refine t_nil ?_
    refine x_pullb 5 rfl ?_
    refine x_pullb 5 rfl ?_
    refine x_pullb 5 rfl ?_
    refine x_pullb 5 rfl ?_
    refine x_pullb 5 rfl ?_
    refine x_pullb 5 rfl ?_
    refine x_front3 [_, _, _, _, _, _] hs2 hs7 hs12 R rfl ?_
    refine x_front3 [_, _, _, _, _, _] hs12 hs2 hs7 R rfl ?_
    refine x_front3 [_, _, _, _, _, _] hs7 hs12 hs2 R rfl ?_
    obtain rfl := some1 hm
    exact x_againS (e' := [(0, .pointer (some ⟨g16, 0, none⟩)), (3, .pointer (some ⟨g564, 0, none⟩)), (12, .int .i64 (x22)), (13, .int .i64 ((k914 : Int) + 1))]) (hp' := (g16, Cl 63 [.int .i64 (x21), .int .i64 (x22), .slice A23 (l26).length c24, .func (.func 38) #[] #[.pointer (some ⟨g17, 0, none⟩), .pointer (some ⟨g18, 0, none⟩), .pointer (some ⟨g19, 0, none⟩)], .func (.func 37) #[] #[.pointer (some ⟨g18, 0, none⟩), .pointer (some ⟨g17, 0, none⟩), .pointer (some ⟨g20, 0, none⟩), .pointer (some ⟨g19, 0, none⟩)], .slice A3 (l34).length c4, .slice A8 (l35).length c9]) :: (g564, Cl 76 (cs1015.set (j1067 * 8 + j1076 * 1) (.int .i64 (0)))) :: (g17, Cl 24 [.int .i64 (x27), .int .i64 (x28), .slice A29 (l32).length c30]) :: (g18, Cl 30 [.slice A13 (l36).length c14]) :: (g19, Cl 3 [.int .i64 (x33)]) :: (g20, Cl 56 [.pointer (some ⟨g16, 0, none⟩)]) :: (hs2 ++ (hs7 ++ (hs12 ++ R)))) ⟨rfl, rfl, rfl, rfl, trivial⟩ (.cons_cons _ (.cons_cons _ (.cons_cons _ (.cons_cons _ (.cons_cons _ (.cons_cons _ (sub_app hs2 (sub_app hs7 (sub_app hs12 (.refl _)))))))))) ⟨cs1015.set (j1067 * 8 + j1076 * 1) (.int .i64 (0)), rfl, rfl, ((hle910.trans hle1013)), h1084⟩
  ·
   rintro b909 _ _ ⟨cs912, rfl, rfl, hle910, h913⟩
   have hm := hk916
   refine c_seq ?_
   refine c_region ?_
   refine t_st rfl (st_lss_f rfl rfl (by omega)) ?_
   refine t_nil ?_
   refine x_then_normal ?_
   refine c_seq ?_
   refine c_cond_f rfl ?_
   refine c_exit ?_
   refine x_then_exit ?_
   refine x_then_exit ?_
   refine x_block_out ?_
   refine x_then_normal ?_
   refine c_seq ?_
   refine c_region ?_
   refine t_st rfl (st_move rfl) ?_
   refine t_st rfl (st_assign rfl) ?_
   refine t_nil ?_
   refine x_then_normal ?_
   refine c_ret ?_
   obtain rfl := some1 hm
   refine x_pullb 5 rfl ?_
   refine x_pullb 5 rfl ?_
   refine x_pullb 5 rfl ?_
   refine x_pullb 5 rfl ?_
   refine x_pullb 4 rfl ?_
   refine x_pullb 5 rfl ?_
   refine x_front3 [_, _, _, _, _, _] hs2 hs7 hs12 R rfl ?_
   refine x_front3 [_, _, _, _, _, _] hs12 hs2 hs7 R rfl ?_
   refine x_front3 [_, _, _, _, _, _] hs7 hs12 hs2 R rfl ?_
   exact retM (rs := [.tmp 2]) [.pointer (some ⟨g564, 0, none⟩)] hle910 (by decide) rfl ⟨rfl, trivial⟩ rfl (hp' := (g564, Cl 76 cs912) :: (g16, Cl 63 [.int .i64 (x21), .int .i64 (x22), .slice A23 (l26).length c24, .func (.func 38) #[] #[.pointer (some ⟨g17, 0, none⟩), .pointer (some ⟨g18, 0, none⟩), .pointer (some ⟨g19, 0, none⟩)], .func (.func 37) #[] #[.pointer (some ⟨g18, 0, none⟩), .pointer (some ⟨g17, 0, none⟩), .pointer (some ⟨g20, 0, none⟩), .pointer (some ⟨g19, 0, none⟩)], .slice A3 (l34).length c4, .slice A8 (l35).length c9]) :: (g17, Cl 24 [.int .i64 (x27), .int .i64 (x28), .slice A29 (l32).length c30]) :: (g18, Cl 30 [.slice A13 (l36).length c14]) :: (g19, Cl 3 [.int .i64 (x33)]) :: (g20, Cl 56 [.pointer (some ⟨g16, 0, none⟩)]) :: (hs2 ++ (hs7 ++ (hs12 ++ R)))) (.cons_cons _ (.cons_cons _ (.cons_cons _ (.cons_cons _ (.cons_cons _ (.cons_cons _ (sub_app hs2 (sub_app hs7 (sub_app hs12 (.refl _)))))))))) ⟨g564, cs912, rfl, rfl, h913⟩

set_option maxRecDepth 20000 in
theorem cPlanBest_1 (b : Base) (R : Hp) (q21 : (Option (List (List Int)))) (x24 : Int) (x25 : Int) (l29 : (List PlanRule)) (x30 : Int) (x31 : Int) (x32 : Int) (l36 : (List PlanRule)) (l37 : (List Int)) (l39 : (List Int)) (l40 : (List Bool)) (g16 : Nat) (g17 : Nat) (g18 : Nat) (g19 : Nat) (g20 : Nat) (v22 : Value) (A26 : Option Addr) (c27 : Nat) (A33 : Option Addr) (c34 : Nat) (A3 : Option Addr) (c4 : Nat) (hs2 : Hp) (A8 : Option Addr) (c9 : Nat) (hs7 : Hp) (A13 : Option Addr) (c14 : Nat) (hs12 : Hp) (h23 : (RT.ptr (RT.arr 8 (RT.arr 8 (RT.int .i64)))).rep b.w [v22] q21) (h28 : FZ rPlanRule b.w A26 c27 l29) (h35 : FZ rPlanRule b.w A33 c34 l36) (h5 : OS 3 (OT.fr (RT.int .i64)) b.w (.slice A3 l37.length c4) l37 hs2) (hnz38 : (A3 = none ↔ l37 = [])) (h10 : OS 3 (OT.fr (RT.int .i64)) b.w (.slice A8 l39.length c9) l39 hs7) (h15 : OS 4 (OT.fr RT.bool) b.w (.slice A13 l40.length c14) l40 hs12) (x435 : Bool) (hm : mPlanBest_1 q21 x24 x25 l29 x30 x31 x32 l36 l37 l39 l40 = some x435) :
    CallsG Try.prog 37 [v22, .pointer (some ⟨g16, 0, none⟩), .pointer (some ⟨g17, 0, none⟩), .pointer (some ⟨g18, 0, none⟩), .pointer (some ⟨g19, 0, none⟩)] b ((g16, Cl 30 [.slice A3 (l37).length c4]) :: (g17, Cl 24 [.int .i64 (x24), .int .i64 (x25), .slice A26 (l29).length c27]) :: (g18, Cl 56 [.pointer (some ⟨g20, 0, none⟩)]) :: (g19, Cl 3 [.int .i64 (x30)]) :: (g20, Cl 63 [.int .i64 (x31), .int .i64 (x32), .slice A33 (l36).length c34, .func (.func 38) #[] #[.pointer (some ⟨g17, 0, none⟩), .pointer (some ⟨g16, 0, none⟩), .pointer (some ⟨g19, 0, none⟩)], .func (.func 37) #[] #[.pointer (some ⟨g16, 0, none⟩), .pointer (some ⟨g17, 0, none⟩), .pointer (some ⟨g18, 0, none⟩), .pointer (some ⟨g19, 0, none⟩)], .slice A8 (l39).length c9, .slice A13 (l40).length c14]) :: (hs2 ++ (hs7 ++ (hs12 ++ R)))) (fun v b' hp' => .bool (x435) = v ∧ (g16, Cl 30 [.slice A3 (l37).length c4]) :: (g17, Cl 24 [.int .i64 (x24), .int .i64 (x25), .slice A26 (l29).length c27]) :: (g18, Cl 56 [.pointer (some ⟨g20, 0, none⟩)]) :: (g19, Cl 3 [.int .i64 (x30)]) :: (g20, Cl 63 [.int .i64 (x31), .int .i64 (x32), .slice A33 (l36).length c34, .func (.func 38) #[] #[.pointer (some ⟨g17, 0, none⟩), .pointer (some ⟨g16, 0, none⟩), .pointer (some ⟨g19, 0, none⟩)], .func (.func 37) #[] #[.pointer (some ⟨g16, 0, none⟩), .pointer (some ⟨g17, 0, none⟩), .pointer (some ⟨g18, 0, none⟩), .pointer (some ⟨g19, 0, none⟩)], .slice A8 (l39).length c9, .slice A13 (l40).length c14]) :: (hs2 ++ (hs7 ++ (hs12 ++ R))) = hp') := by
  refine fn_enterG 62 Try.func37 rfl Try.ntmps37 rfl ?_
  unfold mPlanBest_1 at hm
  refine c_seq ?_
  refine c_region ?_
  refine t_st rfl (st_assign rfl) ?_
  refine t_nil ?_
  refine x_then_normal ?_
  refine c_seq ?_
  refine c_seq ?_
  refine c_region ?_
  refine t_st rfl (st_load 0 rfl one30 rfl rfl) ?_
  refine t_st rfl (st_eqnil_z rfl rfl hnz38 sl30) ?_
  refine t_nil ?_
  refine x_then_normal ?_
  refine c_cond _ rfl (fun hc436 => ?_) (fun hc436 => ?_)
  ·
   rw [if_pos hc436] at hm
   refine c_seq ?_
   refine c_region ?_
   refine t_st rfl (st_assign rfl) ?_
   refine t_nil ?_
   refine x_then_normal ?_
   refine c_ret ?_
   refine x_then_ret ?_
   obtain rfl := some1 hm
   refine x_pullb 4 rfl ?_
   refine x_pullb 4 rfl ?_
   refine x_pullb 4 rfl ?_
   refine x_pullb 4 rfl ?_
   refine x_pullb 4 rfl ?_
   refine x_front3 [_, _, _, _, _] hs2 hs7 hs12 R rfl ?_
   refine x_front3 [_, _, _, _, _] hs12 hs2 hs7 R rfl ?_
   refine x_front3 [_, _, _, _, _] hs7 hs12 hs2 R rfl ?_
   exact retM (rs := [.tmp 6]) [.bool (false)] (Base.Le.refl _) (by decide) rfl ⟨rfl, trivial⟩ rfl (hp' := (g16, Cl 30 [.slice A3 (l37).length c4]) :: (g17, Cl 24 [.int .i64 (x24), .int .i64 (x25), .slice A26 (l29).length c27]) :: (g18, Cl 56 [.pointer (some ⟨g20, 0, none⟩)]) :: (g19, Cl 3 [.int .i64 (x30)]) :: (g20, Cl 63 [.int .i64 (x31), .int .i64 (x32), .slice A33 (l36).length c34, .func (.func 38) #[] #[.pointer (some ⟨g17, 0, none⟩), .pointer (some ⟨g16, 0, none⟩), .pointer (some ⟨g19, 0, none⟩)], .func (.func 37) #[] #[.pointer (some ⟨g16, 0, none⟩), .pointer (some ⟨g17, 0, none⟩), .pointer (some ⟨g18, 0, none⟩), .pointer (some ⟨g19, 0, none⟩)], .slice A8 (l39).length c9, .slice A13 (l40).length c14]) :: (hs2 ++ (hs7 ++ (hs12 ++ R)))) (.cons_cons _ (.cons_cons _ (.cons_cons _ (.cons_cons _ (.cons_cons _ (sub_app hs2 (sub_app hs7 (sub_app hs12 (.refl _))))))))) ⟨rfl, rfl⟩
  ·
   rw [if_neg (fun hh => Bool.noConfusion (hh.symm.trans hc436))] at hm
   refine c_skip ?_
   refine x_then_normal ?_
   refine c_seq ?_
   refine c_region ?_
   refine t_st rfl (st_assign rfl) ?_
   refine t_nil ?_
   refine x_then_normal ?_
   refine c_seq ?_
   refine c_seq ?_
   refine c_region ?_
   refine t_st rfl (st_field rfl fld24_2) ?_
   refine t_st rfl (st_load 1 rfl one22 rfl rfl) ?_
   refine t_st rfl (st_len rfl sl22) ?_
   refine t_st rfl (st_move rfl) ?_
   refine t_nil ?_
   refine x_then_normal ?_
   refine c_block ?_
   have hb438 : l29.length ≤ 9223372036854775807 := (FZ.bd h28)
   refine c_pullb 4 rfl ?_
   refine c_pullb 1 rfl ?_
   refine c_pullb 4 rfl ?_
   refine c_pullb 4 rfl ?_
   refine c_pullb 4 rfl ?_
   refine c_front3 [_, _, _, _, _] hs2 hs7 hs12 R rfl ?_
   refine c_front3 [_, _, _, _, _] hs12 hs2 hs7 R rfl ?_
   refine c_front3 [_, _, _, _, _] hs7 hs12 hs2 R rfl ?_
   obtain ⟨⟨q697, x700⟩, hl702, hk703⟩ := bindS hm
   refine c_forS (fun k701 => unc2 fun q697 x700 => fun b695 e' hp' => ∃ (v698 : Value), [(0, v698), (2, .pointer (some ⟨g17, 0, none⟩)), (3, .pointer (some ⟨g18, 0, none⟩)), (4, .pointer (some ⟨g19, 0, none⟩)), (7, .int .i64 (x700)), (13, .slice A26 (l29).length c27), (14, .int .i64 ((l29.length : Int))), (15, .int .i64 ((k701 : Int)))] = e' ∧ (g17, Cl 24 [.int .i64 (x24), .int .i64 (x25), .slice A26 (l29).length c27]) :: (g18, Cl 56 [.pointer (some ⟨g20, 0, none⟩)]) :: (g19, Cl 3 [.int .i64 (x30)]) :: (g16, Cl 30 [.slice A3 (l37).length c4]) :: (g20, Cl 63 [.int .i64 (x31), .int .i64 (x32), .slice A33 (l36).length c34, .func (.func 38) #[] #[.pointer (some ⟨g17, 0, none⟩), .pointer (some ⟨g16, 0, none⟩), .pointer (some ⟨g19, 0, none⟩)], .func (.func 37) #[] #[.pointer (some ⟨g16, 0, none⟩), .pointer (some ⟨g17, 0, none⟩), .pointer (some ⟨g18, 0, none⟩), .pointer (some ⟨g19, 0, none⟩)], .slice A8 (l39).length c9, .slice A13 (l40).length c14]) :: (hs2 ++ (hs7 ++ (hs12 ++ R))) = hp' ∧ b.Le b695 ∧ (RT.ptr (RT.arr 8 (RT.arr 8 (RT.int .i64)))).rep b695.w [v698] q697) hl702 (e' := [(0, v22), (2, .pointer (some ⟨g17, 0, none⟩)), (3, .pointer (some ⟨g18, 0, none⟩)), (4, .pointer (some ⟨g19, 0, none⟩)), (7, .int .i64 (0)), (13, .slice A26 (l29).length c27), (14, .int .i64 ((l29.length : Int))), (15, .int .i64 0)]) (hp' := (g17, Cl 24 [.int .i64 (x24), .int .i64 (x25), .slice A26 (l29).length c27]) :: (g18, Cl 56 [.pointer (some ⟨g20, 0, none⟩)]) :: (g19, Cl 3 [.int .i64 (x30)]) :: (g16, Cl 30 [.slice A3 (l37).length c4]) :: (g20, Cl 63 [.int .i64 (x31), .int .i64 (x32), .slice A33 (l36).length c34, .func (.func 38) #[] #[.pointer (some ⟨g17, 0, none⟩), .pointer (some ⟨g16, 0, none⟩), .pointer (some ⟨g19, 0, none⟩)], .func (.func 37) #[] #[.pointer (some ⟨g16, 0, none⟩), .pointer (some ⟨g17, 0, none⟩), .pointer (some ⟨g18, 0, none⟩), .pointer (some ⟨g19, 0, none⟩)], .slice A8 (l39).length c9, .slice A13 (l40).length c14]) :: (hs2 ++ (hs7 ++ (hs12 ++ R)))) ⟨rfl, rfl, rfl, rfl, rfl, rfl, rfl, rfl, trivial⟩ (.cons_cons _ (.cons_cons _ (.cons_cons _ (.cons_cons _ (.cons_cons _ (sub_app hs2 (sub_app hs7 (sub_app hs12 (.refl _))))))))) ⟨v22, rfl, rfl, (Base.Le.refl _), h23⟩ ?_ ?_
   ·
    rintro k701 ⟨q697, x700⟩ b695 _ _ oL437 hknL437 ⟨v698, rfl, rfl, hle696, h699⟩ hstepL437
    unfold mPlanBest_1_L437 at hstepL437
    have hm := (unc2E hstepL437)
    refine c_seq ?_
    refine c_region ?_
    refine t_st rfl (st_lss_t rfl rfl (by omega)) ?_
    refine t_nil ?_
    refine x_then_normal ?_
    refine c_seq ?_
    refine c_cond_t rfl ?_
    refine c_skip ?_
    refine x_then_normal ?_
    refine c_seq ?_
    refine c_block ?_
    refine c_seq ?_
    refine c_region ?_
    refine t_st rfl (st_move rfl) ?_
    obtain ⟨x704, h705, hm⟩ := bindS hm
    obtain ⟨j706, hj707, hx708⟩ := idx_some h705
    obtain ⟨cs709, hr710, hcs711, hA712, hlt713⟩ := FZ.get (sz := 5) rfl (by decide) (h28.le hle696) hx708
    obtain ⟨_, _, rfl, rfl, ⟨_, _, rfl, rfl, ⟨_, _, rfl, rfl, ⟨_, _, rfl, rfl, rfl⟩⟩⟩⟩ := hr710
    refine t_st rfl (st_index_old j706 rfl rfl hj707 hlt713 hA712 sl22) ?_
    refine t_st rfl (st_loadN_old (vs := [.int .i64 (x704.From), .int .i64 (x704.To), .int .i64 (x704.Min), .int .i64 (x704.Max), .int .i64 (x704.Weight)]) 5 rfl agg29 hA712 rfl (fun j u hu => hcs711 j u hu)) ?_
    refine t_do rfl (u_alloc [.int .i64 0, .int .i64 0, .int .i64 0, .int .i64 0, .int .i64 0] zero29 rfl) ?_
    rintro _ _ ⟨g714, rfl, rfl⟩
    refine t_st rfl (st_assign rfl) ?_
    refine t_do rfl (u_storeN (vs := [_, _, _, _, _]) 0 5 rfl rfl rfl siz29 rfl (by intro u hu; simp only [List.mem_cons, List.not_mem_nil, or_false] at hu; rcases hu with rfl | rfl | rfl | rfl | rfl <;> rfl) rfl (by simp)) ?_
    rintro _ _ rfl
    refine t_nil ?_
    refine x_then_normal ?_
    refine c_seq ?_
    refine c_region ?_
    refine t_st rfl (st_load 2 rfl one56 rfl rfl) ?_
    refine t_st rfl (st_nil rfl) ?_
    refine t_st rfl (st_field rfl fld63_4) ?_
    refine t_st rfl (st_load 5 rfl one61 rfl rfl) ?_
    refine t_st rfl (st_move rfl) ?_
    obtain ⟨x715, h716, hm⟩ := bindS hm
    obtain ⟨j717, hj718, hx719⟩ := idx_some h716
    obtain ⟨cs720, hs725, P726, P727, hq728, hr721, hcs722, hA723, hlt724, hb729, hho730⟩ := OS.get (sz := 1) rfl (by decide) (h15.le hle696) hx719
    obtain ⟨rfl, rfl⟩ := hr721
    refine t_st rfl (st_index_old j717 rfl rfl hj718 hlt724 hA723 sl61) ?_
    refine t_st rfl (st_load_rd rfl one4 (fun w ho => hcs722 w _ ho (.cons _ (.cons _ (.cons _ (.cons _ (.cons _ (.cons _ (sub_skip hs2 (sub_skip hs7 (List.sublist_append_left _ _))))))))) 0 _ rfl)) ?_
    refine t_st rfl (st_not rfl) ?_
    refine t_nil ?_
    refine x_then_normal ?_
    refine c_cond _ rfl (fun hc731 => ?_) (fun hc731 => ?_)
    ·
     rw [if_neg (fun hh => Bool.noConfusion (hh.symm.trans (notT hc731)))] at hm
     obtain ⟨y781, h782, hm⟩ := bindS hm
     obtain ⟨x788, h789, hm⟩ := bindS hm
     obtain ⟨x798, h799, hm⟩ := bindS hm
     obtain ⟨_, h808, hm⟩ := bindS hm
     obtain ⟨x809, h810, hm⟩ := bindS hm
     obtain ⟨_, h825, hm⟩ := bindS hm
     obtain ⟨_, h826, hm⟩ := bindS hm
     obtain ⟨_, h827, hm⟩ := bindS hm
     obtain ⟨_, h828, hm⟩ := bindS hm
     obtain ⟨_, h829, hm⟩ := bindS hm
     refine D_drawS ((g714, Cl 29 [.int .i64 (x704.From), .int .i64 (x704.To), .int .i64 (x704.Min), .int .i64 (x704.Max), .int .i64 (x704.Weight)]) :: (g17, Cl 24 [.int .i64 (x24), .int .i64 (x25), .slice A26 (l29).length c27]) :: (g18, Cl 56 [.pointer (some ⟨g20, 0, none⟩)]) :: (g19, Cl 3 [.int .i64 (x30)]) :: (g16, Cl 30 [.slice A3 (l37).length c4]) :: (g20, Cl 63 [.int .i64 (x31), .int .i64 (x32), .slice A33 (l36).length c34, .func (.func 38) #[] #[.pointer (some ⟨g17, 0, none⟩), .pointer (some ⟨g16, 0, none⟩), .pointer (some ⟨g19, 0, none⟩)], .func (.func 37) #[] #[.pointer (some ⟨g16, 0, none⟩), .pointer (some ⟨g17, 0, none⟩), .pointer (some ⟨g18, 0, none⟩), .pointer (some ⟨g19, 0, none⟩)], .slice A8 (l39).length c9, .slice A13 (l40).length c14]) :: (hs2 ++ (hs7 ++ (hs12 ++ R)))) mixed ?_
     refine E_in (.cons_cons _ (.cons_cons _ (.cons_cons _ (.cons_cons _ (.cons_cons _ (.cons_cons _ (sub_app hs2 (sub_app hs7 (sub_app hs12 (.refl _)))))))))) ?_
     refine E_st 0 rfl (st_move rfl) ?_
     refine E_st 1 rfl (st_field rfl fld29_4) ?_
     refine E_st 2 rfl (st_load 0 rfl one3 rfl rfl) ?_
     refine E_st 3 rfl (st_move rfl) ?_
     refine E_st 4 rfl (st_field rfl fld29_1) ?_
     refine E_st 5 rfl (st_load 0 rfl one3 rfl rfl) ?_
     refine E_st 6 rfl (st_field rfl fld29_0) ?_
     refine E_st 7 rfl (st_load 0 rfl one3 rfl rfl) ?_
     have h787 := h699
     rw [h782] at h787
     obtain ⟨a783, cs784, rfl, hr785, hcs786⟩ := ptr_open h787
     refine E_st 8 rfl (st_nil_at rfl) ?_
     obtain ⟨j790, hj791, hx792⟩ := idx_some h789
     obtain ⟨cs793, hr794, hcs795, hlt796⟩ := arr_in (sz := 8) rfl hr785 hx792
     have hcs797 := at_in (p := a783) (q := 0) (o := j790 * 8) (at_zero hcs786) hcs795
     refine E_st 9 rfl (st_index_at j790 rfl rfl hj791 hlt796 arr76) ?_
     obtain ⟨j800, hj801, hx802⟩ := idx_some h799
     obtain ⟨cs803, hr804, hcs805, hlt806⟩ := arr_in (sz := 1) rfl hr794 hx802
     obtain rfl := hr804
     have hcs807 := at_in (p := a783) (q := 0 + j790 * 8) (o := j800 * 1) hcs797 hcs805
     refine E_st 10 rfl (st_index_at j800 rfl rfl hj801 hlt806 arr64) ?_
     refine E_st 11 rfl (st_load_at rfl one3 (hcs807 0 _ rfl)) ?_
     have h808 := (chk_some h808).2
     refine E_st 12 rfl (st_negc rfl h808) ?_
     refine E_st 13 rfl (st_load 2 rfl one56 rfl rfl) ?_
     refine E_st 14 rfl (st_nil rfl) ?_
     refine E_st 15 rfl (st_field rfl fld63_3) ?_
     refine E_st 16 rfl (st_load 5 rfl one30 rfl rfl) ?_
     refine E_st 17 rfl (st_move rfl) ?_
     obtain ⟨j811, hj812, hx813⟩ := idx_some h810
     obtain ⟨cs814, hs819, P820, P821, hq822, hr815, hcs816, hA817, hlt818, hb823, hho824⟩ := OS.get (sz := 1) rfl (by decide) (h10.le hle696) hx813
     obtain ⟨rfl, rfl⟩ := hr815
     refine E_st 18 rfl (st_index_old j811 rfl rfl hj812 hlt818 hA817 sl30) ?_
     refine E_st 19 rfl (st_load_rd rfl one3 (fun w ho => hcs816 w _ ho (.cons _ (.cons _ (.cons _ (.cons _ (.cons _ (.cons _ (sub_skip hs2 (List.sublist_append_left _ _)))))))) 0 _ rfl)) ?_
     refine E_st 20 rfl (st_field rfl fld24_0) ?_
     refine E_st 21 rfl (st_load 1 rfl one3 rfl rfl) ?_
     have h825 := (chk_some h825).2
     refine E_st 22 rfl (st_mul rfl rfl h825) ?_
     have h826 := (chk_some h826).2
     refine E_st 23 rfl (st_add rfl rfl h826) ?_
     refine E_st 24 rfl (st_field rfl fld29_2) ?_
     refine E_st 25 rfl (st_load 0 rfl one3 rfl rfl) ?_
     have h827 := (chk_some h827).2
     refine E_st 26 rfl (st_sub rfl rfl h827) ?_
     refine E_st 27 rfl (st_max rfl rfl) ?_
     have h828 := (chk_some h828).2
     refine E_st 28 rfl (st_mul rfl rfl h828) ?_
     have h829 := (chk_some h829).2
     refine E_st 29 rfl (st_add rfl rfl h829) ?_
     refine E_st 30 rfl (st_assign rfl) ?_
     refine E_out ?_
     refine D_done (by kernel_rfl) ?_
     refine x_block_normal ?_
     refine x_then_normal ?_
     refine c_region ?_
     refine t_st rfl (st_add rfl rfl (by omega)) ?_
     refine t_st rfl (st_move rfl) ?_
     refine t_nil ?_
     refine x_pullb 5 rfl ?_
     refine x_pullb 5 rfl ?_
     refine x_pullb 5 rfl ?_
     refine x_pullb 5 rfl ?_
     refine x_pullb 5 rfl ?_
     refine x_front3 [_, _, _, _, _, _] hs2 hs7 hs12 R rfl ?_
     refine x_front3 [_, _, _, _, _, _] hs12 hs2 hs7 R rfl ?_
     refine x_front3 [_, _, _, _, _, _] hs7 hs12 hs2 R rfl ?_
     obtain rfl := some1 hm
     exact x_againS (e' := [(0, .pointer (some a783)), (2, .pointer (some ⟨g17, 0, none⟩)), (3, .pointer (some ⟨g18, 0, none⟩)), (4, .pointer (some ⟨g19, 0, none⟩)), (7, .int .i64 (x700 + (x704.Weight * (max 0 (((-x798) + (x809 * x24)) - x704.Min))))), (13, .slice A26 (l29).length c27), (14, .int .i64 ((l29.length : Int))), (15, .int .i64 ((k701 : Int) + 1))]) (hp' := (g17, Cl 24 [.int .i64 (x24), .int .i64 (x25), .slice A26 (l29).length c27]) :: (g18, Cl 56 [.pointer (some ⟨g20, 0, none⟩)]) :: (g19, Cl 3 [.int .i64 (x30)]) :: (g16, Cl 30 [.slice A3 (l37).length c4]) :: (g20, Cl 63 [.int .i64 (x31), .int .i64 (x32), .slice A33 (l36).length c34, .func (.func 38) #[] #[.pointer (some ⟨g17, 0, none⟩), .pointer (some ⟨g16, 0, none⟩), .pointer (some ⟨g19, 0, none⟩)], .func (.func 37) #[] #[.pointer (some ⟨g16, 0, none⟩), .pointer (some ⟨g17, 0, none⟩), .pointer (some ⟨g18, 0, none⟩), .pointer (some ⟨g19, 0, none⟩)], .slice A8 (l39).length c9, .slice A13 (l40).length c14]) :: (hs2 ++ (hs7 ++ (hs12 ++ R)))) ⟨rfl, rfl, rfl, rfl, rfl, rfl, rfl, rfl, trivial⟩ (.cons_cons _ (.cons_cons _ (.cons_cons _ (.cons_cons _ (.cons_cons _ (.cons _ (sub_app hs2 (sub_app hs7 (sub_app hs12 (.refl _)))))))))) ⟨(.pointer (some a783)), rfl, rfl, (hle696), ⟨_, cs784, rfl, hr785, hcs786⟩⟩
    ·
     rw [if_pos (notF hc731)] at hm
     refine c_skip ?_
     refine x_block_normal ?_
     refine x_then_normal ?_
     refine c_region ?_
     refine t_st rfl (st_add rfl rfl (by omega)) ?_
     refine t_st rfl (st_move rfl) ?_
     refine t_nil ?_
     refine x_pullb 5 rfl ?_
     refine x_pullb 5 rfl ?_
     refine x_pullb 5 rfl ?_
     refine x_pullb 5 rfl ?_
     refine x_pullb 5 rfl ?_
     refine x_front3 [_, _, _, _, _, _] hs2 hs7 hs12 R rfl ?_
     refine x_front3 [_, _, _, _, _, _] hs12 hs2 hs7 R rfl ?_
     refine x_front3 [_, _, _, _, _, _] hs7 hs12 hs2 R rfl ?_
     obtain rfl := some1 hm
     exact x_againS (e' := [(0, v698), (2, .pointer (some ⟨g17, 0, none⟩)), (3, .pointer (some ⟨g18, 0, none⟩)), (4, .pointer (some ⟨g19, 0, none⟩)), (7, .int .i64 (x700)), (13, .slice A26 (l29).length c27), (14, .int .i64 ((l29.length : Int))), (15, .int .i64 ((k701 : Int) + 1))]) (hp' := (g17, Cl 24 [.int .i64 (x24), .int .i64 (x25), .slice A26 (l29).length c27]) :: (g18, Cl 56 [.pointer (some ⟨g20, 0, none⟩)]) :: (g19, Cl 3 [.int .i64 (x30)]) :: (g16, Cl 30 [.slice A3 (l37).length c4]) :: (g20, Cl 63 [.int .i64 (x31), .int .i64 (x32), .slice A33 (l36).length c34, .func (.func 38) #[] #[.pointer (some ⟨g17, 0, none⟩), .pointer (some ⟨g16, 0, none⟩), .pointer (some ⟨g19, 0, none⟩)], .func (.func 37) #[] #[.pointer (some ⟨g16, 0, none⟩), .pointer (some ⟨g17, 0, none⟩), .pointer (some ⟨g18, 0, none⟩), .pointer (some ⟨g19, 0, none⟩)], .slice A8 (l39).length c9, .slice A13 (l40).length c14]) :: (hs2 ++ (hs7 ++ (hs12 ++ R)))) ⟨rfl, rfl, rfl, rfl, rfl, rfl, rfl, rfl, trivial⟩ (.cons_cons _ (.cons_cons _ (.cons_cons _ (.cons_cons _ (.cons_cons _ (.cons _ (sub_app hs2 (sub_app hs7 (sub_app hs12 (.refl _)))))))))) ⟨v698, rfl, rfl, (hle696), h699⟩
   ·
    rintro b695 _ _ ⟨v698, rfl, rfl, hle696, h699⟩
    have hm := (unc2E hk703)
    refine c_seq ?_
    refine c_region ?_
    refine t_st rfl (st_lss_f rfl rfl (by omega)) ?_
    refine t_nil ?_
    refine x_then_normal ?_
    refine c_seq ?_
    refine c_cond_f rfl ?_
    refine c_exit ?_
    refine x_then_exit ?_
    refine x_then_exit ?_
    refine x_block_out ?_
    refine x_then_normal ?_
    refine c_seq ?_
    refine c_region ?_
    refine t_st rfl (st_move rfl) ?_
    refine t_st rfl (st_load 2 rfl one3 rfl rfl) ?_
    refine t_st rfl (st_gtr rfl rfl) ?_
    refine t_st rfl (st_assign rfl) ?_
    refine t_nil ?_
    refine x_then_normal ?_
    refine c_ret ?_
    obtain rfl := some1 hm
    refine x_pullb 4 rfl ?_
    refine x_pullb 3 rfl ?_
    refine x_pullb 3 rfl ?_
    refine x_pullb 3 rfl ?_
    refine x_pullb 4 rfl ?_
    refine x_front3 [_, _, _, _, _] hs2 hs7 hs12 R rfl ?_
    refine x_front3 [_, _, _, _, _] hs12 hs2 hs7 R rfl ?_
    refine x_front3 [_, _, _, _, _] hs7 hs12 hs2 R rfl ?_
    exact retM (rs := [.tmp 6]) [.bool (decide (x30 < x700))] hle696 (by decide) rfl ⟨rfl, trivial⟩ rfl (hp' := (g16, Cl 30 [.slice A3 (l37).length c4]) :: (g17, Cl 24 [.int .i64 (x24), .int .i64 (x25), .slice A26 (l29).length c27]) :: (g18, Cl 56 [.pointer (some ⟨g20, 0, none⟩)]) :: (g19, Cl 3 [.int .i64 (x30)]) :: (g20, Cl 63 [.int .i64 (x31), .int .i64 (x32), .slice A33 (l36).length c34, .func (.func 38) #[] #[.pointer (some ⟨g17, 0, none⟩), .pointer (some ⟨g16, 0, none⟩), .pointer (some ⟨g19, 0, none⟩)], .func (.func 37) #[] #[.pointer (some ⟨g16, 0, none⟩), .pointer (some ⟨g17, 0, none⟩), .pointer (some ⟨g18, 0, none⟩), .pointer (some ⟨g19, 0, none⟩)], .slice A8 (l39).length c9, .slice A13 (l40).length c14]) :: (hs2 ++ (hs7 ++ (hs12 ++ R)))) (.cons_cons _ (.cons_cons _ (.cons_cons _ (.cons_cons _ (.cons_cons _ (sub_app hs2 (sub_app hs7 (sub_app hs12 (.refl _))))))))) ⟨rfl, rfl⟩

set_option maxRecDepth 20000 in
theorem cPlanSearchChoices_2 (b : Base) (R : Hp) (q21 : (Option (List (List Int)))) (s24 : PlanRule) (x25 : Int) (x26 : Int) (l30 : (List PlanRule)) (x31 : Int) (x32 : Int) (l36 : (List PlanRule)) (x37 : Int) (l38 : (List Int)) (l39 : (List Bool)) (l40 : (List Int)) (g16 : Nat) (g17 : Nat) (g18 : Nat) (g19 : Nat) (g20 : Nat) (v22 : Value) (A27 : Option Addr) (c28 : Nat) (A33 : Option Addr) (c34 : Nat) (A3 : Option Addr) (c4 : Nat) (hs2 : Hp) (A8 : Option Addr) (c9 : Nat) (hs7 : Hp) (A13 : Option Addr) (c14 : Nat) (hs12 : Hp) (h23 : (RT.ptr (RT.arr 8 (RT.arr 8 (RT.int .i64)))).rep b.w [v22] q21) (h29 : FZ rPlanRule b.w A27 c28 l30) (h35 : FZ rPlanRule b.w A33 c34 l36) (h5 : OS 3 (OT.fr (RT.int .i64)) b.w (.slice A3 l38.length c4) l38 hs2) (h10 : OS 4 (OT.fr RT.bool) b.w (.slice A8 l39.length c9) l39 hs7) (h15 : OS 3 (OT.fr (RT.int .i64)) b.w (.slice A13 l40.length c14) l40 hs12) (hnz41 : (A13 = none ↔ l40 = [])) (l479 : (List Int)) (hm : mPlanSearchChoices_2 q21 s24 x25 x26 l30 x31 x32 l36 x37 l38 l39 l40 = some l479) :
    CallsG Try.prog 52 [.pointer (some ⟨g16, 0, none⟩), v22, .agg #[.int .i64 (s24.From), .int .i64 (s24.To), .int .i64 (s24.Min), .int .i64 (s24.Max), .int .i64 (s24.Weight)]] b ((g16, Cl 63 [.int .i64 (x25), .int .i64 (x26), .slice A27 (l30).length c28, .func (.func 38) #[] #[.pointer (some ⟨g17, 0, none⟩), .pointer (some ⟨g18, 0, none⟩), .pointer (some ⟨g19, 0, none⟩)], .func (.func 37) #[] #[.pointer (some ⟨g18, 0, none⟩), .pointer (some ⟨g17, 0, none⟩), .pointer (some ⟨g20, 0, none⟩), .pointer (some ⟨g19, 0, none⟩)], .slice A3 (l38).length c4, .slice A8 (l39).length c9]) :: (g17, Cl 24 [.int .i64 (x31), .int .i64 (x32), .slice A33 (l36).length c34]) :: (g18, Cl 30 [.slice A13 (l40).length c14]) :: (g19, Cl 3 [.int .i64 (x37)]) :: (g20, Cl 56 [.pointer (some ⟨g16, 0, none⟩)]) :: (hs2 ++ (hs7 ++ (hs12 ++ R)))) (fun v b' hp' => ∃ (A476 : Option Addr), ∃ (c477 : Nat), ∃ (hs475 : Hp), .slice A476 (l479).length c477 = v ∧ (g16, Cl 63 [.int .i64 (x25), .int .i64 (x26), .slice A27 (l30).length c28, .func (.func 38) #[] #[.pointer (some ⟨g17, 0, none⟩), .pointer (some ⟨g18, 0, none⟩), .pointer (some ⟨g19, 0, none⟩)], .func (.func 37) #[] #[.pointer (some ⟨g18, 0, none⟩), .pointer (some ⟨g17, 0, none⟩), .pointer (some ⟨g20, 0, none⟩), .pointer (some ⟨g19, 0, none⟩)], .slice A3 (l38).length c4, .slice A8 (l39).length c9]) :: (g17, Cl 24 [.int .i64 (x31), .int .i64 (x32), .slice A33 (l36).length c34]) :: (g18, Cl 30 [.slice A13 (l40).length c14]) :: (g19, Cl 3 [.int .i64 (x37)]) :: (g20, Cl 56 [.pointer (some ⟨g16, 0, none⟩)]) :: (hs475 ++ (hs2 ++ (hs7 ++ (hs12 ++ R)))) = hp' ∧ OS 3 (OT.fr (RT.int .i64)) b'.w (.slice A476 l479.length c477) l479 hs475) := by
  refine fn_enterG 58 Try.func52 rfl Try.ntmps52 rfl ?_
  unfold mPlanSearchChoices_2 at hm
  refine c_seq ?_
  refine c_region ?_
  refine t_do rfl (u_box _ rfl rfl) ?_
  rintro _ _ ⟨g480, rfl, rfl⟩
  refine t_st rfl (st_assign rfl) ?_
  refine t_nil ?_
  refine x_then_normal ?_
  refine c_seq ?_
  refine c_region ?_
  refine t_st rfl (st_assign rfl) ?_
  refine t_nil ?_
  refine x_then_normal ?_
  refine c_seq ?_
  obtain ⟨y512, h513, hm⟩ := bindS hm
  obtain ⟨x519, h520, hm⟩ := bindS hm
  obtain ⟨x529, h530, hm⟩ := bindS hm
  obtain ⟨_, h539, hm⟩ := bindS hm
  obtain ⟨x540, hcl541, hm⟩ := bindS hm
  obtain ⟨_, h542, hm⟩ := bindS hm
  refine D_drawS ((g480, Cl 29 [.int .i64 (s24.From), .int .i64 (s24.To), .int .i64 (s24.Min), .int .i64 (s24.Max), .int .i64 (s24.Weight)]) :: (g16, Cl 63 [.int .i64 (x25), .int .i64 (x26), .slice A27 (l30).length c28, .func (.func 38) #[] #[.pointer (some ⟨g17, 0, none⟩), .pointer (some ⟨g18, 0, none⟩), .pointer (some ⟨g19, 0, none⟩)], .func (.func 37) #[] #[.pointer (some ⟨g18, 0, none⟩), .pointer (some ⟨g17, 0, none⟩), .pointer (some ⟨g20, 0, none⟩), .pointer (some ⟨g19, 0, none⟩)], .slice A3 (l38).length c4, .slice A8 (l39).length c9]) :: (g17, Cl 24 [.int .i64 (x31), .int .i64 (x32), .slice A33 (l36).length c34]) :: (g18, Cl 30 [.slice A13 (l40).length c14]) :: (g19, Cl 3 [.int .i64 (x37)]) :: (g20, Cl 56 [.pointer (some ⟨g16, 0, none⟩)]) :: (hs2 ++ (hs7 ++ (hs12 ++ R)))) mixed ?_
  refine E_in (.cons_cons _ (.cons_cons _ (.cons_cons _ (.cons_cons _ (.cons_cons _ (.cons_cons _ (sub_app hs2 (sub_app hs7 (sub_app hs12 (.refl _)))))))))) ?_
  refine E_st 0 rfl (st_move rfl) ?_
  refine E_st 1 rfl (st_field rfl fld29_0) ?_
  refine E_st 2 rfl (st_load 0 rfl one3 rfl rfl) ?_
  refine E_st 3 rfl (st_field rfl fld29_1) ?_
  refine E_st 4 rfl (st_load 0 rfl one3 rfl rfl) ?_
  have h518 := h23
  rw [h513] at h518
  obtain ⟨a514, cs515, rfl, hr516, hcs517⟩ := ptr_open h518
  refine E_st 5 rfl (st_nil_at rfl) ?_
  obtain ⟨j521, hj522, hx523⟩ := idx_some h520
  obtain ⟨cs524, hr525, hcs526, hlt527⟩ := arr_in (sz := 8) rfl hr516 hx523
  have hcs528 := at_in (p := a514) (q := 0) (o := j521 * 8) (at_zero hcs517) hcs526
  refine E_st 6 rfl (st_index_at j521 rfl rfl hj522 hlt527 arr76) ?_
  obtain ⟨j531, hj532, hx533⟩ := idx_some h530
  obtain ⟨cs534, hr535, hcs536, hlt537⟩ := arr_in (sz := 1) rfl hr525 hx533
  obtain rfl := hr535
  have hcs538 := at_in (p := a514) (q := 0 + j521 * 8) (o := j531 * 1) hcs528 hcs536
  refine E_st 7 rfl (st_index_at j531 rfl rfl hj532 hlt537 arr64) ?_
  refine E_st 8 rfl (st_load_at rfl one3 (hcs538 0 _ rfl)) ?_
  refine E_st 9 rfl (st_field rfl fld29_2) ?_
  refine E_st 10 rfl (st_load 0 rfl one3 rfl rfl) ?_
  have h539 := (chk_some h539).2
  refine E_st 11 rfl (st_sub rfl rfl h539) ?_
  refine E_st 12 rfl (st_move rfl) ?_
  refine E_st 13 rfl (st_nil rfl) ?_
  refine E_st 14 rfl (st_field rfl fld63_0) ?_
  refine E_st 15 rfl (st_field rfl fld24_0) ?_
  refine E_st 16 rfl (st_load 1 rfl one3 rfl rfl) ?_
  refine E_out ?_
  refine D_all [17] (by kernel_rfl) rfl ?_
  refine R_do (Base.Le.refl _) rfl rfl (u_callW0 _ call55 rfl (fun w ho => cPlanFloor _ [] (x529 - s24.Min) x25 x540 hcl541) (fun _ _ _ h => h.2.symm)) ?_ ?_
  ·
   rintro _ _ ⟨⟨_, rfl, _⟩, rfl⟩
   refine ⟨.inr (.cons_cons _ (.cons_cons _ (.cons_cons _ (.cons_cons _ (.cons_cons _ (.cons_cons _ (sub_app hs2 (sub_app hs7 (sub_app hs12 (.refl _)))))))))), ?_⟩
   have h542 := (chk_some h542).2
   refine E_in (.cons_cons _ (.cons_cons _ (.cons_cons _ (.cons_cons _ (.cons_cons _ (.cons_cons _ (sub_app hs2 (sub_app hs7 (sub_app hs12 (.refl _)))))))))) ?_
   refine E_st 18 rfl (st_negc rfl h542) ?_
   refine E_st 19 rfl (st_assign rfl) ?_
   refine E_out ?_
   refine D_done (by kernel_rfl) ?_
   refine x_then_normal ?_
   obtain ⟨l730, hj731, hk731⟩ := bindS hm
   refine c_join (fun b723 e' hp' => ∃ (A727 : Option Addr), ∃ (c728 : Nat), ∃ (hs726 : Hp), [(7, .slice A727 (l730).length c728)] = e' ∧ (g16, Cl 63 [.int .i64 (x25), .int .i64 (x26), .slice A27 (l30).length c28, .func (.func 38) #[] #[.pointer (some ⟨g17, 0, none⟩), .pointer (some ⟨g18, 0, none⟩), .pointer (some ⟨g19, 0, none⟩)], .func (.func 37) #[] #[.pointer (some ⟨g18, 0, none⟩), .pointer (some ⟨g17, 0, none⟩), .pointer (some ⟨g20, 0, none⟩), .pointer (some ⟨g19, 0, none⟩)], .slice A3 (l38).length c4, .slice A8 (l39).length c9]) :: (g17, Cl 24 [.int .i64 (x31), .int .i64 (x32), .slice A33 (l36).length c34]) :: (g18, Cl 30 [.slice A13 (l40).length c14]) :: (g19, Cl 3 [.int .i64 (x37)]) :: (g20, Cl 56 [.pointer (some ⟨g16, 0, none⟩)]) :: (hs726 ++ (hs2 ++ (hs7 ++ (hs12 ++ R)))) = hp' ∧ b.Le b723 ∧ OS 3 (OT.fr (RT.int .i64)) b723.w (.slice A727 l730.length c728) l730 hs726) ?_ ?_
   ·
    have hm := hj731
    refine c_seq ?_
    refine c_region ?_
    refine t_st rfl (st_move rfl) ?_
    refine t_st rfl (st_assign rfl) ?_
    refine t_nil ?_
    refine x_then_normal ?_
    refine c_block ?_
    refine c_pullb 5 rfl ?_
    refine c_pullb 5 rfl ?_
    refine c_pullb 5 rfl ?_
    refine c_pullb 5 rfl ?_
    refine c_pullb 4 rfl ?_
    refine c_pullb 5 rfl ?_
    refine c_front3 [_, _, _, _, _, _] hs2 hs7 hs12 R rfl ?_
    refine c_front3 [_, _, _, _, _, _] hs12 hs2 hs7 R rfl ?_
    refine c_front3 [_, _, _, _, _, _] hs7 hs12 hs2 R rfl ?_
    refine c_loopM (unc2 fun x856 l857 => fun b849 e' hp' => ∃ (A853 : Option Addr), ∃ (c854 : Nat), ∃ (hs852 : Hp), [(0, .pointer (some ⟨g16, 0, none⟩)), (1, .pointer (some a514)), (5, .pointer (some ⟨g480, 0, none⟩)), (7, .slice A853 (l857).length c854), (9, .int .i64 (x856))] = e' ∧ (g16, Cl 63 [.int .i64 (x25), .int .i64 (x26), .slice A27 (l30).length c28, .func (.func 38) #[] #[.pointer (some ⟨g17, 0, none⟩), .pointer (some ⟨g18, 0, none⟩), .pointer (some ⟨g19, 0, none⟩)], .func (.func 37) #[] #[.pointer (some ⟨g18, 0, none⟩), .pointer (some ⟨g17, 0, none⟩), .pointer (some ⟨g20, 0, none⟩), .pointer (some ⟨g19, 0, none⟩)], .slice A3 (l38).length c4, .slice A8 (l39).length c9]) :: (g480, Cl 29 [.int .i64 (s24.From), .int .i64 (s24.To), .int .i64 (s24.Min), .int .i64 (s24.Max), .int .i64 (s24.Weight)]) :: (g17, Cl 24 [.int .i64 (x31), .int .i64 (x32), .slice A33 (l36).length c34]) :: (g18, Cl 30 [.slice A13 (l40).length c14]) :: (g19, Cl 3 [.int .i64 (x37)]) :: (g20, Cl 56 [.pointer (some ⟨g16, 0, none⟩)]) :: (hs852 ++ (hs2 ++ (hs7 ++ (hs12 ++ R)))) = hp' ∧ b.Le b849 ∧ OS 3 (OT.fr (RT.int .i64)) b849.w (.slice A853 l857.length c854) l857 hs852) hm (e' := [(0, .pointer (some ⟨g16, 0, none⟩)), (1, .pointer (some a514)), (5, .pointer (some ⟨g480, 0, none⟩)), (7, .slice none 0 0), (9, .int .i64 ((-x540)))]) (hp' := (g16, Cl 63 [.int .i64 (x25), .int .i64 (x26), .slice A27 (l30).length c28, .func (.func 38) #[] #[.pointer (some ⟨g17, 0, none⟩), .pointer (some ⟨g18, 0, none⟩), .pointer (some ⟨g19, 0, none⟩)], .func (.func 37) #[] #[.pointer (some ⟨g18, 0, none⟩), .pointer (some ⟨g17, 0, none⟩), .pointer (some ⟨g20, 0, none⟩), .pointer (some ⟨g19, 0, none⟩)], .slice A3 (l38).length c4, .slice A8 (l39).length c9]) :: (g480, Cl 29 [.int .i64 (s24.From), .int .i64 (s24.To), .int .i64 (s24.Min), .int .i64 (s24.Max), .int .i64 (s24.Weight)]) :: (g17, Cl 24 [.int .i64 (x31), .int .i64 (x32), .slice A33 (l36).length c34]) :: (g18, Cl 30 [.slice A13 (l40).length c14]) :: (g19, Cl 3 [.int .i64 (x37)]) :: (g20, Cl 56 [.pointer (some ⟨g16, 0, none⟩)]) :: ([] ++ (hs2 ++ (hs7 ++ (hs12 ++ R))))) ⟨rfl, rfl, rfl, rfl, rfl, trivial⟩ (.cons_cons _ (.cons_cons _ (.cons_cons _ (.cons_cons _ (.cons_cons _ (.cons_cons _ (sub_app hs2 (sub_app hs7 (sub_app hs12 (.refl _)))))))))) ⟨none, 0, [], rfl, rfl, (Base.Le.refl _), OS.nil⟩ ?_
    rintro ⟨x856, l857⟩ b849 _ _ oL732 ⟨A853, c854, hs852, rfl, rfl, hle850, h855⟩ hstepL732 houtL732
    unfold mPlanSearchChoices_2_L732 at hstepL732
    have hm := (unc2E hstepL732)
    refine c_seq ?_
    refine c_seq ?_
    obtain ⟨_, h881, hm⟩ := bindS hm
    obtain ⟨_, h882, hm⟩ := bindS hm
    obtain ⟨x883, h884, hm⟩ := bindS hm
    obtain ⟨x893, h894, hm⟩ := bindS hm
    obtain ⟨_, h903, hm⟩ := bindS hm
    refine D_drawS ((g16, Cl 63 [.int .i64 (x25), .int .i64 (x26), .slice A27 (l30).length c28, .func (.func 38) #[] #[.pointer (some ⟨g17, 0, none⟩), .pointer (some ⟨g18, 0, none⟩), .pointer (some ⟨g19, 0, none⟩)], .func (.func 37) #[] #[.pointer (some ⟨g18, 0, none⟩), .pointer (some ⟨g17, 0, none⟩), .pointer (some ⟨g20, 0, none⟩), .pointer (some ⟨g19, 0, none⟩)], .slice A3 (l38).length c4, .slice A8 (l39).length c9]) :: (g480, Cl 29 [.int .i64 (s24.From), .int .i64 (s24.To), .int .i64 (s24.Min), .int .i64 (s24.Max), .int .i64 (s24.Weight)]) :: (g17, Cl 24 [.int .i64 (x31), .int .i64 (x32), .slice A33 (l36).length c34]) :: (g18, Cl 30 [.slice A13 (l40).length c14]) :: (g19, Cl 3 [.int .i64 (x37)]) :: (g20, Cl 56 [.pointer (some ⟨g16, 0, none⟩)]) :: (hs852 ++ (hs2 ++ (hs7 ++ (hs12 ++ R))))) mixed ?_
    refine E_in (.cons_cons _ (.cons_cons _ (.cons_cons _ (.cons_cons _ (.cons_cons _ (.cons_cons _ (sub_app hs852 (sub_app hs2 (sub_app hs7 (sub_app hs12 (.refl _))))))))))) ?_
    refine E_st 0 rfl (st_field rfl fld29_3) ?_
    refine E_st 1 rfl (st_load 1 rfl one3 rfl rfl) ?_
    refine E_st 2 rfl (st_move rfl) ?_
    refine E_st 3 rfl (st_move rfl) ?_
    refine E_st 4 rfl (st_nil rfl) ?_
    refine E_st 5 rfl (st_field rfl fld63_0) ?_
    refine E_st 6 rfl (st_field rfl fld24_0) ?_
    refine E_st 7 rfl (st_load 0 rfl one3 rfl rfl) ?_
    have h881 := (chk_some h881).2
    refine E_st 8 rfl (st_mul rfl rfl h881) ?_
    have h882 := (chk_some h882).2
    refine E_st 9 rfl (st_sub rfl rfl h882) ?_
    refine E_st 10 rfl (st_move rfl) ?_
    refine E_st 11 rfl (st_field rfl fld29_1) ?_
    refine E_st 12 rfl (st_load 1 rfl one3 rfl rfl) ?_
    refine E_st 13 rfl (st_field rfl fld29_0) ?_
    refine E_st 14 rfl (st_load 1 rfl one3 rfl rfl) ?_
    refine E_st 15 rfl (st_nil_at rfl) ?_
    obtain ⟨j885, hj886, hx887⟩ := idx_some h884
    obtain ⟨cs888, hr889, hcs890, hlt891⟩ := arr_in (sz := 8) rfl (RT.le (RT.arr 8 (RT.arr 8 (RT.int .i64))) hr516 hle850) hx887
    have hcs892 := at_in (p := a514) (q := 0) (o := j885 * 8) (at_zero (at_le hcs517 hle850)) hcs890
    refine E_st 16 rfl (st_index_at j885 rfl rfl hj886 hlt891 arr76) ?_
    obtain ⟨j895, hj896, hx897⟩ := idx_some h894
    obtain ⟨cs898, hr899, hcs900, hlt901⟩ := arr_in (sz := 1) rfl hr889 hx897
    obtain rfl := hr899
    have hcs902 := at_in (p := a514) (q := 0 + j885 * 8) (o := j895 * 1) hcs892 hcs900
    refine E_st 17 rfl (st_index_at j895 rfl rfl hj896 hlt901 arr64) ?_
    refine E_st 18 rfl (st_load_at rfl one3 (hcs902 0 _ rfl)) ?_
    have h903 := (chk_some h903).2
    refine E_st 19 rfl (st_negc rfl h903) ?_
    refine E_st 20 rfl (st_geq rfl rfl) ?_
    refine E_out ?_
    refine D_done (by kernel_rfl) ?_
    refine x_then_normal ?_
    refine c_cond _ rfl (fun hc904 => ?_) (fun hc904 => ?_)
    ·
     rw [if_pos (of_decide_eq_true hc904)] at hm
     refine c_skip ?_
     refine x_then_normal ?_
     refine c_seq ?_
     refine c_block ?_
     refine c_region ?_
     refine t_st rfl (st_move rfl) ?_
     refine t_st rfl (st_move rfl) ?_
     refine t_do rfl (u_bslice (el := 3) [(0, .int .i64 (x856))] [.int .i64 (x856)] rfl (fun _ => by kernel_rfl)) ?_
     rintro _ _ ⟨g905, rfl, rfl⟩
     obtain ⟨_, h906, hm⟩ := bindS hm
     have h906 := room_some h906
     refine t_do rfl (u_appOS (r := (RT.int .i64)) (l := l857) [_, _, _, _, _, _, _] (hs2 ++ (hs7 ++ (hs12 ++ R))) [[.int .i64 (x856)]] [x856] rfl (by decide) sl30 inf3 rfl rfl rfl rfl h855 rfl (fun w ho => Rd.own (i := 0) ho rfl) ⟨rfl, trivial⟩ h906) ?_
     rintro _ _ ⟨hs907, rfl, h908⟩
     obtain ⟨A909, c910, rfl, _⟩ := h908.form
     refine t_st rfl (st_assign rfl) ?_
     refine t_nil ?_
     refine x_block_normal ?_
     refine x_then_normal ?_
     refine c_region ?_
     refine t_st rfl (st_move rfl) ?_
     obtain ⟨_, h911, hm⟩ := bindS hm
     have h911 := (chk_some h911).2
     refine t_st rfl (st_add rfl rfl h911) ?_
     refine t_st rfl (st_assign rfl) ?_
     refine t_nil ?_
     refine x_pullb 6 rfl ?_
     refine x_pullb 6 rfl ?_
     refine x_pullb 6 rfl ?_
     refine x_pullb 6 rfl ?_
     refine x_pullb 6 rfl ?_
     refine x_pullb 6 rfl ?_
     refine x_front4 [_, _, _, _, _, _, _] hs907 hs2 hs7 hs12 R rfl ?_
     refine x_front4 [_, _, _, _, _, _, _] hs12 hs907 hs2 hs7 R rfl ?_
     refine x_front4 [_, _, _, _, _, _, _] hs7 hs12 hs907 hs2 R rfl ?_
     refine x_front4 [_, _, _, _, _, _, _] hs2 hs7 hs12 hs907 R rfl ?_
     exact x_againM (x856 + 1, l857 ++ [x856]) (Option.some.inj hm).symm (e' := [(0, .pointer (some ⟨g16, 0, none⟩)), (1, .pointer (some a514)), (5, .pointer (some ⟨g480, 0, none⟩)), (7, .slice A909 (l857 ++ [x856]).length c910), (9, .int .i64 (x856 + 1))]) (hp' := (g16, Cl 63 [.int .i64 (x25), .int .i64 (x26), .slice A27 (l30).length c28, .func (.func 38) #[] #[.pointer (some ⟨g17, 0, none⟩), .pointer (some ⟨g18, 0, none⟩), .pointer (some ⟨g19, 0, none⟩)], .func (.func 37) #[] #[.pointer (some ⟨g18, 0, none⟩), .pointer (some ⟨g17, 0, none⟩), .pointer (some ⟨g20, 0, none⟩), .pointer (some ⟨g19, 0, none⟩)], .slice A3 (l38).length c4, .slice A8 (l39).length c9]) :: (g480, Cl 29 [.int .i64 (s24.From), .int .i64 (s24.To), .int .i64 (s24.Min), .int .i64 (s24.Max), .int .i64 (s24.Weight)]) :: (g17, Cl 24 [.int .i64 (x31), .int .i64 (x32), .slice A33 (l36).length c34]) :: (g18, Cl 30 [.slice A13 (l40).length c14]) :: (g19, Cl 3 [.int .i64 (x37)]) :: (g20, Cl 56 [.pointer (some ⟨g16, 0, none⟩)]) :: (hs907 ++ (hs2 ++ (hs7 ++ (hs12 ++ R))))) ⟨rfl, rfl, rfl, rfl, rfl, trivial⟩ (.cons_cons _ (.cons_cons _ (.cons_cons _ (.cons_cons _ (.cons_cons _ (.cons_cons _ (.cons _ (sub_app hs907 (sub_app hs2 (sub_app hs7 (sub_app hs12 (.refl _)))))))))))) ⟨A909, c910, hs907, rfl, rfl, (hle850), h908⟩
    ·
     rw [if_neg (of_decide_eq_false hc904)] at hm
     refine c_exit ?_
     refine x_then_exit ?_
     refine x_then_exit ?_
     refine x_block_out ?_
     have hm := congrArg some (houtL732 _ (Option.some.inj hm).symm)
     obtain rfl := some1 hm
     refine x_pullb 5 rfl ?_
     refine x_pullb 5 rfl ?_
     refine x_pullb 5 rfl ?_
     refine x_pullb 5 rfl ?_
     refine x_pullb 4 rfl ?_
     refine x_front4 [_, _, _, _, _, _] hs852 hs2 hs7 hs12 R rfl ?_
     refine x_front4 [_, _, _, _, _, _] hs12 hs852 hs2 hs7 R rfl ?_
     refine x_front4 [_, _, _, _, _, _] hs7 hs12 hs852 hs2 R rfl ?_
     refine x_front4 [_, _, _, _, _, _] hs2 hs7 hs12 hs852 R rfl ?_
     exact x_join (e' := [(7, .slice A853 (l857).length c854)]) (hp' := (g16, Cl 63 [.int .i64 (x25), .int .i64 (x26), .slice A27 (l30).length c28, .func (.func 38) #[] #[.pointer (some ⟨g17, 0, none⟩), .pointer (some ⟨g18, 0, none⟩), .pointer (some ⟨g19, 0, none⟩)], .func (.func 37) #[] #[.pointer (some ⟨g18, 0, none⟩), .pointer (some ⟨g17, 0, none⟩), .pointer (some ⟨g20, 0, none⟩), .pointer (some ⟨g19, 0, none⟩)], .slice A3 (l38).length c4, .slice A8 (l39).length c9]) :: (g17, Cl 24 [.int .i64 (x31), .int .i64 (x32), .slice A33 (l36).length c34]) :: (g18, Cl 30 [.slice A13 (l40).length c14]) :: (g19, Cl 3 [.int .i64 (x37)]) :: (g20, Cl 56 [.pointer (some ⟨g16, 0, none⟩)]) :: (hs852 ++ (hs2 ++ (hs7 ++ (hs12 ++ R))))) ⟨rfl, trivial⟩ (.cons_cons _ (.cons_cons _ (.cons_cons _ (.cons_cons _ (.cons_cons _ (.cons _ (sub_app hs852 (sub_app hs2 (sub_app hs7 (sub_app hs12 (.refl _))))))))))) ⟨A853, c854, hs852, rfl, rfl, hle850, h855⟩
   ·
    rintro b723 _ _ ⟨A727, c728, hs726, rfl, rfl, hle724, h729⟩
    have hm := hk731
    refine c_seq ?_
    refine c_region ?_
    refine t_st rfl (st_move rfl) ?_
    refine t_st rfl (st_assign rfl) ?_
    refine t_nil ?_
    refine x_then_normal ?_
    refine c_ret ?_
    obtain rfl := some1 hm
    refine x_pullb 4 rfl ?_
    refine x_pullb 4 rfl ?_
    refine x_pullb 4 rfl ?_
    refine x_pullb 4 rfl ?_
    refine x_pullb 4 rfl ?_
    refine x_front4 [_, _, _, _, _] hs726 hs2 hs7 hs12 R rfl ?_
    refine x_front4 [_, _, _, _, _] hs12 hs726 hs2 hs7 R rfl ?_
    refine x_front4 [_, _, _, _, _] hs7 hs12 hs726 hs2 R rfl ?_
    refine x_front4 [_, _, _, _, _] hs2 hs7 hs12 hs726 R rfl ?_
    exact retM (rs := [.tmp 6]) [.slice A727 (l730).length c728] hle724 (by decide) rfl ⟨rfl, trivial⟩ rfl (hp' := (g16, Cl 63 [.int .i64 (x25), .int .i64 (x26), .slice A27 (l30).length c28, .func (.func 38) #[] #[.pointer (some ⟨g17, 0, none⟩), .pointer (some ⟨g18, 0, none⟩), .pointer (some ⟨g19, 0, none⟩)], .func (.func 37) #[] #[.pointer (some ⟨g18, 0, none⟩), .pointer (some ⟨g17, 0, none⟩), .pointer (some ⟨g20, 0, none⟩), .pointer (some ⟨g19, 0, none⟩)], .slice A3 (l38).length c4, .slice A8 (l39).length c9]) :: (g17, Cl 24 [.int .i64 (x31), .int .i64 (x32), .slice A33 (l36).length c34]) :: (g18, Cl 30 [.slice A13 (l40).length c14]) :: (g19, Cl 3 [.int .i64 (x37)]) :: (g20, Cl 56 [.pointer (some ⟨g16, 0, none⟩)]) :: (hs726 ++ (hs2 ++ (hs7 ++ (hs12 ++ R))))) (.cons_cons _ (.cons_cons _ (.cons_cons _ (.cons_cons _ (.cons_cons _ (sub_app hs726 (sub_app hs2 (sub_app hs7 (sub_app hs12 (.refl _)))))))))) ⟨A727, c728, hs726, rfl, rfl, h729⟩
  exact R_nil

set_option maxRecDepth 20000 in
theorem cPlanCheapest_1 (b : Base) (R : Hp) (x9 : Int) (x10 : Int) (x11 : Int) (x12 : Int) (l16 : (List PlanRule)) (q17 : (Option (List (List Int)))) (l20 : (List Int)) (g6 : Nat) (g7 : Nat) (g8 : Nat) (A13 : Option Addr) (c14 : Nat) (v18 : Value) (A3 : Option Addr) (c4 : Nat) (hs2 : Hp) (h15 : FZ rPlanRule b.w A13 c14 l16) (h19 : (RT.ptr (RT.arr 8 (RT.arr 8 (RT.int .i64)))).rep b.w [v18] q17) (h5 : OS 3 (OT.fr (RT.int .i64)) b.w (.slice A3 l20.length c4) l20 hs2) (x2385 : Int) (q2386 : (Option (List (List Int)))) (hm : mPlanCheapest_1 x9 x10 x11 x12 l16 q17 l20 = some (x2385, q2386)) :
    CallsG Try.prog 50 [.int .i64 (x9), .int .i64 (x10), .pointer (some ⟨g6, 0, none⟩), .pointer (some ⟨g7, 0, none⟩), .pointer (some ⟨g8, 0, none⟩)] b ((g6, Cl 24 [.int .i64 (x11), .int .i64 (x12), .slice A13 (l16).length c14]) :: (g7, Cl 30 [.slice A3 (l20).length c4]) :: (g8, Cl 58 [v18]) :: (hs2 ++ R)) (fun v b' hp' => ∃ (v2387 : Value), .int .i64 (x2385) = v ∧ (g6, Cl 24 [.int .i64 (x11), .int .i64 (x12), .slice A13 (l16).length c14]) :: (g7, Cl 30 [.slice A3 (l20).length c4]) :: (g8, Cl 58 [v2387]) :: (hs2 ++ R) = hp' ∧ (RT.ptr (RT.arr 8 (RT.arr 8 (RT.int .i64)))).rep b'.w [v2387] q2386) := by
  refine fn_enterG 78 Try.func50 rfl Try.ntmps50 rfl ?_
  unfold mPlanCheapest_1 at hm
  refine c_seq ?_
  refine c_region ?_
  refine t_st rfl (st_assign rfl) ?_
  refine t_nil ?_
  refine x_then_normal ?_
  refine c_seq ?_
  refine c_region ?_
  refine t_st rfl (st_field rfl fld24_0) ?_
  refine t_st rfl (st_load 0 rfl one3 rfl rfl) ?_
  refine t_st rfl (st_assign rfl) ?_
  refine t_nil ?_
  refine x_then_normal ?_
  refine c_seq ?_
  refine c_seq ?_
  refine c_region ?_
  refine t_st rfl (st_load 1 rfl one30 rfl rfl) ?_
  refine t_st rfl (st_len rfl sl30) ?_
  refine t_st rfl (st_move rfl) ?_
  refine t_nil ?_
  refine x_then_normal ?_
  refine c_block ?_
  have hb2390 : l20.length ≤ 9223372036854775807 := (OS.len h5)
  refine c_pullb 2 rfl ?_
  refine c_pullb 2 rfl ?_
  obtain ⟨⟨x3963, q3964⟩, hl3968, hk3969⟩ := bindS hm
  refine c_forS (fun k3967 => unc2 fun x3963 q3964 => fun b3961 e' hp' => ∃ (v3965 : Value), [(0, .int .i64 (x9)), (1, .int .i64 (x10)), (3, .pointer (some ⟨g7, 0, none⟩)), (4, .pointer (some ⟨g8, 0, none⟩)), (8, .int .i64 (x3963)), (14, .int .i64 ((l20.length : Int))), (15, .int .i64 ((k3967 : Int)))] = e' ∧ (g7, Cl 30 [.slice A3 (l20).length c4]) :: (g8, Cl 58 [v3965]) :: (g6, Cl 24 [.int .i64 (x11), .int .i64 (x12), .slice A13 (l16).length c14]) :: (hs2 ++ R) = hp' ∧ b.Le b3961 ∧ (RT.ptr (RT.arr 8 (RT.arr 8 (RT.int .i64)))).rep b3961.w [v3965] q3964) hl3968 (e' := [(0, .int .i64 (x9)), (1, .int .i64 (x10)), (3, .pointer (some ⟨g7, 0, none⟩)), (4, .pointer (some ⟨g8, 0, none⟩)), (8, .int .i64 (x11)), (14, .int .i64 ((l20.length : Int))), (15, .int .i64 0)]) (hp' := (g7, Cl 30 [.slice A3 (l20).length c4]) :: (g8, Cl 58 [v18]) :: (g6, Cl 24 [.int .i64 (x11), .int .i64 (x12), .slice A13 (l16).length c14]) :: (hs2 ++ R)) ⟨rfl, rfl, rfl, rfl, rfl, rfl, rfl, trivial⟩ (.cons_cons _ (.cons_cons _ (.cons_cons _ (sub_app hs2 (.refl _))))) ⟨v18, rfl, rfl, (Base.Le.refl _), h19⟩ ?_ ?_
  ·
   rintro k3967 ⟨x3963, q3964⟩ b3961 _ _ oL2389 hknL2389 ⟨v3965, rfl, rfl, hle3962, h3966⟩ hstepL2389
   unfold mPlanCheapest_1_L2389 at hstepL2389
   have hm := (unc2E hstepL2389)
   refine c_seq ?_
   refine c_region ?_
   refine t_st rfl (st_lss_t rfl rfl (by omega)) ?_
   refine t_nil ?_
   refine x_then_normal ?_
   refine c_seq ?_
   refine c_cond_t rfl ?_
   refine c_skip ?_
   refine x_then_normal ?_
   refine c_seq ?_
   refine c_block ?_
   refine c_seq ?_
   refine c_region ?_
   refine t_st rfl (st_move rfl) ?_
   refine t_st rfl (st_assign rfl) ?_
   refine t_nil ?_
   refine x_then_normal ?_
   refine c_seq ?_
   refine c_region ?_
   refine t_st rfl (st_load 0 rfl one30 rfl rfl) ?_
   refine t_st rfl (st_len rfl sl30) ?_
   refine t_st rfl (st_move rfl) ?_
   refine t_nil ?_
   refine x_then_normal ?_
   refine c_block ?_
   have hb3971 : l20.length ≤ 9223372036854775807 := (OS.len h5)
   refine c_pullb 2 rfl ?_
   refine c_pullb 2 rfl ?_
   refine c_pullb 2 rfl ?_
   obtain ⟨⟨x4490, q4491⟩, hl4495, hk4496⟩ := bindS hm
   refine c_forS (fun k4494 => unc2 fun x4490 q4491 => fun b4488 e' hp' => ∃ (v4492 : Value), [(0, .int .i64 (x9)), (1, .int .i64 (x10)), (3, .pointer (some ⟨g7, 0, none⟩)), (4, .pointer (some ⟨g8, 0, none⟩)), (8, .int .i64 (x4490)), (9, .int .i64 ((k3967 : Int))), (14, .int .i64 ((l20.length : Int))), (15, .int .i64 ((k3967 : Int))), (19, .int .i64 ((l20.length : Int))), (20, .int .i64 ((k4494 : Int)))] = e' ∧ (g7, Cl 30 [.slice A3 (l20).length c4]) :: (g8, Cl 58 [v4492]) :: (g6, Cl 24 [.int .i64 (x11), .int .i64 (x12), .slice A13 (l16).length c14]) :: (hs2 ++ R) = hp' ∧ b3961.Le b4488 ∧ (RT.ptr (RT.arr 8 (RT.arr 8 (RT.int .i64)))).rep b4488.w [v4492] q4491) hl4495 (e' := [(0, .int .i64 (x9)), (1, .int .i64 (x10)), (3, .pointer (some ⟨g7, 0, none⟩)), (4, .pointer (some ⟨g8, 0, none⟩)), (8, .int .i64 (x3963)), (9, .int .i64 ((k3967 : Int))), (14, .int .i64 ((l20.length : Int))), (15, .int .i64 ((k3967 : Int))), (19, .int .i64 ((l20.length : Int))), (20, .int .i64 0)]) (hp' := (g7, Cl 30 [.slice A3 (l20).length c4]) :: (g8, Cl 58 [v3965]) :: (g6, Cl 24 [.int .i64 (x11), .int .i64 (x12), .slice A13 (l16).length c14]) :: (hs2 ++ R)) ⟨rfl, rfl, rfl, rfl, rfl, rfl, rfl, rfl, rfl, rfl, trivial⟩ (.cons_cons _ (.cons_cons _ (.cons_cons _ (sub_app hs2 (.refl _))))) ⟨v3965, rfl, rfl, (Base.Le.refl _), h3966⟩ ?_ ?_
   ·
    rintro k4494 ⟨x4490, q4491⟩ b4488 _ _ oL3970 hknL3970 ⟨v4492, rfl, rfl, hle4489, h4493⟩ hstepL3970
    unfold mPlanCheapest_1_L3970 at hstepL3970
    have hm := (unc2E hstepL3970)
    refine c_seq ?_
    refine c_region ?_
    refine t_st rfl (st_lss_t rfl rfl (by omega)) ?_
    refine t_nil ?_
    refine x_then_normal ?_
    refine c_seq ?_
    refine c_cond_t rfl ?_
    refine c_skip ?_
    refine x_then_normal ?_
    refine c_seq ?_
    refine c_block ?_
    refine c_seq ?_
    refine c_region ?_
    refine t_st rfl (st_move rfl) ?_
    refine t_st rfl (st_assign rfl) ?_
    refine t_nil ?_
    refine x_then_normal ?_
    obtain ⟨x4502, hj4503, hk4503⟩ := bindS hm
    refine c_join (fun b4500 e' hp' => [(0, .int .i64 (x9)), (1, .int .i64 (x10)), (3, .pointer (some ⟨g7, 0, none⟩)), (4, .pointer (some ⟨g8, 0, none⟩)), (8, .int .i64 (x4490)), (9, .int .i64 ((k3967 : Int))), (10, .int .i64 ((k4494 : Int))), (14, .int .i64 ((l20.length : Int))), (15, .int .i64 ((k3967 : Int))), (19, .int .i64 ((l20.length : Int))), (20, .int .i64 ((k4494 : Int))), (34, .bool (x4502))] = e' ∧ (g7, Cl 30 [.slice A3 (l20).length c4]) :: (g8, Cl 58 [v4492]) :: (g6, Cl 24 [.int .i64 (x11), .int .i64 (x12), .slice A13 (l16).length c14]) :: (hs2 ++ R) = hp' ∧ b4488.Le b4500) ?_ ?_
    ·
     have hm := hj4503
     refine c_region ?_
     refine t_st rfl (st_move rfl) ?_
     refine t_st rfl (st_move rfl) ?_
     obtain ⟨_, h4504, hm⟩ := bindS hm
     have h4504 := shN_some h4504
     refine t_st rfl (st_shr rfl rfl h4504) ?_
     refine t_st rfl (st_and rfl rfl) ?_
     refine t_bool rfl (st_eql rfl rfl) (fun hc4505 => ?_) (fun hc4505 => ?_)
     ·
      rw [if_pos hc4505] at hm
      refine t_st rfl (st_move rfl) ?_
      refine t_yes 28 rfl rfl rfl ?_
      refine t_st rfl (st_move rfl) ?_
      refine t_yes 28 rfl rfl rfl ?_
      refine t_st rfl (st_move rfl) ?_
      refine t_yes 28 rfl rfl rfl ?_
      obtain ⟨_, h4506, hm⟩ := bindS hm
      have h4506 := shN_some h4506
      refine t_st rfl (st_shr rfl rfl h4506) ?_
      refine t_yes 28 rfl rfl rfl ?_
      refine t_st rfl (st_and rfl rfl) ?_
      refine t_yes 28 rfl rfl rfl ?_
      refine t_st rfl (st_eql rfl rfl) ?_
      refine t_st rfl (st_pick_t rfl rfl) ?_
      refine t_nil ?_
      obtain rfl := some1 hm
      refine x_pullb 2 rfl ?_
      refine x_pullb 2 rfl ?_
      refine x_pullb 2 rfl ?_
      exact x_join (e' := [(0, .int .i64 (x9)), (1, .int .i64 (x10)), (3, .pointer (some ⟨g7, 0, none⟩)), (4, .pointer (some ⟨g8, 0, none⟩)), (8, .int .i64 (x4490)), (9, .int .i64 ((k3967 : Int))), (10, .int .i64 ((k4494 : Int))), (14, .int .i64 ((l20.length : Int))), (15, .int .i64 ((k3967 : Int))), (19, .int .i64 ((l20.length : Int))), (20, .int .i64 ((k4494 : Int))), (34, .bool (decide ((andI .i64 (shrI .i64 x9 (k4494 : Int)) 1) = 0)))]) (hp' := (g7, Cl 30 [.slice A3 (l20).length c4]) :: (g8, Cl 58 [v4492]) :: (g6, Cl 24 [.int .i64 (x11), .int .i64 (x12), .slice A13 (l16).length c14]) :: (hs2 ++ R)) ⟨rfl, rfl, rfl, rfl, rfl, rfl, rfl, rfl, rfl, rfl, rfl, rfl, trivial⟩ (.cons_cons _ (.cons_cons _ (.cons_cons _ (sub_app hs2 (.refl _))))) ⟨rfl, rfl, (Base.Le.refl _)⟩
     ·
      rw [if_neg hc4505] at hm
      refine t_st rfl (st_move rfl) ?_
      refine t_no 28 rfl rfl rfl rfl rfl ?_
      refine t_no 28 rfl rfl rfl rfl rfl ?_
      refine t_no 28 rfl rfl rfl rfl rfl ?_
      refine t_no 28 rfl rfl rfl rfl rfl ?_
      refine t_no 28 rfl rfl rfl rfl rfl ?_
      refine t_st rfl (st_pick_f rfl rfl) ?_
      refine t_nil ?_
      obtain rfl := some1 hm
      refine x_pullb 2 rfl ?_
      refine x_pullb 2 rfl ?_
      refine x_pullb 2 rfl ?_
      exact x_join (e' := [(0, .int .i64 (x9)), (1, .int .i64 (x10)), (3, .pointer (some ⟨g7, 0, none⟩)), (4, .pointer (some ⟨g8, 0, none⟩)), (8, .int .i64 (x4490)), (9, .int .i64 ((k3967 : Int))), (10, .int .i64 ((k4494 : Int))), (14, .int .i64 ((l20.length : Int))), (15, .int .i64 ((k3967 : Int))), (19, .int .i64 ((l20.length : Int))), (20, .int .i64 ((k4494 : Int))), (34, .bool (false))]) (hp' := (g7, Cl 30 [.slice A3 (l20).length c4]) :: (g8, Cl 58 [v4492]) :: (g6, Cl 24 [.int .i64 (x11), .int .i64 (x12), .slice A13 (l16).length c14]) :: (hs2 ++ R)) ⟨rfl, rfl, rfl, rfl, rfl, rfl, rfl, rfl, rfl, rfl, rfl, rfl, trivial⟩ (.cons_cons _ (.cons_cons _ (.cons_cons _ (sub_app hs2 (.refl _))))) ⟨rfl, rfl, (Base.Le.refl _)⟩
    ·
     rintro b4500 _ _ ⟨rfl, rfl, hle4501⟩
     have hm := hk4503
     refine c_cond _ rfl (fun hc4507 => ?_) (fun hc4507 => ?_)
     ·
      rw [if_pos hc4507] at hm
      refine c_seq ?_
      refine c_region ?_
      refine t_st rfl (st_move rfl) ?_
      refine t_st rfl (st_gtr rfl rfl) ?_
      refine t_nil ?_
      refine x_then_normal ?_
      refine c_cond _ rfl (fun hc4508 => ?_) (fun hc4508 => ?_)
      ·
       rw [if_pos (of_decide_eq_true hc4508)] at hm
       obtain ⟨y4570, h4571, hm⟩ := bindS hm
       obtain ⟨x4577, h4578, hm⟩ := bindS hm
       obtain ⟨x4587, h4588, hm⟩ := bindS hm
       obtain ⟨x4597, h4598, hm⟩ := bindS hm
       obtain ⟨x4613, h4614, hm⟩ := bindS hm
       obtain ⟨_, h4629, hm⟩ := bindS hm
       obtain ⟨_, h4630, hm⟩ := bindS hm
       refine D_drawS ((g7, Cl 30 [.slice A3 (l20).length c4]) :: (g8, Cl 58 [v4492]) :: (g6, Cl 24 [.int .i64 (x11), .int .i64 (x12), .slice A13 (l16).length c14]) :: (hs2 ++ R)) mixed ?_
       refine E_in (.cons_cons _ (.cons_cons _ (.cons_cons _ (sub_app hs2 (.refl _))))) ?_
       refine E_st 0 rfl (st_move rfl) ?_
       refine E_st 1 rfl (st_load 1 rfl one58 rfl rfl) ?_
       refine E_st 2 rfl (st_move rfl) ?_
       refine E_st 3 rfl (st_move rfl) ?_
       have h4576 := (RT.le (RT.ptr (RT.arr 8 (RT.arr 8 (RT.int .i64)))) h4493 hle4501)
       rw [h4571] at h4576
       obtain ⟨a4572, cs4573, rfl, hr4574, hcs4575⟩ := ptr_open h4576
       refine E_st 4 rfl (st_nil_at rfl) ?_
       obtain ⟨j4579, hj4580, hx4581⟩ := idx_some h4578
       obtain ⟨cs4582, hr4583, hcs4584, hlt4585⟩ := arr_in (sz := 8) rfl hr4574 hx4581
       have hcs4586 := at_in (p := a4572) (q := 0) (o := j4579 * 8) (at_zero hcs4575) hcs4584
       refine E_st 5 rfl (st_index_at j4579 rfl rfl hj4580 hlt4585 arr76) ?_
       obtain ⟨j4589, hj4590, hx4591⟩ := idx_some h4588
       obtain ⟨cs4592, hr4593, hcs4594, hlt4595⟩ := arr_in (sz := 1) rfl hr4583 hx4591
       obtain rfl := hr4593
       have hcs4596 := at_in (p := a4572) (q := 0 + j4579 * 8) (o := j4589 * 1) hcs4586 hcs4594
       refine E_st 6 rfl (st_index_at j4589 rfl rfl hj4590 hlt4595 arr64) ?_
       refine E_st 7 rfl (st_load_at rfl one3 (hcs4596 0 _ rfl)) ?_
       refine E_st 8 rfl (st_load 0 rfl one30 rfl rfl) ?_
       refine E_st 9 rfl (st_move rfl) ?_
       obtain ⟨j4599, hj4600, hx4601⟩ := idx_some h4598
       obtain ⟨cs4602, hs4607, P4608, P4609, hq4610, hr4603, hcs4604, hA4605, hlt4606, hb4611, hho4612⟩ := OS.get (sz := 1) rfl (by decide) (h5.le (hle3962.trans (hle4489.trans hle4501))) hx4601
       obtain ⟨rfl, rfl⟩ := hr4603
       refine E_st 10 rfl (st_index_old j4599 rfl rfl hj4600 hlt4606 hA4605 sl30) ?_
       refine E_st 11 rfl (st_load_rd rfl one3 (fun w ho => hcs4604 w _ ho (.cons _ (.cons _ (.cons _ (List.sublist_append_left _ _)))) 0 _ rfl)) ?_
       refine E_st 12 rfl (st_load 0 rfl one30 rfl rfl) ?_
       refine E_st 13 rfl (st_move rfl) ?_
       obtain ⟨j4615, hj4616, hx4617⟩ := idx_some h4614
       obtain ⟨cs4618, hs4623, P4624, P4625, hq4626, hr4619, hcs4620, hA4621, hlt4622, hb4627, hho4628⟩ := OS.get (sz := 1) rfl (by decide) (h5.le (hle3962.trans (hle4489.trans hle4501))) hx4617
       obtain ⟨rfl, rfl⟩ := hr4619
       refine E_st 14 rfl (st_index_old j4615 rfl rfl hj4616 hlt4622 hA4621 sl30) ?_
       refine E_st 15 rfl (st_load_rd rfl one3 (fun w ho => hcs4620 w _ ho (.cons _ (.cons _ (.cons _ (List.sublist_append_left _ _)))) 0 _ rfl)) ?_
       have h4629 := (chk_some h4629).2
       refine E_st 16 rfl (st_sub rfl rfl h4629) ?_
       have h4630 := (chk_some h4630).2
       refine E_st 17 rfl (st_sub rfl rfl h4630) ?_
       refine E_st 18 rfl (st_min rfl rfl) ?_
       refine E_st 19 rfl (st_assign rfl) ?_
       refine E_out ?_
       refine D_done (by kernel_rfl) ?_
       refine x_block_normal ?_
       refine x_then_normal ?_
       refine c_region ?_
       refine t_st rfl (st_add rfl rfl (by omega)) ?_
       refine t_st rfl (st_move rfl) ?_
       refine t_nil ?_
       refine x_pullb 2 rfl ?_
       refine x_pullb 2 rfl ?_
       refine x_pullb 2 rfl ?_
       obtain rfl := some1 hm
       exact x_againS (e' := [(0, .int .i64 (x9)), (1, .int .i64 (x10)), (3, .pointer (some ⟨g7, 0, none⟩)), (4, .pointer (some ⟨g8, 0, none⟩)), (8, .int .i64 (min x4490 (x4587 - (x4597 - x4613)))), (9, .int .i64 ((k3967 : Int))), (14, .int .i64 ((l20.length : Int))), (15, .int .i64 ((k3967 : Int))), (19, .int .i64 ((l20.length : Int))), (20, .int .i64 ((k4494 : Int) + 1))]) (hp' := (g7, Cl 30 [.slice A3 (l20).length c4]) :: (g8, Cl 58 [.pointer (some a4572)]) :: (g6, Cl 24 [.int .i64 (x11), .int .i64 (x12), .slice A13 (l16).length c14]) :: (hs2 ++ R)) ⟨rfl, rfl, rfl, rfl, rfl, rfl, rfl, rfl, rfl, rfl, trivial⟩ (.cons_cons _ (.cons_cons _ (.cons_cons _ (sub_app hs2 (.refl _))))) ⟨(.pointer (some a4572)), rfl, rfl, ((hle4489.trans hle4501)), ⟨_, cs4573, rfl, hr4574, hcs4575⟩⟩
      ·
       rw [if_neg (of_decide_eq_false hc4508)] at hm
       obtain ⟨y4692, h4693, hm⟩ := bindS hm
       obtain ⟨x4699, h4700, hm⟩ := bindS hm
       obtain ⟨x4709, h4710, hm⟩ := bindS hm
       obtain ⟨x4719, h4720, hm⟩ := bindS hm
       obtain ⟨x4735, h4736, hm⟩ := bindS hm
       obtain ⟨_, h4751, hm⟩ := bindS hm
       obtain ⟨_, h4752, hm⟩ := bindS hm
       refine D_drawS ((g7, Cl 30 [.slice A3 (l20).length c4]) :: (g8, Cl 58 [v4492]) :: (g6, Cl 24 [.int .i64 (x11), .int .i64 (x12), .slice A13 (l16).length c14]) :: (hs2 ++ R)) mixed ?_
       refine E_in (.cons_cons _ (.cons_cons _ (.cons_cons _ (sub_app hs2 (.refl _))))) ?_
       refine E_st 0 rfl (st_move rfl) ?_
       refine E_st 1 rfl (st_load 1 rfl one58 rfl rfl) ?_
       refine E_st 2 rfl (st_move rfl) ?_
       refine E_st 3 rfl (st_move rfl) ?_
       have h4698 := (RT.le (RT.ptr (RT.arr 8 (RT.arr 8 (RT.int .i64)))) h4493 hle4501)
       rw [h4693] at h4698
       obtain ⟨a4694, cs4695, rfl, hr4696, hcs4697⟩ := ptr_open h4698
       refine E_st 4 rfl (st_nil_at rfl) ?_
       obtain ⟨j4701, hj4702, hx4703⟩ := idx_some h4700
       obtain ⟨cs4704, hr4705, hcs4706, hlt4707⟩ := arr_in (sz := 8) rfl hr4696 hx4703
       have hcs4708 := at_in (p := a4694) (q := 0) (o := j4701 * 8) (at_zero hcs4697) hcs4706
       refine E_st 5 rfl (st_index_at j4701 rfl rfl hj4702 hlt4707 arr76) ?_
       obtain ⟨j4711, hj4712, hx4713⟩ := idx_some h4710
       obtain ⟨cs4714, hr4715, hcs4716, hlt4717⟩ := arr_in (sz := 1) rfl hr4705 hx4713
       obtain rfl := hr4715
       have hcs4718 := at_in (p := a4694) (q := 0 + j4701 * 8) (o := j4711 * 1) hcs4708 hcs4716
       refine E_st 6 rfl (st_index_at j4711 rfl rfl hj4712 hlt4717 arr64) ?_
       refine E_st 7 rfl (st_load_at rfl one3 (hcs4718 0 _ rfl)) ?_
       refine E_st 8 rfl (st_load 0 rfl one30 rfl rfl) ?_
       refine E_st 9 rfl (st_move rfl) ?_
       obtain ⟨j4721, hj4722, hx4723⟩ := idx_some h4720
       obtain ⟨cs4724, hs4729, P4730, P4731, hq4732, hr4725, hcs4726, hA4727, hlt4728, hb4733, hho4734⟩ := OS.get (sz := 1) rfl (by decide) (h5.le (hle3962.trans (hle4489.trans hle4501))) hx4723
       obtain ⟨rfl, rfl⟩ := hr4725
       refine E_st 10 rfl (st_index_old j4721 rfl rfl hj4722 hlt4728 hA4727 sl30) ?_
       refine E_st 11 rfl (st_load_rd rfl one3 (fun w ho => hcs4726 w _ ho (.cons _ (.cons _ (.cons _ (List.sublist_append_left _ _)))) 0 _ rfl)) ?_
       refine E_st 12 rfl (st_load 0 rfl one30 rfl rfl) ?_
       refine E_st 13 rfl (st_move rfl) ?_
       obtain ⟨j4737, hj4738, hx4739⟩ := idx_some h4736
       obtain ⟨cs4740, hs4745, P4746, P4747, hq4748, hr4741, hcs4742, hA4743, hlt4744, hb4749, hho4750⟩ := OS.get (sz := 1) rfl (by decide) (h5.le (hle3962.trans (hle4489.trans hle4501))) hx4739
       obtain ⟨rfl, rfl⟩ := hr4741
       refine E_st 14 rfl (st_index_old j4737 rfl rfl hj4738 hlt4744 hA4743 sl30) ?_
       refine E_st 15 rfl (st_load_rd rfl one3 (fun w ho => hcs4742 w _ ho (.cons _ (.cons _ (.cons _ (List.sublist_append_left _ _)))) 0 _ rfl)) ?_
       have h4751 := (chk_some h4751).2
       refine E_st 16 rfl (st_sub rfl rfl h4751) ?_
       have h4752 := (chk_some h4752).2
       refine E_st 17 rfl (st_sub rfl rfl h4752) ?_
       refine E_st 18 rfl (st_min rfl rfl) ?_
       refine E_st 19 rfl (st_assign rfl) ?_
       refine E_out ?_
       refine D_done (by kernel_rfl) ?_
       refine x_block_normal ?_
       refine x_then_normal ?_
       refine c_region ?_
       refine t_st rfl (st_add rfl rfl (by omega)) ?_
       refine t_st rfl (st_move rfl) ?_
       refine t_nil ?_
       refine x_pullb 2 rfl ?_
       refine x_pullb 2 rfl ?_
       refine x_pullb 2 rfl ?_
       obtain rfl := some1 hm
       exact x_againS (e' := [(0, .int .i64 (x9)), (1, .int .i64 (x10)), (3, .pointer (some ⟨g7, 0, none⟩)), (4, .pointer (some ⟨g8, 0, none⟩)), (8, .int .i64 (min x4490 (x4709 - (x4719 - x4735)))), (9, .int .i64 ((k3967 : Int))), (14, .int .i64 ((l20.length : Int))), (15, .int .i64 ((k3967 : Int))), (19, .int .i64 ((l20.length : Int))), (20, .int .i64 ((k4494 : Int) + 1))]) (hp' := (g7, Cl 30 [.slice A3 (l20).length c4]) :: (g8, Cl 58 [.pointer (some a4694)]) :: (g6, Cl 24 [.int .i64 (x11), .int .i64 (x12), .slice A13 (l16).length c14]) :: (hs2 ++ R)) ⟨rfl, rfl, rfl, rfl, rfl, rfl, rfl, rfl, rfl, rfl, trivial⟩ (.cons_cons _ (.cons_cons _ (.cons_cons _ (sub_app hs2 (.refl _))))) ⟨(.pointer (some a4694)), rfl, rfl, ((hle4489.trans hle4501)), ⟨_, cs4695, rfl, hr4696, hcs4697⟩⟩
     ·
      rw [if_neg (fun hh => Bool.noConfusion (hh.symm.trans hc4507))] at hm
      refine c_skip ?_
      refine x_block_normal ?_
      refine x_then_normal ?_
      refine c_region ?_
      refine t_st rfl (st_add rfl rfl (by omega)) ?_
      refine t_st rfl (st_move rfl) ?_
      refine t_nil ?_
      refine x_pullb 2 rfl ?_
      refine x_pullb 2 rfl ?_
      refine x_pullb 2 rfl ?_
      obtain rfl := some1 hm
      exact x_againS (e' := [(0, .int .i64 (x9)), (1, .int .i64 (x10)), (3, .pointer (some ⟨g7, 0, none⟩)), (4, .pointer (some ⟨g8, 0, none⟩)), (8, .int .i64 (x4490)), (9, .int .i64 ((k3967 : Int))), (14, .int .i64 ((l20.length : Int))), (15, .int .i64 ((k3967 : Int))), (19, .int .i64 ((l20.length : Int))), (20, .int .i64 ((k4494 : Int) + 1))]) (hp' := (g7, Cl 30 [.slice A3 (l20).length c4]) :: (g8, Cl 58 [v4492]) :: (g6, Cl 24 [.int .i64 (x11), .int .i64 (x12), .slice A13 (l16).length c14]) :: (hs2 ++ R)) ⟨rfl, rfl, rfl, rfl, rfl, rfl, rfl, rfl, rfl, rfl, trivial⟩ (.cons_cons _ (.cons_cons _ (.cons_cons _ (sub_app hs2 (.refl _))))) ⟨v4492, rfl, rfl, ((hle4489.trans hle4501)), (RT.le (RT.ptr (RT.arr 8 (RT.arr 8 (RT.int .i64)))) h4493 hle4501)⟩
   ·
    rintro b4488 _ _ ⟨v4492, rfl, rfl, hle4489, h4493⟩
    have hm := (unc2E hk4496)
    refine c_seq ?_
    refine c_region ?_
    refine t_st rfl (st_lss_f rfl rfl (by omega)) ?_
    refine t_nil ?_
    refine x_then_normal ?_
    refine c_seq ?_
    refine c_cond_f rfl ?_
    refine c_exit ?_
    refine x_then_exit ?_
    refine x_then_exit ?_
    refine x_block_out ?_
    refine x_block_normal ?_
    refine x_then_normal ?_
    refine c_region ?_
    refine t_st rfl (st_add rfl rfl (by omega)) ?_
    refine t_st rfl (st_move rfl) ?_
    refine t_nil ?_
    refine x_pullb 2 rfl ?_
    refine x_pullb 2 rfl ?_
    refine x_pullb 2 rfl ?_
    obtain rfl := some1 hm
    exact x_againS (e' := [(0, .int .i64 (x9)), (1, .int .i64 (x10)), (3, .pointer (some ⟨g7, 0, none⟩)), (4, .pointer (some ⟨g8, 0, none⟩)), (8, .int .i64 (x4490)), (14, .int .i64 ((l20.length : Int))), (15, .int .i64 ((k3967 : Int) + 1))]) (hp' := (g7, Cl 30 [.slice A3 (l20).length c4]) :: (g8, Cl 58 [v4492]) :: (g6, Cl 24 [.int .i64 (x11), .int .i64 (x12), .slice A13 (l16).length c14]) :: (hs2 ++ R)) ⟨rfl, rfl, rfl, rfl, rfl, rfl, rfl, trivial⟩ (.cons_cons _ (.cons_cons _ (.cons_cons _ (sub_app hs2 (.refl _))))) ⟨v4492, rfl, rfl, ((hle3962.trans hle4489)), h4493⟩
  ·
   rintro b3961 _ _ ⟨v3965, rfl, rfl, hle3962, h3966⟩
   have hm := (unc2E hk3969)
   refine c_seq ?_
   refine c_region ?_
   refine t_st rfl (st_lss_f rfl rfl (by omega)) ?_
   refine t_nil ?_
   refine x_then_normal ?_
   refine c_seq ?_
   refine c_cond_f rfl ?_
   refine c_exit ?_
   refine x_then_exit ?_
   refine x_then_exit ?_
   refine x_block_out ?_
   refine x_then_normal ?_
   refine c_seq ?_
   refine c_region ?_
   refine t_st rfl (st_move rfl) ?_
   refine t_st rfl (st_assign rfl) ?_
   refine t_nil ?_
   refine x_then_normal ?_
   refine c_ret ?_
   obtain ⟨rfl, rfl⟩ := some2 hm
   refine x_pullb 1 rfl ?_
   refine x_pullb 1 rfl ?_
   refine x_pullb 2 rfl ?_
   exact retM (rs := [.tmp 7]) [.int .i64 (x3963)] hle3962 (by decide) rfl ⟨rfl, trivial⟩ rfl (hp' := (g6, Cl 24 [.int .i64 (x11), .int .i64 (x12), .slice A13 (l16).length c14]) :: (g7, Cl 30 [.slice A3 (l20).length c4]) :: (g8, Cl 58 [v3965]) :: (hs2 ++ R)) (.cons_cons _ (.cons_cons _ (.cons_cons _ (sub_app hs2 (.refl _))))) ⟨v3965, rfl, rfl, h3966⟩

set_option maxRecDepth 20000 in
theorem cPlanCheapest_2 (b : Base) (R : Hp) (x14 : Int) (x15 : Int) (x16 : Int) (l17 : (List Int)) (l18 : (List Int)) (g11 : Nat) (g12 : Nat) (g13 : Nat) (A3 : Option Addr) (c4 : Nat) (hs2 : Hp) (A8 : Option Addr) (c9 : Nat) (hs7 : Hp) (h5 : OS 3 (OT.fr (RT.int .i64)) b.w (.slice A3 l17.length c4) l17 hs2) (h10 : OS 3 (OT.fr (RT.int .i64)) b.w (.slice A8 l18.length c9) l18 hs7) (x260 : Int) (l261 : (List Int)) (hm : mPlanCheapest_2 x14 x15 x16 l17 l18 = some (x260, l261)) :
    CallsG Try.prog 51 [.int .i64 (x14), .int .i64 (x15), .pointer (some ⟨g11, 0, none⟩), .pointer (some ⟨g12, 0, none⟩), .pointer (some ⟨g13, 0, none⟩)] b ((g11, Cl 30 [.slice A3 (l17).length c4]) :: (g12, Cl 3 [.int .i64 (x16)]) :: (g13, Cl 30 [.slice A8 (l18).length c9]) :: (hs2 ++ (hs7 ++ R))) (fun v b' hp' => ∃ (hs258 : Hp), .tuple #[] = v ∧ (g11, Cl 30 [.slice A3 (l261).length c4]) :: (g12, Cl 3 [.int .i64 (x260)]) :: (g13, Cl 30 [.slice A8 (l18).length c9]) :: (hs258 ++ (hs7 ++ R)) = hp' ∧ OS 3 (OT.fr (RT.int .i64)) b'.w (.slice A3 l261.length c4) l261 hs258 ∧ l261.length = l17.length) := by
  refine fn_enterG 34 Try.func51 rfl Try.ntmps51 rfl ?_
  unfold mPlanCheapest_2 at hm
  refine c_seq ?_
  refine c_region ?_
  refine t_st rfl (st_load 0 rfl one30 rfl rfl) ?_
  refine t_st rfl (st_len rfl sl30) ?_
  refine t_st rfl (st_move rfl) ?_
  refine t_nil ?_
  refine x_then_normal ?_
  refine c_block ?_
  have hb264 : l17.length ≤ 9223372036854775807 := (OS.len h5)
  refine c_pullb 2 rfl ?_
  refine c_pullb 2 rfl ?_
  refine c_pullb 2 rfl ?_
  refine c_front2 [_, _, _] hs2 hs7 R rfl ?_
  refine c_front2 [_, _, _] hs7 hs2 R rfl ?_
  obtain ⟨⟨x422, l423⟩, hl426, hk427⟩ := bindS hm
  refine c_forS (fun k425 => unc2 fun x422 l423 => fun b417 e' hp' => ∃ (hs420 : Hp), [(0, .int .i64 (x14)), (1, .int .i64 (x15)), (2, .pointer (some ⟨g11, 0, none⟩)), (3, .pointer (some ⟨g12, 0, none⟩)), (4, .pointer (some ⟨g13, 0, none⟩)), (9, .int .i64 ((l17.length : Int))), (10, .int .i64 ((k425 : Int)))] = e' ∧ (g11, Cl 30 [.slice A3 (l423).length c4]) :: (g12, Cl 3 [.int .i64 (x422)]) :: (g13, Cl 30 [.slice A8 (l18).length c9]) :: (hs420 ++ (hs7 ++ R)) = hp' ∧ b.Le b417 ∧ OS 3 (OT.fr (RT.int .i64)) b417.w (.slice A3 l423.length c4) l423 hs420 ∧ l423.length = l17.length) hl426 (e' := [(0, .int .i64 (x14)), (1, .int .i64 (x15)), (2, .pointer (some ⟨g11, 0, none⟩)), (3, .pointer (some ⟨g12, 0, none⟩)), (4, .pointer (some ⟨g13, 0, none⟩)), (9, .int .i64 ((l17.length : Int))), (10, .int .i64 0)]) (hp' := (g11, Cl 30 [.slice A3 (l17).length c4]) :: (g12, Cl 3 [.int .i64 (x16)]) :: (g13, Cl 30 [.slice A8 (l18).length c9]) :: (hs2 ++ (hs7 ++ R))) ⟨rfl, rfl, rfl, rfl, rfl, rfl, rfl, trivial⟩ (.cons_cons _ (.cons_cons _ (.cons_cons _ (sub_app hs2 (sub_app hs7 (.refl _)))))) ⟨hs2, rfl, rfl, (Base.Le.refl _), h5, rfl⟩ ?_ ?_
  ·
   rintro k425 ⟨x422, l423⟩ b417 _ _ oL263 hknL263 ⟨hs420, rfl, rfl, hle418, h421, hln424⟩ hstepL263
   unfold mPlanCheapest_2_L263 at hstepL263
   have hm := (unc2E hstepL263)
   refine c_seq ?_
   refine c_region ?_
   refine t_st rfl (st_lss_t rfl rfl (by omega)) ?_
   refine t_nil ?_
   refine x_then_normal ?_
   refine c_seq ?_
   refine c_cond_t rfl ?_
   refine c_skip ?_
   refine x_then_normal ?_
   refine c_seq ?_
   refine c_block ?_
   refine c_seq ?_
   refine c_region ?_
   refine t_st rfl (st_move rfl) ?_
   refine t_st rfl (st_assign rfl) ?_
   refine t_nil ?_
   refine x_then_normal ?_
   refine c_seq ?_
   refine c_region ?_
   refine t_st rfl (st_move rfl) ?_
   refine t_st rfl (st_move rfl) ?_
   obtain ⟨_, h428, hm⟩ := bindS hm
   have h428 := shN_some h428
   refine t_st rfl (st_shr rfl rfl h428) ?_
   refine t_st rfl (st_and rfl rfl) ?_
   refine t_st rfl (st_eql rfl rfl) ?_
   refine t_nil ?_
   refine x_then_normal ?_
   refine c_cond _ rfl (fun hc429 => ?_) (fun hc429 => ?_)
   ·
    rw [if_pos (of_decide_eq_true hc429)] at hm
    refine c_seq ?_
    refine c_region ?_
    refine t_st rfl (st_load 0 rfl one30 rfl rfl) ?_
    refine t_st rfl (st_move rfl) ?_
    obtain ⟨x430, h431, hm⟩ := bindS hm
    obtain ⟨j432, hj433, hx434⟩ := idx_some h431
    obtain ⟨cs435, hs440, P441, P442, hq443, hr436, hcs437, hA438, hlt439, hb444, hho445⟩ := OS.get (sz := 1) rfl (by decide) h421 hx434
    obtain ⟨rfl, rfl⟩ := hr436
    refine t_st rfl (st_index_old j432 rfl rfl hj433 hlt439 hA438 sl30) ?_
    refine t_st rfl (st_load_rd rfl one3 (fun w ho => hcs437 w _ ho (.cons _ (.cons _ (.cons _ (List.sublist_append_left _ _)))) 0 _ rfl)) ?_
    refine t_st rfl (st_move rfl) ?_
    obtain ⟨_, h446, hm⟩ := bindS hm
    have h446 := (chk_some h446).2
    refine t_st rfl (st_add rfl rfl h446) ?_
    obtain ⟨x447, h448, hm⟩ := bindS hm
    obtain ⟨j449, hj450, hx451⟩ := idx_some h448
    obtain ⟨cs452, hs457, P458, P459, hq460, hr453, hcs454, hA455, hlt456, hb461, hho462⟩ := OS.get (sz := 1) rfl (by decide) h421 hx451
    obtain ⟨rfl, rfl⟩ := hr453
    refine t_st rfl (st_index_old j449 rfl rfl hj450 hlt456 hA455 sl30) ?_
    refine t_do rfl (u_putOS hj450 (sz := 1) (a' := x430 + x15) rfl [_, _, _] (hs7 ++ R) 0 1 [.int .i64 (x430 + x15)] rfl h421 hx451 rfl rfl rfl siz3 rfl (by intro u hu; simp only [List.mem_cons, List.not_mem_nil, or_false] at hu; subst hu; rfl) (fun cs hsj hh => by obtain ⟨rfl, rfl⟩ := hh; exact ⟨by decide, rfl, rfl⟩)) ?_
    rintro _ _ ⟨hs463, rfl, h464⟩
    refine t_hresp 0 rfl (o' := Cl 30 [.slice A3 (put l423 (k425 : Int) (x430 + x15)).length c4]) (by simp only [put_length]) ?_
    refine t_nil ?_
    refine x_then_normal ?_
    obtain ⟨x483, h484, hm⟩ := bindS hm
    obtain ⟨_, h499, hm⟩ := bindS hm
    obtain ⟨_, h500, hm⟩ := bindS hm
    refine D_drawS ((g11, Cl 30 [.slice A3 (put l423 (k425 : Int) (x430 + x15)).length c4]) :: (g12, Cl 3 [.int .i64 (x422)]) :: (g13, Cl 30 [.slice A8 (l18).length c9]) :: (hs463 ++ (hs7 ++ R))) mixed ?_
    refine E_in (.cons_cons _ (.cons_cons _ (.cons_cons _ (sub_app hs463 (sub_app hs7 (.refl _)))))) ?_
    refine E_st 0 rfl (st_load 1 rfl one3 rfl rfl) ?_
    refine E_st 1 rfl (st_move rfl) ?_
    refine E_st 2 rfl (st_load 2 rfl one30 rfl rfl) ?_
    refine E_st 3 rfl (st_move rfl) ?_
    obtain ⟨j485, hj486, hx487⟩ := idx_some h484
    obtain ⟨cs488, hs493, P494, P495, hq496, hr489, hcs490, hA491, hlt492, hb497, hho498⟩ := OS.get (sz := 1) rfl (by decide) (h10.le hle418) hx487
    obtain ⟨rfl, rfl⟩ := hr489
    refine E_st 4 rfl (st_index_old j485 rfl rfl hj486 hlt492 hA491 sl30) ?_
    refine E_st 5 rfl (st_load_rd rfl one3 (fun w ho => hcs490 w _ ho (.cons _ (.cons _ (.cons _ (sub_skip hs463 (List.sublist_append_left _ _))))) 0 _ rfl)) ?_
    have h499 := (chk_some h499).2
    refine E_st 6 rfl (st_mul rfl rfl h499) ?_
    have h500 := (chk_some h500).2
    refine E_st 7 rfl (st_add rfl rfl h500) ?_
    refine E_out ?_
    refine D_all [8] (by kernel_rfl) rfl ?_
    refine R_do (Base.Le.refl _) rfl rfl (u_store 1 rfl rfl siz3 rfl rfl (by simp)) ?_ ?_
    ·
     rintro _ _ rfl
     refine ⟨.inl (by kernel_rfl), ?_⟩
     refine D_done (by kernel_rfl) ?_
     refine x_block_normal ?_
     refine x_then_normal ?_
     refine c_region ?_
     refine t_st rfl (st_add rfl rfl (by omega)) ?_
     refine t_st rfl (st_move rfl) ?_
     refine t_nil ?_
     refine x_pullb 2 rfl ?_
     refine x_pullb 2 rfl ?_
     refine x_pullb 2 rfl ?_
     refine x_front2 [_, _, _] hs463 hs7 R rfl ?_
     refine x_front2 [_, _, _] hs7 hs463 R rfl ?_
     obtain rfl := some1 hm
     exact x_againS (e' := [(0, .int .i64 (x14)), (1, .int .i64 (x15)), (2, .pointer (some ⟨g11, 0, none⟩)), (3, .pointer (some ⟨g12, 0, none⟩)), (4, .pointer (some ⟨g13, 0, none⟩)), (9, .int .i64 ((l17.length : Int))), (10, .int .i64 ((k425 : Int) + 1))]) (hp' := (g11, Cl 30 [.slice A3 (put l423 (k425 : Int) (x430 + x15)).length c4]) :: (g12, Cl 3 [.int .i64 (x422 + (x15 * x483))]) :: (g13, Cl 30 [.slice A8 (l18).length c9]) :: (hs463 ++ (hs7 ++ R))) ⟨rfl, rfl, rfl, rfl, rfl, rfl, rfl, trivial⟩ (.cons_cons _ (.cons_cons _ (.cons_cons _ (sub_app hs463 (sub_app hs7 (.refl _)))))) ⟨hs463, rfl, rfl, (hle418), h464, ((put_length _ _ _).trans hln424)⟩
    exact R_nil
   ·
    rw [if_neg (of_decide_eq_false hc429)] at hm
    refine c_skip ?_
    refine x_block_normal ?_
    refine x_then_normal ?_
    refine c_region ?_
    refine t_st rfl (st_add rfl rfl (by omega)) ?_
    refine t_st rfl (st_move rfl) ?_
    refine t_nil ?_
    refine x_pullb 2 rfl ?_
    refine x_pullb 2 rfl ?_
    refine x_pullb 2 rfl ?_
    refine x_front2 [_, _, _] hs420 hs7 R rfl ?_
    refine x_front2 [_, _, _] hs7 hs420 R rfl ?_
    obtain rfl := some1 hm
    exact x_againS (e' := [(0, .int .i64 (x14)), (1, .int .i64 (x15)), (2, .pointer (some ⟨g11, 0, none⟩)), (3, .pointer (some ⟨g12, 0, none⟩)), (4, .pointer (some ⟨g13, 0, none⟩)), (9, .int .i64 ((l17.length : Int))), (10, .int .i64 ((k425 : Int) + 1))]) (hp' := (g11, Cl 30 [.slice A3 (l423).length c4]) :: (g12, Cl 3 [.int .i64 (x422)]) :: (g13, Cl 30 [.slice A8 (l18).length c9]) :: (hs420 ++ (hs7 ++ R))) ⟨rfl, rfl, rfl, rfl, rfl, rfl, rfl, trivial⟩ (.cons_cons _ (.cons_cons _ (.cons_cons _ (sub_app hs420 (sub_app hs7 (.refl _)))))) ⟨hs420, rfl, rfl, (hle418), h421, hln424⟩
  ·
   rintro b417 _ _ ⟨hs420, rfl, rfl, hle418, h421, hln424⟩
   have hm := (unc2E hk427)
   refine c_seq ?_
   refine c_region ?_
   refine t_st rfl (st_lss_f rfl rfl (by omega)) ?_
   refine t_nil ?_
   refine x_then_normal ?_
   refine c_seq ?_
   refine c_cond_f rfl ?_
   refine c_exit ?_
   refine x_then_exit ?_
   refine x_then_exit ?_
   refine x_block_out ?_
   obtain ⟨rfl, rfl⟩ := some2 hm
   refine x_pullb 2 rfl ?_
   refine x_pullb 2 rfl ?_
   refine x_pullb 2 rfl ?_
   refine x_front2 [_, _, _] hs420 hs7 R rfl ?_
   refine x_front2 [_, _, _] hs7 hs420 R rfl ?_
   exact endM hle418 rfl (.cons_cons _ (.cons_cons _ (.cons_cons _ (sub_app hs420 (sub_app hs7 (.refl _)))))) ⟨hs420, rfl, rfl, h421, hln424⟩

end Go.Proofs.Ytdphlkddelnaiaa
