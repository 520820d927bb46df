/- Contracts: the code computes its model (part 5). -/
import Derived.Test.YtdphlkddelnaiaaKP4
set_option linter.unusedVariables false
set_option linter.unusedSimpArgs false
namespace Go.Proofs.Ytdphlkddelnaiaa
open Go.RowKit Go.Fp

set_option maxRecDepth 20000 in
theorem cPlanBest (b : Base) (R : Hp) (s1 : PlanPeriodic) (A2 : Option Addr) (c3 : Nat) (h4 : FZ rPlanRule b.w A2 c3 s1.Rules) (x68 : Int) (x69 : Int) (l70 : (List Int)) (hm : mPlanBest s1 = some (x68, x69, l70)) :
    CallsG Try.prog 20 [.agg #[.int .i64 (s1.Period), .int .i64 (s1.Events), .slice A2 (s1.Rules).length c3]] b (R) (fun v b' hp' => ∃ (A65 : Option Addr), ∃ (c66 : Nat), ∃ (hs64 : Hp), .tuple #[.slice A65 (l70).length c66, .int .i64 (x68), .int .i64 (x69)] = v ∧ (hs64 ++ R) = hp' ∧ OS 3 (OT.fr (RT.int .i64)) b'.w (.slice A65 l70.length c66) l70 hs64 ∧ (A65 = none ↔ l70 = [])) := by
  refine fn_enterG 37 Try.func20 rfl Try.ntmps20 rfl ?_
  unfold mPlanBest at hm
  refine c_seq ?_
  refine c_region ?_
  refine t_do rfl (u_box _ rfl rfl) ?_
  rintro _ _ ⟨g72, rfl, rfl⟩
  refine t_st rfl (st_assign rfl) ?_
  refine t_st rfl (st_assign rfl) ?_
  refine t_st rfl (st_assign rfl) ?_
  refine t_nil ?_
  refine x_then_normal ?_
  refine c_seq ?_
  refine c_seq ?_
  refine c_region ?_
  refine t_st rfl (st_loadD (vs := [_, _, _]) 0 3 rfl agg24 rfl rfl rfl) ?_
  obtain ⟨x73, hcl74, hm⟩ := bindS hm
  refine t_do rfl (u_callW0 _ call24 rfl (fun w ho => cPlanCheckPeriodic _ [] s1 A2 c3 (h4.old ho) x73 hcl74) (fun _ _ _ h => h.2.symm)) ?_
  rintro _ _ ⟨⟨_, rfl, _⟩, rfl⟩
  refine t_st rfl (st_assign rfl) ?_
  refine t_nil ?_
  refine x_then_normal ?_
  refine c_seq ?_
  refine c_region ?_
  refine t_st rfl (st_move rfl) ?_
  refine t_st rfl (st_neq rfl rfl) ?_
  refine t_nil ?_
  refine x_then_normal ?_
  refine c_cond _ rfl (fun hc75 => ?_) (fun hc75 => ?_)
  ·
   rw [if_pos (of_decide_eq_true hc75)] at hm
   refine c_seq ?_
   refine c_region ?_
   refine t_st rfl (st_move rfl) ?_
   refine t_st rfl (st_assign rfl) ?_
   refine t_st rfl (st_assign rfl) ?_
   refine t_st rfl (st_assign rfl) ?_
   refine t_nil ?_
   refine x_then_normal ?_
   refine c_ret ?_
   refine x_then_ret ?_
   obtain ⟨rfl, rfl, rfl⟩ := some3 hm
   exact retM (rs := [.tmp 2, .tmp 3, .tmp 4]) [.slice none 0 0, .int .i64 (0), .int .i64 (x73)] (Base.Le.refl _) (by decide) rfl ⟨rfl, ⟨rfl, ⟨rfl, trivial⟩⟩⟩ rfl (hp' := ([] ++ R)) (.cons _ (.refl _)) ⟨none, 0, [], rfl, rfl, OS.nil, ⟨fun _ => rfl, fun _ => rfl⟩⟩
  ·
   rw [if_neg (of_decide_eq_false hc75)] at hm
   refine c_skip ?_
   refine x_then_normal ?_
   refine c_seq ?_
   refine c_seq ?_
   refine c_region ?_
   refine t_st rfl (st_field rfl fld24_1) ?_
   refine t_st rfl (st_load 0 rfl one3 rfl rfl) ?_
   refine t_st rfl (st_gtr rfl rfl) ?_
   refine t_nil ?_
   refine x_then_normal ?_
   refine c_cond _ rfl (fun hc76 => ?_) (fun hc76 => ?_)
   ·
    rw [if_pos (of_decide_eq_true hc76)] at hm
    refine c_seq ?_
    refine c_region ?_
    refine t_st rfl (st_assign rfl) ?_
    refine t_st rfl (st_assign rfl) ?_
    refine t_st rfl (st_assign rfl) ?_
    refine t_nil ?_
    refine x_then_normal ?_
    refine c_ret ?_
    refine x_then_ret ?_
    obtain ⟨rfl, rfl, rfl⟩ := some3 hm
    exact retM (rs := [.tmp 2, .tmp 3, .tmp 4]) [.slice none 0 0, .int .i64 (0), .int .i64 (4)] (Base.Le.refl _) (by decide) rfl ⟨rfl, ⟨rfl, ⟨rfl, trivial⟩⟩⟩ rfl (hp' := ([] ++ R)) (.cons _ (.refl _)) ⟨none, 0, [], rfl, rfl, OS.nil, ⟨fun _ => rfl, fun _ => rfl⟩⟩
   ·
    rw [if_neg (of_decide_eq_false hc76)] at hm
    refine c_skip ?_
    refine x_then_normal ?_
    refine c_seq ?_
    refine c_region ?_
    refine t_st rfl (st_loadD (vs := [_, _, _]) 0 3 rfl agg24 rfl rfl rfl) ?_
    obtain ⟨⟨x77, x78, l79, l80, l81⟩, hcl82, hm⟩ := bindS hm
    have hm := (unc5E hm)
    refine t_callG _ rfl call36 rfl (cPlanNewSearch _ _ s1 A2 c3 h4 x77 x78 l79 l80 l81 hcl82) ?_
    rintro _ b83 _ hle84 ⟨g85, A86, c87, A88, c89, hs90, A91, c92, hs93, rfl, rfl, h94, h95, h96⟩
    refine t_in2 [_] [_] hs90 hs93 R rfl ?_
    refine t_do rfl (u_alloc [.pointer none] zero56 rfl) ?_
    rintro _ _ ⟨g97, rfl, rfl⟩
    refine t_do rfl (u_store 0 rfl rfl siz56 rfl rfl (by simp)) ?_
    rintro _ _ rfl
    refine t_nil ?_
    refine x_then_normal ?_
    refine c_seq ?_
    refine c_region ?_
    refine t_do rfl (u_alloc [.slice none 0 0] zero30 rfl) ?_
    rintro _ _ ⟨g98, rfl, rfl⟩
    refine t_nil ?_
    refine x_then_normal ?_
    refine c_seq ?_
    refine c_region ?_
    refine t_do rfl (u_alloc [.int .i64 0] zero3 rfl) ?_
    rintro _ _ ⟨g99, rfl, rfl⟩
    refine t_do rfl (u_store 0 rfl rfl siz3 rfl rfl (by simp)) ?_
    rintro _ _ rfl
    refine t_nil ?_
    refine x_then_normal ?_
    refine c_seq ?_
    refine c_region ?_
    refine t_st rfl (st_load 2 rfl one56 rfl rfl) ?_
    refine t_st rfl (st_func _ _ rfl rfl) ?_
    refine t_st rfl (st_nil rfl) ?_
    refine t_st rfl (st_field rfl fld63_2) ?_
    refine t_do rfl (u_store 3 rfl rfl siz60 rfl rfl (by simp)) ?_
    rintro _ _ rfl
    refine t_nil ?_
    refine x_then_normal ?_
    refine c_seq ?_
    refine c_region ?_
    refine t_st rfl (st_load 2 rfl one56 rfl rfl) ?_
    refine t_st rfl (st_func _ _ rfl rfl) ?_
    refine t_st rfl (st_nil rfl) ?_
    refine t_st rfl (st_field rfl fld63_1) ?_
    refine t_do rfl (u_store 3 rfl rfl siz59 rfl rfl (by simp)) ?_
    rintro _ _ rfl
    refine t_nil ?_
    refine x_then_normal ?_
    refine c_seq ?_
    refine c_region ?_
    refine t_st rfl (st_load 2 rfl one56 rfl rfl) ?_
    obtain ⟨l100, hcl101, hm⟩ := bindS hm
    refine t_pullb 2 rfl ?_
    refine t_pullb 1 rfl ?_
    refine t_pullb 2 rfl ?_
    refine t_pullb 4 rfl ?_
    refine t_pullb 4 rfl ?_
    refine t_front2 [_, _, _, _, _] hs90 hs93 R rfl ?_
    refine t_front2 [_, _, _, _, _] hs93 hs90 R rfl ?_
    refine t_out2 [_, _, _, _, _] [] hs90 hs93 R rfl ?_
    refine t_callG _ rfl call40 rfl (cPlanSearchStart_2 _ _ x77 x78 l79 s1.Period s1.Events s1.Rules 0 l80 l81 [] g85 g72 g98 g99 g97 A86 c87 A2 c3 A88 c89 hs90 A91 c92 hs93 none 0 [] h94 (h4.le hle84) h95 h96 OS.nil ⟨fun _ => rfl, fun _ => rfl⟩ l100 hcl101) ?_
    rintro _ b102 _ hle103 ⟨g104, cs105, rfl, rfl, h106⟩
    refine t_in2 [_, _, _, _, _, _] [] hs90 hs93 R rfl ?_
    refine t_st rfl (st_assign rfl) ?_
    refine t_nil ?_
    refine x_then_normal ?_
    refine c_seq ?_
    refine c_region ?_
    refine t_st rfl (st_load 5 rfl one56 rfl rfl) ?_
    refine t_st rfl (st_move rfl) ?_
    refine t_frzb 0 rfl ?_
    intro b107 hle108 hz109
    have hat110 := at_fz hz109
    obtain ⟨⟨x111, l112, l113, l114⟩, hcl115, hm⟩ := bindS hm
    obtain ⟨Nhcl115, hcl115⟩ := lim_some hcl115
    have hm := (unc4E hm)
    refine t_pullb 4 rfl ?_
    refine t_pullb 4 rfl ?_
    refine t_pullb 4 rfl ?_
    refine t_pullb 4 rfl ?_
    refine t_pullb 4 rfl ?_
    refine t_front2 [_, _, _, _, _] hs90 hs93 R rfl ?_
    refine t_front2 [_, _, _, _, _] hs93 hs90 R rfl ?_
    refine t_out2 [_, _, _, _, _] [] hs90 hs93 R rfl ?_
    refine t_callG _ rfl call41 rfl (cPlanSearchRun_2 Nhcl115 _ _ (some l100) x77 x78 l79 s1.Period s1.Events s1.Rules 0 l80 l81 [] g85 g72 g98 g99 g97 (.pointer (some (⟨g104, 0, none⟩))) A86 c87 A2 c3 A88 c89 hs90 A91 c92 hs93 none 0 [] ⟨_, cs105, rfl, (RT.le (RT.arr 8 (RT.arr 8 (RT.int .i64))) h106 hle108), hat110⟩ (h94.le (hle103.trans hle108)) (h4.le (hle84.trans (hle103.trans hle108))) (h95.le (hle103.trans hle108)) (h96.le (hle103.trans hle108)) OS.nil ⟨fun _ => rfl, fun _ => rfl⟩ x111 l112 l113 l114 hcl115) ?_
    rintro _ b116 _ hle117 ⟨hs118, hs119, A120, c121, hs122, rfl, rfl, h123, h124, h125, h126, h127, h128⟩
    refine t_in3 [_, _, _, _, _] [] hs118 hs119 hs122 R rfl ?_
    refine t_hresp 0 rfl (o' := Cl 63 [.int .i64 (x77), .int .i64 (x78), .slice A86 (l79).length c87, .func (.func 38) #[] #[.pointer (some ⟨g72, 0, none⟩), .pointer (some ⟨g98, 0, none⟩), .pointer (some ⟨g99, 0, none⟩)], .func (.func 37) #[] #[.pointer (some ⟨g98, 0, none⟩), .pointer (some ⟨g72, 0, none⟩), .pointer (some ⟨g97, 0, none⟩), .pointer (some ⟨g99, 0, none⟩)], .slice A88 (l112).length c89, .slice A91 (l113).length c92]) (by simp only [h124]) ?_
    refine t_hresp 0 rfl (o' := Cl 63 [.int .i64 (x77), .int .i64 (x78), .slice A86 (l79).length c87, .func (.func 38) #[] #[.pointer (some ⟨g72, 0, none⟩), .pointer (some ⟨g98, 0, none⟩), .pointer (some ⟨g99, 0, none⟩)], .func (.func 37) #[] #[.pointer (some ⟨g98, 0, none⟩), .pointer (some ⟨g72, 0, none⟩), .pointer (some ⟨g97, 0, none⟩), .pointer (some ⟨g99, 0, none⟩)], .slice A88 (l112).length c89, .slice A91 (l113).length c92]) (by simp only [h126]) ?_
    refine t_nil ?_
    refine x_then_normal ?_
    refine c_seq ?_
    refine c_seq ?_
    refine c_region ?_
    refine t_st rfl (st_load 2 rfl one30 rfl rfl) ?_
    refine t_st rfl (st_eqnil_z rfl rfl h128 sl30) ?_
    refine t_nil ?_
    refine x_then_normal ?_
    refine c_cond _ rfl (fun hc129 => ?_) (fun hc129 => ?_)
    ·
     rw [if_pos hc129] at hm
     refine c_seq ?_
     refine c_region ?_
     refine t_st rfl (st_assign rfl) ?_
     refine t_st rfl (st_assign rfl) ?_
     refine t_st rfl (st_assign rfl) ?_
     refine t_nil ?_
     refine x_then_normal ?_
     refine c_ret ?_
     refine x_then_ret ?_
     obtain ⟨rfl, rfl, rfl⟩ := some3 hm
     exact retM (rs := [.tmp 2, .tmp 3, .tmp 4]) [.slice none 0 0, .int .i64 (0), .int .i64 (9)] (hle84.trans (hle103.trans (hle108.trans hle117))) (by decide) rfl ⟨rfl, ⟨rfl, ⟨rfl, trivial⟩⟩⟩ rfl (hp' := ([] ++ R)) (.cons _ (.cons _ (.cons _ (.cons _ (.cons _ (sub_skip hs118 (sub_skip hs119 (sub_skip hs122 (.refl _))))))))) ⟨none, 0, [], rfl, rfl, OS.nil, ⟨fun _ => rfl, fun _ => rfl⟩⟩
    ·
     rw [if_neg (fun hh => Bool.noConfusion (hh.symm.trans hc129))] at hm
     refine c_skip ?_
     refine x_then_normal ?_
     refine c_seq ?_
     refine D_drawS ((g85, Cl 63 [.int .i64 (x77), .int .i64 (x78), .slice A86 (l79).length c87, .func (.func 38) #[] #[.pointer (some ⟨g72, 0, none⟩), .pointer (some ⟨g98, 0, none⟩), .pointer (some ⟨g99, 0, none⟩)], .func (.func 37) #[] #[.pointer (some ⟨g98, 0, none⟩), .pointer (some ⟨g72, 0, none⟩), .pointer (some ⟨g97, 0, none⟩), .pointer (some ⟨g99, 0, none⟩)], .slice A88 (l112).length c89, .slice A91 (l113).length c92]) :: (g72, Cl 24 [.int .i64 (s1.Period), .int .i64 (s1.Events), .slice A2 (s1.Rules).length c3]) :: (g98, Cl 30 [.slice A120 (l114).length c121]) :: (g99, Cl 3 [.int .i64 (x111)]) :: (g97, Cl 56 [.pointer (some ⟨g85, 0, none⟩)]) :: (hs118 ++ (hs119 ++ (hs122 ++ R)))) mixed ?_
     refine E_in (.cons_cons _ (.cons_cons _ (.cons_cons _ (.cons_cons _ (.cons_cons _ (sub_app hs118 (sub_app hs119 (sub_app hs122 (.refl _))))))))) ?_
     refine E_st 0 rfl (st_load 2 rfl one30 rfl rfl) ?_
     refine E_st 1 rfl (st_load 3 rfl one3 rfl rfl) ?_
     refine E_st 2 rfl (st_assign rfl) ?_
     refine E_st 3 rfl (st_assign rfl) ?_
     refine E_st 4 rfl (st_assign rfl) ?_
     refine E_out ?_
     refine D_done (by kernel_rfl) ?_
     refine x_then_normal ?_
     refine c_ret ?_
     obtain ⟨rfl, rfl, rfl⟩ := some3 hm
     refine x_front3 [_, _, _, _, _] hs118 hs119 hs122 R rfl ?_
     exact retM (rs := [.tmp 2, .tmp 3, .tmp 4]) [.slice A120 (l114).length c121, .int .i64 (x111), .int .i64 (0)] (hle84.trans (hle103.trans (hle108.trans hle117))) (by decide) rfl ⟨rfl, ⟨rfl, ⟨rfl, trivial⟩⟩⟩ rfl (hp' := (hs122 ++ R)) (.cons _ (.cons _ (.cons _ (.cons _ (.cons _ (sub_app hs122 (sub_skip hs118 (sub_skip hs119 (.refl _))))))))) ⟨A120, c121, hs122, rfl, rfl, h127, h128⟩

set_option maxRecDepth 20000 in
theorem cFishkeep2PlanKept (b : Base) (R : Hp) (s1 : PlanPeriodic) (x5 : Int) (l9 : (List Int)) (A2 : Option Addr) (c3 : Nat) (A6 : Option Addr) (c7 : Nat) (h4 : FZ rPlanRule b.w A2 c3 s1.Rules) (h8 : FZ (RT.int .i64) b.w A6 c7 l9) (x416 : Bool) (hm : mFishkeep2PlanKept s1 x5 l9 = some x416) :
    CallsG Try.prog 5 [.agg #[.int .i64 (s1.Period), .int .i64 (s1.Events), .slice A2 (s1.Rules).length c3], .int .i64 (x5), .slice A6 (l9).length c7] b (R) (fun v b' hp' => .bool (x416) = v ∧ R = hp') := by
  refine fn_enterG 191 Try.func5 rfl Try.ntmps5 rfl ?_
  unfold mFishkeep2PlanKept at hm
  refine c_seq ?_
  refine c_region ?_
  refine t_do rfl (u_box _ rfl rfl) ?_
  rintro _ _ ⟨g417, rfl, rfl⟩
  refine t_st rfl (st_assign rfl) ?_
  refine t_nil ?_
  refine x_then_normal ?_
  refine c_seq ?_
  refine c_seq ?_
  refine c_region ?_
  obtain ⟨x418, hcl419, hm⟩ := bindS hm
  refine t_do rfl (u_callW0 _ call6 rfl (fun w ho => cFishkeep2AwakePlan _ [] x418 hcl419) (fun _ _ _ h => h.2.symm)) ?_
  rintro _ _ ⟨⟨_, rfl, _⟩, rfl⟩
  refine t_st rfl (st_not rfl) ?_
  refine t_nil ?_
  refine x_then_normal ?_
  refine c_cond _ rfl (fun hc420 => ?_) (fun hc420 => ?_)
  ·
   rw [if_neg (fun hh => Bool.noConfusion (hh.symm.trans (notT hc420)))] at hm
   refine c_seq ?_
   refine c_region ?_
   refine t_st rfl (st_assign rfl) ?_
   refine t_nil ?_
   refine x_then_normal ?_
   refine c_ret ?_
   refine x_then_ret ?_
   obtain rfl := some1 hm
   exact retM (rs := [.tmp 6]) [.bool (false)] (Base.Le.refl _) (by decide) rfl ⟨rfl, trivial⟩ rfl (hp' := R) (.cons _ (.refl _)) ⟨rfl, rfl⟩
  ·
   rw [if_pos (notF hc420)] at hm
   refine c_skip ?_
   refine x_then_normal ?_
   refine c_seq ?_
   refine c_seq ?_
   refine c_region ?_
   obtain ⟨x421, hcl422, hm⟩ := bindS hm
   refine t_do rfl (u_callW0 _ call7 rfl (fun w ho => cFishkeep2Periods _ [] x421 hcl422) (fun _ _ _ h => h.2.symm)) ?_
   rintro _ _ ⟨⟨_, rfl, _⟩, rfl⟩
   refine t_st rfl (st_not rfl) ?_
   refine t_nil ?_
   refine x_then_normal ?_
   refine c_cond _ rfl (fun hc423 => ?_) (fun hc423 => ?_)
   ·
    rw [if_neg (fun hh => Bool.noConfusion (hh.symm.trans (notT hc423)))] at hm
    refine c_seq ?_
    refine c_region ?_
    refine t_st rfl (st_assign rfl) ?_
    refine t_nil ?_
    refine x_then_normal ?_
    refine c_ret ?_
    refine x_then_ret ?_
    obtain rfl := some1 hm
    exact retM (rs := [.tmp 6]) [.bool (false)] (Base.Le.refl _) (by decide) rfl ⟨rfl, trivial⟩ rfl (hp' := R) (.cons _ (.refl _)) ⟨rfl, rfl⟩
   ·
    rw [if_pos (notF hc423)] at hm
    refine c_skip ?_
    refine x_then_normal ?_
    refine c_seq ?_
    refine c_seq ?_
    refine c_region ?_
    refine t_st rfl (st_loadD (vs := [_, _, _]) 0 3 rfl agg24 rfl rfl rfl) ?_
    obtain ⟨x424, hcl425, hm⟩ := bindS hm
    refine t_do rfl (u_callW0 _ call8 rfl (fun w ho => cFishref2PeriodicFault _ [] s1 A2 c3 (h4.old ho) x424 hcl425) (fun _ _ _ h => h.2.symm)) ?_
    rintro _ _ ⟨⟨_, rfl, _⟩, rfl⟩
    refine t_st rfl (st_neq rfl rfl) ?_
    refine t_nil ?_
    refine x_then_normal ?_
    refine c_cond _ rfl (fun hc426 => ?_) (fun hc426 => ?_)
    ·
     rw [if_pos (of_decide_eq_true hc426)] at hm
     refine c_seq ?_
     refine c_region ?_
     refine t_st rfl (st_assign rfl) ?_
     refine t_nil ?_
     refine x_then_normal ?_
     refine c_ret ?_
     refine x_then_ret ?_
     obtain rfl := some1 hm
     exact retM (rs := [.tmp 6]) [.bool (true)] (Base.Le.refl _) (by decide) rfl ⟨rfl, trivial⟩ rfl (hp' := R) (.cons _ (.refl _)) ⟨rfl, rfl⟩
    ·
     rw [if_neg (of_decide_eq_false hc426)] at hm
     refine c_skip ?_
     refine x_then_normal ?_
     refine c_seq ?_
     refine c_region ?_
     refine t_st rfl (st_loadD (vs := [_, _, _]) 0 3 rfl agg24 rfl rfl rfl) ?_
     obtain ⟨⟨x427, l428⟩, hcl429, hm⟩ := bindS hm
     have hm := (unc2E hm)
     refine t_callG _ rfl call9 rfl (cPlanSolve _ _ s1 A2 c3 h4 x427 l428 hcl429) ?_
     rintro _ b430 _ hle431 ⟨A432, c433, hs434, rfl, rfl, h435, h436⟩
     refine t_in1 [] [_] hs434 R rfl ?_
     refine t_st rfl (st_move rfl) ?_
     refine t_st rfl (st_extract rfl rfl) ?_
     refine t_st rfl (st_extract rfl rfl) ?_
     refine t_st rfl (st_assign rfl) ?_
     refine t_st rfl (st_assign rfl) ?_
     refine t_nil ?_
     refine x_then_normal ?_
     refine c_seq ?_
     obtain ⟨x449, hj450, hk450⟩ := bindS hm
     refine c_join (fun b447 e' hp' => [(1, .int .i64 (x5)), (3, .pointer (some ⟨g417, 0, none⟩)), (7, .slice A432 (l428).length c433), (8, .int .i64 (x427)), (59, .bool (x449))] = e' ∧ (g417, Cl 24 [.int .i64 (s1.Period), .int .i64 (s1.Events), .slice A2 (s1.Rules).length c3]) :: (hs434 ++ R) = hp' ∧ b430.Le b447) ?_ ?_
     ·
      have hm := hj450
      refine c_region ?_
      refine t_st rfl (st_move rfl) ?_
      refine t_st rfl (st_len rfl sl30) ?_
      refine t_st rfl (st_field rfl fld24_1) ?_
      refine t_st rfl (st_load 0 rfl one3 rfl rfl) ?_
      refine t_bool rfl (st_eql rfl rfl) (fun hc451 => ?_) (fun hc451 => ?_)
      ·
       rw [if_pos hc451] at hm
       refine t_st rfl (st_move rfl) ?_
       refine t_yes 38 rfl rfl rfl ?_
       refine t_st rfl (st_loadD (vs := [_, _, _]) 0 3 rfl agg24 rfl rfl rfl) ?_
       refine t_yes 38 rfl rfl rfl ?_
       refine t_st rfl (st_move rfl) ?_
       refine t_yes 38 rfl rfl rfl ?_
       obtain ⟨x452, hcl453, hm⟩ := bindS hm
       refine t_do rfl (u_callW0 _ call10 rfl (fun w ho => cFishref2TimesFault _ [] s1 l9 A2 c3 A6 c7 ((h4.le hle431).old ho) ((h8.le hle431).old ho) x452 hcl453) (fun _ _ _ h => h.2.symm)) ?_
       rintro _ _ ⟨⟨_, rfl, _⟩, rfl⟩
       refine t_yes 38 rfl rfl rfl ?_
       refine t_bool rfl (st_eql rfl rfl) (fun hc454 => ?_) (fun hc454 => ?_)
       ·
        rw [if_pos hc454] at hm
        refine t_st rfl (st_pick_t rfl rfl) ?_
        refine t_st rfl (st_move rfl) ?_
        refine t_yes 44 rfl rfl rfl ?_
        refine t_st rfl (st_loadD (vs := [_, _, _]) 0 3 rfl agg24 rfl rfl rfl) ?_
        refine t_yes 44 rfl rfl rfl ?_
        refine t_st rfl (st_move rfl) ?_
        refine t_yes 44 rfl rfl rfl ?_
        obtain ⟨x455, hcl456, hm⟩ := bindS hm
        refine t_do rfl (u_callW0 _ call11 rfl (fun w ho => cFishref2BrokenOf _ [] s1 l9 A2 c3 A6 c7 ((h4.le hle431).old ho) ((h8.le hle431).old ho) x455 hcl456) (fun _ _ _ h => h.2.symm)) ?_
        rintro _ _ ⟨⟨_, rfl, _⟩, rfl⟩
        refine t_yes 44 rfl rfl rfl ?_
        refine t_bool rfl (st_lss rfl rfl) (fun hc457 => ?_) (fun hc457 => ?_)
        ·
         rw [if_pos hc457] at hm
         refine t_st rfl (st_pick_t rfl rfl) ?_
         refine t_st rfl (st_move rfl) ?_
         refine t_yes 50 rfl rfl rfl ?_
         refine t_st rfl (st_move rfl) ?_
         refine t_yes 50 rfl rfl rfl ?_
         refine t_bool rfl (st_neq rfl rfl) (fun hc458 => ?_) (fun hc458 => ?_)
         ·
          rw [if_pos hc458] at hm
          refine t_yes 50 rfl rfl rfl ?_
          refine t_st rfl (st_move rfl) ?_
          refine t_no 53 rfl rfl rfl rfl rfl ?_
          refine t_no 53 rfl rfl rfl rfl rfl ?_
          refine t_no 53 rfl rfl rfl rfl rfl ?_
          refine t_no 53 rfl rfl rfl rfl rfl ?_
          refine t_yes 50 rfl rfl rfl ?_
          refine t_st rfl (st_pick_t rfl rfl) ?_
          refine t_st rfl (st_pick_t rfl rfl) ?_
          refine t_nil ?_
          obtain rfl := some1 hm
          exact x_join (e' := [(1, .int .i64 (x5)), (3, .pointer (some ⟨g417, 0, none⟩)), (7, .slice A432 (l428).length c433), (8, .int .i64 (x427)), (59, .bool (true))]) (hp' := (g417, Cl 24 [.int .i64 (s1.Period), .int .i64 (s1.Events), .slice A2 (s1.Rules).length c3]) :: (hs434 ++ R)) ⟨rfl, rfl, rfl, rfl, rfl, trivial⟩ (.cons_cons _ (sub_app hs434 (.refl _))) ⟨rfl, rfl, (Base.Le.refl _)⟩
         ·
          rw [if_neg hc458] at hm
          refine t_yes 50 rfl rfl rfl ?_
          refine t_st rfl (st_move rfl) ?_
          refine t_yes 53 rfl rfl rfl ?_
          refine t_st rfl (st_move rfl) ?_
          refine t_yes 53 rfl rfl rfl ?_
          refine t_st rfl (st_move rfl) ?_
          refine t_yes 53 rfl rfl rfl ?_
          obtain ⟨x459, hcl460, hm⟩ := bindS hm
          refine t_do rfl (u_callW0 _ call16 rfl (fun w ho => cSlicesCompare _ [] l9 l428 A6 c7 A432 c433 ((h8.le hle431).old ho) (OS.now (o := (OT.fr (RT.int .i64))) (l := l428) (hs := hs434) h435 ho (.cons _ (List.sublist_append_left _ _))) x459 hcl460) (fun _ _ _ h => h.2.symm)) ?_
          rintro _ _ ⟨⟨_, rfl, _⟩, rfl⟩
          refine t_yes 53 rfl rfl rfl ?_
          refine t_st rfl (st_lss rfl rfl) ?_
          refine t_yes 50 rfl rfl rfl ?_
          refine t_st rfl (st_pick_f rfl rfl) ?_
          refine t_st rfl (st_pick_t rfl rfl) ?_
          refine t_nil ?_
          obtain rfl := some1 hm
          exact x_join (e' := [(1, .int .i64 (x5)), (3, .pointer (some ⟨g417, 0, none⟩)), (7, .slice A432 (l428).length c433), (8, .int .i64 (x427)), (59, .bool (decide (x459 < 0)))]) (hp' := (g417, Cl 24 [.int .i64 (s1.Period), .int .i64 (s1.Events), .slice A2 (s1.Rules).length c3]) :: (hs434 ++ R)) ⟨rfl, rfl, rfl, rfl, rfl, trivial⟩ (.cons_cons _ (sub_app hs434 (.refl _))) ⟨rfl, rfl, (Base.Le.refl _)⟩
        ·
         rw [if_neg hc457] at hm
         refine t_st rfl (st_pick_t rfl rfl) ?_
         refine t_st rfl (st_move rfl) ?_
         refine t_no 50 rfl rfl rfl rfl rfl ?_
         refine t_no 50 rfl rfl rfl rfl rfl ?_
         refine t_no 50 rfl rfl rfl rfl rfl ?_
         refine t_no 53 rfl rfl rfl rfl rfl ?_
         refine t_no 53 rfl rfl rfl rfl rfl ?_
         refine t_no 53 rfl rfl rfl rfl rfl ?_
         refine t_no 53 rfl rfl rfl rfl rfl ?_
         refine t_no 50 rfl rfl rfl rfl rfl ?_
         refine t_st rfl (st_pick_f rfl rfl) ?_
         refine t_nil ?_
         obtain rfl := some1 hm
         exact x_join (e' := [(1, .int .i64 (x5)), (3, .pointer (some ⟨g417, 0, none⟩)), (7, .slice A432 (l428).length c433), (8, .int .i64 (x427)), (59, .bool (false))]) (hp' := (g417, Cl 24 [.int .i64 (s1.Period), .int .i64 (s1.Events), .slice A2 (s1.Rules).length c3]) :: (hs434 ++ R)) ⟨rfl, rfl, rfl, rfl, rfl, trivial⟩ (.cons_cons _ (sub_app hs434 (.refl _))) ⟨rfl, rfl, (Base.Le.refl _)⟩
       ·
        rw [if_neg hc454] at hm
        refine t_st rfl (st_pick_t rfl rfl) ?_
        refine t_st rfl (st_move rfl) ?_
        refine t_no 44 rfl rfl rfl rfl rfl ?_
        refine t_no 44 rfl rfl rfl rfl rfl ?_
        refine t_no 44 rfl rfl rfl rfl rfl ?_
        refine t_no 44 rfl rfl rfl rfl rfl ?_
        refine t_st rfl (st_pick_f rfl rfl) ?_
        refine t_st rfl (st_move rfl) ?_
        refine t_no 50 rfl rfl rfl rfl rfl ?_
        refine t_no 50 rfl rfl rfl rfl rfl ?_
        refine t_no 50 rfl rfl rfl rfl rfl ?_
        refine t_no 53 rfl rfl rfl rfl rfl ?_
        refine t_no 53 rfl rfl rfl rfl rfl ?_
        refine t_no 53 rfl rfl rfl rfl rfl ?_
        refine t_no 53 rfl rfl rfl rfl rfl ?_
        refine t_no 50 rfl rfl rfl rfl rfl ?_
        refine t_st rfl (st_pick_f rfl rfl) ?_
        refine t_nil ?_
        obtain rfl := some1 hm
        exact x_join (e' := [(1, .int .i64 (x5)), (3, .pointer (some ⟨g417, 0, none⟩)), (7, .slice A432 (l428).length c433), (8, .int .i64 (x427)), (59, .bool (false))]) (hp' := (g417, Cl 24 [.int .i64 (s1.Period), .int .i64 (s1.Events), .slice A2 (s1.Rules).length c3]) :: (hs434 ++ R)) ⟨rfl, rfl, rfl, rfl, rfl, trivial⟩ (.cons_cons _ (sub_app hs434 (.refl _))) ⟨rfl, rfl, (Base.Le.refl _)⟩
      ·
       rw [if_neg hc451] at hm
       refine t_st rfl (st_move rfl) ?_
       refine t_no 38 rfl rfl rfl rfl rfl ?_
       refine t_no 38 rfl rfl rfl rfl rfl ?_
       refine t_no 38 rfl rfl rfl rfl rfl ?_
       refine t_no 38 rfl rfl rfl rfl rfl ?_
       refine t_st rfl (st_pick_f rfl rfl) ?_
       refine t_st rfl (st_move rfl) ?_
       refine t_no 44 rfl rfl rfl rfl rfl ?_
       refine t_no 44 rfl rfl rfl rfl rfl ?_
       refine t_no 44 rfl rfl rfl rfl rfl ?_
       refine t_no 44 rfl rfl rfl rfl rfl ?_
       refine t_st rfl (st_pick_f rfl rfl) ?_
       refine t_st rfl (st_move rfl) ?_
       refine t_no 50 rfl rfl rfl rfl rfl ?_
       refine t_no 50 rfl rfl rfl rfl rfl ?_
       refine t_no 50 rfl rfl rfl rfl rfl ?_
       refine t_no 53 rfl rfl rfl rfl rfl ?_
       refine t_no 53 rfl rfl rfl rfl rfl ?_
       refine t_no 53 rfl rfl rfl rfl rfl ?_
       refine t_no 53 rfl rfl rfl rfl rfl ?_
       refine t_no 50 rfl rfl rfl rfl rfl ?_
       refine t_st rfl (st_pick_f rfl rfl) ?_
       refine t_nil ?_
       obtain rfl := some1 hm
       exact x_join (e' := [(1, .int .i64 (x5)), (3, .pointer (some ⟨g417, 0, none⟩)), (7, .slice A432 (l428).length c433), (8, .int .i64 (x427)), (59, .bool (false))]) (hp' := (g417, Cl 24 [.int .i64 (s1.Period), .int .i64 (s1.Events), .slice A2 (s1.Rules).length c3]) :: (hs434 ++ R)) ⟨rfl, rfl, rfl, rfl, rfl, trivial⟩ (.cons_cons _ (sub_app hs434 (.refl _))) ⟨rfl, rfl, (Base.Le.refl _)⟩
     ·
      rintro b447 _ _ ⟨rfl, rfl, hle448⟩
      have hm := hk450
      refine c_cond _ rfl (fun hc461 => ?_) (fun hc461 => ?_)
      ·
       rw [if_pos hc461] at hm
       refine c_seq ?_
       refine c_region ?_
       refine t_st rfl (st_assign rfl) ?_
       refine t_nil ?_
       refine x_then_normal ?_
       refine c_ret ?_
       refine x_then_ret ?_
       obtain rfl := some1 hm
       exact retM (rs := [.tmp 6]) [.bool (false)] (hle431.trans hle448) (by decide) rfl ⟨rfl, trivial⟩ rfl (hp' := R) (.cons _ (sub_skip hs434 (.refl _))) ⟨rfl, rfl⟩
      ·
       rw [if_neg (fun hh => Bool.noConfusion (hh.symm.trans hc461))] at hm
       refine c_skip ?_
       refine x_then_normal ?_
       refine c_seq ?_
       refine c_seq ?_
       refine c_region ?_
       refine t_st rfl (st_move rfl) ?_
       refine t_st rfl (st_neq rfl rfl) ?_
       refine t_nil ?_
       refine x_then_normal ?_
       refine c_cond _ rfl (fun hc462 => ?_) (fun hc462 => ?_)
       ·
        rw [if_pos (of_decide_eq_true hc462)] at hm
        obtain ⟨x466, hj467, hk467⟩ := bindS hm
        refine c_join (fun b464 e' hp' => [(6, .bool (x466))] = e' ∧ R = hp' ∧ b447.Le b464) ?_ ?_
        ·
         have hm := hj467
         refine c_region ?_
         refine t_st rfl (st_move rfl) ?_
         refine t_bool rfl (st_eql rfl rfl) (fun hc468 => ?_) (fun hc468 => ?_)
         ·
          rw [if_pos hc468] at hm
          refine t_st rfl (st_move rfl) ?_
          refine t_yes 64 rfl rfl rfl ?_
          refine t_st rfl (st_move rfl) ?_
          refine t_yes 64 rfl rfl rfl ?_
          refine t_st rfl (st_len rfl sl30) ?_
          refine t_yes 64 rfl rfl rfl ?_
          refine t_st rfl (st_eql rfl rfl) ?_
          refine t_st rfl (st_pick_t rfl rfl) ?_
          refine t_st rfl (st_assign rfl) ?_
          refine t_nil ?_
          obtain rfl := some1 hm
          exact x_join (e' := [(6, .bool (decide ((l428.length : Int) = 0)))]) (hp' := R) ⟨rfl, trivial⟩ (.cons _ (sub_skip hs434 (.refl _))) ⟨rfl, rfl, (Base.Le.refl _)⟩
         ·
          rw [if_neg hc468] at hm
          refine t_st rfl (st_move rfl) ?_
          refine t_no 64 rfl rfl rfl rfl rfl ?_
          refine t_no 64 rfl rfl rfl rfl rfl ?_
          refine t_no 64 rfl rfl rfl rfl rfl ?_
          refine t_st rfl (st_pick_f rfl rfl) ?_
          refine t_st rfl (st_assign rfl) ?_
          refine t_nil ?_
          obtain rfl := some1 hm
          exact x_join (e' := [(6, .bool (false))]) (hp' := R) ⟨rfl, trivial⟩ (.cons _ (sub_skip hs434 (.refl _))) ⟨rfl, rfl, (Base.Le.refl _)⟩
        ·
         rintro b464 _ _ ⟨rfl, rfl, hle465⟩
         have hm := hk467
         refine c_ret ?_
         refine x_then_ret ?_
         obtain rfl := some1 hm
         exact retM (rs := [.tmp 6]) [.bool (x466)] (hle431.trans (hle448.trans hle465)) (by decide) rfl ⟨rfl, trivial⟩ rfl (hp' := R) (.refl _) ⟨rfl, rfl⟩
       ·
        rw [if_neg (of_decide_eq_false hc462)] at hm
        refine c_skip ?_
        refine x_then_normal ?_
        refine c_seq ?_
        refine c_seq ?_
        refine c_region ?_
        refine t_st rfl (st_loadD (vs := [_, _, _]) 0 3 rfl agg24 rfl rfl rfl) ?_
        refine t_st rfl (st_move rfl) ?_
        obtain ⟨⟨x469, x470⟩, hcl471, hm⟩ := bindS hm
        have hm := (unc2E hm)
        refine t_do rfl (u_callW0 _ call17 rfl (fun w ho => cPlanBroken _ [] s1 l428 A2 c3 A432 c433 ((h4.le (hle431.trans hle448)).old ho) (OS.now (o := (OT.fr (RT.int .i64))) (l := l428) (hs := hs434) (h435.le hle448) ho (.cons _ (List.sublist_append_left _ _))) x469 x470 hcl471) (fun _ _ _ h => h.2.symm)) ?_
        rintro _ _ ⟨⟨_, rfl, _⟩, rfl⟩
        refine t_st rfl (st_move rfl) ?_
        refine t_st rfl (st_extract rfl rfl) ?_
        refine t_st rfl (st_extract rfl rfl) ?_
        refine t_st rfl (st_assign rfl) ?_
        refine t_st rfl (st_assign rfl) ?_
        refine t_nil ?_
        refine x_then_normal ?_
        obtain ⟨x493, hj494, hk494⟩ := bindS hm
        refine c_join (fun b491 e' hp' => [(1, .int .i64 (x5)), (3, .pointer (some ⟨g417, 0, none⟩)), (7, .slice A432 (l428).length c433), (93, .bool (x493))] = e' ∧ (g417, Cl 24 [.int .i64 (s1.Period), .int .i64 (s1.Events), .slice A2 (s1.Rules).length c3]) :: (hs434 ++ R) = hp' ∧ b447.Le b491) ?_ ?_
        ·
         have hm := hj494
         refine c_region ?_
         refine t_st rfl (st_move rfl) ?_
         refine t_bool rfl (st_neq rfl rfl) (fun hc495 => ?_) (fun hc495 => ?_)
         ·
          rw [if_pos hc495] at hm
          refine t_st rfl (st_move rfl) ?_
          refine t_no 77 rfl rfl rfl rfl rfl ?_
          refine t_no 77 rfl rfl rfl rfl rfl ?_
          refine t_st rfl (st_pick_t rfl rfl) ?_
          refine t_st rfl (st_move rfl) ?_
          refine t_no 81 rfl rfl rfl rfl rfl ?_
          refine t_no 81 rfl rfl rfl rfl rfl ?_
          refine t_no 81 rfl rfl rfl rfl rfl ?_
          refine t_no 81 rfl rfl rfl rfl rfl ?_
          refine t_no 81 rfl rfl rfl rfl rfl ?_
          refine t_st rfl (st_pick_t rfl rfl) ?_
          refine t_st rfl (st_move rfl) ?_
          refine t_no 88 rfl rfl rfl rfl rfl ?_
          refine t_no 88 rfl rfl rfl rfl rfl ?_
          refine t_no 88 rfl rfl rfl rfl rfl ?_
          refine t_no 88 rfl rfl rfl rfl rfl ?_
          refine t_st rfl (st_pick_t rfl rfl) ?_
          refine t_nil ?_
          obtain rfl := some1 hm
          exact x_join (e' := [(1, .int .i64 (x5)), (3, .pointer (some ⟨g417, 0, none⟩)), (7, .slice A432 (l428).length c433), (93, .bool (true))]) (hp' := (g417, Cl 24 [.int .i64 (s1.Period), .int .i64 (s1.Events), .slice A2 (s1.Rules).length c3]) :: (hs434 ++ R)) ⟨rfl, rfl, rfl, rfl, trivial⟩ (.cons_cons _ (sub_app hs434 (.refl _))) ⟨rfl, rfl, (Base.Le.refl _)⟩
         ·
          rw [if_neg hc495] at hm
          refine t_st rfl (st_move rfl) ?_
          refine t_yes 77 rfl rfl rfl ?_
          refine t_st rfl (st_move rfl) ?_
          refine t_yes 77 rfl rfl rfl ?_
          refine t_bool rfl (st_neq rfl rfl) (fun hc496 => ?_) (fun hc496 => ?_)
          ·
           rw [if_pos hc496] at hm
           refine t_st rfl (st_pick_f rfl rfl) ?_
           refine t_st rfl (st_move rfl) ?_
           refine t_no 81 rfl rfl rfl rfl rfl ?_
           refine t_no 81 rfl rfl rfl rfl rfl ?_
           refine t_no 81 rfl rfl rfl rfl rfl ?_
           refine t_no 81 rfl rfl rfl rfl rfl ?_
           refine t_no 81 rfl rfl rfl rfl rfl ?_
           refine t_st rfl (st_pick_t rfl rfl) ?_
           refine t_st rfl (st_move rfl) ?_
           refine t_no 88 rfl rfl rfl rfl rfl ?_
           refine t_no 88 rfl rfl rfl rfl rfl ?_
           refine t_no 88 rfl rfl rfl rfl rfl ?_
           refine t_no 88 rfl rfl rfl rfl rfl ?_
           refine t_st rfl (st_pick_t rfl rfl) ?_
           refine t_nil ?_
           obtain rfl := some1 hm
           exact x_join (e' := [(1, .int .i64 (x5)), (3, .pointer (some ⟨g417, 0, none⟩)), (7, .slice A432 (l428).length c433), (93, .bool (true))]) (hp' := (g417, Cl 24 [.int .i64 (s1.Period), .int .i64 (s1.Events), .slice A2 (s1.Rules).length c3]) :: (hs434 ++ R)) ⟨rfl, rfl, rfl, rfl, trivial⟩ (.cons_cons _ (sub_app hs434 (.refl _))) ⟨rfl, rfl, (Base.Le.refl _)⟩
          ·
           rw [if_neg hc496] at hm
           refine t_st rfl (st_pick_f rfl rfl) ?_
           refine t_st rfl (st_move rfl) ?_
           refine t_yes 81 rfl rfl rfl ?_
           refine t_st rfl (st_move rfl) ?_
           refine t_yes 81 rfl rfl rfl ?_
           refine t_st rfl (st_len rfl sl30) ?_
           refine t_yes 81 rfl rfl rfl ?_
           refine t_st rfl (st_field rfl fld24_1) ?_
           refine t_yes 81 rfl rfl rfl ?_
           refine t_st rfl (st_load 0 rfl one3 rfl rfl) ?_
           refine t_yes 81 rfl rfl rfl ?_
           refine t_bool rfl (st_neq rfl rfl) (fun hc497 => ?_) (fun hc497 => ?_)
           ·
            rw [if_pos hc497] at hm
            refine t_st rfl (st_pick_f rfl rfl) ?_
            refine t_st rfl (st_move rfl) ?_
            refine t_no 88 rfl rfl rfl rfl rfl ?_
            refine t_no 88 rfl rfl rfl rfl rfl ?_
            refine t_no 88 rfl rfl rfl rfl rfl ?_
            refine t_no 88 rfl rfl rfl rfl rfl ?_
            refine t_st rfl (st_pick_t rfl rfl) ?_
            refine t_nil ?_
            obtain rfl := some1 hm
            exact x_join (e' := [(1, .int .i64 (x5)), (3, .pointer (some ⟨g417, 0, none⟩)), (7, .slice A432 (l428).length c433), (93, .bool (true))]) (hp' := (g417, Cl 24 [.int .i64 (s1.Period), .int .i64 (s1.Events), .slice A2 (s1.Rules).length c3]) :: (hs434 ++ R)) ⟨rfl, rfl, rfl, rfl, trivial⟩ (.cons_cons _ (sub_app hs434 (.refl _))) ⟨rfl, rfl, (Base.Le.refl _)⟩
           ·
            rw [if_neg hc497] at hm
            refine t_st rfl (st_pick_f rfl rfl) ?_
            refine t_st rfl (st_move rfl) ?_
            refine t_yes 88 rfl rfl rfl ?_
            refine t_st rfl (st_move rfl) ?_
            refine t_yes 88 rfl rfl rfl ?_
            obtain ⟨x498, h499, hm⟩ := bindS hm
            obtain ⟨j500, hj501, hx502⟩ := idx_some h499
            obtain ⟨cs503, hs508, P509, P510, hq511, hr504, hcs505, hA506, hlt507, hb512, hho513⟩ := OS.get (sz := 1) rfl (by decide) (h435.le hle448) hx502
            obtain ⟨rfl, rfl⟩ := hr504
            refine t_st rfl (st_index_old j500 rfl rfl hj501 hlt507 hA506 sl30) ?_
            refine t_yes 88 rfl rfl rfl ?_
            refine t_st rfl (st_load_rd rfl one3 (fun w ho => hcs505 w _ ho (.cons _ (List.sublist_append_left _ _)) 0 _ rfl)) ?_
            refine t_yes 88 rfl rfl rfl ?_
            refine t_st rfl (st_neq rfl rfl) ?_
            refine t_st rfl (st_pick_f rfl rfl) ?_
            refine t_nil ?_
            obtain rfl := some1 hm
            exact x_join (e' := [(1, .int .i64 (x5)), (3, .pointer (some ⟨g417, 0, none⟩)), (7, .slice A432 (l428).length c433), (93, .bool (decide (x498 ≠ 0)))]) (hp' := (g417, Cl 24 [.int .i64 (s1.Period), .int .i64 (s1.Events), .slice A2 (s1.Rules).length c3]) :: (hs434 ++ R)) ⟨rfl, rfl, rfl, rfl, trivial⟩ (.cons_cons _ (sub_app hs434 (.refl _))) ⟨rfl, rfl, (Base.Le.refl _)⟩
        ·
         rintro b491 _ _ ⟨rfl, rfl, hle492⟩
         have hm := hk494
         refine c_cond _ rfl (fun hc514 => ?_) (fun hc514 => ?_)
         ·
          rw [if_pos hc514] at hm
          refine c_seq ?_
          refine c_region ?_
          refine t_st rfl (st_assign rfl) ?_
          refine t_nil ?_
          refine x_then_normal ?_
          refine c_ret ?_
          refine x_then_ret ?_
          obtain rfl := some1 hm
          exact retM (rs := [.tmp 6]) [.bool (false)] (hle431.trans (hle448.trans hle492)) (by decide) rfl ⟨rfl, trivial⟩ rfl (hp' := R) (.cons _ (sub_skip hs434 (.refl _))) ⟨rfl, rfl⟩
         ·
          rw [if_neg (fun hh => Bool.noConfusion (hh.symm.trans hc514))] at hm
          refine c_skip ?_
          refine x_then_normal ?_
          refine c_seq ?_
          refine c_region ?_
          refine t_st rfl (st_move rfl) ?_
          obtain ⟨l515, hcl516, hm⟩ := bindS hm
          refine t_do rfl (u_callWF [_] (hs434 ++ R) _ rfl call18 rfl (fun w ho => cSlicesClone _ [] l428 A432 c433 (OS.now (o := (OT.fr (RT.int .i64))) (l := l428) (hs := hs434) (h435.le (hle448.trans hle492)) ho (.cons _ (List.sublist_append_left _ _))) l515 hcl516)) ?_
          rintro _ _ ⟨_, _, rfl, A517, c518, hs519, rfl, hq522, h520⟩
          obtain rfl := List.append_cancel_right hq522
          have h521 := flat_fz (w' := b491.w) (fun _ _ _ _ h => h) h520
          refine t_st rfl (st_assign rfl) ?_
          refine t_nil ?_
          refine x_then_normal ?_
          refine c_seq ?_
          refine c_seq ?_
          refine c_region ?_
          refine t_st rfl (st_move rfl) ?_
          refine t_st rfl (st_len rfl sl30) ?_
          refine t_st rfl (st_move rfl) ?_
          refine t_nil ?_
          refine x_then_normal ?_
          refine c_block ?_
          have hb524 : l515.length ≤ 9223372036854775807 := (OS.len h521)
          refine c_front2 [_] hs519 hs434 R rfl ?_
          obtain ⟨l694, hl696, hk697⟩ := bindS hm
          refine c_forS (fun k695 => fun l694 => fun b687 e' hp' => ∃ (A691 : Option Addr), ∃ (c692 : Nat), ∃ (hs690 : Hp), [(1, .int .i64 (x5)), (3, .pointer (some ⟨g417, 0, none⟩)), (7, .slice A432 (l428).length c433), (11, .slice A691 (l694).length c692), (97, .int .i64 ((l515.length : Int))), (98, .int .i64 ((k695 : Int)))] = e' ∧ (g417, Cl 24 [.int .i64 (s1.Period), .int .i64 (s1.Events), .slice A2 (s1.Rules).length c3]) :: (hs434 ++ (hs690 ++ R)) = hp' ∧ b491.Le b687 ∧ OS 3 (OT.fr (RT.int .i64)) b687.w (.slice A691 l694.length c692) l694 hs690) hl696 (e' := [(1, .int .i64 (x5)), (3, .pointer (some ⟨g417, 0, none⟩)), (7, .slice A432 (l428).length c433), (11, .slice A517 (l515).length c518), (97, .int .i64 ((l515.length : Int))), (98, .int .i64 0)]) (hp' := (g417, Cl 24 [.int .i64 (s1.Period), .int .i64 (s1.Events), .slice A2 (s1.Rules).length c3]) :: (hs434 ++ (hs519 ++ R))) ⟨rfl, rfl, rfl, rfl, rfl, rfl, trivial⟩ (.cons_cons _ (sub_app hs434 (sub_app hs519 (.refl _)))) ⟨A517, c518, hs519, rfl, rfl, (Base.Le.refl _), h521⟩ ?_ ?_
          ·
           rintro k695 l694 b687 _ _ oL523 hknL523 ⟨A691, c692, hs690, rfl, rfl, hle688, h693⟩ hstepL523
           unfold mFishkeep2PlanKept_L523 at hstepL523
           have hm := hstepL523
           refine c_seq ?_
           refine c_region ?_
           refine t_st rfl (st_lss_t rfl rfl (by omega)) ?_
           refine t_nil ?_
           refine x_then_normal ?_
           refine c_seq ?_
           refine c_cond_t rfl ?_
           refine c_skip ?_
           refine x_then_normal ?_
           refine c_seq ?_
           refine c_block ?_
           refine c_seq ?_
           refine c_region ?_
           refine t_st rfl (st_move rfl) ?_
           refine t_st rfl (st_assign rfl) ?_
           refine t_nil ?_
           refine x_then_normal ?_
           obtain ⟨x737, h738, hm⟩ := bindS hm
           obtain ⟨_, h753, hm⟩ := bindS hm
           obtain ⟨_, h754, hm⟩ := bindS hm
           obtain ⟨_, h755, hm⟩ := bindS hm
           obtain ⟨_, h756, hm⟩ := bindS hm
           obtain ⟨_, h757, hm⟩ := bindS hm
           obtain ⟨x758, h759, hm⟩ := bindS hm
           refine c_front2 [_] hs434 hs690 R rfl ?_
           refine D_drawS ((g417, Cl 24 [.int .i64 (s1.Period), .int .i64 (s1.Events), .slice A2 (s1.Rules).length c3]) :: (hs690 ++ (hs434 ++ R))) mixed ?_
           refine E_in (.cons_cons _ (sub_app hs690 (sub_app hs434 (.refl _)))) ?_
           refine E_st 0 rfl (st_move rfl) ?_
           refine E_st 1 rfl (st_move rfl) ?_
           refine E_st 2 rfl (st_move rfl) ?_
           refine E_st 3 rfl (st_move rfl) ?_
           obtain ⟨j739, hj740, hx741⟩ := idx_some h738
           obtain ⟨cs742, hs747, P748, P749, hq750, hr743, hcs744, hA745, hlt746, hb751, hho752⟩ := OS.get (sz := 1) rfl (by decide) h693 hx741
           obtain ⟨rfl, rfl⟩ := hr743
           refine E_st 4 rfl (st_index_old j739 rfl rfl hj740 hlt746 hA745 sl30) ?_
           refine E_st 5 rfl (st_load_rd rfl one3 (fun w ho => hcs744 w _ ho (.cons _ (List.sublist_append_left _ _)) 0 _ rfl)) ?_
           refine E_st 6 rfl (st_move rfl) ?_
           refine E_st 7 rfl (st_field rfl fld24_0) ?_
           refine E_st 8 rfl (st_load 0 rfl one3 rfl rfl) ?_
           refine E_st 9 rfl (st_rem rfl rfl (ne0_some h753)) ?_
           refine E_st 10 rfl (st_field rfl fld24_0) ?_
           refine E_st 11 rfl (st_load 0 rfl one3 rfl rfl) ?_
           have h754 := (chk_some h754).2
           refine E_st 12 rfl (st_add rfl rfl h754) ?_
           refine E_st 13 rfl (st_field rfl fld24_0) ?_
           refine E_st 14 rfl (st_load 0 rfl one3 rfl rfl) ?_
           refine E_st 15 rfl (st_rem rfl rfl (ne0_some h755)) ?_
           have h756 := (chk_some h756).2
           refine E_st 16 rfl (st_add rfl rfl h756) ?_
           refine E_st 17 rfl (st_field rfl fld24_0) ?_
           refine E_st 18 rfl (st_load 0 rfl one3 rfl rfl) ?_
           refine E_st 19 rfl (st_rem rfl rfl (ne0_some h757)) ?_
           obtain ⟨j760, hj761, hx762⟩ := idx_some h759
           obtain ⟨cs763, hs768, P769, P770, hq771, hr764, hcs765, hA766, hlt767, hb772, hho773⟩ := OS.get (sz := 1) rfl (by decide) h693 hx762
           obtain ⟨rfl, rfl⟩ := hr764
           refine E_st 20 rfl (st_index_old j760 rfl rfl hj761 hlt767 hA766 sl30) ?_
           refine E_out ?_
           refine D_all [21] (by kernel_rfl) rfl ?_
           refine R_do (Base.Le.refl _) rfl rfl (u_putOS hj761 (sz := 1) (a' := Int.tmod (x737 + (Int.tmod ((Int.tmod x5 s1.Period) + s1.Period) s1.Period)) s1.Period) rfl [_] (hs434 ++ R) 0 1 [.int .i64 (Int.tmod (x737 + (Int.tmod ((Int.tmod x5 s1.Period) + s1.Period) s1.Period)) s1.Period)] rfl h693 hx762 rfl rfl rfl siz3 rfl (by intro u hu; simp only [List.mem_cons, List.not_mem_nil, or_false] at hu; subst hu; rfl) (fun cs hsj hh => by obtain ⟨rfl, rfl⟩ := hh; exact ⟨by decide, rfl, rfl⟩)) ?_ ?_
           ·
            rintro _ _ ⟨hs774, rfl, h775⟩
            refine ⟨.inl (by kernel_rfl), ?_⟩
            refine d_resp 11 rfl (v' := .slice A691 (put l694 (k695 : Int) (Int.tmod (x737 + (Int.tmod ((Int.tmod x5 s1.Period) + s1.Period) s1.Period)) s1.Period)).length c692) (by simp only [put_length]) ?_
            refine D_done (by kernel_rfl) ?_
            refine x_block_normal ?_
            refine x_then_normal ?_
            refine c_region ?_
            refine t_st rfl (st_add rfl rfl (by omega)) ?_
            refine t_st rfl (st_move rfl) ?_
            refine t_nil ?_
            refine x_front2 [_] hs774 hs434 R rfl ?_
            obtain rfl := some1 hm
            exact x_againS (e' := [(1, .int .i64 (x5)), (3, .pointer (some ⟨g417, 0, none⟩)), (7, .slice A432 (l428).length c433), (11, .slice A691 (put l694 (k695 : Int) (Int.tmod (x737 + (Int.tmod ((Int.tmod x5 s1.Period) + s1.Period) s1.Period)) s1.Period)).length c692), (97, .int .i64 ((l515.length : Int))), (98, .int .i64 ((k695 : Int) + 1))]) (hp' := (g417, Cl 24 [.int .i64 (s1.Period), .int .i64 (s1.Events), .slice A2 (s1.Rules).length c3]) :: (hs434 ++ (hs774 ++ R))) ⟨rfl, rfl, rfl, rfl, rfl, rfl, trivial⟩ (.cons_cons _ (sub_app hs434 (sub_app hs774 (.refl _)))) ⟨A691, c692, hs774, rfl, rfl, (hle688), h775⟩
           exact R_nil
          ·
           rintro b687 _ _ ⟨A691, c692, hs690, rfl, rfl, hle688, h693⟩
           have hm := hk697
           refine c_seq ?_
           refine c_region ?_
           refine t_st rfl (st_lss_f rfl rfl (by omega)) ?_
           refine t_nil ?_
           refine x_then_normal ?_
           refine c_seq ?_
           refine c_cond_f rfl ?_
           refine c_exit ?_
           refine x_then_exit ?_
           refine x_then_exit ?_
           refine x_block_out ?_
           refine x_then_normal ?_
           refine c_seq ?_
           refine c_region ?_
           refine t_st rfl (st_loadD (vs := [_, _, _]) 0 3 rfl agg24 rfl rfl rfl) ?_
           refine t_st rfl (st_move rfl) ?_
           obtain ⟨⟨x776, x777⟩, hcl778, hm⟩ := bindS hm
           have hm := (unc2E hm)
           refine t_do rfl (u_callW0 _ call17 rfl (fun w ho => cPlanBroken _ [] s1 l694 A2 c3 A691 c692 ((h4.le (hle431.trans (hle448.trans (hle492.trans hle688)))).old ho) (OS.now (o := (OT.fr (RT.int .i64))) (l := l694) (hs := hs690) h693 ho (.cons _ (sub_skip hs434 (List.sublist_append_left _ _)))) x776 x777 hcl778) (fun _ _ _ h => h.2.symm)) ?_
           rintro _ _ ⟨⟨_, rfl, _⟩, rfl⟩
           refine t_st rfl (st_move rfl) ?_
           refine t_st rfl (st_extract rfl rfl) ?_
           refine t_st rfl (st_extract rfl rfl) ?_
           refine t_st rfl (st_assign rfl) ?_
           refine t_st rfl (st_assign rfl) ?_
           refine t_nil ?_
           refine x_then_normal ?_
           refine c_seq ?_
           refine c_region ?_
           refine t_st rfl (st_loadD (vs := [_, _, _]) 0 3 rfl agg24 rfl rfl rfl) ?_
           refine t_st rfl (st_move rfl) ?_
           obtain ⟨⟨x779, x780⟩, hcl781, hm⟩ := bindS hm
           have hm := (unc2E hm)
           refine t_do rfl (u_callW0 _ call19 rfl (fun w ho => cPlanCost _ [] s1 l428 A2 c3 A432 c433 ((h4.le (hle431.trans (hle448.trans (hle492.trans hle688)))).old ho) (OS.now (o := (OT.fr (RT.int .i64))) (l := l428) (hs := hs434) (h435.le (hle448.trans (hle492.trans hle688))) ho (.cons _ (List.sublist_append_left _ _))) x779 x780 hcl781) (fun _ _ _ h => h.2.symm)) ?_
           rintro _ _ ⟨⟨_, rfl, _⟩, rfl⟩
           refine t_st rfl (st_move rfl) ?_
           refine t_st rfl (st_extract rfl rfl) ?_
           refine t_st rfl (st_extract rfl rfl) ?_
           refine t_st rfl (st_assign rfl) ?_
           refine t_st rfl (st_assign rfl) ?_
           refine t_nil ?_
           refine x_then_normal ?_
           refine c_seq ?_
           refine c_region ?_
           refine t_st rfl (st_loadD (vs := [_, _, _]) 0 3 rfl agg24 rfl rfl rfl) ?_
           refine t_st rfl (st_move rfl) ?_
           obtain ⟨⟨x782, x783⟩, hcl784, hm⟩ := bindS hm
           have hm := (unc2E hm)
           refine t_do rfl (u_callW0 _ call19 rfl (fun w ho => cPlanCost _ [] s1 l694 A2 c3 A691 c692 ((h4.le (hle431.trans (hle448.trans (hle492.trans hle688)))).old ho) (OS.now (o := (OT.fr (RT.int .i64))) (l := l694) (hs := hs690) h693 ho (.cons _ (sub_skip hs434 (List.sublist_append_left _ _)))) x782 x783 hcl784) (fun _ _ _ h => h.2.symm)) ?_
           rintro _ _ ⟨⟨_, rfl, _⟩, rfl⟩
           refine t_st rfl (st_move rfl) ?_
           refine t_st rfl (st_extract rfl rfl) ?_
           refine t_st rfl (st_extract rfl rfl) ?_
           refine t_st rfl (st_assign rfl) ?_
           refine t_st rfl (st_assign rfl) ?_
           refine t_nil ?_
           refine x_then_normal ?_
           refine c_seq ?_
           obtain ⟨x791, hj792, hk792⟩ := bindS hm
           refine c_join (fun b789 e' hp' => [(3, .pointer (some ⟨g417, 0, none⟩)), (14, .int .i64 (x779)), (159, .bool (x791))] = e' ∧ (g417, Cl 24 [.int .i64 (s1.Period), .int .i64 (s1.Events), .slice A2 (s1.Rules).length c3]) :: R = hp' ∧ b687.Le b789) ?_ ?_
           ·
            have hm := hj792
            refine c_region ?_
            refine t_st rfl (st_move rfl) ?_
            refine t_bool rfl (st_neq rfl rfl) (fun hc793 => ?_) (fun hc793 => ?_)
            ·
             rw [if_pos hc793] at hm
             refine t_st rfl (st_move rfl) ?_
             refine t_no 143 rfl rfl rfl rfl rfl ?_
             refine t_no 143 rfl rfl rfl rfl rfl ?_
             refine t_st rfl (st_pick_t rfl rfl) ?_
             refine t_st rfl (st_move rfl) ?_
             refine t_no 147 rfl rfl rfl rfl rfl ?_
             refine t_no 147 rfl rfl rfl rfl rfl ?_
             refine t_st rfl (st_pick_t rfl rfl) ?_
             refine t_st rfl (st_move rfl) ?_
             refine t_no 151 rfl rfl rfl rfl rfl ?_
             refine t_no 151 rfl rfl rfl rfl rfl ?_
             refine t_st rfl (st_pick_t rfl rfl) ?_
             refine t_st rfl (st_move rfl) ?_
             refine t_no 155 rfl rfl rfl rfl rfl ?_
             refine t_no 155 rfl rfl rfl rfl rfl ?_
             refine t_no 155 rfl rfl rfl rfl rfl ?_
             refine t_st rfl (st_pick_t rfl rfl) ?_
             refine t_nil ?_
             obtain rfl := some1 hm
             exact x_join (e' := [(3, .pointer (some ⟨g417, 0, none⟩)), (14, .int .i64 (x779)), (159, .bool (true))]) (hp' := (g417, Cl 24 [.int .i64 (s1.Period), .int .i64 (s1.Events), .slice A2 (s1.Rules).length c3]) :: R) ⟨rfl, rfl, rfl, trivial⟩ (.cons_cons _ (sub_skip hs434 (sub_skip hs690 (.refl _)))) ⟨rfl, rfl, (Base.Le.refl _)⟩
            ·
             rw [if_neg hc793] at hm
             refine t_st rfl (st_move rfl) ?_
             refine t_yes 143 rfl rfl rfl ?_
             refine t_st rfl (st_move rfl) ?_
             refine t_yes 143 rfl rfl rfl ?_
             refine t_bool rfl (st_neq rfl rfl) (fun hc794 => ?_) (fun hc794 => ?_)
             ·
              rw [if_pos hc794] at hm
              refine t_st rfl (st_pick_f rfl rfl) ?_
              refine t_st rfl (st_move rfl) ?_
              refine t_no 147 rfl rfl rfl rfl rfl ?_
              refine t_no 147 rfl rfl rfl rfl rfl ?_
              refine t_st rfl (st_pick_t rfl rfl) ?_
              refine t_st rfl (st_move rfl) ?_
              refine t_no 151 rfl rfl rfl rfl rfl ?_
              refine t_no 151 rfl rfl rfl rfl rfl ?_
              refine t_st rfl (st_pick_t rfl rfl) ?_
              refine t_st rfl (st_move rfl) ?_
              refine t_no 155 rfl rfl rfl rfl rfl ?_
              refine t_no 155 rfl rfl rfl rfl rfl ?_
              refine t_no 155 rfl rfl rfl rfl rfl ?_
              refine t_st rfl (st_pick_t rfl rfl) ?_
              refine t_nil ?_
              obtain rfl := some1 hm
              exact x_join (e' := [(3, .pointer (some ⟨g417, 0, none⟩)), (14, .int .i64 (x779)), (159, .bool (true))]) (hp' := (g417, Cl 24 [.int .i64 (s1.Period), .int .i64 (s1.Events), .slice A2 (s1.Rules).length c3]) :: R) ⟨rfl, rfl, rfl, trivial⟩ (.cons_cons _ (sub_skip hs434 (sub_skip hs690 (.refl _)))) ⟨rfl, rfl, (Base.Le.refl _)⟩
             ·
              rw [if_neg hc794] at hm
              refine t_st rfl (st_pick_f rfl rfl) ?_
              refine t_st rfl (st_move rfl) ?_
              refine t_yes 147 rfl rfl rfl ?_
              refine t_st rfl (st_move rfl) ?_
              refine t_yes 147 rfl rfl rfl ?_
              refine t_bool rfl (st_neq rfl rfl) (fun hc795 => ?_) (fun hc795 => ?_)
              ·
               rw [if_pos hc795] at hm
               refine t_st rfl (st_pick_f rfl rfl) ?_
               refine t_st rfl (st_move rfl) ?_
               refine t_no 151 rfl rfl rfl rfl rfl ?_
               refine t_no 151 rfl rfl rfl rfl rfl ?_
               refine t_st rfl (st_pick_t rfl rfl) ?_
               refine t_st rfl (st_move rfl) ?_
               refine t_no 155 rfl rfl rfl rfl rfl ?_
               refine t_no 155 rfl rfl rfl rfl rfl ?_
               refine t_no 155 rfl rfl rfl rfl rfl ?_
               refine t_st rfl (st_pick_t rfl rfl) ?_
               refine t_nil ?_
               obtain rfl := some1 hm
               exact x_join (e' := [(3, .pointer (some ⟨g417, 0, none⟩)), (14, .int .i64 (x779)), (159, .bool (true))]) (hp' := (g417, Cl 24 [.int .i64 (s1.Period), .int .i64 (s1.Events), .slice A2 (s1.Rules).length c3]) :: R) ⟨rfl, rfl, rfl, trivial⟩ (.cons_cons _ (sub_skip hs434 (sub_skip hs690 (.refl _)))) ⟨rfl, rfl, (Base.Le.refl _)⟩
              ·
               rw [if_neg hc795] at hm
               refine t_st rfl (st_pick_f rfl rfl) ?_
               refine t_st rfl (st_move rfl) ?_
               refine t_yes 151 rfl rfl rfl ?_
               refine t_st rfl (st_move rfl) ?_
               refine t_yes 151 rfl rfl rfl ?_
               refine t_bool rfl (st_neq rfl rfl) (fun hc796 => ?_) (fun hc796 => ?_)
               ·
                rw [if_pos hc796] at hm
                refine t_st rfl (st_pick_f rfl rfl) ?_
                refine t_st rfl (st_move rfl) ?_
                refine t_no 155 rfl rfl rfl rfl rfl ?_
                refine t_no 155 rfl rfl rfl rfl rfl ?_
                refine t_no 155 rfl rfl rfl rfl rfl ?_
                refine t_st rfl (st_pick_t rfl rfl) ?_
                refine t_nil ?_
                obtain rfl := some1 hm
                exact x_join (e' := [(3, .pointer (some ⟨g417, 0, none⟩)), (14, .int .i64 (x779)), (159, .bool (true))]) (hp' := (g417, Cl 24 [.int .i64 (s1.Period), .int .i64 (s1.Events), .slice A2 (s1.Rules).length c3]) :: R) ⟨rfl, rfl, rfl, trivial⟩ (.cons_cons _ (sub_skip hs434 (sub_skip hs690 (.refl _)))) ⟨rfl, rfl, (Base.Le.refl _)⟩
               ·
                rw [if_neg hc796] at hm
                refine t_st rfl (st_pick_f rfl rfl) ?_
                refine t_st rfl (st_move rfl) ?_
                refine t_yes 155 rfl rfl rfl ?_
                refine t_st rfl (st_move rfl) ?_
                refine t_yes 155 rfl rfl rfl ?_
                refine t_st rfl (st_move rfl) ?_
                refine t_yes 155 rfl rfl rfl ?_
                refine t_st rfl (st_neq rfl rfl) ?_
                refine t_st rfl (st_pick_f rfl rfl) ?_
                refine t_nil ?_
                obtain rfl := some1 hm
                exact x_join (e' := [(3, .pointer (some ⟨g417, 0, none⟩)), (14, .int .i64 (x779)), (159, .bool (decide (x779 ≠ x782)))]) (hp' := (g417, Cl 24 [.int .i64 (s1.Period), .int .i64 (s1.Events), .slice A2 (s1.Rules).length c3]) :: R) ⟨rfl, rfl, rfl, trivial⟩ (.cons_cons _ (sub_skip hs434 (sub_skip hs690 (.refl _)))) ⟨rfl, rfl, (Base.Le.refl _)⟩
           ·
            rintro b789 _ _ ⟨rfl, rfl, hle790⟩
            have hm := hk792
            refine c_cond _ rfl (fun hc797 => ?_) (fun hc797 => ?_)
            ·
             rw [if_pos hc797] at hm
             refine c_seq ?_
             refine c_region ?_
             refine t_st rfl (st_assign rfl) ?_
             refine t_nil ?_
             refine x_then_normal ?_
             refine c_ret ?_
             refine x_then_ret ?_
             obtain rfl := some1 hm
             exact retM (rs := [.tmp 6]) [.bool (false)] (hle431.trans (hle448.trans (hle492.trans (hle688.trans hle790)))) (by decide) rfl ⟨rfl, trivial⟩ rfl (hp' := R) (.cons _ (.refl _)) ⟨rfl, rfl⟩
            ·
             rw [if_neg (fun hh => Bool.noConfusion (hh.symm.trans hc797))] at hm
             refine c_skip ?_
             refine x_then_normal ?_
             refine c_seq ?_
             refine c_seq ?_
             refine c_region ?_
             refine t_st rfl (st_field rfl fld24_1) ?_
             refine t_st rfl (st_load 0 rfl one3 rfl rfl) ?_
             refine t_st rfl (st_gtr rfl rfl) ?_
             refine t_nil ?_
             refine x_then_normal ?_
             refine c_cond _ rfl (fun hc798 => ?_) (fun hc798 => ?_)
             ·
              rw [if_pos (of_decide_eq_true hc798)] at hm
              refine c_seq ?_
              refine c_region ?_
              refine t_st rfl (st_assign rfl) ?_
              refine t_nil ?_
              refine x_then_normal ?_
              refine c_ret ?_
              refine x_then_ret ?_
              obtain rfl := some1 hm
              exact retM (rs := [.tmp 6]) [.bool (true)] (hle431.trans (hle448.trans (hle492.trans (hle688.trans hle790)))) (by decide) rfl ⟨rfl, trivial⟩ rfl (hp' := R) (.cons _ (.refl _)) ⟨rfl, rfl⟩
             ·
              rw [if_neg (of_decide_eq_false hc798)] at hm
              refine c_skip ?_
              refine x_then_normal ?_
              refine c_seq ?_
              refine c_region ?_
              refine t_st rfl (st_loadD (vs := [_, _, _]) 0 3 rfl agg24 rfl rfl rfl) ?_
              obtain ⟨⟨x799, x800, l801⟩, hcl802, hm⟩ := bindS hm
              have hm := (unc3E hm)
              refine t_callG _ rfl call20 rfl (cPlanBest _ _ s1 A2 c3 (h4.le (hle431.trans (hle448.trans (hle492.trans (hle688.trans hle790))))) x799 x800 l801 hcl802) ?_
              rintro _ b803 _ hle804 ⟨A805, c806, hs807, rfl, rfl, h808, h809⟩
              refine t_in1 [] [_] hs807 R rfl ?_
              refine t_st rfl (st_move rfl) ?_
              refine t_st rfl (st_extract rfl rfl) ?_
              refine t_st rfl (st_extract rfl rfl) ?_
              refine t_st rfl (st_extract rfl rfl) ?_
              refine t_st rfl (st_assign rfl) ?_
              refine t_st rfl (st_assign rfl) ?_
              refine t_st rfl (st_assign rfl) ?_
              refine t_nil ?_
              refine x_then_normal ?_
              refine c_seq ?_
              refine c_region ?_
              refine t_st rfl (st_loadD (vs := [_, _, _]) 0 3 rfl agg24 rfl rfl rfl) ?_
              refine t_st rfl (st_move rfl) ?_
              obtain ⟨⟨x810, x811⟩, hcl812, hm⟩ := bindS hm
              have hm := (unc2E hm)
              refine t_do rfl (u_callW0 _ call19 rfl (fun w ho => cPlanCost _ [] s1 l801 A2 c3 A805 c806 ((h4.le (hle431.trans (hle448.trans (hle492.trans (hle688.trans (hle790.trans hle804)))))).old ho) (OS.now (o := (OT.fr (RT.int .i64))) (l := l801) (hs := hs807) h808 ho (.cons _ (List.sublist_append_left _ _))) x810 x811 hcl812) (fun _ _ _ h => h.2.symm)) ?_
              rintro _ _ ⟨⟨_, rfl, _⟩, rfl⟩
              refine t_st rfl (st_move rfl) ?_
              refine t_st rfl (st_extract rfl rfl) ?_
              refine t_st rfl (st_extract rfl rfl) ?_
              refine t_st rfl (st_assign rfl) ?_
              refine t_st rfl (st_assign rfl) ?_
              refine t_nil ?_
              refine x_then_normal ?_
              obtain ⟨x818, hj819, hk819⟩ := bindS hm
              refine c_join (fun b816 e' hp' => [(6, .bool (x818))] = e' ∧ R = hp' ∧ b803.Le b816) ?_ ?_
              ·
               have hm := hj819
               refine c_region ?_
               refine t_st rfl (st_move rfl) ?_
               refine t_bool rfl (st_eql rfl rfl) (fun hc820 => ?_) (fun hc820 => ?_)
               ·
                rw [if_pos hc820] at hm
                refine t_st rfl (st_move rfl) ?_
                refine t_yes 177 rfl rfl rfl ?_
                refine t_st rfl (st_move rfl) ?_
                refine t_yes 177 rfl rfl rfl ?_
                refine t_bool rfl (st_eql rfl rfl) (fun hc821 => ?_) (fun hc821 => ?_)
                ·
                 rw [if_pos hc821] at hm
                 refine t_st rfl (st_pick_t rfl rfl) ?_
                 refine t_st rfl (st_move rfl) ?_
                 refine t_yes 181 rfl rfl rfl ?_
                 refine t_st rfl (st_move rfl) ?_
                 refine t_yes 181 rfl rfl rfl ?_
                 refine t_st rfl (st_move rfl) ?_
                 refine t_yes 181 rfl rfl rfl ?_
                 refine t_bool rfl (st_eql rfl rfl) (fun hc822 => ?_) (fun hc822 => ?_)
                 ·
                  rw [if_pos hc822] at hm
                  refine t_st rfl (st_pick_t rfl rfl) ?_
                  refine t_st rfl (st_move rfl) ?_
                  refine t_yes 186 rfl rfl rfl ?_
                  refine t_st rfl (st_move rfl) ?_
                  refine t_yes 186 rfl rfl rfl ?_
                  refine t_st rfl (st_move rfl) ?_
                  refine t_yes 186 rfl rfl rfl ?_
                  refine t_st rfl (st_leq rfl rfl) ?_
                  refine t_st rfl (st_pick_t rfl rfl) ?_
                  refine t_st rfl (st_assign rfl) ?_
                  refine t_nil ?_
                  obtain rfl := some1 hm
                  exact x_join (e' := [(6, .bool (decide (x799 ≤ x779)))]) (hp' := R) ⟨rfl, trivial⟩ (.cons _ (sub_skip hs807 (.refl _))) ⟨rfl, rfl, (Base.Le.refl _)⟩
                 ·
                  rw [if_neg hc822] at hm
                  refine t_st rfl (st_pick_t rfl rfl) ?_
                  refine t_st rfl (st_move rfl) ?_
                  refine t_no 186 rfl rfl rfl rfl rfl ?_
                  refine t_no 186 rfl rfl rfl rfl rfl ?_
                  refine t_no 186 rfl rfl rfl rfl rfl ?_
                  refine t_st rfl (st_pick_f rfl rfl) ?_
                  refine t_st rfl (st_assign rfl) ?_
                  refine t_nil ?_
                  obtain rfl := some1 hm
                  exact x_join (e' := [(6, .bool (false))]) (hp' := R) ⟨rfl, trivial⟩ (.cons _ (sub_skip hs807 (.refl _))) ⟨rfl, rfl, (Base.Le.refl _)⟩
                ·
                 rw [if_neg hc821] at hm
                 refine t_st rfl (st_pick_t rfl rfl) ?_
                 refine t_st rfl (st_move rfl) ?_
                 refine t_no 181 rfl rfl rfl rfl rfl ?_
                 refine t_no 181 rfl rfl rfl rfl rfl ?_
                 refine t_no 181 rfl rfl rfl rfl rfl ?_
                 refine t_st rfl (st_pick_f rfl rfl) ?_
                 refine t_st rfl (st_move rfl) ?_
                 refine t_no 186 rfl rfl rfl rfl rfl ?_
                 refine t_no 186 rfl rfl rfl rfl rfl ?_
                 refine t_no 186 rfl rfl rfl rfl rfl ?_
                 refine t_st rfl (st_pick_f rfl rfl) ?_
                 refine t_st rfl (st_assign rfl) ?_
                 refine t_nil ?_
                 obtain rfl := some1 hm
                 exact x_join (e' := [(6, .bool (false))]) (hp' := R) ⟨rfl, trivial⟩ (.cons _ (sub_skip hs807 (.refl _))) ⟨rfl, rfl, (Base.Le.refl _)⟩
               ·
                rw [if_neg hc820] at hm
                refine t_st rfl (st_move rfl) ?_
                refine t_no 177 rfl rfl rfl rfl rfl ?_
                refine t_no 177 rfl rfl rfl rfl rfl ?_
                refine t_st rfl (st_pick_f rfl rfl) ?_
                refine t_st rfl (st_move rfl) ?_
                refine t_no 181 rfl rfl rfl rfl rfl ?_
                refine t_no 181 rfl rfl rfl rfl rfl ?_
                refine t_no 181 rfl rfl rfl rfl rfl ?_
                refine t_st rfl (st_pick_f rfl rfl) ?_
                refine t_st rfl (st_move rfl) ?_
                refine t_no 186 rfl rfl rfl rfl rfl ?_
                refine t_no 186 rfl rfl rfl rfl rfl ?_
                refine t_no 186 rfl rfl rfl rfl rfl ?_
                refine t_st rfl (st_pick_f rfl rfl) ?_
                refine t_st rfl (st_assign rfl) ?_
                refine t_nil ?_
                obtain rfl := some1 hm
                exact x_join (e' := [(6, .bool (false))]) (hp' := R) ⟨rfl, trivial⟩ (.cons _ (sub_skip hs807 (.refl _))) ⟨rfl, rfl, (Base.Le.refl _)⟩
              ·
               rintro b816 _ _ ⟨rfl, rfl, hle817⟩
               have hm := hk819
               refine c_ret ?_
               obtain rfl := some1 hm
               exact retM (rs := [.tmp 6]) [.bool (x818)] (hle431.trans (hle448.trans (hle492.trans (hle688.trans (hle790.trans (hle804.trans hle817)))))) (by decide) rfl ⟨rfl, trivial⟩ rfl (hp' := R) (.refl _) ⟨rfl, rfl⟩

end Go.Proofs.Ytdphlkddelnaiaa
