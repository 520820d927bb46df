/- Contracts: the code computes its model (part 4). -/
import Derived.Test.YtakehdnblmonlaaDP3
set_option linter.unusedVariables false
set_option linter.unusedSimpArgs false
namespace Go.Proofs.Ytakehdnblmonlaa
open Go.RowKit Go.Fp

set_option maxRecDepth 20000 in
theorem cMendRoom (b : Base) (R : Hp) (s1 : MendRound) (A2 : Option Addr) (c3 : Nat) (A5 : Option Addr) (c6 : Nat) (h4 : FZ (RT.int .i64) b.w A2 c3 s1.Plan) (h7 : FZ rMendLink b.w A5 c6 s1.Links) (x29824 : Int) (l29825 : (List (List Int))) (hm : mMendRoom s1 = some (x29824, l29825)) :
    CallsG Try.prog 28 [.agg #[.int .i64 (s1.Period), .slice A2 (s1.Plan).length c3, .slice A5 (s1.Links).length c6]] b (R) (fun v b' hp' => ∃ (A29821 : Option Addr), ∃ (c29822 : Nat), ∃ (hs29820 : Hp), .tuple #[.slice A29821 (l29825).length c29822, .int .i64 (x29824)] = v ∧ (hs29820 ++ R) = hp' ∧ OS 22 (OT.list 3 (OT.fr (RT.int .i64))) b'.w (.slice A29821 l29825.length c29822) l29825 hs29820) := by
  refine fn_enterG 100 Try.func28 rfl Try.ntmps28 rfl ?_
  unfold mMendRoom at hm
  refine c_sr ?_
  refine t_do rfl (u_box _ rfl rfl) ?_
  rintro _ _ ⟨g29826, rfl, rfl⟩
  refine t_as rfl rfl ?_
  refine t_as rfl rfl ?_
  refine t_ne ?_
  refine c_seq ?_
  refine c_sr ?_
  refine t_st rfl (st_loadD (vs := [_, _, _]) 0 3 rfl agg54 rfl rfl rfl) ?_
  obtain ⟨x29827, hcl29828, hm⟩ := bindS hm
  refine t_do rfl (u_callW0 _ call51 rfl (fun w ho => cMendCheckRound _ [] s1 A2 c3 A5 c6 (h4.old ho) (h7.old ho) x29827 hcl29828) (fun _ _ _ h => h.2.symm)) ?_
  rintro _ _ ⟨⟨_, rfl, _⟩, rfl⟩
  refine t_as rfl rfl ?_
  refine t_ne ?_
  refine c_sr ?_
  refine t_mv rfl rfl ?_
  refine t_st rfl (st_neq rfl rfl) ?_
  refine t_ne ?_
  refine c_cond _ rfl (fun hc29829 => ?_) (fun hc29829 => ?_)
  ·
   rw [if_pos (of_decide_eq_true hc29829)] at hm
   refine c_sr ?_
   refine t_mv rfl rfl ?_
   refine t_as rfl rfl ?_
   refine t_as rfl rfl ?_
   refine t_ne ?_
   refine c_ret ?_
   refine x_then_ret ?_
   obtain ⟨rfl, rfl⟩ := some2 hm
   exact retM (rs := [.tmp 2, .tmp 3]) [.slice none 0 0, .int .i64 (x29827)] (Base.Le.refl _) (by decide) rfl ⟨rfl, ⟨rfl, trivial⟩⟩ rfl (.cons _ (.refl _)) ⟨none, 0, [], rfl, rfl, OS.nil⟩
  ·
   rw [if_neg (of_decide_eq_false hc29829)] at hm
   refine c_skip ?_
   refine x_then_normal ?_
   refine c_sr ?_
   refine t_st rfl (st_field rfl fld54_1) ?_
   refine t_st rfl (st_load 0 rfl one22 rfl rfl) ?_
   refine t_st rfl (st_len rfl sl22) ?_
   obtain ⟨m29830, h29831, hm⟩ := bindS hm
   have h29831 := mkLen_some h29831
   refine t_do rfl (u_mkOO (o := (OT.list 3 (OT.fr (RT.int .i64)))) [_] R [.slice none 0 0] ([] : List Int) m29830 rfl h29831.1 rfl rfl sl45 inf22 rfl rfl rfl (by decide) ⟨_, rfl, OS.nil⟩ h29831.2.1 h29831.2.2) ?_
   rintro _ _ ⟨hs29832, rfl, h29833⟩
   obtain ⟨A29834, c29835, rfl, _⟩ := h29833.form
   refine t_as rfl rfl ?_
   refine t_ne ?_
   refine c_seq ?_
   refine c_sr ?_
   refine t_mv rfl rfl ?_
   refine t_st rfl (st_len rfl sl45) ?_
   refine t_mv rfl rfl ?_
   refine t_ne ?_
   refine c_block ?_
   have hb29837 : (List.replicate m29830 (([] : List Int) : (List Int))).length ≤ 9223372036854775807 := (OS.len h29833)
   obtain ⟨l49704, hl49707, hk49708⟩ := bindS hm
   refine c_forS (fun k49706 => fun l49704 => fun b49699 e' hp' => ∃ (hs49702 : Hp), [(1, .pointer (some ⟨g29826, 0, none⟩)), (5, .slice A29834 (l49704).length c29835), (21, .int .i64 (((List.replicate m29830 (([] : List Int) : (List Int))).length : Int))), (22, .int .i64 ((k49706 : Int)))] = e' ∧ (g29826, Cl 54 [.int .i64 (s1.Period), .slice A2 (s1.Plan).length c3, .slice A5 (s1.Links).length c6]) :: (hs49702 ++ R) = hp' ∧ b.Le b49699 ∧ OS 22 (OT.list 3 (OT.fr (RT.int .i64))) b49699.w (.slice A29834 l49704.length c29835) l49704 hs49702 ∧ l49704.length = m29830) hl49707 (e' := [(1, .pointer (some ⟨g29826, 0, none⟩)), (5, .slice A29834 (List.replicate m29830 (([] : List Int) : (List Int))).length c29835), (21, .int .i64 (((List.replicate m29830 (([] : List Int) : (List Int))).length : Int))), (22, .int .i64 0)]) ⟨rfl, rfl, rfl, rfl, trivial⟩ (.refl _) ⟨hs29832, rfl, rfl, (Base.Le.refl _), h29833, List.length_replicate⟩ ?_ ?_
   ·
    rintro k49706 l49704 b49699 _ _ oL29836 hknL29836 ⟨hs49702, rfl, rfl, hle49700, h49703, hln49705⟩ hstepL29836
    unfold mMendRoom_L29836 at hstepL29836
    have hm := hstepL29836
    refine c_sr ?_
    refine t_st rfl (st_lss_t rfl rfl (by omega)) ?_
    refine t_ne ?_
    refine c_seq ?_
    refine c_cond_t rfl ?_
    refine c_skip ?_
    refine x_then_normal ?_
    obtain ⟨l54674, hj54676, hk54676⟩ := bindS hm
    refine c_join (fun b54669 e' hp' => ∃ (hs54672 : Hp), [(1, .pointer (some ⟨g29826, 0, none⟩)), (5, .slice A29834 (l54674).length c29835), (21, .int .i64 (((List.replicate m29830 (([] : List Int) : (List Int))).length : Int))), (22, .int .i64 ((k49706 : Int)))] = e' ∧ (g29826, Cl 54 [.int .i64 (s1.Period), .slice A2 (s1.Plan).length c3, .slice A5 (s1.Links).length c6]) :: (hs54672 ++ R) = hp' ∧ b49699.Le b54669 ∧ OS 22 (OT.list 3 (OT.fr (RT.int .i64))) b54669.w (.slice A29834 l54674.length c29835) l54674 hs54672 ∧ l54674.length = m29830) ?_ ?_
    ·
     have hm := hj54676
     refine c_block ?_
     refine c_sr ?_
     refine t_mv rfl rfl ?_
     refine t_as rfl rfl ?_
     refine t_ne ?_
     refine c_sr ?_
     refine t_mv rfl rfl ?_
     refine t_mv rfl rfl ?_
     refine t_do rfl (u_bslice (el := 3) [(0, .int .i64 ((-1)))] [.int .i64 ((-1))] rfl (fun _ => by kernel_rfl)) ?_
     rintro _ _ ⟨g54677, rfl, rfl⟩
     refine t_st rfl (st_field rfl fld54_1) ?_
     refine t_st rfl (st_load 1 rfl one22 rfl rfl) ?_
     refine t_st rfl (st_len rfl sl22) ?_
     refine t_seg 0 [_] (hs49702 ++ R) rfl rfl ?_
     have h54679 : OS 3 (OT.fr (RT.int .i64)) b49699.w (.slice (some ⟨g54677, 0, none⟩) 1 1) [(-1)] [(g54677, Cl 3 [.int .i64 ((-1))])] := OS.lit [[.int .i64 ((-1))]] rfl ⟨rfl, trivial⟩ rfl (by decide)
     obtain ⟨l54680, hcl54681, hm⟩ := bindS hm
     refine t_do rfl (u_callWF [_] ([(g54677, Cl 3 [.int .i64 ((-1))])] ++ (hs49702 ++ R)) _ rfl call47 rfl (fun w ho => cSlicesRepeat _ [] [(-1)] (s1.Plan.length : Int) (some ⟨g54677, 0, none⟩) 1 (OS.now (o := (OT.fr (RT.int .i64))) (l := [(-1)]) (hs := [(g54677, Cl 3 [.int .i64 ((-1))])]) h54679 ho (.cons _ (List.sublist_append_left _ _))) l54680 hcl54681)) ?_
     rintro _ _ ⟨_, _, rfl, A54682, c54683, hs54684, rfl, hq54687, h54685⟩
     obtain rfl := List.append_cancel_right hq54687
     have h54686 := flat_fz (w' := b49699.w) (fun _ _ _ _ h => h) h54685
     obtain ⟨x54688, h54689, hm⟩ := bindS hm
     obtain ⟨j54690, hj54691, hx54692⟩ := idx_some h54689
     obtain ⟨cs54693, hs54698, P54699, P54700, hq54701, hr54694, hcs54695, hA54696, hlt54697, hb54702, hho54703⟩ := OS.get (sz := 1) rfl (by decide) h49703 hx54692
     obtain ⟨v54704, rfl, h54705⟩ := hr54694
     obtain ⟨A54706, c54707, rfl, _⟩ := h54705.form
     refine t_st rfl (st_index_old j54690 rfl rfl hj54691 hlt54697 hA54696 sl45) ?_
     refine t_front3 [_] hs54684 [(g54677, Cl 3 [.int .i64 ((-1))])] hs49702 R rfl ?_
     refine t_do rfl (u_putOO hj54691 (sz := 1) (a' := l54680) rfl [_] hs54684 ([(g54677, Cl 3 [.int .i64 ((-1))])] ++ R) 1 [.slice A54682 (l54680).length c54683] rfl h49703 hx54692 rfl rfl rfl siz22 rfl (by decide) ⟨_, rfl, h54686⟩) ?_
     rintro _ _ ⟨hs54708, rfl, h54709⟩
     refine t_resp 5 rfl (v' := .slice A29834 (put l49704 (k49706 : Int) l54680).length c29835) (by simp only [put_length]) ?_
     refine t_ne ?_
     refine c_sr ?_
     refine t_mv rfl rfl ?_
     refine t_mv rfl rfl ?_
     obtain ⟨x54710, h54711, hm⟩ := bindS hm
     obtain ⟨j54712, hj54713, hx54714⟩ := idx_some h54711
     obtain ⟨cs54715, hs54720, P54721, P54722, hq54723, hr54716, hcs54717, hA54718, hlt54719, hb54724, hho54725⟩ := OS.get (sz := 1) rfl (by decide) h54709 hx54714
     obtain ⟨v54726, rfl, h54727⟩ := hr54716
     obtain ⟨A54728, c54729, rfl, _⟩ := h54727.form
     refine t_st rfl (st_index_old j54712 rfl rfl hj54713 hlt54719 hA54718 sl45) ?_
     refine t_st rfl (st_load_rd rfl one22 (fun w ho => hcs54717 w _ ho (.cons _ (List.sublist_append_left _ _)) 0 _ rfl)) ?_
     refine t_mv rfl rfl ?_
     obtain ⟨x54730, h54731, hm⟩ := bindS hm
     obtain ⟨j54732, hj54733, hx54734⟩ := idx_some h54731
     obtain ⟨cs54735, hs54740, P54741, P54742, hq54743, hr54736, hcs54737, hA54738, hlt54739, hb54744, _⟩ := OS.get (sz := 1) rfl (by decide) h54727 hx54734
     obtain ⟨rfl, rfl⟩ := hr54736
     have hcs54745 := fun (w : World) (hp : Hp) (ho : Own b49699 hp w) (hh : hs54708.Sublist hp) => hcs54737 w hp ho ((show hs54720.Sublist hs54708 by rw [hq54723]; exact sub_skip _ (List.sublist_append_left _ _)).trans hh)
     refine t_st rfl (st_index_old j54732 rfl rfl hj54733 hlt54739 hA54738 sl22) ?_
     refine t_do rfl (u_putIn hj54713 hj54733 (z' := 0) (sz := 1) rfl [_] ([(g54677, Cl 3 [.int .i64 ((-1))])] ++ R) 0 1 [.int .i64 (0)] rfl rfl hq54723 h54727 hb54724 hx54734 rfl rfl rfl siz3 rfl (mem_c rfl mem_n) (fun cs hsj hh => by obtain ⟨rfl, rfl⟩ := hh; exact ⟨by decide, rfl, rfl⟩)) ?_
     rintro _ _ ⟨hs54746, rfl, h54747⟩
     refine t_resp 5 rfl (v' := .slice A29834 (put (put l49704 (k49706 : Int) l54680) (k49706 : Int) (put x54710 (k49706 : Int) 0)).length c29835) (by simp only [put_length]) ?_
     refine t_ne ?_
     refine c_sr ?_
     refine t_as rfl rfl ?_
     refine t_ne ?_
     refine c_block ?_
     refine c_loopM (unc2 fun x58009 l58010 => fun b58004 e' hp' => ∃ (hs58007 : Hp), [(1, .pointer (some ⟨g29826, 0, none⟩)), (5, .slice A29834 (l58010).length c29835), (6, .int .i64 ((k49706 : Int))), (7, .bool (x58009)), (21, .int .i64 (((List.replicate m29830 (([] : List Int) : (List Int))).length : Int))), (22, .int .i64 ((k49706 : Int)))] = e' ∧ (g29826, Cl 54 [.int .i64 (s1.Period), .slice A2 (s1.Plan).length c3, .slice A5 (s1.Links).length c6]) :: (hs58007 ++ R) = hp' ∧ b49699.Le b58004 ∧ OS 22 (OT.list 3 (OT.fr (RT.int .i64))) b58004.w (.slice A29834 l58010.length c29835) l58010 hs58007 ∧ l58010.length = m29830) hm (e' := [(1, .pointer (some ⟨g29826, 0, none⟩)), (5, .slice A29834 (put (put l49704 (k49706 : Int) l54680) (k49706 : Int) (put x54710 (k49706 : Int) 0)).length c29835), (6, .int .i64 ((k49706 : Int))), (7, .bool (true)), (21, .int .i64 (((List.replicate m29830 (([] : List Int) : (List Int))).length : Int))), (22, .int .i64 ((k49706 : Int)))]) ⟨rfl, rfl, rfl, rfl, rfl, rfl, trivial⟩ (.cons_cons _ (sub_app hs54746 (sub_skip [(g54677, Cl 3 [.int .i64 ((-1))])] (.refl _)))) ⟨hs54746, rfl, rfl, (Base.Le.refl _), h54747, ((put_length _ _ _).trans ((put_length _ _ _).trans hln49705))⟩ ?_
     rintro ⟨x58009, l58010⟩ b58004 _ _ oL54748 ⟨hs58007, rfl, rfl, hle58005, h58008, hln58011⟩ hstepL54748 houtL54748
     unfold mMendRoom_L54748 at hstepL54748
     have hm := (unc2E hstepL54748)
     refine c_seq ?_
     refine c_sr ?_
     refine t_mv rfl rfl ?_
     refine t_ne ?_
     refine c_cond _ rfl (fun hc58012 => ?_) (fun hc58012 => ?_)
     ·
      rw [if_pos hc58012] at hm
      refine c_skip ?_
      refine x_then_normal ?_
      refine c_block ?_
      refine c_sr ?_
      refine t_as rfl rfl ?_
      refine t_ne ?_
      refine c_sr ?_
      refine t_st rfl (st_field rfl fld54_2) ?_
      refine t_st rfl (st_load 0 rfl one52 rfl rfl) ?_
      refine t_st rfl (st_len rfl sl52) ?_
      refine t_mv rfl rfl ?_
      refine t_ne ?_
      refine c_block ?_
      have hb58014 : s1.Links.length ≤ 9223372036854775807 := (FZ.bd (h7.le (hle49700.trans hle58005)))
      obtain ⟨⟨x59096, l59097⟩, hl59100, hk59101⟩ := bindS hm
      refine c_forS (fun k59099 => unc2 fun x59096 l59097 => fun b59091 e' hp' => ∃ (hs59094 : Hp), [(1, .pointer (some ⟨g29826, 0, none⟩)), (5, .slice A29834 (l59097).length c29835), (6, .int .i64 ((k49706 : Int))), (7, .bool (x59096)), (21, .int .i64 (((List.replicate m29830 (([] : List Int) : (List Int))).length : Int))), (22, .int .i64 ((k49706 : Int))), (41, .slice A5 (s1.Links).length c6), (42, .int .i64 ((s1.Links.length : Int))), (43, .int .i64 ((k59099 : Int)))] = e' ∧ (g29826, Cl 54 [.int .i64 (s1.Period), .slice A2 (s1.Plan).length c3, .slice A5 (s1.Links).length c6]) :: (hs59094 ++ R) = hp' ∧ b58004.Le b59091 ∧ OS 22 (OT.list 3 (OT.fr (RT.int .i64))) b59091.w (.slice A29834 l59097.length c29835) l59097 hs59094 ∧ l59097.length = m29830) hl59100 (e' := [(1, .pointer (some ⟨g29826, 0, none⟩)), (5, .slice A29834 (l58010).length c29835), (6, .int .i64 ((k49706 : Int))), (7, .bool (false)), (21, .int .i64 (((List.replicate m29830 (([] : List Int) : (List Int))).length : Int))), (22, .int .i64 ((k49706 : Int))), (41, .slice A5 (s1.Links).length c6), (42, .int .i64 ((s1.Links.length : Int))), (43, .int .i64 0)]) ⟨rfl, rfl, rfl, rfl, rfl, rfl, rfl, rfl, rfl, trivial⟩ (.refl _) ⟨hs58007, rfl, rfl, (Base.Le.refl _), h58008, hln58011⟩ ?_ ?_
      ·
       rintro k59099 ⟨x59096, l59097⟩ b59091 _ _ oL58013 hknL58013 ⟨hs59094, rfl, rfl, hle59092, h59095, hln59098⟩ hstepL58013
       unfold mMendRoom_L58013 at hstepL58013
       have hm := (unc2E hstepL58013)
       refine c_sr ?_
       refine t_st rfl (st_lss_t rfl rfl (by omega)) ?_
       refine t_ne ?_
       refine c_seq ?_
       refine c_cond_t rfl ?_
       refine c_skip ?_
       refine x_then_normal ?_
       refine c_seq ?_
       refine c_block ?_
       refine c_sr ?_
       obtain ⟨x59102, h59103, hm⟩ := bindS hm
       obtain ⟨j59104, hj59105, hx59106⟩ := idx_some h59103
       obtain ⟨cs59107, hr59108, hcs59109, hA59110, hlt59111⟩ := FZ.get (sz := 4) rfl (by decide) (h7.le (hle49700.trans (hle58005.trans hle59092))) hx59106
       obtain ⟨_, _, rfl, rfl, ⟨_, _, rfl, rfl, ⟨_, _, rfl, rfl, rfl⟩⟩⟩ := hr59108
       refine t_st rfl (st_index_old j59104 rfl rfl hj59105 hlt59111 hA59110 sl52) ?_
       refine t_st rfl (st_loadN_old (vs := [.int .i64 (x59102.From), .int .i64 (x59102.To), .int .i64 (x59102.Len), .int .i64 (x59102.Back)]) 4 rfl agg83 hA59110 rfl (fun j u hu => hcs59109 j u hu)) ?_
       refine t_do rfl (u_alloc [.int .i64 0, .int .i64 0, .int .i64 0, .int .i64 0] zero83 rfl) ?_
       rintro _ _ ⟨g59112, rfl, rfl⟩
       refine t_do rfl (u_storeN (vs := [_, _, _, _]) 0 4 rfl rfl rfl siz83 rfl (mem_c rfl (mem_c rfl (mem_c rfl (mem_c rfl mem_n)))) rfl (by simp)) ?_
       rintro _ _ rfl
       refine t_ne ?_
       refine c_seq ?_
       refine c_seq ?_
       obtain ⟨x59149, h59150, hm⟩ := bindS hm
       obtain ⟨x59169, h59170, hm⟩ := bindS hm
       refine D_drawI mixed (.refl _) ?_
       refine E_st 0 rfl (st_move rfl) ?_
       refine E_st 1 rfl (st_move rfl) ?_
       obtain ⟨j59151, hj59152, hx59153⟩ := idx_some h59150
       obtain ⟨cs59154, hs59159, P59160, P59161, hq59162, hr59155, hcs59156, hA59157, hlt59158, hb59163, hho59164⟩ := OS.get (sz := 1) rfl (by decide) h59095 hx59153
       obtain ⟨v59165, rfl, h59166⟩ := hr59155
       obtain ⟨A59167, c59168, rfl, _⟩ := h59166.form
       refine E_st 2 rfl (st_index_old j59151 rfl rfl hj59152 hlt59158 hA59157 sl45) ?_
       refine E_st 3 rfl (st_load_rd rfl one22 (fun w ho => hcs59156 w _ ho (.cons _ (.cons _ (List.sublist_append_left _ _))) 0 _ rfl)) ?_
       refine E_st 4 rfl (st_field rfl fld83_0) ?_
       refine E_st 5 rfl (st_load 0 rfl one3 rfl rfl) ?_
       obtain ⟨j59171, hj59172, hx59173⟩ := idx_some h59170
       obtain ⟨cs59174, hs59179, P59180, P59181, hq59182, hr59175, hcs59176, hA59177, hlt59178, hb59183, _⟩ := OS.get (sz := 1) rfl (by decide) h59166 hx59173
       obtain ⟨rfl, rfl⟩ := hr59175
       have hcs59184 := fun (w : World) (hp : Hp) (ho : Own b59091 hp w) (hh : hs59094.Sublist hp) => hcs59176 w hp ho ((show hs59159.Sublist hs59094 by rw [hq59162]; exact sub_skip _ (List.sublist_append_left _ _)).trans hh)
       refine E_st 6 rfl (st_index_old j59171 rfl rfl hj59172 hlt59178 hA59177 sl22) ?_
       refine E_st 7 rfl (st_load_rd rfl one3 (fun w ho => hcs59184 w _ ho (.cons _ (.cons _ (List.sublist_append_left _ _))) 0 _ rfl)) ?_
       refine E_st 8 rfl (st_lss rfl rfl) ?_
       refine E_out ?_
       refine D_done (by kernel_rfl) ?_
       refine x_then_normal ?_
       refine c_cond _ rfl (fun hc59185 => ?_) (fun hc59185 => ?_)
       ·
        rw [if_pos (of_decide_eq_true hc59185)] at hm
        refine c_exit ?_
        refine x_then_exit ?_
        refine x_block_out ?_
        refine x_then_normal ?_
        refine c_region ?_
        refine t_st rfl (st_add rfl rfl (by omega)) ?_
        refine t_mv rfl rfl ?_
        refine t_nil ?_
        refine x_pullb 1 rfl ?_
        obtain rfl := some1 hm
        exact x_againS (e' := [(1, .pointer (some ⟨g29826, 0, none⟩)), (5, .slice A29834 (l59097).length c29835), (6, .int .i64 ((k49706 : Int))), (7, .bool (x59096)), (21, .int .i64 (((List.replicate m29830 (([] : List Int) : (List Int))).length : Int))), (22, .int .i64 ((k49706 : Int))), (41, .slice A5 (s1.Links).length c6), (42, .int .i64 ((s1.Links.length : Int))), (43, .int .i64 ((k59099 : Int) + 1))]) ⟨rfl, rfl, rfl, rfl, rfl, rfl, rfl, rfl, rfl, trivial⟩ (.cons_cons _ (.cons _ (.refl _))) ⟨hs59094, rfl, rfl, (hle59092), h59095, hln59098⟩
       ·
        rw [if_neg (of_decide_eq_false hc59185)] at hm
        refine c_skip ?_
        refine x_then_normal ?_
        refine c_seq ?_
        obtain ⟨x59225, h59226, hm⟩ := bindS hm
        obtain ⟨x59245, h59246, hm⟩ := bindS hm
        obtain ⟨x59261, hcl59262, hm⟩ := bindS hm
        obtain ⟨_, h59263, hm⟩ := bindS hm
        refine D_drawI mixed (.refl _) ?_
        refine E_st 0 rfl (st_move rfl) ?_
        refine E_st 1 rfl (st_move rfl) ?_
        obtain ⟨j59227, hj59228, hx59229⟩ := idx_some h59226
        obtain ⟨cs59230, hs59235, P59236, P59237, hq59238, hr59231, hcs59232, hA59233, hlt59234, hb59239, hho59240⟩ := OS.get (sz := 1) rfl (by decide) h59095 hx59229
        obtain ⟨v59241, rfl, h59242⟩ := hr59231
        obtain ⟨A59243, c59244, rfl, _⟩ := h59242.form
        refine E_st 2 rfl (st_index_old j59227 rfl rfl hj59228 hlt59234 hA59233 sl45) ?_
        refine E_st 3 rfl (st_load_rd rfl one22 (fun w ho => hcs59232 w _ ho (.cons _ (.cons _ (List.sublist_append_left _ _))) 0 _ rfl)) ?_
        refine E_st 4 rfl (st_field rfl fld83_0) ?_
        refine E_st 5 rfl (st_load 0 rfl one3 rfl rfl) ?_
        obtain ⟨j59247, hj59248, hx59249⟩ := idx_some h59246
        obtain ⟨cs59250, hs59255, P59256, P59257, hq59258, hr59251, hcs59252, hA59253, hlt59254, hb59259, _⟩ := OS.get (sz := 1) rfl (by decide) h59242 hx59249
        obtain ⟨rfl, rfl⟩ := hr59251
        have hcs59260 := fun (w : World) (hp : Hp) (ho : Own b59091 hp w) (hh : hs59094.Sublist hp) => hcs59252 w hp ho ((show hs59235.Sublist hs59094 by rw [hq59238]; exact sub_skip _ (List.sublist_append_left _ _)).trans hh)
        refine E_st 6 rfl (st_index_old j59247 rfl rfl hj59248 hlt59254 hA59253 sl22) ?_
        refine E_st 7 rfl (st_load_rd rfl one3 (fun w ho => hcs59260 w _ ho (.cons _ (.cons _ (List.sublist_append_left _ _))) 0 _ rfl)) ?_
        refine E_st 8 rfl (st_loadD (vs := [_, _, _]) 1 3 rfl agg54 rfl rfl rfl) ?_
        refine E_st 9 rfl (st_loadD (vs := [_, _, _, _]) 0 4 rfl agg83 rfl rfl rfl) ?_
        refine E_out ?_
        refine D_all [10] (by kernel_rfl) rfl ?_
        refine R_do (Base.Le.refl _) rfl rfl (u_callW0 _ call55 rfl (fun w ho => cMendRoundSlack _ [] s1 x59102 A2 c3 A5 c6 ((h4.le (hle49700.trans (hle58005.trans hle59092))).old ho) ((h7.le (hle49700.trans (hle58005.trans hle59092))).old ho) x59261 hcl59262) (fun _ _ _ h => h.2.symm)) ?_ ?_
        ·
         rintro _ _ ⟨⟨_, rfl, _⟩, rfl⟩
         refine ⟨.inr (.refl _), ?_⟩
         have h59263 := (chk_some h59263).2
         refine E_in (.refl _) ?_
         refine E_st 11 rfl (st_add rfl rfl h59263) ?_
         refine E_st 12 rfl (st_assign rfl) ?_
         refine E_out ?_
         refine D_done (by kernel_rfl) ?_
         refine x_then_normal ?_
         obtain ⟨x59412, hj59413, hk59413⟩ := bindS hm
         refine c_join (fun b59410 e' hp' => [(1, .pointer (some ⟨g29826, 0, none⟩)), (5, .slice A29834 (l59097).length c29835), (6, .int .i64 ((k49706 : Int))), (7, .bool (x59096)), (9, .pointer (some ⟨g59112, 0, none⟩)), (10, .int .i64 (x59245 + x59261)), (21, .int .i64 (((List.replicate m29830 (([] : List Int) : (List Int))).length : Int))), (22, .int .i64 ((k49706 : Int))), (41, .slice A5 (s1.Links).length c6), (42, .int .i64 ((s1.Links.length : Int))), (43, .int .i64 ((k59099 : Int))), (88, .bool (x59412))] = e' ∧ (g29826, Cl 54 [.int .i64 (s1.Period), .slice A2 (s1.Plan).length c3, .slice A5 (s1.Links).length c6]) :: (g59112, Cl 83 [.int .i64 (x59102.From), .int .i64 (x59102.To), .int .i64 (x59102.Len), .int .i64 (x59102.Back)]) :: (hs59094 ++ R) = hp' ∧ b59091.Le b59410) ?_ ?_
         ·
          have hm := hj59413
          obtain ⟨x59487, h59488, hm⟩ := bindS hm
          obtain ⟨x59507, h59508, hm⟩ := bindS hm
          by_cases hc59523 : x59507 < 0
          ·
           rw [if_pos hc59523] at hm
           refine D_drawI mixed (.refl _) ?_
           refine E_st 0 rfl (st_move rfl) ?_
           refine E_st 1 rfl (st_move rfl) ?_
           obtain ⟨j59489, hj59490, hx59491⟩ := idx_some h59488
           obtain ⟨cs59492, hs59497, P59498, P59499, hq59500, hr59493, hcs59494, hA59495, hlt59496, hb59501, hho59502⟩ := OS.get (sz := 1) rfl (by decide) h59095 hx59491
           obtain ⟨v59503, rfl, h59504⟩ := hr59493
           obtain ⟨A59505, c59506, rfl, _⟩ := h59504.form
           refine E_st 2 rfl (st_index_old j59489 rfl rfl hj59490 hlt59496 hA59495 sl45) ?_
           refine E_st 3 rfl (st_load_rd rfl one22 (fun w ho => hcs59494 w _ ho (.cons _ (.cons _ (List.sublist_append_left _ _))) 0 _ rfl)) ?_
           refine E_st 4 rfl (st_field rfl fld83_1) ?_
           refine E_st 5 rfl (st_load 0 rfl one3 rfl rfl) ?_
           obtain ⟨j59509, hj59510, hx59511⟩ := idx_some h59508
           obtain ⟨cs59512, hs59517, P59518, P59519, hq59520, hr59513, hcs59514, hA59515, hlt59516, hb59521, _⟩ := OS.get (sz := 1) rfl (by decide) h59504 hx59511
           obtain ⟨rfl, rfl⟩ := hr59513
           have hcs59522 := fun (w : World) (hp : Hp) (ho : Own b59091 hp w) (hh : hs59094.Sublist hp) => hcs59514 w hp ho ((show hs59497.Sublist hs59094 by rw [hq59500]; exact sub_skip _ (List.sublist_append_left _ _)).trans hh)
           refine E_st 6 rfl (st_index_old j59509 rfl rfl hj59510 hlt59516 hA59515 sl22) ?_
           refine E_st 7 rfl (st_load_rd rfl one3 (fun w ho => hcs59522 w _ ho (.cons _ (.cons _ (List.sublist_append_left _ _))) 0 _ rfl)) ?_
           refine E_st 8 rfl (st_lss_t rfl rfl hc59523) ?_
           refine E_st 9 rfl (st_move rfl) ?_
           refine E_no 10 77 rfl rfl rfl ?_
           refine E_no 11 77 rfl rfl rfl ?_
           refine E_no 12 77 rfl rfl rfl ?_
           refine E_no 13 77 rfl rfl rfl ?_
           refine E_no 14 77 rfl rfl rfl ?_
           refine E_no 15 77 rfl rfl rfl ?_
           refine E_no 16 77 rfl rfl rfl ?_
           refine E_no 17 77 rfl rfl rfl ?_
           refine E_no 18 77 rfl rfl rfl ?_
           refine E_no 19 77 rfl rfl rfl ?_
           refine E_st 20 rfl (st_pick_t rfl rfl) ?_
           refine E_out ?_
           refine D_done (by kernel_rfl) ?_
           obtain rfl := some1 hm
           refine x_pullb 1 rfl ?_
           exact x_join (e' := [(1, .pointer (some ⟨g29826, 0, none⟩)), (5, .slice A29834 (l59097).length c29835), (6, .int .i64 ((k49706 : Int))), (7, .bool (x59096)), (9, .pointer (some ⟨g59112, 0, none⟩)), (10, .int .i64 (x59245 + x59261)), (21, .int .i64 (((List.replicate m29830 (([] : List Int) : (List Int))).length : Int))), (22, .int .i64 ((k49706 : Int))), (41, .slice A5 (s1.Links).length c6), (42, .int .i64 ((s1.Links.length : Int))), (43, .int .i64 ((k59099 : Int))), (88, .bool (true))]) ⟨rfl, rfl, rfl, rfl, rfl, rfl, rfl, rfl, rfl, rfl, rfl, rfl, trivial⟩ (.refl _) ⟨rfl, rfl, (Base.Le.refl _)⟩
          ·
           rw [if_neg hc59523] at hm
           obtain ⟨x59524, h59525, hm⟩ := bindS hm
           obtain ⟨x59544, h59545, hm⟩ := bindS hm
           refine D_drawI mixed (.refl _) ?_
           refine E_st 0 rfl (st_move rfl) ?_
           refine E_st 1 rfl (st_move rfl) ?_
           obtain ⟨j59489, hj59490, hx59491⟩ := idx_some h59488
           obtain ⟨cs59492, hs59497, P59498, P59499, hq59500, hr59493, hcs59494, hA59495, hlt59496, hb59501, hho59502⟩ := OS.get (sz := 1) rfl (by decide) h59095 hx59491
           obtain ⟨v59503, rfl, h59504⟩ := hr59493
           obtain ⟨A59505, c59506, rfl, _⟩ := h59504.form
           refine E_st 2 rfl (st_index_old j59489 rfl rfl hj59490 hlt59496 hA59495 sl45) ?_
           refine E_st 3 rfl (st_load_rd rfl one22 (fun w ho => hcs59494 w _ ho (.cons _ (.cons _ (List.sublist_append_left _ _))) 0 _ rfl)) ?_
           refine E_st 4 rfl (st_field rfl fld83_1) ?_
           refine E_st 5 rfl (st_load 0 rfl one3 rfl rfl) ?_
           obtain ⟨j59509, hj59510, hx59511⟩ := idx_some h59508
           obtain ⟨cs59512, hs59517, P59518, P59519, hq59520, hr59513, hcs59514, hA59515, hlt59516, hb59521, _⟩ := OS.get (sz := 1) rfl (by decide) h59504 hx59511
           obtain ⟨rfl, rfl⟩ := hr59513
           have hcs59522 := fun (w : World) (hp : Hp) (ho : Own b59091 hp w) (hh : hs59094.Sublist hp) => hcs59514 w hp ho ((show hs59497.Sublist hs59094 by rw [hq59500]; exact sub_skip _ (List.sublist_append_left _ _)).trans hh)
           refine E_st 6 rfl (st_index_old j59509 rfl rfl hj59510 hlt59516 hA59515 sl22) ?_
           refine E_st 7 rfl (st_load_rd rfl one3 (fun w ho => hcs59522 w _ ho (.cons _ (.cons _ (List.sublist_append_left _ _))) 0 _ rfl)) ?_
           refine E_st 8 rfl (st_lss_f rfl rfl hc59523) ?_
           refine E_st 9 rfl (st_move rfl) ?_
           refine E_yes 10 77 rfl (st_move rfl) ?_
           refine E_yes 11 77 rfl (st_move rfl) ?_
           refine E_yes 12 77 rfl (st_move rfl) ?_
           obtain ⟨j59526, hj59527, hx59528⟩ := idx_some h59525
           obtain ⟨cs59529, hs59534, P59535, P59536, hq59537, hr59530, hcs59531, hA59532, hlt59533, hb59538, hho59539⟩ := OS.get (sz := 1) rfl (by decide) h59095 hx59528
           obtain ⟨v59540, rfl, h59541⟩ := hr59530
           obtain ⟨A59542, c59543, rfl, _⟩ := h59541.form
           refine E_yes 13 77 rfl (st_index_old j59526 rfl rfl hj59527 hlt59533 hA59532 sl45) ?_
           refine E_yes 14 77 rfl (st_load_rd rfl one22 (fun w ho => hcs59531 w _ ho (.cons _ (.cons _ (List.sublist_append_left _ _))) 0 _ rfl)) ?_
           refine E_yes 15 77 rfl (st_field rfl fld83_1) ?_
           refine E_yes 16 77 rfl (st_load 0 rfl one3 rfl rfl) ?_
           obtain ⟨j59546, hj59547, hx59548⟩ := idx_some h59545
           obtain ⟨cs59549, hs59554, P59555, P59556, hq59557, hr59550, hcs59551, hA59552, hlt59553, hb59558, _⟩ := OS.get (sz := 1) rfl (by decide) h59541 hx59548
           obtain ⟨rfl, rfl⟩ := hr59550
           have hcs59559 := fun (w : World) (hp : Hp) (ho : Own b59091 hp w) (hh : hs59094.Sublist hp) => hcs59551 w hp ho ((show hs59534.Sublist hs59094 by rw [hq59537]; exact sub_skip _ (List.sublist_append_left _ _)).trans hh)
           refine E_yes 17 77 rfl (st_index_old j59546 rfl rfl hj59547 hlt59553 hA59552 sl22) ?_
           refine E_yes 18 77 rfl (st_load_rd rfl one3 (fun w ho => hcs59559 w _ ho (.cons _ (.cons _ (List.sublist_append_left _ _))) 0 _ rfl)) ?_
           refine E_yes 19 77 rfl (st_lss rfl rfl) ?_
           refine E_st 20 rfl (st_pick_f rfl rfl) ?_
           refine E_out ?_
           refine D_done (by kernel_rfl) ?_
           obtain rfl := some1 hm
           refine x_pullb 1 rfl ?_
           exact x_join (e' := [(1, .pointer (some ⟨g29826, 0, none⟩)), (5, .slice A29834 (l59097).length c29835), (6, .int .i64 ((k49706 : Int))), (7, .bool (x59096)), (9, .pointer (some ⟨g59112, 0, none⟩)), (10, .int .i64 (x59245 + x59261)), (21, .int .i64 (((List.replicate m29830 (([] : List Int) : (List Int))).length : Int))), (22, .int .i64 ((k49706 : Int))), (41, .slice A5 (s1.Links).length c6), (42, .int .i64 ((s1.Links.length : Int))), (43, .int .i64 ((k59099 : Int))), (88, .bool (decide ((x59245 + x59261) < x59544)))]) ⟨rfl, rfl, rfl, rfl, rfl, rfl, rfl, rfl, rfl, rfl, rfl, rfl, trivial⟩ (.refl _) ⟨rfl, rfl, (Base.Le.refl _)⟩
         ·
          rintro b59410 _ _ ⟨rfl, rfl, hle59411⟩
          have hm := hk59413
          refine c_cond _ rfl (fun hc59560 => ?_) (fun hc59560 => ?_)
          ·
           rw [if_pos hc59560] at hm
           obtain ⟨x59599, h59600, hm⟩ := bindS hm
           obtain ⟨x59619, h59620, hm⟩ := bindS hm
           refine D_drawI mixed (.cons_cons _ (.cons_cons _ (sub_skip hs59094 (.refl _)))) ?_
           refine E_st 0 rfl (st_move rfl) ?_
           refine E_st 1 rfl (st_move rfl) ?_
           obtain ⟨j59601, hj59602, hx59603⟩ := idx_some h59600
           obtain ⟨cs59604, hs59609, P59610, P59611, hq59612, hr59605, hcs59606, hA59607, hlt59608, hb59613, hho59614⟩ := OS.get (sz := 1) rfl (by decide) (h59095.le hle59411) hx59603
           obtain ⟨v59615, rfl, h59616⟩ := hr59605
           obtain ⟨A59617, c59618, rfl, _⟩ := h59616.form
           refine E_st 2 rfl (st_index_old j59601 rfl rfl hj59602 hlt59608 hA59607 sl45) ?_
           refine E_st 4 rfl (st_field rfl fld83_1) ?_
           refine E_st 5 rfl (st_load 1 rfl one3 rfl rfl) ?_
           refine E_st 6 rfl (st_move rfl) ?_
           refine E_out ?_
           refine D_all [3] (by kernel_rfl) rfl ?_
           refine R_do (Base.Le.refl _) rfl rfl (Stable.does (st_load_rd rfl one22 (fun w ho => hcs59606 w _ ho (.cons _ (.cons _ (List.sublist_append_left _ _))) 0 _ rfl))) ?_ ?_
           ·
            rintro _ _ ⟨rfl, rfl⟩
            refine ⟨.inr (.cons_cons _ (.cons_cons _ (sub_skip hs59094 (.refl _)))), ?_⟩
            obtain ⟨j59621, hj59622, hx59623⟩ := idx_some h59620
            obtain ⟨cs59624, hs59629, P59630, P59631, hq59632, hr59625, hcs59626, hA59627, hlt59628, hb59633, _⟩ := OS.get (sz := 1) rfl (by decide) h59616 hx59623
            obtain ⟨rfl, rfl⟩ := hr59625
            have hcs59634 := fun (w : World) (hp : Hp) (ho : Own b59410 hp w) (hh : hs59094.Sublist hp) => hcs59626 w hp ho ((show hs59609.Sublist hs59094 by rw [hq59612]; exact sub_skip _ (List.sublist_append_left _ _)).trans hh)
            refine E_in (.cons_cons _ (.cons_cons _ (sub_skip hs59094 (.refl _)))) ?_
            refine E_st 7 rfl (st_index_old j59621 rfl rfl hj59622 hlt59628 hA59627 sl22) ?_
            refine E_out ?_
            refine D_all [8] (by kernel_rfl) rfl ?_
            refine R_do (Base.Le.refl _) rfl rfl (u_putIn hj59602 hj59622 (z' := x59245 + x59261) (sz := 1) rfl [_, _] R 0 1 [.int .i64 (x59245 + x59261)] rfl rfl hq59612 h59616 hb59613 hx59623 rfl rfl rfl siz3 rfl (mem_c rfl mem_n) (fun cs hsj hh => by obtain ⟨rfl, rfl⟩ := hh; exact ⟨by decide, rfl, rfl⟩)) ?_ ?_
            ·
             rintro _ _ ⟨hs59635, rfl, h59636⟩
             refine ⟨.inr (.cons_cons _ (.cons_cons _ (sub_skip hs59635 (.refl _)))), ?_⟩
             refine d_resp 5 rfl (v' := .slice A29834 (put l59097 (k49706 : Int) (put x59599 x59102.To (x59245 + x59261))).length c29835) (by simp only [put_length]) ?_
             refine E_in (.cons_cons _ (.cons_cons _ (sub_skip hs59635 (.refl _)))) ?_
             refine E_st 9 rfl (st_assign rfl) ?_
             refine E_out ?_
             refine D_done (by kernel_rfl) ?_
             refine x_block_normal ?_
             refine x_then_normal ?_
             refine c_region ?_
             refine t_st rfl (st_add rfl rfl (by omega)) ?_
             refine t_mv rfl rfl ?_
             refine t_nil ?_
             obtain rfl := some1 hm
             exact x_againS (e' := [(1, .pointer (some ⟨g29826, 0, none⟩)), (5, .slice A29834 (put l59097 (k49706 : Int) (put x59599 x59102.To (x59245 + x59261))).length c29835), (6, .int .i64 ((k49706 : Int))), (7, .bool (true)), (21, .int .i64 (((List.replicate m29830 (([] : List Int) : (List Int))).length : Int))), (22, .int .i64 ((k49706 : Int))), (41, .slice A5 (s1.Links).length c6), (42, .int .i64 ((s1.Links.length : Int))), (43, .int .i64 ((k59099 : Int) + 1))]) ⟨rfl, rfl, rfl, rfl, rfl, rfl, rfl, rfl, rfl, trivial⟩ (.cons_cons _ (.cons _ (.refl _))) ⟨hs59635, rfl, rfl, ((hle59092.trans hle59411)), h59636, ((put_length _ _ _).trans hln59098)⟩
            exact R_nil
           exact R_nil
          ·
           rw [if_neg (fun hh => Bool.noConfusion (hh.symm.trans hc59560))] at hm
           refine c_skip ?_
           refine x_block_normal ?_
           refine x_then_normal ?_
           refine c_region ?_
           refine t_st rfl (st_add rfl rfl (by omega)) ?_
           refine t_mv rfl rfl ?_
           refine t_nil ?_
           obtain rfl := some1 hm
           exact x_againS (e' := [(1, .pointer (some ⟨g29826, 0, none⟩)), (5, .slice A29834 (l59097).length c29835), (6, .int .i64 ((k49706 : Int))), (7, .bool (x59096)), (21, .int .i64 (((List.replicate m29830 (([] : List Int) : (List Int))).length : Int))), (22, .int .i64 ((k49706 : Int))), (41, .slice A5 (s1.Links).length c6), (42, .int .i64 ((s1.Links.length : Int))), (43, .int .i64 ((k59099 : Int) + 1))]) ⟨rfl, rfl, rfl, rfl, rfl, rfl, rfl, rfl, rfl, trivial⟩ (.cons_cons _ (.cons _ (.refl _))) ⟨hs59094, rfl, rfl, ((hle59092.trans hle59411)), (h59095.le hle59411), hln59098⟩
        exact R_nil
      ·
       rintro b59091 _ _ ⟨hs59094, rfl, rfl, hle59092, h59095, hln59098⟩
       have hm := (unc2E hk59101)
       refine c_sr ?_
       refine t_st rfl (st_lss_f rfl rfl (by omega)) ?_
       refine t_ne ?_
       refine c_seq ?_
       refine c_cond_f rfl ?_
       refine c_exit ?_
       refine x_then_exit ?_
       refine x_then_exit ?_
       refine x_block_out ?_
       refine x_block_normal ?_
       exact x_againM (x59096, l59097) (Option.some.inj hm).symm (e' := [(1, .pointer (some ⟨g29826, 0, none⟩)), (5, .slice A29834 (l59097).length c29835), (6, .int .i64 ((k49706 : Int))), (7, .bool (x59096)), (21, .int .i64 (((List.replicate m29830 (([] : List Int) : (List Int))).length : Int))), (22, .int .i64 ((k49706 : Int)))]) ⟨rfl, rfl, rfl, rfl, rfl, rfl, trivial⟩ (.refl _) ⟨hs59094, rfl, rfl, ((hle58005.trans hle59092)), h59095, hln59098⟩
     ·
      rw [if_neg (fun hh => Bool.noConfusion (hh.symm.trans hc58012))] at hm
      refine c_exit ?_
      refine x_then_exit ?_
      refine x_then_exit ?_
      refine x_block_out ?_
      have hm := congrArg some (houtL54748 _ (Option.some.inj hm).symm)
      refine x_block_normal ?_
      obtain rfl := some1 hm
      exact x_join (e' := [(1, .pointer (some ⟨g29826, 0, none⟩)), (5, .slice A29834 (l58010).length c29835), (21, .int .i64 (((List.replicate m29830 (([] : List Int) : (List Int))).length : Int))), (22, .int .i64 ((k49706 : Int)))]) ⟨rfl, rfl, rfl, rfl, trivial⟩ (.refl _) ⟨hs58007, rfl, rfl, hle58005, h58008, hln58011⟩
    ·
     rintro b54669 _ _ ⟨hs54672, rfl, rfl, hle54670, h54673, hln54675⟩
     have hm := hk54676
     refine c_region ?_
     refine t_st rfl (st_add rfl rfl (by omega)) ?_
     refine t_mv rfl rfl ?_
     refine t_nil ?_
     obtain rfl := some1 hm
     exact x_againS (e' := [(1, .pointer (some ⟨g29826, 0, none⟩)), (5, .slice A29834 (l54674).length c29835), (21, .int .i64 (((List.replicate m29830 (([] : List Int) : (List Int))).length : Int))), (22, .int .i64 ((k49706 : Int) + 1))]) ⟨rfl, rfl, rfl, rfl, trivial⟩ (.refl _) ⟨hs54672, rfl, rfl, ((hle49700.trans hle54670)), h54673, hln54675⟩
   ·
    rintro b49699 _ _ ⟨hs49702, rfl, rfl, hle49700, h49703, hln49705⟩
    have hm := hk49708
    refine c_sr ?_
    refine t_st rfl (st_lss_f rfl rfl (by omega)) ?_
    refine t_ne ?_
    refine c_seq ?_
    refine c_cond_f rfl ?_
    refine c_exit ?_
    refine x_then_exit ?_
    refine x_then_exit ?_
    refine x_block_out ?_
    refine x_then_normal ?_
    refine c_sr ?_
    refine t_mv rfl rfl ?_
    refine t_as rfl rfl ?_
    refine t_as rfl rfl ?_
    refine t_ne ?_
    refine c_ret ?_
    obtain ⟨rfl, rfl⟩ := some2 hm
    exact retM (rs := [.tmp 2, .tmp 3]) [.slice A29834 (l49704).length c29835, .int .i64 (0)] hle49700 (by decide) rfl ⟨rfl, ⟨rfl, trivial⟩⟩ rfl (.cons _ (.refl _)) ⟨A29834, c29835, hs49702, rfl, rfl, h49703⟩

set_option maxRecDepth 20000 in
theorem cSlicesEqual (b : Base) (R : Hp) (l4 : (List Int)) (l8 : (List Int)) (A1 : Option Addr) (c2 : Nat) (A5 : Option Addr) (c6 : Nat) (h3 : FZ (RT.int .i64) b.w A1 c2 l4) (h7 : FZ (RT.int .i64) b.w A5 c6 l8) (x102 : Bool) (hm : mSlicesEqual l4 l8 = some x102) :
    CallsG Try.prog 22 [.slice A1 (l4).length c2, .slice A5 (l8).length c6] b (R) (fun v b' hp' => .bool (x102) = v ∧ R = hp') := by
  refine fn_enterG 26 Try.func22 rfl Try.ntmps22 rfl ?_
  unfold mSlicesEqual at hm
  refine c_sr ?_
  refine t_as rfl rfl ?_
  refine t_ne ?_
  refine c_seq ?_
  refine c_sr ?_
  refine t_mv rfl rfl ?_
  refine t_st rfl (st_len rfl sl22) ?_
  refine t_mv rfl rfl ?_
  refine t_st rfl (st_len rfl sl22) ?_
  refine t_st rfl (st_neq rfl rfl) ?_
  refine t_ne ?_
  refine c_cond _ rfl (fun hc103 => ?_) (fun hc103 => ?_)
  ·
   rw [if_pos (of_decide_eq_true hc103)] at hm
   refine c_sr ?_
   refine t_as rfl rfl ?_
   refine t_ne ?_
   refine c_ret ?_
   refine x_then_ret ?_
   obtain rfl := some1 hm
   exact retM (rs := [.tmp 4]) [.bool (false)] (Base.Le.refl _) (by decide) rfl ⟨rfl, trivial⟩ rfl (.refl _) ⟨rfl, rfl⟩
  ·
   rw [if_neg (of_decide_eq_false hc103)] at hm
   refine c_skip ?_
   refine x_then_normal ?_
   refine c_seq ?_
   refine c_sr ?_
   refine t_mv rfl rfl ?_
   refine t_st rfl (st_len rfl sl22) ?_
   refine t_mv rfl rfl ?_
   refine t_ne ?_
   refine c_block ?_
   have hb105 : l4.length ≤ 9223372036854775807 := (FZ.bd h3)
   obtain ⟨t150, hl151, hk152⟩ := bindS hm
   refine c_forM (fun k149 => fun _ => fun b147 e' hp' => [(0, .slice A1 (l4).length c2), (1, .slice A5 (l8).length c6), (12, .int .i64 ((l4.length : Int))), (13, .int .i64 ((k149 : Int)))] = e' ∧ R = hp' ∧ b.Le b147) hl151 (e' := [(0, .slice A1 (l4).length c2), (1, .slice A5 (l8).length c6), (12, .int .i64 ((l4.length : Int))), (13, .int .i64 0)]) ⟨rfl, rfl, rfl, rfl, trivial⟩ (.refl _) ⟨rfl, rfl, (Base.Le.refl _)⟩ ?_ ?_
   ·
    rintro k149 _ b147 _ _ oL104 hknL104 ⟨rfl, rfl, hle148⟩ hstepL104 houtL104
    unfold mSlicesEqual_L104 at hstepL104
    have hm := hstepL104
    refine c_sr ?_
    refine t_st rfl (st_lss_t rfl rfl (by omega)) ?_
    refine t_ne ?_
    refine c_seq ?_
    refine c_cond_t rfl ?_
    refine c_skip ?_
    refine x_then_normal ?_
    refine c_seq ?_
    refine c_block ?_
    refine c_sr ?_
    refine t_mv rfl rfl ?_
    refine t_as rfl rfl ?_
    refine t_ne ?_
    refine c_seq ?_
    obtain ⟨x173, h174, hm⟩ := bindS hm
    obtain ⟨x183, h184, hm⟩ := bindS hm
    refine D_drawI mixed (.refl _) ?_
    refine E_st 0 rfl (st_move rfl) ?_
    refine E_st 1 rfl (st_move rfl) ?_
    obtain ⟨j175, hj176, hx177⟩ := idx_some h174
    obtain ⟨cs178, hr179, hcs180, hA181, hlt182⟩ := FZ.get (sz := 1) rfl (by decide) (h3.le hle148) hx177
    obtain rfl := hr179
    refine E_st 2 rfl (st_index_old j175 rfl rfl hj176 hlt182 hA181 sl22) ?_
    refine E_st 3 rfl (st_load_old rfl one3 (hcs180 0 _ rfl)) ?_
    refine E_st 4 rfl (st_move rfl) ?_
    refine E_st 5 rfl (st_move rfl) ?_
    obtain ⟨j185, hj186, hx187⟩ := idx_some h184
    obtain ⟨cs188, hr189, hcs190, hA191, hlt192⟩ := FZ.get (sz := 1) rfl (by decide) (h7.le hle148) hx187
    obtain rfl := hr189
    refine E_st 6 rfl (st_index_old j185 rfl rfl hj186 hlt192 hA191 sl22) ?_
    refine E_st 7 rfl (st_load_old rfl one3 (hcs190 0 _ rfl)) ?_
    refine E_st 8 rfl (st_neq rfl rfl) ?_
    refine E_out ?_
    refine D_done (by kernel_rfl) ?_
    refine x_then_normal ?_
    refine c_cond _ rfl (fun hc193 => ?_) (fun hc193 => ?_)
    ·
     rw [if_pos (of_decide_eq_true hc193)] at hm
     refine c_sr ?_
     refine t_as rfl rfl ?_
     refine t_ne ?_
     refine c_ret ?_
     refine x_block_ret ?_
     refine x_then_ret ?_
     refine x_then_ret ?_
     refine x_block_ret ?_
     refine x_then_ret ?_
     have hq194 := houtL104 _ (Option.some.inj hm).symm
     rw [hq194] at hk152
     have hm := elimR hk152
     obtain rfl := some1 hm
     exact retM (rs := [.tmp 4]) [.bool (false)] hle148 (by decide) rfl ⟨rfl, trivial⟩ rfl (.refl _) ⟨rfl, rfl⟩
    ·
     rw [if_neg (of_decide_eq_false hc193)] at hm
     refine c_skip ?_
     refine x_block_normal ?_
     refine x_then_normal ?_
     refine c_region ?_
     refine t_st rfl (st_add rfl rfl (by omega)) ?_
     refine t_mv rfl rfl ?_
     refine t_nil ?_
     exact x_againM () (Option.some.inj hm).symm (e' := [(0, .slice A1 (l4).length c2), (1, .slice A5 (l8).length c6), (12, .int .i64 ((l4.length : Int))), (13, .int .i64 ((k149 : Int) + 1))]) ⟨rfl, rfl, rfl, rfl, trivial⟩ (.refl _) ⟨rfl, rfl, (hle148)⟩
   ·
    rintro _ b147 _ _ ⟨rfl, rfl, hle148⟩ hq195
    rw [hq195] at hk152
    have hm := elimL hk152
    refine c_sr ?_
    refine t_st rfl (st_lss_f rfl rfl (by omega)) ?_
    refine t_ne ?_
    refine c_seq ?_
    refine c_cond_f rfl ?_
    refine c_exit ?_
    refine x_then_exit ?_
    refine x_then_exit ?_
    refine x_block_out ?_
    refine x_then_normal ?_
    refine c_sr ?_
    refine t_as rfl rfl ?_
    refine t_ne ?_
    refine c_ret ?_
    obtain rfl := some1 hm
    exact retM (rs := [.tmp 4]) [.bool (true)] hle148 (by decide) rfl ⟨rfl, trivial⟩ rfl (.refl _) ⟨rfl, rfl⟩

set_option maxRecDepth 20000 in
theorem cFishkeep2Rounds (b : Base) (R : Hp) (x113 : Bool) (hm : mFishkeep2Rounds = some x113) :
    CallsG Try.prog 18 [] b (R) (fun v b' hp' => .bool (x113) = v ∧ R = hp') := by
  refine fn_enterG 34 Try.func18 rfl Try.ntmps18 rfl ?_
  unfold mFishkeep2Rounds at hm
  refine c_sr ?_
  refine t_as rfl rfl ?_
  refine t_ne ?_
  refine c_sr ?_
  refine t_do rfl (u_bslice (el := 3) [(0, .int .i64 (0)), (1, .int .i64 (5))] [.int .i64 (0), .int .i64 (5)] rfl (fun _ => by kernel_rfl)) ?_
  rintro _ _ ⟨g114, rfl, rfl⟩
  refine t_st rfl (st_build (v := .agg #[.int .i64 (0), .int .i64 (1), .int .i64 (3), .int .i64 (0)]) [(0, .int .i64 (0)), (1, .int .i64 (1)), (2, .int .i64 (3))] rfl (fun _ => by kernel_rfl)) ?_
  refine t_do rfl (u_bslice (el := 83) [(0, .agg #[.int .i64 (0), .int .i64 (1), .int .i64 (3), .int .i64 (0)])] [.int .i64 (0), .int .i64 (1), .int .i64 (3), .int .i64 (0)] rfl (fun _ => by kernel_rfl)) ?_
  rintro _ _ ⟨g115, rfl, rfl⟩
  refine t_st rfl (st_build (v := .agg #[.int .i64 (9), .slice (some ⟨g114, 0, none⟩) 2 2, .slice (some ⟨g115, 0, none⟩) 1 1]) [(0, .int .i64 (9)), (1, .slice (some ⟨g114, 0, none⟩) 2 2), (2, .slice (some ⟨g115, 0, none⟩) 1 1)] rfl (fun _ => by kernel_rfl)) ?_
  refine t_do rfl (u_alloc [.int .i64 0, .slice none 0 0, .slice none 0 0] zero54 rfl) ?_
  rintro _ _ ⟨g116, rfl, rfl⟩
  refine t_seg 2 [_, _] R rfl rfl ?_
  have h118 : OS 3 (OT.fr (RT.int .i64)) b.w (.slice (some ⟨g114, 0, none⟩) 2 2) [0, 5] [(g114, Cl 3 [.int .i64 (0), .int .i64 (5)])] := OS.lit [[.int .i64 (0)], [.int .i64 (5)]] rfl ⟨rfl, ⟨rfl, trivial⟩⟩ rfl (by decide)
  refine t_seg 1 [_] ([(g114, Cl 3 [.int .i64 (0), .int .i64 (5)])] ++ R) rfl rfl ?_
  have h120 : OS 83 (OT.fr rMendLink) b.w (.slice (some ⟨g115, 0, none⟩) 1 1) [(⟨0, 1, 3, 0⟩ : MendLink)] [(g115, Cl 83 [.int .i64 (0), .int .i64 (1), .int .i64 (3), .int .i64 (0)])] := OS.lit [[.int .i64 (0), .int .i64 (1), .int .i64 (3), .int .i64 (0)]] rfl ⟨⟨[.int .i64 (0)], _, rfl, rfl, ⟨[.int .i64 (1)], _, rfl, rfl, ⟨[.int .i64 (3)], _, rfl, rfl, rfl⟩⟩⟩, trivial⟩ rfl (by decide)
  refine t_do rfl (u_storeN (vs := [_, _, _]) 0 3 rfl rfl rfl siz54 rfl (mem_c rfl (mem_c rfl (mem_c rfl mem_n))) rfl (by simp)) ?_
  rintro _ _ rfl
  refine t_ne ?_
  refine c_sr ?_
  refine t_st rfl (st_loadD (vs := [_, _, _]) 0 3 rfl agg54 rfl rfl rfl) ?_
  refine t_front2 [_] [(g115, Cl 83 [.int .i64 (0), .int .i64 (1), .int .i64 (3), .int .i64 (0)])] [(g114, Cl 3 [.int .i64 (0), .int .i64 (5)])] R rfl ?_
  have hnz121 : (((some ⟨g114, 0, none⟩) : Option Addr) = none ↔ [0, 5] = []) := ⟨nofun, nofun⟩
  refine t_frz [_] [(g114, Cl 3 [.int .i64 (0), .int .i64 (5)])] ([(g115, Cl 83 [.int .i64 (0), .int .i64 (1), .int .i64 (3), .int .i64 (0)])] ++ R) rfl ?_
  intro b122 hle123 hz124
  have h125 := OS.frz (l := [0, 5]) h118 hle123.cells hz124
  have hnz126 : (((some ⟨g115, 0, none⟩) : Option Addr) = none ↔ [(⟨0, 1, 3, 0⟩ : MendLink)] = []) := ⟨nofun, nofun⟩
  refine t_frz [_] [(g115, Cl 83 [.int .i64 (0), .int .i64 (1), .int .i64 (3), .int .i64 (0)])] R rfl ?_
  intro b127 hle128 hz129
  have h130 := OS.frz (l := [(⟨0, 1, 3, 0⟩ : MendLink)]) (h120.le hle123) hle128.cells hz129
  obtain ⟨⟨x131, l132⟩, hcl133, hm⟩ := bindS hm
  have hm := (unc2E hm)
  refine t_callG _ rfl call28 rfl (cMendRoom _ _ (⟨9, [0, 5], [(⟨0, 1, 3, 0⟩ : MendLink)]⟩ : MendRound) (some ⟨g114, 0, none⟩) 2 (some ⟨g115, 0, none⟩) 1 (h125.le hle128) h130 x131 l132 hcl133) ?_
  rintro _ b134 _ hle135 ⟨A136, c137, hs138, rfl, rfl, h139⟩
  refine t_in1 [] [_] hs138 R rfl ?_
  refine t_mv rfl rfl ?_
  refine t_st rfl (st_extract rfl rfl) ?_
  refine t_st rfl (st_extract rfl rfl) ?_
  refine t_frz [_] hs138 R rfl ?_
  intro b140 hle141 hz142
  have h143 := OS.frz (l := l132) h139 hle141.cells hz142
  refine t_as rfl rfl ?_
  refine t_as rfl rfl ?_
  refine t_ne ?_
  obtain ⟨x185, hj186, hk186⟩ := bindS hm
  refine c_join (fun b183 e' hp' => [(0, .bool (x185))] = e' ∧ R = hp' ∧ b140.Le b183) ?_ ?_
  ·
   have hm := hj186
   refine c_region ?_
   refine t_mv rfl rfl ?_
   refine t_bool rfl (st_eql rfl rfl) (fun hc187 => ?_) (fun hc187 => ?_)
   ·
    rw [if_pos hc187] at hm
    refine t_mv rfl rfl ?_
    refine t_yes 15 rfl rfl rfl ?_
    refine t_mv rfl rfl ?_
    refine t_yes 15 rfl rfl rfl ?_
    refine t_st rfl (st_len rfl sl45) ?_
    refine t_yes 15 rfl rfl rfl ?_
    refine t_bool rfl (st_eql rfl rfl) (fun hc188 => ?_) (fun hc188 => ?_)
    ·
     rw [if_pos hc188] at hm
     refine t_st rfl (st_pick_t rfl rfl) ?_
     refine t_mv rfl rfl ?_
     refine t_yes 20 rfl rfl rfl ?_
     refine t_mv rfl rfl ?_
     refine t_yes 20 rfl rfl rfl ?_
     obtain ⟨x189, h190, hm⟩ := bindS hm
     obtain ⟨j191, hj192, hx193⟩ := idx_some h190
     obtain ⟨cs194, hr195, hcs196, hA197, hlt198⟩ := FZ.get (sz := 1) rfl (by decide) h143 hx193
     obtain ⟨A199, c200, rfl, h201⟩ := hr195
     refine t_st rfl (st_index_old j191 rfl rfl hj192 hlt198 hA197 sl45) ?_
     refine t_yes 20 rfl rfl rfl ?_
     refine t_st rfl (st_load_old rfl one22 (hcs196 0 _ rfl)) ?_
     refine t_yes 20 rfl rfl rfl ?_
     refine t_do rfl (u_bslice (el := 3) [(0, .int .i64 (0)), (1, .int .i64 (2))] [.int .i64 (0), .int .i64 (2)] rfl (fun _ => by kernel_rfl)) ?_
     rintro _ _ ⟨g202, rfl, rfl⟩
     refine t_yes 20 rfl rfl rfl ?_
     refine t_seg 0 [_] R rfl rfl ?_
     have h204 : OS 3 (OT.fr (RT.int .i64)) b140.w (.slice (some ⟨g202, 0, none⟩) 2 2) [0, 2] [(g202, Cl 3 [.int .i64 (0), .int .i64 (2)])] := OS.lit [[.int .i64 (0)], [.int .i64 (2)]] rfl ⟨rfl, ⟨rfl, trivial⟩⟩ rfl (by decide)
     obtain ⟨x205, hcl206, hm⟩ := bindS hm
     refine t_do rfl (u_callW0 _ call22 rfl (fun w ho => cSlicesEqual _ [] x189 [0, 2] A199 c200 (some ⟨g202, 0, none⟩) 2 (h201.old ho) (OS.now (o := (OT.fr (RT.int .i64))) (l := [0, 2]) (hs := [(g202, Cl 3 [.int .i64 (0), .int .i64 (2)])]) h204 ho (.cons _ (List.sublist_append_left _ _))) x205 hcl206) (fun _ _ _ h => h.2.symm)) ?_
     rintro _ _ ⟨⟨_, rfl, _⟩, rfl⟩
     rcases Bool.eq_false_or_eq_true x205 with hc207 | hc207
     ·
      rw [if_pos hc207] at hm
      refine t_resp 25 rfl (v' := .bool true) (by rw [hc207] <;> rfl) ?_
      refine t_st rfl (st_pick_t rfl rfl) ?_
      refine t_mv rfl rfl ?_
      refine t_yes 27 rfl rfl rfl ?_
      refine t_mv rfl rfl ?_
      refine t_yes 27 rfl rfl rfl ?_
      obtain ⟨x208, h209, hm⟩ := bindS hm
      obtain ⟨j210, hj211, hx212⟩ := idx_some h209
      obtain ⟨cs213, hr214, hcs215, hA216, hlt217⟩ := FZ.get (sz := 1) rfl (by decide) h143 hx212
      obtain ⟨A218, c219, rfl, h220⟩ := hr214
      refine t_st rfl (st_index_old j210 rfl rfl hj211 hlt217 hA216 sl45) ?_
      refine t_yes 27 rfl rfl rfl ?_
      refine t_st rfl (st_load_old rfl one22 (hcs215 0 _ rfl)) ?_
      refine t_yes 27 rfl rfl rfl ?_
      refine t_do rfl (u_bslice (el := 3) [(0, .int .i64 ((-1))), (1, .int .i64 (0))] [.int .i64 ((-1)), .int .i64 (0)] rfl (fun _ => by kernel_rfl)) ?_
      rintro _ _ ⟨g221, rfl, rfl⟩
      refine t_yes 27 rfl rfl rfl ?_
      refine t_seg 0 [_] ([(g202, Cl 3 [.int .i64 (0), .int .i64 (2)])] ++ R) rfl rfl ?_
      have h223 : OS 3 (OT.fr (RT.int .i64)) b140.w (.slice (some ⟨g221, 0, none⟩) 2 2) [(-1), 0] [(g221, Cl 3 [.int .i64 ((-1)), .int .i64 (0)])] := OS.lit [[.int .i64 ((-1))], [.int .i64 (0)]] rfl ⟨rfl, ⟨rfl, trivial⟩⟩ rfl (by decide)
      obtain ⟨x224, hcl225, hm⟩ := bindS hm
      refine t_do rfl (u_callW0 _ call22 rfl (fun w ho => cSlicesEqual _ [] x208 [(-1), 0] A218 c219 (some ⟨g221, 0, none⟩) 2 (h220.old ho) (OS.now (o := (OT.fr (RT.int .i64))) (l := [(-1), 0]) (hs := [(g221, Cl 3 [.int .i64 ((-1)), .int .i64 (0)])]) h223 ho (.cons _ (List.sublist_append_left _ _))) x224 hcl225) (fun _ _ _ h => h.2.symm)) ?_
      rintro _ _ ⟨⟨_, rfl, _⟩, rfl⟩
      refine t_st rfl (st_pick_t rfl rfl) ?_
      refine t_as rfl rfl ?_
      refine t_nil ?_
      obtain rfl := some1 hm
      exact x_join (e' := [(0, .bool (x224))]) ⟨rfl, trivial⟩ (.cons _ (sub_skip [(g221, Cl 3 [.int .i64 ((-1)), .int .i64 (0)])] (sub_skip [(g202, Cl 3 [.int .i64 (0), .int .i64 (2)])] (.refl _)))) ⟨rfl, rfl, (Base.Le.refl _)⟩
     ·
      rw [if_neg (fun hh => Bool.noConfusion (hh.symm.trans hc207))] at hm
      refine t_resp 25 rfl (v' := .bool false) (by rw [hc207] <;> rfl) ?_
      refine t_st rfl (st_pick_t rfl rfl) ?_
      refine t_mv rfl rfl ?_
      refine t_no 27 rfl rfl rfl rfl rfl ?_
      refine t_no 27 rfl rfl rfl rfl rfl ?_
      refine t_no 27 rfl rfl rfl rfl rfl ?_
      refine t_no 27 rfl rfl rfl rfl rfl ?_
      refine t_no 27 rfl rfl rfl rfl rfl ?_
      refine t_st rfl (st_pick_f rfl rfl) ?_
      refine t_as rfl rfl ?_
      refine t_nil ?_
      obtain rfl := some1 hm
      exact x_join (e' := [(0, .bool (false))]) ⟨rfl, trivial⟩ (.cons _ (sub_skip [(g202, Cl 3 [.int .i64 (0), .int .i64 (2)])] (.refl _))) ⟨rfl, rfl, (Base.Le.refl _)⟩
    ·
     rw [if_neg hc188] at hm
     refine t_st rfl (st_pick_t rfl rfl) ?_
     refine t_mv rfl rfl ?_
     refine t_no 20 rfl rfl rfl rfl rfl ?_
     refine t_no 20 rfl rfl rfl rfl rfl ?_
     refine t_no 20 rfl rfl rfl rfl rfl ?_
     refine t_no 20 rfl rfl rfl rfl rfl ?_
     refine t_no 20 rfl rfl rfl rfl rfl ?_
     refine t_st rfl (st_pick_f rfl rfl) ?_
     refine t_mv rfl rfl ?_
     refine t_no 27 rfl rfl rfl rfl rfl ?_
     refine t_no 27 rfl rfl rfl rfl rfl ?_
     refine t_no 27 rfl rfl rfl rfl rfl ?_
     refine t_no 27 rfl rfl rfl rfl rfl ?_
     refine t_no 27 rfl rfl rfl rfl rfl ?_
     refine t_st rfl (st_pick_f rfl rfl) ?_
     refine t_as rfl rfl ?_
     refine t_nil ?_
     obtain rfl := some1 hm
     exact x_join (e' := [(0, .bool (false))]) ⟨rfl, trivial⟩ (.cons _ (.refl _)) ⟨rfl, rfl, (Base.Le.refl _)⟩
   ·
    rw [if_neg hc187] at hm
    refine t_mv rfl rfl ?_
    refine t_no 15 rfl rfl rfl rfl rfl ?_
    refine t_no 15 rfl rfl rfl rfl rfl ?_
    refine t_no 15 rfl rfl rfl rfl rfl ?_
    refine t_st rfl (st_pick_f rfl rfl) ?_
    refine t_mv rfl rfl ?_
    refine t_no 20 rfl rfl rfl rfl rfl ?_
    refine t_no 20 rfl rfl rfl rfl rfl ?_
    refine t_no 20 rfl rfl rfl rfl rfl ?_
    refine t_no 20 rfl rfl rfl rfl rfl ?_
    refine t_no 20 rfl rfl rfl rfl rfl ?_
    refine t_st rfl (st_pick_f rfl rfl) ?_
    refine t_mv rfl rfl ?_
    refine t_no 27 rfl rfl rfl rfl rfl ?_
    refine t_no 27 rfl rfl rfl rfl rfl ?_
    refine t_no 27 rfl rfl rfl rfl rfl ?_
    refine t_no 27 rfl rfl rfl rfl rfl ?_
    refine t_no 27 rfl rfl rfl rfl rfl ?_
    refine t_st rfl (st_pick_f rfl rfl) ?_
    refine t_as rfl rfl ?_
    refine t_nil ?_
    obtain rfl := some1 hm
    exact x_join (e' := [(0, .bool (false))]) ⟨rfl, trivial⟩ (.cons _ (.refl _)) ⟨rfl, rfl, (Base.Le.refl _)⟩
  ·
   rintro b183 _ _ ⟨rfl, rfl, hle184⟩
   have hm := hk186
   refine c_ret ?_
   obtain rfl := some1 hm
   exact retM (rs := [.tmp 0]) [.bool (x185)] (hle123.trans (hle128.trans (hle135.trans (hle141.trans hle184)))) (by decide) rfl ⟨rfl, trivial⟩ rfl (.refl _) ⟨rfl, rfl⟩

set_option maxRecDepth 20000 in
theorem cFishref2Within (b : Base) (R : Hp) (x1 : Int) (x2 : Int) (x3 : Int) (x10 : Bool) (hm : mFishref2Within x1 x2 x3 = some x10) :
    CallsG Try.prog 48 [.int .i64 (x1), .int .i64 (x2), .int .i64 (x3)] b (R) (fun v b' hp' => .bool (x10) = v ∧ R = hp') := by
  refine fn_enterG 15 Try.func48 rfl Try.ntmps48 rfl ?_
  unfold mFishref2Within at hm
  refine c_sr ?_
  refine t_as rfl rfl ?_
  refine t_ne ?_
  obtain ⟨x14, hj15, hk15⟩ := bindS hm
  refine c_join (fun b12 e' hp' => [(6, .bool (x14))] = e' ∧ R = hp' ∧ b.Le b12) ?_ ?_
  ·
   have hm := hj15
   refine c_region ?_
   refine t_mv rfl rfl ?_
   refine t_mv rfl rfl ?_
   refine t_bool rfl (st_geq rfl rfl) (fun hc16 => ?_) (fun hc16 => ?_)
   ·
    rw [if_pos hc16] at hm
    refine t_mv rfl rfl ?_
    refine t_yes 10 rfl rfl rfl ?_
    refine t_mv rfl rfl ?_
    refine t_yes 10 rfl rfl rfl ?_
    refine t_mv rfl rfl ?_
    refine t_yes 10 rfl rfl rfl ?_
    refine t_st rfl (st_leq rfl rfl) ?_
    refine t_st rfl (st_pick_t rfl rfl) ?_
    refine t_as rfl rfl ?_
    refine t_nil ?_
    obtain rfl := some1 hm
    exact x_join (e' := [(6, .bool (decide (x1 ≤ x3)))]) ⟨rfl, trivial⟩ (.refl _) ⟨rfl, rfl, (Base.Le.refl _)⟩
   ·
    rw [if_neg hc16] at hm
    refine t_mv rfl rfl ?_
    refine t_no 10 rfl rfl rfl rfl rfl ?_
    refine t_no 10 rfl rfl rfl rfl rfl ?_
    refine t_no 10 rfl rfl rfl rfl rfl ?_
    refine t_st rfl (st_pick_f rfl rfl) ?_
    refine t_as rfl rfl ?_
    refine t_nil ?_
    obtain rfl := some1 hm
    exact x_join (e' := [(6, .bool (false))]) ⟨rfl, trivial⟩ (.refl _) ⟨rfl, rfl, (Base.Le.refl _)⟩
  ·
   rintro b12 _ _ ⟨rfl, rfl, hle13⟩
   have hm := hk15
   refine c_ret ?_
   obtain rfl := some1 hm
   exact retM (rs := [.tmp 6]) [.bool (x14)] hle13 (by decide) rfl ⟨rfl, trivial⟩ rfl (.refl _) ⟨rfl, rfl⟩

set_option maxRecDepth 20000 in
theorem cFishref2SlackOf (b : Base) (R : Hp) (s1 : MendRound) (s8 : MendLink) (A2 : Option Addr) (c3 : Nat) (A5 : Option Addr) (c6 : Nat) (h4 : FZ (RT.int .i64) b.w A2 c3 s1.Plan) (h7 : FZ rMendLink b.w A5 c6 s1.Links) (x59 : Int) (hm : mFishref2SlackOf s1 s8 = some x59) :
    CallsG Try.prog 49 [.agg #[.int .i64 (s1.Period), .slice A2 (s1.Plan).length c3, .slice A5 (s1.Links).length c6], .agg #[.int .i64 (s8.From), .int .i64 (s8.To), .int .i64 (s8.Len), .int .i64 (s8.Back)]] b (R) (fun v b' hp' => .int .i64 (x59) = v ∧ R = hp') := by
  refine fn_enterG 27 Try.func49 rfl Try.ntmps49 rfl ?_
  unfold mFishref2SlackOf at hm
  refine c_sr ?_
  refine t_do rfl (u_box _ rfl rfl) ?_
  rintro _ _ ⟨g60, rfl, rfl⟩
  refine t_do rfl (u_box _ rfl rfl) ?_
  rintro _ _ ⟨g61, rfl, rfl⟩
  refine t_as rfl rfl ?_
  refine t_ne ?_
  refine c_seq ?_
  obtain ⟨x86, h87, hm⟩ := bindS hm
  obtain ⟨x96, h97, hm⟩ := bindS hm
  obtain ⟨_, h106, hm⟩ := bindS hm
  obtain ⟨_, h107, hm⟩ := bindS hm
  obtain ⟨_, h108, hm⟩ := bindS hm
  obtain ⟨_, h109, hm⟩ := bindS hm
  refine D_drawI mixed (.refl _) ?_
  refine E_st 0 rfl (st_field rfl fld54_1) ?_
  refine E_st 1 rfl (st_load 1 rfl one22 rfl rfl) ?_
  refine E_st 2 rfl (st_field rfl fld83_1) ?_
  refine E_st 3 rfl (st_load 0 rfl one3 rfl rfl) ?_
  obtain ⟨j88, hj89, hx90⟩ := idx_some h87
  obtain ⟨cs91, hr92, hcs93, hA94, hlt95⟩ := FZ.get (sz := 1) rfl (by decide) h4 hx90
  obtain rfl := hr92
  refine E_st 4 rfl (st_index_old j88 rfl rfl hj89 hlt95 hA94 sl22) ?_
  refine E_st 5 rfl (st_load_old rfl one3 (hcs93 0 _ rfl)) ?_
  refine E_st 6 rfl (st_field rfl fld54_1) ?_
  refine E_st 7 rfl (st_load 1 rfl one22 rfl rfl) ?_
  refine E_st 8 rfl (st_field rfl fld83_0) ?_
  refine E_st 9 rfl (st_load 0 rfl one3 rfl rfl) ?_
  obtain ⟨j98, hj99, hx100⟩ := idx_some h97
  obtain ⟨cs101, hr102, hcs103, hA104, hlt105⟩ := FZ.get (sz := 1) rfl (by decide) h4 hx100
  obtain rfl := hr102
  refine E_st 10 rfl (st_index_old j98 rfl rfl hj99 hlt105 hA104 sl22) ?_
  refine E_st 11 rfl (st_load_old rfl one3 (hcs103 0 _ rfl)) ?_
  have h106 := (chk_some h106).2
  refine E_st 12 rfl (st_sub rfl rfl h106) ?_
  refine E_st 13 rfl (st_field rfl fld83_3) ?_
  refine E_st 14 rfl (st_load 0 rfl one3 rfl rfl) ?_
  refine E_st 15 rfl (st_field rfl fld54_0) ?_
  refine E_st 16 rfl (st_load 1 rfl one3 rfl rfl) ?_
  have h107 := (chk_some h107).2
  refine E_st 17 rfl (st_mul rfl rfl h107) ?_
  have h108 := (chk_some h108).2
  refine E_st 18 rfl (st_add rfl rfl h108) ?_
  refine E_st 19 rfl (st_field rfl fld83_2) ?_
  refine E_st 20 rfl (st_load 0 rfl one3 rfl rfl) ?_
  have h109 := (chk_some h109).2
  refine E_st 21 rfl (st_sub rfl rfl h109) ?_
  refine E_st 22 rfl (st_assign rfl) ?_
  refine E_out ?_
  refine D_done (by kernel_rfl) ?_
  refine x_then_normal ?_
  refine c_ret ?_
  obtain rfl := some1 hm
  exact retM (rs := [.tmp 4]) [.int .i64 (((x86 - x96) + (s8.Back * s1.Period)) - s8.Len)] (Base.Le.refl _) (by decide) rfl ⟨rfl, trivial⟩ rfl (.cons _ (.cons _ (.refl _))) ⟨rfl, rfl⟩

set_option maxRecDepth 20000 in
theorem cSlicesIndex (b : Base) (R : Hp) (l4 : (List Bool)) (x5 : Bool) (A1 : Option Addr) (c2 : Nat) (h3 : FZ RT.bool b.w A1 c2 l4) (x38 : Int) (hm : mSlicesIndex l4 x5 = some x38) :
    CallsG Try.prog 66 [.slice A1 (l4).length c2, .bool (x5)] b (R) (fun v b' hp' => .int .i64 (x38) = v ∧ R = hp') := by
  refine fn_enterG 19 Try.func66 rfl Try.ntmps66 rfl ?_
  unfold mSlicesIndex at hm
  refine c_sr ?_
  refine t_as rfl rfl ?_
  refine t_ne ?_
  refine c_seq ?_
  refine c_sr ?_
  refine t_mv rfl rfl ?_
  refine t_st rfl (st_len rfl sl88) ?_
  refine t_mv rfl rfl ?_
  refine t_ne ?_
  refine c_block ?_
  have hb40 : l4.length ≤ 9223372036854775807 := (FZ.bd h3)
  obtain ⟨t55, hl56, hk57⟩ := bindS hm
  refine c_forM (fun k54 => fun _ => fun b52 e' hp' => [(0, .slice A1 (l4).length c2), (1, .bool (x5)), (7, .int .i64 ((l4.length : Int))), (8, .int .i64 ((k54 : Int)))] = e' ∧ R = hp' ∧ b.Le b52) hl56 (e' := [(0, .slice A1 (l4).length c2), (1, .bool (x5)), (7, .int .i64 ((l4.length : Int))), (8, .int .i64 0)]) ⟨rfl, rfl, rfl, rfl, trivial⟩ (.refl _) ⟨rfl, rfl, (Base.Le.refl _)⟩ ?_ ?_
  ·
   rintro k54 _ b52 _ _ oL39 hknL39 ⟨rfl, rfl, hle53⟩ hstepL39 houtL39
   unfold mSlicesIndex_L39 at hstepL39
   have hm := hstepL39
   refine c_sr ?_
   refine t_st rfl (st_lss_t rfl rfl (by omega)) ?_
   refine t_ne ?_
   refine c_seq ?_
   refine c_cond_t rfl ?_
   refine c_skip ?_
   refine x_then_normal ?_
   refine c_seq ?_
   refine c_block ?_
   refine c_sr ?_
   refine t_mv rfl rfl ?_
   refine t_as rfl rfl ?_
   refine t_ne ?_
   refine c_sr ?_
   refine t_mv rfl rfl ?_
   refine t_mv rfl rfl ?_
   refine t_mv rfl rfl ?_
   obtain ⟨x58, h59, hm⟩ := bindS hm
   obtain ⟨j60, hj61, hx62⟩ := idx_some h59
   obtain ⟨cs63, hr64, hcs65, hA66, hlt67⟩ := FZ.get (sz := 1) rfl (by decide) (h3.le hle53) hx62
   obtain rfl := hr64
   refine t_st rfl (st_index_old j60 rfl rfl hj61 hlt67 hA66 sl88) ?_
   refine t_st rfl (st_load_old rfl one4 (hcs65 0 _ rfl)) ?_
   refine t_st rfl (st_beql rfl rfl boo4) ?_
   refine t_ne ?_
   refine c_cond _ rfl (fun hc68 => ?_) (fun hc68 => ?_)
   ·
    rw [if_pos hc68] at hm
    refine c_sr ?_
    refine t_mv rfl rfl ?_
    refine t_as rfl rfl ?_
    refine t_ne ?_
    refine c_ret ?_
    refine x_block_ret ?_
    refine x_then_ret ?_
    refine x_then_ret ?_
    refine x_block_ret ?_
    refine x_then_ret ?_
    have hq69 := houtL39 _ (Option.some.inj hm).symm
    rw [hq69] at hk57
    have hm := elimR hk57
    obtain rfl := some1 hm
    exact retM (rs := [.tmp 4]) [.int .i64 ((k54 : Int))] hle53 (by decide) rfl ⟨rfl, trivial⟩ rfl (.refl _) ⟨rfl, rfl⟩
   ·
    rw [if_neg (fun hh => Bool.noConfusion (hh.symm.trans hc68))] at hm
    refine c_skip ?_
    refine x_block_normal ?_
    refine x_then_normal ?_
    refine c_region ?_
    refine t_st rfl (st_add rfl rfl (by omega)) ?_
    refine t_mv rfl rfl ?_
    refine t_nil ?_
    exact x_againM () (Option.some.inj hm).symm (e' := [(0, .slice A1 (l4).length c2), (1, .bool (x5)), (7, .int .i64 ((l4.length : Int))), (8, .int .i64 ((k54 : Int) + 1))]) ⟨rfl, rfl, rfl, rfl, trivial⟩ (.refl _) ⟨rfl, rfl, (hle53)⟩
  ·
   rintro _ b52 _ _ ⟨rfl, rfl, hle53⟩ hq70
   rw [hq70] at hk57
   have hm := elimL hk57
   refine c_sr ?_
   refine t_st rfl (st_lss_f rfl rfl (by omega)) ?_
   refine t_ne ?_
   refine c_seq ?_
   refine c_cond_f rfl ?_
   refine c_exit ?_
   refine x_then_exit ?_
   refine x_then_exit ?_
   refine x_block_out ?_
   refine x_then_normal ?_
   refine c_sr ?_
   refine t_as rfl rfl ?_
   refine t_ne ?_
   refine c_ret ?_
   obtain rfl := some1 hm
   exact retM (rs := [.tmp 4]) [.int .i64 ((-1))] hle53 (by decide) rfl ⟨rfl, trivial⟩ rfl (.refl _) ⟨rfl, rfl⟩

set_option maxRecDepth 20000 in
theorem cSlicesContains (b : Base) (R : Hp) (l4 : (List Bool)) (x5 : Bool) (A1 : Option Addr) (c2 : Nat) (h3 : FZ RT.bool b.w A1 c2 l4) (x8 : Bool) (hm : mSlicesContains l4 x5 = some x8) :
    CallsG Try.prog 50 [.slice A1 (l4).length c2, .bool (x5)] b (R) (fun v b' hp' => .bool (x8) = v ∧ R = hp') := by
  refine fn_enterG 9 Try.func50 rfl Try.ntmps50 rfl ?_
  unfold mSlicesContains at hm
  refine c_sr ?_
  refine t_as rfl rfl ?_
  refine t_ne ?_
  refine c_sr ?_
  refine t_mv rfl rfl ?_
  refine t_mv rfl rfl ?_
  obtain ⟨x9, hcl10, hm⟩ := bindS hm
  refine t_do rfl (u_callW0 _ call66 rfl (fun w ho => cSlicesIndex _ [] l4 x5 A1 c2 (h3.old ho) x9 hcl10) (fun _ _ _ h => h.2.symm)) ?_
  rintro _ _ ⟨⟨_, rfl, _⟩, rfl⟩
  refine t_st rfl (st_geq rfl rfl) ?_
  refine t_as rfl rfl ?_
  refine t_ne ?_
  refine c_ret ?_
  obtain rfl := some1 hm
  exact retM (rs := [.tmp 4]) [.bool (decide (0 ≤ x9))] (Base.Le.refl _) (by decide) rfl ⟨rfl, trivial⟩ rfl (.refl _) ⟨rfl, rfl⟩

set_option maxRecDepth 20000 in
theorem cFishref2RoundFault (b : Base) (R : Hp) (s1 : MendRound) (A2 : Option Addr) (c3 : Nat) (A5 : Option Addr) (c6 : Nat) (h4 : FZ (RT.int .i64) b.w A2 c3 s1.Plan) (h7 : FZ rMendLink b.w A5 c6 s1.Links) (x1616 : Int) (hm : mFishref2RoundFault s1 = some x1616) :
    CallsG Try.prog 24 [.agg #[.int .i64 (s1.Period), .slice A2 (s1.Plan).length c3, .slice A5 (s1.Links).length c6]] b (R) (fun v b' hp' => .int .i64 (x1616) = v ∧ R = hp') := by
  refine fn_enterG 138 Try.func24 rfl Try.ntmps24 rfl ?_
  unfold mFishref2RoundFault at hm
  refine c_sr ?_
  refine t_do rfl (u_box _ rfl rfl) ?_
  rintro _ _ ⟨g1617, rfl, rfl⟩
  refine t_as rfl rfl ?_
  refine t_ne ?_
  refine c_seq ?_
  refine c_sr ?_
  refine t_st rfl (st_field rfl fld54_0) ?_
  refine t_st rfl (st_load 0 rfl one3 rfl rfl) ?_
  obtain ⟨x1618, hcl1619, hm⟩ := bindS hm
  refine t_do rfl (u_callW0 _ call48 rfl (fun w ho => cFishref2Within _ [] s1.Period 1 3600 x1618 hcl1619) (fun _ _ _ h => h.2.symm)) ?_
  rintro _ _ ⟨⟨_, rfl, _⟩, rfl⟩
  refine t_st rfl (st_not rfl) ?_
  refine t_ne ?_
  refine c_cond _ rfl (fun hc1620 => ?_) (fun hc1620 => ?_)
  ·
   rw [if_neg (fun hh => Bool.noConfusion (hh.symm.trans (notT hc1620)))] at hm
   refine c_sr ?_
   refine t_as rfl rfl ?_
   refine t_ne ?_
   refine c_ret ?_
   refine x_then_ret ?_
   obtain rfl := some1 hm
   exact retM (rs := [.tmp 2]) [.int .i64 (2)] (Base.Le.refl _) (by decide) rfl ⟨rfl, trivial⟩ rfl (.cons _ (.refl _)) ⟨rfl, rfl⟩
  ·
   rw [if_pos (notF hc1620)] at hm
   refine c_skip ?_
   refine x_then_normal ?_
   refine c_sr ?_
   refine t_st rfl (st_field rfl fld54_1) ?_
   refine t_st rfl (st_load 0 rfl one22 rfl rfl) ?_
   refine t_st rfl (st_len rfl sl22) ?_
   refine t_as rfl rfl ?_
   refine t_ne ?_
   refine c_seq ?_
   obtain ⟨x1626, hj1627, hk1627⟩ := bindS hm
   refine c_join (fun b1624 e' hp' => [(1, .pointer (some ⟨g1617, 0, none⟩)), (3, .int .i64 ((s1.Plan.length : Int))), (28, .bool (x1626))] = e' ∧ (g1617, Cl 54 [.int .i64 (s1.Period), .slice A2 (s1.Plan).length c3, .slice A5 (s1.Links).length c6]) :: R = hp' ∧ b.Le b1624) ?_ ?_
   ·
    have hm := hj1627
    refine c_region ?_
    refine t_mv rfl rfl ?_
    obtain ⟨x1628, hcl1629, hm⟩ := bindS hm
    refine t_do rfl (u_callW0 _ call48 rfl (fun w ho => cFishref2Within _ [] (s1.Plan.length : Int) 1 8 x1628 hcl1629) (fun _ _ _ h => h.2.symm)) ?_
    rintro _ _ ⟨⟨_, rfl, _⟩, rfl⟩
    rcases Bool.eq_false_or_eq_true x1628 with hc1630 | hc1630
    ·
     rw [if_pos hc1630] at hm
     refine t_resp 21 rfl (v' := .bool true) (by rw [hc1630] <;> rfl) ?_
     refine t_st rfl (st_not_t rfl) ?_
     refine t_mv rfl rfl ?_
     refine t_yes 23 rfl rfl rfl ?_
     refine t_st rfl (st_field rfl fld54_2) ?_
     refine t_yes 23 rfl rfl rfl ?_
     refine t_st rfl (st_load 0 rfl one52 rfl rfl) ?_
     refine t_yes 23 rfl rfl rfl ?_
     refine t_st rfl (st_len rfl sl52) ?_
     refine t_yes 23 rfl rfl rfl ?_
     refine t_st rfl (st_gtr rfl rfl) ?_
     refine t_st rfl (st_pick_f rfl rfl) ?_
     refine t_nil ?_
     obtain rfl := some1 hm
     exact x_join (e' := [(1, .pointer (some ⟨g1617, 0, none⟩)), (3, .int .i64 ((s1.Plan.length : Int))), (28, .bool (decide (24 < (s1.Links.length : Int))))]) ⟨rfl, rfl, rfl, trivial⟩ (.refl _) ⟨rfl, rfl, (Base.Le.refl _)⟩
    ·
     rw [if_neg (fun hh => Bool.noConfusion (hh.symm.trans hc1630))] at hm
     refine t_resp 21 rfl (v' := .bool false) (by rw [hc1630] <;> rfl) ?_
     refine t_st rfl (st_not_f rfl) ?_
     refine t_mv rfl rfl ?_
     refine t_no 23 rfl rfl rfl rfl rfl ?_
     refine t_no 23 rfl rfl rfl rfl rfl ?_
     refine t_no 23 rfl rfl rfl rfl rfl ?_
     refine t_no 23 rfl rfl rfl rfl rfl ?_
     refine t_st rfl (st_pick_t rfl rfl) ?_
     refine t_nil ?_
     obtain rfl := some1 hm
     exact x_join (e' := [(1, .pointer (some ⟨g1617, 0, none⟩)), (3, .int .i64 ((s1.Plan.length : Int))), (28, .bool (true))]) ⟨rfl, rfl, rfl, trivial⟩ (.refl _) ⟨rfl, rfl, (Base.Le.refl _)⟩
   ·
    rintro b1624 _ _ ⟨rfl, rfl, hle1625⟩
    have hm := hk1627
    refine c_cond _ rfl (fun hc1631 => ?_) (fun hc1631 => ?_)
    ·
     rw [if_pos hc1631] at hm
     refine c_sr ?_
     refine t_as rfl rfl ?_
     refine t_ne ?_
     refine c_ret ?_
     refine x_then_ret ?_
     obtain rfl := some1 hm
     exact retM (rs := [.tmp 2]) [.int .i64 (4)] hle1625 (by decide) rfl ⟨rfl, trivial⟩ rfl (.cons _ (.refl _)) ⟨rfl, rfl⟩
    ·
     rw [if_neg (fun hh => Bool.noConfusion (hh.symm.trans hc1631))] at hm
     refine c_skip ?_
     refine x_then_normal ?_
     refine c_seq ?_
     refine c_sr ?_
     refine t_st rfl (st_field rfl fld54_1) ?_
     refine t_st rfl (st_load 0 rfl one22 rfl rfl) ?_
     refine t_st rfl (st_len rfl sl22) ?_
     refine t_mv rfl rfl ?_
     refine t_ne ?_
     refine c_block ?_
     have hb1633 : s1.Plan.length ≤ 9223372036854775807 := (FZ.bd (h4.le hle1625))
     obtain ⟨t1651, hl1652, hk1653⟩ := bindS hm
     refine c_forM (fun k1650 => fun _ => fun b1648 e' hp' => [(1, .pointer (some ⟨g1617, 0, none⟩)), (3, .int .i64 ((s1.Plan.length : Int))), (30, .slice A2 (s1.Plan).length c3), (31, .int .i64 ((s1.Plan.length : Int))), (32, .int .i64 ((k1650 : Int)))] = e' ∧ (g1617, Cl 54 [.int .i64 (s1.Period), .slice A2 (s1.Plan).length c3, .slice A5 (s1.Links).length c6]) :: R = hp' ∧ b1624.Le b1648) hl1652 (e' := [(1, .pointer (some ⟨g1617, 0, none⟩)), (3, .int .i64 ((s1.Plan.length : Int))), (30, .slice A2 (s1.Plan).length c3), (31, .int .i64 ((s1.Plan.length : Int))), (32, .int .i64 0)]) ⟨rfl, rfl, rfl, rfl, rfl, trivial⟩ (.refl _) ⟨rfl, rfl, (Base.Le.refl _)⟩ ?_ ?_
     ·
      rintro k1650 _ b1648 _ _ oL1632 hknL1632 ⟨rfl, rfl, hle1649⟩ hstepL1632 houtL1632
      unfold mFishref2RoundFault_L1632 at hstepL1632
      have hm := hstepL1632
      refine c_sr ?_
      refine t_st rfl (st_lss_t rfl rfl (by omega)) ?_
      refine t_ne ?_
      refine c_seq ?_
      refine c_cond_t rfl ?_
      refine c_skip ?_
      refine x_then_normal ?_
      refine c_seq ?_
      refine c_block ?_
      refine c_sr ?_
      obtain ⟨x1654, h1655, hm⟩ := bindS hm
      obtain ⟨j1656, hj1657, hx1658⟩ := idx_some h1655
      obtain ⟨cs1659, hr1660, hcs1661, hA1662, hlt1663⟩ := FZ.get (sz := 1) rfl (by decide) (h4.le (hle1625.trans hle1649)) hx1658
      obtain rfl := hr1660
      refine t_st rfl (st_index_old j1656 rfl rfl hj1657 hlt1663 hA1662 sl22) ?_
      refine t_st rfl (st_load_old rfl one3 (hcs1661 0 _ rfl)) ?_
      refine t_as rfl rfl ?_
      refine t_ne ?_
      refine c_sr ?_
      refine t_mv rfl rfl ?_
      refine t_st rfl (st_field rfl fld54_0) ?_
      refine t_st rfl (st_load 0 rfl one3 rfl rfl) ?_
      obtain ⟨_, h1664, hm⟩ := bindS hm
      have h1664 := (chk_some h1664).2
      refine t_st rfl (st_sub rfl rfl h1664) ?_
      obtain ⟨x1665, hcl1666, hm⟩ := bindS hm
      refine t_do rfl (u_callW0 _ call48 rfl (fun w ho => cFishref2Within _ [] x1654 0 (s1.Period - 1) x1665 hcl1666) (fun _ _ _ h => h.2.symm)) ?_
      rintro _ _ ⟨⟨_, rfl, _⟩, rfl⟩
      refine t_st rfl (st_not rfl) ?_
      refine t_ne ?_
      refine c_cond _ rfl (fun hc1667 => ?_) (fun hc1667 => ?_)
      ·
       rw [if_neg (fun hh => Bool.noConfusion (hh.symm.trans (notT hc1667)))] at hm
       refine c_sr ?_
       refine t_as rfl rfl ?_
       refine t_ne ?_
       refine c_ret ?_
       refine x_block_ret ?_
       refine x_then_ret ?_
       refine x_then_ret ?_
       refine x_block_ret ?_
       refine x_then_ret ?_
       have hq1668 := houtL1632 _ (Option.some.inj hm).symm
       rw [hq1668] at hk1653
       have hm := elimR hk1653
       obtain rfl := some1 hm
       exact retM (rs := [.tmp 2]) [.int .i64 (2)] (hle1625.trans hle1649) (by decide) rfl ⟨rfl, trivial⟩ rfl (.cons _ (.refl _)) ⟨rfl, rfl⟩
      ·
       rw [if_pos (notF hc1667)] at hm
       refine c_skip ?_
       refine x_block_normal ?_
       refine x_then_normal ?_
       refine c_region ?_
       refine t_st rfl (st_add rfl rfl (by omega)) ?_
       refine t_mv rfl rfl ?_
       refine t_nil ?_
       exact x_againM () (Option.some.inj hm).symm (e' := [(1, .pointer (some ⟨g1617, 0, none⟩)), (3, .int .i64 ((s1.Plan.length : Int))), (30, .slice A2 (s1.Plan).length c3), (31, .int .i64 ((s1.Plan.length : Int))), (32, .int .i64 ((k1650 : Int) + 1))]) ⟨rfl, rfl, rfl, rfl, rfl, trivial⟩ (.refl _) ⟨rfl, rfl, (hle1649)⟩
     ·
      rintro _ b1648 _ _ ⟨rfl, rfl, hle1649⟩ hq1669
      rw [hq1669] at hk1653
      have hm := elimL hk1653
      refine c_sr ?_
      refine t_st rfl (st_lss_f rfl rfl (by omega)) ?_
      refine t_ne ?_
      refine c_seq ?_
      refine c_cond_f rfl ?_
      refine c_exit ?_
      refine x_then_exit ?_
      refine x_then_exit ?_
      refine x_block_out ?_
      refine x_then_normal ?_
      refine c_seq ?_
      refine c_sr ?_
      refine t_st rfl (st_field rfl fld54_2) ?_
      refine t_st rfl (st_load 0 rfl one52 rfl rfl) ?_
      refine t_st rfl (st_len rfl sl52) ?_
      refine t_mv rfl rfl ?_
      refine t_ne ?_
      refine c_block ?_
      have hb1671 : s1.Links.length ≤ 9223372036854775807 := (FZ.bd (h7.le (hle1625.trans hle1649)))
      obtain ⟨t1715, hl1716, hk1717⟩ := bindS hm
      refine c_forM (fun k1714 => fun _ => fun b1712 e' hp' => [(1, .pointer (some ⟨g1617, 0, none⟩)), (3, .int .i64 ((s1.Plan.length : Int))), (44, .slice A5 (s1.Links).length c6), (45, .int .i64 ((s1.Links.length : Int))), (46, .int .i64 ((k1714 : Int)))] = e' ∧ (g1617, Cl 54 [.int .i64 (s1.Period), .slice A2 (s1.Plan).length c3, .slice A5 (s1.Links).length c6]) :: R = hp' ∧ b1648.Le b1712) hl1716 (e' := [(1, .pointer (some ⟨g1617, 0, none⟩)), (3, .int .i64 ((s1.Plan.length : Int))), (44, .slice A5 (s1.Links).length c6), (45, .int .i64 ((s1.Links.length : Int))), (46, .int .i64 0)]) ⟨rfl, rfl, rfl, rfl, rfl, trivial⟩ (.refl _) ⟨rfl, rfl, (Base.Le.refl _)⟩ ?_ ?_
      ·
       rintro k1714 _ b1712 _ _ oL1670 hknL1670 ⟨rfl, rfl, hle1713⟩ hstepL1670 houtL1670
       unfold mFishref2RoundFault_L1670 at hstepL1670
       have hm := hstepL1670
       refine c_sr ?_
       refine t_st rfl (st_lss_t rfl rfl (by omega)) ?_
       refine t_ne ?_
       refine c_seq ?_
       refine c_cond_t rfl ?_
       refine c_skip ?_
       refine x_then_normal ?_
       refine c_seq ?_
       refine c_block ?_
       refine c_sr ?_
       obtain ⟨x1718, h1719, hm⟩ := bindS hm
       obtain ⟨j1720, hj1721, hx1722⟩ := idx_some h1719
       obtain ⟨cs1723, hr1724, hcs1725, hA1726, hlt1727⟩ := FZ.get (sz := 4) rfl (by decide) (h7.le (hle1625.trans (hle1649.trans hle1713))) hx1722
       obtain ⟨_, _, rfl, rfl, ⟨_, _, rfl, rfl, ⟨_, _, rfl, rfl, rfl⟩⟩⟩ := hr1724
       refine t_st rfl (st_index_old j1720 rfl rfl hj1721 hlt1727 hA1726 sl52) ?_
       refine t_st rfl (st_loadN_old (vs := [.int .i64 (x1718.From), .int .i64 (x1718.To), .int .i64 (x1718.Len), .int .i64 (x1718.Back)]) 4 rfl agg83 hA1726 rfl (fun j u hu => hcs1725 j u hu)) ?_
       refine t_do rfl (u_alloc [.int .i64 0, .int .i64 0, .int .i64 0, .int .i64 0] zero83 rfl) ?_
       rintro _ _ ⟨g1728, rfl, rfl⟩
       refine t_do rfl (u_storeN (vs := [_, _, _, _]) 0 4 rfl rfl rfl siz83 rfl (mem_c rfl (mem_c rfl (mem_c rfl (mem_c rfl mem_n)))) rfl (by simp)) ?_
       rintro _ _ rfl
       refine t_ne ?_
       refine c_block ?_
       obtain ⟨x1734, hj1735, hk1735⟩ := bindS hm
       refine c_join (fun b1732 e' hp' => [(1, .pointer (some ⟨g1617, 0, none⟩)), (3, .int .i64 ((s1.Plan.length : Int))), (7, .pointer (some ⟨g1728, 0, none⟩)), (44, .slice A5 (s1.Links).length c6), (45, .int .i64 ((s1.Links.length : Int))), (46, .int .i64 ((k1714 : Int))), (50, .bool (x1734))] = e' ∧ (g1617, Cl 54 [.int .i64 (s1.Period), .slice A2 (s1.Plan).length c3, .slice A5 (s1.Links).length c6]) :: (g1728, Cl 83 [.int .i64 (x1718.From), .int .i64 (x1718.To), .int .i64 (x1718.Len), .int .i64 (x1718.Back)]) :: R = hp' ∧ b1712.Le b1732) ?_ ?_
       ·
        have hm := hj1735
        refine c_region ?_
        refine t_st rfl (st_field rfl fld83_0) ?_
        refine t_st rfl (st_load 0 rfl one3 rfl rfl) ?_
        refine t_bool rfl (st_lss rfl rfl) (fun hc1736 => ?_) (fun hc1736 => ?_)
        ·
         rw [if_pos hc1736] at hm
         refine t_mv rfl rfl ?_
         refine t_no 54 rfl rfl rfl rfl rfl ?_
         refine t_no 54 rfl rfl rfl rfl rfl ?_
         refine t_no 54 rfl rfl rfl rfl rfl ?_
         refine t_no 54 rfl rfl rfl rfl rfl ?_
         refine t_st rfl (st_pick_t rfl rfl) ?_
         refine t_mv rfl rfl ?_
         refine t_no 60 rfl rfl rfl rfl rfl ?_
         refine t_no 60 rfl rfl rfl rfl rfl ?_
         refine t_no 60 rfl rfl rfl rfl rfl ?_
         refine t_st rfl (st_pick_t rfl rfl) ?_
         refine t_mv rfl rfl ?_
         refine t_no 65 rfl rfl rfl rfl rfl ?_
         refine t_no 65 rfl rfl rfl rfl rfl ?_
         refine t_no 65 rfl rfl rfl rfl rfl ?_
         refine t_no 65 rfl rfl rfl rfl rfl ?_
         refine t_st rfl (st_pick_t rfl rfl) ?_
         refine t_as rfl rfl ?_
         refine t_nil ?_
         obtain rfl := some1 hm
         refine x_pullb 1 rfl ?_
         exact x_join (e' := [(1, .pointer (some ⟨g1617, 0, none⟩)), (3, .int .i64 ((s1.Plan.length : Int))), (7, .pointer (some ⟨g1728, 0, none⟩)), (44, .slice A5 (s1.Links).length c6), (45, .int .i64 ((s1.Links.length : Int))), (46, .int .i64 ((k1714 : Int))), (50, .bool (true))]) ⟨rfl, rfl, rfl, rfl, rfl, rfl, rfl, trivial⟩ (.refl _) ⟨rfl, rfl, (Base.Le.refl _)⟩
        ·
         rw [if_neg hc1736] at hm
         refine t_mv rfl rfl ?_
         refine t_yes 54 rfl rfl rfl ?_
         refine t_st rfl (st_field rfl fld83_0) ?_
         refine t_yes 54 rfl rfl rfl ?_
         refine t_st rfl (st_load 0 rfl one3 rfl rfl) ?_
         refine t_yes 54 rfl rfl rfl ?_
         refine t_mv rfl rfl ?_
         refine t_yes 54 rfl rfl rfl ?_
         refine t_bool rfl (st_geq rfl rfl) (fun hc1737 => ?_) (fun hc1737 => ?_)
         ·
          rw [if_pos hc1737] at hm
          refine t_st rfl (st_pick_f rfl rfl) ?_
          refine t_mv rfl rfl ?_
          refine t_no 60 rfl rfl rfl rfl rfl ?_
          refine t_no 60 rfl rfl rfl rfl rfl ?_
          refine t_no 60 rfl rfl rfl rfl rfl ?_
          refine t_st rfl (st_pick_t rfl rfl) ?_
          refine t_mv rfl rfl ?_
          refine t_no 65 rfl rfl rfl rfl rfl ?_
          refine t_no 65 rfl rfl rfl rfl rfl ?_
          refine t_no 65 rfl rfl rfl rfl rfl ?_
          refine t_no 65 rfl rfl rfl rfl rfl ?_
          refine t_st rfl (st_pick_t rfl rfl) ?_
          refine t_as rfl rfl ?_
          refine t_nil ?_
          obtain rfl := some1 hm
          refine x_pullb 1 rfl ?_
          exact x_join (e' := [(1, .pointer (some ⟨g1617, 0, none⟩)), (3, .int .i64 ((s1.Plan.length : Int))), (7, .pointer (some ⟨g1728, 0, none⟩)), (44, .slice A5 (s1.Links).length c6), (45, .int .i64 ((s1.Links.length : Int))), (46, .int .i64 ((k1714 : Int))), (50, .bool (true))]) ⟨rfl, rfl, rfl, rfl, rfl, rfl, rfl, trivial⟩ (.refl _) ⟨rfl, rfl, (Base.Le.refl _)⟩
         ·
          rw [if_neg hc1737] at hm
          refine t_st rfl (st_pick_f rfl rfl) ?_
          refine t_mv rfl rfl ?_
          refine t_yes 60 rfl rfl rfl ?_
          refine t_st rfl (st_field rfl fld83_1) ?_
          refine t_yes 60 rfl rfl rfl ?_
          refine t_st rfl (st_load 0 rfl one3 rfl rfl) ?_
          refine t_yes 60 rfl rfl rfl ?_
          refine t_bool rfl (st_lss rfl rfl) (fun hc1738 => ?_) (fun hc1738 => ?_)
          ·
           rw [if_pos hc1738] at hm
           refine t_st rfl (st_pick_f rfl rfl) ?_
           refine t_mv rfl rfl ?_
           refine t_no 65 rfl rfl rfl rfl rfl ?_
           refine t_no 65 rfl rfl rfl rfl rfl ?_
           refine t_no 65 rfl rfl rfl rfl rfl ?_
           refine t_no 65 rfl rfl rfl rfl rfl ?_
           refine t_st rfl (st_pick_t rfl rfl) ?_
           refine t_as rfl rfl ?_
           refine t_nil ?_
           obtain rfl := some1 hm
           refine x_pullb 1 rfl ?_
           exact x_join (e' := [(1, .pointer (some ⟨g1617, 0, none⟩)), (3, .int .i64 ((s1.Plan.length : Int))), (7, .pointer (some ⟨g1728, 0, none⟩)), (44, .slice A5 (s1.Links).length c6), (45, .int .i64 ((s1.Links.length : Int))), (46, .int .i64 ((k1714 : Int))), (50, .bool (true))]) ⟨rfl, rfl, rfl, rfl, rfl, rfl, rfl, trivial⟩ (.refl _) ⟨rfl, rfl, (Base.Le.refl _)⟩
          ·
           rw [if_neg hc1738] at hm
           refine t_st rfl (st_pick_f rfl rfl) ?_
           refine t_mv rfl rfl ?_
           refine t_yes 65 rfl rfl rfl ?_
           refine t_st rfl (st_field rfl fld83_1) ?_
           refine t_yes 65 rfl rfl rfl ?_
           refine t_st rfl (st_load 0 rfl one3 rfl rfl) ?_
           refine t_yes 65 rfl rfl rfl ?_
           refine t_mv rfl rfl ?_
           refine t_yes 65 rfl rfl rfl ?_
           refine t_st rfl (st_geq rfl rfl) ?_
           refine t_st rfl (st_pick_f rfl rfl) ?_
           refine t_as rfl rfl ?_
           refine t_nil ?_
           obtain rfl := some1 hm
           refine x_pullb 1 rfl ?_
           exact x_join (e' := [(1, .pointer (some ⟨g1617, 0, none⟩)), (3, .int .i64 ((s1.Plan.length : Int))), (7, .pointer (some ⟨g1728, 0, none⟩)), (44, .slice A5 (s1.Links).length c6), (45, .int .i64 ((s1.Links.length : Int))), (46, .int .i64 ((k1714 : Int))), (50, .bool (decide ((s1.Plan.length : Int) ≤ x1718.To)))]) ⟨rfl, rfl, rfl, rfl, rfl, rfl, rfl, trivial⟩ (.refl _) ⟨rfl, rfl, (Base.Le.refl _)⟩
       ·
        rintro b1732 _ _ ⟨rfl, rfl, hle1733⟩
        have hm := hk1735
        refine c_cond _ rfl (fun hc1739 => ?_) (fun hc1739 => ?_)
        ·
         rw [if_pos hc1739] at hm
         refine c_sr ?_
         refine t_as rfl rfl ?_
         refine t_ne ?_
         refine c_ret ?_
         refine x_block_ret ?_
         refine x_block_ret ?_
         refine x_then_ret ?_
         refine x_then_ret ?_
         refine x_block_ret ?_
         refine x_then_ret ?_
         have hq1740 := houtL1670 _ (Option.some.inj hm).symm
         rw [hq1740] at hk1717
         have hm := elimR hk1717
         obtain rfl := some1 hm
         exact retM (rs := [.tmp 2]) [.int .i64 (3)] (hle1625.trans (hle1649.trans (hle1713.trans hle1733))) (by decide) rfl ⟨rfl, trivial⟩ rfl (.cons _ (.cons _ (.refl _))) ⟨rfl, rfl⟩
        ·
         rw [if_neg (fun hh => Bool.noConfusion (hh.symm.trans hc1739))] at hm
         obtain ⟨x1748, hj1749, hk1749⟩ := bindS hm
         refine c_join (fun b1746 e' hp' => [(1, .pointer (some ⟨g1617, 0, none⟩)), (3, .int .i64 ((s1.Plan.length : Int))), (7, .pointer (some ⟨g1728, 0, none⟩)), (44, .slice A5 (s1.Links).length c6), (45, .int .i64 ((s1.Links.length : Int))), (46, .int .i64 ((k1714 : Int))), (71, .bool (x1748))] = e' ∧ (g1617, Cl 54 [.int .i64 (s1.Period), .slice A2 (s1.Plan).length c3, .slice A5 (s1.Links).length c6]) :: (g1728, Cl 83 [.int .i64 (x1718.From), .int .i64 (x1718.To), .int .i64 (x1718.Len), .int .i64 (x1718.Back)]) :: R = hp' ∧ b1732.Le b1746) ?_ ?_
         ·
          have hm := hj1749
          refine c_region ?_
          refine t_st rfl (st_field rfl fld83_2) ?_
          refine t_st rfl (st_load 1 rfl one3 rfl rfl) ?_
          obtain ⟨x1750, hcl1751, hm⟩ := bindS hm
          refine t_do rfl (u_callW0 _ call48 rfl (fun w ho => cFishref2Within _ [] x1718.Len 0 28800 x1750 hcl1751) (fun _ _ _ h => h.2.symm)) ?_
          rintro _ _ ⟨⟨_, rfl, _⟩, rfl⟩
          rcases Bool.eq_false_or_eq_true x1750 with hc1752 | hc1752
          ·
           rw [if_pos hc1752] at hm
           refine t_resp 74 rfl (v' := .bool true) (by rw [hc1752] <;> rfl) ?_
           refine t_st rfl (st_not_t rfl) ?_
           refine t_mv rfl rfl ?_
           refine t_yes 76 rfl rfl rfl ?_
           refine t_st rfl (st_field rfl fld83_3) ?_
           refine t_yes 76 rfl rfl rfl ?_
           refine t_st rfl (st_load 1 rfl one3 rfl rfl) ?_
           refine t_yes 76 rfl rfl rfl ?_
           obtain ⟨x1753, hcl1754, hm⟩ := bindS hm
           refine t_do rfl (u_callW0 _ call48 rfl (fun w ho => cFishref2Within _ [] x1718.Back 0 3 x1753 hcl1754) (fun _ _ _ h => h.2.symm)) ?_
           rintro _ _ ⟨⟨_, rfl, _⟩, rfl⟩
           refine t_yes 76 rfl rfl rfl ?_
           refine t_st rfl (st_not rfl) ?_
           refine t_st rfl (st_pick_f rfl rfl) ?_
           refine t_as rfl rfl ?_
           refine t_nil ?_
           obtain rfl := some1 hm
           refine x_pullb 1 rfl ?_
           refine x_pullb 1 rfl ?_
           exact x_join (e' := [(1, .pointer (some ⟨g1617, 0, none⟩)), (3, .int .i64 ((s1.Plan.length : Int))), (7, .pointer (some ⟨g1728, 0, none⟩)), (44, .slice A5 (s1.Links).length c6), (45, .int .i64 ((s1.Links.length : Int))), (46, .int .i64 ((k1714 : Int))), (71, .bool (!x1753))]) ⟨rfl, rfl, rfl, rfl, rfl, rfl, rfl, trivial⟩ (.refl _) ⟨rfl, rfl, (Base.Le.refl _)⟩
          ·
           rw [if_neg (fun hh => Bool.noConfusion (hh.symm.trans hc1752))] at hm
           refine t_resp 74 rfl (v' := .bool false) (by rw [hc1752] <;> rfl) ?_
           refine t_st rfl (st_not_f rfl) ?_
           refine t_mv rfl rfl ?_
           refine t_no 76 rfl rfl rfl rfl rfl ?_
           refine t_no 76 rfl rfl rfl rfl rfl ?_
           refine t_no 76 rfl rfl rfl rfl rfl ?_
           refine t_no 76 rfl rfl rfl rfl rfl ?_
           refine t_st rfl (st_pick_t rfl rfl) ?_
           refine t_as rfl rfl ?_
           refine t_nil ?_
           obtain rfl := some1 hm
           refine x_pullb 1 rfl ?_
           refine x_pullb 1 rfl ?_
           exact x_join (e' := [(1, .pointer (some ⟨g1617, 0, none⟩)), (3, .int .i64 ((s1.Plan.length : Int))), (7, .pointer (some ⟨g1728, 0, none⟩)), (44, .slice A5 (s1.Links).length c6), (45, .int .i64 ((s1.Links.length : Int))), (46, .int .i64 ((k1714 : Int))), (71, .bool (true))]) ⟨rfl, rfl, rfl, rfl, rfl, rfl, rfl, trivial⟩ (.refl _) ⟨rfl, rfl, (Base.Le.refl _)⟩
         ·
          rintro b1746 _ _ ⟨rfl, rfl, hle1747⟩
          have hm := hk1749
          refine c_cond _ rfl (fun hc1755 => ?_) (fun hc1755 => ?_)
          ·
           rw [if_pos hc1755] at hm
           refine c_sr ?_
           refine t_as rfl rfl ?_
           refine t_ne ?_
           refine c_ret ?_
           refine x_block_ret ?_
           refine x_block_ret ?_
           refine x_then_ret ?_
           refine x_then_ret ?_
           refine x_block_ret ?_
           refine x_then_ret ?_
           have hq1756 := houtL1670 _ (Option.some.inj hm).symm
           rw [hq1756] at hk1717
           have hm := elimR hk1717
           obtain rfl := some1 hm
           exact retM (rs := [.tmp 2]) [.int .i64 (2)] (hle1625.trans (hle1649.trans (hle1713.trans (hle1733.trans hle1747)))) (by decide) rfl ⟨rfl, trivial⟩ rfl (.cons _ (.cons _ (.refl _))) ⟨rfl, rfl⟩
          ·
           rw [if_neg (fun hh => Bool.noConfusion (hh.symm.trans hc1755))] at hm
           refine c_sr ?_
           refine t_st rfl (st_loadD (vs := [_, _, _]) 0 3 rfl agg54 rfl rfl rfl) ?_
           refine t_st rfl (st_loadD (vs := [_, _, _, _]) 1 4 rfl agg83 rfl rfl rfl) ?_
           obtain ⟨x1757, hcl1758, hm⟩ := bindS hm
           refine t_do rfl (u_callW0 _ call49 rfl (fun w ho => cFishref2SlackOf _ [] s1 x1718 A2 c3 A5 c6 ((h4.le (hle1625.trans (hle1649.trans (hle1713.trans (hle1733.trans hle1747))))).old ho) ((h7.le (hle1625.trans (hle1649.trans (hle1713.trans (hle1733.trans hle1747))))).old ho) x1757 hcl1758) (fun _ _ _ h => h.2.symm)) ?_
           rintro _ _ ⟨⟨_, rfl, _⟩, rfl⟩
           refine t_st rfl (st_lss rfl rfl) ?_
           refine t_as rfl rfl ?_
           refine t_ne ?_
           refine c_cond _ rfl (fun hc1759 => ?_) (fun hc1759 => ?_)
           ·
            rw [if_pos (of_decide_eq_true hc1759)] at hm
            refine c_sr ?_
            refine t_as rfl rfl ?_
            refine t_ne ?_
            refine c_ret ?_
            refine x_block_ret ?_
            refine x_block_ret ?_
            refine x_then_ret ?_
            refine x_then_ret ?_
            refine x_block_ret ?_
            refine x_then_ret ?_
            have hq1760 := houtL1670 _ (Option.some.inj hm).symm
            rw [hq1760] at hk1717
            have hm := elimR hk1717
            obtain rfl := some1 hm
            exact retM (rs := [.tmp 2]) [.int .i64 (13)] (hle1625.trans (hle1649.trans (hle1713.trans (hle1733.trans hle1747)))) (by decide) rfl ⟨rfl, trivial⟩ rfl (.cons _ (.cons _ (.refl _))) ⟨rfl, rfl⟩
           ·
            rw [if_neg (of_decide_eq_false hc1759)] at hm
            refine c_skip ?_
            refine x_block_normal ?_
            refine x_block_normal ?_
            refine x_then_normal ?_
            refine c_region ?_
            refine t_st rfl (st_add rfl rfl (by omega)) ?_
            refine t_mv rfl rfl ?_
            refine t_nil ?_
            exact x_againM () (Option.some.inj hm).symm (e' := [(1, .pointer (some ⟨g1617, 0, none⟩)), (3, .int .i64 ((s1.Plan.length : Int))), (44, .slice A5 (s1.Links).length c6), (45, .int .i64 ((s1.Links.length : Int))), (46, .int .i64 ((k1714 : Int) + 1))]) ⟨rfl, rfl, rfl, rfl, rfl, trivial⟩ (.cons_cons _ (.cons _ (.refl _))) ⟨rfl, rfl, ((hle1713.trans (hle1733.trans hle1747)))⟩
      ·
       rintro _ b1712 _ _ ⟨rfl, rfl, hle1713⟩ hq1761
       rw [hq1761] at hk1717
       have hm := elimL hk1717
       refine c_sr ?_
       refine t_st rfl (st_lss_f rfl rfl (by omega)) ?_
       refine t_ne ?_
       refine c_seq ?_
       refine c_cond_f rfl ?_
       refine c_exit ?_
       refine x_then_exit ?_
       refine x_then_exit ?_
       refine x_block_out ?_
       refine x_then_normal ?_
       refine c_sr ?_
       refine t_mv rfl rfl ?_
       obtain ⟨m1762, h1763, hm⟩ := bindS hm
       have h1763 := mkLen_some h1763
       refine t_do rfl (u_mkOS (r := RT.bool) [_] R [.bool (false)] false m1762 rfl h1763.1 rfl rfl sl88 inf4 rfl rfl rfl (by decide) rfl h1763.2.1 h1763.2.2) ?_
       rintro _ _ ⟨hs1764, rfl, h1765⟩
       obtain ⟨A1766, c1767, rfl, _⟩ := h1765.form
       refine t_as rfl rfl ?_
       refine t_ne ?_
       refine c_seq ?_
       refine c_sr ?_
       refine t_mv rfl rfl ?_
       refine t_mv rfl rfl ?_
       refine t_ne ?_
       refine c_block ?_
       have hb1769 : s1.Plan.length ≤ 9223372036854775807 := (FZ.bd (h4.le (hle1625.trans (hle1649.trans hle1713))))
       obtain ⟨l2738, hl2741, hk2742⟩ := bindS hm
       refine c_forS (fun k2740 => fun l2738 => fun b2733 e' hp' => ∃ (hs2736 : Hp), [(1, .pointer (some ⟨g1617, 0, none⟩)), (3, .int .i64 ((s1.Plan.length : Int))), (8, .slice A1766 (l2738).length c1767), (90, .int .i64 ((s1.Plan.length : Int))), (91, .int .i64 ((k2740 : Int)))] = e' ∧ (g1617, Cl 54 [.int .i64 (s1.Period), .slice A2 (s1.Plan).length c3, .slice A5 (s1.Links).length c6]) :: (hs2736 ++ R) = hp' ∧ b1712.Le b2733 ∧ OS 4 (OT.fr RT.bool) b2733.w (.slice A1766 l2738.length c1767) l2738 hs2736 ∧ l2738.length = m1762) hl2741 (e' := [(1, .pointer (some ⟨g1617, 0, none⟩)), (3, .int .i64 ((s1.Plan.length : Int))), (8, .slice A1766 (List.replicate m1762 (false : Bool)).length c1767), (90, .int .i64 ((s1.Plan.length : Int))), (91, .int .i64 0)]) ⟨rfl, rfl, rfl, rfl, rfl, trivial⟩ (.refl _) ⟨hs1764, rfl, rfl, (Base.Le.refl _), h1765, List.length_replicate⟩ ?_ ?_
       ·
        rintro k2740 l2738 b2733 _ _ oL1768 hknL1768 ⟨hs2736, rfl, rfl, hle2734, h2737, hln2739⟩ hstepL1768
        unfold mFishref2RoundFault_L1768 at hstepL1768
        have hm := hstepL1768
        refine c_sr ?_
        refine t_st rfl (st_lss_t rfl rfl (by omega)) ?_
        refine t_ne ?_
        refine c_seq ?_
        refine c_cond_t rfl ?_
        refine c_skip ?_
        refine x_then_normal ?_
        refine c_seq ?_
        refine c_block ?_
        refine c_sr ?_
        refine t_mv rfl rfl ?_
        refine t_mv rfl rfl ?_
        refine t_ne ?_
        refine c_block ?_
        have hb2744 : s1.Plan.length ≤ 9223372036854775807 := (FZ.bd (h4.le (hle1625.trans (hle1649.trans (hle1713.trans hle2734)))))
        obtain ⟨l3063, hl3066, hk3067⟩ := bindS hm
        refine c_forS (fun k3065 => fun l3063 => fun b3058 e' hp' => ∃ (hs3061 : Hp), [(1, .pointer (some ⟨g1617, 0, none⟩)), (3, .int .i64 ((s1.Plan.length : Int))), (8, .slice A1766 (l3063).length c1767), (90, .int .i64 ((s1.Plan.length : Int))), (91, .int .i64 ((k2740 : Int))), (93, .int .i64 ((s1.Plan.length : Int))), (94, .int .i64 ((k3065 : Int)))] = e' ∧ (g1617, Cl 54 [.int .i64 (s1.Period), .slice A2 (s1.Plan).length c3, .slice A5 (s1.Links).length c6]) :: (hs3061 ++ R) = hp' ∧ b2733.Le b3058 ∧ OS 4 (OT.fr RT.bool) b3058.w (.slice A1766 l3063.length c1767) l3063 hs3061 ∧ l3063.length = m1762) hl3066 (e' := [(1, .pointer (some ⟨g1617, 0, none⟩)), (3, .int .i64 ((s1.Plan.length : Int))), (8, .slice A1766 (l2738).length c1767), (90, .int .i64 ((s1.Plan.length : Int))), (91, .int .i64 ((k2740 : Int))), (93, .int .i64 ((s1.Plan.length : Int))), (94, .int .i64 0)]) ⟨rfl, rfl, rfl, rfl, rfl, rfl, rfl, trivial⟩ (.refl _) ⟨hs2736, rfl, rfl, (Base.Le.refl _), h2737, hln2739⟩ ?_ ?_
        ·
         rintro k3065 l3063 b3058 _ _ oL2743 hknL2743 ⟨hs3061, rfl, rfl, hle3059, h3062, hln3064⟩ hstepL2743
         unfold mFishref2RoundFault_L2743 at hstepL2743
         have hm := hstepL2743
         refine c_sr ?_
         refine t_st rfl (st_lss_t rfl rfl (by omega)) ?_
         refine t_ne ?_
         refine c_seq ?_
         refine c_cond_t rfl ?_
         refine c_skip ?_
         refine x_then_normal ?_
         refine c_seq ?_
         refine c_block ?_
         refine c_sr ?_
         refine t_mv rfl rfl ?_
         refine t_as rfl rfl ?_
         refine t_ne ?_
         refine c_sr ?_
         refine t_as rfl rfl ?_
         refine t_ne ?_
         refine c_seq ?_
         refine c_sr ?_
         refine t_st rfl (st_field rfl fld54_2) ?_
         refine t_st rfl (st_load 0 rfl one52 rfl rfl) ?_
         refine t_st rfl (st_len rfl sl52) ?_
         refine t_mv rfl rfl ?_
         refine t_ne ?_
         refine c_block ?_
         have hb3069 : s1.Links.length ≤ 9223372036854775807 := (FZ.bd (h7.le (hle1625.trans (hle1649.trans (hle1713.trans (hle2734.trans hle3059))))))
         obtain ⟨x3134, hl3136, hk3137⟩ := bindS hm
         refine c_forS (fun k3135 => fun x3134 => fun b3132 e' hp' => [(1, .pointer (some ⟨g1617, 0, none⟩)), (3, .int .i64 ((s1.Plan.length : Int))), (8, .slice A1766 (l3063).length c1767), (9, .int .i64 ((k3065 : Int))), (10, .bool (x3134)), (90, .int .i64 ((s1.Plan.length : Int))), (91, .int .i64 ((k2740 : Int))), (93, .int .i64 ((s1.Plan.length : Int))), (94, .int .i64 ((k3065 : Int))), (98, .slice A5 (s1.Links).length c6), (99, .int .i64 ((s1.Links.length : Int))), (100, .int .i64 ((k3135 : Int)))] = e' ∧ (g1617, Cl 54 [.int .i64 (s1.Period), .slice A2 (s1.Plan).length c3, .slice A5 (s1.Links).length c6]) :: (hs3061 ++ R) = hp' ∧ b3058.Le b3132) hl3136 (e' := [(1, .pointer (some ⟨g1617, 0, none⟩)), (3, .int .i64 ((s1.Plan.length : Int))), (8, .slice A1766 (l3063).length c1767), (9, .int .i64 ((k3065 : Int))), (10, .bool (true)), (90, .int .i64 ((s1.Plan.length : Int))), (91, .int .i64 ((k2740 : Int))), (93, .int .i64 ((s1.Plan.length : Int))), (94, .int .i64 ((k3065 : Int))), (98, .slice A5 (s1.Links).length c6), (99, .int .i64 ((s1.Links.length : Int))), (100, .int .i64 0)]) ⟨rfl, rfl, rfl, rfl, rfl, rfl, rfl, rfl, rfl, rfl, rfl, rfl, trivial⟩ (.refl _) ⟨rfl, rfl, (Base.Le.refl _)⟩ ?_ ?_
         ·
          rintro k3135 x3134 b3132 _ _ oL3068 hknL3068 ⟨rfl, rfl, hle3133⟩ hstepL3068
          unfold mFishref2RoundFault_L3068 at hstepL3068
          have hm := hstepL3068
          refine c_sr ?_
          refine t_st rfl (st_lss_t rfl rfl (by omega)) ?_
          refine t_ne ?_
          refine c_seq ?_
          refine c_cond_t rfl ?_
          refine c_skip ?_
          refine x_then_normal ?_
          refine c_seq ?_
          refine c_block ?_
          refine c_sr ?_
          obtain ⟨x3138, h3139, hm⟩ := bindS hm
          obtain ⟨j3140, hj3141, hx3142⟩ := idx_some h3139
          obtain ⟨cs3143, hr3144, hcs3145, hA3146, hlt3147⟩ := FZ.get (sz := 4) rfl (by decide) (h7.le (hle1625.trans (hle1649.trans (hle1713.trans (hle2734.trans (hle3059.trans hle3133)))))) hx3142
          obtain ⟨_, _, rfl, rfl, ⟨_, _, rfl, rfl, ⟨_, _, rfl, rfl, rfl⟩⟩⟩ := hr3144
          refine t_st rfl (st_index_old j3140 rfl rfl hj3141 hlt3147 hA3146 sl52) ?_
          refine t_st rfl (st_loadN_old (vs := [.int .i64 (x3138.From), .int .i64 (x3138.To), .int .i64 (x3138.Len), .int .i64 (x3138.Back)]) 4 rfl agg83 hA3146 rfl (fun j u hu => hcs3145 j u hu)) ?_
          refine t_do rfl (u_alloc [.int .i64 0, .int .i64 0, .int .i64 0, .int .i64 0] zero83 rfl) ?_
          rintro _ _ ⟨g3148, rfl, rfl⟩
          refine t_do rfl (u_storeN (vs := [_, _, _, _]) 0 4 rfl rfl rfl siz83 rfl (mem_c rfl (mem_c rfl (mem_c rfl (mem_c rfl mem_n)))) rfl (by simp)) ?_
          rintro _ _ rfl
          refine t_ne ?_
          refine c_region ?_
          refine t_mv rfl rfl ?_
          rcases Bool.eq_false_or_eq_true x3134 with hc3149 | hc3149
          ·
           rw [if_pos hc3149] at hm
           refine t_resp 104 rfl (v' := .bool true) (by rw [hc3149] <;> rfl) ?_
           refine t_mv rfl rfl ?_
           refine t_yes 105 rfl rfl rfl ?_
           refine t_st rfl (st_field rfl fld83_3) ?_
           refine t_yes 105 rfl rfl rfl ?_
           refine t_st rfl (st_load 0 rfl one3 rfl rfl) ?_
           refine t_yes 105 rfl rfl rfl ?_
           refine t_bool rfl (st_gtr rfl rfl) (fun hc3150 => ?_) (fun hc3150 => ?_)
           ·
            rw [if_pos hc3150] at hm
            refine t_yes 105 rfl rfl rfl ?_
            refine t_mv rfl rfl ?_
            refine t_no 109 rfl rfl rfl rfl rfl ?_
            refine t_no 109 rfl rfl rfl rfl rfl ?_
            refine t_no 109 rfl rfl rfl rfl rfl ?_
            refine t_no 109 rfl rfl rfl rfl rfl ?_
            refine t_yes 105 rfl rfl rfl ?_
            refine t_st rfl (st_pick_t rfl rfl) ?_
            refine t_yes 105 rfl rfl rfl ?_
            refine t_mv rfl rfl ?_
            refine t_no 115 rfl rfl rfl rfl rfl ?_
            refine t_no 115 rfl rfl rfl rfl rfl ?_
            refine t_no 115 rfl rfl rfl rfl rfl ?_
            refine t_no 115 rfl rfl rfl rfl rfl ?_
            refine t_no 115 rfl rfl rfl rfl rfl ?_
            refine t_yes 105 rfl rfl rfl ?_
            refine t_st rfl (st_pick_t rfl rfl) ?_
            refine t_st rfl (st_pick_t rfl rfl) ?_
            refine t_as rfl rfl ?_
            refine t_nil ?_
            refine x_block_normal ?_
            refine x_then_normal ?_
            refine c_region ?_
            refine t_st rfl (st_add rfl rfl (by omega)) ?_
            refine t_mv rfl rfl ?_
            refine t_nil ?_
            refine x_pullb 1 rfl ?_
            obtain rfl := some1 hm
            exact x_againS (e' := [(1, .pointer (some ⟨g1617, 0, none⟩)), (3, .int .i64 ((s1.Plan.length : Int))), (8, .slice A1766 (l3063).length c1767), (9, .int .i64 ((k3065 : Int))), (10, .bool (true)), (90, .int .i64 ((s1.Plan.length : Int))), (91, .int .i64 ((k2740 : Int))), (93, .int .i64 ((s1.Plan.length : Int))), (94, .int .i64 ((k3065 : Int))), (98, .slice A5 (s1.Links).length c6), (99, .int .i64 ((s1.Links.length : Int))), (100, .int .i64 ((k3135 : Int) + 1))]) ⟨rfl, rfl, rfl, rfl, rfl, rfl, rfl, rfl, rfl, rfl, rfl, rfl, trivial⟩ (.cons_cons _ (.cons _ (.refl _))) ⟨rfl, rfl, (hle3133)⟩
           ·
            rw [if_neg hc3150] at hm
            refine t_yes 105 rfl rfl rfl ?_
            refine t_mv rfl rfl ?_
            refine t_yes 109 rfl rfl rfl ?_
            refine t_st rfl (st_field rfl fld83_1) ?_
            refine t_yes 109 rfl rfl rfl ?_
            refine t_st rfl (st_load 0 rfl one3 rfl rfl) ?_
            refine t_yes 109 rfl rfl rfl ?_
            refine t_mv rfl rfl ?_
            refine t_yes 109 rfl rfl rfl ?_
            refine t_bool rfl (st_neq rfl rfl) (fun hc3151 => ?_) (fun hc3151 => ?_)
            ·
             rw [if_pos hc3151] at hm
             refine t_yes 105 rfl rfl rfl ?_
             refine t_st rfl (st_pick_f rfl rfl) ?_
             refine t_yes 105 rfl rfl rfl ?_
             refine t_mv rfl rfl ?_
             refine t_no 115 rfl rfl rfl rfl rfl ?_
             refine t_no 115 rfl rfl rfl rfl rfl ?_
             refine t_no 115 rfl rfl rfl rfl rfl ?_
             refine t_no 115 rfl rfl rfl rfl rfl ?_
             refine t_no 115 rfl rfl rfl rfl rfl ?_
             refine t_yes 105 rfl rfl rfl ?_
             refine t_st rfl (st_pick_t rfl rfl) ?_
             refine t_st rfl (st_pick_t rfl rfl) ?_
             refine t_as rfl rfl ?_
             refine t_nil ?_
             refine x_block_normal ?_
             refine x_then_normal ?_
             refine c_region ?_
             refine t_st rfl (st_add rfl rfl (by omega)) ?_
             refine t_mv rfl rfl ?_
             refine t_nil ?_
             refine x_pullb 1 rfl ?_
             obtain rfl := some1 hm
             exact x_againS (e' := [(1, .pointer (some ⟨g1617, 0, none⟩)), (3, .int .i64 ((s1.Plan.length : Int))), (8, .slice A1766 (l3063).length c1767), (9, .int .i64 ((k3065 : Int))), (10, .bool (true)), (90, .int .i64 ((s1.Plan.length : Int))), (91, .int .i64 ((k2740 : Int))), (93, .int .i64 ((s1.Plan.length : Int))), (94, .int .i64 ((k3065 : Int))), (98, .slice A5 (s1.Links).length c6), (99, .int .i64 ((s1.Links.length : Int))), (100, .int .i64 ((k3135 : Int) + 1))]) ⟨rfl, rfl, rfl, rfl, rfl, rfl, rfl, rfl, rfl, rfl, rfl, rfl, trivial⟩ (.cons_cons _ (.cons _ (.refl _))) ⟨rfl, rfl, (hle3133)⟩
            ·
             rw [if_neg hc3151] at hm
             refine t_yes 105 rfl rfl rfl ?_
             refine t_st rfl (st_pick_f rfl rfl) ?_
             refine t_yes 105 rfl rfl rfl ?_
             refine t_mv rfl rfl ?_
             refine t_yes 115 rfl rfl rfl ?_
             refine t_mv rfl rfl ?_
             refine t_yes 115 rfl rfl rfl ?_
             refine t_st rfl (st_field rfl fld83_0) ?_
             refine t_yes 115 rfl rfl rfl ?_
             refine t_st rfl (st_load 0 rfl one3 rfl rfl) ?_
             refine t_yes 115 rfl rfl rfl ?_
             obtain ⟨x3152, h3153, hm⟩ := bindS hm
             obtain ⟨j3154, hj3155, hx3156⟩ := idx_some h3153
             obtain ⟨cs3157, hs3162, P3163, P3164, hq3165, hr3158, hcs3159, hA3160, hlt3161, hb3166, hho3167⟩ := OS.get (sz := 1) rfl (by decide) (h3062.le hle3133) hx3156
             obtain ⟨rfl, rfl⟩ := hr3158
             refine t_st rfl (st_index_old j3154 rfl rfl hj3155 hlt3161 hA3160 sl88) ?_
             refine t_yes 115 rfl rfl rfl ?_
             refine t_st rfl (st_load_rd rfl one4 (fun w ho => hcs3159 w _ ho (.cons _ (.cons _ (List.sublist_append_left _ _))) 0 _ rfl)) ?_
             refine t_yes 105 rfl rfl rfl ?_
             refine t_st rfl (st_pick_f rfl rfl) ?_
             refine t_st rfl (st_pick_t rfl rfl) ?_
             refine t_as rfl rfl ?_
             rcases Bool.eq_false_or_eq_true x3152 with hc3168 | hc3168
             ·
              rw [if_pos hc3168] at hm
              refine t_resp 10 rfl (v' := .bool true) (by rw [hc3168] <;> rfl) ?_
              refine t_nil ?_
              refine x_block_normal ?_
              refine x_then_normal ?_
              refine c_region ?_
              refine t_st rfl (st_add rfl rfl (by omega)) ?_
              refine t_mv rfl rfl ?_
              refine t_nil ?_
              refine x_pullb 1 rfl ?_
              obtain rfl := some1 hm
              exact x_againS (e' := [(1, .pointer (some ⟨g1617, 0, none⟩)), (3, .int .i64 ((s1.Plan.length : Int))), (8, .slice A1766 (l3063).length c1767), (9, .int .i64 ((k3065 : Int))), (10, .bool (true)), (90, .int .i64 ((s1.Plan.length : Int))), (91, .int .i64 ((k2740 : Int))), (93, .int .i64 ((s1.Plan.length : Int))), (94, .int .i64 ((k3065 : Int))), (98, .slice A5 (s1.Links).length c6), (99, .int .i64 ((s1.Links.length : Int))), (100, .int .i64 ((k3135 : Int) + 1))]) ⟨rfl, rfl, rfl, rfl, rfl, rfl, rfl, rfl, rfl, rfl, rfl, rfl, trivial⟩ (.cons_cons _ (.cons _ (.refl _))) ⟨rfl, rfl, (hle3133)⟩
             ·
              rw [if_neg (fun hh => Bool.noConfusion (hh.symm.trans hc3168))] at hm
              refine t_resp 10 rfl (v' := .bool false) (by rw [hc3168] <;> rfl) ?_
              refine t_nil ?_
              refine x_block_normal ?_
              refine x_then_normal ?_
              refine c_region ?_
              refine t_st rfl (st_add rfl rfl (by omega)) ?_
              refine t_mv rfl rfl ?_
              refine t_nil ?_
              refine x_pullb 1 rfl ?_
              obtain rfl := some1 hm
              exact x_againS (e' := [(1, .pointer (some ⟨g1617, 0, none⟩)), (3, .int .i64 ((s1.Plan.length : Int))), (8, .slice A1766 (l3063).length c1767), (9, .int .i64 ((k3065 : Int))), (10, .bool (false)), (90, .int .i64 ((s1.Plan.length : Int))), (91, .int .i64 ((k2740 : Int))), (93, .int .i64 ((s1.Plan.length : Int))), (94, .int .i64 ((k3065 : Int))), (98, .slice A5 (s1.Links).length c6), (99, .int .i64 ((s1.Links.length : Int))), (100, .int .i64 ((k3135 : Int) + 1))]) ⟨rfl, rfl, rfl, rfl, rfl, rfl, rfl, rfl, rfl, rfl, rfl, rfl, trivial⟩ (.cons_cons _ (.cons _ (.refl _))) ⟨rfl, rfl, (hle3133)⟩
          ·
           rw [if_neg (fun hh => Bool.noConfusion (hh.symm.trans hc3149))] at hm
           refine t_resp 104 rfl (v' := .bool false) (by rw [hc3149] <;> rfl) ?_
           refine t_mv rfl rfl ?_
           refine t_no 105 rfl rfl rfl rfl rfl ?_
           refine t_no 105 rfl rfl rfl rfl rfl ?_
           refine t_no 105 rfl rfl rfl rfl rfl ?_
           refine t_no 105 rfl rfl rfl rfl rfl ?_
           refine t_no 109 rfl rfl rfl rfl rfl ?_
           refine t_no 109 rfl rfl rfl rfl rfl ?_
           refine t_no 109 rfl rfl rfl rfl rfl ?_
           refine t_no 109 rfl rfl rfl rfl rfl ?_
           refine t_no 105 rfl rfl rfl rfl rfl ?_
           refine t_no 105 rfl rfl rfl rfl rfl ?_
           refine t_no 115 rfl rfl rfl rfl rfl ?_
           refine t_no 115 rfl rfl rfl rfl rfl ?_
           refine t_no 115 rfl rfl rfl rfl rfl ?_
           refine t_no 115 rfl rfl rfl rfl rfl ?_
           refine t_no 115 rfl rfl rfl rfl rfl ?_
           refine t_no 105 rfl rfl rfl rfl rfl ?_
           refine t_st rfl (st_pick_f rfl rfl) ?_
           refine t_as rfl rfl ?_
           refine t_nil ?_
           refine x_block_normal ?_
           refine x_then_normal ?_
           refine c_region ?_
           refine t_st rfl (st_add rfl rfl (by omega)) ?_
           refine t_mv rfl rfl ?_
           refine t_nil ?_
           refine x_pullb 1 rfl ?_
           obtain rfl := some1 hm
           exact x_againS (e' := [(1, .pointer (some ⟨g1617, 0, none⟩)), (3, .int .i64 ((s1.Plan.length : Int))), (8, .slice A1766 (l3063).length c1767), (9, .int .i64 ((k3065 : Int))), (10, .bool (false)), (90, .int .i64 ((s1.Plan.length : Int))), (91, .int .i64 ((k2740 : Int))), (93, .int .i64 ((s1.Plan.length : Int))), (94, .int .i64 ((k3065 : Int))), (98, .slice A5 (s1.Links).length c6), (99, .int .i64 ((s1.Links.length : Int))), (100, .int .i64 ((k3135 : Int) + 1))]) ⟨rfl, rfl, rfl, rfl, rfl, rfl, rfl, rfl, rfl, rfl, rfl, rfl, trivial⟩ (.cons_cons _ (.cons _ (.refl _))) ⟨rfl, rfl, (hle3133)⟩
         ·
          rintro b3132 _ _ ⟨rfl, rfl, hle3133⟩
          have hm := hk3137
          refine c_sr ?_
          refine t_st rfl (st_lss_f rfl rfl (by omega)) ?_
          refine t_ne ?_
          refine c_seq ?_
          refine c_cond_f rfl ?_
          refine c_exit ?_
          refine x_then_exit ?_
          refine x_then_exit ?_
          refine x_block_out ?_
          refine x_then_normal ?_
          refine c_region ?_
          refine t_mv rfl rfl ?_
          refine t_mv rfl rfl ?_
          refine t_mv rfl rfl ?_
          refine t_mv rfl rfl ?_
          obtain ⟨x3169, h3170, hm⟩ := bindS hm
          obtain ⟨j3171, hj3172, hx3173⟩ := idx_some h3170
          obtain ⟨cs3174, hs3179, P3180, P3181, hq3182, hr3175, hcs3176, hA3177, hlt3178, hb3183, hho3184⟩ := OS.get (sz := 1) rfl (by decide) (h3062.le hle3133) hx3173
          obtain ⟨rfl, rfl⟩ := hr3175
          refine t_st rfl (st_index_old j3171 rfl rfl hj3172 hlt3178 hA3177 sl88) ?_
          refine t_st rfl (st_load_rd rfl one4 (fun w ho => hcs3176 w _ ho (.cons _ (List.sublist_append_left _ _)) 0 _ rfl)) ?_
          rcases Bool.eq_false_or_eq_true x3169 with hc3185 | hc3185
          ·
           rw [if_pos hc3185] at hm
           refine t_resp 129 rfl (v' := .bool true) (by rw [hc3185] <;> rfl) ?_
           refine t_mv rfl rfl ?_
           refine t_no 130 rfl rfl rfl rfl rfl ?_
           refine t_st rfl (st_pick_t rfl rfl) ?_
           obtain ⟨x3186, h3187, hm⟩ := bindS hm
           obtain ⟨j3188, hj3189, hx3190⟩ := idx_some h3187
           obtain ⟨cs3191, hs3196, P3197, P3198, hq3199, hr3192, hcs3193, hA3194, hlt3195, hb3200, hho3201⟩ := OS.get (sz := 1) rfl (by decide) (h3062.le hle3133) hx3190
           obtain ⟨rfl, rfl⟩ := hr3192
           refine t_st rfl (st_index_old j3188 rfl rfl hj3189 hlt3195 hA3194 sl88) ?_
           refine t_do rfl (u_putOS hj3189 (sz := 1) (a' := true) rfl [_] R 0 1 [.bool (true)] rfl (h3062.le hle3133) hx3190 rfl rfl rfl siz4 rfl (mem_c rfl mem_n) (fun cs hsj hh => by obtain ⟨rfl, rfl⟩ := hh; exact ⟨by decide, rfl, rfl⟩)) ?_
           rintro _ _ ⟨hs3202, rfl, h3203⟩
           refine t_resp 8 rfl (v' := .slice A1766 (put l3063 (k3065 : Int) true).length c1767) (by simp only [put_length]) ?_
           refine t_nil ?_
           refine x_block_normal ?_
           refine x_then_normal ?_
           refine c_region ?_
           refine t_st rfl (st_add rfl rfl (by omega)) ?_
           refine t_mv rfl rfl ?_
           refine t_nil ?_
           obtain rfl := some1 hm
           exact x_againS (e' := [(1, .pointer (some ⟨g1617, 0, none⟩)), (3, .int .i64 ((s1.Plan.length : Int))), (8, .slice A1766 (put l3063 (k3065 : Int) true).length c1767), (90, .int .i64 ((s1.Plan.length : Int))), (91, .int .i64 ((k2740 : Int))), (93, .int .i64 ((s1.Plan.length : Int))), (94, .int .i64 ((k3065 : Int) + 1))]) ⟨rfl, rfl, rfl, rfl, rfl, rfl, rfl, trivial⟩ (.refl _) ⟨hs3202, rfl, rfl, ((hle3059.trans hle3133)), h3203, ((put_length _ _ _).trans hln3064)⟩
          ·
           rw [if_neg (fun hh => Bool.noConfusion (hh.symm.trans hc3185))] at hm
           refine t_resp 129 rfl (v' := .bool false) (by rw [hc3185] <;> rfl) ?_
           refine t_mv rfl rfl ?_
           refine t_yes 130 rfl rfl rfl ?_
           refine t_mv rfl rfl ?_
           refine t_st rfl (st_pick_f rfl rfl) ?_
           obtain ⟨x3204, h3205, hm⟩ := bindS hm
           obtain ⟨j3206, hj3207, hx3208⟩ := idx_some h3205
           obtain ⟨cs3209, hs3214, P3215, P3216, hq3217, hr3210, hcs3211, hA3212, hlt3213, hb3218, hho3219⟩ := OS.get (sz := 1) rfl (by decide) (h3062.le hle3133) hx3208
           obtain ⟨rfl, rfl⟩ := hr3210
           refine t_st rfl (st_index_old j3206 rfl rfl hj3207 hlt3213 hA3212 sl88) ?_
           refine t_do rfl (u_putOS hj3207 (sz := 1) (a' := x3134) rfl [_] R 0 1 [.bool (x3134)] rfl (h3062.le hle3133) hx3208 rfl rfl rfl siz4 rfl (mem_c rfl mem_n) (fun cs hsj hh => by obtain ⟨rfl, rfl⟩ := hh; exact ⟨by decide, rfl, rfl⟩)) ?_
           rintro _ _ ⟨hs3220, rfl, h3221⟩
           refine t_resp 8 rfl (v' := .slice A1766 (put l3063 (k3065 : Int) x3134).length c1767) (by simp only [put_length]) ?_
           refine t_nil ?_
           refine x_block_normal ?_
           refine x_then_normal ?_
           refine c_region ?_
           refine t_st rfl (st_add rfl rfl (by omega)) ?_
           refine t_mv rfl rfl ?_
           refine t_nil ?_
           obtain rfl := some1 hm
           exact x_againS (e' := [(1, .pointer (some ⟨g1617, 0, none⟩)), (3, .int .i64 ((s1.Plan.length : Int))), (8, .slice A1766 (put l3063 (k3065 : Int) x3134).length c1767), (90, .int .i64 ((s1.Plan.length : Int))), (91, .int .i64 ((k2740 : Int))), (93, .int .i64 ((s1.Plan.length : Int))), (94, .int .i64 ((k3065 : Int) + 1))]) ⟨rfl, rfl, rfl, rfl, rfl, rfl, rfl, trivial⟩ (.refl _) ⟨hs3220, rfl, rfl, ((hle3059.trans hle3133)), h3221, ((put_length _ _ _).trans hln3064)⟩
        ·
         rintro b3058 _ _ ⟨hs3061, rfl, rfl, hle3059, h3062, hln3064⟩
         have hm := hk3067
         refine c_sr ?_
         refine t_st rfl (st_lss_f rfl rfl (by omega)) ?_
         refine t_ne ?_
         refine c_seq ?_
         refine c_cond_f rfl ?_
         refine c_exit ?_
         refine x_then_exit ?_
         refine x_then_exit ?_
         refine x_block_out ?_
         refine x_block_normal ?_
         refine x_then_normal ?_
         refine c_region ?_
         refine t_st rfl (st_add rfl rfl (by omega)) ?_
         refine t_mv rfl rfl ?_
         refine t_nil ?_
         obtain rfl := some1 hm
         exact x_againS (e' := [(1, .pointer (some ⟨g1617, 0, none⟩)), (3, .int .i64 ((s1.Plan.length : Int))), (8, .slice A1766 (l3063).length c1767), (90, .int .i64 ((s1.Plan.length : Int))), (91, .int .i64 ((k2740 : Int) + 1))]) ⟨rfl, rfl, rfl, rfl, rfl, trivial⟩ (.refl _) ⟨hs3061, rfl, rfl, ((hle2734.trans hle3059)), h3062, hln3064⟩
       ·
        rintro b2733 _ _ ⟨hs2736, rfl, rfl, hle2734, h2737, hln2739⟩
        have hm := hk2742
        refine c_sr ?_
        refine t_st rfl (st_lss_f rfl rfl (by omega)) ?_
        refine t_ne ?_
        refine c_seq ?_
        refine c_cond_f rfl ?_
        refine c_exit ?_
        refine x_then_exit ?_
        refine x_then_exit ?_
        refine x_block_out ?_
        refine x_then_normal ?_
        refine c_seq ?_
        refine c_sr ?_
        refine t_mv rfl rfl ?_
        obtain ⟨x3222, hcl3223, hm⟩ := bindS hm
        refine t_do rfl (u_callW0 _ call50 rfl (fun w ho => cSlicesContains _ [] l2738 false A1766 c1767 (OS.now (o := (OT.fr RT.bool)) (l := l2738) (hs := hs2736) h2737 ho (.cons _ (List.sublist_append_left _ _))) x3222 hcl3223) (fun _ _ _ h => h.2.symm)) ?_
        rintro _ _ ⟨⟨_, rfl, _⟩, rfl⟩
        refine t_ne ?_
        refine c_cond _ rfl (fun hc3224 => ?_) (fun hc3224 => ?_)
        ·
         rw [if_pos hc3224] at hm
         refine c_sr ?_
         refine t_as rfl rfl ?_
         refine t_ne ?_
         refine c_ret ?_
         refine x_then_ret ?_
         obtain rfl := some1 hm
         exact retM (rs := [.tmp 2]) [.int .i64 (5)] (hle1625.trans (hle1649.trans (hle1713.trans hle2734))) (by decide) rfl ⟨rfl, trivial⟩ rfl (.cons _ (sub_skip hs2736 (.refl _))) ⟨rfl, rfl⟩
        ·
         rw [if_neg (fun hh => Bool.noConfusion (hh.symm.trans hc3224))] at hm
         refine c_skip ?_
         refine x_then_normal ?_
         refine c_sr ?_
         refine t_as rfl rfl ?_
         refine t_ne ?_
         refine c_ret ?_
         obtain rfl := some1 hm
         exact retM (rs := [.tmp 2]) [.int .i64 (0)] (hle1625.trans (hle1649.trans (hle1713.trans hle2734))) (by decide) rfl ⟨rfl, trivial⟩ rfl (.cons _ (sub_skip hs2736 (.refl _))) ⟨rfl, rfl⟩

end Go.Proofs.Ytakehdnblmonlaa
