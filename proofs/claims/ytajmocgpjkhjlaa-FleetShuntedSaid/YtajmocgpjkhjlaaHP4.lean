/- Contracts: the code computes its model (part 4). -/
import Derived.Test.YtajmocgpjkhjlaaHP3
set_option linter.unusedVariables false
set_option linter.unusedSimpArgs false
namespace Go.Proofs.Ytajmocgpjkhjlaa
open Go.RowKit Go.Fp

set_option maxRecDepth 20000 in
theorem cFleetShunt (b : Base) (R : Hp) (s1 : FleetDepot) (l11 : (List Int)) (l15 : (List Int)) (A2 : Option Addr) (c3 : Nat) (A5 : Option Addr) (c6 : Nat) (A8 : Option Addr) (c9 : Nat) (A12 : Option Addr) (c13 : Nat) (h4 : FZ (RT.int .i64) b.w A2 c3 s1.Room) (h7 : FZ (RT.list (RT.int .i64)) b.w A5 c6 s1.Tracks) (h10 : FZ (RT.int .i64) b.w A8 c9 l11) (h14 : FZ (RT.int .i64) b.w A12 c13 l15) (l26001 : (List FleetMove)) (x26002 : Int) (hm : mFleetShunt s1 l11 l15 = some (l26001, x26002)) :
    CallsG Try.prog 30 [.agg #[.slice A2 (s1.Room).length c3, .slice A5 (s1.Tracks).length c6], .slice A8 (l11).length c9, .slice A12 (l15).length c13] b (R) (fun v b' hp' => ∃ (A25998 : Option Addr), ∃ (c25999 : Nat), .tuple #[.slice A25998 (l26001).length c25999, .int .i64 (x26002)] = v ∧ R = hp' ∧ FZ rFleetMove b'.w A25998 c25999 l26001) := by
  refine fn_enterG 154 Try.func30 rfl Try.ntmps30 rfl ?_
  unfold mFleetShunt at hm
  refine c_sr ?_
  refine t_do rfl (u_box _ rfl rfl) ?_
  rintro _ _ ⟨g26003, rfl, rfl⟩
  refine t_do rfl (u_box _ rfl rfl) ?_
  rintro _ _ ⟨g26004, rfl, rfl⟩
  refine t_as rfl rfl ?_
  refine t_as rfl rfl ?_
  refine t_ne ?_
  refine c_seq ?_
  refine c_sr ?_
  refine t_st rfl (st_loadD (vs := [_, _]) 1 2 rfl agg63 rfl rfl rfl) ?_
  obtain ⟨x26005, hcl26006, hm⟩ := bindS hm
  refine t_do rfl (u_callW0 _ call59 rfl (fun w ho => cFleetCheckDepot _ [] s1 A2 c3 A5 c6 (h4.old ho) (h7.old ho) x26005 hcl26006) (fun _ _ _ h => h.2.symm)) ?_
  rintro _ _ ⟨⟨_, rfl, _⟩, rfl⟩
  refine t_as rfl rfl ?_
  refine t_ne ?_
  refine c_sr ?_
  refine t_mv rfl rfl ?_
  refine t_st rfl (st_neq rfl rfl) ?_
  refine t_ne ?_
  refine c_cond _ rfl (fun hc26007 => ?_) (fun hc26007 => ?_)
  ·
   rw [if_pos (of_decide_eq_true hc26007)] at hm
   refine c_sr ?_
   refine t_mv rfl rfl ?_
   refine t_as rfl rfl ?_
   refine t_as rfl rfl ?_
   refine t_ne ?_
   refine c_ret ?_
   refine x_then_ret ?_
   obtain ⟨rfl, rfl⟩ := some2 hm
   exact retM (rs := [.tmp 6, .tmp 7]) [.slice none 0 0, .int .i64 (x26005)] (Base.Le.refl _) (by decide) rfl ⟨rfl, ⟨rfl, trivial⟩⟩ rfl (.cons _ (.cons _ (.refl _))) ⟨none, 0, rfl, rfl, FZ.nil⟩
  ·
   rw [if_neg (of_decide_eq_false hc26007)] at hm
   refine c_skip ?_
   refine x_then_normal ?_
   refine c_sr ?_
   refine t_as rfl rfl ?_
   refine t_ne ?_
   refine c_seq ?_
   refine c_sr ?_
   refine t_st rfl (st_field rfl fld63_1) ?_
   refine t_st rfl (st_load 1 rfl one26 rfl rfl) ?_
   refine t_st rfl (st_len rfl sl26) ?_
   refine t_mv rfl rfl ?_
   refine t_ne ?_
   refine c_block ?_
   have hb26009 : s1.Tracks.length ≤ 9223372036854775807 := (FZ.bd h7)
   refine c_pullb 1 rfl ?_
   obtain ⟨x26041, hl26043, hk26044⟩ := bindS hm
   refine c_forS (fun k26042 => fun x26041 => fun b26039 e' hp' => [(2, .slice A12 (l15).length c13), (3, .pointer (some ⟨g26003, 0, none⟩)), (4, .pointer (some ⟨g26004, 0, none⟩)), (9, .int .i64 (x26041)), (32, .slice A5 (s1.Tracks).length c6), (33, .int .i64 ((s1.Tracks.length : Int))), (34, .int .i64 ((k26042 : Int)))] = e' ∧ (g26003, Cl 63 [.slice A2 (s1.Room).length c3, .slice A5 (s1.Tracks).length c6]) :: (g26004, Cl 45 [.slice A8 (l11).length c9]) :: R = hp' ∧ b.Le b26039) hl26043 (e' := [(2, .slice A12 (l15).length c13), (3, .pointer (some ⟨g26003, 0, none⟩)), (4, .pointer (some ⟨g26004, 0, none⟩)), (9, .int .i64 (0)), (32, .slice A5 (s1.Tracks).length c6), (33, .int .i64 ((s1.Tracks.length : Int))), (34, .int .i64 0)]) ⟨rfl, rfl, rfl, rfl, rfl, rfl, rfl, trivial⟩ (.refl _) ⟨rfl, rfl, (Base.Le.refl _)⟩ ?_ ?_
   ·
    rintro k26042 x26041 b26039 _ _ oL26008 hknL26008 ⟨rfl, rfl, hle26040⟩ hstepL26008
    unfold mFleetShunt_L26008 at hstepL26008
    have hm := hstepL26008
    refine c_sr ?_
    refine t_st rfl (st_lss_t rfl rfl (by omega)) ?_
    refine t_ne ?_
    refine c_seq ?_
    refine c_cond_t rfl ?_
    refine c_skip ?_
    refine x_then_normal ?_
    refine c_seq ?_
    refine c_block ?_
    refine c_sr ?_
    obtain ⟨x26045, h26046, hm⟩ := bindS hm
    obtain ⟨j26047, hj26048, hx26049⟩ := idx_some h26046
    obtain ⟨cs26050, hr26051, hcs26052, hA26053, hlt26054⟩ := FZ.get (sz := 1) rfl (by decide) (h7.le hle26040) hx26049
    obtain ⟨A26055, c26056, rfl, h26057⟩ := hr26051
    refine t_st rfl (st_index_old j26047 rfl rfl hj26048 hlt26054 hA26053 sl26) ?_
    refine t_st rfl (st_load_old rfl one45 (hcs26052 0 _ rfl)) ?_
    refine t_as rfl rfl ?_
    refine t_ne ?_
    refine c_region ?_
    refine t_mv rfl rfl ?_
    refine t_mv rfl rfl ?_
    refine t_st rfl (st_len rfl sl45) ?_
    obtain ⟨_, h26058, hm⟩ := bindS hm
    have h26058 := (chk_some h26058).2
    refine t_st rfl (st_add rfl rfl h26058) ?_
    refine t_as rfl rfl ?_
    refine t_nil ?_
    refine x_block_normal ?_
    refine x_then_normal ?_
    refine c_region ?_
    refine t_st rfl (st_add rfl rfl (by omega)) ?_
    refine t_mv rfl rfl ?_
    refine t_nil ?_
    refine x_pullb 1 rfl ?_
    refine x_pullb 1 rfl ?_
    obtain rfl := some1 hm
    exact x_againS (e' := [(2, .slice A12 (l15).length c13), (3, .pointer (some ⟨g26003, 0, none⟩)), (4, .pointer (some ⟨g26004, 0, none⟩)), (9, .int .i64 (x26041 + (x26045.length : Int))), (32, .slice A5 (s1.Tracks).length c6), (33, .int .i64 ((s1.Tracks.length : Int))), (34, .int .i64 ((k26042 : Int) + 1))]) ⟨rfl, rfl, rfl, rfl, rfl, rfl, rfl, trivial⟩ (.refl _) ⟨rfl, rfl, (hle26040)⟩
   ·
    rintro b26039 _ _ ⟨rfl, rfl, hle26040⟩
    have hm := hk26044
    refine c_sr ?_
    refine t_st rfl (st_lss_f rfl rfl (by omega)) ?_
    refine t_ne ?_
    refine c_seq ?_
    refine c_cond_f rfl ?_
    refine c_exit ?_
    refine x_then_exit ?_
    refine x_then_exit ?_
    refine x_block_out ?_
    refine x_then_normal ?_
    refine c_seq ?_
    refine c_sr ?_
    refine t_mv rfl rfl ?_
    refine t_st rfl (st_gtr rfl rfl) ?_
    refine t_ne ?_
    refine c_cond _ rfl (fun hc26059 => ?_) (fun hc26059 => ?_)
    ·
     rw [if_pos (of_decide_eq_true hc26059)] at hm
     refine c_sr ?_
     refine t_as rfl rfl ?_
     refine t_as rfl rfl ?_
     refine t_ne ?_
     refine c_ret ?_
     refine x_then_ret ?_
     obtain ⟨rfl, rfl⟩ := some2 hm
     exact retM (rs := [.tmp 6, .tmp 7]) [.slice none 0 0, .int .i64 (4)] hle26040 (by decide) rfl ⟨rfl, ⟨rfl, trivial⟩⟩ rfl (.cons _ (.cons _ (.refl _))) ⟨none, 0, rfl, rfl, FZ.nil⟩
    ·
     rw [if_neg (of_decide_eq_false hc26059)] at hm
     refine c_skip ?_
     refine x_then_normal ?_
     refine c_seq ?_
     refine c_sr ?_
     refine t_st rfl (st_field rfl fld63_1) ?_
     refine t_st rfl (st_load 0 rfl one26 rfl rfl) ?_
     refine t_st rfl (st_len rfl sl26) ?_
     refine t_mv rfl rfl ?_
     refine t_ne ?_
     refine c_block ?_
     have hb26061 : s1.Tracks.length ≤ 9223372036854775807 := (FZ.bd (h7.le hle26040))
     refine c_pullb 1 rfl ?_
     refine c_pullb 1 rfl ?_
     obtain ⟨t26083, hl26084, hk26085⟩ := bindS hm
     refine c_forM (fun k26082 => fun _ => fun b26080 e' hp' => [(2, .slice A12 (l15).length c13), (3, .pointer (some ⟨g26003, 0, none⟩)), (4, .pointer (some ⟨g26004, 0, none⟩)), (9, .int .i64 (x26041)), (46, .slice A5 (s1.Tracks).length c6), (47, .int .i64 ((s1.Tracks.length : Int))), (48, .int .i64 ((k26082 : Int)))] = e' ∧ (g26003, Cl 63 [.slice A2 (s1.Room).length c3, .slice A5 (s1.Tracks).length c6]) :: (g26004, Cl 45 [.slice A8 (l11).length c9]) :: R = hp' ∧ b26039.Le b26080) hl26084 (e' := [(2, .slice A12 (l15).length c13), (3, .pointer (some ⟨g26003, 0, none⟩)), (4, .pointer (some ⟨g26004, 0, none⟩)), (9, .int .i64 (x26041)), (46, .slice A5 (s1.Tracks).length c6), (47, .int .i64 ((s1.Tracks.length : Int))), (48, .int .i64 0)]) ⟨rfl, rfl, rfl, rfl, rfl, rfl, rfl, trivial⟩ (.refl _) ⟨rfl, rfl, (Base.Le.refl _)⟩ ?_ ?_
     ·
      rintro k26082 _ b26080 _ _ oL26060 hknL26060 ⟨rfl, rfl, hle26081⟩ hstepL26060 houtL26060
      unfold mFleetShunt_L26060 at hstepL26060
      have hm := hstepL26060
      refine c_sr ?_
      refine t_st rfl (st_lss_t rfl rfl (by omega)) ?_
      refine t_ne ?_
      refine c_seq ?_
      refine c_cond_t rfl ?_
      refine c_skip ?_
      refine x_then_normal ?_
      refine c_seq ?_
      refine c_block ?_
      refine c_sr ?_
      obtain ⟨x26086, h26087, hm⟩ := bindS hm
      obtain ⟨j26088, hj26089, hx26090⟩ := idx_some h26087
      obtain ⟨cs26091, hr26092, hcs26093, hA26094, hlt26095⟩ := FZ.get (sz := 1) rfl (by decide) (h7.le (hle26040.trans hle26081)) hx26090
      obtain ⟨A26096, c26097, rfl, h26098⟩ := hr26092
      refine t_st rfl (st_index_old j26088 rfl rfl hj26089 hlt26095 hA26094 sl26) ?_
      refine t_st rfl (st_load_old rfl one45 (hcs26093 0 _ rfl)) ?_
      refine t_as rfl rfl ?_
      refine t_ne ?_
      refine c_sr ?_
      refine t_mv rfl rfl ?_
      refine t_st rfl (st_func _ _ rfl rfl) ?_
      obtain ⟨x26099, hcl26100, hm⟩ := bindS hm
      refine t_pullb 1 rfl ?_
      refine t_callG _ rfl call27 rfl (cSlicesContainsFunc _ _ x26086 l11 g26004 A26096 c26097 A8 c9 h26098 (h10.le (hle26040.trans hle26081)) x26099 hcl26100) ?_
      rintro _ b26101 _ hle26102 ⟨rfl, rfl⟩
      refine t_ne ?_
      refine c_cond _ rfl (fun hc26103 => ?_) (fun hc26103 => ?_)
      ·
       rw [if_pos hc26103] at hm
       refine c_sr ?_
       refine t_as rfl rfl ?_
       refine t_as rfl rfl ?_
       refine t_ne ?_
       refine c_ret ?_
       refine x_block_ret ?_
       refine x_then_ret ?_
       refine x_then_ret ?_
       refine x_block_ret ?_
       refine x_then_ret ?_
       have hq26104 := houtL26060 _ (Option.some.inj hm).symm
       rw [hq26104] at hk26085
       have hm := elimR hk26085
       obtain ⟨rfl, rfl⟩ := some2 hm
       exact retM (rs := [.tmp 6, .tmp 7]) [.slice none 0 0, .int .i64 (2)] (hle26040.trans (hle26081.trans hle26102)) (by decide) rfl ⟨rfl, ⟨rfl, trivial⟩⟩ rfl (.cons _ (.cons _ (.refl _))) ⟨none, 0, rfl, rfl, FZ.nil⟩
      ·
       rw [if_neg (fun hh => Bool.noConfusion (hh.symm.trans hc26103))] at hm
       refine c_skip ?_
       refine x_block_normal ?_
       refine x_then_normal ?_
       refine c_region ?_
       refine t_st rfl (st_add rfl rfl (by omega)) ?_
       refine t_mv rfl rfl ?_
       refine t_nil ?_
       refine x_pullb 1 rfl ?_
       exact x_againM () (Option.some.inj hm).symm (e' := [(2, .slice A12 (l15).length c13), (3, .pointer (some ⟨g26003, 0, none⟩)), (4, .pointer (some ⟨g26004, 0, none⟩)), (9, .int .i64 (x26041)), (46, .slice A5 (s1.Tracks).length c6), (47, .int .i64 ((s1.Tracks.length : Int))), (48, .int .i64 ((k26082 : Int) + 1))]) ⟨rfl, rfl, rfl, rfl, rfl, rfl, rfl, trivial⟩ (.refl _) ⟨rfl, rfl, ((hle26081.trans hle26102))⟩
     ·
      rintro _ b26080 _ _ ⟨rfl, rfl, hle26081⟩ hq26105
      rw [hq26105] at hk26085
      have hm := elimL hk26085
      refine c_sr ?_
      refine t_st rfl (st_lss_f rfl rfl (by omega)) ?_
      refine t_ne ?_
      refine c_seq ?_
      refine c_cond_f rfl ?_
      refine c_exit ?_
      refine x_then_exit ?_
      refine x_then_exit ?_
      refine x_block_out ?_
      refine x_then_normal ?_
      refine c_seq ?_
      refine c_sr ?_
      refine t_mv rfl rfl ?_
      refine t_st rfl (st_len rfl sl45) ?_
      refine t_mv rfl rfl ?_
      refine t_st rfl (st_gtr rfl rfl) ?_
      refine t_ne ?_
      refine c_cond _ rfl (fun hc26106 => ?_) (fun hc26106 => ?_)
      ·
       rw [if_pos (of_decide_eq_true hc26106)] at hm
       refine c_sr ?_
       refine t_as rfl rfl ?_
       refine t_as rfl rfl ?_
       refine t_ne ?_
       refine c_ret ?_
       refine x_then_ret ?_
       obtain ⟨rfl, rfl⟩ := some2 hm
       exact retM (rs := [.tmp 6, .tmp 7]) [.slice none 0 0, .int .i64 (9)] (hle26040.trans hle26081) (by decide) rfl ⟨rfl, ⟨rfl, trivial⟩⟩ rfl (.cons _ (.cons _ (.refl _))) ⟨none, 0, rfl, rfl, FZ.nil⟩
      ·
       rw [if_neg (of_decide_eq_false hc26106)] at hm
       refine c_skip ?_
       refine x_then_normal ?_
       refine c_sr ?_
       refine t_do rfl (u_mmap (RT.arr 4 (RT.arr 4 (RT.int .i64))) (OT.fr RT.bool) true false [_, _] R rfl) ?_
       rintro _ _ ⟨g26107, hs26108, rfl, rfl, h26109⟩
       refine t_st rfl (st_loadD (vs := [_, _]) 0 2 rfl agg63 rfl rfl rfl) ?_
       obtain ⟨l26110, hcl26111, hm⟩ := bindS hm
       refine t_callG _ rfl call61 rfl (cFleetStateOf _ _ s1 A2 c3 A5 c6 (h4.le (hle26040.trans hle26081)) (h7.le (hle26040.trans hle26081)) l26110 hcl26111) ?_
       rintro _ b26112 _ hle26113 ⟨cs26114, rfl, rfl, h26115⟩
       refine t_do rfl (u_mputF (k := l26110) kok113 [_, _] [] R rfl (h26109.le hle26113) mapt115 rfl rfl rfl (⟨cs26114, rfl, h26115⟩) ⟨rfl, rfl⟩ _ (.inr rfl)) ?_
       rintro _ _ ⟨hs26116, rfl, hsub26117, h26118⟩
       refine t_mv rfl rfl ?_
       refine t_as rfl rfl ?_
       refine t_ne ?_
       refine c_sr ?_
       refine t_st rfl (st_build (v := .agg #[.slice none 0 0]) [] rfl (fun _ => by kernel_rfl)) ?_
       refine t_do rfl (u_box _ rfl rfl) ?_
       rintro _ _ ⟨g26119, rfl, rfl⟩
       refine t_as rfl rfl ?_
       refine t_ne ?_
       refine c_sr ?_
       refine t_mv rfl rfl ?_
       refine t_st rfl (st_loadD (vs := [_, _]) 1 2 rfl agg63 rfl rfl rfl) ?_
       refine t_st rfl (st_build (v := .agg #[.slice A2 (s1.Room).length c3, .slice A5 (s1.Tracks).length c6, .int .i64 (0), .slice none 0 0]) [(0, .agg #[.slice A2 (s1.Room).length c3, .slice A5 (s1.Tracks).length c6])] rfl (fun _ => by kernel_rfl)) ?_
       obtain ⟨l26120, hcl26121, hm⟩ := bindS hm
       refine t_callG _ rfl call62 rfl (cFleetQueuePut _ _ (⟨s1, 0, []⟩ : FleetTry) [] g26119 A2 c3 A5 c6 none 0 none 0 [] (h4.le (hle26040.trans (hle26081.trans hle26113))) (h7.le (hle26040.trans (hle26081.trans hle26113))) FZ.nil OS.nil ⟨fun _ => rfl, fun _ => rfl⟩ l26120 hcl26121) ?_
       rintro _ b26122 _ hle26123 ⟨A26124, c26125, hs26126, rfl, rfl, h26127, h26128⟩
       refine t_in1 [_] [_, _] hs26126 (hs26116 ++ R) rfl ?_
       refine t_ne ?_
       refine c_block ?_
       refine c_pullb 2 rfl ?_
       refine c_pullb 2 rfl ?_
       refine c_front2 [_, _, _] hs26126 hs26116 R rfl ?_
       refine c_loopM (unc2 fun l43372 l43373 => fun b43362 e' hp' => ∃ (hs43365 : Hp), ∃ (A43369 : Option Addr), ∃ (c43370 : Nat), ∃ (hs43368 : Hp), [(2, .slice A12 (l15).length c13), (3, .pointer (some ⟨g26003, 0, none⟩)), (4, .pointer (some ⟨g26004, 0, none⟩)), (14, .map (some g26107)), (15, .pointer (some ⟨g26119, 0, none⟩))] = e' ∧ (g26003, Cl 63 [.slice A2 (s1.Room).length c3, .slice A5 (s1.Tracks).length c6]) :: (g26004, Cl 45 [.slice A8 (l11).length c9]) :: (g26119, Cl 119 [.slice A43369 (l43373).length c43370]) :: (hs43365 ++ (hs43368 ++ R)) = hp' ∧ b26122.Le b43362 ∧ OM (RT.arr 4 (RT.arr 4 (RT.int .i64))) (OT.fr RT.bool) true false b43362.w g26107 l43372 hs43365 ∧ OS 122 (OT.fr rFleetTry) b43362.w (.slice A43369 l43373.length c43370) l43373 hs43368) hm (e' := [(2, .slice A12 (l15).length c13), (3, .pointer (some ⟨g26003, 0, none⟩)), (4, .pointer (some ⟨g26004, 0, none⟩)), (14, .map (some g26107)), (15, .pointer (some ⟨g26119, 0, none⟩))]) ⟨rfl, rfl, rfl, rfl, rfl, trivial⟩ (.refl _) ⟨hs26116, A26124, c26125, hs26126, rfl, rfl, (Base.Le.refl _), (h26118.le hle26123), h26127⟩ ?_
       rintro ⟨l43372, l43373⟩ b43362 _ _ oL26129 ⟨hs43365, A43369, c43370, hs43368, rfl, rfl, hle43363, h43366, h43371⟩ hstepL26129 houtL26129
       unfold mFleetShunt_L26129 at hstepL26129
       have hm := (unc2E hstepL26129)
       refine c_block ?_
       refine c_sr ?_
       refine t_mv rfl rfl ?_
       obtain ⟨⟨l43374, l43375, x43376, l43377, x43378, l43379⟩, hcl43380, hm⟩ := bindS hm
       have hm := (unc6E hm)
       refine t_pullb 2 rfl ?_
       refine t_front2 [_, _, _] hs43365 hs43368 R rfl ?_
       refine t_out1 [_] [_, _] hs43368 (hs43365 ++ R) rfl ?_
       refine t_callG _ rfl call63 rfl (cFleetQueueTake_2 _ _ l43373 g26119 A43369 c43370 hs43368 h43371 l43374 l43375 x43376 l43377 x43378 l43379 hcl43380) ?_
       rintro _ b43381 _ hle43382 ⟨A43383, c43384, A43385, c43386, A43387, c43388, A43389, c43390, hs43391, rfl, rfl, h43392, h43393, h43394, h43395⟩
       refine t_in1 [_] [_, _] hs43391 (hs43365 ++ R) rfl ?_
       refine t_mv rfl rfl ?_
       refine t_st rfl (st_extract rfl rfl) ?_
       refine t_st rfl (st_extract rfl rfl) ?_
       refine t_do rfl (u_alloc [.slice none 0 0, .slice none 0 0, .int .i64 0, .slice none 0 0] zero122 rfl) ?_
       rintro _ _ ⟨g43396, rfl, rfl⟩
       refine t_do rfl (u_storeN (vs := [_, _, _, _]) 0 4 rfl rfl rfl siz122 rfl (mem_c rfl (mem_c rfl (mem_c rfl (mem_c rfl mem_n)))) rfl (by simp)) ?_
       rintro _ _ rfl
       refine t_as rfl rfl ?_
       refine t_ne ?_
       refine c_seq ?_
       refine c_sr ?_
       refine t_mv rfl rfl ?_
       refine t_st rfl (st_not rfl) ?_
       refine t_ne ?_
       refine c_cond _ rfl (fun hc43397 => ?_) (fun hc43397 => ?_)
       ·
        rw [if_neg (fun hh => Bool.noConfusion (hh.symm.trans (notT hc43397)))] at hm
        refine c_sr ?_
        refine t_as rfl rfl ?_
        refine t_as rfl rfl ?_
        refine t_ne ?_
        refine c_ret ?_
        refine x_then_ret ?_
        refine x_block_ret ?_
        refine x_then_ret ?_
        refine x_block_ret ?_
        have hm := congrArg some (houtL26129 _ (Option.some.inj hm).symm)
        obtain ⟨rfl, rfl⟩ := some2 hm
        exact retM (rs := [.tmp 6, .tmp 7]) [.slice none 0 0, .int .i64 (9)] (hle26040.trans (hle26081.trans (hle26113.trans (hle26123.trans (hle43363.trans hle43382))))) (by decide) rfl ⟨rfl, ⟨rfl, trivial⟩⟩ rfl (.cons _ (.cons _ (.cons _ (.cons _ (sub_skip hs43391 (sub_skip hs43365 (.refl _))))))) ⟨none, 0, rfl, rfl, FZ.nil⟩
       ·
        rw [if_pos (notF hc43397)] at hm
        refine c_skip ?_
        refine x_then_normal ?_
        refine c_seq ?_
        refine c_sr ?_
        refine t_st rfl (st_field rfl fld122_1) ?_
        refine t_st rfl (st_load 0 rfl one3 rfl rfl) ?_
        refine t_mv rfl rfl ?_
        refine t_st rfl (st_len rfl sl45) ?_
        refine t_st rfl (st_eql rfl rfl) ?_
        refine t_ne ?_
        refine c_cond _ rfl (fun hc43398 => ?_) (fun hc43398 => ?_)
        ·
         rw [if_pos (of_decide_eq_true hc43398)] at hm
         refine c_sr ?_
         refine t_st rfl (st_field rfl fld122_2) ?_
         refine t_st rfl (st_load 0 rfl one65 rfl rfl) ?_
         refine t_as rfl rfl ?_
         refine t_as rfl rfl ?_
         refine t_ne ?_
         refine c_ret ?_
         refine x_then_ret ?_
         refine x_block_ret ?_
         refine x_then_ret ?_
         refine x_block_ret ?_
         have hm := congrArg some (houtL26129 _ (Option.some.inj hm).symm)
         obtain ⟨rfl, rfl⟩ := some2 hm
         exact retM (rs := [.tmp 6, .tmp 7]) [.slice A43387 (l43377).length c43388, .int .i64 (0)] (hle26040.trans (hle26081.trans (hle26113.trans (hle26123.trans (hle43363.trans hle43382))))) (by decide) rfl ⟨rfl, ⟨rfl, trivial⟩⟩ rfl (.cons _ (.cons _ (.cons _ (.cons _ (sub_skip hs43391 (sub_skip hs43365 (.refl _))))))) ⟨A43387, c43388, rfl, rfl, h43394⟩
        ·
         rw [if_neg (of_decide_eq_false hc43398)] at hm
         refine c_skip ?_
         refine x_then_normal ?_
         refine c_sr ?_
         refine t_st rfl (st_field rfl fld63_1) ?_
         refine t_st rfl (st_load 2 rfl one26 rfl rfl) ?_
         refine t_st rfl (st_len rfl sl26) ?_
         refine t_mv rfl rfl ?_
         refine t_ne ?_
         refine c_block ?_
         have hb43400 : s1.Tracks.length ≤ 9223372036854775807 := (FZ.bd (h7.le (hle26040.trans (hle26081.trans (hle26113.trans (hle26123.trans (hle43363.trans hle43382)))))))
         refine c_pullb 1 rfl ?_
         refine c_pullb 3 rfl ?_
         refine c_pullb 3 rfl ?_
         refine c_front2 [_, _, _, _] hs43391 hs43365 R rfl ?_
         obtain ⟨⟨l49127, l49128⟩, hl49130, hk49131⟩ := bindS hm
         refine c_forS (fun k49129 => unc2 fun l49127 l49128 => fun b49117 e' hp' => ∃ (hs49120 : Hp), ∃ (A49124 : Option Addr), ∃ (c49125 : Nat), ∃ (hs49123 : Hp), [(2, .slice A12 (l15).length c13), (3, .pointer (some ⟨g26003, 0, none⟩)), (4, .pointer (some ⟨g26004, 0, none⟩)), (14, .map (some g26107)), (15, .pointer (some ⟨g26119, 0, none⟩)), (16, .pointer (some ⟨g43396, 0, none⟩)), (86, .int .i64 ((s1.Tracks.length : Int))), (87, .int .i64 ((k49129 : Int)))] = e' ∧ (g26003, Cl 63 [.slice A2 (s1.Room).length c3, .slice A5 (s1.Tracks).length c6]) :: (g26004, Cl 45 [.slice A8 (l11).length c9]) :: (g26119, Cl 119 [.slice A49124 (l49128).length c49125]) :: (g43396, Cl 122 [.slice A43383 (l43374).length c43384, .slice A43385 (l43375).length c43386, .int .i64 (x43376), .slice A43387 (l43377).length c43388]) :: (hs49120 ++ (hs49123 ++ R)) = hp' ∧ b43381.Le b49117 ∧ OM (RT.arr 4 (RT.arr 4 (RT.int .i64))) (OT.fr RT.bool) true false b49117.w g26107 l49127 hs49120 ∧ OS 122 (OT.fr rFleetTry) b49117.w (.slice A49124 l49128.length c49125) l49128 hs49123) hl49130 (e' := [(2, .slice A12 (l15).length c13), (3, .pointer (some ⟨g26003, 0, none⟩)), (4, .pointer (some ⟨g26004, 0, none⟩)), (14, .map (some g26107)), (15, .pointer (some ⟨g26119, 0, none⟩)), (16, .pointer (some ⟨g43396, 0, none⟩)), (86, .int .i64 ((s1.Tracks.length : Int))), (87, .int .i64 0)]) ⟨rfl, rfl, rfl, rfl, rfl, rfl, rfl, rfl, trivial⟩ (.refl _) ⟨hs43365, A43389, c43390, hs43391, rfl, rfl, (Base.Le.refl _), (h43366.le hle43382), h43395⟩ ?_ ?_
         ·
          rintro k49129 ⟨l49127, l49128⟩ b49117 _ _ oL43399 hknL43399 ⟨hs49120, A49124, c49125, hs49123, rfl, rfl, hle49118, h49121, h49126⟩ hstepL43399
          unfold mFleetShunt_L43399 at hstepL43399
          have hm := (unc2E hstepL43399)
          refine c_sr ?_
          refine t_st rfl (st_lss_t rfl rfl (by omega)) ?_
          refine t_ne ?_
          refine c_seq ?_
          refine c_cond_t rfl ?_
          refine c_skip ?_
          refine x_then_normal ?_
          obtain ⟨⟨l50562, l50563⟩, hj50564, hk50564⟩ := bindS hm
          refine c_join (fun b50552 e' hp' => ∃ (hs50555 : Hp), ∃ (A50559 : Option Addr), ∃ (c50560 : Nat), ∃ (hs50558 : Hp), [(2, .slice A12 (l15).length c13), (3, .pointer (some ⟨g26003, 0, none⟩)), (4, .pointer (some ⟨g26004, 0, none⟩)), (14, .map (some g26107)), (15, .pointer (some ⟨g26119, 0, none⟩)), (16, .pointer (some ⟨g43396, 0, none⟩)), (86, .int .i64 ((s1.Tracks.length : Int))), (87, .int .i64 ((k49129 : Int)))] = e' ∧ (g26003, Cl 63 [.slice A2 (s1.Room).length c3, .slice A5 (s1.Tracks).length c6]) :: (g26004, Cl 45 [.slice A8 (l11).length c9]) :: (g26119, Cl 119 [.slice A50559 (l50563).length c50560]) :: (g43396, Cl 122 [.slice A43383 (l43374).length c43384, .slice A43385 (l43375).length c43386, .int .i64 (x43376), .slice A43387 (l43377).length c43388]) :: (hs50555 ++ (hs50558 ++ R)) = hp' ∧ b49117.Le b50552 ∧ OM (RT.arr 4 (RT.arr 4 (RT.int .i64))) (OT.fr RT.bool) true false b50552.w g26107 l50562 hs50555 ∧ OS 122 (OT.fr rFleetTry) b50552.w (.slice A50559 l50563.length c50560) l50563 hs50558) ?_ ?_
          ·
           have hm := hj50564
           refine c_block ?_
           refine c_sr ?_
           refine t_mv rfl rfl ?_
           refine t_as rfl rfl ?_
           refine t_ne ?_
           refine c_sr ?_
           refine t_as rfl rfl ?_
           refine t_ne ?_
           refine c_block ?_
           refine c_pullb 3 rfl ?_
           refine c_pullb 3 rfl ?_
           refine c_pullb 3 rfl ?_
           refine c_pullb 3 rfl ?_
           refine c_front2 [_, _, _, _] hs49120 hs49123 R rfl ?_
           refine c_front2 [_, _, _, _] hs49123 hs49120 R rfl ?_
           refine c_loopM (unc3 fun x51517 l51518 l51519 => fun b51507 e' hp' => ∃ (hs51510 : Hp), ∃ (A51514 : Option Addr), ∃ (c51515 : Nat), ∃ (hs51513 : Hp), [(2, .slice A12 (l15).length c13), (3, .pointer (some ⟨g26003, 0, none⟩)), (4, .pointer (some ⟨g26004, 0, none⟩)), (14, .map (some g26107)), (15, .pointer (some ⟨g26119, 0, none⟩)), (16, .pointer (some ⟨g43396, 0, none⟩)), (18, .int .i64 ((k49129 : Int))), (19, .int .i64 (x51517)), (86, .int .i64 ((s1.Tracks.length : Int))), (87, .int .i64 ((k49129 : Int)))] = e' ∧ (g26003, Cl 63 [.slice A2 (s1.Room).length c3, .slice A5 (s1.Tracks).length c6]) :: (g26004, Cl 45 [.slice A8 (l11).length c9]) :: (g26119, Cl 119 [.slice A51514 (l51519).length c51515]) :: (g43396, Cl 122 [.slice A43383 (l43374).length c43384, .slice A43385 (l43375).length c43386, .int .i64 (x43376), .slice A43387 (l43377).length c43388]) :: (hs51510 ++ (hs51513 ++ R)) = hp' ∧ b49117.Le b51507 ∧ OM (RT.arr 4 (RT.arr 4 (RT.int .i64))) (OT.fr RT.bool) true false b51507.w g26107 l51518 hs51510 ∧ OS 122 (OT.fr rFleetTry) b51507.w (.slice A51514 l51519.length c51515) l51519 hs51513) hm (e' := [(2, .slice A12 (l15).length c13), (3, .pointer (some ⟨g26003, 0, none⟩)), (4, .pointer (some ⟨g26004, 0, none⟩)), (14, .map (some g26107)), (15, .pointer (some ⟨g26119, 0, none⟩)), (16, .pointer (some ⟨g43396, 0, none⟩)), (18, .int .i64 ((k49129 : Int))), (19, .int .i64 ((-1))), (86, .int .i64 ((s1.Tracks.length : Int))), (87, .int .i64 ((k49129 : Int)))]) ⟨rfl, rfl, rfl, rfl, rfl, rfl, rfl, rfl, rfl, rfl, trivial⟩ (.refl _) ⟨hs49120, A49124, c49125, hs49123, rfl, rfl, (Base.Le.refl _), h49121, h49126⟩ ?_
           rintro ⟨x51517, l51518, l51519⟩ b51507 _ _ oL50565 ⟨hs51510, A51514, c51515, hs51513, rfl, rfl, hle51508, h51511, h51516⟩ hstepL50565 houtL50565
           unfold mFleetShunt_L50565 at hstepL50565
           have hm := (unc3E hstepL50565)
           refine c_seq ?_
           refine c_sr ?_
           refine t_mv rfl rfl ?_
           refine t_st rfl (st_field rfl fld63_1) ?_
           refine t_st rfl (st_load 0 rfl one26 rfl rfl) ?_
           refine t_st rfl (st_len rfl sl26) ?_
           refine t_st rfl (st_lss rfl rfl) ?_
           refine t_ne ?_
           refine c_cond _ rfl (fun hc51520 => ?_) (fun hc51520 => ?_)
           ·
            rw [if_pos (of_decide_eq_true hc51520)] at hm
            refine c_skip ?_
            refine x_then_normal ?_
            obtain ⟨⟨l51756, l51757⟩, hj51758, hk51758⟩ := bindS hm
            refine c_join (fun b51746 e' hp' => ∃ (hs51749 : Hp), ∃ (A51753 : Option Addr), ∃ (c51754 : Nat), ∃ (hs51752 : Hp), [(2, .slice A12 (l15).length c13), (3, .pointer (some ⟨g26003, 0, none⟩)), (4, .pointer (some ⟨g26004, 0, none⟩)), (14, .map (some g26107)), (15, .pointer (some ⟨g26119, 0, none⟩)), (16, .pointer (some ⟨g43396, 0, none⟩)), (18, .int .i64 ((k49129 : Int))), (19, .int .i64 (x51517)), (86, .int .i64 ((s1.Tracks.length : Int))), (87, .int .i64 ((k49129 : Int)))] = e' ∧ (g26003, Cl 63 [.slice A2 (s1.Room).length c3, .slice A5 (s1.Tracks).length c6]) :: (g26004, Cl 45 [.slice A8 (l11).length c9]) :: (g26119, Cl 119 [.slice A51753 (l51757).length c51754]) :: (g43396, Cl 122 [.slice A43383 (l43374).length c43384, .slice A43385 (l43375).length c43386, .int .i64 (x43376), .slice A43387 (l43377).length c43388]) :: (hs51749 ++ (hs51752 ++ R)) = hp' ∧ b51507.Le b51746 ∧ OM (RT.arr 4 (RT.arr 4 (RT.int .i64))) (OT.fr RT.bool) true false b51746.w g26107 l51756 hs51749 ∧ OS 122 (OT.fr rFleetTry) b51746.w (.slice A51753 l51757.length c51754) l51757 hs51752) ?_ ?_
            ·
             have hm := hj51758
             refine c_block ?_
             refine c_sr ?_
             refine t_mv rfl rfl ?_
             refine t_mv rfl rfl ?_
             refine t_st rfl (st_build (v := .agg #[.int .i64 ((k49129 : Int)), .int .i64 (x51517)]) [(0, .int .i64 ((k49129 : Int))), (1, .int .i64 (x51517))] rfl (fun _ => by kernel_rfl)) ?_
             refine t_do rfl (u_alloc [.int .i64 0, .int .i64 0] zero126 rfl) ?_
             rintro _ _ ⟨g51759, rfl, rfl⟩
             refine t_do rfl (u_storeN (vs := [_, _]) 0 2 rfl rfl rfl siz126 rfl (mem_c rfl (mem_c rfl mem_n)) rfl (by simp)) ?_
             rintro _ _ rfl
             refine t_ne ?_
             refine c_sr ?_
             refine t_st rfl (st_field rfl fld122_0) ?_
             refine t_st rfl (st_loadD (vs := [_, _]) 4 2 rfl agg63 rfl rfl rfl) ?_
             refine t_st rfl (st_loadD (vs := [_, _]) 0 2 rfl agg126 rfl rfl rfl) ?_
             obtain ⟨⟨x51760, x51761, l51762, l51763⟩, hcl51764, hm⟩ := bindS hm
             have hm := (unc4E hm)
             refine t_callG _ rfl call64 rfl (cFleetDo _ _ (⟨l43374, l43375⟩ : FleetDepot) (⟨(k49129 : Int), x51517⟩ : FleetMove) A43383 c43384 A43385 c43386 (h43392.le (hle49118.trans hle51508)) (h43393.le (hle49118.trans hle51508)) x51760 x51761 l51762 l51763 hcl51764) ?_
             rintro _ b51765 _ hle51766 ⟨A51767, c51768, hs51769, A51770, c51771, hs51772, rfl, rfl, h51773, h51774, h51775⟩
             refine t_in2 [] [_, _, _, _, _] hs51769 hs51772 (hs51510 ++ (hs51513 ++ R)) rfl ?_
             refine t_mv rfl rfl ?_
             refine t_st rfl (st_extract rfl rfl) ?_
             refine t_st rfl (st_extract rfl rfl) ?_
             refine t_st rfl (st_extract rfl rfl) ?_
             refine t_do rfl (u_alloc [.slice none 0 0, .slice none 0 0] zero63 rfl) ?_
             rintro _ _ ⟨g51776, rfl, rfl⟩
             refine t_do rfl (u_storeN (vs := [_, _]) 0 2 rfl rfl rfl siz63 rfl (mem_c rfl (mem_c rfl mem_n)) rfl (by simp)) ?_
             rintro _ _ rfl
             refine t_as rfl rfl ?_
             refine t_as rfl rfl ?_
             refine t_ne ?_
             refine c_seq ?_
             obtain ⟨x51823, hj51824, hk51824⟩ := bindS hm
             refine c_join (fun b51821 e' hp' => [(2, .slice A12 (l15).length c13), (3, .pointer (some ⟨g26003, 0, none⟩)), (4, .pointer (some ⟨g26004, 0, none⟩)), (14, .map (some g26107)), (15, .pointer (some ⟨g26119, 0, none⟩)), (16, .pointer (some ⟨g43396, 0, none⟩)), (18, .int .i64 ((k49129 : Int))), (19, .int .i64 (x51517)), (20, .pointer (some ⟨g51759, 0, none⟩)), (21, .pointer (some ⟨g51776, 0, none⟩)), (86, .int .i64 ((s1.Tracks.length : Int))), (87, .int .i64 ((k49129 : Int))), (125, .bool (x51823))] = e' ∧ (g26003, Cl 63 [.slice A2 (s1.Room).length c3, .slice A5 (s1.Tracks).length c6]) :: (g26004, Cl 45 [.slice A8 (l11).length c9]) :: (g26119, Cl 119 [.slice A51514 (l51519).length c51515]) :: (g43396, Cl 122 [.slice A43383 (l43374).length c43384, .slice A43385 (l43375).length c43386, .int .i64 (x43376), .slice A43387 (l43377).length c43388]) :: (g51759, Cl 126 [.int .i64 ((k49129 : Int)), .int .i64 (x51517)]) :: (g51776, Cl 63 [.slice A51767 (l51762).length c51768, .slice A51770 (l51763).length c51771]) :: (hs51510 ++ (hs51513 ++ (hs51769 ++ (hs51772 ++ R)))) = hp' ∧ b51765.Le b51821) ?_ ?_
             ·
              have hm := hj51824
              by_cases hc51847 : x51761 ≠ 0
              ·
               rw [if_pos hc51847] at hm
               refine D_drawI mixed (.refl _) ?_
               refine E_st 0 rfl (st_move rfl) ?_
               refine E_st 1 rfl (st_neq_t rfl rfl hc51847) ?_
               refine E_st 2 rfl (st_move rfl) ?_
               refine E_no 3 110 rfl rfl rfl ?_
               refine E_no 4 110 rfl rfl rfl ?_
               refine E_no 5 110 rfl rfl rfl ?_
               refine E_no 6 113 rfl rfl rfl ?_
               refine E_no 7 113 rfl rfl rfl ?_
               refine E_no 8 113 rfl rfl rfl ?_
               refine E_no 9 113 rfl rfl rfl ?_
               refine E_no 10 113 rfl rfl rfl ?_
               refine E_no 11 113 rfl rfl rfl ?_
               refine E_no 12 113 rfl rfl rfl ?_
               refine E_no 13 113 rfl rfl rfl ?_
               refine E_no 14 113 rfl rfl rfl ?_
               refine E_no 15 113 rfl rfl rfl ?_
               refine E_no 16 110 rfl rfl rfl ?_
               refine E_st 17 rfl (st_pick_t rfl rfl) ?_
               refine E_out ?_
               refine D_done (by kernel_rfl) ?_
               obtain rfl := some1 hm
               refine x_pullb 1 rfl ?_
               refine x_pullb 5 rfl ?_
               refine x_pullb 5 rfl ?_
               refine x_pullb 5 rfl ?_
               refine x_pullb 5 rfl ?_
               refine x_front2 [_, _, _, _, _, _] hs51769 hs51772 (hs51510 ++ (hs51513 ++ R)) rfl ?_
               refine x_front2 [_, _, _, _, _, _] hs51772 hs51769 (hs51510 ++ (hs51513 ++ R)) rfl ?_
               refine x_front4 [_, _, _, _, _, _] hs51769 hs51772 hs51510 hs51513 R rfl ?_
               refine x_front4 [_, _, _, _, _, _] hs51513 hs51769 hs51772 hs51510 R rfl ?_
               exact x_join (e' := [(2, .slice A12 (l15).length c13), (3, .pointer (some ⟨g26003, 0, none⟩)), (4, .pointer (some ⟨g26004, 0, none⟩)), (14, .map (some g26107)), (15, .pointer (some ⟨g26119, 0, none⟩)), (16, .pointer (some ⟨g43396, 0, none⟩)), (18, .int .i64 ((k49129 : Int))), (19, .int .i64 (x51517)), (20, .pointer (some ⟨g51759, 0, none⟩)), (21, .pointer (some ⟨g51776, 0, none⟩)), (86, .int .i64 ((s1.Tracks.length : Int))), (87, .int .i64 ((k49129 : Int))), (125, .bool (true))]) ⟨rfl, rfl, rfl, rfl, rfl, rfl, rfl, rfl, rfl, rfl, rfl, rfl, rfl, trivial⟩ (.refl _) ⟨rfl, rfl, (Base.Le.refl _)⟩
              ·
               rw [if_neg hc51847] at hm
               by_cases hc51848 : x51517 < 0
               ·
                rw [if_pos hc51848] at hm
                obtain ⟨x51849, h51850, hm⟩ := bindS hm
                obtain ⟨x51859, h51860, hm⟩ := bindS hm
                refine D_drawI mixed (.refl _) ?_
                refine E_st 0 rfl (st_move rfl) ?_
                refine E_st 1 rfl (st_neq_f rfl rfl hc51847) ?_
                refine E_st 2 rfl (st_move rfl) ?_
                refine E_yes 3 110 rfl (st_move rfl) ?_
                refine E_yes 4 110 rfl (st_lss_t rfl rfl hc51848) ?_
                refine E_yes 5 110 rfl (st_move rfl) ?_
                refine E_yes 6 113 rfl (st_load 3 rfl one45 rfl rfl) ?_
                refine E_yes 7 113 rfl (st_move rfl) ?_
                obtain ⟨j51851, hj51852, hx51853⟩ := idx_some h51850
                obtain ⟨cs51854, hr51855, hcs51856, hA51857, hlt51858⟩ := FZ.get (sz := 1) rfl (by decide) (h10.le (hle26040.trans (hle26081.trans (hle26113.trans (hle26123.trans (hle43363.trans (hle43382.trans (hle49118.trans (hle51508.trans hle51766))))))))) hx51853
                obtain rfl := hr51855
                refine E_yes 8 113 rfl (st_index_old j51851 rfl rfl hj51852 hlt51858 hA51857 sl45) ?_
                refine E_yes 9 113 rfl (st_load_old rfl one3 (hcs51856 0 _ rfl)) ?_
                refine E_yes 10 113 rfl (st_move rfl) ?_
                refine E_yes 11 113 rfl (st_field rfl fld122_1) ?_
                refine E_yes 12 113 rfl (st_load 5 rfl one3 rfl rfl) ?_
                obtain ⟨j51861, hj51862, hx51863⟩ := idx_some h51860
                obtain ⟨cs51864, hr51865, hcs51866, hA51867, hlt51868⟩ := FZ.get (sz := 1) rfl (by decide) (h14.le (hle26040.trans (hle26081.trans (hle26113.trans (hle26123.trans (hle43363.trans (hle43382.trans (hle49118.trans (hle51508.trans hle51766))))))))) hx51863
                obtain rfl := hr51865
                refine E_yes 13 113 rfl (st_index_old j51861 rfl rfl hj51862 hlt51868 hA51867 sl45) ?_
                refine E_yes 14 113 rfl (st_load_old rfl one3 (hcs51866 0 _ rfl)) ?_
                refine E_yes 15 113 rfl (st_neq rfl rfl) ?_
                refine E_yes 16 110 rfl (st_pick_t rfl rfl) ?_
                refine E_st 17 rfl (st_pick_f rfl rfl) ?_
                refine E_out ?_
                refine D_done (by kernel_rfl) ?_
                obtain rfl := some1 hm
                refine x_pullb 1 rfl ?_
                refine x_pullb 5 rfl ?_
                refine x_pullb 5 rfl ?_
                refine x_pullb 5 rfl ?_
                refine x_pullb 5 rfl ?_
                refine x_front2 [_, _, _, _, _, _] hs51769 hs51772 (hs51510 ++ (hs51513 ++ R)) rfl ?_
                refine x_front2 [_, _, _, _, _, _] hs51772 hs51769 (hs51510 ++ (hs51513 ++ R)) rfl ?_
                refine x_front4 [_, _, _, _, _, _] hs51769 hs51772 hs51510 hs51513 R rfl ?_
                refine x_front4 [_, _, _, _, _, _] hs51513 hs51769 hs51772 hs51510 R rfl ?_
                exact x_join (e' := [(2, .slice A12 (l15).length c13), (3, .pointer (some ⟨g26003, 0, none⟩)), (4, .pointer (some ⟨g26004, 0, none⟩)), (14, .map (some g26107)), (15, .pointer (some ⟨g26119, 0, none⟩)), (16, .pointer (some ⟨g43396, 0, none⟩)), (18, .int .i64 ((k49129 : Int))), (19, .int .i64 (x51517)), (20, .pointer (some ⟨g51759, 0, none⟩)), (21, .pointer (some ⟨g51776, 0, none⟩)), (86, .int .i64 ((s1.Tracks.length : Int))), (87, .int .i64 ((k49129 : Int))), (125, .bool (decide (x51849 ≠ x51859)))]) ⟨rfl, rfl, rfl, rfl, rfl, rfl, rfl, rfl, rfl, rfl, rfl, rfl, rfl, trivial⟩ (.refl _) ⟨rfl, rfl, (Base.Le.refl _)⟩
               ·
                rw [if_neg hc51848] at hm
                refine D_drawI mixed (.refl _) ?_
                refine E_st 0 rfl (st_move rfl) ?_
                refine E_st 1 rfl (st_neq_f rfl rfl hc51847) ?_
                refine E_st 2 rfl (st_move rfl) ?_
                refine E_yes 3 110 rfl (st_move rfl) ?_
                refine E_yes 4 110 rfl (st_lss_f rfl rfl hc51848) ?_
                refine E_yes 5 110 rfl (st_move rfl) ?_
                refine E_no 6 113 rfl rfl rfl ?_
                refine E_no 7 113 rfl rfl rfl ?_
                refine E_no 8 113 rfl rfl rfl ?_
                refine E_no 9 113 rfl rfl rfl ?_
                refine E_no 10 113 rfl rfl rfl ?_
                refine E_no 11 113 rfl rfl rfl ?_
                refine E_no 12 113 rfl rfl rfl ?_
                refine E_no 13 113 rfl rfl rfl ?_
                refine E_no 14 113 rfl rfl rfl ?_
                refine E_no 15 113 rfl rfl rfl ?_
                refine E_yes 16 110 rfl (st_pick_f rfl rfl) ?_
                refine E_st 17 rfl (st_pick_f rfl rfl) ?_
                refine E_out ?_
                refine D_done (by kernel_rfl) ?_
                obtain rfl := some1 hm
                refine x_pullb 1 rfl ?_
                refine x_pullb 5 rfl ?_
                refine x_pullb 5 rfl ?_
                refine x_pullb 5 rfl ?_
                refine x_pullb 5 rfl ?_
                refine x_front2 [_, _, _, _, _, _] hs51769 hs51772 (hs51510 ++ (hs51513 ++ R)) rfl ?_
                refine x_front2 [_, _, _, _, _, _] hs51772 hs51769 (hs51510 ++ (hs51513 ++ R)) rfl ?_
                refine x_front4 [_, _, _, _, _, _] hs51769 hs51772 hs51510 hs51513 R rfl ?_
                refine x_front4 [_, _, _, _, _, _] hs51513 hs51769 hs51772 hs51510 R rfl ?_
                exact x_join (e' := [(2, .slice A12 (l15).length c13), (3, .pointer (some ⟨g26003, 0, none⟩)), (4, .pointer (some ⟨g26004, 0, none⟩)), (14, .map (some g26107)), (15, .pointer (some ⟨g26119, 0, none⟩)), (16, .pointer (some ⟨g43396, 0, none⟩)), (18, .int .i64 ((k49129 : Int))), (19, .int .i64 (x51517)), (20, .pointer (some ⟨g51759, 0, none⟩)), (21, .pointer (some ⟨g51776, 0, none⟩)), (86, .int .i64 ((s1.Tracks.length : Int))), (87, .int .i64 ((k49129 : Int))), (125, .bool (false))]) ⟨rfl, rfl, rfl, rfl, rfl, rfl, rfl, rfl, rfl, rfl, rfl, rfl, rfl, trivial⟩ (.refl _) ⟨rfl, rfl, (Base.Le.refl _)⟩
             ·
              rintro b51821 _ _ ⟨rfl, rfl, hle51822⟩
              have hm := hk51824
              refine c_cond _ rfl (fun hc51869 => ?_) (fun hc51869 => ?_)
              ·
               rw [if_pos hc51869] at hm
               refine c_exit ?_
               refine x_then_exit ?_
               refine x_block_out ?_
               obtain ⟨rfl, rfl⟩ := some2 hm
               refine x_pullb 3 rfl ?_
               refine x_pullb 3 rfl ?_
               refine x_pullb 3 rfl ?_
               refine x_pullb 3 rfl ?_
               refine x_front2 [_, _, _, _, _, _] hs51510 hs51513 (hs51769 ++ (hs51772 ++ R)) rfl ?_
               refine x_front2 [_, _, _, _, _, _] hs51513 hs51510 (hs51769 ++ (hs51772 ++ R)) rfl ?_
               exact x_join (e' := [(2, .slice A12 (l15).length c13), (3, .pointer (some ⟨g26003, 0, none⟩)), (4, .pointer (some ⟨g26004, 0, none⟩)), (14, .map (some g26107)), (15, .pointer (some ⟨g26119, 0, none⟩)), (16, .pointer (some ⟨g43396, 0, none⟩)), (18, .int .i64 ((k49129 : Int))), (19, .int .i64 (x51517)), (86, .int .i64 ((s1.Tracks.length : Int))), (87, .int .i64 ((k49129 : Int)))]) ⟨rfl, rfl, rfl, rfl, rfl, rfl, rfl, rfl, rfl, rfl, trivial⟩ (.cons_cons _ (.cons_cons _ (.cons_cons _ (.cons_cons _ (.cons _ (.cons _ (sub_app hs51510 (sub_app hs51513 (sub_skip hs51769 (sub_skip hs51772 (.refl _))))))))))) ⟨hs51510, A51514, c51515, hs51513, rfl, rfl, (hle51766.trans hle51822), (h51511.le (hle51766.trans hle51822)), (h51516.le (hle51766.trans hle51822))⟩
              ·
               rw [if_neg (fun hh => Bool.noConfusion (hh.symm.trans hc51869))] at hm
               refine c_skip ?_
               refine x_then_normal ?_
               obtain ⟨l51908, hj51910, hk51910⟩ := bindS hm
               refine c_join (fun b51900 e' hp' => ∃ (g51907 : Nat), ∃ (A51904 : Option Addr), ∃ (c51905 : Nat), ∃ (hs51903 : Hp), [(2, .slice A12 (l15).length c13), (3, .pointer (some ⟨g26003, 0, none⟩)), (4, .pointer (some ⟨g26004, 0, none⟩)), (14, .map (some g26107)), (15, .pointer (some ⟨g26119, 0, none⟩)), (16, .pointer (some ⟨g43396, 0, none⟩)), (18, .int .i64 ((k49129 : Int))), (19, .int .i64 (x51517)), (21, .pointer (some ⟨g51776, 0, none⟩)), (24, .pointer (some ⟨g51907, 0, none⟩)), (86, .int .i64 ((s1.Tracks.length : Int))), (87, .int .i64 ((k49129 : Int)))] = e' ∧ (g26003, Cl 63 [.slice A2 (s1.Room).length c3, .slice A5 (s1.Tracks).length c6]) :: (g26004, Cl 45 [.slice A8 (l11).length c9]) :: (g26119, Cl 119 [.slice A51514 (l51519).length c51515]) :: (g43396, Cl 122 [.slice A43383 (l43374).length c43384, .slice A43385 (l43375).length c43386, .int .i64 (x43376), .slice A43387 (l43377).length c43388]) :: (g51776, Cl 63 [.slice A51767 (l51762).length c51768, .slice A51770 (l51763).length c51771]) :: (g51907, Cl 122 [.slice A51767 (l51762).length c51768, .slice A51770 (l51763).length c51771, .int .i64 (x43376), .slice A51904 (l51908).length c51905]) :: (hs51510 ++ (hs51513 ++ (hs51769 ++ (hs51772 ++ (hs51903 ++ R))))) = hp' ∧ b51821.Le b51900 ∧ OS 126 (OT.fr rFleetMove) b51900.w (.slice A51904 l51908.length c51905) l51908 hs51903 ∧ (A51904 = none ↔ l51908 = [])) ?_ ?_
               ·
                have hm := hj51910
                obtain ⟨l51926, hcl51927, hm⟩ := bindS hm
                obtain ⟨_, h51935, hm⟩ := bindS hm
                refine D_drawI mixed (.refl _) ?_
                refine E_st 0 rfl (st_loadD (vs := [_, _]) 5 2 rfl agg63 rfl rfl rfl) ?_
                refine E_st 1 rfl (st_field rfl fld122_1) ?_
                refine E_st 2 rfl (st_load 3 rfl one3 rfl rfl) ?_
                refine E_st 3 rfl (st_field rfl fld122_2) ?_
                refine E_st 4 rfl (st_load 3 rfl one65 rfl rfl) ?_
                refine E_st 6 rfl (st_loadD (vs := [_, _]) 4 2 rfl agg126 rfl rfl rfl) ?_
                refine E_out ?_
                refine D_all [5, 7, 10] (by kernel_rfl) rfl ?_
                refine R_callGl (Base.Le.refl _) rfl rfl _ call65 rfl (cSlicesClone_2 _ _ l43377 A43387 c43388 (h43394.le (hle49118.trans (hle51508.trans (hle51766.trans hle51822)))) l51926 hcl51927) ?_ ?_
                ·
                 rintro _ b51928 _ hle51929 ⟨A51930, c51931, hs51932, rfl, rfl, h51933⟩
                 refine ⟨.inr (sub_skip hs51932 (.refl _)), ?_⟩
                 refine d_in1 [] [_, _, _, _, _, _] hs51932 (hs51510 ++ (hs51513 ++ (hs51769 ++ (hs51772 ++ R)))) rfl ?_
                 refine D_all [7, 10] (by kernel_rfl) rfl ?_
                 refine R_do hle51929 rfl rfl (u_bslice (el := 126) [(0, .agg #[.int .i64 ((k49129 : Int)), .int .i64 (x51517)])] [.int .i64 ((k49129 : Int)), .int .i64 (x51517)] rfl (fun _ => by kernel_rfl)) ?_ ?_
                 ·
                  rintro _ _ ⟨g51934, rfl, rfl⟩
                  refine ⟨.inr (.cons _ (.cons_cons _ (.cons_cons _ (.cons_cons _ (.cons_cons _ (.cons_cons _ (.cons_cons _ (sub_skip hs51932 (.refl _))))))))), ?_⟩
                  have h51935 := room_some h51935
                  refine D_all [8, 10] (by kernel_rfl) rfl ?_
                  refine R_do hle51929 rfl rfl (u_appOS (r := rFleetMove) (l := l51926) [_, _, _, _, _, _, _] (hs51510 ++ (hs51513 ++ (hs51769 ++ (hs51772 ++ R)))) [[.int .i64 ((k49129 : Int)), .int .i64 (x51517)]] [(⟨(k49129 : Int), x51517⟩ : FleetMove)] rfl (by decide) sl65 inf126 rfl rfl rfl rfl h51933 rfl (fun w ho => Rd.own (i := 0) ho rfl) ⟨⟨[.int .i64 ((k49129 : Int))], _, rfl, rfl, rfl⟩, trivial⟩ h51935) ?_ ?_
                  ·
                   rintro _ _ ⟨hs51936, rfl, h51937⟩
                   obtain ⟨A51938, c51939, rfl, _⟩ := h51937.form
                   refine ⟨.inr (.cons _ (.cons_cons _ (.cons_cons _ (.cons_cons _ (.cons_cons _ (.cons_cons _ (.cons_cons _ (sub_skip hs51936 (.refl _))))))))), ?_⟩
                   refine D_all [9, 10] (by kernel_rfl) rfl ?_
                   refine R_do hle51929 rfl rfl (Stable.does (st_build (v := .agg #[.slice A51767 (l51762).length c51768, .slice A51770 (l51763).length c51771, .int .i64 (x43376), .slice A51938 (l51926 ++ [(⟨(k49129 : Int), x51517⟩ : FleetMove)]).length c51939]) [(0, .agg #[.slice A51767 (l51762).length c51768, .slice A51770 (l51763).length c51771]), (1, .int .i64 (x43376)), (2, .slice A51938 (l51926 ++ [(⟨(k49129 : Int), x51517⟩ : FleetMove)]).length c51939)] rfl (fun _ => by kernel_rfl))) ?_ ?_
                   ·
                    rintro _ _ ⟨rfl, rfl⟩
                    refine ⟨.inr (.cons _ (.cons_cons _ (.cons_cons _ (.cons_cons _ (.cons_cons _ (.cons_cons _ (.cons_cons _ (sub_skip hs51936 (.refl _))))))))), ?_⟩
                    refine D_all [10] (by kernel_rfl) rfl ?_
                    refine R_do hle51929 rfl rfl (u_alloc [.slice none 0 0, .slice none 0 0, .int .i64 0, .slice none 0 0] zero122 rfl) ?_ ?_
                    ·
                     rintro _ _ ⟨g51940, rfl, rfl⟩
                     refine ⟨.inr (.cons _ (.cons _ (.cons_cons _ (.cons_cons _ (.cons_cons _ (.cons_cons _ (.cons_cons _ (.cons_cons _ (sub_skip hs51936 (.refl _)))))))))), ?_⟩
                     refine D_all [11] (by kernel_rfl) rfl ?_
                     refine R_do hle51929 rfl rfl (u_storeN (vs := [_, _, _, _]) 0 4 rfl rfl rfl siz122 rfl (mem_c rfl (mem_c rfl (mem_c rfl (mem_c rfl mem_n)))) rfl (by simp)) ?_ ?_
                     ·
                      rintro _ _ rfl
                      refine ⟨.inl (by kernel_rfl), ?_⟩
                      refine D_done (by kernel_rfl) ?_
                      obtain rfl := some1 hm
                      refine x_pullb 7 rfl ?_
                      refine x_pullb 6 rfl ?_
                      refine x_pullb 6 rfl ?_
                      refine x_pullb 6 rfl ?_
                      refine x_pullb 6 rfl ?_
                      refine x_front5 [_, _, _, _, _, _, _, _] hs51936 hs51510 hs51513 hs51769 hs51772 R rfl ?_
                      refine x_front5 [_, _, _, _, _, _, _, _] hs51772 hs51936 hs51510 hs51513 hs51769 R rfl ?_
                      refine x_front5 [_, _, _, _, _, _, _, _] hs51769 hs51772 hs51936 hs51510 hs51513 R rfl ?_
                      refine x_front5 [_, _, _, _, _, _, _, _] hs51513 hs51769 hs51772 hs51936 hs51510 R rfl ?_
                      exact x_join (e' := [(2, .slice A12 (l15).length c13), (3, .pointer (some ⟨g26003, 0, none⟩)), (4, .pointer (some ⟨g26004, 0, none⟩)), (14, .map (some g26107)), (15, .pointer (some ⟨g26119, 0, none⟩)), (16, .pointer (some ⟨g43396, 0, none⟩)), (18, .int .i64 ((k49129 : Int))), (19, .int .i64 (x51517)), (21, .pointer (some ⟨g51776, 0, none⟩)), (24, .pointer (some ⟨g51940, 0, none⟩)), (86, .int .i64 ((s1.Tracks.length : Int))), (87, .int .i64 ((k49129 : Int)))]) ⟨rfl, rfl, rfl, rfl, rfl, rfl, rfl, rfl, rfl, rfl, rfl, rfl, trivial⟩ (.cons_cons _ (.cons_cons _ (.cons_cons _ (.cons_cons _ (.cons_cons _ (.cons_cons _ (.cons _ (.cons _ (.refl _))))))))) ⟨g51940, A51938, c51939, hs51936, rfl, rfl, hle51929, h51937, (OS.nz h51937 (by simp))⟩
                     exact R_nil
                    exact R_nil
                   refine R_do hle51929 rfl rfl (u_alloc [.slice none 0 0, .slice none 0 0, .int .i64 0, .slice none 0 0] zero122 rfl) ?_ ?_
                   ·
                    rintro _ _ ⟨g51940, rfl, rfl⟩
                    refine ⟨.inr (.cons _ (.cons _ (.cons_cons _ (.cons_cons _ (.cons_cons _ (.cons_cons _ (.cons_cons _ (.cons_cons _ (sub_skip hs51936 (.refl _)))))))))), ?_⟩
                    refine D_all [9] (by kernel_rfl) rfl ?_
                    refine R_do hle51929 rfl rfl (Stable.does (st_build (v := .agg #[.slice A51767 (l51762).length c51768, .slice A51770 (l51763).length c51771, .int .i64 (x43376), .slice A51938 (l51926 ++ [(⟨(k49129 : Int), x51517⟩ : FleetMove)]).length c51939]) [(0, .agg #[.slice A51767 (l51762).length c51768, .slice A51770 (l51763).length c51771]), (1, .int .i64 (x43376)), (2, .slice A51938 (l51926 ++ [(⟨(k49129 : Int), x51517⟩ : FleetMove)]).length c51939)] rfl (fun _ => by kernel_rfl))) ?_ ?_
                    ·
                     rintro _ _ ⟨rfl, rfl⟩
                     refine ⟨.inr (.cons _ (.cons _ (.cons_cons _ (.cons_cons _ (.cons_cons _ (.cons_cons _ (.cons_cons _ (.cons_cons _ (sub_skip hs51936 (.refl _)))))))))), ?_⟩
                     refine D_all [11] (by kernel_rfl) rfl ?_
                     refine R_do hle51929 rfl rfl (u_storeN (vs := [_, _, _, _]) 0 4 rfl rfl rfl siz122 rfl (mem_c rfl (mem_c rfl (mem_c rfl (mem_c rfl mem_n)))) rfl (by simp)) ?_ ?_
                     ·
                      rintro _ _ rfl
                      refine ⟨.inl (by kernel_rfl), ?_⟩
                      refine D_done (by kernel_rfl) ?_
                      obtain rfl := some1 hm
                      refine x_pullb 7 rfl ?_
                      refine x_pullb 6 rfl ?_
                      refine x_pullb 6 rfl ?_
                      refine x_pullb 6 rfl ?_
                      refine x_pullb 6 rfl ?_
                      refine x_front5 [_, _, _, _, _, _, _, _] hs51936 hs51510 hs51513 hs51769 hs51772 R rfl ?_
                      refine x_front5 [_, _, _, _, _, _, _, _] hs51772 hs51936 hs51510 hs51513 hs51769 R rfl ?_
                      refine x_front5 [_, _, _, _, _, _, _, _] hs51769 hs51772 hs51936 hs51510 hs51513 R rfl ?_
                      refine x_front5 [_, _, _, _, _, _, _, _] hs51513 hs51769 hs51772 hs51936 hs51510 R rfl ?_
                      exact x_join (e' := [(2, .slice A12 (l15).length c13), (3, .pointer (some ⟨g26003, 0, none⟩)), (4, .pointer (some ⟨g26004, 0, none⟩)), (14, .map (some g26107)), (15, .pointer (some ⟨g26119, 0, none⟩)), (16, .pointer (some ⟨g43396, 0, none⟩)), (18, .int .i64 ((k49129 : Int))), (19, .int .i64 (x51517)), (21, .pointer (some ⟨g51776, 0, none⟩)), (24, .pointer (some ⟨g51940, 0, none⟩)), (86, .int .i64 ((s1.Tracks.length : Int))), (87, .int .i64 ((k49129 : Int)))]) ⟨rfl, rfl, rfl, rfl, rfl, rfl, rfl, rfl, rfl, rfl, rfl, rfl, trivial⟩ (.cons_cons _ (.cons_cons _ (.cons_cons _ (.cons_cons _ (.cons_cons _ (.cons_cons _ (.cons _ (.cons _ (.refl _))))))))) ⟨g51940, A51938, c51939, hs51936, rfl, rfl, hle51929, h51937, (OS.nz h51937 (by simp))⟩
                     exact R_nil
                    exact R_nil
                   exact R_nil
                  refine R_do hle51929 rfl rfl (u_alloc [.slice none 0 0, .slice none 0 0, .int .i64 0, .slice none 0 0] zero122 rfl) ?_ ?_
                  ·
                   rintro _ _ ⟨g51940, rfl, rfl⟩
                   refine ⟨.inr (.cons _ (.cons _ (.cons_cons _ (.cons_cons _ (.cons_cons _ (.cons_cons _ (.cons_cons _ (.cons_cons _ (sub_skip hs51932 (.refl _)))))))))), ?_⟩
                   refine D_all [8] (by kernel_rfl) rfl ?_
                   refine R_do hle51929 rfl rfl (u_appOS (r := rFleetMove) (l := l51926) [_, _, _, _, _, _, _, _] (hs51510 ++ (hs51513 ++ (hs51769 ++ (hs51772 ++ R)))) [[.int .i64 ((k49129 : Int)), .int .i64 (x51517)]] [(⟨(k49129 : Int), x51517⟩ : FleetMove)] rfl (by decide) sl65 inf126 rfl rfl rfl rfl h51933 rfl (fun w ho => Rd.own (i := 1) ho rfl) ⟨⟨[.int .i64 ((k49129 : Int))], _, rfl, rfl, rfl⟩, trivial⟩ h51935) ?_ ?_
                   ·
                    rintro _ _ ⟨hs51936, rfl, h51937⟩
                    obtain ⟨A51938, c51939, rfl, _⟩ := h51937.form
                    refine ⟨.inr (.cons _ (.cons _ (.cons_cons _ (.cons_cons _ (.cons_cons _ (.cons_cons _ (.cons_cons _ (.cons_cons _ (sub_skip hs51936 (.refl _)))))))))), ?_⟩
                    refine D_all [9] (by kernel_rfl) rfl ?_
                    refine R_do hle51929 rfl rfl (Stable.does (st_build (v := .agg #[.slice A51767 (l51762).length c51768, .slice A51770 (l51763).length c51771, .int .i64 (x43376), .slice A51938 (l51926 ++ [(⟨(k49129 : Int), x51517⟩ : FleetMove)]).length c51939]) [(0, .agg #[.slice A51767 (l51762).length c51768, .slice A51770 (l51763).length c51771]), (1, .int .i64 (x43376)), (2, .slice A51938 (l51926 ++ [(⟨(k49129 : Int), x51517⟩ : FleetMove)]).length c51939)] rfl (fun _ => by kernel_rfl))) ?_ ?_
                    ·
                     rintro _ _ ⟨rfl, rfl⟩
                     refine ⟨.inr (.cons _ (.cons _ (.cons_cons _ (.cons_cons _ (.cons_cons _ (.cons_cons _ (.cons_cons _ (.cons_cons _ (sub_skip hs51936 (.refl _)))))))))), ?_⟩
                     refine D_all [11] (by kernel_rfl) rfl ?_
                     refine R_do hle51929 rfl rfl (u_storeN (vs := [_, _, _, _]) 0 4 rfl rfl rfl siz122 rfl (mem_c rfl (mem_c rfl (mem_c rfl (mem_c rfl mem_n)))) rfl (by simp)) ?_ ?_
                     ·
                      rintro _ _ rfl
                      refine ⟨.inl (by kernel_rfl), ?_⟩
                      refine D_done (by kernel_rfl) ?_
                      obtain rfl := some1 hm
                      refine x_pullb 7 rfl ?_
                      refine x_pullb 6 rfl ?_
                      refine x_pullb 6 rfl ?_
                      refine x_pullb 6 rfl ?_
                      refine x_pullb 6 rfl ?_
                      refine x_front5 [_, _, _, _, _, _, _, _] hs51936 hs51510 hs51513 hs51769 hs51772 R rfl ?_
                      refine x_front5 [_, _, _, _, _, _, _, _] hs51772 hs51936 hs51510 hs51513 hs51769 R rfl ?_
                      refine x_front5 [_, _, _, _, _, _, _, _] hs51769 hs51772 hs51936 hs51510 hs51513 R rfl ?_
                      refine x_front5 [_, _, _, _, _, _, _, _] hs51513 hs51769 hs51772 hs51936 hs51510 R rfl ?_
                      exact x_join (e' := [(2, .slice A12 (l15).length c13), (3, .pointer (some ⟨g26003, 0, none⟩)), (4, .pointer (some ⟨g26004, 0, none⟩)), (14, .map (some g26107)), (15, .pointer (some ⟨g26119, 0, none⟩)), (16, .pointer (some ⟨g43396, 0, none⟩)), (18, .int .i64 ((k49129 : Int))), (19, .int .i64 (x51517)), (21, .pointer (some ⟨g51776, 0, none⟩)), (24, .pointer (some ⟨g51940, 0, none⟩)), (86, .int .i64 ((s1.Tracks.length : Int))), (87, .int .i64 ((k49129 : Int)))]) ⟨rfl, rfl, rfl, rfl, rfl, rfl, rfl, rfl, rfl, rfl, rfl, rfl, trivial⟩ (.cons_cons _ (.cons_cons _ (.cons_cons _ (.cons_cons _ (.cons_cons _ (.cons_cons _ (.cons _ (.cons _ (.refl _))))))))) ⟨g51940, A51938, c51939, hs51936, rfl, rfl, hle51929, h51937, (OS.nz h51937 (by simp))⟩
                     exact R_nil
                    exact R_nil
                   exact R_nil
                  exact R_nil
                 refine R_do hle51929 rfl rfl (u_alloc [.slice none 0 0, .slice none 0 0, .int .i64 0, .slice none 0 0] zero122 rfl) ?_ ?_
                 ·
                  rintro _ _ ⟨g51940, rfl, rfl⟩
                  refine ⟨.inr (.cons _ (.cons_cons _ (.cons_cons _ (.cons_cons _ (.cons_cons _ (.cons_cons _ (.cons_cons _ (sub_skip hs51932 (.refl _))))))))), ?_⟩
                  refine D_all [7] (by kernel_rfl) rfl ?_
                  refine R_do hle51929 rfl rfl (u_bslice (el := 126) [(0, .agg #[.int .i64 ((k49129 : Int)), .int .i64 (x51517)])] [.int .i64 ((k49129 : Int)), .int .i64 (x51517)] rfl (fun _ => by kernel_rfl)) ?_ ?_
                  ·
                   rintro _ _ ⟨g51934, rfl, rfl⟩
                   refine ⟨.inr (.cons _ (.cons _ (.cons_cons _ (.cons_cons _ (.cons_cons _ (.cons_cons _ (.cons_cons _ (.cons_cons _ (sub_skip hs51932 (.refl _)))))))))), ?_⟩
                   have h51935 := room_some h51935
                   refine D_all [8] (by kernel_rfl) rfl ?_
                   refine R_do hle51929 rfl rfl (u_appOS (r := rFleetMove) (l := l51926) [_, _, _, _, _, _, _, _] (hs51510 ++ (hs51513 ++ (hs51769 ++ (hs51772 ++ R)))) [[.int .i64 ((k49129 : Int)), .int .i64 (x51517)]] [(⟨(k49129 : Int), x51517⟩ : FleetMove)] rfl (by decide) sl65 inf126 rfl rfl rfl rfl h51933 rfl (fun w ho => Rd.own (i := 0) ho rfl) ⟨⟨[.int .i64 ((k49129 : Int))], _, rfl, rfl, rfl⟩, trivial⟩ h51935) ?_ ?_
                   ·
                    rintro _ _ ⟨hs51936, rfl, h51937⟩
                    obtain ⟨A51938, c51939, rfl, _⟩ := h51937.form
                    refine ⟨.inr (.cons _ (.cons _ (.cons_cons _ (.cons_cons _ (.cons_cons _ (.cons_cons _ (.cons_cons _ (.cons_cons _ (sub_skip hs51936 (.refl _)))))))))), ?_⟩
                    refine D_all [9] (by kernel_rfl) rfl ?_
                    refine R_do hle51929 rfl rfl (Stable.does (st_build (v := .agg #[.slice A51767 (l51762).length c51768, .slice A51770 (l51763).length c51771, .int .i64 (x43376), .slice A51938 (l51926 ++ [(⟨(k49129 : Int), x51517⟩ : FleetMove)]).length c51939]) [(0, .agg #[.slice A51767 (l51762).length c51768, .slice A51770 (l51763).length c51771]), (1, .int .i64 (x43376)), (2, .slice A51938 (l51926 ++ [(⟨(k49129 : Int), x51517⟩ : FleetMove)]).length c51939)] rfl (fun _ => by kernel_rfl))) ?_ ?_
                    ·
                     rintro _ _ ⟨rfl, rfl⟩
                     refine ⟨.inr (.cons _ (.cons _ (.cons_cons _ (.cons_cons _ (.cons_cons _ (.cons_cons _ (.cons_cons _ (.cons_cons _ (sub_skip hs51936 (.refl _)))))))))), ?_⟩
                     refine D_all [11] (by kernel_rfl) rfl ?_
                     refine R_do hle51929 rfl rfl (u_storeN (vs := [_, _, _, _]) 1 4 rfl rfl rfl siz122 rfl (mem_c rfl (mem_c rfl (mem_c rfl (mem_c rfl mem_n)))) rfl (by simp)) ?_ ?_
                     ·
                      rintro _ _ rfl
                      refine ⟨.inl (by kernel_rfl), ?_⟩
                      refine D_done (by kernel_rfl) ?_
                      obtain rfl := some1 hm
                      refine x_pullb 1 rfl ?_
                      refine x_pullb 7 rfl ?_
                      refine x_pullb 6 rfl ?_
                      refine x_pullb 6 rfl ?_
                      refine x_pullb 6 rfl ?_
                      refine x_pullb 6 rfl ?_
                      refine x_front5 [_, _, _, _, _, _, _, _] hs51936 hs51510 hs51513 hs51769 hs51772 R rfl ?_
                      refine x_front5 [_, _, _, _, _, _, _, _] hs51772 hs51936 hs51510 hs51513 hs51769 R rfl ?_
                      refine x_front5 [_, _, _, _, _, _, _, _] hs51769 hs51772 hs51936 hs51510 hs51513 R rfl ?_
                      refine x_front5 [_, _, _, _, _, _, _, _] hs51513 hs51769 hs51772 hs51936 hs51510 R rfl ?_
                      exact x_join (e' := [(2, .slice A12 (l15).length c13), (3, .pointer (some ⟨g26003, 0, none⟩)), (4, .pointer (some ⟨g26004, 0, none⟩)), (14, .map (some g26107)), (15, .pointer (some ⟨g26119, 0, none⟩)), (16, .pointer (some ⟨g43396, 0, none⟩)), (18, .int .i64 ((k49129 : Int))), (19, .int .i64 (x51517)), (21, .pointer (some ⟨g51776, 0, none⟩)), (24, .pointer (some ⟨g51940, 0, none⟩)), (86, .int .i64 ((s1.Tracks.length : Int))), (87, .int .i64 ((k49129 : Int)))]) ⟨rfl, rfl, rfl, rfl, rfl, rfl, rfl, rfl, rfl, rfl, rfl, rfl, trivial⟩ (.cons_cons _ (.cons_cons _ (.cons_cons _ (.cons_cons _ (.cons_cons _ (.cons_cons _ (.cons _ (.cons _ (.refl _))))))))) ⟨g51940, A51938, c51939, hs51936, rfl, rfl, hle51929, h51937, (OS.nz h51937 (by simp))⟩
                     exact R_nil
                    exact R_nil
                   exact R_nil
                  exact R_nil
                 exact R_nil
                refine R_do (Base.Le.refl _) rfl rfl (u_bslice (el := 126) [(0, .agg #[.int .i64 ((k49129 : Int)), .int .i64 (x51517)])] [.int .i64 ((k49129 : Int)), .int .i64 (x51517)] rfl (fun _ => by kernel_rfl)) ?_ ?_
                ·
                 rintro _ _ ⟨g51934, rfl, rfl⟩
                 refine ⟨.inr (.cons _ (.refl _)), ?_⟩
                 refine D_all [5, 10] (by kernel_rfl) rfl ?_
                 refine R_callGl (Base.Le.refl _) rfl rfl _ call65 rfl (cSlicesClone_2 _ _ l43377 A43387 c43388 (h43394.le (hle49118.trans (hle51508.trans (hle51766.trans hle51822)))) l51926 hcl51927) ?_ ?_
                 ·
                  rintro _ b51928 _ hle51929 ⟨A51930, c51931, hs51932, rfl, rfl, h51933⟩
                  refine ⟨.inr (sub_skip hs51932 (.cons _ (.refl _))), ?_⟩
                  refine d_in1 [] [_, _, _, _, _, _, _] hs51932 (hs51510 ++ (hs51513 ++ (hs51769 ++ (hs51772 ++ R)))) rfl ?_
                  have h51935 := room_some h51935
                  refine D_all [8, 10] (by kernel_rfl) rfl ?_
                  refine R_do hle51929 rfl rfl (u_appOS (r := rFleetMove) (l := l51926) [_, _, _, _, _, _, _] (hs51510 ++ (hs51513 ++ (hs51769 ++ (hs51772 ++ R)))) [[.int .i64 ((k49129 : Int)), .int .i64 (x51517)]] [(⟨(k49129 : Int), x51517⟩ : FleetMove)] rfl (by decide) sl65 inf126 rfl rfl rfl rfl h51933 rfl (fun w ho => Rd.own (i := 0) ho rfl) ⟨⟨[.int .i64 ((k49129 : Int))], _, rfl, rfl, rfl⟩, trivial⟩ h51935) ?_ ?_
                  ·
                   rintro _ _ ⟨hs51936, rfl, h51937⟩
                   obtain ⟨A51938, c51939, rfl, _⟩ := h51937.form
                   refine ⟨.inr (.cons _ (.cons_cons _ (.cons_cons _ (.cons_cons _ (.cons_cons _ (.cons_cons _ (.cons_cons _ (sub_skip hs51936 (.refl _))))))))), ?_⟩
                   refine D_all [9, 10] (by kernel_rfl) rfl ?_
                   refine R_do hle51929 rfl rfl (Stable.does (st_build (v := .agg #[.slice A51767 (l51762).length c51768, .slice A51770 (l51763).length c51771, .int .i64 (x43376), .slice A51938 (l51926 ++ [(⟨(k49129 : Int), x51517⟩ : FleetMove)]).length c51939]) [(0, .agg #[.slice A51767 (l51762).length c51768, .slice A51770 (l51763).length c51771]), (1, .int .i64 (x43376)), (2, .slice A51938 (l51926 ++ [(⟨(k49129 : Int), x51517⟩ : FleetMove)]).length c51939)] rfl (fun _ => by kernel_rfl))) ?_ ?_
                   ·
                    rintro _ _ ⟨rfl, rfl⟩
                    refine ⟨.inr (.cons _ (.cons_cons _ (.cons_cons _ (.cons_cons _ (.cons_cons _ (.cons_cons _ (.cons_cons _ (sub_skip hs51936 (.refl _))))))))), ?_⟩
                    refine D_all [10] (by kernel_rfl) rfl ?_
                    refine R_do hle51929 rfl rfl (u_alloc [.slice none 0 0, .slice none 0 0, .int .i64 0, .slice none 0 0] zero122 rfl) ?_ ?_
                    ·
                     rintro _ _ ⟨g51940, rfl, rfl⟩
                     refine ⟨.inr (.cons _ (.cons _ (.cons_cons _ (.cons_cons _ (.cons_cons _ (.cons_cons _ (.cons_cons _ (.cons_cons _ (sub_skip hs51936 (.refl _)))))))))), ?_⟩
                     refine D_all [11] (by kernel_rfl) rfl ?_
                     refine R_do hle51929 rfl rfl (u_storeN (vs := [_, _, _, _]) 0 4 rfl rfl rfl siz122 rfl (mem_c rfl (mem_c rfl (mem_c rfl (mem_c rfl mem_n)))) rfl (by simp)) ?_ ?_
                     ·
                      rintro _ _ rfl
                      refine ⟨.inl (by kernel_rfl), ?_⟩
                      refine D_done (by kernel_rfl) ?_
                      obtain rfl := some1 hm
                      refine x_pullb 7 rfl ?_
                      refine x_pullb 6 rfl ?_
                      refine x_pullb 6 rfl ?_
                      refine x_pullb 6 rfl ?_
                      refine x_pullb 6 rfl ?_
                      refine x_front5 [_, _, _, _, _, _, _, _] hs51936 hs51510 hs51513 hs51769 hs51772 R rfl ?_
                      refine x_front5 [_, _, _, _, _, _, _, _] hs51772 hs51936 hs51510 hs51513 hs51769 R rfl ?_
                      refine x_front5 [_, _, _, _, _, _, _, _] hs51769 hs51772 hs51936 hs51510 hs51513 R rfl ?_
                      refine x_front5 [_, _, _, _, _, _, _, _] hs51513 hs51769 hs51772 hs51936 hs51510 R rfl ?_
                      exact x_join (e' := [(2, .slice A12 (l15).length c13), (3, .pointer (some ⟨g26003, 0, none⟩)), (4, .pointer (some ⟨g26004, 0, none⟩)), (14, .map (some g26107)), (15, .pointer (some ⟨g26119, 0, none⟩)), (16, .pointer (some ⟨g43396, 0, none⟩)), (18, .int .i64 ((k49129 : Int))), (19, .int .i64 (x51517)), (21, .pointer (some ⟨g51776, 0, none⟩)), (24, .pointer (some ⟨g51940, 0, none⟩)), (86, .int .i64 ((s1.Tracks.length : Int))), (87, .int .i64 ((k49129 : Int)))]) ⟨rfl, rfl, rfl, rfl, rfl, rfl, rfl, rfl, rfl, rfl, rfl, rfl, trivial⟩ (.cons_cons _ (.cons_cons _ (.cons_cons _ (.cons_cons _ (.cons_cons _ (.cons_cons _ (.cons _ (.cons _ (.refl _))))))))) ⟨g51940, A51938, c51939, hs51936, rfl, rfl, hle51929, h51937, (OS.nz h51937 (by simp))⟩
                     exact R_nil
                    exact R_nil
                   refine R_do hle51929 rfl rfl (u_alloc [.slice none 0 0, .slice none 0 0, .int .i64 0, .slice none 0 0] zero122 rfl) ?_ ?_
                   ·
                    rintro _ _ ⟨g51940, rfl, rfl⟩
                    refine ⟨.inr (.cons _ (.cons _ (.cons_cons _ (.cons_cons _ (.cons_cons _ (.cons_cons _ (.cons_cons _ (.cons_cons _ (sub_skip hs51936 (.refl _)))))))))), ?_⟩
                    refine D_all [9] (by kernel_rfl) rfl ?_
                    refine R_do hle51929 rfl rfl (Stable.does (st_build (v := .agg #[.slice A51767 (l51762).length c51768, .slice A51770 (l51763).length c51771, .int .i64 (x43376), .slice A51938 (l51926 ++ [(⟨(k49129 : Int), x51517⟩ : FleetMove)]).length c51939]) [(0, .agg #[.slice A51767 (l51762).length c51768, .slice A51770 (l51763).length c51771]), (1, .int .i64 (x43376)), (2, .slice A51938 (l51926 ++ [(⟨(k49129 : Int), x51517⟩ : FleetMove)]).length c51939)] rfl (fun _ => by kernel_rfl))) ?_ ?_
                    ·
                     rintro _ _ ⟨rfl, rfl⟩
                     refine ⟨.inr (.cons _ (.cons _ (.cons_cons _ (.cons_cons _ (.cons_cons _ (.cons_cons _ (.cons_cons _ (.cons_cons _ (sub_skip hs51936 (.refl _)))))))))), ?_⟩
                     refine D_all [11] (by kernel_rfl) rfl ?_
                     refine R_do hle51929 rfl rfl (u_storeN (vs := [_, _, _, _]) 0 4 rfl rfl rfl siz122 rfl (mem_c rfl (mem_c rfl (mem_c rfl (mem_c rfl mem_n)))) rfl (by simp)) ?_ ?_
                     ·
                      rintro _ _ rfl
                      refine ⟨.inl (by kernel_rfl), ?_⟩
                      refine D_done (by kernel_rfl) ?_
                      obtain rfl := some1 hm
                      refine x_pullb 7 rfl ?_
                      refine x_pullb 6 rfl ?_
                      refine x_pullb 6 rfl ?_
                      refine x_pullb 6 rfl ?_
                      refine x_pullb 6 rfl ?_
                      refine x_front5 [_, _, _, _, _, _, _, _] hs51936 hs51510 hs51513 hs51769 hs51772 R rfl ?_
                      refine x_front5 [_, _, _, _, _, _, _, _] hs51772 hs51936 hs51510 hs51513 hs51769 R rfl ?_
                      refine x_front5 [_, _, _, _, _, _, _, _] hs51769 hs51772 hs51936 hs51510 hs51513 R rfl ?_
                      refine x_front5 [_, _, _, _, _, _, _, _] hs51513 hs51769 hs51772 hs51936 hs51510 R rfl ?_
                      exact x_join (e' := [(2, .slice A12 (l15).length c13), (3, .pointer (some ⟨g26003, 0, none⟩)), (4, .pointer (some ⟨g26004, 0, none⟩)), (14, .map (some g26107)), (15, .pointer (some ⟨g26119, 0, none⟩)), (16, .pointer (some ⟨g43396, 0, none⟩)), (18, .int .i64 ((k49129 : Int))), (19, .int .i64 (x51517)), (21, .pointer (some ⟨g51776, 0, none⟩)), (24, .pointer (some ⟨g51940, 0, none⟩)), (86, .int .i64 ((s1.Tracks.length : Int))), (87, .int .i64 ((k49129 : Int)))]) ⟨rfl, rfl, rfl, rfl, rfl, rfl, rfl, rfl, rfl, rfl, rfl, rfl, trivial⟩ (.cons_cons _ (.cons_cons _ (.cons_cons _ (.cons_cons _ (.cons_cons _ (.cons_cons _ (.cons _ (.cons _ (.refl _))))))))) ⟨g51940, A51938, c51939, hs51936, rfl, rfl, hle51929, h51937, (OS.nz h51937 (by simp))⟩
                     exact R_nil
                    exact R_nil
                   exact R_nil
                  refine R_do hle51929 rfl rfl (u_alloc [.slice none 0 0, .slice none 0 0, .int .i64 0, .slice none 0 0] zero122 rfl) ?_ ?_
                  ·
                   rintro _ _ ⟨g51940, rfl, rfl⟩
                   refine ⟨.inr (.cons _ (.cons _ (.cons_cons _ (.cons_cons _ (.cons_cons _ (.cons_cons _ (.cons_cons _ (.cons_cons _ (sub_skip hs51932 (.refl _)))))))))), ?_⟩
                   refine D_all [8] (by kernel_rfl) rfl ?_
                   refine R_do hle51929 rfl rfl (u_appOS (r := rFleetMove) (l := l51926) [_, _, _, _, _, _, _, _] (hs51510 ++ (hs51513 ++ (hs51769 ++ (hs51772 ++ R)))) [[.int .i64 ((k49129 : Int)), .int .i64 (x51517)]] [(⟨(k49129 : Int), x51517⟩ : FleetMove)] rfl (by decide) sl65 inf126 rfl rfl rfl rfl h51933 rfl (fun w ho => Rd.own (i := 1) ho rfl) ⟨⟨[.int .i64 ((k49129 : Int))], _, rfl, rfl, rfl⟩, trivial⟩ h51935) ?_ ?_
                   ·
                    rintro _ _ ⟨hs51936, rfl, h51937⟩
                    obtain ⟨A51938, c51939, rfl, _⟩ := h51937.form
                    refine ⟨.inr (.cons _ (.cons _ (.cons_cons _ (.cons_cons _ (.cons_cons _ (.cons_cons _ (.cons_cons _ (.cons_cons _ (sub_skip hs51936 (.refl _)))))))))), ?_⟩
                    refine D_all [9] (by kernel_rfl) rfl ?_
                    refine R_do hle51929 rfl rfl (Stable.does (st_build (v := .agg #[.slice A51767 (l51762).length c51768, .slice A51770 (l51763).length c51771, .int .i64 (x43376), .slice A51938 (l51926 ++ [(⟨(k49129 : Int), x51517⟩ : FleetMove)]).length c51939]) [(0, .agg #[.slice A51767 (l51762).length c51768, .slice A51770 (l51763).length c51771]), (1, .int .i64 (x43376)), (2, .slice A51938 (l51926 ++ [(⟨(k49129 : Int), x51517⟩ : FleetMove)]).length c51939)] rfl (fun _ => by kernel_rfl))) ?_ ?_
                    ·
                     rintro _ _ ⟨rfl, rfl⟩
                     refine ⟨.inr (.cons _ (.cons _ (.cons_cons _ (.cons_cons _ (.cons_cons _ (.cons_cons _ (.cons_cons _ (.cons_cons _ (sub_skip hs51936 (.refl _)))))))))), ?_⟩
                     refine D_all [11] (by kernel_rfl) rfl ?_
                     refine R_do hle51929 rfl rfl (u_storeN (vs := [_, _, _, _]) 0 4 rfl rfl rfl siz122 rfl (mem_c rfl (mem_c rfl (mem_c rfl (mem_c rfl mem_n)))) rfl (by simp)) ?_ ?_
                     ·
                      rintro _ _ rfl
                      refine ⟨.inl (by kernel_rfl), ?_⟩
                      refine D_done (by kernel_rfl) ?_
                      obtain rfl := some1 hm
                      refine x_pullb 7 rfl ?_
                      refine x_pullb 6 rfl ?_
                      refine x_pullb 6 rfl ?_
                      refine x_pullb 6 rfl ?_
                      refine x_pullb 6 rfl ?_
                      refine x_front5 [_, _, _, _, _, _, _, _] hs51936 hs51510 hs51513 hs51769 hs51772 R rfl ?_
                      refine x_front5 [_, _, _, _, _, _, _, _] hs51772 hs51936 hs51510 hs51513 hs51769 R rfl ?_
                      refine x_front5 [_, _, _, _, _, _, _, _] hs51769 hs51772 hs51936 hs51510 hs51513 R rfl ?_
                      refine x_front5 [_, _, _, _, _, _, _, _] hs51513 hs51769 hs51772 hs51936 hs51510 R rfl ?_
                      exact x_join (e' := [(2, .slice A12 (l15).length c13), (3, .pointer (some ⟨g26003, 0, none⟩)), (4, .pointer (some ⟨g26004, 0, none⟩)), (14, .map (some g26107)), (15, .pointer (some ⟨g26119, 0, none⟩)), (16, .pointer (some ⟨g43396, 0, none⟩)), (18, .int .i64 ((k49129 : Int))), (19, .int .i64 (x51517)), (21, .pointer (some ⟨g51776, 0, none⟩)), (24, .pointer (some ⟨g51940, 0, none⟩)), (86, .int .i64 ((s1.Tracks.length : Int))), (87, .int .i64 ((k49129 : Int)))]) ⟨rfl, rfl, rfl, rfl, rfl, rfl, rfl, rfl, rfl, rfl, rfl, rfl, trivial⟩ (.cons_cons _ (.cons_cons _ (.cons_cons _ (.cons_cons _ (.cons_cons _ (.cons_cons _ (.cons _ (.cons _ (.refl _))))))))) ⟨g51940, A51938, c51939, hs51936, rfl, rfl, hle51929, h51937, (OS.nz h51937 (by simp))⟩
                     exact R_nil
                    exact R_nil
                   exact R_nil
                  exact R_nil
                 refine R_do (Base.Le.refl _) rfl rfl (u_alloc [.slice none 0 0, .slice none 0 0, .int .i64 0, .slice none 0 0] zero122 rfl) ?_ ?_
                 ·
                  rintro _ _ ⟨g51940, rfl, rfl⟩
                  refine ⟨.inr (.cons _ (.cons _ (.refl _))), ?_⟩
                  refine D_all [5] (by kernel_rfl) rfl ?_
                  refine R_callGl (Base.Le.refl _) rfl rfl _ call65 rfl (cSlicesClone_2 _ _ l43377 A43387 c43388 (h43394.le (hle49118.trans (hle51508.trans (hle51766.trans hle51822)))) l51926 hcl51927) ?_ ?_
                  ·
                   rintro _ b51928 _ hle51929 ⟨A51930, c51931, hs51932, rfl, rfl, h51933⟩
                   refine ⟨.inr (sub_skip hs51932 (.cons _ (.cons _ (.refl _)))), ?_⟩
                   refine d_in1 [] [_, _, _, _, _, _, _, _] hs51932 (hs51510 ++ (hs51513 ++ (hs51769 ++ (hs51772 ++ R)))) rfl ?_
                   have h51935 := room_some h51935
                   refine D_all [8] (by kernel_rfl) rfl ?_
                   refine R_do hle51929 rfl rfl (u_appOS (r := rFleetMove) (l := l51926) [_, _, _, _, _, _, _, _] (hs51510 ++ (hs51513 ++ (hs51769 ++ (hs51772 ++ R)))) [[.int .i64 ((k49129 : Int)), .int .i64 (x51517)]] [(⟨(k49129 : Int), x51517⟩ : FleetMove)] rfl (by decide) sl65 inf126 rfl rfl rfl rfl h51933 rfl (fun w ho => Rd.own (i := 1) ho rfl) ⟨⟨[.int .i64 ((k49129 : Int))], _, rfl, rfl, rfl⟩, trivial⟩ h51935) ?_ ?_
                   ·
                    rintro _ _ ⟨hs51936, rfl, h51937⟩
                    obtain ⟨A51938, c51939, rfl, _⟩ := h51937.form
                    refine ⟨.inr (.cons _ (.cons _ (.cons_cons _ (.cons_cons _ (.cons_cons _ (.cons_cons _ (.cons_cons _ (.cons_cons _ (sub_skip hs51936 (.refl _)))))))))), ?_⟩
                    refine D_all [9] (by kernel_rfl) rfl ?_
                    refine R_do hle51929 rfl rfl (Stable.does (st_build (v := .agg #[.slice A51767 (l51762).length c51768, .slice A51770 (l51763).length c51771, .int .i64 (x43376), .slice A51938 (l51926 ++ [(⟨(k49129 : Int), x51517⟩ : FleetMove)]).length c51939]) [(0, .agg #[.slice A51767 (l51762).length c51768, .slice A51770 (l51763).length c51771]), (1, .int .i64 (x43376)), (2, .slice A51938 (l51926 ++ [(⟨(k49129 : Int), x51517⟩ : FleetMove)]).length c51939)] rfl (fun _ => by kernel_rfl))) ?_ ?_
                    ·
                     rintro _ _ ⟨rfl, rfl⟩
                     refine ⟨.inr (.cons _ (.cons _ (.cons_cons _ (.cons_cons _ (.cons_cons _ (.cons_cons _ (.cons_cons _ (.cons_cons _ (sub_skip hs51936 (.refl _)))))))))), ?_⟩
                     refine D_all [11] (by kernel_rfl) rfl ?_
                     refine R_do hle51929 rfl rfl (u_storeN (vs := [_, _, _, _]) 0 4 rfl rfl rfl siz122 rfl (mem_c rfl (mem_c rfl (mem_c rfl (mem_c rfl mem_n)))) rfl (by simp)) ?_ ?_
                     ·
                      rintro _ _ rfl
                      refine ⟨.inl (by kernel_rfl), ?_⟩
                      refine D_done (by kernel_rfl) ?_
                      obtain rfl := some1 hm
                      refine x_pullb 7 rfl ?_
                      refine x_pullb 6 rfl ?_
                      refine x_pullb 6 rfl ?_
                      refine x_pullb 6 rfl ?_
                      refine x_pullb 6 rfl ?_
                      refine x_front5 [_, _, _, _, _, _, _, _] hs51936 hs51510 hs51513 hs51769 hs51772 R rfl ?_
                      refine x_front5 [_, _, _, _, _, _, _, _] hs51772 hs51936 hs51510 hs51513 hs51769 R rfl ?_
                      refine x_front5 [_, _, _, _, _, _, _, _] hs51769 hs51772 hs51936 hs51510 hs51513 R rfl ?_
                      refine x_front5 [_, _, _, _, _, _, _, _] hs51513 hs51769 hs51772 hs51936 hs51510 R rfl ?_
                      exact x_join (e' := [(2, .slice A12 (l15).length c13), (3, .pointer (some ⟨g26003, 0, none⟩)), (4, .pointer (some ⟨g26004, 0, none⟩)), (14, .map (some g26107)), (15, .pointer (some ⟨g26119, 0, none⟩)), (16, .pointer (some ⟨g43396, 0, none⟩)), (18, .int .i64 ((k49129 : Int))), (19, .int .i64 (x51517)), (21, .pointer (some ⟨g51776, 0, none⟩)), (24, .pointer (some ⟨g51940, 0, none⟩)), (86, .int .i64 ((s1.Tracks.length : Int))), (87, .int .i64 ((k49129 : Int)))]) ⟨rfl, rfl, rfl, rfl, rfl, rfl, rfl, rfl, rfl, rfl, rfl, rfl, trivial⟩ (.cons_cons _ (.cons_cons _ (.cons_cons _ (.cons_cons _ (.cons_cons _ (.cons_cons _ (.cons _ (.cons _ (.refl _))))))))) ⟨g51940, A51938, c51939, hs51936, rfl, rfl, hle51929, h51937, (OS.nz h51937 (by simp))⟩
                     exact R_nil
                    exact R_nil
                   exact R_nil
                  exact R_nil
                 exact R_nil
                refine R_do (Base.Le.refl _) rfl rfl (u_alloc [.slice none 0 0, .slice none 0 0, .int .i64 0, .slice none 0 0] zero122 rfl) ?_ ?_
                ·
                 rintro _ _ ⟨g51940, rfl, rfl⟩
                 refine ⟨.inr (.cons _ (.refl _)), ?_⟩
                 refine D_all [5, 7] (by kernel_rfl) rfl ?_
                 refine R_callGl (Base.Le.refl _) rfl rfl _ call65 rfl (cSlicesClone_2 _ _ l43377 A43387 c43388 (h43394.le (hle49118.trans (hle51508.trans (hle51766.trans hle51822)))) l51926 hcl51927) ?_ ?_
                 ·
                  rintro _ b51928 _ hle51929 ⟨A51930, c51931, hs51932, rfl, rfl, h51933⟩
                  refine ⟨.inr (sub_skip hs51932 (.cons _ (.refl _))), ?_⟩
                  refine d_in1 [] [_, _, _, _, _, _, _] hs51932 (hs51510 ++ (hs51513 ++ (hs51769 ++ (hs51772 ++ R)))) rfl ?_
                  refine D_all [7] (by kernel_rfl) rfl ?_
                  refine R_do hle51929 rfl rfl (u_bslice (el := 126) [(0, .agg #[.int .i64 ((k49129 : Int)), .int .i64 (x51517)])] [.int .i64 ((k49129 : Int)), .int .i64 (x51517)] rfl (fun _ => by kernel_rfl)) ?_ ?_
                  ·
                   rintro _ _ ⟨g51934, rfl, rfl⟩
                   refine ⟨.inr (.cons _ (.cons _ (.cons_cons _ (.cons_cons _ (.cons_cons _ (.cons_cons _ (.cons_cons _ (.cons_cons _ (sub_skip hs51932 (.refl _)))))))))), ?_⟩
                   have h51935 := room_some h51935
                   refine D_all [8] (by kernel_rfl) rfl ?_
                   refine R_do hle51929 rfl rfl (u_appOS (r := rFleetMove) (l := l51926) [_, _, _, _, _, _, _, _] (hs51510 ++ (hs51513 ++ (hs51769 ++ (hs51772 ++ R)))) [[.int .i64 ((k49129 : Int)), .int .i64 (x51517)]] [(⟨(k49129 : Int), x51517⟩ : FleetMove)] rfl (by decide) sl65 inf126 rfl rfl rfl rfl h51933 rfl (fun w ho => Rd.own (i := 0) ho rfl) ⟨⟨[.int .i64 ((k49129 : Int))], _, rfl, rfl, rfl⟩, trivial⟩ h51935) ?_ ?_
                   ·
                    rintro _ _ ⟨hs51936, rfl, h51937⟩
                    obtain ⟨A51938, c51939, rfl, _⟩ := h51937.form
                    refine ⟨.inr (.cons _ (.cons _ (.cons_cons _ (.cons_cons _ (.cons_cons _ (.cons_cons _ (.cons_cons _ (.cons_cons _ (sub_skip hs51936 (.refl _)))))))))), ?_⟩
                    refine D_all [9] (by kernel_rfl) rfl ?_
                    refine R_do hle51929 rfl rfl (Stable.does (st_build (v := .agg #[.slice A51767 (l51762).length c51768, .slice A51770 (l51763).length c51771, .int .i64 (x43376), .slice A51938 (l51926 ++ [(⟨(k49129 : Int), x51517⟩ : FleetMove)]).length c51939]) [(0, .agg #[.slice A51767 (l51762).length c51768, .slice A51770 (l51763).length c51771]), (1, .int .i64 (x43376)), (2, .slice A51938 (l51926 ++ [(⟨(k49129 : Int), x51517⟩ : FleetMove)]).length c51939)] rfl (fun _ => by kernel_rfl))) ?_ ?_
                    ·
                     rintro _ _ ⟨rfl, rfl⟩
                     refine ⟨.inr (.cons _ (.cons _ (.cons_cons _ (.cons_cons _ (.cons_cons _ (.cons_cons _ (.cons_cons _ (.cons_cons _ (sub_skip hs51936 (.refl _)))))))))), ?_⟩
                     refine D_all [11] (by kernel_rfl) rfl ?_
                     refine R_do hle51929 rfl rfl (u_storeN (vs := [_, _, _, _]) 1 4 rfl rfl rfl siz122 rfl (mem_c rfl (mem_c rfl (mem_c rfl (mem_c rfl mem_n)))) rfl (by simp)) ?_ ?_
                     ·
                      rintro _ _ rfl
                      refine ⟨.inl (by kernel_rfl), ?_⟩
                      refine D_done (by kernel_rfl) ?_
                      obtain rfl := some1 hm
                      refine x_pullb 1 rfl ?_
                      refine x_pullb 7 rfl ?_
                      refine x_pullb 6 rfl ?_
                      refine x_pullb 6 rfl ?_
                      refine x_pullb 6 rfl ?_
                      refine x_pullb 6 rfl ?_
                      refine x_front5 [_, _, _, _, _, _, _, _] hs51936 hs51510 hs51513 hs51769 hs51772 R rfl ?_
                      refine x_front5 [_, _, _, _, _, _, _, _] hs51772 hs51936 hs51510 hs51513 hs51769 R rfl ?_
                      refine x_front5 [_, _, _, _, _, _, _, _] hs51769 hs51772 hs51936 hs51510 hs51513 R rfl ?_
                      refine x_front5 [_, _, _, _, _, _, _, _] hs51513 hs51769 hs51772 hs51936 hs51510 R rfl ?_
                      exact x_join (e' := [(2, .slice A12 (l15).length c13), (3, .pointer (some ⟨g26003, 0, none⟩)), (4, .pointer (some ⟨g26004, 0, none⟩)), (14, .map (some g26107)), (15, .pointer (some ⟨g26119, 0, none⟩)), (16, .pointer (some ⟨g43396, 0, none⟩)), (18, .int .i64 ((k49129 : Int))), (19, .int .i64 (x51517)), (21, .pointer (some ⟨g51776, 0, none⟩)), (24, .pointer (some ⟨g51940, 0, none⟩)), (86, .int .i64 ((s1.Tracks.length : Int))), (87, .int .i64 ((k49129 : Int)))]) ⟨rfl, rfl, rfl, rfl, rfl, rfl, rfl, rfl, rfl, rfl, rfl, rfl, trivial⟩ (.cons_cons _ (.cons_cons _ (.cons_cons _ (.cons_cons _ (.cons_cons _ (.cons_cons _ (.cons _ (.cons _ (.refl _))))))))) ⟨g51940, A51938, c51939, hs51936, rfl, rfl, hle51929, h51937, (OS.nz h51937 (by simp))⟩
                     exact R_nil
                    exact R_nil
                   exact R_nil
                  exact R_nil
                 refine R_do (Base.Le.refl _) rfl rfl (u_bslice (el := 126) [(0, .agg #[.int .i64 ((k49129 : Int)), .int .i64 (x51517)])] [.int .i64 ((k49129 : Int)), .int .i64 (x51517)] rfl (fun _ => by kernel_rfl)) ?_ ?_
                 ·
                  rintro _ _ ⟨g51934, rfl, rfl⟩
                  refine ⟨.inr (.cons _ (.cons _ (.refl _))), ?_⟩
                  refine D_all [5] (by kernel_rfl) rfl ?_
                  refine R_callGl (Base.Le.refl _) rfl rfl _ call65 rfl (cSlicesClone_2 _ _ l43377 A43387 c43388 (h43394.le (hle49118.trans (hle51508.trans (hle51766.trans hle51822)))) l51926 hcl51927) ?_ ?_
                  ·
                   rintro _ b51928 _ hle51929 ⟨A51930, c51931, hs51932, rfl, rfl, h51933⟩
                   refine ⟨.inr (sub_skip hs51932 (.cons _ (.cons _ (.refl _)))), ?_⟩
                   refine d_in1 [] [_, _, _, _, _, _, _, _] hs51932 (hs51510 ++ (hs51513 ++ (hs51769 ++ (hs51772 ++ R)))) rfl ?_
                   have h51935 := room_some h51935
                   refine D_all [8] (by kernel_rfl) rfl ?_
                   refine R_do hle51929 rfl rfl (u_appOS (r := rFleetMove) (l := l51926) [_, _, _, _, _, _, _, _] (hs51510 ++ (hs51513 ++ (hs51769 ++ (hs51772 ++ R)))) [[.int .i64 ((k49129 : Int)), .int .i64 (x51517)]] [(⟨(k49129 : Int), x51517⟩ : FleetMove)] rfl (by decide) sl65 inf126 rfl rfl rfl rfl h51933 rfl (fun w ho => Rd.own (i := 0) ho rfl) ⟨⟨[.int .i64 ((k49129 : Int))], _, rfl, rfl, rfl⟩, trivial⟩ h51935) ?_ ?_
                   ·
                    rintro _ _ ⟨hs51936, rfl, h51937⟩
                    obtain ⟨A51938, c51939, rfl, _⟩ := h51937.form
                    refine ⟨.inr (.cons _ (.cons _ (.cons_cons _ (.cons_cons _ (.cons_cons _ (.cons_cons _ (.cons_cons _ (.cons_cons _ (sub_skip hs51936 (.refl _)))))))))), ?_⟩
                    refine D_all [9] (by kernel_rfl) rfl ?_
                    refine R_do hle51929 rfl rfl (Stable.does (st_build (v := .agg #[.slice A51767 (l51762).length c51768, .slice A51770 (l51763).length c51771, .int .i64 (x43376), .slice A51938 (l51926 ++ [(⟨(k49129 : Int), x51517⟩ : FleetMove)]).length c51939]) [(0, .agg #[.slice A51767 (l51762).length c51768, .slice A51770 (l51763).length c51771]), (1, .int .i64 (x43376)), (2, .slice A51938 (l51926 ++ [(⟨(k49129 : Int), x51517⟩ : FleetMove)]).length c51939)] rfl (fun _ => by kernel_rfl))) ?_ ?_
                    ·
                     rintro _ _ ⟨rfl, rfl⟩
                     refine ⟨.inr (.cons _ (.cons _ (.cons_cons _ (.cons_cons _ (.cons_cons _ (.cons_cons _ (.cons_cons _ (.cons_cons _ (sub_skip hs51936 (.refl _)))))))))), ?_⟩
                     refine D_all [11] (by kernel_rfl) rfl ?_
                     refine R_do hle51929 rfl rfl (u_storeN (vs := [_, _, _, _]) 1 4 rfl rfl rfl siz122 rfl (mem_c rfl (mem_c rfl (mem_c rfl (mem_c rfl mem_n)))) rfl (by simp)) ?_ ?_
                     ·
                      rintro _ _ rfl
                      refine ⟨.inl (by kernel_rfl), ?_⟩
                      refine D_done (by kernel_rfl) ?_
                      obtain rfl := some1 hm
                      refine x_pullb 1 rfl ?_
                      refine x_pullb 7 rfl ?_
                      refine x_pullb 6 rfl ?_
                      refine x_pullb 6 rfl ?_
                      refine x_pullb 6 rfl ?_
                      refine x_pullb 6 rfl ?_
                      refine x_front5 [_, _, _, _, _, _, _, _] hs51936 hs51510 hs51513 hs51769 hs51772 R rfl ?_
                      refine x_front5 [_, _, _, _, _, _, _, _] hs51772 hs51936 hs51510 hs51513 hs51769 R rfl ?_
                      refine x_front5 [_, _, _, _, _, _, _, _] hs51769 hs51772 hs51936 hs51510 hs51513 R rfl ?_
                      refine x_front5 [_, _, _, _, _, _, _, _] hs51513 hs51769 hs51772 hs51936 hs51510 R rfl ?_
                      exact x_join (e' := [(2, .slice A12 (l15).length c13), (3, .pointer (some ⟨g26003, 0, none⟩)), (4, .pointer (some ⟨g26004, 0, none⟩)), (14, .map (some g26107)), (15, .pointer (some ⟨g26119, 0, none⟩)), (16, .pointer (some ⟨g43396, 0, none⟩)), (18, .int .i64 ((k49129 : Int))), (19, .int .i64 (x51517)), (21, .pointer (some ⟨g51776, 0, none⟩)), (24, .pointer (some ⟨g51940, 0, none⟩)), (86, .int .i64 ((s1.Tracks.length : Int))), (87, .int .i64 ((k49129 : Int)))]) ⟨rfl, rfl, rfl, rfl, rfl, rfl, rfl, rfl, rfl, rfl, rfl, rfl, trivial⟩ (.cons_cons _ (.cons_cons _ (.cons_cons _ (.cons_cons _ (.cons_cons _ (.cons_cons _ (.cons _ (.cons _ (.refl _))))))))) ⟨g51940, A51938, c51939, hs51936, rfl, rfl, hle51929, h51937, (OS.nz h51937 (by simp))⟩
                     exact R_nil
                    exact R_nil
                   exact R_nil
                  exact R_nil
                 exact R_nil
                exact R_nil
               ·
                rintro b51900 _ _ ⟨g51907, A51904, c51905, hs51903, rfl, rfl, hle51901, h51906, hnz51909⟩
                have hm := hk51910
                obtain ⟨x51945, hj51946, hk51946⟩ := bindS hm
                refine c_join (fun b51943 e' hp' => [(2, .slice A12 (l15).length c13), (3, .pointer (some ⟨g26003, 0, none⟩)), (4, .pointer (some ⟨g26004, 0, none⟩)), (14, .map (some g26107)), (15, .pointer (some ⟨g26119, 0, none⟩)), (16, .pointer (some ⟨g43396, 0, none⟩)), (18, .int .i64 ((k49129 : Int))), (19, .int .i64 (x51517)), (21, .pointer (some ⟨g51776, 0, none⟩)), (24, .pointer (some ⟨g51907, 0, none⟩)), (86, .int .i64 ((s1.Tracks.length : Int))), (87, .int .i64 ((k49129 : Int)))] = e' ∧ (g26003, Cl 63 [.slice A2 (s1.Room).length c3, .slice A5 (s1.Tracks).length c6]) :: (g26004, Cl 45 [.slice A8 (l11).length c9]) :: (g26119, Cl 119 [.slice A51514 (l51519).length c51515]) :: (g43396, Cl 122 [.slice A43383 (l43374).length c43384, .slice A43385 (l43375).length c43386, .int .i64 (x43376), .slice A43387 (l43377).length c43388]) :: (g51776, Cl 63 [.slice A51767 (l51762).length c51768, .slice A51770 (l51763).length c51771]) :: (g51907, Cl 122 [.slice A51767 (l51762).length c51768, .slice A51770 (l51763).length c51771, .int .i64 (x51945), .slice A51904 (l51908).length c51905]) :: (hs51510 ++ (hs51513 ++ (hs51769 ++ (hs51772 ++ (hs51903 ++ R))))) = hp' ∧ b51900.Le b51943) ?_ ?_
                ·
                 have hm := hj51946
                 refine c_sr ?_
                 refine t_mv rfl rfl ?_
                 refine t_st rfl (st_lss rfl rfl) ?_
                 refine t_ne ?_
                 refine c_cond _ rfl (fun hc51947 => ?_) (fun hc51947 => ?_)
                 ·
                  rw [if_pos (of_decide_eq_true hc51947)] at hm
                  refine c_region ?_
                  refine t_st rfl (st_field rfl fld122_1) ?_
                  refine t_st rfl (st_load 5 rfl one3 rfl rfl) ?_
                  obtain ⟨_, h51948, hm⟩ := bindS hm
                  have h51948 := (chk_some h51948).2
                  refine t_st rfl (st_add rfl rfl h51948) ?_
                  refine t_st rfl (st_field rfl fld122_1) ?_
                  refine t_do rfl (u_store 5 rfl rfl siz3 rfl rfl (by simp)) ?_
                  rintro _ _ rfl
                  refine t_nil ?_
                  obtain rfl := some1 hm
                  refine x_pullb 5 rfl ?_
                  refine x_pullb 5 rfl ?_
                  refine x_pullb 5 rfl ?_
                  refine x_pullb 5 rfl ?_
                  refine x_pullb 5 rfl ?_
                  refine x_pullb 5 rfl ?_
                  refine x_front5 [_, _, _, _, _, _] hs51510 hs51513 hs51769 hs51772 hs51903 R rfl ?_
                  refine x_front5 [_, _, _, _, _, _] hs51903 hs51510 hs51513 hs51769 hs51772 R rfl ?_
                  refine x_front5 [_, _, _, _, _, _] hs51772 hs51903 hs51510 hs51513 hs51769 R rfl ?_
                  refine x_front5 [_, _, _, _, _, _] hs51769 hs51772 hs51903 hs51510 hs51513 R rfl ?_
                  refine x_front5 [_, _, _, _, _, _] hs51513 hs51769 hs51772 hs51903 hs51510 R rfl ?_
                  exact x_join (e' := [(2, .slice A12 (l15).length c13), (3, .pointer (some ⟨g26003, 0, none⟩)), (4, .pointer (some ⟨g26004, 0, none⟩)), (14, .map (some g26107)), (15, .pointer (some ⟨g26119, 0, none⟩)), (16, .pointer (some ⟨g43396, 0, none⟩)), (18, .int .i64 ((k49129 : Int))), (19, .int .i64 (x51517)), (21, .pointer (some ⟨g51776, 0, none⟩)), (24, .pointer (some ⟨g51907, 0, none⟩)), (86, .int .i64 ((s1.Tracks.length : Int))), (87, .int .i64 ((k49129 : Int)))]) ⟨rfl, rfl, rfl, rfl, rfl, rfl, rfl, rfl, rfl, rfl, rfl, rfl, trivial⟩ (.refl _) ⟨rfl, rfl, (Base.Le.refl _)⟩
                 ·
                  rw [if_neg (of_decide_eq_false hc51947)] at hm
                  refine c_skip ?_
                  obtain rfl := some1 hm
                  refine x_pullb 5 rfl ?_
                  refine x_pullb 5 rfl ?_
                  refine x_pullb 5 rfl ?_
                  refine x_pullb 5 rfl ?_
                  refine x_pullb 5 rfl ?_
                  refine x_pullb 5 rfl ?_
                  refine x_front5 [_, _, _, _, _, _] hs51510 hs51513 hs51769 hs51772 hs51903 R rfl ?_
                  refine x_front5 [_, _, _, _, _, _] hs51903 hs51510 hs51513 hs51769 hs51772 R rfl ?_
                  refine x_front5 [_, _, _, _, _, _] hs51772 hs51903 hs51510 hs51513 hs51769 R rfl ?_
                  refine x_front5 [_, _, _, _, _, _] hs51769 hs51772 hs51903 hs51510 hs51513 R rfl ?_
                  refine x_front5 [_, _, _, _, _, _] hs51513 hs51769 hs51772 hs51903 hs51510 R rfl ?_
                  exact x_join (e' := [(2, .slice A12 (l15).length c13), (3, .pointer (some ⟨g26003, 0, none⟩)), (4, .pointer (some ⟨g26004, 0, none⟩)), (14, .map (some g26107)), (15, .pointer (some ⟨g26119, 0, none⟩)), (16, .pointer (some ⟨g43396, 0, none⟩)), (18, .int .i64 ((k49129 : Int))), (19, .int .i64 (x51517)), (21, .pointer (some ⟨g51776, 0, none⟩)), (24, .pointer (some ⟨g51907, 0, none⟩)), (86, .int .i64 ((s1.Tracks.length : Int))), (87, .int .i64 ((k49129 : Int)))]) ⟨rfl, rfl, rfl, rfl, rfl, rfl, rfl, rfl, rfl, rfl, rfl, rfl, trivial⟩ (.refl _) ⟨rfl, rfl, (Base.Le.refl _)⟩
                ·
                 rintro b51943 _ _ ⟨rfl, rfl, hle51944⟩
                 have hm := hk51946
                 refine c_sr ?_
                 refine t_st rfl (st_loadD (vs := [_, _]) 4 2 rfl agg63 rfl rfl rfl) ?_
                 refine t_front3 [_, _, _, _, _, _] hs51510 hs51513 hs51769 (hs51772 ++ (hs51903 ++ R)) rfl ?_
                 refine t_frz [_, _, _, _, _, _] hs51769 (hs51510 ++ (hs51513 ++ (hs51772 ++ (hs51903 ++ R)))) rfl ?_
                 intro b51949 hle51950 hz51951
                 have h51952 := OS.frz (l := l51762) (h51773.le (hle51822.trans (hle51901.trans hle51944))) hle51950.cells hz51951
                 refine t_front3 [_, _, _, _, _, _] hs51510 hs51513 hs51772 (hs51903 ++ R) rfl ?_
                 refine t_frz [_, _, _, _, _, _] hs51772 (hs51510 ++ (hs51513 ++ (hs51903 ++ R))) rfl ?_
                 intro b51953 hle51954 hz51955
                 have h51956 := OS.frz (l := l51763) (h51774.le (hle51822.trans (hle51901.trans (hle51944.trans hle51950)))) hle51954.cells hz51955
                 obtain ⟨l51957, hcl51958, hm⟩ := bindS hm
                 refine t_callG _ rfl call61 rfl (cFleetStateOf _ _ (⟨l51762, l51763⟩ : FleetDepot) A51767 c51768 A51770 c51771 (h51952.le hle51954) h51956 l51957 hcl51958) ?_
                 rintro _ b51959 _ hle51960 ⟨cs51961, rfl, rfl, h51962⟩
                 have h51964 : (RT.arr 4 (RT.arr 4 (RT.int .i64))).rep b51959.w ((List.replicate 4 ((List.replicate 4 [.int .i64 0]).flatten)).flatten) (List.replicate 4 (List.replicate 4 (0 : Int))) := (arr_zero 4 (arr_zero 4 rfl))
                 refine t_do rfl (u_alloc ((List.replicate 4 ((List.replicate 4 [.int .i64 0]).flatten)).flatten) zero113 (by kernel_rfl)) ?_
                 rintro _ _ ⟨g51963, rfl, rfl⟩
                 refine t_do rfl (u_storeAll 0 rfl rfl siz113 rfl h51964 h51962) ?_
                 rintro _ _ rfl
                 refine t_ne ?_
                 refine c_sr ?_
                 refine t_mv rfl rfl ?_
                 refine t_st rfl (st_loadArr 0 rfl agg113 rfl h51962) ?_
                 obtain ⟨x51968, h51970, hm⟩ := bindS hm
                 have hx51969 := Option.some.inj h51970
                 obtain ⟨v51965, hv51966, hr51967⟩ := OM.lookF kok113 (z0 := false) (h51511.le (hle51766.trans (hle51822.trans (hle51901.trans (hle51944.trans (hle51950.trans (hle51954.trans hle51960))))))) (key := .agg (cs51961).toArray) (k := l51957) ⟨cs51961, rfl, h51962⟩ mapt115 zero4 rfl
                 rw [hx51969] at hv51966
                 obtain rfl : v51965 = .bool (x51968) := by have hv51966 : [v51965] = [.bool (x51968)] := hv51966; injection hv51966
                 refine t_st rfl (st_mlook (ok := false) rfl rfl (fun w ho => hr51967 _ w ho (.cons _ (.cons _ (.cons _ (.cons _ (.cons _ (.cons _ (.cons _ (List.sublist_append_left _ _)))))))) false)) ?_
                 refine t_st rfl (st_not rfl) ?_
                 refine t_ne ?_
                 refine c_cond _ rfl (fun hc51971 => ?_) (fun hc51971 => ?_)
                 ·
                  rw [if_neg (fun hh => Bool.noConfusion (hh.symm.trans (notT hc51971)))] at hm
                  refine c_sr ?_
                  refine t_mv rfl rfl ?_
                  refine t_st rfl (st_loadArr 0 rfl agg113 rfl h51962) ?_
                  refine t_do rfl (u_mputF (k := l51957) kok113 [_, _, _, _, _, _, _] [] (hs51513 ++ (hs51903 ++ R)) rfl (h51511.le (hle51766.trans (hle51822.trans (hle51901.trans (hle51944.trans (hle51950.trans (hle51954.trans hle51960))))))) mapt115 rfl rfl rfl (⟨cs51961, rfl, h51962⟩) ⟨rfl, rfl⟩ _ (.inl rfl)) ?_
                  rintro _ _ ⟨hs51972, rfl, hsub51973, h51974⟩
                  refine t_ne ?_
                  refine c_region ?_
                  refine t_mv rfl rfl ?_
                  refine t_st rfl (st_loadD (vs := [_, _, _, _]) 6 4 rfl agg122 rfl rfl rfl) ?_
                  obtain ⟨l51975, hcl51976, hm⟩ := bindS hm
                  refine t_pullb 3 rfl ?_
                  refine t_front2 [_, _, _, _, _, _, _] hs51972 hs51513 (hs51903 ++ R) rfl ?_
                  refine t_front3 [_, _, _, _, _, _, _] hs51513 hs51972 hs51903 R rfl ?_
                  refine t_out2 [_] [_, _, _, _, _, _] hs51903 hs51513 (hs51972 ++ R) rfl ?_
                  refine t_callG _ rfl call62 rfl (cFleetQueuePut_2 _ _ l51762 l51763 x51945 l51908 l51519 g26119 A51767 c51768 A51770 c51771 A51904 c51905 hs51903 A51514 c51515 hs51513 (h51952.le (hle51954.trans hle51960)) (h51956.le hle51960) (h51906.le (hle51944.trans (hle51950.trans (hle51954.trans hle51960)))) hnz51909 (h51516.le (hle51766.trans (hle51822.trans (hle51901.trans (hle51944.trans (hle51950.trans (hle51954.trans hle51960))))))) l51975 hcl51976) ?_
                  rintro _ b51977 _ hle51978 ⟨A51979, c51980, hs51981, rfl, rfl, h51982, h51983⟩
                  refine t_in1 [_] [_, _, _, _, _, _] hs51981 (hs51972 ++ R) rfl ?_
                  refine t_nil ?_
                  refine x_block_normal ?_
                  obtain ⟨rfl, rfl⟩ := some2 hm
                  refine x_pullb 4 rfl ?_
                  refine x_pullb 1 rfl ?_
                  refine x_pullb 4 rfl ?_
                  refine x_pullb 4 rfl ?_
                  refine x_front2 [_, _, _, _, _, _, _] hs51981 hs51972 R rfl ?_
                  exact x_join (e' := [(2, .slice A12 (l15).length c13), (3, .pointer (some ⟨g26003, 0, none⟩)), (4, .pointer (some ⟨g26004, 0, none⟩)), (14, .map (some g26107)), (15, .pointer (some ⟨g26119, 0, none⟩)), (16, .pointer (some ⟨g43396, 0, none⟩)), (18, .int .i64 ((k49129 : Int))), (19, .int .i64 (x51517)), (86, .int .i64 ((s1.Tracks.length : Int))), (87, .int .i64 ((k49129 : Int)))]) ⟨rfl, rfl, rfl, rfl, rfl, rfl, rfl, rfl, rfl, rfl, trivial⟩ (.cons_cons _ (.cons_cons _ (.cons_cons _ (.cons_cons _ (.cons _ (.cons _ (.cons _ (.refl _)))))))) ⟨hs51972, A51979, c51980, hs51981, rfl, rfl, (hle51766.trans (hle51822.trans (hle51901.trans (hle51944.trans (hle51950.trans (hle51954.trans (hle51960.trans hle51978))))))), (h51974.le hle51978), h51982⟩
                 ·
                  rw [if_pos (notF hc51971)] at hm
                  refine c_skip ?_
                  refine x_block_normal ?_
                  obtain ⟨rfl, rfl⟩ := some2 hm
                  refine x_pullb 4 rfl ?_
                  refine x_pullb 4 rfl ?_
                  refine x_pullb 4 rfl ?_
                  refine x_pullb 4 rfl ?_
                  refine x_front2 [_, _, _, _, _, _, _] hs51510 hs51513 (hs51903 ++ R) rfl ?_
                  refine x_front2 [_, _, _, _, _, _, _] hs51513 hs51510 (hs51903 ++ R) rfl ?_
                  exact x_join (e' := [(2, .slice A12 (l15).length c13), (3, .pointer (some ⟨g26003, 0, none⟩)), (4, .pointer (some ⟨g26004, 0, none⟩)), (14, .map (some g26107)), (15, .pointer (some ⟨g26119, 0, none⟩)), (16, .pointer (some ⟨g43396, 0, none⟩)), (18, .int .i64 ((k49129 : Int))), (19, .int .i64 (x51517)), (86, .int .i64 ((s1.Tracks.length : Int))), (87, .int .i64 ((k49129 : Int)))]) ⟨rfl, rfl, rfl, rfl, rfl, rfl, rfl, rfl, rfl, rfl, trivial⟩ (.cons_cons _ (.cons_cons _ (.cons_cons _ (.cons_cons _ (.cons _ (.cons _ (.cons _ (sub_app hs51510 (sub_app hs51513 (sub_skip hs51903 (.refl _))))))))))) ⟨hs51510, A51514, c51515, hs51513, rfl, rfl, (hle51766.trans (hle51822.trans (hle51901.trans (hle51944.trans (hle51950.trans (hle51954.trans hle51960)))))), (h51511.le (hle51766.trans (hle51822.trans (hle51901.trans (hle51944.trans (hle51950.trans (hle51954.trans hle51960))))))), (h51516.le (hle51766.trans (hle51822.trans (hle51901.trans (hle51944.trans (hle51950.trans (hle51954.trans hle51960)))))))⟩
            ·
             rintro b51746 _ _ ⟨hs51749, A51753, c51754, hs51752, rfl, rfl, hle51747, h51750, h51755⟩
             have hm := (unc2E hk51758)
             refine c_region ?_
             refine t_mv rfl rfl ?_
             obtain ⟨_, h51984, hm⟩ := bindS hm
             have h51984 := (chk_some h51984).2
             refine t_st rfl (st_add rfl rfl h51984) ?_
             refine t_as rfl rfl ?_
             refine t_nil ?_
             refine x_pullb 3 rfl ?_
             refine x_pullb 3 rfl ?_
             refine x_pullb 3 rfl ?_
             refine x_pullb 3 rfl ?_
             refine x_front2 [_, _, _, _] hs51749 hs51752 R rfl ?_
             refine x_front2 [_, _, _, _] hs51752 hs51749 R rfl ?_
             exact x_againM (x51517 + 1, l51756, l51757) (Option.some.inj hm).symm (e' := [(2, .slice A12 (l15).length c13), (3, .pointer (some ⟨g26003, 0, none⟩)), (4, .pointer (some ⟨g26004, 0, none⟩)), (14, .map (some g26107)), (15, .pointer (some ⟨g26119, 0, none⟩)), (16, .pointer (some ⟨g43396, 0, none⟩)), (18, .int .i64 ((k49129 : Int))), (19, .int .i64 (x51517 + 1)), (86, .int .i64 ((s1.Tracks.length : Int))), (87, .int .i64 ((k49129 : Int)))]) ⟨rfl, rfl, rfl, rfl, rfl, rfl, rfl, rfl, rfl, rfl, trivial⟩ (.refl _) ⟨hs51749, A51753, c51754, hs51752, rfl, rfl, ((hle51508.trans hle51747)), h51750, h51755⟩
           ·
            rw [if_neg (of_decide_eq_false hc51520)] at hm
            refine c_exit ?_
            refine x_then_exit ?_
            refine x_then_exit ?_
            refine x_block_out ?_
            have hm := congrArg some (houtL50565 _ (Option.some.inj hm).symm)
            refine x_block_normal ?_
            obtain ⟨rfl, rfl⟩ := some2 hm
            refine x_pullb 3 rfl ?_
            refine x_pullb 3 rfl ?_
            refine x_pullb 3 rfl ?_
            refine x_pullb 3 rfl ?_
            refine x_front2 [_, _, _, _] hs51510 hs51513 R rfl ?_
            refine x_front2 [_, _, _, _] hs51513 hs51510 R rfl ?_
            exact x_join (e' := [(2, .slice A12 (l15).length c13), (3, .pointer (some ⟨g26003, 0, none⟩)), (4, .pointer (some ⟨g26004, 0, none⟩)), (14, .map (some g26107)), (15, .pointer (some ⟨g26119, 0, none⟩)), (16, .pointer (some ⟨g43396, 0, none⟩)), (86, .int .i64 ((s1.Tracks.length : Int))), (87, .int .i64 ((k49129 : Int)))]) ⟨rfl, rfl, rfl, rfl, rfl, rfl, rfl, rfl, trivial⟩ (.refl _) ⟨hs51510, A51514, c51515, hs51513, rfl, rfl, hle51508, h51511, h51516⟩
          ·
           rintro b50552 _ _ ⟨hs50555, A50559, c50560, hs50558, rfl, rfl, hle50553, h50556, h50561⟩
           have hm := (unc2E hk50564)
           refine c_region ?_
           refine t_st rfl (st_add rfl rfl (by omega)) ?_
           refine t_mv rfl rfl ?_
           refine t_nil ?_
           refine x_pullb 3 rfl ?_
           refine x_pullb 3 rfl ?_
           refine x_pullb 3 rfl ?_
           refine x_pullb 3 rfl ?_
           refine x_front2 [_, _, _, _] hs50555 hs50558 R rfl ?_
           refine x_front2 [_, _, _, _] hs50558 hs50555 R rfl ?_
           obtain rfl := some1 hm
           exact x_againS (e' := [(2, .slice A12 (l15).length c13), (3, .pointer (some ⟨g26003, 0, none⟩)), (4, .pointer (some ⟨g26004, 0, none⟩)), (14, .map (some g26107)), (15, .pointer (some ⟨g26119, 0, none⟩)), (16, .pointer (some ⟨g43396, 0, none⟩)), (86, .int .i64 ((s1.Tracks.length : Int))), (87, .int .i64 ((k49129 : Int) + 1))]) ⟨rfl, rfl, rfl, rfl, rfl, rfl, rfl, rfl, trivial⟩ (.refl _) ⟨hs50555, A50559, c50560, hs50558, rfl, rfl, ((hle49118.trans hle50553)), h50556, h50561⟩
         ·
          rintro b49117 _ _ ⟨hs49120, A49124, c49125, hs49123, rfl, rfl, hle49118, h49121, h49126⟩
          have hm := (unc2E hk49131)
          refine c_sr ?_
          refine t_st rfl (st_lss_f rfl rfl (by omega)) ?_
          refine t_ne ?_
          refine c_seq ?_
          refine c_cond_f rfl ?_
          refine c_exit ?_
          refine x_then_exit ?_
          refine x_then_exit ?_
          refine x_block_out ?_
          refine x_block_normal ?_
          refine x_pullb 2 rfl ?_
          refine x_pullb 2 rfl ?_
          refine x_pullb 2 rfl ?_
          refine x_front2 [_, _, _, _] hs49120 hs49123 R rfl ?_
          refine x_front2 [_, _, _, _] hs49123 hs49120 R rfl ?_
          exact x_againM (l49127, l49128) (Option.some.inj hm).symm (e' := [(2, .slice A12 (l15).length c13), (3, .pointer (some ⟨g26003, 0, none⟩)), (4, .pointer (some ⟨g26004, 0, none⟩)), (14, .map (some g26107)), (15, .pointer (some ⟨g26119, 0, none⟩))]) ⟨rfl, rfl, rfl, rfl, rfl, trivial⟩ (.cons_cons _ (.cons_cons _ (.cons_cons _ (.cons _ (.refl _))))) ⟨hs49120, A49124, c49125, hs49123, rfl, rfl, ((hle43363.trans (hle43382.trans hle49118))), h49121, h49126⟩

set_option maxRecDepth 20000 in
theorem cFleetPlay (b : Base) (R : Hp) (s1 : FleetDepot) (l11 : (List FleetMove)) (A2 : Option Addr) (c3 : Nat) (A5 : Option Addr) (c6 : Nat) (A8 : Option Addr) (c9 : Nat) (h4 : FZ (RT.int .i64) b.w A2 c3 s1.Room) (h7 : FZ (RT.list (RT.int .i64)) b.w A5 c6 s1.Tracks) (h10 : FZ rFleetMove b.w A8 c9 l11) (x368 : Int) (l369 : (List Int)) (l370 : (List (List Int))) (l372 : (List Int)) (hm : mFleetPlay s1 l11 = some (x368, l369, l370, l372)) :
    CallsG Try.prog 31 [.agg #[.slice A2 (s1.Room).length c3, .slice A5 (s1.Tracks).length c6], .slice A8 (l11).length c9] b (R) (fun v b' hp' => ∃ (A355 : Option Addr), ∃ (c356 : Nat), ∃ (hs354 : Hp), ∃ (A360 : Option Addr), ∃ (c361 : Nat), ∃ (hs359 : Hp), ∃ (A365 : Option Addr), ∃ (c366 : Nat), ∃ (hs364 : Hp), .tuple #[.agg #[.slice A355 (l369).length c356, .slice A360 (l370).length c361], .slice A365 (l372).length c366, .int .i64 (x368)] = v ∧ (hs354 ++ (hs359 ++ (hs364 ++ R))) = hp' ∧ OS 3 (OT.fr (RT.int .i64)) b'.w (.slice A355 l369.length c356) l369 hs354 ∧ OS 45 (OT.list 3 (OT.fr (RT.int .i64))) b'.w (.slice A360 l370.length c361) l370 hs359 ∧ (A360 = none ↔ l370 = []) ∧ OS 3 (OT.fr (RT.int .i64)) b'.w (.slice A365 l372.length c366) l372 hs364) := by
  refine fn_enterG 70 Try.func31 rfl Try.ntmps31 rfl ?_
  unfold mFleetPlay at hm
  refine c_sr ?_
  refine t_do rfl (u_box _ rfl rfl) ?_
  rintro _ _ ⟨g373, rfl, rfl⟩
  refine t_do rfl (u_alloc [.slice none 0 0, .slice none 0 0] zero63 rfl) ?_
  rintro _ _ ⟨g374, rfl, rfl⟩
  refine t_as rfl rfl ?_
  refine t_as rfl rfl ?_
  refine t_ne ?_
  refine c_seq ?_
  refine c_sr ?_
  refine t_st rfl (st_loadD (vs := [_, _]) 1 2 rfl agg63 rfl rfl rfl) ?_
  obtain ⟨x375, hcl376, hm⟩ := bindS hm
  refine t_do rfl (u_callW0 _ call59 rfl (fun w ho => cFleetCheckDepot _ [] s1 A2 c3 A5 c6 (h4.old ho) (h7.old ho) x375 hcl376) (fun _ _ _ h => h.2.symm)) ?_
  rintro _ _ ⟨⟨_, rfl, _⟩, rfl⟩
  refine t_as rfl rfl ?_
  refine t_ne ?_
  refine c_sr ?_
  refine t_mv rfl rfl ?_
  refine t_st rfl (st_neq rfl rfl) ?_
  refine t_ne ?_
  refine c_cond _ rfl (fun hc377 => ?_) (fun hc377 => ?_)
  ·
   rw [if_pos (of_decide_eq_true hc377)] at hm
   refine c_sr ?_
   refine t_st rfl (st_build (v := .agg #[.slice none 0 0, .slice none 0 0]) [] rfl (fun _ => by kernel_rfl)) ?_
   refine t_mv rfl rfl ?_
   refine t_do rfl (u_storeN (vs := [_, _]) 0 2 rfl rfl rfl siz63 rfl (mem_c rfl (mem_c rfl mem_n)) rfl (by simp)) ?_
   rintro _ _ rfl
   refine t_as rfl rfl ?_
   refine t_as rfl rfl ?_
   refine t_ne ?_
   refine c_ret ?_
   refine x_then_ret ?_
   obtain ⟨rfl, rfl, rfl, rfl⟩ := some4 hm
   exact retM (rs := [.cell 4 63, .tmp 5, .tmp 6]) [.agg #[.slice none 0 0, .slice none 0 0], .slice none 0 0, .int .i64 (x375)] (Base.Le.refl _) (by decide) rfl ⟨⟨_, rfl, fun w ho => cell_agg (vs := [_, _]) 0 2 agg63 rfl rfl rfl w ho⟩, ⟨rfl, ⟨rfl, trivial⟩⟩⟩ rfl (.cons _ (.cons _ (.refl _))) ⟨none, 0, [], none, 0, [], none, 0, [], rfl, rfl, OS.nil, OS.nil, ⟨fun _ => rfl, fun _ => rfl⟩, OS.nil⟩
  ·
   rw [if_neg (of_decide_eq_false hc377)] at hm
   refine c_skip ?_
   refine x_then_normal ?_
   refine c_sr ?_
   refine t_st rfl (st_field rfl fld63_0) ?_
   refine t_st rfl (st_load 1 rfl one45 rfl rfl) ?_
   obtain ⟨l378, hcl379, hm⟩ := bindS hm
   refine t_callG _ rfl call66 rfl (cSlicesClone _ _ s1.Room A2 c3 h4 l378 hcl379) ?_
   rintro _ b380 _ hle381 ⟨A382, c383, hs384, rfl, rfl, h385⟩
   refine t_in1 [] [_, _] hs384 R rfl ?_
   refine t_st rfl (st_build (v := .agg #[.slice A382 (l378).length c383, .slice none 0 0]) [(0, .slice A382 (l378).length c383)] rfl (fun _ => by kernel_rfl)) ?_
   refine t_do rfl (u_alloc [.slice none 0 0, .slice none 0 0] zero63 rfl) ?_
   rintro _ _ ⟨g386, rfl, rfl⟩
   refine t_do rfl (u_storeN (vs := [_, _]) 0 2 rfl rfl rfl siz63 rfl (mem_c rfl (mem_c rfl mem_n)) rfl (by simp)) ?_
   rintro _ _ rfl
   refine t_ne ?_
   refine c_seq ?_
   refine c_sr ?_
   refine t_st rfl (st_field rfl fld63_1) ?_
   refine t_st rfl (st_load 2 rfl one26 rfl rfl) ?_
   refine t_st rfl (st_len rfl sl26) ?_
   refine t_mv rfl rfl ?_
   refine t_ne ?_
   refine c_block ?_
   have hb388 : s1.Tracks.length ≤ 9223372036854775807 := (FZ.bd (h7.le hle381))
   refine c_pullb 1 rfl ?_
   obtain ⟨l487, hl490, hk491⟩ := bindS hm
   refine c_forS (fun k489 => fun l487 => fun b480 e' hp' => ∃ (A484 : Option Addr), ∃ (c485 : Nat), ∃ (hs483 : Hp), [(1, .slice A8 (l11).length c9), (4, .pointer (some ⟨g374, 0, none⟩)), (8, .pointer (some ⟨g386, 0, none⟩)), (28, .slice A5 (s1.Tracks).length c6), (29, .int .i64 ((s1.Tracks.length : Int))), (30, .int .i64 ((k489 : Int)))] = e' ∧ (g374, Cl 63 [.slice none 0 0, .slice none 0 0]) :: (g386, Cl 63 [.slice A382 (l378).length c383, .slice A484 (l487).length c485]) :: (hs384 ++ (hs483 ++ R)) = hp' ∧ b380.Le b480 ∧ OS 45 (OT.list 3 (OT.fr (RT.int .i64))) b480.w (.slice A484 l487.length c485) l487 hs483 ∧ (A484 = none ↔ l487 = [])) hl490 (e' := [(1, .slice A8 (l11).length c9), (4, .pointer (some ⟨g374, 0, none⟩)), (8, .pointer (some ⟨g386, 0, none⟩)), (28, .slice A5 (s1.Tracks).length c6), (29, .int .i64 ((s1.Tracks.length : Int))), (30, .int .i64 0)]) ⟨rfl, rfl, rfl, rfl, rfl, rfl, trivial⟩ (.cons_cons _ (.cons_cons _ (.cons _ (.refl _)))) ⟨none, 0, [], rfl, rfl, (Base.Le.refl _), OS.nil, ⟨fun _ => rfl, fun _ => rfl⟩⟩ ?_ ?_
   ·
    rintro k489 l487 b480 _ _ oL387 hknL387 ⟨A484, c485, hs483, rfl, rfl, hle481, h486, hnz488⟩ hstepL387
    unfold mFleetPlay_L387 at hstepL387
    have hm := hstepL387
    refine c_sr ?_
    refine t_st rfl (st_lss_t rfl rfl (by omega)) ?_
    refine t_ne ?_
    refine c_seq ?_
    refine c_cond_t rfl ?_
    refine c_skip ?_
    refine x_then_normal ?_
    refine c_seq ?_
    refine c_block ?_
    refine c_sr ?_
    obtain ⟨x492, h493, hm⟩ := bindS hm
    obtain ⟨j494, hj495, hx496⟩ := idx_some h493
    obtain ⟨cs497, hr498, hcs499, hA500, hlt501⟩ := FZ.get (sz := 1) rfl (by decide) (h7.le (hle381.trans hle481)) hx496
    obtain ⟨A502, c503, rfl, h504⟩ := hr498
    refine t_st rfl (st_index_old j494 rfl rfl hj495 hlt501 hA500 sl26) ?_
    refine t_st rfl (st_load_old rfl one45 (hcs499 0 _ rfl)) ?_
    refine t_as rfl rfl ?_
    refine t_ne ?_
    obtain ⟨l519, hcl520, hm⟩ := bindS hm
    obtain ⟨_, h528, hm⟩ := bindS hm
    refine D_drawI mixed (.cons_cons _ (.cons _ (sub_app hs384 (sub_skip hs483 (.refl _))))) ?_
    refine E_st 0 rfl (st_field rfl fld63_1) ?_
    refine E_st 2 rfl (st_move rfl) ?_
    refine E_out ?_
    refine D_all [1, 3] (by kernel_rfl) rfl ?_
    refine R_do (Base.Le.refl _) rfl rfl (Stable.does (st_load 1 rfl one26 rfl rfl)) ?_ ?_
    ·
     rintro _ _ ⟨rfl, rfl⟩
     refine ⟨.inr (.cons_cons _ (.cons _ (sub_app hs384 (sub_skip hs483 (.refl _))))), ?_⟩
     refine D_all [3] (by kernel_rfl) rfl ?_
     refine R_callGl (Base.Le.refl _) rfl rfl _ call66 rfl (cSlicesClone _ _ x492 A502 c503 h504 l519 hcl520) ?_ ?_
     ·
      rintro _ b521 _ hle522 ⟨A523, c524, hs525, rfl, rfl, h526⟩
      refine ⟨.inr (sub_skip hs525 (.cons_cons _ (.cons _ (sub_app hs384 (sub_skip hs483 (.refl _)))))), ?_⟩
      refine d_in1 [] [_, _] hs525 (hs384 ++ (hs483 ++ R)) rfl ?_
      refine D_all [4] (by kernel_rfl) rfl ?_
      refine R_do hle522 rfl rfl (u_bslice (el := 45) [(0, .slice A523 (l519).length c524)] [.slice A523 (l519).length c524] rfl (fun _ => by kernel_rfl)) ?_ ?_
      ·
       rintro _ _ ⟨g527, rfl, rfl⟩
       refine ⟨.inr (.cons _ (.cons_cons _ (.cons _ (sub_skip hs525 (sub_app hs384 (sub_skip hs483 (.refl _))))))), ?_⟩
       have h528 := room_some h528
       refine d_front3 [_, _, _] hs525 hs384 hs483 R rfl ?_
       refine D_all [5] (by kernel_rfl) rfl ?_
       refine R_do hle522 rfl rfl (u_appOO (o := (OT.list 3 (OT.fr (RT.int .i64)))) (a := l519) [_, _, _] hs525 (hs384 ++ R) [.slice A523 (l519).length c524] rfl (by decide) sl26 inf45 rfl rfl rfl (h486.le hle522) rfl (fun w ho => Rd.own (i := 0) ho rfl) ⟨_, rfl, h526⟩ h528) ?_ ?_
       ·
        rintro _ _ ⟨hs529, rfl, h530⟩
        obtain ⟨A531, c532, rfl, _⟩ := h530.form
        refine ⟨.inr (.cons _ (.cons_cons _ (.cons _ (sub_skip hs529 (.refl _))))), ?_⟩
        refine D_st hle522 6 rfl (by kernel_rfl) (by kernel_rfl) (by kernel_rfl) rfl (st_field rfl fld63_1) (.cons _ (.cons_cons _ (.cons _ (sub_skip hs529 (.refl _))))) ?_
        refine D_all [7] (by kernel_rfl) rfl ?_
        refine R_do hle522 rfl rfl (u_store 2 rfl rfl siz26 rfl rfl (by simp)) ?_ ?_
        ·
         rintro _ _ rfl
         refine ⟨.inl (by kernel_rfl), ?_⟩
         refine D_done (by kernel_rfl) ?_
         refine x_block_normal ?_
         refine x_then_normal ?_
         refine c_region ?_
         refine t_st rfl (st_add rfl rfl (by omega)) ?_
         refine t_mv rfl rfl ?_
         refine t_nil ?_
         refine x_pullb 2 rfl ?_
         refine x_pullb 2 rfl ?_
         refine x_front2 [_, _, _] hs529 hs384 R rfl ?_
         obtain rfl := some1 hm
         exact x_againS (e' := [(1, .slice A8 (l11).length c9), (4, .pointer (some ⟨g374, 0, none⟩)), (8, .pointer (some ⟨g386, 0, none⟩)), (28, .slice A5 (s1.Tracks).length c6), (29, .int .i64 ((s1.Tracks.length : Int))), (30, .int .i64 ((k489 : Int) + 1))]) ⟨rfl, rfl, rfl, rfl, rfl, rfl, trivial⟩ (.cons_cons _ (.cons_cons _ (.cons _ (.refl _)))) ⟨A531, c532, hs529, rfl, rfl, ((hle481.trans hle522)), h530, (OS.nz h530 (by simp))⟩
        exact R_nil
       exact R_nil
      exact R_nil
     exact R_nil
    refine R_callGl (Base.Le.refl _) rfl rfl _ call66 rfl (cSlicesClone _ _ x492 A502 c503 h504 l519 hcl520) ?_ ?_
    ·
     rintro _ b521 _ hle522 ⟨A523, c524, hs525, rfl, rfl, h526⟩
     refine ⟨.inr (sub_skip hs525 (.cons_cons _ (.cons _ (sub_app hs384 (sub_skip hs483 (.refl _)))))), ?_⟩
     refine d_in1 [] [_, _] hs525 (hs384 ++ (hs483 ++ R)) rfl ?_
     refine D_all [1, 4] (by kernel_rfl) rfl ?_
     refine R_do hle522 rfl rfl (Stable.does (st_load 1 rfl one26 rfl rfl)) ?_ ?_
     ·
      rintro _ _ ⟨rfl, rfl⟩
      refine ⟨.inr (.cons_cons _ (.cons _ (sub_skip hs525 (sub_app hs384 (sub_skip hs483 (.refl _)))))), ?_⟩
      refine D_all [4] (by kernel_rfl) rfl ?_
      refine R_do hle522 rfl rfl (u_bslice (el := 45) [(0, .slice A523 (l519).length c524)] [.slice A523 (l519).length c524] rfl (fun _ => by kernel_rfl)) ?_ ?_
      ·
       rintro _ _ ⟨g527, rfl, rfl⟩
       refine ⟨.inr (.cons _ (.cons_cons _ (.cons _ (sub_skip hs525 (sub_app hs384 (sub_skip hs483 (.refl _))))))), ?_⟩
       have h528 := room_some h528
       refine d_front3 [_, _, _] hs525 hs384 hs483 R rfl ?_
       refine D_all [5] (by kernel_rfl) rfl ?_
       refine R_do hle522 rfl rfl (u_appOO (o := (OT.list 3 (OT.fr (RT.int .i64)))) (a := l519) [_, _, _] hs525 (hs384 ++ R) [.slice A523 (l519).length c524] rfl (by decide) sl26 inf45 rfl rfl rfl (h486.le hle522) rfl (fun w ho => Rd.own (i := 0) ho rfl) ⟨_, rfl, h526⟩ h528) ?_ ?_
       ·
        rintro _ _ ⟨hs529, rfl, h530⟩
        obtain ⟨A531, c532, rfl, _⟩ := h530.form
        refine ⟨.inr (.cons _ (.cons_cons _ (.cons _ (sub_skip hs529 (.refl _))))), ?_⟩
        refine D_st hle522 6 rfl (by kernel_rfl) (by kernel_rfl) (by kernel_rfl) rfl (st_field rfl fld63_1) (.cons _ (.cons_cons _ (.cons _ (sub_skip hs529 (.refl _))))) ?_
        refine D_all [7] (by kernel_rfl) rfl ?_
        refine R_do hle522 rfl rfl (u_store 2 rfl rfl siz26 rfl rfl (by simp)) ?_ ?_
        ·
         rintro _ _ rfl
         refine ⟨.inl (by kernel_rfl), ?_⟩
         refine D_done (by kernel_rfl) ?_
         refine x_block_normal ?_
         refine x_then_normal ?_
         refine c_region ?_
         refine t_st rfl (st_add rfl rfl (by omega)) ?_
         refine t_mv rfl rfl ?_
         refine t_nil ?_
         refine x_pullb 2 rfl ?_
         refine x_pullb 2 rfl ?_
         refine x_front2 [_, _, _] hs529 hs384 R rfl ?_
         obtain rfl := some1 hm
         exact x_againS (e' := [(1, .slice A8 (l11).length c9), (4, .pointer (some ⟨g374, 0, none⟩)), (8, .pointer (some ⟨g386, 0, none⟩)), (28, .slice A5 (s1.Tracks).length c6), (29, .int .i64 ((s1.Tracks.length : Int))), (30, .int .i64 ((k489 : Int) + 1))]) ⟨rfl, rfl, rfl, rfl, rfl, rfl, trivial⟩ (.cons_cons _ (.cons_cons _ (.cons _ (.refl _)))) ⟨A531, c532, hs529, rfl, rfl, ((hle481.trans hle522)), h530, (OS.nz h530 (by simp))⟩
        exact R_nil
       exact R_nil
      exact R_nil
     refine R_do hle522 rfl rfl (u_bslice (el := 45) [(0, .slice A523 (l519).length c524)] [.slice A523 (l519).length c524] rfl (fun _ => by kernel_rfl)) ?_ ?_
     ·
      rintro _ _ ⟨g527, rfl, rfl⟩
      refine ⟨.inr (.cons _ (.cons_cons _ (.cons _ (sub_skip hs525 (sub_app hs384 (sub_skip hs483 (.refl _))))))), ?_⟩
      refine D_all [1] (by kernel_rfl) rfl ?_
      refine R_do hle522 rfl rfl (Stable.does (st_load 2 rfl one26 rfl rfl)) ?_ ?_
      ·
       rintro _ _ ⟨rfl, rfl⟩
       refine ⟨.inr (.cons _ (.cons_cons _ (.cons _ (sub_skip hs525 (sub_app hs384 (sub_skip hs483 (.refl _))))))), ?_⟩
       have h528 := room_some h528
       refine d_front3 [_, _, _] hs525 hs384 hs483 R rfl ?_
       refine D_all [5] (by kernel_rfl) rfl ?_
       refine R_do hle522 rfl rfl (u_appOO (o := (OT.list 3 (OT.fr (RT.int .i64)))) (a := l519) [_, _, _] hs525 (hs384 ++ R) [.slice A523 (l519).length c524] rfl (by decide) sl26 inf45 rfl rfl rfl (h486.le hle522) rfl (fun w ho => Rd.own (i := 0) ho rfl) ⟨_, rfl, h526⟩ h528) ?_ ?_
       ·
        rintro _ _ ⟨hs529, rfl, h530⟩
        obtain ⟨A531, c532, rfl, _⟩ := h530.form
        refine ⟨.inr (.cons _ (.cons_cons _ (.cons _ (sub_skip hs529 (.refl _))))), ?_⟩
        refine D_st hle522 6 rfl (by kernel_rfl) (by kernel_rfl) (by kernel_rfl) rfl (st_field rfl fld63_1) (.cons _ (.cons_cons _ (.cons _ (sub_skip hs529 (.refl _))))) ?_
        refine D_all [7] (by kernel_rfl) rfl ?_
        refine R_do hle522 rfl rfl (u_store 2 rfl rfl siz26 rfl rfl (by simp)) ?_ ?_
        ·
         rintro _ _ rfl
         refine ⟨.inl (by kernel_rfl), ?_⟩
         refine D_done (by kernel_rfl) ?_
         refine x_block_normal ?_
         refine x_then_normal ?_
         refine c_region ?_
         refine t_st rfl (st_add rfl rfl (by omega)) ?_
         refine t_mv rfl rfl ?_
         refine t_nil ?_
         refine x_pullb 2 rfl ?_
         refine x_pullb 2 rfl ?_
         refine x_front2 [_, _, _] hs529 hs384 R rfl ?_
         obtain rfl := some1 hm
         exact x_againS (e' := [(1, .slice A8 (l11).length c9), (4, .pointer (some ⟨g374, 0, none⟩)), (8, .pointer (some ⟨g386, 0, none⟩)), (28, .slice A5 (s1.Tracks).length c6), (29, .int .i64 ((s1.Tracks.length : Int))), (30, .int .i64 ((k489 : Int) + 1))]) ⟨rfl, rfl, rfl, rfl, rfl, rfl, trivial⟩ (.cons_cons _ (.cons_cons _ (.cons _ (.refl _)))) ⟨A531, c532, hs529, rfl, rfl, ((hle481.trans hle522)), h530, (OS.nz h530 (by simp))⟩
        exact R_nil
       exact R_nil
      exact R_nil
     exact R_nil
    exact R_nil
   ·
    rintro b480 _ _ ⟨A484, c485, hs483, rfl, rfl, hle481, h486, hnz488⟩
    have hm := hk491
    refine c_sr ?_
    refine t_st rfl (st_lss_f rfl rfl (by omega)) ?_
    refine t_ne ?_
    refine c_seq ?_
    refine c_cond_f rfl ?_
    refine c_exit ?_
    refine x_then_exit ?_
    refine x_then_exit ?_
    refine x_block_out ?_
    refine x_then_normal ?_
    refine c_sr ?_
    refine t_as rfl rfl ?_
    refine t_ne ?_
    refine c_seq ?_
    refine c_sr ?_
    refine t_mv rfl rfl ?_
    refine t_st rfl (st_len rfl sl65) ?_
    refine t_mv rfl rfl ?_
    refine t_ne ?_
    refine c_block ?_
    have hb534 : l11.length ≤ 9223372036854775807 := (FZ.bd (h10.le (hle381.trans hle481)))
    refine c_pullb 1 rfl ?_
    refine c_pullb 1 rfl ?_
    refine c_front2 [_, _] hs384 hs483 R rfl ?_
    refine c_front2 [_, _] hs483 hs384 R rfl ?_
    obtain ⟨t665, hl666, hk667⟩ := bindS hm
    refine c_forM (fun k664 => unc3 fun l660 l661 l662 => fun b643 e' hp' => ∃ (A647 : Option Addr), ∃ (c648 : Nat), ∃ (hs646 : Hp), ∃ (A652 : Option Addr), ∃ (c653 : Nat), ∃ (hs651 : Hp), ∃ (A657 : Option Addr), ∃ (c658 : Nat), ∃ (hs656 : Hp), [(4, .pointer (some ⟨g374, 0, none⟩)), (8, .pointer (some ⟨g386, 0, none⟩)), (11, .slice A647 (l660).length c648), (42, .slice A8 (l11).length c9), (43, .int .i64 ((l11.length : Int))), (44, .int .i64 ((k664 : Int)))] = e' ∧ (g374, Cl 63 [.slice none 0 0, .slice none 0 0]) :: (g386, Cl 63 [.slice A652 (l661).length c653, .slice A657 (l662).length c658]) :: (hs646 ++ (hs651 ++ (hs656 ++ R))) = hp' ∧ b480.Le b643 ∧ OS 3 (OT.fr (RT.int .i64)) b643.w (.slice A647 l660.length c648) l660 hs646 ∧ OS 3 (OT.fr (RT.int .i64)) b643.w (.slice A652 l661.length c653) l661 hs651 ∧ OS 45 (OT.list 3 (OT.fr (RT.int .i64))) b643.w (.slice A657 l662.length c658) l662 hs656 ∧ (A657 = none ↔ l662 = [])) hl666 (e' := [(4, .pointer (some ⟨g374, 0, none⟩)), (8, .pointer (some ⟨g386, 0, none⟩)), (11, .slice none 0 0), (42, .slice A8 (l11).length c9), (43, .int .i64 ((l11.length : Int))), (44, .int .i64 0)]) ⟨rfl, rfl, rfl, rfl, rfl, rfl, trivial⟩ (.refl _) ⟨none, 0, [], A382, c383, hs384, A484, c485, hs483, rfl, rfl, (Base.Le.refl _), OS.nil, (h385.le hle481), h486, hnz488⟩ ?_ ?_
    ·
     rintro k664 ⟨l660, l661, l662⟩ b643 _ _ oL533 hknL533 ⟨A647, c648, hs646, A652, c653, hs651, A657, c658, hs656, rfl, rfl, hle644, h649, h654, h659, hnz663⟩ hstepL533 houtL533
     unfold mFleetPlay_L533 at hstepL533
     have hm := (unc3E hstepL533)
     refine c_sr ?_
     refine t_st rfl (st_lss_t rfl rfl (by omega)) ?_
     refine t_ne ?_
     refine c_seq ?_
     refine c_cond_t rfl ?_
     refine c_skip ?_
     refine x_then_normal ?_
     refine c_seq ?_
     refine c_block ?_
     refine c_sr ?_
     obtain ⟨x668, h669, hm⟩ := bindS hm
     obtain ⟨j670, hj671, hx672⟩ := idx_some h669
     obtain ⟨cs673, hr674, hcs675, hA676, hlt677⟩ := FZ.get (sz := 2) rfl (by decide) (h10.le (hle381.trans (hle481.trans hle644))) hx672
     obtain ⟨_, _, rfl, rfl, rfl⟩ := hr674
     refine t_st rfl (st_index_old j670 rfl rfl hj671 hlt677 hA676 sl65) ?_
     refine t_st rfl (st_loadN_old (vs := [.int .i64 (x668.From), .int .i64 (x668.To)]) 2 rfl agg126 hA676 rfl (fun j u hu => hcs675 j u hu)) ?_
     refine t_do rfl (u_alloc [.int .i64 0, .int .i64 0] zero126 rfl) ?_
     rintro _ _ ⟨g678, rfl, rfl⟩
     refine t_do rfl (u_storeN (vs := [_, _]) 0 2 rfl rfl rfl siz126 rfl (mem_c rfl (mem_c rfl mem_n)) rfl (by simp)) ?_
     rintro _ _ rfl
     refine t_ne ?_
     refine c_sr ?_
     refine t_st rfl (st_loadD (vs := [_, _]) 2 2 rfl agg63 rfl rfl rfl) ?_
     refine t_st rfl (st_loadD (vs := [_, _]) 0 2 rfl agg126 rfl rfl rfl) ?_
     refine t_front2 [_, _, _] hs646 hs651 (hs656 ++ R) rfl ?_
     refine t_frz [_, _, _] hs651 (hs646 ++ (hs656 ++ R)) rfl ?_
     intro b679 hle680 hz681
     have h682 := OS.frz (l := l661) h654 hle680.cells hz681
     refine t_front2 [_, _, _] hs646 hs656 R rfl ?_
     refine t_frz [_, _, _] hs656 (hs646 ++ R) rfl ?_
     intro b683 hle684 hz685
     have h686 := OS.frz (l := l662) (h659.le hle680) hle684.cells hz685
     obtain ⟨⟨x687, x688, l689, l690⟩, hcl691, hm⟩ := bindS hm
     have hm := (unc4E hm)
     refine t_callG _ rfl call64 rfl (cFleetDo _ _ (⟨l661, l662⟩ : FleetDepot) x668 A652 c653 A657 c658 (h682.le hle684) h686 x687 x688 l689 l690 hcl691) ?_
     rintro _ b692 _ hle693 ⟨A694, c695, hs696, A697, c698, hs699, rfl, rfl, h700, h701, h702⟩
     refine t_in2 [] [_, _, _] hs696 hs699 (hs646 ++ R) rfl ?_
     refine t_mv rfl rfl ?_
     refine t_st rfl (st_extract rfl rfl) ?_
     refine t_st rfl (st_extract rfl rfl) ?_
     refine t_st rfl (st_extract rfl rfl) ?_
     refine t_do rfl (u_alloc [.slice none 0 0, .slice none 0 0] zero63 rfl) ?_
     rintro _ _ ⟨g703, rfl, rfl⟩
     refine t_do rfl (u_storeN (vs := [_, _]) 0 2 rfl rfl rfl siz63 rfl (mem_c rfl (mem_c rfl mem_n)) rfl (by simp)) ?_
     rintro _ _ rfl
     refine t_as rfl rfl ?_
     refine t_as rfl rfl ?_
     refine t_ne ?_
     refine c_seq ?_
     refine c_sr ?_
     refine t_mv rfl rfl ?_
     refine t_st rfl (st_neq rfl rfl) ?_
     refine t_ne ?_
     refine c_cond _ rfl (fun hc704 => ?_) (fun hc704 => ?_)
     ·
      rw [if_pos (of_decide_eq_true hc704)] at hm
      refine c_sr ?_
      refine t_st rfl (st_build (v := .agg #[.slice none 0 0, .slice none 0 0]) [] rfl (fun _ => by kernel_rfl)) ?_
      refine t_mv rfl rfl ?_
      refine t_do rfl (u_storeN (vs := [_, _]) 2 2 rfl rfl rfl siz63 rfl (mem_c rfl (mem_c rfl mem_n)) rfl (by simp)) ?_
      rintro _ _ rfl
      refine t_as rfl rfl ?_
      refine t_as rfl rfl ?_
      refine t_ne ?_
      refine c_ret ?_
      refine x_then_ret ?_
      refine x_block_ret ?_
      refine x_then_ret ?_
      refine x_then_ret ?_
      refine x_block_ret ?_
      refine x_then_ret ?_
      have hq705 := houtL533 _ (Option.some.inj hm).symm
      rw [hq705] at hk667
      have hm := elimR hk667
      obtain ⟨rfl, rfl, rfl, rfl⟩ := some4 hm
      exact retM (rs := [.cell 4 63, .tmp 5, .tmp 6]) [.agg #[.slice none 0 0, .slice none 0 0], .slice none 0 0, .int .i64 (x688)] (hle381.trans (hle481.trans (hle644.trans (hle680.trans (hle684.trans hle693))))) (by decide) rfl ⟨⟨_, rfl, fun w ho => cell_agg (vs := [_, _]) 2 2 agg63 rfl rfl rfl w ho⟩, ⟨rfl, ⟨rfl, trivial⟩⟩⟩ rfl (.cons _ (.cons _ (.cons _ (.cons _ (sub_skip hs696 (sub_skip hs699 (sub_skip hs646 (.refl _)))))))) ⟨none, 0, [], none, 0, [], none, 0, [], rfl, rfl, OS.nil, OS.nil, ⟨fun _ => rfl, fun _ => rfl⟩, OS.nil⟩
     ·
      rw [if_neg (of_decide_eq_false hc704)] at hm
      refine c_skip ?_
      refine x_then_normal ?_
      refine c_sr ?_
      refine t_st rfl (st_loadD (vs := [_, _]) 0 2 rfl agg63 rfl rfl rfl) ?_
      refine t_do rfl (u_storeN (vs := [_, _]) 3 2 rfl rfl rfl siz63 rfl (mem_c rfl (mem_c rfl mem_n)) rfl (by simp)) ?_
      rintro _ _ rfl
      refine t_ne ?_
      refine c_sr ?_
      refine t_st rfl (st_field rfl fld126_1) ?_
      refine t_st rfl (st_load 1 rfl one3 rfl rfl) ?_
      refine t_st rfl (st_lss rfl rfl) ?_
      refine t_ne ?_
      refine c_cond _ rfl (fun hc706 => ?_) (fun hc706 => ?_)
      ·
       rw [if_pos (of_decide_eq_true hc706)] at hm
       refine c_region ?_
       refine t_mv rfl rfl ?_
       refine t_mv rfl rfl ?_
       refine t_do rfl (u_bslice (el := 3) [(0, .int .i64 (x687))] [.int .i64 (x687)] rfl (fun _ => by kernel_rfl)) ?_
       rintro _ _ ⟨g707, rfl, rfl⟩
       obtain ⟨_, h708, hm⟩ := bindS hm
       have h708 := room_some h708
       refine t_front3 [_, _, _, _, _] hs696 hs699 hs646 R rfl ?_
       refine t_do rfl (u_appOS (r := (RT.int .i64)) (l := l660) [_, _, _, _, _] (hs696 ++ (hs699 ++ R)) [[.int .i64 (x687)]] [x687] rfl (by decide) sl45 inf3 rfl rfl rfl rfl (h649.le (hle680.trans (hle684.trans hle693))) rfl (fun w ho => Rd.own (i := 0) ho rfl) ⟨rfl, trivial⟩ h708) ?_
       rintro _ _ ⟨hs709, rfl, h710⟩
       obtain ⟨A711, c712, rfl, _⟩ := h710.form
       refine t_as rfl rfl ?_
       refine t_nil ?_
       refine x_block_normal ?_
       refine x_then_normal ?_
       refine c_region ?_
       refine t_st rfl (st_add rfl rfl (by omega)) ?_
       refine t_mv rfl rfl ?_
       refine t_nil ?_
       refine x_pullb 4 rfl ?_
       refine x_pullb 4 rfl ?_
       refine x_front3 [_, _, _, _, _] hs709 hs696 hs699 R rfl ?_
       refine x_front3 [_, _, _, _, _] hs699 hs709 hs696 R rfl ?_
       refine x_front3 [_, _, _, _, _] hs696 hs699 hs709 R rfl ?_
       exact x_againM (l660 ++ [x687], l689, l690) (Option.some.inj hm).symm (e' := [(4, .pointer (some ⟨g374, 0, none⟩)), (8, .pointer (some ⟨g386, 0, none⟩)), (11, .slice A711 (l660 ++ [x687]).length c712), (42, .slice A8 (l11).length c9), (43, .int .i64 ((l11.length : Int))), (44, .int .i64 ((k664 : Int) + 1))]) ⟨rfl, rfl, rfl, rfl, rfl, rfl, trivial⟩ (.cons_cons _ (.cons_cons _ (.cons _ (.cons _ (.cons _ (.refl _)))))) ⟨A711, c712, hs709, A694, c695, hs696, A697, c698, hs699, rfl, rfl, ((hle644.trans (hle680.trans (hle684.trans hle693)))), h710, h700, h701, h702⟩
      ·
       rw [if_neg (of_decide_eq_false hc706)] at hm
       refine c_skip ?_
       refine x_block_normal ?_
       refine x_then_normal ?_
       refine c_region ?_
       refine t_st rfl (st_add rfl rfl (by omega)) ?_
       refine t_mv rfl rfl ?_
       refine t_nil ?_
       refine x_pullb 3 rfl ?_
       refine x_pullb 3 rfl ?_
       refine x_front2 [_, _, _, _] hs696 hs699 (hs646 ++ R) rfl ?_
       refine x_front2 [_, _, _, _] hs699 hs696 (hs646 ++ R) rfl ?_
       refine x_front3 [_, _, _, _] hs696 hs699 hs646 R rfl ?_
       exact x_againM (l660, l689, l690) (Option.some.inj hm).symm (e' := [(4, .pointer (some ⟨g374, 0, none⟩)), (8, .pointer (some ⟨g386, 0, none⟩)), (11, .slice A647 (l660).length c648), (42, .slice A8 (l11).length c9), (43, .int .i64 ((l11.length : Int))), (44, .int .i64 ((k664 : Int) + 1))]) ⟨rfl, rfl, rfl, rfl, rfl, rfl, trivial⟩ (.cons_cons _ (.cons_cons _ (.cons _ (.cons _ (.refl _))))) ⟨A647, c648, hs646, A694, c695, hs696, A697, c698, hs699, rfl, rfl, ((hle644.trans (hle680.trans (hle684.trans hle693)))), (h649.le (hle680.trans (hle684.trans hle693))), h700, h701, h702⟩
    ·
     rintro ⟨l660, l661, l662⟩ b643 _ _ ⟨A647, c648, hs646, A652, c653, hs651, A657, c658, hs656, rfl, rfl, hle644, h649, h654, h659, hnz663⟩ hq713
     rw [hq713] at hk667
     have hm := elimL hk667
     have hm := (unc3E hm)
     refine c_sr ?_
     refine t_st rfl (st_lss_f rfl rfl (by omega)) ?_
     refine t_ne ?_
     refine c_seq ?_
     refine c_cond_f rfl ?_
     refine c_exit ?_
     refine x_then_exit ?_
     refine x_then_exit ?_
     refine x_block_out ?_
     refine x_then_normal ?_
     refine c_sr ?_
     refine t_st rfl (st_loadD (vs := [_, _]) 1 2 rfl agg63 rfl rfl rfl) ?_
     refine t_mv rfl rfl ?_
     refine t_do rfl (u_storeN (vs := [_, _]) 0 2 rfl rfl rfl siz63 rfl (mem_c rfl (mem_c rfl mem_n)) rfl (by simp)) ?_
     rintro _ _ rfl
     refine t_as rfl rfl ?_
     refine t_as rfl rfl ?_
     refine t_ne ?_
     refine c_ret ?_
     obtain ⟨rfl, rfl, rfl, rfl⟩ := some4 hm
     refine x_front3 [_, _] hs646 hs651 hs656 R rfl ?_
     refine x_front3 [_, _] hs656 hs646 hs651 R rfl ?_
     exact retM (rs := [.cell 4 63, .tmp 5, .tmp 6]) [.agg #[.slice A652 (l661).length c653, .slice A657 (l662).length c658], .slice A647 (l660).length c648, .int .i64 (0)] (hle381.trans (hle481.trans hle644)) (by decide) rfl ⟨⟨_, rfl, fun w ho => cell_agg (vs := [_, _]) 0 2 agg63 rfl rfl rfl w ho⟩, ⟨rfl, ⟨rfl, trivial⟩⟩⟩ rfl (.cons _ (.cons _ (.refl _))) ⟨A652, c653, hs651, A657, c658, hs656, A647, c648, hs646, rfl, rfl, h654, h659, hnz663, h649⟩

end Go.Proofs.Ytajmocgpjkhjlaa
