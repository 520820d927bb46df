/- Contracts: the code computes its model (part 3). -/
import Derived.Test.YtajmocgpjkhjlaaNP2
set_option linter.unusedVariables false
set_option linter.unusedSimpArgs false
namespace Go.Proofs.Ytajmocgpjkhjlaa
open Go.RowKit Go.Fp

set_option maxRecDepth 20000 in
theorem cFleetMoments (b : Base) (R : Hp) (l4 : (List FleetTask)) (x5 : Int) (A1 : Option Addr) (c2 : Nat) (h3 : FZ rFleetTask b.w A1 c2 l4) (x1545 : Int) (l1546 : (List FleetMoment)) (hm : mFleetMoments l4 x5 = some (x1545, l1546)) :
    CallsG Try.prog 14 [.slice A1 (l4).length c2, .int .i64 (x5)] b (R) (fun v b' hp' => ∃ (A1542 : Option Addr), ∃ (c1543 : Nat), ∃ (hs1541 : Hp), .tuple #[.slice A1542 (l1546).length c1543, .int .i64 (x1545)] = v ∧ (hs1541 ++ R) = hp' ∧ OS 33 (OT.fr rFleetMoment) b'.w (.slice A1542 l1546.length c1543) l1546 hs1541) := by
  refine fn_enterG 94 Try.func14 rfl Try.ntmps14 rfl ?_
  unfold mFleetMoments at hm
  refine c_seq ?_
  refine c_region ?_
  refine t_st rfl (st_assign rfl) ?_
  refine t_st rfl (st_assign rfl) ?_
  refine t_nil ?_
  refine x_then_normal ?_
  refine c_seq ?_
  refine c_seq ?_
  refine c_region ?_
  refine t_st rfl (st_move rfl) ?_
  refine t_st rfl (st_move rfl) ?_
  obtain ⟨x1547, hcl1548, hm⟩ := bindS hm
  refine t_do rfl (u_callW0 _ call43 rfl (fun w ho => cFleetCheckTurn _ [] l4 x5 A1 c2 (h3.old ho) x1547 hcl1548) (fun _ _ _ h => h.2.symm)) ?_
  rintro _ _ ⟨⟨_, rfl, _⟩, rfl⟩
  refine t_st rfl (st_assign rfl) ?_
  refine t_nil ?_
  refine x_then_normal ?_
  refine c_seq ?_
  refine c_region ?_
  refine t_st rfl (st_move rfl) ?_
  refine t_st rfl (st_neq rfl rfl) ?_
  refine t_nil ?_
  refine x_then_normal ?_
  refine c_cond _ rfl (fun hc1549 => ?_) (fun hc1549 => ?_)
  ·
   rw [if_pos (of_decide_eq_true hc1549)] at hm
   refine c_seq ?_
   refine c_region ?_
   refine t_st rfl (st_move rfl) ?_
   refine t_st rfl (st_assign rfl) ?_
   refine t_st rfl (st_assign rfl) ?_
   refine t_nil ?_
   refine x_then_normal ?_
   refine c_ret ?_
   refine x_then_ret ?_
   obtain ⟨rfl, rfl⟩ := some2 hm
   exact retM (rs := [.tmp 4, .tmp 5]) [.slice none 0 0, .int .i64 (x1547)] (Base.Le.refl _) (by decide) rfl ⟨rfl, ⟨rfl, trivial⟩⟩ rfl (hp' := ([] ++ R)) (.refl _) ⟨none, 0, [], rfl, rfl, OS.nil⟩
  ·
   rw [if_neg (of_decide_eq_false hc1549)] at hm
   refine c_skip ?_
   refine x_then_normal ?_
   refine c_seq ?_
   refine c_region ?_
   refine t_st rfl (st_assign rfl) ?_
   refine t_nil ?_
   refine x_then_normal ?_
   refine c_seq ?_
   refine c_seq ?_
   refine c_region ?_
   refine t_st rfl (st_move rfl) ?_
   refine t_nil ?_
   refine x_then_normal ?_
   refine c_block ?_
   obtain ⟨l2573, hl2575, hk2576⟩ := bindS hm
   refine c_forS (fun k2574 => fun l2573 => fun b2566 e' hp' => ∃ (A2570 : Option Addr), ∃ (c2571 : Nat), ∃ (hs2569 : Hp), [(0, .slice A1 (l4).length c2), (1, .int .i64 (x5)), (7, .slice A2570 (l2573).length c2571), (22, .int .i64 ((k2574 : Int)))] = e' ∧ (hs2569 ++ R) = hp' ∧ b.Le b2566 ∧ OS 33 (OT.fr rFleetMoment) b2566.w (.slice A2570 l2573.length c2571) l2573 hs2569) hl2575 (e' := [(0, .slice A1 (l4).length c2), (1, .int .i64 (x5)), (7, .slice none 0 0), (22, .int .i64 0)]) (hp' := ([] ++ R)) ⟨rfl, rfl, rfl, rfl, trivial⟩ (.refl _) ⟨none, 0, [], rfl, rfl, (Base.Le.refl _), OS.nil⟩ ?_ ?_
   ·
    rintro k2574 l2573 b2566 _ _ oL1550 hknL1550 ⟨A2570, c2571, hs2569, rfl, rfl, hle2567, h2572⟩ hstepL1550
    unfold mFleetMoments_L1550 at hstepL1550
    have hm := hstepL1550
    refine c_seq ?_
    refine c_region ?_
    refine t_st rfl (st_lss_t rfl rfl (by omega)) ?_
    refine t_nil ?_
    refine x_then_normal ?_
    refine c_seq ?_
    refine c_cond_t rfl ?_
    refine c_skip ?_
    refine x_then_normal ?_
    refine c_seq ?_
    refine c_block ?_
    refine c_seq ?_
    refine c_region ?_
    refine t_st rfl (st_move rfl) ?_
    refine t_st rfl (st_assign rfl) ?_
    refine t_nil ?_
    refine x_then_normal ?_
    refine c_seq ?_
    refine c_region ?_
    refine t_st rfl (st_move rfl) ?_
    refine t_st rfl (st_build (v := .agg #[.int .i64 ((k2574 : Int)), .int .i64 (0), .int .i64 (0)]) [(0, .int .i64 ((k2574 : Int)))] rfl (fun _ => by kernel_rfl)) ?_
    refine t_do rfl (u_alloc [.int .i64 0, .int .i64 0, .int .i64 0] zero33 rfl) ?_
    rintro _ _ ⟨g2577, rfl, rfl⟩
    refine t_do rfl (u_storeN (vs := [_, _, _]) 0 3 rfl rfl rfl siz33 rfl (by intro u hu; simp only [List.mem_cons, List.not_mem_nil, or_false] at hu; rcases hu with rfl | rfl | rfl <;> rfl) rfl (by simp)) ?_
    rintro _ _ rfl
    refine t_nil ?_
    refine x_then_normal ?_
    refine c_seq ?_
    refine c_seq ?_
    refine c_region ?_
    refine t_st rfl (st_move rfl) ?_
    obtain ⟨l2578, hcl2579, hm⟩ := bindS hm
    refine t_callG _ rfl call44 rfl (cFleetOrder _ _ l4 A1 c2 (h3.le hle2567) l2578 hcl2579) ?_
    rintro _ b2580 _ hle2581 ⟨A2582, c2583, hs2584, rfl, rfl, h2585⟩
    refine t_in1 [] [_] hs2584 (hs2569 ++ R) rfl ?_
    refine t_st rfl (st_len rfl sl45) ?_
    refine t_st rfl (st_move rfl) ?_
    refine t_nil ?_
    refine x_then_normal ?_
    refine c_block ?_
    have hb2587 : l2578.length ≤ 9223372036854775807 := (OS.len h2585)
    refine c_front2 [_] hs2584 hs2569 R rfl ?_
    obtain ⟨⟨x2910, x2911⟩, hl2913, hk2914⟩ := bindS hm
    refine c_forS (fun k2912 => unc2 fun x2910 x2911 => fun b2908 e' hp' => [(0, .slice A1 (l4).length c2), (1, .int .i64 (x5)), (7, .slice A2570 (l2573).length c2571), (8, .int .i64 ((k2574 : Int))), (9, .pointer (some ⟨g2577, 0, none⟩)), (22, .int .i64 ((k2574 : Int))), (28, .slice A2582 (l2578).length c2583), (29, .int .i64 ((l2578.length : Int))), (30, .int .i64 ((k2912 : Int)))] = e' ∧ (g2577, Cl 33 [.int .i64 ((k2574 : Int)), .int .i64 (x2910), .int .i64 (x2911)]) :: (hs2569 ++ (hs2584 ++ R)) = hp' ∧ b2580.Le b2908) hl2913 (e' := [(0, .slice A1 (l4).length c2), (1, .int .i64 (x5)), (7, .slice A2570 (l2573).length c2571), (8, .int .i64 ((k2574 : Int))), (9, .pointer (some ⟨g2577, 0, none⟩)), (22, .int .i64 ((k2574 : Int))), (28, .slice A2582 (l2578).length c2583), (29, .int .i64 ((l2578.length : Int))), (30, .int .i64 0)]) (hp' := (g2577, Cl 33 [.int .i64 ((k2574 : Int)), .int .i64 (0), .int .i64 (0)]) :: (hs2569 ++ (hs2584 ++ R))) ⟨rfl, rfl, rfl, rfl, rfl, rfl, rfl, rfl, rfl, trivial⟩ (.cons_cons _ (sub_app hs2569 (sub_app hs2584 (.refl _)))) ⟨rfl, rfl, (Base.Le.refl _)⟩ ?_ ?_
    ·
     rintro k2912 ⟨x2910, x2911⟩ b2908 _ _ oL2586 hknL2586 ⟨rfl, rfl, hle2909⟩ hstepL2586
     unfold mFleetMoments_L2586 at hstepL2586
     have hm := (unc2E hstepL2586)
     refine c_seq ?_
     refine c_region ?_
     refine t_st rfl (st_lss_t rfl rfl (by omega)) ?_
     refine t_nil ?_
     refine x_then_normal ?_
     refine c_seq ?_
     refine c_cond_t rfl ?_
     refine c_skip ?_
     refine x_then_normal ?_
     refine c_seq ?_
     refine c_block ?_
     refine c_seq ?_
     refine c_region ?_
     obtain ⟨x2915, h2916, hm⟩ := bindS hm
     obtain ⟨j2917, hj2918, hx2919⟩ := idx_some h2916
     obtain ⟨cs2920, hs2925, P2926, P2927, hq2928, hr2921, hcs2922, hA2923, hlt2924, hb2929, hho2930⟩ := OS.get (sz := 1) rfl (by decide) (h2585.le hle2909) hx2919
     obtain ⟨rfl, rfl⟩ := hr2921
     refine t_st rfl (st_index_old j2917 rfl rfl hj2918 hlt2924 hA2923 sl45) ?_
     refine t_st rfl (st_load_rd rfl one3 (fun w ho => hcs2922 w _ ho (.cons _ (sub_skip hs2569 (List.sublist_append_left _ _))) 0 _ rfl)) ?_
     refine t_st rfl (st_assign rfl) ?_
     refine t_nil ?_
     refine x_then_normal ?_
     refine c_seq ?_
     refine c_region ?_
     refine t_st rfl (st_move rfl) ?_
     refine t_st rfl (st_move rfl) ?_
     obtain ⟨x2931, h2932, hm⟩ := bindS hm
     obtain ⟨j2933, hj2934, hx2935⟩ := idx_some h2932
     obtain ⟨cs2936, hr2937, hcs2938, hA2939, hlt2940⟩ := FZ.get (sz := 6) rfl (by decide) (h3.le (hle2567.trans (hle2581.trans hle2909))) hx2935
     obtain ⟨_, _, rfl, rfl, ⟨_, _, rfl, rfl, ⟨_, _, rfl, rfl, ⟨_, _, rfl, rfl, ⟨_, _, rfl, rfl, rfl⟩⟩⟩⟩⟩ := hr2937
     refine t_st rfl (st_index_old j2933 rfl rfl hj2934 hlt2940 hA2939 sl22) ?_
     refine t_st rfl (st_field_old rfl hA2939 fld36_2) ?_
     refine t_st rfl (st_load_old rfl one3 (hcs2938 2 _ rfl)) ?_
     refine t_st rfl (st_assign rfl) ?_
     refine t_st rfl (st_assign rfl) ?_
     refine t_nil ?_
     refine x_then_normal ?_
     refine c_seq ?_
     refine c_seq ?_
     refine c_region ?_
     refine t_st rfl (st_move rfl) ?_
     refine t_st rfl (st_len rfl sl22) ?_
     refine t_st rfl (st_move rfl) ?_
     refine t_nil ?_
     refine x_then_normal ?_
     refine c_block ?_
     have hb2942 : l4.length ≤ 9223372036854775807 := (FZ.bd (h3.le (hle2567.trans (hle2581.trans hle2909))))
     refine c_front2 [_] hs2569 hs2584 R rfl ?_
     refine c_front2 [_] hs2584 hs2569 R rfl ?_
     obtain ⟨x3028, hl3030, hk3031⟩ := bindS hm
     refine c_forS (fun k3029 => fun x3028 => fun b3026 e' hp' => [(0, .slice A1 (l4).length c2), (1, .int .i64 (x5)), (7, .slice A2570 (l2573).length c2571), (8, .int .i64 ((k2574 : Int))), (9, .pointer (some ⟨g2577, 0, none⟩)), (12, .int .i64 (x2931.Dep)), (13, .int .i64 (x3028)), (22, .int .i64 ((k2574 : Int))), (28, .slice A2582 (l2578).length c2583), (29, .int .i64 ((l2578.length : Int))), (30, .int .i64 ((k2912 : Int))), (39, .slice A1 (l4).length c2), (40, .int .i64 ((l4.length : Int))), (41, .int .i64 ((k3029 : Int)))] = e' ∧ (g2577, Cl 33 [.int .i64 ((k2574 : Int)), .int .i64 (x2910), .int .i64 (x2911)]) :: (hs2569 ++ (hs2584 ++ R)) = hp' ∧ b2908.Le b3026) hl3030 (e' := [(0, .slice A1 (l4).length c2), (1, .int .i64 (x5)), (7, .slice A2570 (l2573).length c2571), (8, .int .i64 ((k2574 : Int))), (9, .pointer (some ⟨g2577, 0, none⟩)), (12, .int .i64 (x2931.Dep)), (13, .int .i64 (0)), (22, .int .i64 ((k2574 : Int))), (28, .slice A2582 (l2578).length c2583), (29, .int .i64 ((l2578.length : Int))), (30, .int .i64 ((k2912 : Int))), (39, .slice A1 (l4).length c2), (40, .int .i64 ((l4.length : Int))), (41, .int .i64 0)]) (hp' := (g2577, Cl 33 [.int .i64 ((k2574 : Int)), .int .i64 (x2910), .int .i64 (x2911)]) :: (hs2569 ++ (hs2584 ++ R))) ⟨rfl, rfl, rfl, rfl, rfl, rfl, rfl, rfl, rfl, rfl, rfl, rfl, rfl, rfl, trivial⟩ (.cons_cons _ (sub_app hs2569 (sub_app hs2584 (.refl _)))) ⟨rfl, rfl, (Base.Le.refl _)⟩ ?_ ?_
     ·
      rintro k3029 x3028 b3026 _ _ oL2941 hknL2941 ⟨rfl, rfl, hle3027⟩ hstepL2941
      unfold mFleetMoments_L2941 at hstepL2941
      have hm := hstepL2941
      refine c_seq ?_
      refine c_region ?_
      refine t_st rfl (st_lss_t rfl rfl (by omega)) ?_
      refine t_nil ?_
      refine x_then_normal ?_
      refine c_seq ?_
      refine c_cond_t rfl ?_
      refine c_skip ?_
      refine x_then_normal ?_
      refine c_seq ?_
      refine c_block ?_
      refine c_seq ?_
      refine c_region ?_
      obtain ⟨x3032, h3033, hm⟩ := bindS hm
      obtain ⟨j3034, hj3035, hx3036⟩ := idx_some h3033
      obtain ⟨cs3037, hr3038, hcs3039, hA3040, hlt3041⟩ := FZ.get (sz := 6) rfl (by decide) (h3.le (hle2567.trans (hle2581.trans (hle2909.trans hle3027)))) hx3036
      obtain ⟨_, _, rfl, rfl, ⟨_, _, rfl, rfl, ⟨_, _, rfl, rfl, ⟨_, _, rfl, rfl, ⟨_, _, rfl, rfl, rfl⟩⟩⟩⟩⟩ := hr3038
      refine t_st rfl (st_index_old j3034 rfl rfl hj3035 hlt3041 hA3040 sl22) ?_
      refine t_st rfl (st_loadN_old (vs := [.int .i64 (x3032.From), .int .i64 (x3032.To), .int .i64 (x3032.Dep), .int .i64 (x3032.Arr), .int .i64 (x3032.Km), .int .i64 (x3032.Units)]) 6 rfl agg36 hA3040 rfl (fun j u hu => hcs3039 j u hu)) ?_
      refine t_do rfl (u_alloc [.int .i64 0, .int .i64 0, .int .i64 0, .int .i64 0, .int .i64 0, .int .i64 0] zero36 rfl) ?_
      rintro _ _ ⟨g3042, rfl, rfl⟩
      refine t_do rfl (u_storeN (vs := [_, _, _, _, _, _]) 0 6 rfl rfl rfl siz36 rfl (by intro u hu; simp only [List.mem_cons, List.not_mem_nil, or_false] at hu; rcases hu with rfl | rfl | rfl | rfl | rfl | rfl <;> rfl) rfl (by simp)) ?_
      rintro _ _ rfl
      refine t_nil ?_
      refine x_then_normal ?_
      obtain ⟨x3053, hj3054, hk3054⟩ := bindS hm
      refine c_join (fun b3051 e' hp' => [(0, .slice A1 (l4).length c2), (1, .int .i64 (x5)), (7, .slice A2570 (l2573).length c2571), (8, .int .i64 ((k2574 : Int))), (9, .pointer (some ⟨g2577, 0, none⟩)), (12, .int .i64 (x2931.Dep)), (13, .int .i64 (x3053)), (15, .pointer (some ⟨g3042, 0, none⟩)), (22, .int .i64 ((k2574 : Int))), (28, .slice A2582 (l2578).length c2583), (29, .int .i64 ((l2578.length : Int))), (30, .int .i64 ((k2912 : Int))), (39, .slice A1 (l4).length c2), (40, .int .i64 ((l4.length : Int))), (41, .int .i64 ((k3029 : Int)))] = e' ∧ (g2577, Cl 33 [.int .i64 ((k2574 : Int)), .int .i64 (x2910), .int .i64 (x2911)]) :: (g3042, Cl 36 [.int .i64 (x3032.From), .int .i64 (x3032.To), .int .i64 (x3032.Dep), .int .i64 (x3032.Arr), .int .i64 (x3032.Km), .int .i64 (x3032.Units)]) :: (hs2569 ++ (hs2584 ++ R)) = hp' ∧ b3026.Le b3051) ?_ ?_
      ·
       have hm := hj3054
       obtain ⟨x3058, hj3059, hk3059⟩ := bindS hm
       refine c_join (fun b3056 e' hp' => [(0, .slice A1 (l4).length c2), (1, .int .i64 (x5)), (7, .slice A2570 (l2573).length c2571), (8, .int .i64 ((k2574 : Int))), (9, .pointer (some ⟨g2577, 0, none⟩)), (12, .int .i64 (x2931.Dep)), (13, .int .i64 (x3028)), (15, .pointer (some ⟨g3042, 0, none⟩)), (22, .int .i64 ((k2574 : Int))), (28, .slice A2582 (l2578).length c2583), (29, .int .i64 ((l2578.length : Int))), (30, .int .i64 ((k2912 : Int))), (39, .slice A1 (l4).length c2), (40, .int .i64 ((l4.length : Int))), (41, .int .i64 ((k3029 : Int))), (54, .bool (x3058))] = e' ∧ (g2577, Cl 33 [.int .i64 ((k2574 : Int)), .int .i64 (x2910), .int .i64 (x2911)]) :: (g3042, Cl 36 [.int .i64 (x3032.From), .int .i64 (x3032.To), .int .i64 (x3032.Dep), .int .i64 (x3032.Arr), .int .i64 (x3032.Km), .int .i64 (x3032.Units)]) :: (hs2569 ++ (hs2584 ++ R)) = hp' ∧ b3026.Le b3056) ?_ ?_
       ·
        have hm := hj3059
        refine c_region ?_
        refine t_st rfl (st_field rfl fld36_0) ?_
        refine t_st rfl (st_load 0 rfl one3 rfl rfl) ?_
        refine t_st rfl (st_move rfl) ?_
        refine t_bool rfl (st_eql rfl rfl) (fun hc3060 => ?_) (fun hc3060 => ?_)
        ·
         rw [if_pos hc3060] at hm
         refine t_st rfl (st_move rfl) ?_
         refine t_yes 49 rfl rfl rfl ?_
         refine t_st rfl (st_field rfl fld36_2) ?_
         refine t_yes 49 rfl rfl rfl ?_
         refine t_st rfl (st_load 0 rfl one3 rfl rfl) ?_
         refine t_yes 49 rfl rfl rfl ?_
         refine t_st rfl (st_move rfl) ?_
         refine t_yes 49 rfl rfl rfl ?_
         refine t_st rfl (st_leq rfl rfl) ?_
         refine t_st rfl (st_pick_t rfl rfl) ?_
         refine t_nil ?_
         obtain rfl := some1 hm
         refine x_pullb 1 rfl ?_
         refine x_front2 [_, _] hs2569 hs2584 R rfl ?_
         refine x_front2 [_, _] hs2584 hs2569 R rfl ?_
         exact x_join (e' := [(0, .slice A1 (l4).length c2), (1, .int .i64 (x5)), (7, .slice A2570 (l2573).length c2571), (8, .int .i64 ((k2574 : Int))), (9, .pointer (some ⟨g2577, 0, none⟩)), (12, .int .i64 (x2931.Dep)), (13, .int .i64 (x3028)), (15, .pointer (some ⟨g3042, 0, none⟩)), (22, .int .i64 ((k2574 : Int))), (28, .slice A2582 (l2578).length c2583), (29, .int .i64 ((l2578.length : Int))), (30, .int .i64 ((k2912 : Int))), (39, .slice A1 (l4).length c2), (40, .int .i64 ((l4.length : Int))), (41, .int .i64 ((k3029 : Int))), (54, .bool (decide (x3032.Dep ≤ x2931.Dep)))]) (hp' := (g2577, Cl 33 [.int .i64 ((k2574 : Int)), .int .i64 (x2910), .int .i64 (x2911)]) :: (g3042, Cl 36 [.int .i64 (x3032.From), .int .i64 (x3032.To), .int .i64 (x3032.Dep), .int .i64 (x3032.Arr), .int .i64 (x3032.Km), .int .i64 (x3032.Units)]) :: (hs2569 ++ (hs2584 ++ R))) ⟨rfl, rfl, rfl, rfl, rfl, rfl, rfl, rfl, rfl, rfl, rfl, rfl, rfl, rfl, rfl, rfl, trivial⟩ (.cons_cons _ (.cons_cons _ (sub_app hs2569 (sub_app hs2584 (.refl _))))) ⟨rfl, rfl, (Base.Le.refl _)⟩
        ·
         rw [if_neg hc3060] at hm
         refine t_st rfl (st_move rfl) ?_
         refine t_no 49 rfl rfl rfl rfl rfl ?_
         refine t_no 49 rfl rfl rfl rfl rfl ?_
         refine t_no 49 rfl rfl rfl rfl rfl ?_
         refine t_no 49 rfl rfl rfl rfl rfl ?_
         refine t_st rfl (st_pick_f rfl rfl) ?_
         refine t_nil ?_
         obtain rfl := some1 hm
         refine x_pullb 1 rfl ?_
         refine x_front2 [_, _] hs2569 hs2584 R rfl ?_
         refine x_front2 [_, _] hs2584 hs2569 R rfl ?_
         exact x_join (e' := [(0, .slice A1 (l4).length c2), (1, .int .i64 (x5)), (7, .slice A2570 (l2573).length c2571), (8, .int .i64 ((k2574 : Int))), (9, .pointer (some ⟨g2577, 0, none⟩)), (12, .int .i64 (x2931.Dep)), (13, .int .i64 (x3028)), (15, .pointer (some ⟨g3042, 0, none⟩)), (22, .int .i64 ((k2574 : Int))), (28, .slice A2582 (l2578).length c2583), (29, .int .i64 ((l2578.length : Int))), (30, .int .i64 ((k2912 : Int))), (39, .slice A1 (l4).length c2), (40, .int .i64 ((l4.length : Int))), (41, .int .i64 ((k3029 : Int))), (54, .bool (false))]) (hp' := (g2577, Cl 33 [.int .i64 ((k2574 : Int)), .int .i64 (x2910), .int .i64 (x2911)]) :: (g3042, Cl 36 [.int .i64 (x3032.From), .int .i64 (x3032.To), .int .i64 (x3032.Dep), .int .i64 (x3032.Arr), .int .i64 (x3032.Km), .int .i64 (x3032.Units)]) :: (hs2569 ++ (hs2584 ++ R))) ⟨rfl, rfl, rfl, rfl, rfl, rfl, rfl, rfl, rfl, rfl, rfl, rfl, rfl, rfl, rfl, rfl, trivial⟩ (.cons_cons _ (.cons_cons _ (sub_app hs2569 (sub_app hs2584 (.refl _))))) ⟨rfl, rfl, (Base.Le.refl _)⟩
       ·
        rintro b3056 _ _ ⟨rfl, rfl, hle3057⟩
        have hm := hk3059
        refine c_cond _ rfl (fun hc3061 => ?_) (fun hc3061 => ?_)
        ·
         rw [if_pos hc3061] at hm
         refine c_region ?_
         refine t_st rfl (st_move rfl) ?_
         refine t_st rfl (st_field rfl fld36_5) ?_
         refine t_st rfl (st_load 1 rfl one3 rfl rfl) ?_
         obtain ⟨_, h3062, hm⟩ := bindS hm
         have h3062 := (chk_some h3062).2
         refine t_st rfl (st_add rfl rfl h3062) ?_
         refine t_st rfl (st_assign rfl) ?_
         refine t_nil ?_
         obtain rfl := some1 hm
         refine x_pullb 1 rfl ?_
         refine x_pullb 1 rfl ?_
         refine x_front2 [_, _] hs2569 hs2584 R rfl ?_
         refine x_front2 [_, _] hs2584 hs2569 R rfl ?_
         exact x_join (e' := [(0, .slice A1 (l4).length c2), (1, .int .i64 (x5)), (7, .slice A2570 (l2573).length c2571), (8, .int .i64 ((k2574 : Int))), (9, .pointer (some ⟨g2577, 0, none⟩)), (12, .int .i64 (x2931.Dep)), (13, .int .i64 (x3028 + x3032.Units)), (15, .pointer (some ⟨g3042, 0, none⟩)), (22, .int .i64 ((k2574 : Int))), (28, .slice A2582 (l2578).length c2583), (29, .int .i64 ((l2578.length : Int))), (30, .int .i64 ((k2912 : Int))), (39, .slice A1 (l4).length c2), (40, .int .i64 ((l4.length : Int))), (41, .int .i64 ((k3029 : Int)))]) (hp' := (g2577, Cl 33 [.int .i64 ((k2574 : Int)), .int .i64 (x2910), .int .i64 (x2911)]) :: (g3042, Cl 36 [.int .i64 (x3032.From), .int .i64 (x3032.To), .int .i64 (x3032.Dep), .int .i64 (x3032.Arr), .int .i64 (x3032.Km), .int .i64 (x3032.Units)]) :: (hs2569 ++ (hs2584 ++ R))) ⟨rfl, rfl, rfl, rfl, rfl, rfl, rfl, rfl, rfl, rfl, rfl, rfl, rfl, rfl, rfl, trivial⟩ (.cons_cons _ (.cons_cons _ (sub_app hs2569 (sub_app hs2584 (.refl _))))) ⟨rfl, rfl, hle3057⟩
        ·
         rw [if_neg (fun hh => Bool.noConfusion (hh.symm.trans hc3061))] at hm
         refine c_skip ?_
         obtain rfl := some1 hm
         refine x_pullb 1 rfl ?_
         refine x_pullb 1 rfl ?_
         refine x_front2 [_, _] hs2569 hs2584 R rfl ?_
         refine x_front2 [_, _] hs2584 hs2569 R rfl ?_
         exact x_join (e' := [(0, .slice A1 (l4).length c2), (1, .int .i64 (x5)), (7, .slice A2570 (l2573).length c2571), (8, .int .i64 ((k2574 : Int))), (9, .pointer (some ⟨g2577, 0, none⟩)), (12, .int .i64 (x2931.Dep)), (13, .int .i64 (x3028)), (15, .pointer (some ⟨g3042, 0, none⟩)), (22, .int .i64 ((k2574 : Int))), (28, .slice A2582 (l2578).length c2583), (29, .int .i64 ((l2578.length : Int))), (30, .int .i64 ((k2912 : Int))), (39, .slice A1 (l4).length c2), (40, .int .i64 ((l4.length : Int))), (41, .int .i64 ((k3029 : Int)))]) (hp' := (g2577, Cl 33 [.int .i64 ((k2574 : Int)), .int .i64 (x2910), .int .i64 (x2911)]) :: (g3042, Cl 36 [.int .i64 (x3032.From), .int .i64 (x3032.To), .int .i64 (x3032.Dep), .int .i64 (x3032.Arr), .int .i64 (x3032.Km), .int .i64 (x3032.Units)]) :: (hs2569 ++ (hs2584 ++ R))) ⟨rfl, rfl, rfl, rfl, rfl, rfl, rfl, rfl, rfl, rfl, rfl, rfl, rfl, rfl, rfl, trivial⟩ (.cons_cons _ (.cons_cons _ (sub_app hs2569 (sub_app hs2584 (.refl _))))) ⟨rfl, rfl, hle3057⟩
      ·
       rintro b3051 _ _ ⟨rfl, rfl, hle3052⟩
       have hm := hk3054
       obtain ⟨x3067, hj3068, hk3068⟩ := bindS hm
       refine c_join (fun b3065 e' hp' => [(0, .slice A1 (l4).length c2), (1, .int .i64 (x5)), (7, .slice A2570 (l2573).length c2571), (8, .int .i64 ((k2574 : Int))), (9, .pointer (some ⟨g2577, 0, none⟩)), (12, .int .i64 (x2931.Dep)), (13, .int .i64 (x3053)), (15, .pointer (some ⟨g3042, 0, none⟩)), (22, .int .i64 ((k2574 : Int))), (28, .slice A2582 (l2578).length c2583), (29, .int .i64 ((l2578.length : Int))), (30, .int .i64 ((k2912 : Int))), (39, .slice A1 (l4).length c2), (40, .int .i64 ((l4.length : Int))), (41, .int .i64 ((k3029 : Int))), (70, .bool (x3067))] = e' ∧ (g2577, Cl 33 [.int .i64 ((k2574 : Int)), .int .i64 (x2910), .int .i64 (x2911)]) :: (g3042, Cl 36 [.int .i64 (x3032.From), .int .i64 (x3032.To), .int .i64 (x3032.Dep), .int .i64 (x3032.Arr), .int .i64 (x3032.Km), .int .i64 (x3032.Units)]) :: (hs2569 ++ (hs2584 ++ R)) = hp' ∧ b3051.Le b3065) ?_ ?_
       ·
        have hm := hj3068
        refine c_region ?_
        refine t_st rfl (st_field rfl fld36_1) ?_
        refine t_st rfl (st_load 1 rfl one3 rfl rfl) ?_
        refine t_st rfl (st_move rfl) ?_
        refine t_bool rfl (st_eql rfl rfl) (fun hc3069 => ?_) (fun hc3069 => ?_)
        ·
         rw [if_pos hc3069] at hm
         refine t_st rfl (st_move rfl) ?_
         refine t_yes 63 rfl rfl rfl ?_
         refine t_st rfl (st_field rfl fld36_3) ?_
         refine t_yes 63 rfl rfl rfl ?_
         refine t_st rfl (st_load 1 rfl one3 rfl rfl) ?_
         refine t_yes 63 rfl rfl rfl ?_
         refine t_st rfl (st_move rfl) ?_
         refine t_yes 63 rfl rfl rfl ?_
         obtain ⟨_, h3070, hm⟩ := bindS hm
         have h3070 := (chk_some h3070).2
         refine t_st rfl (st_add rfl rfl h3070) ?_
         refine t_yes 63 rfl rfl rfl ?_
         refine t_st rfl (st_move rfl) ?_
         refine t_yes 63 rfl rfl rfl ?_
         refine t_st rfl (st_leq rfl rfl) ?_
         refine t_st rfl (st_pick_t rfl rfl) ?_
         refine t_nil ?_
         obtain rfl := some1 hm
         refine x_pullb 1 rfl ?_
         refine x_pullb 1 rfl ?_
         refine x_front2 [_, _] hs2569 hs2584 R rfl ?_
         refine x_front2 [_, _] hs2584 hs2569 R rfl ?_
         exact x_join (e' := [(0, .slice A1 (l4).length c2), (1, .int .i64 (x5)), (7, .slice A2570 (l2573).length c2571), (8, .int .i64 ((k2574 : Int))), (9, .pointer (some ⟨g2577, 0, none⟩)), (12, .int .i64 (x2931.Dep)), (13, .int .i64 (x3053)), (15, .pointer (some ⟨g3042, 0, none⟩)), (22, .int .i64 ((k2574 : Int))), (28, .slice A2582 (l2578).length c2583), (29, .int .i64 ((l2578.length : Int))), (30, .int .i64 ((k2912 : Int))), (39, .slice A1 (l4).length c2), (40, .int .i64 ((l4.length : Int))), (41, .int .i64 ((k3029 : Int))), (70, .bool (decide ((x3032.Arr + x5) ≤ x2931.Dep)))]) (hp' := (g2577, Cl 33 [.int .i64 ((k2574 : Int)), .int .i64 (x2910), .int .i64 (x2911)]) :: (g3042, Cl 36 [.int .i64 (x3032.From), .int .i64 (x3032.To), .int .i64 (x3032.Dep), .int .i64 (x3032.Arr), .int .i64 (x3032.Km), .int .i64 (x3032.Units)]) :: (hs2569 ++ (hs2584 ++ R))) ⟨rfl, rfl, rfl, rfl, rfl, rfl, rfl, rfl, rfl, rfl, rfl, rfl, rfl, rfl, rfl, rfl, trivial⟩ (.cons_cons _ (.cons_cons _ (sub_app hs2569 (sub_app hs2584 (.refl _))))) ⟨rfl, rfl, (Base.Le.refl _)⟩
        ·
         rw [if_neg hc3069] at hm
         refine t_st rfl (st_move rfl) ?_
         refine t_no 63 rfl rfl rfl rfl rfl ?_
         refine t_no 63 rfl rfl rfl rfl rfl ?_
         refine t_no 63 rfl rfl rfl rfl rfl ?_
         refine t_no 63 rfl rfl rfl rfl rfl ?_
         refine t_no 63 rfl rfl rfl rfl rfl ?_
         refine t_no 63 rfl rfl rfl rfl rfl ?_
         refine t_st rfl (st_pick_f rfl rfl) ?_
         refine t_nil ?_
         obtain rfl := some1 hm
         refine x_pullb 1 rfl ?_
         refine x_pullb 1 rfl ?_
         refine x_front2 [_, _] hs2569 hs2584 R rfl ?_
         refine x_front2 [_, _] hs2584 hs2569 R rfl ?_
         exact x_join (e' := [(0, .slice A1 (l4).length c2), (1, .int .i64 (x5)), (7, .slice A2570 (l2573).length c2571), (8, .int .i64 ((k2574 : Int))), (9, .pointer (some ⟨g2577, 0, none⟩)), (12, .int .i64 (x2931.Dep)), (13, .int .i64 (x3053)), (15, .pointer (some ⟨g3042, 0, none⟩)), (22, .int .i64 ((k2574 : Int))), (28, .slice A2582 (l2578).length c2583), (29, .int .i64 ((l2578.length : Int))), (30, .int .i64 ((k2912 : Int))), (39, .slice A1 (l4).length c2), (40, .int .i64 ((l4.length : Int))), (41, .int .i64 ((k3029 : Int))), (70, .bool (false))]) (hp' := (g2577, Cl 33 [.int .i64 ((k2574 : Int)), .int .i64 (x2910), .int .i64 (x2911)]) :: (g3042, Cl 36 [.int .i64 (x3032.From), .int .i64 (x3032.To), .int .i64 (x3032.Dep), .int .i64 (x3032.Arr), .int .i64 (x3032.Km), .int .i64 (x3032.Units)]) :: (hs2569 ++ (hs2584 ++ R))) ⟨rfl, rfl, rfl, rfl, rfl, rfl, rfl, rfl, rfl, rfl, rfl, rfl, rfl, rfl, rfl, rfl, trivial⟩ (.cons_cons _ (.cons_cons _ (sub_app hs2569 (sub_app hs2584 (.refl _))))) ⟨rfl, rfl, (Base.Le.refl _)⟩
       ·
        rintro b3065 _ _ ⟨rfl, rfl, hle3066⟩
        have hm := hk3068
        refine c_cond _ rfl (fun hc3071 => ?_) (fun hc3071 => ?_)
        ·
         rw [if_pos hc3071] at hm
         refine c_region ?_
         refine t_st rfl (st_move rfl) ?_
         refine t_st rfl (st_field rfl fld36_5) ?_
         refine t_st rfl (st_load 1 rfl one3 rfl rfl) ?_
         obtain ⟨_, h3072, hm⟩ := bindS hm
         have h3072 := (chk_some h3072).2
         refine t_st rfl (st_sub rfl rfl h3072) ?_
         refine t_st rfl (st_assign rfl) ?_
         refine t_nil ?_
         refine x_block_normal ?_
         refine x_then_normal ?_
         refine c_region ?_
         refine t_st rfl (st_add rfl rfl (by omega)) ?_
         refine t_st rfl (st_move rfl) ?_
         refine t_nil ?_
         refine x_front2 [_, _] hs2569 hs2584 R rfl ?_
         refine x_front2 [_, _] hs2584 hs2569 R rfl ?_
         obtain rfl := some1 hm
         exact x_againS (e' := [(0, .slice A1 (l4).length c2), (1, .int .i64 (x5)), (7, .slice A2570 (l2573).length c2571), (8, .int .i64 ((k2574 : Int))), (9, .pointer (some ⟨g2577, 0, none⟩)), (12, .int .i64 (x2931.Dep)), (13, .int .i64 (x3053 - x3032.Units)), (22, .int .i64 ((k2574 : Int))), (28, .slice A2582 (l2578).length c2583), (29, .int .i64 ((l2578.length : Int))), (30, .int .i64 ((k2912 : Int))), (39, .slice A1 (l4).length c2), (40, .int .i64 ((l4.length : Int))), (41, .int .i64 ((k3029 : Int) + 1))]) (hp' := (g2577, Cl 33 [.int .i64 ((k2574 : Int)), .int .i64 (x2910), .int .i64 (x2911)]) :: (hs2569 ++ (hs2584 ++ R))) ⟨rfl, rfl, rfl, rfl, rfl, rfl, rfl, rfl, rfl, rfl, rfl, rfl, rfl, rfl, trivial⟩ (.cons_cons _ (.cons _ (sub_app hs2569 (sub_app hs2584 (.refl _))))) ⟨rfl, rfl, ((hle3027.trans (hle3052.trans hle3066)))⟩
        ·
         rw [if_neg (fun hh => Bool.noConfusion (hh.symm.trans hc3071))] at hm
         refine c_skip ?_
         refine x_block_normal ?_
         refine x_then_normal ?_
         refine c_region ?_
         refine t_st rfl (st_add rfl rfl (by omega)) ?_
         refine t_st rfl (st_move rfl) ?_
         refine t_nil ?_
         refine x_front2 [_, _] hs2569 hs2584 R rfl ?_
         refine x_front2 [_, _] hs2584 hs2569 R rfl ?_
         obtain rfl := some1 hm
         exact x_againS (e' := [(0, .slice A1 (l4).length c2), (1, .int .i64 (x5)), (7, .slice A2570 (l2573).length c2571), (8, .int .i64 ((k2574 : Int))), (9, .pointer (some ⟨g2577, 0, none⟩)), (12, .int .i64 (x2931.Dep)), (13, .int .i64 (x3053)), (22, .int .i64 ((k2574 : Int))), (28, .slice A2582 (l2578).length c2583), (29, .int .i64 ((l2578.length : Int))), (30, .int .i64 ((k2912 : Int))), (39, .slice A1 (l4).length c2), (40, .int .i64 ((l4.length : Int))), (41, .int .i64 ((k3029 : Int) + 1))]) (hp' := (g2577, Cl 33 [.int .i64 ((k2574 : Int)), .int .i64 (x2910), .int .i64 (x2911)]) :: (hs2569 ++ (hs2584 ++ R))) ⟨rfl, rfl, rfl, rfl, rfl, rfl, rfl, rfl, rfl, rfl, rfl, rfl, rfl, rfl, trivial⟩ (.cons_cons _ (.cons _ (sub_app hs2569 (sub_app hs2584 (.refl _))))) ⟨rfl, rfl, ((hle3027.trans (hle3052.trans hle3066)))⟩
     ·
      rintro b3026 _ _ ⟨rfl, rfl, hle3027⟩
      have hm := hk3031
      refine c_seq ?_
      refine c_region ?_
      refine t_st rfl (st_lss_f rfl rfl (by omega)) ?_
      refine t_nil ?_
      refine x_then_normal ?_
      refine c_seq ?_
      refine c_cond_f rfl ?_
      refine c_exit ?_
      refine x_then_exit ?_
      refine x_then_exit ?_
      refine x_block_out ?_
      refine x_then_normal ?_
      refine c_seq ?_
      refine c_region ?_
      refine t_st rfl (st_move rfl) ?_
      refine t_st rfl (st_field rfl fld33_2) ?_
      refine t_st rfl (st_load 0 rfl one3 rfl rfl) ?_
      refine t_st rfl (st_gtr rfl rfl) ?_
      refine t_nil ?_
      refine x_then_normal ?_
      refine c_cond _ rfl (fun hc3073 => ?_) (fun hc3073 => ?_)
      ·
       rw [if_pos (of_decide_eq_true hc3073)] at hm
       refine c_region ?_
       refine t_st rfl (st_move rfl) ?_
       refine t_st rfl (st_move rfl) ?_
       refine t_st rfl (st_field rfl fld33_1) ?_
       refine t_do rfl (u_store 0 rfl rfl siz3 rfl rfl (by simp)) ?_
       rintro _ _ rfl
       refine t_st rfl (st_field rfl fld33_2) ?_
       refine t_do rfl (u_store 0 rfl rfl siz3 rfl rfl (by simp)) ?_
       rintro _ _ rfl
       refine t_nil ?_
       refine x_block_normal ?_
       refine x_then_normal ?_
       refine c_region ?_
       refine t_st rfl (st_add rfl rfl (by omega)) ?_
       refine t_st rfl (st_move rfl) ?_
       refine t_nil ?_
       refine x_front2 [_] hs2569 hs2584 R rfl ?_
       refine x_front2 [_] hs2584 hs2569 R rfl ?_
       obtain rfl := some1 hm
       exact x_againS (e' := [(0, .slice A1 (l4).length c2), (1, .int .i64 (x5)), (7, .slice A2570 (l2573).length c2571), (8, .int .i64 ((k2574 : Int))), (9, .pointer (some ⟨g2577, 0, none⟩)), (22, .int .i64 ((k2574 : Int))), (28, .slice A2582 (l2578).length c2583), (29, .int .i64 ((l2578.length : Int))), (30, .int .i64 ((k2912 : Int) + 1))]) (hp' := (g2577, Cl 33 [.int .i64 ((k2574 : Int)), .int .i64 (x2931.Dep), .int .i64 (x3028)]) :: (hs2569 ++ (hs2584 ++ R))) ⟨rfl, rfl, rfl, rfl, rfl, rfl, rfl, rfl, rfl, trivial⟩ (.cons_cons _ (sub_app hs2569 (sub_app hs2584 (.refl _)))) ⟨rfl, rfl, ((hle2909.trans hle3027))⟩
      ·
       rw [if_neg (of_decide_eq_false hc3073)] at hm
       refine c_skip ?_
       refine x_block_normal ?_
       refine x_then_normal ?_
       refine c_region ?_
       refine t_st rfl (st_add rfl rfl (by omega)) ?_
       refine t_st rfl (st_move rfl) ?_
       refine t_nil ?_
       refine x_front2 [_] hs2569 hs2584 R rfl ?_
       refine x_front2 [_] hs2584 hs2569 R rfl ?_
       obtain rfl := some1 hm
       exact x_againS (e' := [(0, .slice A1 (l4).length c2), (1, .int .i64 (x5)), (7, .slice A2570 (l2573).length c2571), (8, .int .i64 ((k2574 : Int))), (9, .pointer (some ⟨g2577, 0, none⟩)), (22, .int .i64 ((k2574 : Int))), (28, .slice A2582 (l2578).length c2583), (29, .int .i64 ((l2578.length : Int))), (30, .int .i64 ((k2912 : Int) + 1))]) (hp' := (g2577, Cl 33 [.int .i64 ((k2574 : Int)), .int .i64 (x2910), .int .i64 (x2911)]) :: (hs2569 ++ (hs2584 ++ R))) ⟨rfl, rfl, rfl, rfl, rfl, rfl, rfl, rfl, rfl, trivial⟩ (.cons_cons _ (sub_app hs2569 (sub_app hs2584 (.refl _)))) ⟨rfl, rfl, ((hle2909.trans hle3027))⟩
    ·
     rintro b2908 _ _ ⟨rfl, rfl, hle2909⟩
     have hm := (unc2E hk2914)
     refine c_seq ?_
     refine c_region ?_
     refine t_st rfl (st_lss_f rfl rfl (by omega)) ?_
     refine t_nil ?_
     refine x_then_normal ?_
     refine c_seq ?_
     refine c_cond_f rfl ?_
     refine c_exit ?_
     refine x_then_exit ?_
     refine x_then_exit ?_
     refine x_block_out ?_
     refine x_then_normal ?_
     refine c_seq ?_
     refine c_region ?_
     refine t_st rfl (st_field rfl fld33_2) ?_
     refine t_st rfl (st_load 0 rfl one3 rfl rfl) ?_
     refine t_st rfl (st_gtr rfl rfl) ?_
     refine t_nil ?_
     refine x_then_normal ?_
     refine c_cond _ rfl (fun hc3074 => ?_) (fun hc3074 => ?_)
     ·
      rw [if_pos (of_decide_eq_true hc3074)] at hm
      refine c_region ?_
      refine t_st rfl (st_move rfl) ?_
      refine t_st rfl (st_loadD (vs := [_, _, _]) 0 3 rfl agg33 rfl rfl rfl) ?_
      refine t_do rfl (u_bslice (el := 33) [(0, .agg #[.int .i64 ((k2574 : Int)), .int .i64 (x2910), .int .i64 (x2911)])] [.int .i64 ((k2574 : Int)), .int .i64 (x2910), .int .i64 (x2911)] rfl (fun _ => by kernel_rfl)) ?_
      rintro _ _ ⟨g3075, rfl, rfl⟩
      obtain ⟨_, h3076, hm⟩ := bindS hm
      have h3076 := room_some h3076
      refine t_do rfl (u_appOS (r := rFleetMoment) (l := l2573) [_, _] (hs2584 ++ R) [[.int .i64 ((k2574 : Int)), .int .i64 (x2910), .int .i64 (x2911)]] [(⟨(k2574 : Int), x2910, x2911⟩ : FleetMoment)] rfl (by decide) sl29 inf33 rfl rfl rfl rfl (h2572.le (hle2581.trans hle2909)) rfl (fun w ho => Rd.own (i := 0) ho rfl) ⟨⟨[.int .i64 ((k2574 : Int))], _, rfl, rfl, ⟨[.int .i64 (x2910)], _, rfl, rfl, rfl⟩⟩, trivial⟩ h3076) ?_
      rintro _ _ ⟨hs3077, rfl, h3078⟩
      obtain ⟨A3079, c3080, rfl, _⟩ := h3078.form
      refine t_st rfl (st_assign rfl) ?_
      refine t_nil ?_
      refine x_block_normal ?_
      refine x_then_normal ?_
      refine c_region ?_
      refine t_st rfl (st_add rfl rfl (by omega)) ?_
      refine t_st rfl (st_move rfl) ?_
      refine t_nil ?_
      obtain rfl := some1 hm
      exact x_againS (e' := [(0, .slice A1 (l4).length c2), (1, .int .i64 (x5)), (7, .slice A3079 (l2573 ++ [(⟨(k2574 : Int), x2910, x2911⟩ : FleetMoment)]).length c3080), (22, .int .i64 ((k2574 : Int) + 1))]) (hp' := (hs3077 ++ R)) ⟨rfl, rfl, rfl, rfl, trivial⟩ (.cons _ (.cons _ (sub_app hs3077 (sub_skip hs2584 (.refl _))))) ⟨A3079, c3080, hs3077, rfl, rfl, ((hle2567.trans (hle2581.trans hle2909))), h3078⟩
     ·
      rw [if_neg (of_decide_eq_false hc3074)] at hm
      refine c_skip ?_
      refine x_block_normal ?_
      refine x_then_normal ?_
      refine c_region ?_
      refine t_st rfl (st_add rfl rfl (by omega)) ?_
      refine t_st rfl (st_move rfl) ?_
      refine t_nil ?_
      obtain rfl := some1 hm
      exact x_againS (e' := [(0, .slice A1 (l4).length c2), (1, .int .i64 (x5)), (7, .slice A2570 (l2573).length c2571), (22, .int .i64 ((k2574 : Int) + 1))]) (hp' := (hs2569 ++ R)) ⟨rfl, rfl, rfl, rfl, trivial⟩ (.cons _ (sub_app hs2569 (sub_skip hs2584 (.refl _)))) ⟨A2570, c2571, hs2569, rfl, rfl, ((hle2567.trans (hle2581.trans hle2909))), (h2572.le (hle2581.trans hle2909))⟩
   ·
    rintro b2566 _ _ ⟨A2570, c2571, hs2569, rfl, rfl, hle2567, h2572⟩
    have hm := hk2576
    refine c_seq ?_
    refine c_region ?_
    refine t_st rfl (st_lss_f rfl rfl (by omega)) ?_
    refine t_nil ?_
    refine x_then_normal ?_
    refine c_seq ?_
    refine c_cond_f rfl ?_
    refine c_exit ?_
    refine x_then_exit ?_
    refine x_then_exit ?_
    refine x_block_out ?_
    refine x_then_normal ?_
    refine c_seq ?_
    refine c_region ?_
    refine t_st rfl (st_move rfl) ?_
    refine t_st rfl (st_assign rfl) ?_
    refine t_st rfl (st_assign rfl) ?_
    refine t_nil ?_
    refine x_then_normal ?_
    refine c_ret ?_
    obtain ⟨rfl, rfl⟩ := some2 hm
    exact retM (rs := [.tmp 4, .tmp 5]) [.slice A2570 (l2573).length c2571, .int .i64 (0)] hle2567 (by decide) rfl ⟨rfl, ⟨rfl, trivial⟩⟩ rfl (hp' := (hs2569 ++ R)) (sub_app hs2569 (.refl _)) ⟨A2570, c2571, hs2569, rfl, rfl, h2572⟩

set_option maxRecDepth 20000 in
theorem cSlicesIndex (b : Base) (R : Hp) (l4 : (List Int)) (x5 : Int) (A1 : Option Addr) (c2 : Nat) (h3 : FZ (RT.int .i64) b.w A1 c2 l4) (x38 : Int) (hm : mSlicesIndex l4 x5 = some x38) :
    CallsG Try.prog 51 [.slice A1 (l4).length c2, .int .i64 (x5)] b (R) (fun v b' hp' => .int .i64 (x38) = v ∧ R = hp') := by
  refine fn_enterG 19 Try.func51 rfl Try.ntmps51 rfl ?_
  unfold mSlicesIndex at hm
  refine c_seq ?_
  refine c_region ?_
  refine t_st rfl (st_assign rfl) ?_
  refine t_nil ?_
  refine x_then_normal ?_
  refine c_seq ?_
  refine c_seq ?_
  refine c_region ?_
  refine t_st rfl (st_move rfl) ?_
  refine t_st rfl (st_len rfl sl45) ?_
  refine t_st rfl (st_move rfl) ?_
  refine t_nil ?_
  refine x_then_normal ?_
  refine c_block ?_
  have hb40 : l4.length ≤ 9223372036854775807 := (FZ.bd h3)
  obtain ⟨t55, hl56, hk57⟩ := bindS hm
  refine c_forM (fun k54 => fun _ => fun b52 e' hp' => [(0, .slice A1 (l4).length c2), (1, .int .i64 (x5)), (7, .int .i64 ((l4.length : Int))), (8, .int .i64 ((k54 : Int)))] = e' ∧ R = hp' ∧ b.Le b52) hl56 (e' := [(0, .slice A1 (l4).length c2), (1, .int .i64 (x5)), (7, .int .i64 ((l4.length : Int))), (8, .int .i64 0)]) (hp' := R) ⟨rfl, rfl, rfl, rfl, trivial⟩ (.refl _) ⟨rfl, rfl, (Base.Le.refl _)⟩ ?_ ?_
  ·
   rintro k54 _ b52 _ _ oL39 hknL39 ⟨rfl, rfl, hle53⟩ hstepL39 houtL39
   unfold mSlicesIndex_L39 at hstepL39
   have hm := hstepL39
   refine c_seq ?_
   refine c_region ?_
   refine t_st rfl (st_lss_t rfl rfl (by omega)) ?_
   refine t_nil ?_
   refine x_then_normal ?_
   refine c_seq ?_
   refine c_cond_t rfl ?_
   refine c_skip ?_
   refine x_then_normal ?_
   refine c_seq ?_
   refine c_block ?_
   refine c_seq ?_
   refine c_region ?_
   refine t_st rfl (st_move rfl) ?_
   refine t_st rfl (st_assign rfl) ?_
   refine t_nil ?_
   refine x_then_normal ?_
   refine c_seq ?_
   refine c_region ?_
   refine t_st rfl (st_move rfl) ?_
   refine t_st rfl (st_move rfl) ?_
   refine t_st rfl (st_move rfl) ?_
   obtain ⟨x58, h59, hm⟩ := bindS hm
   obtain ⟨j60, hj61, hx62⟩ := idx_some h59
   obtain ⟨cs63, hr64, hcs65, hA66, hlt67⟩ := FZ.get (sz := 1) rfl (by decide) (h3.le hle53) hx62
   obtain rfl := hr64
   refine t_st rfl (st_index_old j60 rfl rfl hj61 hlt67 hA66 sl45) ?_
   refine t_st rfl (st_load_old rfl one3 (hcs65 0 _ rfl)) ?_
   refine t_st rfl (st_eql rfl rfl) ?_
   refine t_nil ?_
   refine x_then_normal ?_
   refine c_cond _ rfl (fun hc68 => ?_) (fun hc68 => ?_)
   ·
    rw [if_pos (of_decide_eq_true hc68)] at hm
    refine c_seq ?_
    refine c_region ?_
    refine t_st rfl (st_move rfl) ?_
    refine t_st rfl (st_assign rfl) ?_
    refine t_nil ?_
    refine x_then_normal ?_
    refine c_ret ?_
    refine x_block_ret ?_
    refine x_then_ret ?_
    refine x_then_ret ?_
    refine x_block_ret ?_
    refine x_then_ret ?_
    have hq69 := houtL39 _ (Option.some.inj hm).symm
    rw [hq69] at hk57
    have hm := elimR hk57
    obtain rfl := some1 hm
    exact retM (rs := [.tmp 4]) [.int .i64 ((k54 : Int))] hle53 (by decide) rfl ⟨rfl, trivial⟩ rfl (hp' := R) (.refl _) ⟨rfl, rfl⟩
   ·
    rw [if_neg (of_decide_eq_false hc68)] at hm
    refine c_skip ?_
    refine x_block_normal ?_
    refine x_then_normal ?_
    refine c_region ?_
    refine t_st rfl (st_add rfl rfl (by omega)) ?_
    refine t_st rfl (st_move rfl) ?_
    refine t_nil ?_
    exact x_againM () (Option.some.inj hm).symm (e' := [(0, .slice A1 (l4).length c2), (1, .int .i64 (x5)), (7, .int .i64 ((l4.length : Int))), (8, .int .i64 ((k54 : Int) + 1))]) (hp' := R) ⟨rfl, rfl, rfl, rfl, trivial⟩ (.refl _) ⟨rfl, rfl, (hle53)⟩
  ·
   rintro _ b52 _ _ ⟨rfl, rfl, hle53⟩ hq70
   rw [hq70] at hk57
   have hm := elimL hk57
   refine c_seq ?_
   refine c_region ?_
   refine t_st rfl (st_lss_f rfl rfl (by omega)) ?_
   refine t_nil ?_
   refine x_then_normal ?_
   refine c_seq ?_
   refine c_cond_f rfl ?_
   refine c_exit ?_
   refine x_then_exit ?_
   refine x_then_exit ?_
   refine x_block_out ?_
   refine x_then_normal ?_
   refine c_seq ?_
   refine c_region ?_
   refine t_st rfl (st_assign rfl) ?_
   refine t_nil ?_
   refine x_then_normal ?_
   refine c_ret ?_
   obtain rfl := some1 hm
   exact retM (rs := [.tmp 4]) [.int .i64 ((-1))] hle53 (by decide) rfl ⟨rfl, trivial⟩ rfl (hp' := R) (.refl _) ⟨rfl, rfl⟩

set_option maxRecDepth 20000 in
theorem cSlicesContains (b : Base) (R : Hp) (l4 : (List Int)) (x5 : Int) (A1 : Option Addr) (c2 : Nat) (h3 : FZ (RT.int .i64) b.w A1 c2 l4) (x8 : Bool) (hm : mSlicesContains l4 x5 = some x8) :
    CallsG Try.prog 20 [.slice A1 (l4).length c2, .int .i64 (x5)] b (R) (fun v b' hp' => .bool (x8) = v ∧ R = hp') := by
  refine fn_enterG 9 Try.func20 rfl Try.ntmps20 rfl ?_
  unfold mSlicesContains at hm
  refine c_seq ?_
  refine c_region ?_
  refine t_st rfl (st_assign rfl) ?_
  refine t_nil ?_
  refine x_then_normal ?_
  refine c_seq ?_
  refine c_region ?_
  refine t_st rfl (st_move rfl) ?_
  refine t_st rfl (st_move rfl) ?_
  obtain ⟨x9, hcl10, hm⟩ := bindS hm
  refine t_do rfl (u_callW0 _ call51 rfl (fun w ho => cSlicesIndex _ [] l4 x5 A1 c2 (h3.old ho) x9 hcl10) (fun _ _ _ h => h.2.symm)) ?_
  rintro _ _ ⟨⟨_, rfl, _⟩, rfl⟩
  refine t_st rfl (st_geq rfl rfl) ?_
  refine t_st rfl (st_assign rfl) ?_
  refine t_nil ?_
  refine x_then_normal ?_
  refine c_ret ?_
  obtain rfl := some1 hm
  exact retM (rs := [.tmp 4]) [.bool (decide (0 ≤ x9))] (Base.Le.refl _) (by decide) rfl ⟨rfl, trivial⟩ rfl (hp' := R) (.refl _) ⟨rfl, rfl⟩

set_option maxRecDepth 20000 in
theorem cFleetLegal (b : Base) (R : Hp) (l4 : (List FleetTask)) (x5 : Int) (l9 : (List (List Int))) (A1 : Option Addr) (c2 : Nat) (A6 : Option Addr) (c7 : Nat) (h3 : FZ rFleetTask b.w A1 c2 l4) (h8 : FZ (RT.list (RT.int .i64)) b.w A6 c7 l9) (x2177 : Int) (hm : mFleetLegal l4 x5 l9 = some x2177) :
    CallsG Try.prog 15 [.slice A1 (l4).length c2, .int .i64 (x5), .slice A6 (l9).length c7] b (R) (fun v b' hp' => .int .i64 (x2177) = v ∧ R = hp') := by
  refine fn_enterG 102 Try.func15 rfl Try.ntmps15 rfl ?_
  unfold mFleetLegal at hm
  refine c_seq ?_
  refine c_region ?_
  refine t_st rfl (st_assign rfl) ?_
  refine t_nil ?_
  refine x_then_normal ?_
  refine c_seq ?_
  refine c_seq ?_
  refine c_region ?_
  refine t_st rfl (st_move rfl) ?_
  refine t_st rfl (st_move rfl) ?_
  obtain ⟨x2178, hcl2179, hm⟩ := bindS hm
  refine t_do rfl (u_callW0 _ call43 rfl (fun w ho => cFleetCheckTurn _ [] l4 x5 A1 c2 (h3.old ho) x2178 hcl2179) (fun _ _ _ h => h.2.symm)) ?_
  rintro _ _ ⟨⟨_, rfl, _⟩, rfl⟩
  refine t_st rfl (st_assign rfl) ?_
  refine t_nil ?_
  refine x_then_normal ?_
  refine c_seq ?_
  refine c_region ?_
  refine t_st rfl (st_move rfl) ?_
  refine t_st rfl (st_neq rfl rfl) ?_
  refine t_nil ?_
  refine x_then_normal ?_
  refine c_cond _ rfl (fun hc2180 => ?_) (fun hc2180 => ?_)
  ·
   rw [if_pos (of_decide_eq_true hc2180)] at hm
   refine c_seq ?_
   refine c_region ?_
   refine t_st rfl (st_move rfl) ?_
   refine t_st rfl (st_assign rfl) ?_
   refine t_nil ?_
   refine x_then_normal ?_
   refine c_ret ?_
   refine x_then_ret ?_
   obtain rfl := some1 hm
   exact retM (rs := [.tmp 6]) [.int .i64 (x2178)] (Base.Le.refl _) (by decide) rfl ⟨rfl, trivial⟩ rfl (hp' := R) (.refl _) ⟨rfl, rfl⟩
  ·
   rw [if_neg (of_decide_eq_false hc2180)] at hm
   refine c_skip ?_
   refine x_then_normal ?_
   refine c_seq ?_
   refine c_region ?_
   refine t_st rfl (st_move rfl) ?_
   refine t_st rfl (st_len rfl sl22) ?_
   obtain ⟨m2181, h2182, hm⟩ := bindS hm
   have h2182 := mkLen_some h2182
   refine t_do rfl (u_mkOS (r := (RT.int .i64)) [] R [.int .i64 (0)] 0 m2181 rfl h2182.1 rfl rfl sl45 inf3 rfl rfl rfl (by decide) rfl h2182.2.1 h2182.2.2) ?_
   rintro _ _ ⟨hs2183, rfl, h2184⟩
   obtain ⟨A2185, c2186, rfl, _⟩ := h2184.form
   refine t_st rfl (st_assign rfl) ?_
   refine t_nil ?_
   refine x_then_normal ?_
   refine c_seq ?_
   refine c_seq ?_
   refine c_region ?_
   refine t_st rfl (st_move rfl) ?_
   refine t_st rfl (st_len rfl sl26) ?_
   refine t_st rfl (st_move rfl) ?_
   refine t_nil ?_
   refine x_then_normal ?_
   refine c_block ?_
   have hb2188 : l9.length ≤ 9223372036854775807 := (FZ.bd h8)
   obtain ⟨t3514, hl3515, hk3516⟩ := bindS hm
   refine c_forM (fun k3513 => fun l3511 => fun b3506 e' hp' => ∃ (hs3509 : Hp), [(0, .slice A1 (l4).length c2), (1, .int .i64 (x5)), (8, .slice A2185 (l3511).length c2186), (24, .slice A6 (l9).length c7), (25, .int .i64 ((l9.length : Int))), (26, .int .i64 ((k3513 : Int)))] = e' ∧ (hs3509 ++ R) = hp' ∧ b.Le b3506 ∧ OS 3 (OT.fr (RT.int .i64)) b3506.w (.slice A2185 l3511.length c2186) l3511 hs3509 ∧ l3511.length = m2181) hl3515 (e' := [(0, .slice A1 (l4).length c2), (1, .int .i64 (x5)), (8, .slice A2185 (List.replicate m2181 (0 : Int)).length c2186), (24, .slice A6 (l9).length c7), (25, .int .i64 ((l9.length : Int))), (26, .int .i64 0)]) (hp' := (hs2183 ++ R)) ⟨rfl, rfl, rfl, rfl, rfl, rfl, trivial⟩ (sub_app hs2183 (.refl _)) ⟨hs2183, rfl, rfl, (Base.Le.refl _), h2184, List.length_replicate⟩ ?_ ?_
   ·
    rintro k3513 l3511 b3506 _ _ oL2187 hknL2187 ⟨hs3509, rfl, rfl, hle3507, h3510, hln3512⟩ hstepL2187 houtL2187
    unfold mFleetLegal_L2187 at hstepL2187
    have hm := hstepL2187
    refine c_seq ?_
    refine c_region ?_
    refine t_st rfl (st_lss_t rfl rfl (by omega)) ?_
    refine t_nil ?_
    refine x_then_normal ?_
    refine c_seq ?_
    refine c_cond_t rfl ?_
    refine c_skip ?_
    refine x_then_normal ?_
    refine c_seq ?_
    refine c_block ?_
    refine c_seq ?_
    refine c_region ?_
    obtain ⟨x3517, h3518, hm⟩ := bindS hm
    obtain ⟨j3519, hj3520, hx3521⟩ := idx_some h3518
    obtain ⟨cs3522, hr3523, hcs3524, hA3525, hlt3526⟩ := FZ.get (sz := 1) rfl (by decide) (h8.le hle3507) hx3521
    obtain ⟨A3527, c3528, rfl, h3529⟩ := hr3523
    refine t_st rfl (st_index_old j3519 rfl rfl hj3520 hlt3526 hA3525 sl26) ?_
    refine t_st rfl (st_load_old rfl one45 (hcs3524 0 _ rfl)) ?_
    refine t_st rfl (st_assign rfl) ?_
    refine t_nil ?_
    refine x_then_normal ?_
    refine c_seq ?_
    refine c_region ?_
    refine t_st rfl (st_move rfl) ?_
    refine t_st rfl (st_len rfl sl45) ?_
    refine t_st rfl (st_move rfl) ?_
    refine t_nil ?_
    refine x_then_normal ?_
    refine c_block ?_
    have hb3531 : x3517.length ≤ 9223372036854775807 := (FZ.bd h3529)
    obtain ⟨t3961, hl3962, hk3963⟩ := bindS hm
    refine c_forM (fun k3960 => fun l3958 => fun b3953 e' hp' => ∃ (hs3956 : Hp), [(0, .slice A1 (l4).length c2), (1, .int .i64 (x5)), (8, .slice A2185 (l3958).length c2186), (10, .slice A3527 (x3517).length c3528), (24, .slice A6 (l9).length c7), (25, .int .i64 ((l9.length : Int))), (26, .int .i64 ((k3513 : Int))), (30, .slice A3527 (x3517).length c3528), (31, .int .i64 ((x3517.length : Int))), (32, .int .i64 ((k3960 : Int)))] = e' ∧ (hs3956 ++ R) = hp' ∧ b3506.Le b3953 ∧ OS 3 (OT.fr (RT.int .i64)) b3953.w (.slice A2185 l3958.length c2186) l3958 hs3956 ∧ l3958.length = m2181) hl3962 (e' := [(0, .slice A1 (l4).length c2), (1, .int .i64 (x5)), (8, .slice A2185 (l3511).length c2186), (10, .slice A3527 (x3517).length c3528), (24, .slice A6 (l9).length c7), (25, .int .i64 ((l9.length : Int))), (26, .int .i64 ((k3513 : Int))), (30, .slice A3527 (x3517).length c3528), (31, .int .i64 ((x3517.length : Int))), (32, .int .i64 0)]) (hp' := (hs3509 ++ R)) ⟨rfl, rfl, rfl, rfl, rfl, rfl, rfl, rfl, rfl, rfl, trivial⟩ (sub_app hs3509 (.refl _)) ⟨hs3509, rfl, rfl, (Base.Le.refl _), h3510, hln3512⟩ ?_ ?_
    ·
     rintro k3960 l3958 b3953 _ _ oL3530 hknL3530 ⟨hs3956, rfl, rfl, hle3954, h3957, hln3959⟩ hstepL3530 houtL3530
     unfold mFleetLegal_L3530 at hstepL3530
     have hm := hstepL3530
     refine c_seq ?_
     refine c_region ?_
     refine t_st rfl (st_lss_t rfl rfl (by omega)) ?_
     refine t_nil ?_
     refine x_then_normal ?_
     refine c_seq ?_
     refine c_cond_t rfl ?_
     refine c_skip ?_
     refine x_then_normal ?_
     refine c_seq ?_
     refine c_block ?_
     refine c_seq ?_
     refine c_region ?_
     refine t_st rfl (st_move rfl) ?_
     obtain ⟨x3964, h3965, hm⟩ := bindS hm
     obtain ⟨j3966, hj3967, hx3968⟩ := idx_some h3965
     obtain ⟨cs3969, hr3970, hcs3971, hA3972, hlt3973⟩ := FZ.get (sz := 1) rfl (by decide) (h3529.le hle3954) hx3968
     obtain rfl := hr3970
     refine t_st rfl (st_index_old j3966 rfl rfl hj3967 hlt3973 hA3972 sl45) ?_
     refine t_st rfl (st_load_old rfl one3 (hcs3971 0 _ rfl)) ?_
     refine t_st rfl (st_assign rfl) ?_
     refine t_st rfl (st_assign rfl) ?_
     refine t_nil ?_
     refine x_then_normal ?_
     refine c_seq ?_
     refine c_block ?_
     refine c_seq ?_
     refine c_region ?_
     refine t_st rfl (st_move rfl) ?_
     refine t_st rfl (st_move rfl) ?_
     refine t_st rfl (st_len rfl sl22) ?_
     obtain ⟨_, h3974, hm⟩ := bindS hm
     have h3974 := (chk_some h3974).2
     refine t_st rfl (st_sub rfl rfl h3974) ?_
     obtain ⟨x3975, hcl3976, hm⟩ := bindS hm
     refine t_do rfl (u_callW0 _ call46 rfl (fun w ho => cFleetWithin _ [] x3964 0 ((l4.length : Int) - 1) x3975 hcl3976) (fun _ _ _ h => h.2.symm)) ?_
     rintro _ _ ⟨⟨_, rfl, _⟩, rfl⟩
     refine t_st rfl (st_not rfl) ?_
     refine t_st rfl (st_assign rfl) ?_
     refine t_nil ?_
     refine x_then_normal ?_
     refine c_cond _ rfl (fun hc3977 => ?_) (fun hc3977 => ?_)
     ·
      rw [if_neg (fun hh => Bool.noConfusion (hh.symm.trans (notT hc3977)))] at hm
      refine c_seq ?_
      refine c_region ?_
      refine t_st rfl (st_assign rfl) ?_
      refine t_nil ?_
      refine x_then_normal ?_
      refine c_ret ?_
      refine x_block_ret ?_
      refine x_then_ret ?_
      refine x_block_ret ?_
      refine x_then_ret ?_
      refine x_then_ret ?_
      refine x_block_ret ?_
      refine x_block_ret ?_
      refine x_then_ret ?_
      refine x_then_ret ?_
      refine x_block_ret ?_
      refine x_then_ret ?_
      have hq3978 := houtL3530 _ (Option.some.inj hm).symm
      rw [hq3978] at hk3963
      have hm := elimR hk3963
      have hq3979 := houtL2187 _ (Option.some.inj hm).symm
      rw [hq3979] at hk3516
      have hm := elimR hk3516
      obtain rfl := some1 hm
      exact retM (rs := [.tmp 6]) [.int .i64 (2)] (hle3507.trans hle3954) (by decide) rfl ⟨rfl, trivial⟩ rfl (hp' := R) (sub_skip hs3956 (.refl _)) ⟨rfl, rfl⟩
     ·
      rw [if_pos (notF hc3977)] at hm
      refine c_seq ?_
      refine c_region ?_
      refine t_st rfl (st_move rfl) ?_
      refine t_st rfl (st_move rfl) ?_
      obtain ⟨l3980, h3981, hm⟩ := bindS hm
      obtain ⟨j3982, j3983, hj3984, hj3985, hj3986, hj3987, hx3988⟩ := cutS_some h3981
      have h3989 := FZ.sub (sz := 1) rfl (h3529.le hle3954) hj3986 hj3987
      have h3990 := (h3529.le hle3954).1.1
      rw [← hx3988] at h3989
      refine t_st rfl (hx3988 ▸ st_part (l := x3517) j3982 j3983 rfl (.inl ⟨rfl, by omega⟩) (.inr ⟨_, _, _, rfl, rfl, hj3985⟩) hj3986 hj3987 h3990 sl45) ?_
      refine t_st rfl (st_move rfl) ?_
      obtain ⟨x3995, hcl3996, hm⟩ := bindS hm
      refine t_do rfl (u_callW0 _ call20 rfl (fun w ho => cSlicesContains _ [] l3980 x3964 (subA A3527 c3528 j3982 1) (c3528 - j3982) (h3989.old ho) x3995 hcl3996) (fun _ _ _ h => h.2.symm)) ?_
      rintro _ _ ⟨⟨_, rfl, _⟩, rfl⟩
      refine t_st rfl (st_assign rfl) ?_
      refine t_nil ?_
      refine x_then_normal ?_
      refine c_cond _ rfl (fun hc3997 => ?_) (fun hc3997 => ?_)
      ·
       rw [if_pos hc3997] at hm
       refine c_seq ?_
       refine c_region ?_
       refine t_st rfl (st_assign rfl) ?_
       refine t_nil ?_
       refine x_then_normal ?_
       refine c_ret ?_
       refine x_block_ret ?_
       refine x_then_ret ?_
       refine x_block_ret ?_
       refine x_then_ret ?_
       refine x_then_ret ?_
       refine x_block_ret ?_
       refine x_block_ret ?_
       refine x_then_ret ?_
       refine x_then_ret ?_
       refine x_block_ret ?_
       refine x_then_ret ?_
       have hq3998 := houtL3530 _ (Option.some.inj hm).symm
       rw [hq3998] at hk3963
       have hm := elimR hk3963
       have hq3999 := houtL2187 _ (Option.some.inj hm).symm
       rw [hq3999] at hk3516
       have hm := elimR hk3516
       obtain rfl := some1 hm
       exact retM (rs := [.tmp 6]) [.int .i64 (6)] (hle3507.trans hle3954) (by decide) rfl ⟨rfl, trivial⟩ rfl (hp' := R) (sub_skip hs3956 (.refl _)) ⟨rfl, rfl⟩
      ·
       rw [if_neg (fun hh => Bool.noConfusion (hh.symm.trans hc3997))] at hm
       obtain ⟨x4070, hj4071, hk4071⟩ := bindS hm
       refine c_join (fun b4068 e' hp' => [(0, .slice A1 (l4).length c2), (1, .int .i64 (x5)), (8, .slice A2185 (l3958).length c2186), (10, .slice A3527 (x3517).length c3528), (12, .int .i64 (x3964)), (24, .slice A6 (l9).length c7), (25, .int .i64 ((l9.length : Int))), (26, .int .i64 ((k3513 : Int))), (30, .slice A3527 (x3517).length c3528), (31, .int .i64 ((x3517.length : Int))), (32, .int .i64 ((k3960 : Int))), (50, .bool (x4070))] = e' ∧ (hs3956 ++ R) = hp' ∧ b3953.Le b4068) ?_ ?_
       ·
        have hm := hj4071
        by_cases hc4106 : 0 < (k3960 : Int)
        ·
         rw [if_pos hc4106] at hm
         obtain ⟨_, h4107, hm⟩ := bindS hm
         obtain ⟨x4108, h4109, hm⟩ := bindS hm
         obtain ⟨x4118, h4119, hm⟩ := bindS hm
         obtain ⟨x4128, h4129, hm⟩ := bindS hm
         obtain ⟨x4138, hcl4139, hm⟩ := bindS hm
         refine D_drawS ((hs3956 ++ R)) mixed ?_
         refine E_in (sub_app hs3956 (.refl _)) ?_
         refine E_st 0 rfl (st_move rfl) ?_
         refine E_st 1 rfl (st_gtr_t rfl rfl hc4106) ?_
         refine E_st 2 rfl (st_move rfl) ?_
         refine E_yes 3 53 rfl (st_move rfl) ?_
         refine E_yes 4 53 rfl (st_move rfl) ?_
         refine E_yes 5 53 rfl (st_move rfl) ?_
         have h4107 := (chk_some h4107).2
         refine E_yes 6 53 rfl (st_sub rfl rfl h4107) ?_
         obtain ⟨j4110, hj4111, hx4112⟩ := idx_some h4109
         obtain ⟨cs4113, hr4114, hcs4115, hA4116, hlt4117⟩ := FZ.get (sz := 1) rfl (by decide) (h3529.le hle3954) hx4112
         obtain rfl := hr4114
         refine E_yes 7 53 rfl (st_index_old j4110 rfl rfl hj4111 hlt4117 hA4116 sl45) ?_
         refine E_yes 8 53 rfl (st_load_old rfl one3 (hcs4115 0 _ rfl)) ?_
         obtain ⟨j4120, hj4121, hx4122⟩ := idx_some h4119
         obtain ⟨cs4123, hr4124, hcs4125, hA4126, hlt4127⟩ := FZ.get (sz := 6) rfl (by decide) (h3.le (hle3507.trans hle3954)) hx4122
         obtain ⟨_, _, rfl, rfl, ⟨_, _, rfl, rfl, ⟨_, _, rfl, rfl, ⟨_, _, rfl, rfl, ⟨_, _, rfl, rfl, rfl⟩⟩⟩⟩⟩ := hr4124
         refine E_yes 9 53 rfl (st_index_old j4120 rfl rfl hj4121 hlt4127 hA4126 sl22) ?_
         refine E_yes 10 53 rfl (st_loadN_old (vs := [.int .i64 (x4118.From), .int .i64 (x4118.To), .int .i64 (x4118.Dep), .int .i64 (x4118.Arr), .int .i64 (x4118.Km), .int .i64 (x4118.Units)]) 6 rfl agg36 hA4126 rfl (fun j u hu => hcs4125 j u hu)) ?_
         refine E_yes 11 53 rfl (st_move rfl) ?_
         refine E_yes 12 53 rfl (st_move rfl) ?_
         obtain ⟨j4130, hj4131, hx4132⟩ := idx_some h4129
         obtain ⟨cs4133, hr4134, hcs4135, hA4136, hlt4137⟩ := FZ.get (sz := 6) rfl (by decide) (h3.le (hle3507.trans hle3954)) hx4132
         obtain ⟨_, _, rfl, rfl, ⟨_, _, rfl, rfl, ⟨_, _, rfl, rfl, ⟨_, _, rfl, rfl, ⟨_, _, rfl, rfl, rfl⟩⟩⟩⟩⟩ := hr4134
         refine E_yes 13 53 rfl (st_index_old j4130 rfl rfl hj4131 hlt4137 hA4136 sl22) ?_
         refine E_yes 14 53 rfl (st_loadN_old (vs := [.int .i64 (x4128.From), .int .i64 (x4128.To), .int .i64 (x4128.Dep), .int .i64 (x4128.Arr), .int .i64 (x4128.Km), .int .i64 (x4128.Units)]) 6 rfl agg36 hA4136 rfl (fun j u hu => hcs4135 j u hu)) ?_
         refine E_yes 15 53 rfl (st_move rfl) ?_
         refine E_out ?_
         refine D_all [16] (by kernel_rfl) rfl ?_
         refine R_doY (Base.Le.refl _) rfl rfl 53 rfl rfl rfl (u_callW0 _ call45 rfl (fun w ho => cFleetFollows _ [] x4118 x4128 x5 x4138 hcl4139) (fun _ _ _ h => h.2.symm)) ?_ ?_
         ·
          rintro _ _ ⟨⟨_, rfl, _⟩, rfl⟩
          refine ⟨.inr (sub_app hs3956 (.refl _)), ?_⟩
          refine E_in (sub_app hs3956 (.refl _)) ?_
          refine E_yes 17 53 rfl (st_not rfl) ?_
          refine E_st 18 rfl (st_pick_t rfl rfl) ?_
          refine E_st 19 rfl (st_assign rfl) ?_
          refine E_out ?_
          refine D_done (by kernel_rfl) ?_
          obtain rfl := some1 hm
          exact x_join (e' := [(0, .slice A1 (l4).length c2), (1, .int .i64 (x5)), (8, .slice A2185 (l3958).length c2186), (10, .slice A3527 (x3517).length c3528), (12, .int .i64 (x3964)), (24, .slice A6 (l9).length c7), (25, .int .i64 ((l9.length : Int))), (26, .int .i64 ((k3513 : Int))), (30, .slice A3527 (x3517).length c3528), (31, .int .i64 ((x3517.length : Int))), (32, .int .i64 ((k3960 : Int))), (50, .bool (!x4138))]) (hp' := (hs3956 ++ R)) ⟨rfl, rfl, rfl, rfl, rfl, rfl, rfl, rfl, rfl, rfl, rfl, rfl, trivial⟩ (sub_app hs3956 (.refl _)) ⟨rfl, rfl, (Base.Le.refl _)⟩
         exact R_nil
        ·
         rw [if_neg hc4106] at hm
         refine D_drawS ((hs3956 ++ R)) mixed ?_
         refine E_in (sub_app hs3956 (.refl _)) ?_
         refine E_st 0 rfl (st_move rfl) ?_
         refine E_st 1 rfl (st_gtr_f rfl rfl hc4106) ?_
         refine E_st 2 rfl (st_move rfl) ?_
         refine E_no 3 53 rfl rfl rfl ?_
         refine E_no 4 53 rfl rfl rfl ?_
         refine E_no 5 53 rfl rfl rfl ?_
         refine E_no 6 53 rfl rfl rfl ?_
         refine E_no 7 53 rfl rfl rfl ?_
         refine E_no 8 53 rfl rfl rfl ?_
         refine E_no 9 53 rfl rfl rfl ?_
         refine E_no 10 53 rfl rfl rfl ?_
         refine E_no 11 53 rfl rfl rfl ?_
         refine E_no 12 53 rfl rfl rfl ?_
         refine E_no 13 53 rfl rfl rfl ?_
         refine E_no 14 53 rfl rfl rfl ?_
         refine E_no 15 53 rfl rfl rfl ?_
         refine E_no 16 53 rfl rfl rfl ?_
         refine E_no 17 53 rfl rfl rfl ?_
         refine E_st 18 rfl (st_pick_f rfl rfl) ?_
         refine E_st 19 rfl (st_assign rfl) ?_
         refine E_out ?_
         refine D_done (by kernel_rfl) ?_
         obtain rfl := some1 hm
         exact x_join (e' := [(0, .slice A1 (l4).length c2), (1, .int .i64 (x5)), (8, .slice A2185 (l3958).length c2186), (10, .slice A3527 (x3517).length c3528), (12, .int .i64 (x3964)), (24, .slice A6 (l9).length c7), (25, .int .i64 ((l9.length : Int))), (26, .int .i64 ((k3513 : Int))), (30, .slice A3527 (x3517).length c3528), (31, .int .i64 ((x3517.length : Int))), (32, .int .i64 ((k3960 : Int))), (50, .bool (false))]) (hp' := (hs3956 ++ R)) ⟨rfl, rfl, rfl, rfl, rfl, rfl, rfl, rfl, rfl, rfl, rfl, rfl, trivial⟩ (sub_app hs3956 (.refl _)) ⟨rfl, rfl, (Base.Le.refl _)⟩
       ·
        rintro b4068 _ _ ⟨rfl, rfl, hle4069⟩
        have hm := hk4071
        refine c_cond _ rfl (fun hc4140 => ?_) (fun hc4140 => ?_)
        ·
         rw [if_pos hc4140] at hm
         refine c_seq ?_
         refine c_region ?_
         refine t_st rfl (st_assign rfl) ?_
         refine t_nil ?_
         refine x_then_normal ?_
         refine c_ret ?_
         refine x_block_ret ?_
         refine x_then_ret ?_
         refine x_block_ret ?_
         refine x_then_ret ?_
         refine x_then_ret ?_
         refine x_block_ret ?_
         refine x_block_ret ?_
         refine x_then_ret ?_
         refine x_then_ret ?_
         refine x_block_ret ?_
         refine x_then_ret ?_
         have hq4141 := houtL3530 _ (Option.some.inj hm).symm
         rw [hq4141] at hk3963
         have hm := elimR hk3963
         have hq4142 := houtL2187 _ (Option.some.inj hm).symm
         rw [hq4142] at hk3516
         have hm := elimR hk3516
         obtain rfl := some1 hm
         exact retM (rs := [.tmp 6]) [.int .i64 (13)] (hle3507.trans (hle3954.trans hle4069)) (by decide) rfl ⟨rfl, trivial⟩ rfl (hp' := R) (sub_skip hs3956 (.refl _)) ⟨rfl, rfl⟩
        ·
         rw [if_neg (fun hh => Bool.noConfusion (hh.symm.trans hc4140))] at hm
         refine c_skip ?_
         refine x_block_normal ?_
         refine x_then_normal ?_
         refine c_region ?_
         refine t_st rfl (st_move rfl) ?_
         refine t_st rfl (st_move rfl) ?_
         obtain ⟨x4143, h4144, hm⟩ := bindS hm
         obtain ⟨j4145, hj4146, hx4147⟩ := idx_some h4144
         obtain ⟨cs4148, hs4153, P4154, P4155, hq4156, hr4149, hcs4150, hA4151, hlt4152, hb4157, hho4158⟩ := OS.get (sz := 1) rfl (by decide) (h3957.le hle4069) hx4147
         obtain ⟨rfl, rfl⟩ := hr4149
         refine t_st rfl (st_index_old j4145 rfl rfl hj4146 hlt4152 hA4151 sl45) ?_
         refine t_st rfl (st_load_rd rfl one3 (fun w ho => hcs4150 w _ ho (List.sublist_append_left _ _) 0 _ rfl)) ?_
         obtain ⟨_, h4159, hm⟩ := bindS hm
         have h4159 := (chk_some h4159).2
         refine t_st rfl (st_add rfl rfl h4159) ?_
         obtain ⟨x4160, h4161, hm⟩ := bindS hm
         obtain ⟨j4162, hj4163, hx4164⟩ := idx_some h4161
         obtain ⟨cs4165, hs4170, P4171, P4172, hq4173, hr4166, hcs4167, hA4168, hlt4169, hb4174, hho4175⟩ := OS.get (sz := 1) rfl (by decide) (h3957.le hle4069) hx4164
         obtain ⟨rfl, rfl⟩ := hr4166
         refine t_st rfl (st_index_old j4162 rfl rfl hj4163 hlt4169 hA4168 sl45) ?_
         refine t_do rfl (u_putOS hj4163 (sz := 1) (a' := x4143 + 1) rfl [] R 0 1 [.int .i64 (x4143 + 1)] rfl (h3957.le hle4069) hx4164 rfl rfl rfl siz3 rfl (by intro u hu; simp only [List.mem_cons, List.not_mem_nil, or_false] at hu; subst hu; rfl) (fun cs hsj hh => by obtain ⟨rfl, rfl⟩ := hh; exact ⟨by decide, rfl, rfl⟩)) ?_
         rintro _ _ ⟨hs4176, rfl, h4177⟩
         refine t_resp 8 rfl (v' := .slice A2185 (put l3958 x3964 (x4143 + 1)).length c2186) (by simp only [put_length]) ?_
         refine t_nil ?_
         refine x_block_normal ?_
         refine x_then_normal ?_
         refine c_region ?_
         refine t_st rfl (st_add rfl rfl (by omega)) ?_
         refine t_st rfl (st_move rfl) ?_
         refine t_nil ?_
         exact x_againM (put l3958 x3964 (x4143 + 1)) (Option.some.inj hm).symm (e' := [(0, .slice A1 (l4).length c2), (1, .int .i64 (x5)), (8, .slice A2185 (put l3958 x3964 (x4143 + 1)).length c2186), (10, .slice A3527 (x3517).length c3528), (24, .slice A6 (l9).length c7), (25, .int .i64 ((l9.length : Int))), (26, .int .i64 ((k3513 : Int))), (30, .slice A3527 (x3517).length c3528), (31, .int .i64 ((x3517.length : Int))), (32, .int .i64 ((k3960 : Int) + 1))]) (hp' := (hs4176 ++ R)) ⟨rfl, rfl, rfl, rfl, rfl, rfl, rfl, rfl, rfl, rfl, trivial⟩ (sub_app hs4176 (.refl _)) ⟨hs4176, rfl, rfl, ((hle3954.trans hle4069)), h4177, ((put_length _ _ _).trans hln3959)⟩
    ·
     rintro l3958 b3953 _ _ ⟨hs3956, rfl, rfl, hle3954, h3957, hln3959⟩ hq4178
     rw [hq4178] at hk3963
     have hm := elimL hk3963
     refine c_seq ?_
     refine c_region ?_
     refine t_st rfl (st_lss_f rfl rfl (by omega)) ?_
     refine t_nil ?_
     refine x_then_normal ?_
     refine c_seq ?_
     refine c_cond_f rfl ?_
     refine c_exit ?_
     refine x_then_exit ?_
     refine x_then_exit ?_
     refine x_block_out ?_
     refine x_block_normal ?_
     refine x_then_normal ?_
     refine c_region ?_
     refine t_st rfl (st_add rfl rfl (by omega)) ?_
     refine t_st rfl (st_move rfl) ?_
     refine t_nil ?_
     exact x_againM l3958 (Option.some.inj hm).symm (e' := [(0, .slice A1 (l4).length c2), (1, .int .i64 (x5)), (8, .slice A2185 (l3958).length c2186), (24, .slice A6 (l9).length c7), (25, .int .i64 ((l9.length : Int))), (26, .int .i64 ((k3513 : Int) + 1))]) (hp' := (hs3956 ++ R)) ⟨rfl, rfl, rfl, rfl, rfl, rfl, trivial⟩ (sub_app hs3956 (.refl _)) ⟨hs3956, rfl, rfl, ((hle3507.trans hle3954)), h3957, hln3959⟩
   ·
    rintro l3511 b3506 _ _ ⟨hs3509, rfl, rfl, hle3507, h3510, hln3512⟩ hq4179
    rw [hq4179] at hk3516
    have hm := elimL hk3516
    refine c_seq ?_
    refine c_region ?_
    refine t_st rfl (st_lss_f rfl rfl (by omega)) ?_
    refine t_nil ?_
    refine x_then_normal ?_
    refine c_seq ?_
    refine c_cond_f rfl ?_
    refine c_exit ?_
    refine x_then_exit ?_
    refine x_then_exit ?_
    refine x_block_out ?_
    refine x_then_normal ?_
    refine c_seq ?_
    refine c_seq ?_
    refine c_region ?_
    refine t_st rfl (st_move rfl) ?_
    refine t_st rfl (st_len rfl sl22) ?_
    refine t_st rfl (st_move rfl) ?_
    refine t_nil ?_
    refine x_then_normal ?_
    refine c_block ?_
    have hb4181 : l4.length ≤ 9223372036854775807 := (FZ.bd (h3.le hle3507))
    obtain ⟨t4262, hl4263, hk4264⟩ := bindS hm
    refine c_forM (fun k4261 => fun _ => fun b4259 e' hp' => [(8, .slice A2185 (l3511).length c2186), (78, .slice A1 (l4).length c2), (79, .int .i64 ((l4.length : Int))), (80, .int .i64 ((k4261 : Int)))] = e' ∧ (hs3509 ++ R) = hp' ∧ b3506.Le b4259) hl4263 (e' := [(8, .slice A2185 (l3511).length c2186), (78, .slice A1 (l4).length c2), (79, .int .i64 ((l4.length : Int))), (80, .int .i64 0)]) (hp' := (hs3509 ++ R)) ⟨rfl, rfl, rfl, rfl, trivial⟩ (sub_app hs3509 (.refl _)) ⟨rfl, rfl, (Base.Le.refl _)⟩ ?_ ?_
    ·
     rintro k4261 _ b4259 _ _ oL4180 hknL4180 ⟨rfl, rfl, hle4260⟩ hstepL4180 houtL4180
     unfold mFleetLegal_L4180 at hstepL4180
     have hm := hstepL4180
     refine c_seq ?_
     refine c_region ?_
     refine t_st rfl (st_lss_t rfl rfl (by omega)) ?_
     refine t_nil ?_
     refine x_then_normal ?_
     refine c_seq ?_
     refine c_cond_t rfl ?_
     refine c_skip ?_
     refine x_then_normal ?_
     refine c_seq ?_
     refine c_block ?_
     refine c_seq ?_
     refine c_region ?_
     refine t_st rfl (st_move rfl) ?_
     obtain ⟨x4265, h4266, hm⟩ := bindS hm
     obtain ⟨j4267, hj4268, hx4269⟩ := idx_some h4266
     obtain ⟨cs4270, hr4271, hcs4272, hA4273, hlt4274⟩ := FZ.get (sz := 6) rfl (by decide) (h3.le (hle3507.trans hle4260)) hx4269
     obtain ⟨_, _, rfl, rfl, ⟨_, _, rfl, rfl, ⟨_, _, rfl, rfl, ⟨_, _, rfl, rfl, ⟨_, _, rfl, rfl, rfl⟩⟩⟩⟩⟩ := hr4271
     refine t_st rfl (st_index_old j4267 rfl rfl hj4268 hlt4274 hA4273 sl22) ?_
     refine t_st rfl (st_loadN_old (vs := [.int .i64 (x4265.From), .int .i64 (x4265.To), .int .i64 (x4265.Dep), .int .i64 (x4265.Arr), .int .i64 (x4265.Km), .int .i64 (x4265.Units)]) 6 rfl agg36 hA4273 rfl (fun j u hu => hcs4272 j u hu)) ?_
     refine t_do rfl (u_alloc [.int .i64 0, .int .i64 0, .int .i64 0, .int .i64 0, .int .i64 0, .int .i64 0] zero36 rfl) ?_
     rintro _ _ ⟨g4275, rfl, rfl⟩
     refine t_st rfl (st_assign rfl) ?_
     refine t_do rfl (u_storeN (vs := [_, _, _, _, _, _]) 0 6 rfl rfl rfl siz36 rfl (by intro u hu; simp only [List.mem_cons, List.not_mem_nil, or_false] at hu; rcases hu with rfl | rfl | rfl | rfl | rfl | rfl <;> rfl) rfl (by simp)) ?_
     rintro _ _ rfl
     refine t_nil ?_
     refine x_then_normal ?_
     refine c_block ?_
     refine c_seq ?_
     obtain ⟨x4292, h4293, hm⟩ := bindS hm
     refine D_drawS ((g4275, Cl 36 [.int .i64 (x4265.From), .int .i64 (x4265.To), .int .i64 (x4265.Dep), .int .i64 (x4265.Arr), .int .i64 (x4265.Km), .int .i64 (x4265.Units)]) :: (hs3509 ++ R)) mixed ?_
     refine E_in (.cons_cons _ (sub_app hs3509 (.refl _))) ?_
     refine E_st 0 rfl (st_move rfl) ?_
     refine E_st 1 rfl (st_move rfl) ?_
     obtain ⟨j4294, hj4295, hx4296⟩ := idx_some h4293
     obtain ⟨cs4297, hs4302, P4303, P4304, hq4305, hr4298, hcs4299, hA4300, hlt4301, hb4306, hho4307⟩ := OS.get (sz := 1) rfl (by decide) (h3510.le hle4260) hx4296
     obtain ⟨rfl, rfl⟩ := hr4298
     refine E_st 2 rfl (st_index_old j4294 rfl rfl hj4295 hlt4301 hA4300 sl45) ?_
     refine E_st 3 rfl (st_load_rd rfl one3 (fun w ho => hcs4299 w _ ho (.cons _ (List.sublist_append_left _ _)) 0 _ rfl)) ?_
     refine E_st 4 rfl (st_field rfl fld36_5) ?_
     refine E_st 5 rfl (st_load 0 rfl one3 rfl rfl) ?_
     refine E_st 6 rfl (st_gtr rfl rfl) ?_
     refine E_st 7 rfl (st_assign rfl) ?_
     refine E_out ?_
     refine D_done (by kernel_rfl) ?_
     refine x_then_normal ?_
     refine c_cond _ rfl (fun hc4308 => ?_) (fun hc4308 => ?_)
     ·
      rw [if_pos (of_decide_eq_true hc4308)] at hm
      refine c_seq ?_
      refine c_region ?_
      refine t_st rfl (st_assign rfl) ?_
      refine t_nil ?_
      refine x_then_normal ?_
      refine c_ret ?_
      refine x_block_ret ?_
      refine x_block_ret ?_
      refine x_then_ret ?_
      refine x_then_ret ?_
      refine x_block_ret ?_
      refine x_then_ret ?_
      have hq4309 := houtL4180 _ (Option.some.inj hm).symm
      rw [hq4309] at hk4264
      have hm := elimR hk4264
      obtain rfl := some1 hm
      exact retM (rs := [.tmp 6]) [.int .i64 (4)] (hle3507.trans hle4260) (by decide) rfl ⟨rfl, trivial⟩ rfl (hp' := R) (.cons _ (sub_skip hs3509 (.refl _))) ⟨rfl, rfl⟩
     ·
      rw [if_neg (of_decide_eq_false hc4308)] at hm
      refine c_seq ?_
      obtain ⟨x4326, h4327, hm⟩ := bindS hm
      refine D_drawS ((g4275, Cl 36 [.int .i64 (x4265.From), .int .i64 (x4265.To), .int .i64 (x4265.Dep), .int .i64 (x4265.Arr), .int .i64 (x4265.Km), .int .i64 (x4265.Units)]) :: (hs3509 ++ R)) mixed ?_
      refine E_in (.cons_cons _ (sub_app hs3509 (.refl _))) ?_
      refine E_st 0 rfl (st_move rfl) ?_
      refine E_st 1 rfl (st_move rfl) ?_
      obtain ⟨j4328, hj4329, hx4330⟩ := idx_some h4327
      obtain ⟨cs4331, hs4336, P4337, P4338, hq4339, hr4332, hcs4333, hA4334, hlt4335, hb4340, hho4341⟩ := OS.get (sz := 1) rfl (by decide) (h3510.le hle4260) hx4330
      obtain ⟨rfl, rfl⟩ := hr4332
      refine E_st 2 rfl (st_index_old j4328 rfl rfl hj4329 hlt4335 hA4334 sl45) ?_
      refine E_st 3 rfl (st_load_rd rfl one3 (fun w ho => hcs4333 w _ ho (.cons _ (List.sublist_append_left _ _)) 0 _ rfl)) ?_
      refine E_st 4 rfl (st_field rfl fld36_5) ?_
      refine E_st 5 rfl (st_load 0 rfl one3 rfl rfl) ?_
      refine E_st 6 rfl (st_lss rfl rfl) ?_
      refine E_st 7 rfl (st_assign rfl) ?_
      refine E_out ?_
      refine D_done (by kernel_rfl) ?_
      refine x_then_normal ?_
      refine c_cond _ rfl (fun hc4342 => ?_) (fun hc4342 => ?_)
      ·
       rw [if_pos (of_decide_eq_true hc4342)] at hm
       refine c_seq ?_
       refine c_region ?_
       refine t_st rfl (st_assign rfl) ?_
       refine t_nil ?_
       refine x_then_normal ?_
       refine c_ret ?_
       refine x_block_ret ?_
       refine x_block_ret ?_
       refine x_then_ret ?_
       refine x_then_ret ?_
       refine x_block_ret ?_
       refine x_then_ret ?_
       have hq4343 := houtL4180 _ (Option.some.inj hm).symm
       rw [hq4343] at hk4264
       have hm := elimR hk4264
       obtain rfl := some1 hm
       exact retM (rs := [.tmp 6]) [.int .i64 (9)] (hle3507.trans hle4260) (by decide) rfl ⟨rfl, trivial⟩ rfl (hp' := R) (.cons _ (sub_skip hs3509 (.refl _))) ⟨rfl, rfl⟩
      ·
       rw [if_neg (of_decide_eq_false hc4342)] at hm
       refine c_skip ?_
       refine x_block_normal ?_
       refine x_block_normal ?_
       refine x_then_normal ?_
       refine c_region ?_
       refine t_st rfl (st_add rfl rfl (by omega)) ?_
       refine t_st rfl (st_move rfl) ?_
       refine t_nil ?_
       exact x_againM () (Option.some.inj hm).symm (e' := [(8, .slice A2185 (l3511).length c2186), (78, .slice A1 (l4).length c2), (79, .int .i64 ((l4.length : Int))), (80, .int .i64 ((k4261 : Int) + 1))]) (hp' := (hs3509 ++ R)) ⟨rfl, rfl, rfl, rfl, trivial⟩ (.cons _ (sub_app hs3509 (.refl _))) ⟨rfl, rfl, (hle4260)⟩
    ·
     rintro _ b4259 _ _ ⟨rfl, rfl, hle4260⟩ hq4344
     rw [hq4344] at hk4264
     have hm := elimL hk4264
     refine c_seq ?_
     refine c_region ?_
     refine t_st rfl (st_lss_f rfl rfl (by omega)) ?_
     refine t_nil ?_
     refine x_then_normal ?_
     refine c_seq ?_
     refine c_cond_f rfl ?_
     refine c_exit ?_
     refine x_then_exit ?_
     refine x_then_exit ?_
     refine x_block_out ?_
     refine x_then_normal ?_
     refine c_seq ?_
     refine c_region ?_
     refine t_st rfl (st_assign rfl) ?_
     refine t_nil ?_
     refine x_then_normal ?_
     refine c_ret ?_
     obtain rfl := some1 hm
     exact retM (rs := [.tmp 6]) [.int .i64 (0)] (hle3507.trans hle4260) (by decide) rfl ⟨rfl, trivial⟩ rfl (hp' := R) (sub_skip hs3509 (.refl _)) ⟨rfl, rfl⟩

set_option maxRecDepth 20000 in
theorem cFishkeep2FleetEnough (b : Base) (R : Hp) (l4 : (List FleetTask)) (x5 : Int) (A1 : Option Addr) (c2 : Nat) (h3 : FZ rFleetTask b.w A1 c2 l4) (x207 : Bool) (hm : mFishkeep2FleetEnough l4 x5 = some x207) :
    CallsG Try.prog 3 [.slice A1 (l4).length c2, .int .i64 (x5)] b (R) (fun v b' hp' => .bool (x207) = v ∧ R = hp') := by
  refine fn_enterG 106 Try.func3 rfl Try.ntmps3 rfl ?_
  unfold mFishkeep2FleetEnough at hm
  refine c_seq ?_
  refine c_region ?_
  refine t_st rfl (st_assign rfl) ?_
  refine t_nil ?_
  refine x_then_normal ?_
  refine c_seq ?_
  refine c_seq ?_
  refine c_region ?_
  obtain ⟨x208, hcl209, hm⟩ := bindS hm
  refine t_do rfl (u_callW0 _ call10 rfl (fun w ho => cFishkeep2AwakeFleet _ [] x208 hcl209) (fun _ _ _ h => h.2.symm)) ?_
  rintro _ _ ⟨⟨_, rfl, _⟩, rfl⟩
  refine t_st rfl (st_not rfl) ?_
  refine t_nil ?_
  refine x_then_normal ?_
  refine c_cond _ rfl (fun hc210 => ?_) (fun hc210 => ?_)
  ·
   rw [if_neg (fun hh => Bool.noConfusion (hh.symm.trans (notT hc210)))] at hm
   refine c_seq ?_
   refine c_region ?_
   refine t_st rfl (st_assign rfl) ?_
   refine t_nil ?_
   refine x_then_normal ?_
   refine c_ret ?_
   refine x_then_ret ?_
   obtain rfl := some1 hm
   exact retM (rs := [.tmp 4]) [.bool (false)] (Base.Le.refl _) (by decide) rfl ⟨rfl, trivial⟩ rfl (hp' := R) (.refl _) ⟨rfl, rfl⟩
  ·
   rw [if_pos (notF hc210)] at hm
   refine c_skip ?_
   refine x_then_normal ?_
   refine c_seq ?_
   refine c_seq ?_
   refine c_region ?_
   obtain ⟨x211, hcl212, hm⟩ := bindS hm
   refine t_do rfl (u_callW0 _ call11 rfl (fun w ho => cFishkeep2Sets _ [] x211 hcl212) (fun _ _ _ h => h.2.symm)) ?_
   rintro _ _ ⟨⟨_, rfl, _⟩, rfl⟩
   refine t_st rfl (st_not rfl) ?_
   refine t_nil ?_
   refine x_then_normal ?_
   refine c_cond _ rfl (fun hc213 => ?_) (fun hc213 => ?_)
   ·
    rw [if_neg (fun hh => Bool.noConfusion (hh.symm.trans (notT hc213)))] at hm
    refine c_seq ?_
    refine c_region ?_
    refine t_st rfl (st_assign rfl) ?_
    refine t_nil ?_
    refine x_then_normal ?_
    refine c_ret ?_
    refine x_then_ret ?_
    obtain rfl := some1 hm
    exact retM (rs := [.tmp 4]) [.bool (false)] (Base.Le.refl _) (by decide) rfl ⟨rfl, trivial⟩ rfl (hp' := R) (.refl _) ⟨rfl, rfl⟩
   ·
    rw [if_pos (notF hc213)] at hm
    refine c_skip ?_
    refine x_then_normal ?_
    refine c_seq ?_
    refine c_seq ?_
    refine c_region ?_
    refine t_st rfl (st_move rfl) ?_
    refine t_st rfl (st_move rfl) ?_
    obtain ⟨x214, hcl215, hm⟩ := bindS hm
    refine t_do rfl (u_callW0 _ call12 rfl (fun w ho => cFishref2TurnFault _ [] l4 x5 A1 c2 (h3.old ho) x214 hcl215) (fun _ _ _ h => h.2.symm)) ?_
    rintro _ _ ⟨⟨_, rfl, _⟩, rfl⟩
    refine t_st rfl (st_neq rfl rfl) ?_
    refine t_nil ?_
    refine x_then_normal ?_
    refine c_cond _ rfl (fun hc216 => ?_) (fun hc216 => ?_)
    ·
     rw [if_pos (of_decide_eq_true hc216)] at hm
     refine c_seq ?_
     refine c_region ?_
     refine t_st rfl (st_assign rfl) ?_
     refine t_nil ?_
     refine x_then_normal ?_
     refine c_ret ?_
     refine x_then_ret ?_
     obtain rfl := some1 hm
     exact retM (rs := [.tmp 4]) [.bool (true)] (Base.Le.refl _) (by decide) rfl ⟨rfl, trivial⟩ rfl (hp' := R) (.refl _) ⟨rfl, rfl⟩
    ·
     rw [if_neg (of_decide_eq_false hc216)] at hm
     refine c_skip ?_
     refine x_then_normal ?_
     refine c_seq ?_
     refine c_region ?_
     refine t_st rfl (st_move rfl) ?_
     refine t_st rfl (st_move rfl) ?_
     obtain ⟨⟨x217, l218⟩, hcl219, hm⟩ := bindS hm
     have hm := (unc2E hm)
     refine t_callG _ rfl call13 rfl (cFleetTurns _ _ l4 x5 A1 c2 h3 x217 l218 hcl219) ?_
     rintro _ b220 _ hle221 ⟨A222, c223, hs224, rfl, rfl, h225⟩
     refine t_in1 [] [] hs224 R rfl ?_
     refine t_st rfl (st_move rfl) ?_
     refine t_st rfl (st_extract rfl rfl) ?_
     refine t_st rfl (st_extract rfl rfl) ?_
     refine t_st rfl (st_assign rfl) ?_
     refine t_st rfl (st_assign rfl) ?_
     refine t_nil ?_
     refine x_then_normal ?_
     refine c_seq ?_
     refine c_region ?_
     refine t_st rfl (st_move rfl) ?_
     refine t_st rfl (st_move rfl) ?_
     obtain ⟨⟨x226, l227⟩, hcl228, hm⟩ := bindS hm
     have hm := (unc2E hm)
     refine t_callG _ rfl call14 rfl (cFleetMoments _ _ l4 x5 A1 c2 (h3.le hle221) x226 l227 hcl228) ?_
     rintro _ b229 _ hle230 ⟨A231, c232, hs233, rfl, rfl, h234⟩
     refine t_in1 [] [] hs233 (hs224 ++ R) rfl ?_
     refine t_st rfl (st_move rfl) ?_
     refine t_st rfl (st_extract rfl rfl) ?_
     refine t_st rfl (st_extract rfl rfl) ?_
     refine t_st rfl (st_assign rfl) ?_
     refine t_st rfl (st_assign rfl) ?_
     refine t_nil ?_
     refine x_then_normal ?_
     refine c_seq ?_
     refine c_region ?_
     refine t_st rfl (st_assign rfl) ?_
     refine t_nil ?_
     refine x_then_normal ?_
     refine c_seq ?_
     refine c_seq ?_
     refine c_region ?_
     refine t_st rfl (st_move rfl) ?_
     refine t_st rfl (st_len rfl sl29) ?_
     refine t_st rfl (st_move rfl) ?_
     refine t_nil ?_
     refine x_then_normal ?_
     refine c_block ?_
     have hb236 : l227.length ≤ 9223372036854775807 := (OS.len h234)
     refine c_front2 [] hs233 hs224 R rfl ?_
     obtain ⟨x276, hl278, hk279⟩ := bindS hm
     refine c_forS (fun k277 => fun x276 => fun b274 e' hp' => [(0, .slice A1 (l4).length c2), (1, .int .i64 (x5)), (5, .slice A222 (l218).length c223), (6, .int .i64 (x217)), (8, .int .i64 (x226)), (9, .int .i64 (x276)), (36, .slice A231 (l227).length c232), (37, .int .i64 ((l227.length : Int))), (38, .int .i64 ((k277 : Int)))] = e' ∧ (hs224 ++ (hs233 ++ R)) = hp' ∧ b229.Le b274) hl278 (e' := [(0, .slice A1 (l4).length c2), (1, .int .i64 (x5)), (5, .slice A222 (l218).length c223), (6, .int .i64 (x217)), (8, .int .i64 (x226)), (9, .int .i64 (0)), (36, .slice A231 (l227).length c232), (37, .int .i64 ((l227.length : Int))), (38, .int .i64 0)]) (hp' := (hs224 ++ (hs233 ++ R))) ⟨rfl, rfl, rfl, rfl, rfl, rfl, rfl, rfl, rfl, trivial⟩ (sub_app hs224 (sub_app hs233 (.refl _))) ⟨rfl, rfl, (Base.Le.refl _)⟩ ?_ ?_
     ·
      rintro k277 x276 b274 _ _ oL235 hknL235 ⟨rfl, rfl, hle275⟩ hstepL235
      unfold mFishkeep2FleetEnough_L235 at hstepL235
      have hm := hstepL235
      refine c_seq ?_
      refine c_region ?_
      refine t_st rfl (st_lss_t rfl rfl (by omega)) ?_
      refine t_nil ?_
      refine x_then_normal ?_
      refine c_seq ?_
      refine c_cond_t rfl ?_
      refine c_skip ?_
      refine x_then_normal ?_
      refine c_seq ?_
      refine c_block ?_
      refine c_seq ?_
      refine c_region ?_
      obtain ⟨x280, h281, hm⟩ := bindS hm
      obtain ⟨j282, hj283, hx284⟩ := idx_some h281
      obtain ⟨cs285, hs290, P291, P292, hq293, hr286, hcs287, hA288, hlt289, hb294, hho295⟩ := OS.get (sz := 3) rfl (by decide) (h234.le hle275) hx284
      obtain ⟨⟨_, _, rfl, rfl, ⟨_, _, rfl, rfl, rfl⟩⟩, rfl⟩ := hr286
      refine t_st rfl (st_index_old j282 rfl rfl hj283 hlt289 hA288 sl29) ?_
      refine t_st rfl (st_loadN_rd (vs := [.int .i64 (x280.Place), .int .i64 (x280.At), .int .i64 (x280.Short)]) 3 rfl agg33 hA288 rfl (fun w ho j u hu => hcs287 w _ ho (sub_skip hs224 (List.sublist_append_left _ _)) j u hu)) ?_
      refine t_do rfl (u_alloc [.int .i64 0, .int .i64 0, .int .i64 0] zero33 rfl) ?_
      rintro _ _ ⟨g296, rfl, rfl⟩
      refine t_do rfl (u_storeN (vs := [_, _, _]) 0 3 rfl rfl rfl siz33 rfl (by intro u hu; simp only [List.mem_cons, List.not_mem_nil, or_false] at hu; rcases hu with rfl | rfl | rfl <;> rfl) rfl (by simp)) ?_
      rintro _ _ rfl
      refine t_nil ?_
      refine x_then_normal ?_
      refine c_region ?_
      refine t_st rfl (st_move rfl) ?_
      refine t_st rfl (st_field rfl fld33_2) ?_
      refine t_st rfl (st_load 0 rfl one3 rfl rfl) ?_
      obtain ⟨_, h297, hm⟩ := bindS hm
      have h297 := (chk_some h297).2
      refine t_st rfl (st_add rfl rfl h297) ?_
      refine t_st rfl (st_assign rfl) ?_
      refine t_nil ?_
      refine x_block_normal ?_
      refine x_then_normal ?_
      refine c_region ?_
      refine t_st rfl (st_add rfl rfl (by omega)) ?_
      refine t_st rfl (st_move rfl) ?_
      refine t_nil ?_
      refine x_front2 [_] hs224 hs233 R rfl ?_
      refine x_front2 [_] hs233 hs224 R rfl ?_
      obtain rfl := some1 hm
      exact x_againS (e' := [(0, .slice A1 (l4).length c2), (1, .int .i64 (x5)), (5, .slice A222 (l218).length c223), (6, .int .i64 (x217)), (8, .int .i64 (x226)), (9, .int .i64 (x276 + x280.Short)), (36, .slice A231 (l227).length c232), (37, .int .i64 ((l227.length : Int))), (38, .int .i64 ((k277 : Int) + 1))]) (hp' := (hs224 ++ (hs233 ++ R))) ⟨rfl, rfl, rfl, rfl, rfl, rfl, rfl, rfl, rfl, trivial⟩ (.cons _ (sub_app hs224 (sub_app hs233 (.refl _)))) ⟨rfl, rfl, (hle275)⟩
     ·
      rintro b274 _ _ ⟨rfl, rfl, hle275⟩
      have hm := hk279
      refine c_seq ?_
      refine c_region ?_
      refine t_st rfl (st_lss_f rfl rfl (by omega)) ?_
      refine t_nil ?_
      refine x_then_normal ?_
      refine c_seq ?_
      refine c_cond_f rfl ?_
      refine c_exit ?_
      refine x_then_exit ?_
      refine x_then_exit ?_
      refine x_block_out ?_
      refine x_then_normal ?_
      refine c_seq ?_
      obtain ⟨x305, hj306, hk306⟩ := bindS hm
      refine c_join (fun b303 e' hp' => [(0, .slice A1 (l4).length c2), (1, .int .i64 (x5)), (5, .slice A222 (l218).length c223), (65, .bool (x305))] = e' ∧ (hs224 ++ R) = hp' ∧ b274.Le b303) ?_ ?_
      ·
       have hm := hj306
       refine c_region ?_
       refine t_st rfl (st_move rfl) ?_
       refine t_bool rfl (st_neq rfl rfl) (fun hc307 => ?_) (fun hc307 => ?_)
       ·
        rw [if_pos hc307] at hm
        refine t_st rfl (st_move rfl) ?_
        refine t_no 49 rfl rfl rfl rfl rfl ?_
        refine t_no 49 rfl rfl rfl rfl rfl ?_
        refine t_st rfl (st_pick_t rfl rfl) ?_
        refine t_st rfl (st_move rfl) ?_
        refine t_no 53 rfl rfl rfl rfl rfl ?_
        refine t_no 53 rfl rfl rfl rfl rfl ?_
        refine t_no 53 rfl rfl rfl rfl rfl ?_
        refine t_no 53 rfl rfl rfl rfl rfl ?_
        refine t_st rfl (st_pick_t rfl rfl) ?_
        refine t_st rfl (st_move rfl) ?_
        refine t_no 59 rfl rfl rfl rfl rfl ?_
        refine t_no 59 rfl rfl rfl rfl rfl ?_
        refine t_no 59 rfl rfl rfl rfl rfl ?_
        refine t_no 59 rfl rfl rfl rfl rfl ?_
        refine t_no 59 rfl rfl rfl rfl rfl ?_
        refine t_st rfl (st_pick_t rfl rfl) ?_
        refine t_nil ?_
        obtain rfl := some1 hm
        exact x_join (e' := [(0, .slice A1 (l4).length c2), (1, .int .i64 (x5)), (5, .slice A222 (l218).length c223), (65, .bool (true))]) (hp' := (hs224 ++ R)) ⟨rfl, rfl, rfl, rfl, trivial⟩ (sub_app hs224 (sub_skip hs233 (.refl _))) ⟨rfl, rfl, (Base.Le.refl _)⟩
       ·
        rw [if_neg hc307] at hm
        refine t_st rfl (st_move rfl) ?_
        refine t_yes 49 rfl rfl rfl ?_
        refine t_st rfl (st_move rfl) ?_
        refine t_yes 49 rfl rfl rfl ?_
        refine t_bool rfl (st_neq rfl rfl) (fun hc308 => ?_) (fun hc308 => ?_)
        ·
         rw [if_pos hc308] at hm
         refine t_st rfl (st_pick_f rfl rfl) ?_
         refine t_st rfl (st_move rfl) ?_
         refine t_no 53 rfl rfl rfl rfl rfl ?_
         refine t_no 53 rfl rfl rfl rfl rfl ?_
         refine t_no 53 rfl rfl rfl rfl rfl ?_
         refine t_no 53 rfl rfl rfl rfl rfl ?_
         refine t_st rfl (st_pick_t rfl rfl) ?_
         refine t_st rfl (st_move rfl) ?_
         refine t_no 59 rfl rfl rfl rfl rfl ?_
         refine t_no 59 rfl rfl rfl rfl rfl ?_
         refine t_no 59 rfl rfl rfl rfl rfl ?_
         refine t_no 59 rfl rfl rfl rfl rfl ?_
         refine t_no 59 rfl rfl rfl rfl rfl ?_
         refine t_st rfl (st_pick_t rfl rfl) ?_
         refine t_nil ?_
         obtain rfl := some1 hm
         exact x_join (e' := [(0, .slice A1 (l4).length c2), (1, .int .i64 (x5)), (5, .slice A222 (l218).length c223), (65, .bool (true))]) (hp' := (hs224 ++ R)) ⟨rfl, rfl, rfl, rfl, trivial⟩ (sub_app hs224 (sub_skip hs233 (.refl _))) ⟨rfl, rfl, (Base.Le.refl _)⟩
        ·
         rw [if_neg hc308] at hm
         refine t_st rfl (st_pick_f rfl rfl) ?_
         refine t_st rfl (st_move rfl) ?_
         refine t_yes 53 rfl rfl rfl ?_
         refine t_st rfl (st_move rfl) ?_
         refine t_yes 53 rfl rfl rfl ?_
         refine t_st rfl (st_move rfl) ?_
         refine t_yes 53 rfl rfl rfl ?_
         refine t_st rfl (st_len rfl sl26) ?_
         refine t_yes 53 rfl rfl rfl ?_
         refine t_bool rfl (st_neq rfl rfl) (fun hc309 => ?_) (fun hc309 => ?_)
         ·
          rw [if_pos hc309] at hm
          refine t_st rfl (st_pick_f rfl rfl) ?_
          refine t_st rfl (st_move rfl) ?_
          refine t_no 59 rfl rfl rfl rfl rfl ?_
          refine t_no 59 rfl rfl rfl rfl rfl ?_
          refine t_no 59 rfl rfl rfl rfl rfl ?_
          refine t_no 59 rfl rfl rfl rfl rfl ?_
          refine t_no 59 rfl rfl rfl rfl rfl ?_
          refine t_st rfl (st_pick_t rfl rfl) ?_
          refine t_nil ?_
          obtain rfl := some1 hm
          exact x_join (e' := [(0, .slice A1 (l4).length c2), (1, .int .i64 (x5)), (5, .slice A222 (l218).length c223), (65, .bool (true))]) (hp' := (hs224 ++ R)) ⟨rfl, rfl, rfl, rfl, trivial⟩ (sub_app hs224 (sub_skip hs233 (.refl _))) ⟨rfl, rfl, (Base.Le.refl _)⟩
         ·
          rw [if_neg hc309] at hm
          refine t_st rfl (st_pick_f rfl rfl) ?_
          refine t_st rfl (st_move rfl) ?_
          refine t_yes 59 rfl rfl rfl ?_
          refine t_st rfl (st_move rfl) ?_
          refine t_yes 59 rfl rfl rfl ?_
          refine t_st rfl (st_move rfl) ?_
          refine t_yes 59 rfl rfl rfl ?_
          refine t_st rfl (st_move rfl) ?_
          refine t_yes 59 rfl rfl rfl ?_
          obtain ⟨x310, hcl311, hm⟩ := bindS hm
          refine t_do rfl (u_callW0 _ call15 rfl (fun w ho => cFleetLegal _ [] l4 x5 l218 A1 c2 A222 c223 ((h3.le (hle221.trans (hle230.trans hle275))).old ho) (OS.now (o := (OT.list 3 (OT.fr (RT.int .i64)))) (l := l218) (hs := hs224) (h225.le (hle230.trans hle275)) ho (List.sublist_append_left _ _)) x310 hcl311) (fun _ _ _ h => h.2.symm)) ?_
          rintro _ _ ⟨⟨_, rfl, _⟩, rfl⟩
          refine t_yes 59 rfl rfl rfl ?_
          refine t_st rfl (st_neq rfl rfl) ?_
          refine t_st rfl (st_pick_f rfl rfl) ?_
          refine t_nil ?_
          obtain rfl := some1 hm
          exact x_join (e' := [(0, .slice A1 (l4).length c2), (1, .int .i64 (x5)), (5, .slice A222 (l218).length c223), (65, .bool (decide (x310 ≠ 0)))]) (hp' := (hs224 ++ R)) ⟨rfl, rfl, rfl, rfl, trivial⟩ (sub_app hs224 (sub_skip hs233 (.refl _))) ⟨rfl, rfl, (Base.Le.refl _)⟩
      ·
       rintro b303 _ _ ⟨rfl, rfl, hle304⟩
       have hm := hk306
       refine c_cond _ rfl (fun hc312 => ?_) (fun hc312 => ?_)
       ·
        rw [if_pos hc312] at hm
        refine c_seq ?_
        refine c_region ?_
        refine t_st rfl (st_assign rfl) ?_
        refine t_nil ?_
        refine x_then_normal ?_
        refine c_ret ?_
        refine x_then_ret ?_
        obtain rfl := some1 hm
        exact retM (rs := [.tmp 4]) [.bool (false)] (hle221.trans (hle230.trans (hle275.trans hle304))) (by decide) rfl ⟨rfl, trivial⟩ rfl (hp' := R) (sub_skip hs224 (.refl _)) ⟨rfl, rfl⟩
       ·
        rw [if_neg (fun hh => Bool.noConfusion (hh.symm.trans hc312))] at hm
        refine c_skip ?_
        refine x_then_normal ?_
        refine c_seq ?_
        refine c_region ?_
        refine t_st rfl (st_assign rfl) ?_
        refine t_nil ?_
        refine x_then_normal ?_
        refine c_seq ?_
        refine c_seq ?_
        refine c_region ?_
        refine t_st rfl (st_move rfl) ?_
        refine t_st rfl (st_len rfl sl22) ?_
        refine t_st rfl (st_move rfl) ?_
        refine t_nil ?_
        refine x_then_normal ?_
        refine c_block ?_
        have hb314 : l4.length ≤ 9223372036854775807 := (FZ.bd (h3.le (hle221.trans (hle230.trans (hle275.trans hle304)))))
        obtain ⟨l367, hl369, hk370⟩ := bindS hm
        refine c_forS (fun k368 => fun l367 => fun b360 e' hp' => ∃ (A364 : Option Addr), ∃ (c365 : Nat), ∃ (hs363 : Hp), [(1, .int .i64 (x5)), (5, .slice A222 (l218).length c223), (12, .slice A364 (l367).length c365), (66, .slice A1 (l4).length c2), (67, .int .i64 ((l4.length : Int))), (68, .int .i64 ((k368 : Int)))] = e' ∧ (hs224 ++ (hs363 ++ R)) = hp' ∧ b303.Le b360 ∧ OS 36 (OT.fr rFleetTask) b360.w (.slice A364 l367.length c365) l367 hs363) hl369 (e' := [(1, .int .i64 (x5)), (5, .slice A222 (l218).length c223), (12, .slice none 0 0), (66, .slice A1 (l4).length c2), (67, .int .i64 ((l4.length : Int))), (68, .int .i64 0)]) (hp' := (hs224 ++ ([] ++ R))) ⟨rfl, rfl, rfl, rfl, rfl, rfl, trivial⟩ (sub_app hs224 (.refl _)) ⟨none, 0, [], rfl, rfl, (Base.Le.refl _), OS.nil⟩ ?_ ?_
        ·
         rintro k368 l367 b360 _ _ oL313 hknL313 ⟨A364, c365, hs363, rfl, rfl, hle361, h366⟩ hstepL313
         unfold mFishkeep2FleetEnough_L313 at hstepL313
         have hm := hstepL313
         refine c_seq ?_
         refine c_region ?_
         refine t_st rfl (st_lss_t rfl rfl (by omega)) ?_
         refine t_nil ?_
         refine x_then_normal ?_
         refine c_seq ?_
         refine c_cond_t rfl ?_
         refine c_skip ?_
         refine x_then_normal ?_
         refine c_seq ?_
         refine c_block ?_
         refine c_seq ?_
         refine c_region ?_
         obtain ⟨x371, h372, hm⟩ := bindS hm
         obtain ⟨j373, hj374, hx375⟩ := idx_some h372
         obtain ⟨cs376, hr377, hcs378, hA379, hlt380⟩ := FZ.get (sz := 6) rfl (by decide) (h3.le (hle221.trans (hle230.trans (hle275.trans (hle304.trans hle361))))) hx375
         obtain ⟨_, _, rfl, rfl, ⟨_, _, rfl, rfl, ⟨_, _, rfl, rfl, ⟨_, _, rfl, rfl, ⟨_, _, rfl, rfl, rfl⟩⟩⟩⟩⟩ := hr377
         refine t_st rfl (st_index_old j373 rfl rfl hj374 hlt380 hA379 sl22) ?_
         refine t_st rfl (st_loadN_old (vs := [.int .i64 (x371.From), .int .i64 (x371.To), .int .i64 (x371.Dep), .int .i64 (x371.Arr), .int .i64 (x371.Km), .int .i64 (x371.Units)]) 6 rfl agg36 hA379 rfl (fun j u hu => hcs378 j u hu)) ?_
         refine t_do rfl (u_alloc [.int .i64 0, .int .i64 0, .int .i64 0, .int .i64 0, .int .i64 0, .int .i64 0] zero36 rfl) ?_
         rintro _ _ ⟨g381, rfl, rfl⟩
         refine t_do rfl (u_storeN (vs := [_, _, _, _, _, _]) 0 6 rfl rfl rfl siz36 rfl (by intro u hu; simp only [List.mem_cons, List.not_mem_nil, or_false] at hu; rcases hu with rfl | rfl | rfl | rfl | rfl | rfl <;> rfl) rfl (by simp)) ?_
         rintro _ _ rfl
         refine t_nil ?_
         refine x_then_normal ?_
         refine c_region ?_
         refine t_st rfl (st_move rfl) ?_
         refine t_st rfl (st_field rfl fld36_1) ?_
         refine t_st rfl (st_load 0 rfl one3 rfl rfl) ?_
         refine t_st rfl (st_field rfl fld36_0) ?_
         refine t_st rfl (st_load 0 rfl one3 rfl rfl) ?_
         refine t_st rfl (st_field rfl fld36_3) ?_
         refine t_st rfl (st_load 0 rfl one3 rfl rfl) ?_
         obtain ⟨_, h382, hm⟩ := bindS hm
         have h382 := (chk_some h382).2
         refine t_st rfl (st_sub rfl rfl h382) ?_
         refine t_st rfl (st_field rfl fld36_2) ?_
         refine t_st rfl (st_load 0 rfl one3 rfl rfl) ?_
         obtain ⟨_, h383, hm⟩ := bindS hm
         have h383 := (chk_some h383).2
         refine t_st rfl (st_sub rfl rfl h383) ?_
         refine t_st rfl (st_field rfl fld36_4) ?_
         refine t_st rfl (st_load 0 rfl one3 rfl rfl) ?_
         refine t_st rfl (st_field rfl fld36_5) ?_
         refine t_st rfl (st_load 0 rfl one3 rfl rfl) ?_
         refine t_st rfl (st_build (v := .agg #[.int .i64 (x371.To), .int .i64 (x371.From), .int .i64 (28800 - x371.Arr), .int .i64 (28800 - x371.Dep), .int .i64 (x371.Km), .int .i64 (x371.Units)]) [(0, .int .i64 (x371.To)), (1, .int .i64 (x371.From)), (2, .int .i64 (28800 - x371.Arr)), (3, .int .i64 (28800 - x371.Dep)), (4, .int .i64 (x371.Km)), (5, .int .i64 (x371.Units))] rfl (fun _ => by kernel_rfl)) ?_
         refine t_do rfl (u_bslice (el := 36) [(0, .agg #[.int .i64 (x371.To), .int .i64 (x371.From), .int .i64 (28800 - x371.Arr), .int .i64 (28800 - x371.Dep), .int .i64 (x371.Km), .int .i64 (x371.Units)])] [.int .i64 (x371.To), .int .i64 (x371.From), .int .i64 (28800 - x371.Arr), .int .i64 (28800 - x371.Dep), .int .i64 (x371.Km), .int .i64 (x371.Units)] rfl (fun _ => by kernel_rfl)) ?_
         rintro _ _ ⟨g384, rfl, rfl⟩
         obtain ⟨_, h385, hm⟩ := bindS hm
         have h385 := room_some h385
         refine t_front2 [_, _] hs224 hs363 R rfl ?_
         refine t_do rfl (u_appOS (r := rFleetTask) (l := l367) [_, _] (hs224 ++ R) [[.int .i64 (x371.To), .int .i64 (x371.From), .int .i64 (28800 - x371.Arr), .int .i64 (28800 - x371.Dep), .int .i64 (x371.Km), .int .i64 (x371.Units)]] [(⟨x371.To, x371.From, 28800 - x371.Arr, 28800 - x371.Dep, x371.Km, x371.Units⟩ : FleetTask)] rfl (by decide) sl22 inf36 rfl rfl rfl rfl h366 rfl (fun w ho => Rd.own (i := 0) ho rfl) ⟨⟨[.int .i64 (x371.To)], _, rfl, rfl, ⟨[.int .i64 (x371.From)], _, rfl, rfl, ⟨[.int .i64 (28800 - x371.Arr)], _, rfl, rfl, ⟨[.int .i64 (28800 - x371.Dep)], _, rfl, rfl, ⟨[.int .i64 (x371.Km)], _, rfl, rfl, rfl⟩⟩⟩⟩⟩, trivial⟩ h385) ?_
         rintro _ _ ⟨hs386, rfl, h387⟩
         obtain ⟨A388, c389, rfl, _⟩ := h387.form
         refine t_st rfl (st_assign rfl) ?_
         refine t_nil ?_
         refine x_block_normal ?_
         refine x_then_normal ?_
         refine c_region ?_
         refine t_st rfl (st_add rfl rfl (by omega)) ?_
         refine t_st rfl (st_move rfl) ?_
         refine t_nil ?_
         refine x_front2 [_, _] hs386 hs224 R rfl ?_
         obtain rfl := some1 hm
         exact x_againS (e' := [(1, .int .i64 (x5)), (5, .slice A222 (l218).length c223), (12, .slice A388 (l367 ++ [(⟨x371.To, x371.From, 28800 - x371.Arr, 28800 - x371.Dep, x371.Km, x371.Units⟩ : FleetTask)]).length c389), (66, .slice A1 (l4).length c2), (67, .int .i64 ((l4.length : Int))), (68, .int .i64 ((k368 : Int) + 1))]) (hp' := (hs224 ++ (hs386 ++ R))) ⟨rfl, rfl, rfl, rfl, rfl, rfl, trivial⟩ (.cons _ (.cons _ (sub_app hs224 (sub_app hs386 (.refl _))))) ⟨A388, c389, hs386, rfl, rfl, (hle361), h387⟩
        ·
         rintro b360 _ _ ⟨A364, c365, hs363, rfl, rfl, hle361, h366⟩
         have hm := hk370
         refine c_seq ?_
         refine c_region ?_
         refine t_st rfl (st_lss_f rfl rfl (by omega)) ?_
         refine t_nil ?_
         refine x_then_normal ?_
         refine c_seq ?_
         refine c_cond_f rfl ?_
         refine c_exit ?_
         refine x_then_exit ?_
         refine x_then_exit ?_
         refine x_block_out ?_
         refine x_then_normal ?_
         refine c_seq ?_
         refine c_region ?_
         refine t_st rfl (st_move rfl) ?_
         refine t_st rfl (st_move rfl) ?_
         refine t_front2 [] hs224 hs363 R rfl ?_
         refine t_frz [] hs363 (hs224 ++ R) rfl ?_
         intro b390 hle391 hz392
         have h393 := OS.frz (l := l367) h366 hle391.cells hz392
         obtain ⟨⟨x394, l395⟩, hcl396, hm⟩ := bindS hm
         have hm := (unc2E hm)
         refine t_callG _ rfl call13 rfl (cFleetTurns _ _ l367 x5 A364 c365 h393 x394 l395 hcl396) ?_
         rintro _ b397 _ hle398 ⟨A399, c400, hs401, rfl, rfl, h402⟩
         refine t_in1 [] [] hs401 (hs224 ++ R) rfl ?_
         refine t_st rfl (st_move rfl) ?_
         refine t_st rfl (st_extract rfl rfl) ?_
         refine t_st rfl (st_extract rfl rfl) ?_
         refine t_st rfl (st_assign rfl) ?_
         refine t_st rfl (st_assign rfl) ?_
         refine t_nil ?_
         refine x_then_normal ?_
         obtain ⟨x406, hj407, hk407⟩ := bindS hm
         refine c_join (fun b404 e' hp' => [(4, .bool (x406))] = e' ∧ R = hp' ∧ b397.Le b404) ?_ ?_
         ·
          have hm := hj407
          refine c_region ?_
          refine t_st rfl (st_move rfl) ?_
          refine t_bool rfl (st_eql rfl rfl) (fun hc408 => ?_) (fun hc408 => ?_)
          ·
           rw [if_pos hc408] at hm
           refine t_st rfl (st_move rfl) ?_
           refine t_yes 99 rfl rfl rfl ?_
           refine t_st rfl (st_move rfl) ?_
           refine t_yes 99 rfl rfl rfl ?_
           refine t_st rfl (st_len rfl sl26) ?_
           refine t_yes 99 rfl rfl rfl ?_
           refine t_st rfl (st_move rfl) ?_
           refine t_yes 99 rfl rfl rfl ?_
           refine t_st rfl (st_len rfl sl26) ?_
           refine t_yes 99 rfl rfl rfl ?_
           refine t_st rfl (st_eql rfl rfl) ?_
           refine t_st rfl (st_pick_t rfl rfl) ?_
           refine t_st rfl (st_assign rfl) ?_
           refine t_nil ?_
           obtain rfl := some1 hm
           exact x_join (e' := [(4, .bool (decide ((l395.length : Int) = (l218.length : Int))))]) (hp' := R) ⟨rfl, trivial⟩ (sub_skip hs401 (sub_skip hs224 (.refl _))) ⟨rfl, rfl, (Base.Le.refl _)⟩
          ·
           rw [if_neg hc408] at hm
           refine t_st rfl (st_move rfl) ?_
           refine t_no 99 rfl rfl rfl rfl rfl ?_
           refine t_no 99 rfl rfl rfl rfl rfl ?_
           refine t_no 99 rfl rfl rfl rfl rfl ?_
           refine t_no 99 rfl rfl rfl rfl rfl ?_
           refine t_no 99 rfl rfl rfl rfl rfl ?_
           refine t_st rfl (st_pick_f rfl rfl) ?_
           refine t_st rfl (st_assign rfl) ?_
           refine t_nil ?_
           obtain rfl := some1 hm
           exact x_join (e' := [(4, .bool (false))]) (hp' := R) ⟨rfl, trivial⟩ (sub_skip hs401 (sub_skip hs224 (.refl _))) ⟨rfl, rfl, (Base.Le.refl _)⟩
         ·
          rintro b404 _ _ ⟨rfl, rfl, hle405⟩
          have hm := hk407
          refine c_ret ?_
          obtain rfl := some1 hm
          exact retM (rs := [.tmp 4]) [.bool (x406)] (hle221.trans (hle230.trans (hle275.trans (hle304.trans (hle361.trans (hle391.trans (hle398.trans hle405))))))) (by decide) rfl ⟨rfl, trivial⟩ rfl (hp' := R) (.refl _) ⟨rfl, rfl⟩

end Go.Proofs.Ytajmocgpjkhjlaa
