/- Contracts: the code computes its model (part 6). -/
import Derived.Test.YtakehdnblmonlaaDP5
set_option linter.unusedVariables false
set_option linter.unusedSimpArgs false
namespace Go.Proofs.Ytakehdnblmonlaa
open Go.RowKit Go.Fp

set_option maxRecDepth 20000 in
theorem cMendSettles (b : Base) (R : Hp) (s1 : MendRound) (x8 : Int) (A2 : Option Addr) (c3 : Nat) (A5 : Option Addr) (c6 : Nat) (h4 : FZ (RT.int .i64) b.w A2 c3 s1.Plan) (h7 : FZ rMendLink b.w A5 c6 s1.Links) (x761 : Int) (x762 : Int) (hm : mMendSettles s1 x8 = some (x761, x762)) :
    CallsG Try.prog 26 [.agg #[.int .i64 (s1.Period), .slice A2 (s1.Plan).length c3, .slice A5 (s1.Links).length c6], .int .i64 (x8)] b (R) (fun v b' hp' => .tuple #[.int .i64 (x761), .int .i64 (x762)] = v ∧ R = hp') := by
  refine fn_enterG 61 Try.func26 rfl Try.ntmps26 rfl ?_
  unfold mMendSettles at hm
  refine c_sr ?_
  refine t_do rfl (u_box _ rfl rfl) ?_
  rintro _ _ ⟨g763, rfl, rfl⟩
  refine t_as rfl rfl ?_
  refine t_as rfl rfl ?_
  refine t_ne ?_
  refine c_seq ?_
  refine c_sr ?_
  refine t_st rfl (st_loadD (vs := [_, _, _]) 0 3 rfl agg54 rfl rfl rfl) ?_
  obtain ⟨x764, hcl765, hm⟩ := bindS hm
  refine t_do rfl (u_callW0 _ call51 rfl (fun w ho => cMendCheckRound _ [] s1 A2 c3 A5 c6 (h4.old ho) (h7.old ho) x764 hcl765) (fun _ _ _ h => h.2.symm)) ?_
  rintro _ _ ⟨⟨_, rfl, _⟩, rfl⟩
  refine t_as rfl rfl ?_
  refine t_ne ?_
  refine c_sr ?_
  refine t_mv rfl rfl ?_
  refine t_st rfl (st_neq rfl rfl) ?_
  refine t_ne ?_
  refine c_cond _ rfl (fun hc766 => ?_) (fun hc766 => ?_)
  ·
   rw [if_pos (of_decide_eq_true hc766)] at hm
   refine c_sr ?_
   refine t_mv rfl rfl ?_
   refine t_as rfl rfl ?_
   refine t_as rfl rfl ?_
   refine t_ne ?_
   refine c_ret ?_
   refine x_then_ret ?_
   obtain ⟨rfl, rfl⟩ := some2 hm
   exact retM (rs := [.tmp 4, .tmp 5]) [.int .i64 (0), .int .i64 (x764)] (Base.Le.refl _) (by decide) rfl ⟨rfl, ⟨rfl, trivial⟩⟩ rfl (.cons _ (.refl _)) ⟨rfl, rfl⟩
  ·
   rw [if_neg (of_decide_eq_false hc766)] at hm
   refine c_skip ?_
   refine x_then_normal ?_
   refine c_seq ?_
   refine c_block ?_
   refine c_sr ?_
   refine t_mv rfl rfl ?_
   obtain ⟨x767, hcl768, hm⟩ := bindS hm
   refine t_do rfl (u_callW0 _ call37 rfl (fun w ho => cMendWithin _ [] x8 0 28800 x767 hcl768) (fun _ _ _ h => h.2.symm)) ?_
   rintro _ _ ⟨⟨_, rfl, _⟩, rfl⟩
   refine t_st rfl (st_not rfl) ?_
   refine t_as rfl rfl ?_
   refine t_ne ?_
   refine c_cond _ rfl (fun hc769 => ?_) (fun hc769 => ?_)
   ·
    rw [if_neg (fun hh => Bool.noConfusion (hh.symm.trans (notT hc769)))] at hm
    refine c_sr ?_
    refine t_as rfl rfl ?_
    refine t_as rfl rfl ?_
    refine t_ne ?_
    refine c_ret ?_
    refine x_block_ret ?_
    refine x_then_ret ?_
    obtain ⟨rfl, rfl⟩ := some2 hm
    exact retM (rs := [.tmp 4, .tmp 5]) [.int .i64 (0), .int .i64 (2)] (Base.Le.refl _) (by decide) rfl ⟨rfl, ⟨rfl, trivial⟩⟩ rfl (.cons _ (.refl _)) ⟨rfl, rfl⟩
   ·
    rw [if_pos (notF hc769)] at hm
    refine c_sr ?_
    refine t_mv rfl rfl ?_
    refine t_st rfl (st_eql rfl rfl) ?_
    refine t_as rfl rfl ?_
    refine t_ne ?_
    refine c_cond _ rfl (fun hc770 => ?_) (fun hc770 => ?_)
    ·
     rw [if_pos (of_decide_eq_true hc770)] at hm
     refine c_sr ?_
     refine t_as rfl rfl ?_
     refine t_as rfl rfl ?_
     refine t_ne ?_
     refine c_ret ?_
     refine x_block_ret ?_
     refine x_then_ret ?_
     obtain ⟨rfl, rfl⟩ := some2 hm
     exact retM (rs := [.tmp 4, .tmp 5]) [.int .i64 (0), .int .i64 (0)] (Base.Le.refl _) (by decide) rfl ⟨rfl, ⟨rfl, trivial⟩⟩ rfl (.cons _ (.refl _)) ⟨rfl, rfl⟩
    ·
     rw [if_neg (of_decide_eq_false hc770)] at hm
     refine c_sr ?_
     refine t_st rfl (st_loadD (vs := [_, _, _]) 0 3 rfl agg54 rfl rfl rfl) ?_
     obtain ⟨x771, hcl772, hm⟩ := bindS hm
     refine t_do rfl (u_callW0 _ call52 rfl (fun w ho => cMendRoundStable _ [] s1 A2 c3 A5 c6 (h4.old ho) (h7.old ho) x771 hcl772) (fun _ _ _ h => h.2.symm)) ?_
     rintro _ _ ⟨⟨_, rfl, _⟩, rfl⟩
     refine t_st rfl (st_not rfl) ?_
     refine t_as rfl rfl ?_
     refine t_ne ?_
     refine c_cond _ rfl (fun hc773 => ?_) (fun hc773 => ?_)
     ·
      rw [if_neg (fun hh => Bool.noConfusion (hh.symm.trans (notT hc773)))] at hm
      refine c_sr ?_
      refine t_as rfl rfl ?_
      refine t_as rfl rfl ?_
      refine t_ne ?_
      refine c_ret ?_
      refine x_block_ret ?_
      refine x_then_ret ?_
      obtain ⟨rfl, rfl⟩ := some2 hm
      exact retM (rs := [.tmp 4, .tmp 5]) [.int .i64 (0), .int .i64 (9)] (Base.Le.refl _) (by decide) rfl ⟨rfl, ⟨rfl, trivial⟩⟩ rfl (.cons _ (.refl _)) ⟨rfl, rfl⟩
     ·
      rw [if_pos (notF hc773)] at hm
      refine c_skip ?_
      refine x_block_normal ?_
      refine x_then_normal ?_
      refine c_sr ?_
      refine t_mv rfl rfl ?_
      refine t_do rfl (u_bslice (el := 3) [(0, .int .i64 (x8))] [.int .i64 (x8)] rfl (fun _ => by kernel_rfl)) ?_
      rintro _ _ ⟨g774, rfl, rfl⟩
      refine t_st rfl (st_field rfl fld54_1) ?_
      refine t_st rfl (st_load 1 rfl one22 rfl rfl) ?_
      refine t_st rfl (st_len rfl sl22) ?_
      refine t_seg 0 [_] R rfl rfl ?_
      have h776 : OS 3 (OT.fr (RT.int .i64)) b.w (.slice (some ⟨g774, 0, none⟩) 1 1) [x8] [(g774, Cl 3 [.int .i64 (x8)])] := OS.lit [[.int .i64 (x8)]] rfl ⟨rfl, trivial⟩ rfl (by decide)
      obtain ⟨l777, hcl778, hm⟩ := bindS hm
      refine t_do rfl (u_callWF [_] ([(g774, Cl 3 [.int .i64 (x8)])] ++ R) _ rfl call47 rfl (fun w ho => cSlicesRepeat _ [] [x8] (s1.Plan.length : Int) (some ⟨g774, 0, none⟩) 1 (OS.now (o := (OT.fr (RT.int .i64))) (l := [x8]) (hs := [(g774, Cl 3 [.int .i64 (x8)])]) h776 ho (.cons _ (List.sublist_append_left _ _))) l777 hcl778)) ?_
      rintro _ _ ⟨_, _, rfl, A779, c780, hs781, rfl, hq784, h782⟩
      obtain rfl := List.append_cancel_right hq784
      have h783 := flat_fz (w' := b.w) (fun _ _ _ _ h => h) h782
      refine t_do rfl (u_bslice (el := 22) [(0, .slice A779 (l777).length c780)] [.slice A779 (l777).length c780] rfl (fun _ => by kernel_rfl)) ?_
      rintro _ _ ⟨g785, rfl, rfl⟩
      refine t_as rfl rfl ?_
      refine t_ne ?_
      refine c_sr ?_
      refine t_as rfl rfl ?_
      refine t_ne ?_
      obtain ⟨x1150, hj1151, hk1151⟩ := bindS hm
      refine c_join (fun b1148 e' hp' => [(8, .int .i64 (x1150))] = e' ∧ R = hp' ∧ b.Le b1148) ?_ ?_
      ·
       have hm := hj1151
       refine c_sr ?_
       refine t_as rfl rfl ?_
       refine t_ne ?_
       refine c_block ?_
       refine c_frz [_, _] hs781 ([(g774, Cl 3 [.int .i64 (x8)])] ++ R) rfl ?_
       intro b1153 hle1154 hz1155
       have h1156 := OS.frz (l := l777) h783 hle1154.cells hz1155
       refine c_seg 0 [_] ([(g774, Cl 3 [.int .i64 (x8)])] ++ R) rfl rfl ?_
       have h1158 : OS 22 (OT.fr (RT.list (RT.int .i64))) b1153.w (.slice (some ⟨g785, 0, none⟩) 1 1) [l777] [(g785, Cl 22 [.slice A779 (l777).length c780])] := OS.lit [[.slice A779 (l777).length c780]] rfl ⟨(RT.list_mk h1156), trivial⟩ rfl (by decide)
       refine c_loopM (unc3 fun x1399 x1400 l1401 => fun b1392 e' hp' => ∃ (A1396 : Option Addr), ∃ (c1397 : Nat), ∃ (hs1395 : Hp), [(2, .pointer (some ⟨g763, 0, none⟩)), (7, .slice A1396 (l1401).length c1397), (8, .int .i64 (x1399)), (9, .int .i64 (x1400))] = e' ∧ (g763, Cl 54 [.int .i64 (s1.Period), .slice A2 (s1.Plan).length c3, .slice A5 (s1.Links).length c6]) :: (hs1395 ++ R) = hp' ∧ b1153.Le b1392 ∧ OS 22 (OT.fr (RT.list (RT.int .i64))) b1392.w (.slice A1396 l1401.length c1397) l1401 hs1395) hm (e' := [(2, .pointer (some ⟨g763, 0, none⟩)), (7, .slice (some ⟨g785, 0, none⟩) ([l777]).length 1), (8, .int .i64 (0)), (9, .int .i64 (1))]) ⟨rfl, rfl, rfl, rfl, trivial⟩ (.cons_cons _ (sub_app [(g785, Cl 22 [.slice A779 (l777).length c780])] (sub_skip [(g774, Cl 3 [.int .i64 (x8)])] (.refl _)))) ⟨(some ⟨g785, 0, none⟩), 1, [(g785, Cl 22 [.slice A779 (l777).length c780])], rfl, rfl, (Base.Le.refl _), h1158⟩ ?_
       rintro ⟨x1399, x1400, l1401⟩ b1392 _ _ oL1152 ⟨A1396, c1397, hs1395, rfl, rfl, hle1393, h1398⟩ hstepL1152 houtL1152
       unfold mMendSettles_L1152 at hstepL1152
       have hm := (unc3E hstepL1152)
       refine c_seq ?_
       refine c_sr ?_
       refine t_mv rfl rfl ?_
       refine t_mv rfl rfl ?_
       obtain ⟨_, h1402, hm⟩ := bindS hm
       have h1402 := (chk_some h1402).2
       refine t_st rfl (st_add rfl rfl h1402) ?_
       refine t_st rfl (st_leq rfl rfl) ?_
       refine t_ne ?_
       refine c_cond _ rfl (fun hc1403 => ?_) (fun hc1403 => ?_)
       ·
        rw [if_pos (of_decide_eq_true hc1403)] at hm
        refine c_skip ?_
        refine x_then_normal ?_
        refine c_seq ?_
        refine c_block ?_
        obtain ⟨l1439, hj1440, hk1440⟩ := bindS hm
        refine c_join (fun b1432 e' hp' => ∃ (A1436 : Option Addr), ∃ (c1437 : Nat), ∃ (hs1435 : Hp), [(2, .pointer (some ⟨g763, 0, none⟩)), (7, .slice A1396 (l1401).length c1397), (8, .int .i64 (x1399)), (9, .int .i64 (x1400)), (10, .slice A1436 (l1439).length c1437)] = e' ∧ (g763, Cl 54 [.int .i64 (s1.Period), .slice A2 (s1.Plan).length c3, .slice A5 (s1.Links).length c6]) :: (hs1395 ++ (hs1435 ++ R)) = hp' ∧ b1392.Le b1432 ∧ OS 3 (OT.fr (RT.int .i64)) b1432.w (.slice A1436 l1439.length c1437) l1439 hs1435) ?_ ?_
        ·
         have hm := hj1440
         obtain ⟨m1455, h1456, hm⟩ := bindS hm
         obtain ⟨l1461, hcl1462, hm⟩ := bindS hm
         refine D_drawI mixed (.refl _) ?_
         refine E_st 0 rfl (st_loadD (vs := [_, _, _]) 0 3 rfl agg54 rfl rfl rfl) ?_
         refine E_st 1 rfl (st_field rfl fld54_1) ?_
         refine E_st 2 rfl (st_load 0 rfl one22 rfl rfl) ?_
         refine E_st 3 rfl (st_len rfl sl22) ?_
         refine E_st 5 rfl (st_move rfl) ?_
         refine E_out ?_
         have h1456 := mkLen_some h1456
         refine D_all [4] (by kernel_rfl) rfl ?_
         refine R_do (Base.Le.refl _) rfl rfl (u_mkOS (r := (RT.int .i64)) [_] (hs1395 ++ R) [.int .i64 (0)] 0 m1455 rfl h1456.1 rfl rfl sl22 inf3 rfl rfl rfl (by decide) rfl h1456.2.1 h1456.2.2) ?_ ?_
         ·
          rintro _ _ ⟨hs1457, rfl, h1458⟩
          obtain ⟨A1459, c1460, rfl, _⟩ := h1458.form
          refine ⟨.inr (.cons_cons _ (sub_skip hs1457 (.refl _))), ?_⟩
          refine D_all [6] (by kernel_rfl) rfl ?_
          refine R_do (Base.Le.refl _) rfl rfl (u_callWF [_] (hs1457 ++ (hs1395 ++ R)) _ rfl call53 rfl (fun w ho => cMendRoundFollow _ [] s1 (List.replicate m1455 (0 : Int)) l1401 A2 c3 A5 c6 A1459 c1460 A1396 c1397 ((h4.le (hle1154.trans hle1393)).old ho) ((h7.le (hle1154.trans hle1393)).old ho) (OS.now (o := (OT.fr (RT.int .i64))) (l := List.replicate m1455 (0 : Int)) (hs := hs1457) h1458 ho (.cons _ (List.sublist_append_left _ _))) (OS.now (o := (OT.fr (RT.list (RT.int .i64)))) (l := l1401) (hs := hs1395) h1398 ho (.cons _ (sub_skip hs1457 (List.sublist_append_left _ _)))) l1461 hcl1462)) ?_ ?_
          ·
           rintro _ _ ⟨_, _, rfl, A1463, c1464, hs1465, rfl, hq1468, h1466⟩
           obtain rfl := List.append_cancel_right hq1468
           have h1467 := flat_fz (w' := b1392.w) (fun _ _ _ _ h => h) h1466
           refine ⟨.inr (.cons_cons _ (sub_skip hs1465 (sub_skip hs1457 (.refl _)))), ?_⟩
           refine E_in (.cons_cons _ (sub_skip hs1465 (sub_skip hs1457 (.refl _)))) ?_
           refine E_st 7 rfl (st_assign rfl) ?_
           refine E_out ?_
           refine D_done (by kernel_rfl) ?_
           obtain rfl := some1 hm
           refine x_front3 [_] hs1465 hs1457 hs1395 R rfl ?_
           exact x_join (e' := [(2, .pointer (some ⟨g763, 0, none⟩)), (7, .slice A1396 (l1401).length c1397), (8, .int .i64 (x1399)), (9, .int .i64 (x1400)), (10, .slice A1463 (l1461).length c1464)]) ⟨rfl, rfl, rfl, rfl, rfl, trivial⟩ (.cons_cons _ (sub_app hs1395 (sub_app hs1465 (sub_skip hs1457 (.refl _))))) ⟨A1463, c1464, hs1465, rfl, rfl, (Base.Le.refl _), h1467⟩
          exact R_nil
         exact R_nil
        ·
         rintro b1432 _ _ ⟨A1436, c1437, hs1435, rfl, rfl, hle1433, h1438⟩
         have hm := hk1440
         obtain ⟨x1474, hj1475, hk1475⟩ := bindS hm
         refine c_join (fun b1472 e' hp' => [(2, .pointer (some ⟨g763, 0, none⟩)), (7, .slice A1396 (l1401).length c1397), (8, .int .i64 (x1474)), (9, .int .i64 (x1400)), (10, .slice A1436 (l1439).length c1437)] = e' ∧ (g763, Cl 54 [.int .i64 (s1.Period), .slice A2 (s1.Plan).length c3, .slice A5 (s1.Links).length c6]) :: (hs1395 ++ (hs1435 ++ R)) = hp' ∧ b1432.Le b1472) ?_ ?_
         ·
          have hm := hj1475
          refine c_sr ?_
          refine t_mv rfl rfl ?_
          obtain ⟨x1476, hcl1477, hm⟩ := bindS hm
          refine t_do rfl (u_callW0 _ call54 rfl (fun w ho => cMendGreatest _ [] 0 l1439 A1436 c1437 (OS.now (o := (OT.fr (RT.int .i64))) (l := l1439) (hs := hs1435) h1438 ho (.cons _ (sub_skip hs1395 (List.sublist_append_left _ _)))) x1476 hcl1477) (fun _ _ _ h => h.2.symm)) ?_
          rintro _ _ ⟨⟨_, rfl, _⟩, rfl⟩
          refine t_st rfl (st_gtr rfl rfl) ?_
          refine t_ne ?_
          refine c_cond _ rfl (fun hc1478 => ?_) (fun hc1478 => ?_)
          ·
           rw [if_pos (of_decide_eq_true hc1478)] at hm
           refine c_region ?_
           refine t_mv rfl rfl ?_
           refine t_as rfl rfl ?_
           refine t_nil ?_
           obtain rfl := some1 hm
           refine x_front2 [_] hs1395 hs1435 R rfl ?_
           refine x_front2 [_] hs1435 hs1395 R rfl ?_
           exact x_join (e' := [(2, .pointer (some ⟨g763, 0, none⟩)), (7, .slice A1396 (l1401).length c1397), (8, .int .i64 (x1400)), (9, .int .i64 (x1400)), (10, .slice A1436 (l1439).length c1437)]) ⟨rfl, rfl, rfl, rfl, rfl, trivial⟩ (.refl _) ⟨rfl, rfl, (Base.Le.refl _)⟩
          ·
           rw [if_neg (of_decide_eq_false hc1478)] at hm
           refine c_skip ?_
           obtain rfl := some1 hm
           refine x_front2 [_] hs1395 hs1435 R rfl ?_
           refine x_front2 [_] hs1435 hs1395 R rfl ?_
           exact x_join (e' := [(2, .pointer (some ⟨g763, 0, none⟩)), (7, .slice A1396 (l1401).length c1397), (8, .int .i64 (x1399)), (9, .int .i64 (x1400)), (10, .slice A1436 (l1439).length c1437)]) ⟨rfl, rfl, rfl, rfl, rfl, trivial⟩ (.refl _) ⟨rfl, rfl, (Base.Le.refl _)⟩
         ·
          rintro b1472 _ _ ⟨rfl, rfl, hle1473⟩
          have hm := hk1475
          refine c_region ?_
          refine t_mv rfl rfl ?_
          refine t_do rfl (u_bslice (el := 22) [(0, .slice A1436 (l1439).length c1437)] [.slice A1436 (l1439).length c1437] rfl (fun _ => by kernel_rfl)) ?_
          rintro _ _ ⟨g1479, rfl, rfl⟩
          refine t_mv rfl rfl ?_
          refine t_mv rfl rfl ?_
          refine t_st rfl (st_len rfl sl45) ?_
          refine t_st rfl (st_min rfl rfl) ?_
          refine t_frz [_, _] hs1395 (hs1435 ++ R) rfl ?_
          intro b1480 hle1481 hz1482
          have h1483 := OS.frz (l := l1401) (h1398.le (hle1433.trans hle1473)) hle1481.cells hz1482
          obtain ⟨l1484, h1485, hm⟩ := bindS hm
          obtain ⟨j1486, j1487, hj1488, hj1489, hj1490, hj1491, hx1492⟩ := cutS_some h1485
          have h1493 := FZ.sub (sz := 1) rfl h1483 hj1490 hj1491
          have h1494 := h1483.1.1
          rw [← hx1492] at h1493
          refine t_st rfl (hx1492 ▸ st_part (l := l1401) j1486 j1487 rfl (.inl ⟨rfl, by omega⟩) (.inr ⟨_, _, _, rfl, rfl, hj1489⟩) hj1490 hj1491 h1494 sl45) ?_
          refine t_frz [_, _] hs1435 R rfl ?_
          intro b1499 hle1500 hz1501
          have h1502 := OS.frz (l := l1439) (h1438.le (hle1473.trans hle1481)) hle1500.cells hz1501
          refine t_seg 0 [_] R rfl rfl ?_
          have h1504 : OS 22 (OT.fr (RT.list (RT.int .i64))) b1499.w (.slice (some ⟨g1479, 0, none⟩) 1 1) [l1439] [(g1479, Cl 22 [.slice A1436 (l1439).length c1437])] := OS.lit [[.slice A1436 (l1439).length c1437]] rfl ⟨(RT.list_mk h1502), trivial⟩ rfl (by decide)
          obtain ⟨css1505, h1506, h1507⟩ := rd_src (h1493.le hle1500)
          obtain ⟨_, h1508, hm⟩ := bindS hm
          have h1508 := room_some h1508
          refine t_do rfl (u_appOS (r := (RT.list (RT.int .i64))) (l := [l1439]) [_] R css1505 l1484 rfl (by decide) sl45 inf22 rfl rfl rfl rfl h1504 rfl (fun w ho => h1506.old ho) h1507 h1508) ?_
          rintro _ _ ⟨hs1509, rfl, h1510⟩
          obtain ⟨A1511, c1512, rfl, _⟩ := h1510.form
          refine t_as rfl rfl ?_
          refine t_nil ?_
          refine x_block_normal ?_
          refine x_then_normal ?_
          refine c_region ?_
          refine t_mv rfl rfl ?_
          obtain ⟨_, h1513, hm⟩ := bindS hm
          have h1513 := (chk_some h1513).2
          refine t_st rfl (st_add rfl rfl h1513) ?_
          refine t_as rfl rfl ?_
          refine t_nil ?_
          exact x_againM (x1474, x1400 + 1, [l1439] ++ l1484) (Option.some.inj hm).symm (e' := [(2, .pointer (some ⟨g763, 0, none⟩)), (7, .slice A1511 ([l1439] ++ l1484).length c1512), (8, .int .i64 (x1474)), (9, .int .i64 (x1400 + 1))]) ⟨rfl, rfl, rfl, rfl, trivial⟩ (.refl _) ⟨A1511, c1512, hs1509, rfl, rfl, ((hle1393.trans (hle1433.trans (hle1473.trans (hle1481.trans hle1500))))), h1510⟩
       ·
        rw [if_neg (of_decide_eq_false hc1403)] at hm
        refine c_exit ?_
        refine x_then_exit ?_
        refine x_then_exit ?_
        refine x_block_out ?_
        have hm := congrArg some (houtL1152 _ (Option.some.inj hm).symm)
        obtain rfl := some1 hm
        exact x_join (e' := [(8, .int .i64 (x1399))]) ⟨rfl, trivial⟩ (.cons _ (sub_skip hs1395 (.refl _))) ⟨rfl, rfl, (hle1154.trans hle1393)⟩
      ·
       rintro b1148 _ _ ⟨rfl, rfl, hle1149⟩
       have hm := hk1151
       refine c_sr ?_
       refine t_mv rfl rfl ?_
       obtain ⟨_, h1514, hm⟩ := bindS hm
       have h1514 := (chk_some h1514).2
       refine t_st rfl (st_add rfl rfl h1514) ?_
       refine t_as rfl rfl ?_
       refine t_as rfl rfl ?_
       refine t_ne ?_
       refine c_ret ?_
       obtain ⟨rfl, rfl⟩ := some2 hm
       exact retM (rs := [.tmp 4, .tmp 5]) [.int .i64 (x1150 + 1), .int .i64 (0)] hle1149 (by decide) rfl ⟨rfl, ⟨rfl, trivial⟩⟩ rfl (.refl _) ⟨rfl, rfl⟩

set_option maxRecDepth 20000 in
theorem cMendSpread (b : Base) (R : Hp) (s1 : MendRound) (l11 : (List MendFirst)) (x12 : Int) (A2 : Option Addr) (c3 : Nat) (A5 : Option Addr) (c6 : Nat) (A8 : Option Addr) (c9 : Nat) (h4 : FZ (RT.int .i64) b.w A2 c3 s1.Plan) (h7 : FZ rMendLink b.w A5 c6 s1.Links) (h10 : FZ rMendFirst b.w A8 c9 l11) (x1058 : Int) (l1059 : (List (List Int))) (hm : mMendSpread s1 l11 x12 = some (x1058, l1059)) :
    CallsG Try.prog 27 [.agg #[.int .i64 (s1.Period), .slice A2 (s1.Plan).length c3, .slice A5 (s1.Links).length c6], .slice A8 (l11).length c9, .int .i64 (x12)] b (R) (fun v b' hp' => ∃ (A1055 : Option Addr), ∃ (c1056 : Nat), ∃ (hs1054 : Hp), .tuple #[.slice A1055 (l1059).length c1056, .int .i64 (x1058)] = v ∧ (hs1054 ++ R) = hp' ∧ OS 22 (OT.fr (RT.list (RT.int .i64))) b'.w (.slice A1055 l1059.length c1056) l1059 hs1054) := by
  refine fn_enterG 106 Try.func27 rfl Try.ntmps27 rfl ?_
  unfold mMendSpread at hm
  refine c_sr ?_
  refine t_do rfl (u_box _ rfl rfl) ?_
  rintro _ _ ⟨g1060, rfl, rfl⟩
  refine t_as rfl rfl ?_
  refine t_as rfl rfl ?_
  refine t_ne ?_
  refine c_seq ?_
  refine c_sr ?_
  refine t_st rfl (st_loadD (vs := [_, _, _]) 0 3 rfl agg54 rfl rfl rfl) ?_
  obtain ⟨x1061, hcl1062, hm⟩ := bindS hm
  refine t_do rfl (u_callW0 _ call51 rfl (fun w ho => cMendCheckRound _ [] s1 A2 c3 A5 c6 (h4.old ho) (h7.old ho) x1061 hcl1062) (fun _ _ _ h => h.2.symm)) ?_
  rintro _ _ ⟨⟨_, rfl, _⟩, rfl⟩
  refine t_as rfl rfl ?_
  refine t_ne ?_
  refine c_sr ?_
  refine t_mv rfl rfl ?_
  refine t_st rfl (st_neq rfl rfl) ?_
  refine t_ne ?_
  refine c_cond _ rfl (fun hc1063 => ?_) (fun hc1063 => ?_)
  ·
   rw [if_pos (of_decide_eq_true hc1063)] at hm
   refine c_sr ?_
   refine t_mv rfl rfl ?_
   refine t_as rfl rfl ?_
   refine t_as rfl rfl ?_
   refine t_ne ?_
   refine c_ret ?_
   refine x_then_ret ?_
   obtain ⟨rfl, rfl⟩ := some2 hm
   exact retM (rs := [.tmp 6, .tmp 7]) [.slice none 0 0, .int .i64 (x1061)] (Base.Le.refl _) (by decide) rfl ⟨rfl, ⟨rfl, trivial⟩⟩ rfl (.cons _ (.refl _)) ⟨none, 0, [], rfl, rfl, OS.nil⟩
  ·
   rw [if_neg (of_decide_eq_false hc1063)] at hm
   refine c_skip ?_
   refine x_then_normal ?_
   refine c_seq ?_
   refine c_block ?_
   refine c_sr ?_
   refine t_mv rfl rfl ?_
   obtain ⟨x1064, hcl1065, hm⟩ := bindS hm
   refine t_do rfl (u_callW0 _ call37 rfl (fun w ho => cMendWithin _ [] x12 0 60 x1064 hcl1065) (fun _ _ _ h => h.2.symm)) ?_
   rintro _ _ ⟨⟨_, rfl, _⟩, rfl⟩
   refine t_st rfl (st_not rfl) ?_
   refine t_as rfl rfl ?_
   refine t_ne ?_
   refine c_cond _ rfl (fun hc1066 => ?_) (fun hc1066 => ?_)
   ·
    rw [if_neg (fun hh => Bool.noConfusion (hh.symm.trans (notT hc1066)))] at hm
    refine c_sr ?_
    refine t_as rfl rfl ?_
    refine t_as rfl rfl ?_
    refine t_ne ?_
    refine c_ret ?_
    refine x_block_ret ?_
    refine x_then_ret ?_
    obtain ⟨rfl, rfl⟩ := some2 hm
    exact retM (rs := [.tmp 6, .tmp 7]) [.slice none 0 0, .int .i64 (2)] (Base.Le.refl _) (by decide) rfl ⟨rfl, ⟨rfl, trivial⟩⟩ rfl (.cons _ (.refl _)) ⟨none, 0, [], rfl, rfl, OS.nil⟩
   ·
    rw [if_pos (notF hc1066)] at hm
    refine c_sr ?_
    refine t_mv rfl rfl ?_
    refine t_st rfl (st_len rfl sl55) ?_
    refine t_st rfl (st_gtr rfl rfl) ?_
    refine t_as rfl rfl ?_
    refine t_ne ?_
    refine c_cond _ rfl (fun hc1067 => ?_) (fun hc1067 => ?_)
    ·
     rw [if_pos (of_decide_eq_true hc1067)] at hm
     refine c_sr ?_
     refine t_as rfl rfl ?_
     refine t_as rfl rfl ?_
     refine t_ne ?_
     refine c_ret ?_
     refine x_block_ret ?_
     refine x_then_ret ?_
     obtain ⟨rfl, rfl⟩ := some2 hm
     exact retM (rs := [.tmp 6, .tmp 7]) [.slice none 0 0, .int .i64 (4)] (Base.Le.refl _) (by decide) rfl ⟨rfl, ⟨rfl, trivial⟩⟩ rfl (.cons _ (.refl _)) ⟨none, 0, [], rfl, rfl, OS.nil⟩
    ·
     rw [if_neg (of_decide_eq_false hc1067)] at hm
     refine c_skip ?_
     refine x_block_normal ?_
     refine x_then_normal ?_
     refine c_seq ?_
     refine c_sr ?_
     refine t_mv rfl rfl ?_
     refine t_st rfl (st_len rfl sl55) ?_
     refine t_mv rfl rfl ?_
     refine t_ne ?_
     refine c_block ?_
     have hb1069 : l11.length ≤ 9223372036854775807 := (FZ.bd h10)
     obtain ⟨t1103, hl1104, hk1105⟩ := bindS hm
     refine c_forM (fun k1102 => fun _ => fun b1100 e' hp' => [(1, .slice A8 (l11).length c9), (2, .int .i64 (x12)), (3, .pointer (some ⟨g1060, 0, none⟩)), (30, .slice A8 (l11).length c9), (31, .int .i64 ((l11.length : Int))), (32, .int .i64 ((k1102 : Int)))] = e' ∧ (g1060, Cl 54 [.int .i64 (s1.Period), .slice A2 (s1.Plan).length c3, .slice A5 (s1.Links).length c6]) :: R = hp' ∧ b.Le b1100) hl1104 (e' := [(1, .slice A8 (l11).length c9), (2, .int .i64 (x12)), (3, .pointer (some ⟨g1060, 0, none⟩)), (30, .slice A8 (l11).length c9), (31, .int .i64 ((l11.length : Int))), (32, .int .i64 0)]) ⟨rfl, rfl, rfl, rfl, rfl, rfl, trivial⟩ (.refl _) ⟨rfl, rfl, (Base.Le.refl _)⟩ ?_ ?_
     ·
      rintro k1102 _ b1100 _ _ oL1068 hknL1068 ⟨rfl, rfl, hle1101⟩ hstepL1068 houtL1068
      unfold mMendSpread_L1068 at hstepL1068
      have hm := hstepL1068
      refine c_sr ?_
      refine t_st rfl (st_lss_t rfl rfl (by omega)) ?_
      refine t_ne ?_
      refine c_seq ?_
      refine c_cond_t rfl ?_
      refine c_skip ?_
      refine x_then_normal ?_
      refine c_seq ?_
      refine c_block ?_
      refine c_sr ?_
      obtain ⟨x1106, h1107, hm⟩ := bindS hm
      obtain ⟨j1108, hj1109, hx1110⟩ := idx_some h1107
      obtain ⟨cs1111, hr1112, hcs1113, hA1114, hlt1115⟩ := FZ.get (sz := 3) rfl (by decide) (h10.le hle1101) hx1110
      obtain ⟨_, _, rfl, rfl, ⟨_, _, rfl, rfl, rfl⟩⟩ := hr1112
      refine t_st rfl (st_index_old j1108 rfl rfl hj1109 hlt1115 hA1114 sl55) ?_
      refine t_st rfl (st_loadN_old (vs := [.int .i64 (x1106.Event), .int .i64 (x1106.Period), .int .i64 (x1106.Secs)]) 3 rfl agg58 hA1114 rfl (fun j u hu => hcs1113 j u hu)) ?_
      refine t_do rfl (u_alloc [.int .i64 0, .int .i64 0, .int .i64 0] zero58 rfl) ?_
      rintro _ _ ⟨g1116, rfl, rfl⟩
      refine t_do rfl (u_storeN (vs := [_, _, _]) 0 3 rfl rfl rfl siz58 rfl (mem_c rfl (mem_c rfl (mem_c rfl mem_n))) rfl (by simp)) ?_
      rintro _ _ rfl
      refine t_ne ?_
      refine c_block ?_
      refine c_sr ?_
      refine t_st rfl (st_field rfl fld58_0) ?_
      refine t_st rfl (st_load 0 rfl one3 rfl rfl) ?_
      refine t_st rfl (st_field rfl fld54_1) ?_
      refine t_st rfl (st_load 1 rfl one22 rfl rfl) ?_
      refine t_st rfl (st_len rfl sl22) ?_
      obtain ⟨_, h1117, hm⟩ := bindS hm
      have h1117 := (chk_some h1117).2
      refine t_st rfl (st_sub rfl rfl h1117) ?_
      obtain ⟨x1118, hcl1119, hm⟩ := bindS hm
      refine t_do rfl (u_callW0 _ call37 rfl (fun w ho => cMendWithin _ [] x1106.Event 0 ((s1.Plan.length : Int) - 1) x1118 hcl1119) (fun _ _ _ h => h.2.symm)) ?_
      rintro _ _ ⟨⟨_, rfl, _⟩, rfl⟩
      refine t_st rfl (st_not rfl) ?_
      refine t_as rfl rfl ?_
      refine t_ne ?_
      refine c_cond _ rfl (fun hc1120 => ?_) (fun hc1120 => ?_)
      ·
       rw [if_neg (fun hh => Bool.noConfusion (hh.symm.trans (notT hc1120)))] at hm
       refine c_sr ?_
       refine t_as rfl rfl ?_
       refine t_as rfl rfl ?_
       refine t_ne ?_
       refine c_ret ?_
       refine x_block_ret ?_
       refine x_block_ret ?_
       refine x_then_ret ?_
       refine x_then_ret ?_
       refine x_block_ret ?_
       refine x_then_ret ?_
       have hq1121 := houtL1068 _ (Option.some.inj hm).symm
       rw [hq1121] at hk1105
       have hm := elimR hk1105
       obtain ⟨rfl, rfl⟩ := some2 hm
       exact retM (rs := [.tmp 6, .tmp 7]) [.slice none 0 0, .int .i64 (3)] hle1101 (by decide) rfl ⟨rfl, ⟨rfl, trivial⟩⟩ rfl (.cons _ (.cons _ (.refl _))) ⟨none, 0, [], rfl, rfl, OS.nil⟩
      ·
       rw [if_pos (notF hc1120)] at hm
       obtain ⟨x1129, hj1130, hk1130⟩ := bindS hm
       refine c_join (fun b1127 e' hp' => [(1, .slice A8 (l11).length c9), (2, .int .i64 (x12)), (3, .pointer (some ⟨g1060, 0, none⟩)), (30, .slice A8 (l11).length c9), (31, .int .i64 ((l11.length : Int))), (32, .int .i64 ((k1102 : Int))), (45, .bool (x1129))] = e' ∧ (g1060, Cl 54 [.int .i64 (s1.Period), .slice A2 (s1.Plan).length c3, .slice A5 (s1.Links).length c6]) :: R = hp' ∧ b1100.Le b1127) ?_ ?_
       ·
        have hm := hj1130
        refine c_region ?_
        refine t_st rfl (st_field rfl fld58_1) ?_
        refine t_st rfl (st_load 0 rfl one3 rfl rfl) ?_
        obtain ⟨x1131, hcl1132, hm⟩ := bindS hm
        refine t_do rfl (u_callW0 _ call37 rfl (fun w ho => cMendWithin _ [] x1106.Period 0 59 x1131 hcl1132) (fun _ _ _ h => h.2.symm)) ?_
        rintro _ _ ⟨⟨_, rfl, _⟩, rfl⟩
        rcases Bool.eq_false_or_eq_true x1131 with hc1133 | hc1133
        ·
         rw [if_pos hc1133] at hm
         refine t_resp 48 rfl (v' := .bool true) (by rw [hc1133] <;> rfl) ?_
         refine t_st rfl (st_not_t rfl) ?_
         refine t_mv rfl rfl ?_
         refine t_yes 50 rfl rfl rfl ?_
         refine t_st rfl (st_field rfl fld58_2) ?_
         refine t_yes 50 rfl rfl rfl ?_
         refine t_st rfl (st_load 0 rfl one3 rfl rfl) ?_
         refine t_yes 50 rfl rfl rfl ?_
         obtain ⟨x1134, hcl1135, hm⟩ := bindS hm
         refine t_do rfl (u_callW0 _ call37 rfl (fun w ho => cMendWithin _ [] x1106.Secs 0 28800 x1134 hcl1135) (fun _ _ _ h => h.2.symm)) ?_
         rintro _ _ ⟨⟨_, rfl, _⟩, rfl⟩
         refine t_yes 50 rfl rfl rfl ?_
         refine t_st rfl (st_not rfl) ?_
         refine t_st rfl (st_pick_f rfl rfl) ?_
         refine t_as rfl rfl ?_
         refine t_nil ?_
         obtain rfl := some1 hm
         refine x_pullb 1 rfl ?_
         exact x_join (e' := [(1, .slice A8 (l11).length c9), (2, .int .i64 (x12)), (3, .pointer (some ⟨g1060, 0, none⟩)), (30, .slice A8 (l11).length c9), (31, .int .i64 ((l11.length : Int))), (32, .int .i64 ((k1102 : Int))), (45, .bool (!x1134))]) ⟨rfl, rfl, rfl, rfl, rfl, rfl, rfl, trivial⟩ (.cons_cons _ (.cons _ (.refl _))) ⟨rfl, rfl, (Base.Le.refl _)⟩
        ·
         rw [if_neg (fun hh => Bool.noConfusion (hh.symm.trans hc1133))] at hm
         refine t_resp 48 rfl (v' := .bool false) (by rw [hc1133] <;> rfl) ?_
         refine t_st rfl (st_not_f rfl) ?_
         refine t_mv rfl rfl ?_
         refine t_no 50 rfl rfl rfl rfl rfl ?_
         refine t_no 50 rfl rfl rfl rfl rfl ?_
         refine t_no 50 rfl rfl rfl rfl rfl ?_
         refine t_no 50 rfl rfl rfl rfl rfl ?_
         refine t_st rfl (st_pick_t rfl rfl) ?_
         refine t_as rfl rfl ?_
         refine t_nil ?_
         obtain rfl := some1 hm
         refine x_pullb 1 rfl ?_
         exact x_join (e' := [(1, .slice A8 (l11).length c9), (2, .int .i64 (x12)), (3, .pointer (some ⟨g1060, 0, none⟩)), (30, .slice A8 (l11).length c9), (31, .int .i64 ((l11.length : Int))), (32, .int .i64 ((k1102 : Int))), (45, .bool (true))]) ⟨rfl, rfl, rfl, rfl, rfl, rfl, rfl, trivial⟩ (.cons_cons _ (.cons _ (.refl _))) ⟨rfl, rfl, (Base.Le.refl _)⟩
       ·
        rintro b1127 _ _ ⟨rfl, rfl, hle1128⟩
        have hm := hk1130
        refine c_cond _ rfl (fun hc1136 => ?_) (fun hc1136 => ?_)
        ·
         rw [if_pos hc1136] at hm
         refine c_sr ?_
         refine t_as rfl rfl ?_
         refine t_as rfl rfl ?_
         refine t_ne ?_
         refine c_ret ?_
         refine x_block_ret ?_
         refine x_block_ret ?_
         refine x_then_ret ?_
         refine x_then_ret ?_
         refine x_block_ret ?_
         refine x_then_ret ?_
         have hq1137 := houtL1068 _ (Option.some.inj hm).symm
         rw [hq1137] at hk1105
         have hm := elimR hk1105
         obtain ⟨rfl, rfl⟩ := some2 hm
         exact retM (rs := [.tmp 6, .tmp 7]) [.slice none 0 0, .int .i64 (2)] (hle1101.trans hle1128) (by decide) rfl ⟨rfl, ⟨rfl, trivial⟩⟩ rfl (.cons _ (.refl _)) ⟨none, 0, [], rfl, rfl, OS.nil⟩
        ·
         rw [if_neg (fun hh => Bool.noConfusion (hh.symm.trans hc1136))] at hm
         refine c_skip ?_
         refine x_block_normal ?_
         refine x_block_normal ?_
         refine x_then_normal ?_
         refine c_region ?_
         refine t_st rfl (st_add rfl rfl (by omega)) ?_
         refine t_mv rfl rfl ?_
         refine t_nil ?_
         exact x_againM () (Option.some.inj hm).symm (e' := [(1, .slice A8 (l11).length c9), (2, .int .i64 (x12)), (3, .pointer (some ⟨g1060, 0, none⟩)), (30, .slice A8 (l11).length c9), (31, .int .i64 ((l11.length : Int))), (32, .int .i64 ((k1102 : Int) + 1))]) ⟨rfl, rfl, rfl, rfl, rfl, rfl, trivial⟩ (.refl _) ⟨rfl, rfl, ((hle1101.trans hle1128))⟩
     ·
      rintro _ b1100 _ _ ⟨rfl, rfl, hle1101⟩ hq1138
      rw [hq1138] at hk1105
      have hm := elimL hk1105
      refine c_sr ?_
      refine t_st rfl (st_lss_f rfl rfl (by omega)) ?_
      refine t_ne ?_
      refine c_seq ?_
      refine c_cond_f rfl ?_
      refine c_exit ?_
      refine x_then_exit ?_
      refine x_then_exit ?_
      refine x_block_out ?_
      refine x_then_normal ?_
      refine c_sr ?_
      refine t_as rfl rfl ?_
      refine t_as rfl rfl ?_
      refine t_ne ?_
      refine c_seq ?_
      refine c_sr ?_
      refine t_mv rfl rfl ?_
      refine t_mv rfl rfl ?_
      refine t_ne ?_
      refine c_block ?_
      obtain ⟨_, h1140, hm⟩ := bindS hm
      have h1140 := (chk_some h1140).2
      obtain ⟨⟨l1784, l1785⟩, hl1787, hk1788⟩ := bindS hm
      refine c_forS (fun k1786 => unc2 fun l1784 l1785 => fun b1772 e' hp' => ∃ (A1776 : Option Addr), ∃ (c1777 : Nat), ∃ (hs1775 : Hp), ∃ (A1781 : Option Addr), ∃ (c1782 : Nat), ∃ (hs1780 : Hp), [(1, .slice A8 (l11).length c9), (3, .pointer (some ⟨g1060, 0, none⟩)), (11, .slice A1776 (l1784).length c1777), (12, .slice A1781 (l1785).length c1782), (57, .int .i64 (x12)), (58, .int .i64 ((k1786 : Int)))] = e' ∧ (g1060, Cl 54 [.int .i64 (s1.Period), .slice A2 (s1.Plan).length c3, .slice A5 (s1.Links).length c6]) :: (hs1775 ++ (hs1780 ++ R)) = hp' ∧ b1100.Le b1772 ∧ OS 22 (OT.fr (RT.list (RT.int .i64))) b1772.w (.slice A1776 l1784.length c1777) l1784 hs1775 ∧ OS 22 (OT.fr (RT.list (RT.int .i64))) b1772.w (.slice A1781 l1785.length c1782) l1785 hs1780) hl1787 (e' := [(1, .slice A8 (l11).length c9), (3, .pointer (some ⟨g1060, 0, none⟩)), (11, .slice none 0 0), (12, .slice none 0 0), (57, .int .i64 (x12)), (58, .int .i64 0)]) ⟨rfl, rfl, rfl, rfl, rfl, rfl, trivial⟩ (.refl _) ⟨none, 0, [], none, 0, [], rfl, rfl, (Base.Le.refl _), OS.nil, OS.nil⟩ ?_ ?_
      ·
       rintro k1786 ⟨l1784, l1785⟩ b1772 _ _ oL1139 hknL1139 ⟨A1776, c1777, hs1775, A1781, c1782, hs1780, rfl, rfl, hle1773, h1778, h1783⟩ hstepL1139
       unfold mMendSpread_L1139 at hstepL1139
       have hm := (unc2E hstepL1139)
       refine c_sr ?_
       refine t_st rfl (st_lss_t rfl rfl (by omega)) ?_
       refine t_ne ?_
       refine c_seq ?_
       refine c_cond_t rfl ?_
       refine c_skip ?_
       refine x_then_normal ?_
       refine c_seq ?_
       refine c_block ?_
       refine c_sr ?_
       refine t_mv rfl rfl ?_
       refine t_as rfl rfl ?_
       refine t_ne ?_
       refine c_sr ?_
       refine t_st rfl (st_field rfl fld54_1) ?_
       refine t_st rfl (st_load 0 rfl one22 rfl rfl) ?_
       refine t_st rfl (st_len rfl sl22) ?_
       obtain ⟨m1789, h1790, hm⟩ := bindS hm
       have h1790 := mkLen_some h1790
       refine t_do rfl (u_mkOS (r := (RT.int .i64)) [_] (hs1775 ++ (hs1780 ++ R)) [.int .i64 (0)] 0 m1789 rfl h1790.1 rfl rfl sl22 inf3 rfl rfl rfl (by decide) rfl h1790.2.1 h1790.2.2) ?_
       rintro _ _ ⟨hs1791, rfl, h1792⟩
       obtain ⟨A1793, c1794, rfl, _⟩ := h1792.form
       refine t_as rfl rfl ?_
       refine t_ne ?_
       refine c_seq ?_
       refine c_sr ?_
       refine t_mv rfl rfl ?_
       refine t_st rfl (st_len rfl sl55) ?_
       refine t_mv rfl rfl ?_
       refine t_ne ?_
       refine c_block ?_
       have hb1796 : l11.length ≤ 9223372036854775807 := (FZ.bd (h10.le (hle1101.trans hle1773)))
       refine c_front3 [_] hs1791 hs1775 hs1780 R rfl ?_
       refine c_front3 [_] hs1780 hs1791 hs1775 R rfl ?_
       obtain ⟨l1967, hl1970, hk1971⟩ := bindS hm
       refine c_forS (fun k1969 => fun l1967 => fun b1962 e' hp' => ∃ (hs1965 : Hp), [(1, .slice A8 (l11).length c9), (3, .pointer (some ⟨g1060, 0, none⟩)), (11, .slice A1776 (l1784).length c1777), (12, .slice A1781 (l1785).length c1782), (13, .int .i64 ((k1786 : Int))), (14, .slice A1793 (l1967).length c1794), (57, .int .i64 (x12)), (58, .int .i64 ((k1786 : Int))), (65, .slice A8 (l11).length c9), (66, .int .i64 ((l11.length : Int))), (67, .int .i64 ((k1969 : Int)))] = e' ∧ (g1060, Cl 54 [.int .i64 (s1.Period), .slice A2 (s1.Plan).length c3, .slice A5 (s1.Links).length c6]) :: (hs1775 ++ (hs1780 ++ (hs1965 ++ R))) = hp' ∧ b1772.Le b1962 ∧ OS 3 (OT.fr (RT.int .i64)) b1962.w (.slice A1793 l1967.length c1794) l1967 hs1965 ∧ l1967.length = m1789) hl1970 (e' := [(1, .slice A8 (l11).length c9), (3, .pointer (some ⟨g1060, 0, none⟩)), (11, .slice A1776 (l1784).length c1777), (12, .slice A1781 (l1785).length c1782), (13, .int .i64 ((k1786 : Int))), (14, .slice A1793 (List.replicate m1789 (0 : Int)).length c1794), (57, .int .i64 (x12)), (58, .int .i64 ((k1786 : Int))), (65, .slice A8 (l11).length c9), (66, .int .i64 ((l11.length : Int))), (67, .int .i64 0)]) ⟨rfl, rfl, rfl, rfl, rfl, rfl, rfl, rfl, rfl, rfl, rfl, trivial⟩ (.refl _) ⟨hs1791, rfl, rfl, (Base.Le.refl _), h1792, List.length_replicate⟩ ?_ ?_
       ·
        rintro k1969 l1967 b1962 _ _ oL1795 hknL1795 ⟨hs1965, rfl, rfl, hle1963, h1966, hln1968⟩ hstepL1795
        unfold mMendSpread_L1795 at hstepL1795
        have hm := hstepL1795
        refine c_sr ?_
        refine t_st rfl (st_lss_t rfl rfl (by omega)) ?_
        refine t_ne ?_
        refine c_seq ?_
        refine c_cond_t rfl ?_
        refine c_skip ?_
        refine x_then_normal ?_
        refine c_seq ?_
        refine c_block ?_
        refine c_sr ?_
        obtain ⟨x1972, h1973, hm⟩ := bindS hm
        obtain ⟨j1974, hj1975, hx1976⟩ := idx_some h1973
        obtain ⟨cs1977, hr1978, hcs1979, hA1980, hlt1981⟩ := FZ.get (sz := 3) rfl (by decide) (h10.le (hle1101.trans (hle1773.trans hle1963))) hx1976
        obtain ⟨_, _, rfl, rfl, ⟨_, _, rfl, rfl, rfl⟩⟩ := hr1978
        refine t_st rfl (st_index_old j1974 rfl rfl hj1975 hlt1981 hA1980 sl55) ?_
        refine t_st rfl (st_loadN_old (vs := [.int .i64 (x1972.Event), .int .i64 (x1972.Period), .int .i64 (x1972.Secs)]) 3 rfl agg58 hA1980 rfl (fun j u hu => hcs1979 j u hu)) ?_
        refine t_do rfl (u_alloc [.int .i64 0, .int .i64 0, .int .i64 0] zero58 rfl) ?_
        rintro _ _ ⟨g1982, rfl, rfl⟩
        refine t_do rfl (u_storeN (vs := [_, _, _]) 0 3 rfl rfl rfl siz58 rfl (mem_c rfl (mem_c rfl (mem_c rfl mem_n))) rfl (by simp)) ?_
        rintro _ _ rfl
        refine t_ne ?_
        refine c_sr ?_
        refine t_st rfl (st_field rfl fld58_1) ?_
        refine t_st rfl (st_load 0 rfl one3 rfl rfl) ?_
        refine t_mv rfl rfl ?_
        refine t_st rfl (st_eql rfl rfl) ?_
        refine t_ne ?_
        refine c_cond _ rfl (fun hc1983 => ?_) (fun hc1983 => ?_)
        ·
         rw [if_pos (of_decide_eq_true hc1983)] at hm
         obtain ⟨x2018, h2019, hm⟩ := bindS hm
         obtain ⟨x2034, h2035, hm⟩ := bindS hm
         refine c_front3 [_, _] hs1775 hs1780 hs1965 R rfl ?_
         refine D_drawI mixed (.refl _) ?_
         refine E_st 0 rfl (st_move rfl) ?_
         refine E_st 1 rfl (st_field rfl fld58_0) ?_
         refine E_st 2 rfl (st_load 0 rfl one3 rfl rfl) ?_
         refine E_st 3 rfl (st_move rfl) ?_
         refine E_st 4 rfl (st_field rfl fld58_0) ?_
         refine E_st 5 rfl (st_load 0 rfl one3 rfl rfl) ?_
         obtain ⟨j2020, hj2021, hx2022⟩ := idx_some h2019
         obtain ⟨cs2023, hs2028, P2029, P2030, hq2031, hr2024, hcs2025, hA2026, hlt2027, hb2032, hho2033⟩ := OS.get (sz := 1) rfl (by decide) h1966 hx2022
         obtain ⟨rfl, rfl⟩ := hr2024
         refine E_st 6 rfl (st_index_old j2020 rfl rfl hj2021 hlt2027 hA2026 sl22) ?_
         refine E_st 7 rfl (st_load_rd rfl one3 (fun w ho => hcs2025 w _ ho (.cons _ (.cons _ (List.sublist_append_left _ _))) 0 _ rfl)) ?_
         refine E_st 8 rfl (st_field rfl fld58_2) ?_
         refine E_st 9 rfl (st_load 0 rfl one3 rfl rfl) ?_
         refine E_st 10 rfl (st_max rfl rfl) ?_
         obtain ⟨j2036, hj2037, hx2038⟩ := idx_some h2035
         obtain ⟨cs2039, hs2044, P2045, P2046, hq2047, hr2040, hcs2041, hA2042, hlt2043, hb2048, hho2049⟩ := OS.get (sz := 1) rfl (by decide) h1966 hx2038
         obtain ⟨rfl, rfl⟩ := hr2040
         refine E_st 11 rfl (st_index_old j2036 rfl rfl hj2037 hlt2043 hA2042 sl22) ?_
         refine E_out ?_
         refine D_all [12] (by kernel_rfl) rfl ?_
         refine R_do (Base.Le.refl _) rfl rfl (u_putOS hj2037 (sz := 1) (a' := max x2018 x1972.Secs) rfl [_, _] (hs1775 ++ (hs1780 ++ R)) 0 1 [.int .i64 (max x2018 x1972.Secs)] rfl h1966 hx2038 rfl rfl rfl siz3 rfl (mem_c rfl mem_n) (fun cs hsj hh => by obtain ⟨rfl, rfl⟩ := hh; exact ⟨by decide, rfl, rfl⟩)) ?_ ?_
         ·
          rintro _ _ ⟨hs2050, rfl, h2051⟩
          refine ⟨.inl (by kernel_rfl), ?_⟩
          refine d_resp 14 rfl (v' := .slice A1793 (put l1967 x1972.Event (max x2018 x1972.Secs)).length c1794) (by simp only [put_length]) ?_
          refine D_done (by kernel_rfl) ?_
          refine x_block_normal ?_
          refine x_then_normal ?_
          refine c_region ?_
          refine t_st rfl (st_add rfl rfl (by omega)) ?_
          refine t_mv rfl rfl ?_
          refine t_nil ?_
          refine x_pullb 1 rfl ?_
          refine x_front3 [_, _] hs2050 hs1775 hs1780 R rfl ?_
          refine x_front3 [_, _] hs1780 hs2050 hs1775 R rfl ?_
          obtain rfl := some1 hm
          exact x_againS (e' := [(1, .slice A8 (l11).length c9), (3, .pointer (some ⟨g1060, 0, none⟩)), (11, .slice A1776 (l1784).length c1777), (12, .slice A1781 (l1785).length c1782), (13, .int .i64 ((k1786 : Int))), (14, .slice A1793 (put l1967 x1972.Event (max x2018 x1972.Secs)).length c1794), (57, .int .i64 (x12)), (58, .int .i64 ((k1786 : Int))), (65, .slice A8 (l11).length c9), (66, .int .i64 ((l11.length : Int))), (67, .int .i64 ((k1969 : Int) + 1))]) ⟨rfl, rfl, rfl, rfl, rfl, rfl, rfl, rfl, rfl, rfl, rfl, trivial⟩ (.cons_cons _ (.cons _ (.refl _))) ⟨hs2050, rfl, rfl, (hle1963), h2051, ((put_length _ _ _).trans hln1968)⟩
         exact R_nil
        ·
         rw [if_neg (of_decide_eq_false hc1983)] at hm
         refine c_skip ?_
         refine x_block_normal ?_
         refine x_then_normal ?_
         refine c_region ?_
         refine t_st rfl (st_add rfl rfl (by omega)) ?_
         refine t_mv rfl rfl ?_
         refine t_nil ?_
         refine x_pullb 1 rfl ?_
         refine x_front3 [_, _] hs1775 hs1780 hs1965 R rfl ?_
         refine x_front3 [_, _] hs1965 hs1775 hs1780 R rfl ?_
         refine x_front3 [_, _] hs1780 hs1965 hs1775 R rfl ?_
         obtain rfl := some1 hm
         exact x_againS (e' := [(1, .slice A8 (l11).length c9), (3, .pointer (some ⟨g1060, 0, none⟩)), (11, .slice A1776 (l1784).length c1777), (12, .slice A1781 (l1785).length c1782), (13, .int .i64 ((k1786 : Int))), (14, .slice A1793 (l1967).length c1794), (57, .int .i64 (x12)), (58, .int .i64 ((k1786 : Int))), (65, .slice A8 (l11).length c9), (66, .int .i64 ((l11.length : Int))), (67, .int .i64 ((k1969 : Int) + 1))]) ⟨rfl, rfl, rfl, rfl, rfl, rfl, rfl, rfl, rfl, rfl, rfl, trivial⟩ (.cons_cons _ (.cons _ (.refl _))) ⟨hs1965, rfl, rfl, (hle1963), h1966, hln1968⟩
       ·
        rintro b1962 _ _ ⟨hs1965, rfl, rfl, hle1963, h1966, hln1968⟩
        have hm := hk1971
        refine c_sr ?_
        refine t_st rfl (st_lss_f rfl rfl (by omega)) ?_
        refine t_ne ?_
        refine c_seq ?_
        refine c_cond_f rfl ?_
        refine c_exit ?_
        refine x_then_exit ?_
        refine x_then_exit ?_
        refine x_block_out ?_
        refine x_then_normal ?_
        refine c_sr ?_
        refine t_st rfl (st_loadD (vs := [_, _, _]) 0 3 rfl agg54 rfl rfl rfl) ?_
        refine t_mv rfl rfl ?_
        refine t_mv rfl rfl ?_
        obtain ⟨l2052, hcl2053, hm⟩ := bindS hm
        refine t_do rfl (u_callWF [_] (hs1775 ++ (hs1780 ++ (hs1965 ++ R))) _ rfl call53 rfl (fun w ho => cMendRoundFollow _ [] s1 l1967 l1785 A2 c3 A5 c6 A1793 c1794 A1781 c1782 ((h4.le (hle1101.trans (hle1773.trans hle1963))).old ho) ((h7.le (hle1101.trans (hle1773.trans hle1963))).old ho) (OS.now (o := (OT.fr (RT.int .i64))) (l := l1967) (hs := hs1965) h1966 ho (.cons _ (sub_skip hs1775 (sub_skip hs1780 (List.sublist_append_left _ _))))) (OS.now (o := (OT.fr (RT.list (RT.int .i64)))) (l := l1785) (hs := hs1780) (h1783.le hle1963) ho (.cons _ (sub_skip hs1775 (List.sublist_append_left _ _)))) l2052 hcl2053)) ?_
        rintro _ _ ⟨_, _, rfl, A2054, c2055, hs2056, rfl, hq2059, h2057⟩
        obtain rfl := List.append_cancel_right hq2059
        have h2058 := flat_fz (w' := b1962.w) (fun _ _ _ _ h => h) h2057
        refine t_as rfl rfl ?_
        refine t_ne ?_
        refine c_sr ?_
        refine t_mv rfl rfl ?_
        refine t_mv rfl rfl ?_
        refine t_do rfl (u_bslice (el := 22) [(0, .slice A2054 (l2052).length c2055)] [.slice A2054 (l2052).length c2055] rfl (fun _ => by kernel_rfl)) ?_
        rintro _ _ ⟨g2060, rfl, rfl⟩
        refine t_frz [_, _] hs2056 (hs1775 ++ (hs1780 ++ (hs1965 ++ R))) rfl ?_
        intro b2061 hle2062 hz2063
        have h2064 := OS.frz (l := l2052) h2058 hle2062.cells hz2063
        obtain ⟨_, h2065, hm⟩ := bindS hm
        have h2065 := room_some h2065
        refine t_do rfl (u_appOS (r := (RT.list (RT.int .i64))) (l := l1784) [_, _] (hs1780 ++ (hs1965 ++ R)) [[.slice A2054 (l2052).length c2055]] [l2052] rfl (by decide) sl45 inf22 rfl rfl rfl rfl (h1778.le (hle1963.trans hle2062)) rfl (fun w ho => Rd.own (i := 0) ho rfl) ⟨(RT.list_mk h2064), trivial⟩ h2065) ?_
        rintro _ _ ⟨hs2066, rfl, h2067⟩
        obtain ⟨A2068, c2069, rfl, _⟩ := h2067.form
        refine t_as rfl rfl ?_
        refine t_ne ?_
        refine c_region ?_
        refine t_mv rfl rfl ?_
        refine t_do rfl (u_bslice (el := 22) [(0, .slice A2054 (l2052).length c2055)] [.slice A2054 (l2052).length c2055] rfl (fun _ => by kernel_rfl)) ?_
        rintro _ _ ⟨g2070, rfl, rfl⟩
        refine t_mv rfl rfl ?_
        refine t_mv rfl rfl ?_
        refine t_st rfl (st_len rfl sl45) ?_
        refine t_st rfl (st_min rfl rfl) ?_
        refine t_front2 [_, _, _] hs2066 hs1780 (hs1965 ++ R) rfl ?_
        refine t_frz [_, _, _] hs1780 (hs2066 ++ (hs1965 ++ R)) rfl ?_
        intro b2071 hle2072 hz2073
        have h2074 := OS.frz (l := l1785) (h1783.le (hle1963.trans hle2062)) hle2072.cells hz2073
        obtain ⟨l2075, h2076, hm⟩ := bindS hm
        obtain ⟨j2077, j2078, hj2079, hj2080, hj2081, hj2082, hx2083⟩ := cutS_some h2076
        have h2084 := FZ.sub (sz := 1) rfl h2074 hj2081 hj2082
        have h2085 := h2074.1.1
        rw [← hx2083] at h2084
        refine t_st rfl (hx2083 ▸ st_part (l := l1785) j2077 j2078 rfl (.inl ⟨rfl, by omega⟩) (.inr ⟨_, _, _, rfl, rfl, hj2080⟩) hj2081 hj2082 h2085 sl45) ?_
        refine t_seg 0 [_, _] (hs2066 ++ (hs1965 ++ R)) rfl rfl ?_
        have h2091 : OS 22 (OT.fr (RT.list (RT.int .i64))) b2071.w (.slice (some ⟨g2070, 0, none⟩) 1 1) [l2052] [(g2070, Cl 22 [.slice A2054 (l2052).length c2055])] := OS.lit [[.slice A2054 (l2052).length c2055]] rfl ⟨(RT.list_mk (h2064.le hle2072)), trivial⟩ rfl (by decide)
        obtain ⟨css2092, h2093, h2094⟩ := rd_src h2084
        obtain ⟨_, h2095, hm⟩ := bindS hm
        have h2095 := room_some h2095
        refine t_do rfl (u_appOS (r := (RT.list (RT.int .i64))) (l := [l2052]) [_, _] (hs2066 ++ (hs1965 ++ R)) css2092 l2075 rfl (by decide) sl45 inf22 rfl rfl rfl rfl h2091 rfl (fun w ho => h2093.old ho) h2094 h2095) ?_
        rintro _ _ ⟨hs2096, rfl, h2097⟩
        obtain ⟨A2098, c2099, rfl, _⟩ := h2097.form
        refine t_as rfl rfl ?_
        refine t_nil ?_
        refine x_block_normal ?_
        refine x_then_normal ?_
        refine c_region ?_
        refine t_st rfl (st_add rfl rfl (by omega)) ?_
        refine t_mv rfl rfl ?_
        refine t_nil ?_
        refine x_pullb 1 rfl ?_
        refine x_front2 [_, _] hs2096 hs2066 (hs1965 ++ R) rfl ?_
        obtain rfl := some1 hm
        exact x_againS (e' := [(1, .slice A8 (l11).length c9), (3, .pointer (some ⟨g1060, 0, none⟩)), (11, .slice A2068 (l1784 ++ [l2052]).length c2069), (12, .slice A2098 ([l2052] ++ l2075).length c2099), (57, .int .i64 (x12)), (58, .int .i64 ((k1786 : Int) + 1))]) ⟨rfl, rfl, rfl, rfl, rfl, rfl, trivial⟩ (.cons_cons _ (.cons _ (sub_app hs2066 (sub_app hs2096 (sub_skip hs1965 (.refl _)))))) ⟨A2068, c2069, hs2066, A2098, c2099, hs2096, rfl, rfl, ((hle1773.trans (hle1963.trans (hle2062.trans hle2072)))), (h2067.le hle2072), h2097⟩
      ·
       rintro b1772 _ _ ⟨A1776, c1777, hs1775, A1781, c1782, hs1780, rfl, rfl, hle1773, h1778, h1783⟩
       have hm := (unc2E hk1788)
       refine c_sr ?_
       refine t_st rfl (st_lss_f rfl rfl (by omega)) ?_
       refine t_ne ?_
       refine c_seq ?_
       refine c_cond_f rfl ?_
       refine c_exit ?_
       refine x_then_exit ?_
       refine x_then_exit ?_
       refine x_block_out ?_
       refine x_then_normal ?_
       refine c_sr ?_
       refine t_mv rfl rfl ?_
       refine t_as rfl rfl ?_
       refine t_as rfl rfl ?_
       refine t_ne ?_
       refine c_ret ?_
       obtain ⟨rfl, rfl⟩ := some2 hm
       exact retM (rs := [.tmp 6, .tmp 7]) [.slice A1776 (l1784).length c1777, .int .i64 (0)] (hle1101.trans hle1773) (by decide) rfl ⟨rfl, ⟨rfl, trivial⟩⟩ rfl (.cons _ (sub_app hs1775 (sub_skip hs1780 (.refl _)))) ⟨A1776, c1777, hs1775, rfl, rfl, h1778⟩

set_option maxRecDepth 20000 in
theorem cSlicesGrow (b : Base) (R : Hp) (x1 : Int) (l63 : (List (List Int))) (hm : mSlicesGrow x1 = some l63) :
    CallsG Try.prog 57 [.slice none 0 0, .int .i64 (x1)] b (R) (fun v b' hp' => ∃ (A60 : Option Addr), ∃ (c61 : Nat), ∃ (hs59 : Hp), .slice A60 (l63).length c61 = v ∧ (hs59 ++ R) = hp' ∧ OS 22 (OT.fr (RT.list (RT.int .i64))) b'.w (.slice A60 l63.length c61) l63 hs59) := by
  refine fn_enterG 27 Try.func57 rfl Try.ntmps57 rfl ?_
  unfold mSlicesGrow at hm
  refine c_sr ?_
  refine t_as rfl rfl ?_
  refine t_ne ?_
  refine c_seq ?_
  refine c_sr ?_
  refine t_mv rfl rfl ?_
  refine t_st rfl (st_lss rfl rfl) ?_
  refine t_ne ?_
  refine c_cond _ rfl (fun hc64 => ?_) (fun hc64 => ?_)
  ·
   rw [if_pos (of_decide_eq_true hc64)] at hm
   cases hm
  ·
   rw [if_neg (of_decide_eq_false hc64)] at hm
   refine c_skip ?_
   refine x_then_normal ?_
   obtain ⟨l95, hj96, hk96⟩ := bindS hm
   refine c_join (fun b88 e' hp' => ∃ (A92 : Option Addr), ∃ (c93 : Nat), ∃ (hs91 : Hp), [(0, .slice A92 (l95).length c93)] = e' ∧ (hs91 ++ R) = hp' ∧ b.Le b88 ∧ OS 22 (OT.fr (RT.list (RT.int .i64))) b88.w (.slice A92 l95.length c93) l95 hs91) ?_ ?_
   ·
    have hm := hj96
    refine c_sr ?_
    refine t_mv rfl rfl ?_
    refine t_mv rfl rfl ?_
    refine t_st rfl (st_cap0 rfl sl45) ?_
    refine t_mv rfl rfl ?_
    refine t_st rfl (st_len0 rfl sl45) ?_
    obtain ⟨_, h97, hm⟩ := bindS hm
    have h97 := (chk_some h97).2
    refine t_st rfl (st_sub rfl rfl h97) ?_
    obtain ⟨_, h98, hm⟩ := bindS hm
    have h98 := (chk_some h98).2
    refine t_st rfl (st_sub rfl rfl h98) ?_
    refine t_as rfl rfl ?_
    refine t_ne ?_
    refine c_sr ?_
    refine t_mv rfl rfl ?_
    refine t_st rfl (st_gtr rfl rfl) ?_
    refine t_ne ?_
    refine c_cond _ rfl (fun hc99 => ?_) (fun hc99 => ?_)
    ·
     rw [if_pos (of_decide_eq_true hc99)] at hm
     refine c_region ?_
     refine t_mv rfl rfl ?_
     refine t_mv rfl rfl ?_
     refine t_st rfl (st_cap0 rfl sl45) ?_
     refine t_st rfl (st_slcN rfl rfl sl45) ?_
     refine t_mv rfl rfl ?_
     obtain ⟨m100, h101, hm⟩ := bindS hm
     have h101 := posN_some h101
     obtain ⟨_, h102, hm⟩ := bindS hm
     have h102 := room_some h102
     refine t_do rfl (u_appZ (r := (RT.list (RT.int .i64))) [] R [.slice none 0 0] ([] : List Int) m100 rfl rfl rfl h101.1 h101.2 sl45 int3_i64 inf22 rfl rfl rfl (by decide) (RT.list_mk FZ.nil) h102) ?_
     rintro _ _ ⟨hs103, rfl, h104⟩
     obtain ⟨A105, c106, rfl, _⟩ := h104.form
     refine t_mv rfl rfl ?_
     refine t_st rfl (st_len0 rfl sl45) ?_
     obtain ⟨l107, h108, hm⟩ := bindS hm
     obtain ⟨j109, j110, hj111, hj112, hj113, hj114, hx115⟩ := cutS_some h108
     have h116 := OS.lc h104
     refine t_st rfl (hx115 ▸ st_part (l := List.replicate m100 (([] : List Int) : (List Int))) j109 j110 rfl (.inl ⟨rfl, by omega⟩) (.inr ⟨_, _, _, rfl, rfl, hj112⟩) hj113 hj114 h116 sl45) ?_
     obtain ⟨hs117, hq118, h119⟩ := OS.sub (sz := 1) rfl h104 hj113 hj114
     rw [← hx115] at h119
     refine t_less [] hs103 hs117 R rfl hq118 ?_
     refine t_as rfl rfl ?_
     refine t_nil ?_
     obtain rfl := some1 hm
     exact x_join (e' := [(0, .slice (subA A105 c106 j109 1) (l107).length (c106 - j109))]) ⟨rfl, trivial⟩ (.refl _) ⟨(subA A105 c106 j109 1), (c106 - j109), hs117, rfl, rfl, (Base.Le.refl _), h119⟩
    ·
     rw [if_neg (of_decide_eq_false hc99)] at hm
     refine c_skip ?_
     obtain rfl := some1 hm
     exact x_join (e' := [(0, .slice none 0 0)]) ⟨rfl, trivial⟩ (.refl _) ⟨none, 0, [], rfl, rfl, (Base.Le.refl _), OS.nil⟩
   ·
    rintro b88 _ _ ⟨A92, c93, hs91, rfl, rfl, hle89, h94⟩
    have hm := hk96
    refine c_sr ?_
    refine t_mv rfl rfl ?_
    refine t_as rfl rfl ?_
    refine t_ne ?_
    refine c_ret ?_
    obtain rfl := some1 hm
    exact retM (rs := [.tmp 4]) [.slice A92 (l95).length c93] hle89 (by decide) rfl ⟨rfl, trivial⟩ rfl (.refl _) ⟨A92, c93, hs91, rfl, rfl, h94⟩

set_option maxRecDepth 20000 in
theorem cSlicesConcat (b : Base) (R : Hp) (l4 : (List (List (List Int)))) (A1 : Option Addr) (c2 : Nat) (h3 : FZ (RT.list (RT.list (RT.int .i64))) b.w A1 c2 l4) (l154 : (List (List Int))) (hm : mSlicesConcat l4 = some l154) :
    CallsG Try.prog 30 [.slice A1 (l4).length c2] b (R) (fun v b' hp' => ∃ (A151 : Option Addr), ∃ (c152 : Nat), ∃ (hs150 : Hp), .slice A151 (l154).length c152 = v ∧ (hs150 ++ R) = hp' ∧ OS 22 (OT.fr (RT.list (RT.int .i64))) b'.w (.slice A151 l154.length c152) l154 hs150) := by
  refine fn_enterG 36 Try.func30 rfl Try.ntmps30 rfl ?_
  unfold mSlicesConcat at hm
  refine c_sr ?_
  refine t_as rfl rfl ?_
  refine t_ne ?_
  refine c_sr ?_
  refine t_as rfl rfl ?_
  refine t_ne ?_
  refine c_seq ?_
  refine c_sr ?_
  refine t_mv rfl rfl ?_
  refine t_st rfl (st_len rfl sl94) ?_
  refine t_mv rfl rfl ?_
  refine t_ne ?_
  refine c_block ?_
  have hb156 : l4.length ≤ 9223372036854775807 := (FZ.bd h3)
  obtain ⟨x190, hl192, hk193⟩ := bindS hm
  refine c_forS (fun k191 => fun x190 => fun b188 e' hp' => [(0, .slice A1 (l4).length c2), (3, .int .i64 (x190)), (9, .slice A1 (l4).length c2), (10, .int .i64 ((l4.length : Int))), (11, .int .i64 ((k191 : Int)))] = e' ∧ R = hp' ∧ b.Le b188) hl192 (e' := [(0, .slice A1 (l4).length c2), (3, .int .i64 (0)), (9, .slice A1 (l4).length c2), (10, .int .i64 ((l4.length : Int))), (11, .int .i64 0)]) ⟨rfl, rfl, rfl, rfl, rfl, trivial⟩ (.refl _) ⟨rfl, rfl, (Base.Le.refl _)⟩ ?_ ?_
  ·
   rintro k191 x190 b188 _ _ oL155 hknL155 ⟨rfl, rfl, hle189⟩ hstepL155
   unfold mSlicesConcat_L155 at hstepL155
   have hm := hstepL155
   refine c_sr ?_
   refine t_st rfl (st_lss_t rfl rfl (by omega)) ?_
   refine t_ne ?_
   refine c_seq ?_
   refine c_cond_t rfl ?_
   refine c_skip ?_
   refine x_then_normal ?_
   refine c_seq ?_
   refine c_block ?_
   refine c_sr ?_
   obtain ⟨x194, h195, hm⟩ := bindS hm
   obtain ⟨j196, hj197, hx198⟩ := idx_some h195
   obtain ⟨cs199, hr200, hcs201, hA202, hlt203⟩ := FZ.get (sz := 1) rfl (by decide) (h3.le hle189) hx198
   obtain ⟨A204, c205, rfl, h206⟩ := hr200
   refine t_st rfl (st_index_old j196 rfl rfl hj197 hlt203 hA202 sl94) ?_
   refine t_st rfl (st_load_old rfl one45 (hcs201 0 _ rfl)) ?_
   refine t_as rfl rfl ?_
   refine t_ne ?_
   refine c_sr ?_
   refine t_mv rfl rfl ?_
   refine t_mv rfl rfl ?_
   refine t_st rfl (st_len rfl sl45) ?_
   obtain ⟨_, h207, hm⟩ := bindS hm
   have h207 := (chk_some h207).2
   refine t_st rfl (st_add rfl rfl h207) ?_
   refine t_as rfl rfl ?_
   refine t_ne ?_
   refine c_sr ?_
   refine t_mv rfl rfl ?_
   refine t_st rfl (st_lss rfl rfl) ?_
   refine t_ne ?_
   refine c_cond _ rfl (fun hc208 => ?_) (fun hc208 => ?_)
   ·
    rw [if_pos (of_decide_eq_true hc208)] at hm
    cases hm
   ·
    rw [if_neg (of_decide_eq_false hc208)] at hm
    refine c_skip ?_
    refine x_block_normal ?_
    refine x_then_normal ?_
    refine c_region ?_
    refine t_st rfl (st_add rfl rfl (by omega)) ?_
    refine t_mv rfl rfl ?_
    refine t_nil ?_
    obtain rfl := some1 hm
    exact x_againS (e' := [(0, .slice A1 (l4).length c2), (3, .int .i64 (x190 + (x194.length : Int))), (9, .slice A1 (l4).length c2), (10, .int .i64 ((l4.length : Int))), (11, .int .i64 ((k191 : Int) + 1))]) ⟨rfl, rfl, rfl, rfl, rfl, trivial⟩ (.refl _) ⟨rfl, rfl, (hle189)⟩
  ·
   rintro b188 _ _ ⟨rfl, rfl, hle189⟩
   have hm := hk193
   refine c_sr ?_
   refine t_st rfl (st_lss_f rfl rfl (by omega)) ?_
   refine t_ne ?_
   refine c_seq ?_
   refine c_cond_f rfl ?_
   refine c_exit ?_
   refine x_then_exit ?_
   refine x_then_exit ?_
   refine x_block_out ?_
   refine x_then_normal ?_
   refine c_sr ?_
   refine t_mv rfl rfl ?_
   obtain ⟨l209, hcl210, hm⟩ := bindS hm
   refine t_callG _ rfl call57 rfl (cSlicesGrow _ _ x190 l209 hcl210) ?_
   rintro _ b211 _ hle212 ⟨A213, c214, hs215, rfl, rfl, h216⟩
   refine t_in1 [] [] hs215 R rfl ?_
   refine t_as rfl rfl ?_
   refine t_ne ?_
   refine c_seq ?_
   refine c_sr ?_
   refine t_mv rfl rfl ?_
   refine t_st rfl (st_len rfl sl94) ?_
   refine t_mv rfl rfl ?_
   refine t_ne ?_
   refine c_block ?_
   have hb218 : l4.length ≤ 9223372036854775807 := (FZ.bd (h3.le (hle189.trans hle212)))
   obtain ⟨l274, hl276, hk277⟩ := bindS hm
   refine c_forS (fun k275 => fun l274 => fun b267 e' hp' => ∃ (A271 : Option Addr), ∃ (c272 : Nat), ∃ (hs270 : Hp), [(6, .slice A271 (l274).length c272), (25, .slice A1 (l4).length c2), (26, .int .i64 ((l4.length : Int))), (27, .int .i64 ((k275 : Int)))] = e' ∧ (hs270 ++ R) = hp' ∧ b211.Le b267 ∧ OS 22 (OT.fr (RT.list (RT.int .i64))) b267.w (.slice A271 l274.length c272) l274 hs270) hl276 (e' := [(6, .slice A213 (l209).length c214), (25, .slice A1 (l4).length c2), (26, .int .i64 ((l4.length : Int))), (27, .int .i64 0)]) ⟨rfl, rfl, rfl, rfl, trivial⟩ (.refl _) ⟨A213, c214, hs215, rfl, rfl, (Base.Le.refl _), h216⟩ ?_ ?_
   ·
    rintro k275 l274 b267 _ _ oL217 hknL217 ⟨A271, c272, hs270, rfl, rfl, hle268, h273⟩ hstepL217
    unfold mSlicesConcat_L217 at hstepL217
    have hm := hstepL217
    refine c_sr ?_
    refine t_st rfl (st_lss_t rfl rfl (by omega)) ?_
    refine t_ne ?_
    refine c_seq ?_
    refine c_cond_t rfl ?_
    refine c_skip ?_
    refine x_then_normal ?_
    refine c_seq ?_
    refine c_block ?_
    refine c_sr ?_
    obtain ⟨x278, h279, hm⟩ := bindS hm
    obtain ⟨j280, hj281, hx282⟩ := idx_some h279
    obtain ⟨cs283, hr284, hcs285, hA286, hlt287⟩ := FZ.get (sz := 1) rfl (by decide) (h3.le (hle189.trans (hle212.trans hle268))) hx282
    obtain ⟨A288, c289, rfl, h290⟩ := hr284
    refine t_st rfl (st_index_old j280 rfl rfl hj281 hlt287 hA286 sl94) ?_
    refine t_st rfl (st_load_old rfl one45 (hcs285 0 _ rfl)) ?_
    refine t_as rfl rfl ?_
    refine t_ne ?_
    refine c_region ?_
    refine t_mv rfl rfl ?_
    refine t_mv rfl rfl ?_
    obtain ⟨css291, h292, h293⟩ := rd_src h290
    obtain ⟨_, h294, hm⟩ := bindS hm
    have h294 := room_some h294
    refine t_do rfl (u_appOS (r := (RT.list (RT.int .i64))) (l := l274) [] R css291 x278 rfl (by decide) sl45 inf22 rfl rfl rfl rfl h273 rfl (fun w ho => h292.old ho) h293 h294) ?_
    rintro _ _ ⟨hs295, rfl, h296⟩
    obtain ⟨A297, c298, rfl, _⟩ := h296.form
    refine t_as rfl rfl ?_
    refine t_nil ?_
    refine x_block_normal ?_
    refine x_then_normal ?_
    refine c_region ?_
    refine t_st rfl (st_add rfl rfl (by omega)) ?_
    refine t_mv rfl rfl ?_
    refine t_nil ?_
    obtain rfl := some1 hm
    exact x_againS (e' := [(6, .slice A297 (l274 ++ x278).length c298), (25, .slice A1 (l4).length c2), (26, .int .i64 ((l4.length : Int))), (27, .int .i64 ((k275 : Int) + 1))]) ⟨rfl, rfl, rfl, rfl, trivial⟩ (.refl _) ⟨A297, c298, hs295, rfl, rfl, (hle268), h296⟩
   ·
    rintro b267 _ _ ⟨A271, c272, hs270, rfl, rfl, hle268, h273⟩
    have hm := hk277
    refine c_sr ?_
    refine t_st rfl (st_lss_f rfl rfl (by omega)) ?_
    refine t_ne ?_
    refine c_seq ?_
    refine c_cond_f rfl ?_
    refine c_exit ?_
    refine x_then_exit ?_
    refine x_then_exit ?_
    refine x_block_out ?_
    refine x_then_normal ?_
    refine c_sr ?_
    refine t_mv rfl rfl ?_
    refine t_as rfl rfl ?_
    refine t_ne ?_
    refine c_ret ?_
    obtain rfl := some1 hm
    exact retM (rs := [.tmp 2]) [.slice A271 (l274).length c272] (hle189.trans (hle212.trans hle268)) (by decide) rfl ⟨rfl, trivial⟩ rfl (.refl _) ⟨A271, c272, hs270, rfl, rfl, h273⟩

set_option maxRecDepth 20000 in
theorem cFishkeep2MendDies_1 (b : Base) (R : Hp) (l5 : (List Int)) (x6 : Int) (l10 : (List Int)) (l14 : (List MendLink)) (g1 : Nat) (A2 : Option Addr) (c3 : Nat) (A7 : Option Addr) (c8 : Nat) (A11 : Option Addr) (c12 : Nat) (h4 : FZ (RT.int .i64) b.w A2 c3 l5) (h9 : FZ (RT.int .i64) b.w A7 c8 l10) (h13 : FZ rMendLink b.w A11 c12 l14) (x15 : Bool) (hm : mFishkeep2MendDies_1 l5 x6 l10 l14 = some x15) :
    CallsG Try.prog 31 [.slice A2 (l5).length c3, .pointer (some ⟨g1, 0, none⟩)] b ((g1, Cl 54 [.int .i64 (x6), .slice A7 (l10).length c8, .slice A11 (l14).length c12]) :: R) (fun v b' hp' => .bool (x15) = v ∧ (g1, Cl 54 [.int .i64 (x6), .slice A7 (l10).length c8, .slice A11 (l14).length c12]) :: R = hp') := by
  refine fn_enterG 10 Try.func31 rfl Try.ntmps31 rfl ?_
  unfold mFishkeep2MendDies_1 at hm
  refine c_sr ?_
  refine t_as rfl rfl ?_
  refine t_ne ?_
  refine c_sr ?_
  refine t_mv rfl rfl ?_
  refine t_st rfl (st_len rfl sl22) ?_
  refine t_st rfl (st_field rfl fld54_1) ?_
  refine t_st rfl (st_load 0 rfl one22 rfl rfl) ?_
  refine t_st rfl (st_len rfl sl22) ?_
  refine t_st rfl (st_neq rfl rfl) ?_
  refine t_as rfl rfl ?_
  refine t_ne ?_
  refine c_ret ?_
  obtain rfl := some1 hm
  exact retM (rs := [.tmp 3]) [.bool (decide ((l5.length : Int) ≠ (l10.length : Int)))] (Base.Le.refl _) (by decide) rfl ⟨rfl, trivial⟩ rfl (.refl _) ⟨rfl, rfl⟩

set_option maxRecDepth 20000 in
theorem cSlicesIndexFunc (b : Base) (R : Hp) (x7 : Int) (l11 : (List Int)) (l15 : (List MendLink)) (l16 : (List (List Int))) (g6 : Nat) (A8 : Option Addr) (c9 : Nat) (A12 : Option Addr) (c13 : Nat) (A3 : Option Addr) (c4 : Nat) (hs2 : Hp) (h10 : FZ (RT.int .i64) b.w A8 c9 l11) (h14 : FZ rMendLink b.w A12 c13 l15) (h5 : OS 22 (OT.fr (RT.list (RT.int .i64))) b.w (.slice A3 l16.length c4) l16 hs2) (x75 : Int) (hm : mSlicesIndexFunc x7 l11 l15 l16 = some x75) :
    CallsG Try.prog 56 [.slice A3 (l16).length c4, .func (.func 31) #[] #[.pointer (some ⟨g6, 0, none⟩)]] b ((g6, Cl 54 [.int .i64 (x7), .slice A8 (l11).length c9, .slice A12 (l15).length c13]) :: (hs2 ++ R)) (fun v b' hp' => .int .i64 (x75) = v ∧ (g6, Cl 54 [.int .i64 (x7), .slice A8 (l11).length c9, .slice A12 (l15).length c13]) :: (hs2 ++ R) = hp') := by
  refine fn_enterG 19 Try.func56 rfl Try.ntmps56 rfl ?_
  unfold mSlicesIndexFunc at hm
  refine c_sr ?_
  refine t_as rfl rfl ?_
  refine t_ne ?_
  refine c_seq ?_
  refine c_sr ?_
  refine t_mv rfl rfl ?_
  refine t_st rfl (st_len rfl sl45) ?_
  refine t_mv rfl rfl ?_
  refine t_ne ?_
  refine c_block ?_
  have hb77 : l16.length ≤ 9223372036854775807 := (OS.len h5)
  obtain ⟨t105, hl106, hk107⟩ := bindS hm
  refine c_forM (fun k104 => fun _ => fun b102 e' hp' => [(0, .slice A3 (l16).length c4), (1, .func (.func 31) #[] #[.pointer (some ⟨g6, 0, none⟩)]), (7, .int .i64 ((l16.length : Int))), (8, .int .i64 ((k104 : Int)))] = e' ∧ (g6, Cl 54 [.int .i64 (x7), .slice A8 (l11).length c9, .slice A12 (l15).length c13]) :: (hs2 ++ R) = hp' ∧ b.Le b102) hl106 (e' := [(0, .slice A3 (l16).length c4), (1, .func (.func 31) #[] #[.pointer (some ⟨g6, 0, none⟩)]), (7, .int .i64 ((l16.length : Int))), (8, .int .i64 0)]) ⟨rfl, rfl, rfl, rfl, trivial⟩ (.refl _) ⟨rfl, rfl, (Base.Le.refl _)⟩ ?_ ?_
  ·
   rintro k104 _ b102 _ _ oL76 hknL76 ⟨rfl, rfl, hle103⟩ hstepL76 houtL76
   unfold mSlicesIndexFunc_L76 at hstepL76
   have hm := hstepL76
   refine c_sr ?_
   refine t_st rfl (st_lss_t rfl rfl (by omega)) ?_
   refine t_ne ?_
   refine c_seq ?_
   refine c_cond_t rfl ?_
   refine c_skip ?_
   refine x_then_normal ?_
   refine c_seq ?_
   refine c_block ?_
   refine c_sr ?_
   refine t_mv rfl rfl ?_
   refine t_as rfl rfl ?_
   refine t_ne ?_
   refine c_sr ?_
   refine t_mv rfl rfl ?_
   refine t_mv rfl rfl ?_
   refine t_mv rfl rfl ?_
   obtain ⟨x108, h109, hm⟩ := bindS hm
   obtain ⟨j110, hj111, hx112⟩ := idx_some h109
   obtain ⟨cs113, hs118, P119, P120, hq121, hr114, hcs115, hA116, hlt117, hb122, hho123⟩ := OS.get (sz := 1) rfl (by decide) (h5.le hle103) hx112
   obtain ⟨⟨A124, c125, rfl, h126⟩, rfl⟩ := hr114
   refine t_st rfl (st_index_old j110 rfl rfl hj111 hlt117 hA116 sl45) ?_
   refine t_st rfl (st_load_rd rfl one22 (fun w ho => hcs115 w _ ho (.cons _ (List.sublist_append_left _ _)) 0 _ rfl)) ?_
   obtain ⟨x127, hcl128, hm⟩ := bindS hm
   refine t_callvG #[] #[.pointer (some ⟨g6, 0, none⟩)] [.slice A124 (x108).length c125] rfl rfl call31 rfl (cFishkeep2MendDies_1 _ _ x108 x7 l11 l15 g6 A124 c125 A8 c9 A12 c13 h126 (h10.le hle103) (h14.le hle103) x127 hcl128) ?_
   rintro _ b129 _ hle130 ⟨rfl, rfl⟩
   refine t_ne ?_
   refine c_cond _ rfl (fun hc131 => ?_) (fun hc131 => ?_)
   ·
    rw [if_pos hc131] at hm
    refine c_sr ?_
    refine t_mv rfl rfl ?_
    refine t_as rfl rfl ?_
    refine t_ne ?_
    refine c_ret ?_
    refine x_block_ret ?_
    refine x_then_ret ?_
    refine x_then_ret ?_
    refine x_block_ret ?_
    refine x_then_ret ?_
    have hq132 := houtL76 _ (Option.some.inj hm).symm
    rw [hq132] at hk107
    have hm := elimR hk107
    obtain rfl := some1 hm
    exact retM (rs := [.tmp 4]) [.int .i64 ((k104 : Int))] (hle103.trans hle130) (by decide) rfl ⟨rfl, trivial⟩ rfl (.refl _) ⟨rfl, rfl⟩
   ·
    rw [if_neg (fun hh => Bool.noConfusion (hh.symm.trans hc131))] at hm
    refine c_skip ?_
    refine x_block_normal ?_
    refine x_then_normal ?_
    refine c_region ?_
    refine t_st rfl (st_add rfl rfl (by omega)) ?_
    refine t_mv rfl rfl ?_
    refine t_nil ?_
    exact x_againM () (Option.some.inj hm).symm (e' := [(0, .slice A3 (l16).length c4), (1, .func (.func 31) #[] #[.pointer (some ⟨g6, 0, none⟩)]), (7, .int .i64 ((l16.length : Int))), (8, .int .i64 ((k104 : Int) + 1))]) ⟨rfl, rfl, rfl, rfl, trivial⟩ (.refl _) ⟨rfl, rfl, ((hle103.trans hle130))⟩
  ·
   rintro _ b102 _ _ ⟨rfl, rfl, hle103⟩ hq133
   rw [hq133] at hk107
   have hm := elimL hk107
   refine c_sr ?_
   refine t_st rfl (st_lss_f rfl rfl (by omega)) ?_
   refine t_ne ?_
   refine c_seq ?_
   refine c_cond_f rfl ?_
   refine c_exit ?_
   refine x_then_exit ?_
   refine x_then_exit ?_
   refine x_block_out ?_
   refine x_then_normal ?_
   refine c_sr ?_
   refine t_as rfl rfl ?_
   refine t_ne ?_
   refine c_ret ?_
   obtain rfl := some1 hm
   exact retM (rs := [.tmp 4]) [.int .i64 ((-1))] hle103 (by decide) rfl ⟨rfl, trivial⟩ rfl (.refl _) ⟨rfl, rfl⟩

set_option maxRecDepth 20000 in
theorem cSlicesContainsFunc (b : Base) (R : Hp) (x7 : Int) (l11 : (List Int)) (l15 : (List MendLink)) (l16 : (List (List Int))) (g6 : Nat) (A8 : Option Addr) (c9 : Nat) (A12 : Option Addr) (c13 : Nat) (A3 : Option Addr) (c4 : Nat) (hs2 : Hp) (h10 : FZ (RT.int .i64) b.w A8 c9 l11) (h14 : FZ rMendLink b.w A12 c13 l15) (h5 : OS 22 (OT.fr (RT.list (RT.int .i64))) b.w (.slice A3 l16.length c4) l16 hs2) (x21 : Bool) (hm : mSlicesContainsFunc x7 l11 l15 l16 = some x21) :
    CallsG Try.prog 29 [.slice A3 (l16).length c4, .func (.func 31) #[] #[.pointer (some ⟨g6, 0, none⟩)]] b ((g6, Cl 54 [.int .i64 (x7), .slice A8 (l11).length c9, .slice A12 (l15).length c13]) :: (hs2 ++ R)) (fun v b' hp' => .bool (x21) = v ∧ (g6, Cl 54 [.int .i64 (x7), .slice A8 (l11).length c9, .slice A12 (l15).length c13]) :: (hs2 ++ R) = hp') := by
  refine fn_enterG 9 Try.func29 rfl Try.ntmps29 rfl ?_
  unfold mSlicesContainsFunc at hm
  refine c_sr ?_
  refine t_as rfl rfl ?_
  refine t_ne ?_
  refine c_sr ?_
  refine t_mv rfl rfl ?_
  refine t_mv rfl rfl ?_
  obtain ⟨x22, hcl23, hm⟩ := bindS hm
  refine t_out1 [_] [] hs2 R rfl ?_
  refine t_callG _ rfl call56 rfl (cSlicesIndexFunc _ _ x7 l11 l15 l16 g6 A8 c9 A12 c13 A3 c4 hs2 h10 h14 h5 x22 hcl23) ?_
  rintro _ b24 _ hle25 ⟨rfl, rfl⟩
  refine t_in1 [_] [] hs2 R rfl ?_
  refine t_st rfl (st_geq rfl rfl) ?_
  refine t_as rfl rfl ?_
  refine t_ne ?_
  refine c_ret ?_
  obtain rfl := some1 hm
  exact retM (rs := [.tmp 4]) [.bool (decide (0 ≤ x22))] hle25 (by decide) rfl ⟨rfl, trivial⟩ rfl (.refl _) ⟨rfl, rfl⟩

set_option maxRecDepth 20000 in
theorem cFishkeep2MendDies (b : Base) (R : Hp) (s1 : MendRound) (l11 : (List MendFirst)) (A2 : Option Addr) (c3 : Nat) (A5 : Option Addr) (c6 : Nat) (A8 : Option Addr) (c9 : Nat) (h4 : FZ (RT.int .i64) b.w A2 c3 s1.Plan) (h7 : FZ rMendLink b.w A5 c6 s1.Links) (h10 : FZ rMendFirst b.w A8 c9 l11) (x895 : Bool) (hm : mFishkeep2MendDies s1 l11 = some x895) :
    CallsG Try.prog 6 [.agg #[.int .i64 (s1.Period), .slice A2 (s1.Plan).length c3, .slice A5 (s1.Links).length c6], .slice A8 (l11).length c9] b (R) (fun v b' hp' => .bool (x895) = v ∧ R = hp') := by
  refine fn_enterG 199 Try.func6 rfl Try.ntmps6 rfl ?_
  unfold mFishkeep2MendDies at hm
  refine c_sr ?_
  refine t_do rfl (u_box _ rfl rfl) ?_
  rintro _ _ ⟨g896, rfl, rfl⟩
  refine t_as rfl rfl ?_
  refine t_ne ?_
  refine c_seq ?_
  refine c_sr ?_
  obtain ⟨x897, hcl898, hm⟩ := bindS hm
  refine t_do rfl (u_callW0 _ call7 rfl (fun w ho => cFishkeep2AwakeMend _ [] x897 hcl898) (fun _ _ _ h => h.2.symm)) ?_
  rintro _ _ ⟨⟨_, rfl, _⟩, rfl⟩
  refine t_st rfl (st_not rfl) ?_
  refine t_ne ?_
  refine c_cond _ rfl (fun hc899 => ?_) (fun hc899 => ?_)
  ·
   rw [if_neg (fun hh => Bool.noConfusion (hh.symm.trans (notT hc899)))] at hm
   refine c_sr ?_
   refine t_as rfl rfl ?_
   refine t_ne ?_
   refine c_ret ?_
   refine x_then_ret ?_
   obtain rfl := some1 hm
   exact retM (rs := [.tmp 4]) [.bool (false)] (Base.Le.refl _) (by decide) rfl ⟨rfl, trivial⟩ rfl (.cons _ (.refl _)) ⟨rfl, rfl⟩
  ·
   rw [if_pos (notF hc899)] at hm
   refine c_skip ?_
   refine x_then_normal ?_
   refine c_seq ?_
   refine c_sr ?_
   obtain ⟨x900, hcl901, hm⟩ := bindS hm
   refine t_do rfl (u_callW0 _ call18 rfl (fun w ho => cFishkeep2Rounds _ [] x900 hcl901) (fun _ _ _ h => h.2.symm)) ?_
   rintro _ _ ⟨⟨_, rfl, _⟩, rfl⟩
   refine t_st rfl (st_not rfl) ?_
   refine t_ne ?_
   refine c_cond _ rfl (fun hc902 => ?_) (fun hc902 => ?_)
   ·
    rw [if_neg (fun hh => Bool.noConfusion (hh.symm.trans (notT hc902)))] at hm
    refine c_sr ?_
    refine t_as rfl rfl ?_
    refine t_ne ?_
    refine c_ret ?_
    refine x_then_ret ?_
    obtain rfl := some1 hm
    exact retM (rs := [.tmp 4]) [.bool (false)] (Base.Le.refl _) (by decide) rfl ⟨rfl, trivial⟩ rfl (.cons _ (.refl _)) ⟨rfl, rfl⟩
   ·
    rw [if_pos (notF hc902)] at hm
    refine c_skip ?_
    refine x_then_normal ?_
    refine c_seq ?_
    obtain ⟨x908, hj909, hk909⟩ := bindS hm
    refine c_join (fun b906 e' hp' => [(1, .slice A8 (l11).length c9), (2, .pointer (some ⟨g896, 0, none⟩)), (35, .bool (x908))] = e' ∧ (g896, Cl 54 [.int .i64 (s1.Period), .slice A2 (s1.Plan).length c3, .slice A5 (s1.Links).length c6]) :: R = hp' ∧ b.Le b906) ?_ ?_
    ·
     have hm := hj909
     refine c_region ?_
     refine t_st rfl (st_loadD (vs := [_, _, _]) 0 3 rfl agg54 rfl rfl rfl) ?_
     obtain ⟨x910, hcl911, hm⟩ := bindS hm
     refine t_do rfl (u_callW0 _ call24 rfl (fun w ho => cFishref2RoundFault _ [] s1 A2 c3 A5 c6 (h4.old ho) (h7.old ho) x910 hcl911) (fun _ _ _ h => h.2.symm)) ?_
     rintro _ _ ⟨⟨_, rfl, _⟩, rfl⟩
     refine t_bool rfl (st_neq rfl rfl) (fun hc912 => ?_) (fun hc912 => ?_)
     ·
      rw [if_pos hc912] at hm
      refine t_mv rfl rfl ?_
      refine t_no 31 rfl rfl rfl rfl rfl ?_
      refine t_no 31 rfl rfl rfl rfl rfl ?_
      refine t_no 31 rfl rfl rfl rfl rfl ?_
      refine t_st rfl (st_pick_t rfl rfl) ?_
      refine t_nil ?_
      obtain rfl := some1 hm
      exact x_join (e' := [(1, .slice A8 (l11).length c9), (2, .pointer (some ⟨g896, 0, none⟩)), (35, .bool (true))]) ⟨rfl, rfl, rfl, trivial⟩ (.refl _) ⟨rfl, rfl, (Base.Le.refl _)⟩
     ·
      rw [if_neg hc912] at hm
      refine t_mv rfl rfl ?_
      refine t_yes 31 rfl rfl rfl ?_
      refine t_mv rfl rfl ?_
      refine t_yes 31 rfl rfl rfl ?_
      refine t_st rfl (st_len rfl sl55) ?_
      refine t_yes 31 rfl rfl rfl ?_
      refine t_st rfl (st_gtr rfl rfl) ?_
      refine t_st rfl (st_pick_f rfl rfl) ?_
      refine t_nil ?_
      obtain rfl := some1 hm
      exact x_join (e' := [(1, .slice A8 (l11).length c9), (2, .pointer (some ⟨g896, 0, none⟩)), (35, .bool (decide (20 < (l11.length : Int))))]) ⟨rfl, rfl, rfl, trivial⟩ (.refl _) ⟨rfl, rfl, (Base.Le.refl _)⟩
    ·
     rintro b906 _ _ ⟨rfl, rfl, hle907⟩
     have hm := hk909
     refine c_cond _ rfl (fun hc913 => ?_) (fun hc913 => ?_)
     ·
      rw [if_pos hc913] at hm
      refine c_sr ?_
      refine t_as rfl rfl ?_
      refine t_ne ?_
      refine c_ret ?_
      refine x_then_ret ?_
      obtain rfl := some1 hm
      exact retM (rs := [.tmp 4]) [.bool (true)] hle907 (by decide) rfl ⟨rfl, trivial⟩ rfl (.cons _ (.refl _)) ⟨rfl, rfl⟩
     ·
      rw [if_neg (fun hh => Bool.noConfusion (hh.symm.trans hc913))] at hm
      refine c_skip ?_
      refine x_then_normal ?_
      refine c_sr ?_
      refine t_as rfl rfl ?_
      refine t_ne ?_
      refine c_sr ?_
      refine t_as rfl rfl ?_
      refine t_ne ?_
      refine c_seq ?_
      refine c_sr ?_
      refine t_mv rfl rfl ?_
      refine t_st rfl (st_len rfl sl55) ?_
      refine t_mv rfl rfl ?_
      refine t_ne ?_
      refine c_block ?_
      have hb915 : l11.length ≤ 9223372036854775807 := (FZ.bd (h10.le hle907))
      obtain ⟨⟨x987, l988⟩, hl990, hk991⟩ := bindS hm
      refine c_forS (fun k989 => unc2 fun x987 l988 => fun b980 e' hp' => ∃ (A984 : Option Addr), ∃ (c985 : Nat), ∃ (hs983 : Hp), [(2, .pointer (some ⟨g896, 0, none⟩)), (5, .int .i64 (x987)), (6, .slice A984 (l988).length c985), (36, .slice A8 (l11).length c9), (37, .int .i64 ((l11.length : Int))), (38, .int .i64 ((k989 : Int)))] = e' ∧ (g896, Cl 54 [.int .i64 (s1.Period), .slice A2 (s1.Plan).length c3, .slice A5 (s1.Links).length c6]) :: (hs983 ++ R) = hp' ∧ b906.Le b980 ∧ OS 58 (OT.fr rMendFirst) b980.w (.slice A984 l988.length c985) l988 hs983) hl990 (e' := [(2, .pointer (some ⟨g896, 0, none⟩)), (5, .int .i64 (0)), (6, .slice none 0 0), (36, .slice A8 (l11).length c9), (37, .int .i64 ((l11.length : Int))), (38, .int .i64 0)]) ⟨rfl, rfl, rfl, rfl, rfl, rfl, trivial⟩ (.refl _) ⟨none, 0, [], rfl, rfl, (Base.Le.refl _), OS.nil⟩ ?_ ?_
      ·
       rintro k989 ⟨x987, l988⟩ b980 _ _ oL914 hknL914 ⟨A984, c985, hs983, rfl, rfl, hle981, h986⟩ hstepL914
       unfold mFishkeep2MendDies_L914 at hstepL914
       have hm := (unc2E hstepL914)
       refine c_sr ?_
       refine t_st rfl (st_lss_t rfl rfl (by omega)) ?_
       refine t_ne ?_
       refine c_seq ?_
       refine c_cond_t rfl ?_
       refine c_skip ?_
       refine x_then_normal ?_
       refine c_seq ?_
       refine c_block ?_
       refine c_sr ?_
       obtain ⟨x992, h993, hm⟩ := bindS hm
       obtain ⟨j994, hj995, hx996⟩ := idx_some h993
       obtain ⟨cs997, hr998, hcs999, hA1000, hlt1001⟩ := FZ.get (sz := 3) rfl (by decide) (h10.le (hle907.trans hle981)) hx996
       obtain ⟨_, _, rfl, rfl, ⟨_, _, rfl, rfl, rfl⟩⟩ := hr998
       refine t_st rfl (st_index_old j994 rfl rfl hj995 hlt1001 hA1000 sl55) ?_
       refine t_st rfl (st_loadN_old (vs := [.int .i64 (x992.Event), .int .i64 (x992.Period), .int .i64 (x992.Secs)]) 3 rfl agg58 hA1000 rfl (fun j u hu => hcs999 j u hu)) ?_
       refine t_do rfl (u_alloc [.int .i64 0, .int .i64 0, .int .i64 0] zero58 rfl) ?_
       rintro _ _ ⟨g1002, rfl, rfl⟩
       refine t_do rfl (u_storeN (vs := [_, _, _]) 0 3 rfl rfl rfl siz58 rfl (mem_c rfl (mem_c rfl (mem_c rfl mem_n))) rfl (by simp)) ?_
       rintro _ _ rfl
       refine t_ne ?_
       obtain ⟨x1008, hj1009, hk1009⟩ := bindS hm
       refine c_join (fun b1006 e' hp' => [(2, .pointer (some ⟨g896, 0, none⟩)), (5, .int .i64 (x987)), (6, .slice A984 (l988).length c985), (8, .pointer (some ⟨g1002, 0, none⟩)), (36, .slice A8 (l11).length c9), (37, .int .i64 ((l11.length : Int))), (38, .int .i64 ((k989 : Int))), (62, .bool (x1008))] = e' ∧ (g896, Cl 54 [.int .i64 (s1.Period), .slice A2 (s1.Plan).length c3, .slice A5 (s1.Links).length c6]) :: (g1002, Cl 58 [.int .i64 (x992.Event), .int .i64 (x992.Period), .int .i64 (x992.Secs)]) :: (hs983 ++ R) = hp' ∧ b980.Le b1006) ?_ ?_
       ·
        have hm := hj1009
        refine c_region ?_
        refine t_st rfl (st_field rfl fld58_0) ?_
        refine t_st rfl (st_load 0 rfl one3 rfl rfl) ?_
        refine t_bool rfl (st_geq rfl rfl) (fun hc1010 => ?_) (fun hc1010 => ?_)
        ·
         rw [if_pos hc1010] at hm
         refine t_mv rfl rfl ?_
         refine t_yes 45 rfl rfl rfl ?_
         refine t_st rfl (st_field rfl fld58_0) ?_
         refine t_yes 45 rfl rfl rfl ?_
         refine t_st rfl (st_load 0 rfl one3 rfl rfl) ?_
         refine t_yes 45 rfl rfl rfl ?_
         refine t_st rfl (st_field rfl fld54_1) ?_
         refine t_yes 45 rfl rfl rfl ?_
         refine t_st rfl (st_load 1 rfl one22 rfl rfl) ?_
         refine t_yes 45 rfl rfl rfl ?_
         refine t_st rfl (st_len rfl sl22) ?_
         refine t_yes 45 rfl rfl rfl ?_
         refine t_bool rfl (st_lss rfl rfl) (fun hc1011 => ?_) (fun hc1011 => ?_)
         ·
          rw [if_pos hc1011] at hm
          refine t_st rfl (st_pick_t rfl rfl) ?_
          refine t_mv rfl rfl ?_
          refine t_yes 53 rfl rfl rfl ?_
          refine t_st rfl (st_field rfl fld58_2) ?_
          refine t_yes 53 rfl rfl rfl ?_
          refine t_st rfl (st_load 0 rfl one3 rfl rfl) ?_
          refine t_yes 53 rfl rfl rfl ?_
          refine t_bool rfl (st_geq rfl rfl) (fun hc1012 => ?_) (fun hc1012 => ?_)
          ·
           rw [if_pos hc1012] at hm
           refine t_st rfl (st_pick_t rfl rfl) ?_
           refine t_mv rfl rfl ?_
           refine t_yes 58 rfl rfl rfl ?_
           refine t_st rfl (st_field rfl fld58_2) ?_
           refine t_yes 58 rfl rfl rfl ?_
           refine t_st rfl (st_load 0 rfl one3 rfl rfl) ?_
           refine t_yes 58 rfl rfl rfl ?_
           refine t_st rfl (st_leq rfl rfl) ?_
           refine t_st rfl (st_pick_t rfl rfl) ?_
           refine t_nil ?_
           obtain rfl := some1 hm
           refine x_pullb 1 rfl ?_
           exact x_join (e' := [(2, .pointer (some ⟨g896, 0, none⟩)), (5, .int .i64 (x987)), (6, .slice A984 (l988).length c985), (8, .pointer (some ⟨g1002, 0, none⟩)), (36, .slice A8 (l11).length c9), (37, .int .i64 ((l11.length : Int))), (38, .int .i64 ((k989 : Int))), (62, .bool (decide (x992.Secs ≤ 28800)))]) ⟨rfl, rfl, rfl, rfl, rfl, rfl, rfl, rfl, trivial⟩ (.refl _) ⟨rfl, rfl, (Base.Le.refl _)⟩
          ·
           rw [if_neg hc1012] at hm
           refine t_st rfl (st_pick_t rfl rfl) ?_
           refine t_mv rfl rfl ?_
           refine t_no 58 rfl rfl rfl rfl rfl ?_
           refine t_no 58 rfl rfl rfl rfl rfl ?_
           refine t_no 58 rfl rfl rfl rfl rfl ?_
           refine t_st rfl (st_pick_f rfl rfl) ?_
           refine t_nil ?_
           obtain rfl := some1 hm
           refine x_pullb 1 rfl ?_
           exact x_join (e' := [(2, .pointer (some ⟨g896, 0, none⟩)), (5, .int .i64 (x987)), (6, .slice A984 (l988).length c985), (8, .pointer (some ⟨g1002, 0, none⟩)), (36, .slice A8 (l11).length c9), (37, .int .i64 ((l11.length : Int))), (38, .int .i64 ((k989 : Int))), (62, .bool (false))]) ⟨rfl, rfl, rfl, rfl, rfl, rfl, rfl, rfl, trivial⟩ (.refl _) ⟨rfl, rfl, (Base.Le.refl _)⟩
         ·
          rw [if_neg hc1011] at hm
          refine t_st rfl (st_pick_t rfl rfl) ?_
          refine t_mv rfl rfl ?_
          refine t_no 53 rfl rfl rfl rfl rfl ?_
          refine t_no 53 rfl rfl rfl rfl rfl ?_
          refine t_no 53 rfl rfl rfl rfl rfl ?_
          refine t_st rfl (st_pick_f rfl rfl) ?_
          refine t_mv rfl rfl ?_
          refine t_no 58 rfl rfl rfl rfl rfl ?_
          refine t_no 58 rfl rfl rfl rfl rfl ?_
          refine t_no 58 rfl rfl rfl rfl rfl ?_
          refine t_st rfl (st_pick_f rfl rfl) ?_
          refine t_nil ?_
          obtain rfl := some1 hm
          refine x_pullb 1 rfl ?_
          exact x_join (e' := [(2, .pointer (some ⟨g896, 0, none⟩)), (5, .int .i64 (x987)), (6, .slice A984 (l988).length c985), (8, .pointer (some ⟨g1002, 0, none⟩)), (36, .slice A8 (l11).length c9), (37, .int .i64 ((l11.length : Int))), (38, .int .i64 ((k989 : Int))), (62, .bool (false))]) ⟨rfl, rfl, rfl, rfl, rfl, rfl, rfl, rfl, trivial⟩ (.refl _) ⟨rfl, rfl, (Base.Le.refl _)⟩
        ·
         rw [if_neg hc1010] at hm
         refine t_mv rfl rfl ?_
         refine t_no 45 rfl rfl rfl rfl rfl ?_
         refine t_no 45 rfl rfl rfl rfl rfl ?_
         refine t_no 45 rfl rfl rfl rfl rfl ?_
         refine t_no 45 rfl rfl rfl rfl rfl ?_
         refine t_no 45 rfl rfl rfl rfl rfl ?_
         refine t_no 45 rfl rfl rfl rfl rfl ?_
         refine t_st rfl (st_pick_f rfl rfl) ?_
         refine t_mv rfl rfl ?_
         refine t_no 53 rfl rfl rfl rfl rfl ?_
         refine t_no 53 rfl rfl rfl rfl rfl ?_
         refine t_no 53 rfl rfl rfl rfl rfl ?_
         refine t_st rfl (st_pick_f rfl rfl) ?_
         refine t_mv rfl rfl ?_
         refine t_no 58 rfl rfl rfl rfl rfl ?_
         refine t_no 58 rfl rfl rfl rfl rfl ?_
         refine t_no 58 rfl rfl rfl rfl rfl ?_
         refine t_st rfl (st_pick_f rfl rfl) ?_
         refine t_nil ?_
         obtain rfl := some1 hm
         refine x_pullb 1 rfl ?_
         exact x_join (e' := [(2, .pointer (some ⟨g896, 0, none⟩)), (5, .int .i64 (x987)), (6, .slice A984 (l988).length c985), (8, .pointer (some ⟨g1002, 0, none⟩)), (36, .slice A8 (l11).length c9), (37, .int .i64 ((l11.length : Int))), (38, .int .i64 ((k989 : Int))), (62, .bool (false))]) ⟨rfl, rfl, rfl, rfl, rfl, rfl, rfl, rfl, trivial⟩ (.refl _) ⟨rfl, rfl, (Base.Le.refl _)⟩
       ·
        rintro b1006 _ _ ⟨rfl, rfl, hle1007⟩
        have hm := hk1009
        refine c_cond _ rfl (fun hc1013 => ?_) (fun hc1013 => ?_)
        ·
         rw [if_pos hc1013] at hm
         refine c_sr ?_
         refine t_mv rfl rfl ?_
         refine t_st rfl (st_field rfl fld58_0) ?_
         refine t_st rfl (st_load 1 rfl one3 rfl rfl) ?_
         refine t_st rfl (st_field rfl fld58_2) ?_
         refine t_st rfl (st_load 1 rfl one3 rfl rfl) ?_
         refine t_st rfl (st_build (v := .agg #[.int .i64 (x992.Event), .int .i64 (0), .int .i64 (x992.Secs)]) [(0, .int .i64 (x992.Event)), (2, .int .i64 (x992.Secs))] rfl (fun _ => by kernel_rfl)) ?_
         refine t_do rfl (u_bslice (el := 58) [(0, .agg #[.int .i64 (x992.Event), .int .i64 (0), .int .i64 (x992.Secs)])] [.int .i64 (x992.Event), .int .i64 (0), .int .i64 (x992.Secs)] rfl (fun _ => by kernel_rfl)) ?_
         rintro _ _ ⟨g1014, rfl, rfl⟩
         obtain ⟨_, h1015, hm⟩ := bindS hm
         have h1015 := room_some h1015
         refine t_do rfl (u_appOS (r := rMendFirst) (l := l988) [_, _, _] R [[.int .i64 (x992.Event), .int .i64 (0), .int .i64 (x992.Secs)]] [(⟨x992.Event, 0, x992.Secs⟩ : MendFirst)] rfl (by decide) sl55 inf58 rfl rfl rfl rfl (h986.le hle1007) rfl (fun w ho => Rd.own (i := 0) ho rfl) ⟨⟨[.int .i64 (x992.Event)], _, rfl, rfl, ⟨[.int .i64 (0)], _, rfl, rfl, rfl⟩⟩, trivial⟩ h1015) ?_
         rintro _ _ ⟨hs1016, rfl, h1017⟩
         obtain ⟨A1018, c1019, rfl, _⟩ := h1017.form
         refine t_as rfl rfl ?_
         refine t_ne ?_
         refine c_region ?_
         refine t_mv rfl rfl ?_
         refine t_st rfl (st_field rfl fld58_2) ?_
         refine t_st rfl (st_load 2 rfl one3 rfl rfl) ?_
         refine t_st rfl (st_max rfl rfl) ?_
         refine t_as rfl rfl ?_
         refine t_nil ?_
         refine x_block_normal ?_
         refine x_then_normal ?_
         refine c_region ?_
         refine t_st rfl (st_add rfl rfl (by omega)) ?_
         refine t_mv rfl rfl ?_
         refine t_nil ?_
         refine x_pullb 1 rfl ?_
         obtain rfl := some1 hm
         exact x_againS (e' := [(2, .pointer (some ⟨g896, 0, none⟩)), (5, .int .i64 (max x987 x992.Secs)), (6, .slice A1018 (l988 ++ [(⟨x992.Event, 0, x992.Secs⟩ : MendFirst)]).length c1019), (36, .slice A8 (l11).length c9), (37, .int .i64 ((l11.length : Int))), (38, .int .i64 ((k989 : Int) + 1))]) ⟨rfl, rfl, rfl, rfl, rfl, rfl, trivial⟩ (.cons_cons _ (.cons _ (.cons _ (.refl _)))) ⟨A1018, c1019, hs1016, rfl, rfl, ((hle981.trans hle1007)), h1017⟩
        ·
         rw [if_neg (fun hh => Bool.noConfusion (hh.symm.trans hc1013))] at hm
         refine c_skip ?_
         refine x_block_normal ?_
         refine x_then_normal ?_
         refine c_region ?_
         refine t_st rfl (st_add rfl rfl (by omega)) ?_
         refine t_mv rfl rfl ?_
         refine t_nil ?_
         obtain rfl := some1 hm
         exact x_againS (e' := [(2, .pointer (some ⟨g896, 0, none⟩)), (5, .int .i64 (x987)), (6, .slice A984 (l988).length c985), (36, .slice A8 (l11).length c9), (37, .int .i64 ((l11.length : Int))), (38, .int .i64 ((k989 : Int) + 1))]) ⟨rfl, rfl, rfl, rfl, rfl, rfl, trivial⟩ (.cons_cons _ (.cons _ (.refl _))) ⟨A984, c985, hs983, rfl, rfl, ((hle981.trans hle1007)), (h986.le hle1007)⟩
      ·
       rintro b980 _ _ ⟨A984, c985, hs983, rfl, rfl, hle981, h986⟩
       have hm := (unc2E hk991)
       refine c_sr ?_
       refine t_st rfl (st_lss_f rfl rfl (by omega)) ?_
       refine t_ne ?_
       refine c_seq ?_
       refine c_cond_f rfl ?_
       refine c_exit ?_
       refine x_then_exit ?_
       refine x_then_exit ?_
       refine x_block_out ?_
       refine x_then_normal ?_
       refine c_sr ?_
       refine t_st rfl (st_loadD (vs := [_, _, _]) 0 3 rfl agg54 rfl rfl rfl) ?_
       obtain ⟨⟨x1020, x1021⟩, hcl1022, hm⟩ := bindS hm
       have hm := (unc2E hm)
       refine t_do rfl (u_callW0 _ call25 rfl (fun w ho => cMendStable _ [] s1 A2 c3 A5 c6 ((h4.le (hle907.trans hle981)).old ho) ((h7.le (hle907.trans hle981)).old ho) x1020 x1021 hcl1022) (fun _ _ _ h => h.2.symm)) ?_
       rintro _ _ ⟨⟨_, rfl, _⟩, rfl⟩
       refine t_mv rfl rfl ?_
       refine t_st rfl (st_extract rfl rfl) ?_
       refine t_st rfl (st_extract rfl rfl) ?_
       refine t_as rfl rfl ?_
       refine t_as rfl rfl ?_
       refine t_ne ?_
       refine c_sr ?_
       refine t_st rfl (st_loadD (vs := [_, _, _]) 0 3 rfl agg54 rfl rfl rfl) ?_
       refine t_mv rfl rfl ?_
       obtain ⟨⟨x1023, x1024⟩, hcl1025, hm⟩ := bindS hm
       have hm := (unc2E hm)
       refine t_do rfl (u_callW0 _ call26 rfl (fun w ho => cMendSettles _ [] s1 x987 A2 c3 A5 c6 ((h4.le (hle907.trans hle981)).old ho) ((h7.le (hle907.trans hle981)).old ho) x1023 x1024 hcl1025) (fun _ _ _ h => h.2.symm)) ?_
       rintro _ _ ⟨⟨_, rfl, _⟩, rfl⟩
       refine t_mv rfl rfl ?_
       refine t_st rfl (st_extract rfl rfl) ?_
       refine t_st rfl (st_extract rfl rfl) ?_
       refine t_as rfl rfl ?_
       refine t_as rfl rfl ?_
       refine t_ne ?_
       refine c_seq ?_
       obtain ⟨x1030, hj1031, hk1031⟩ := bindS hm
       refine c_join (fun b1028 e' hp' => [(2, .pointer (some ⟨g896, 0, none⟩)), (5, .int .i64 (x987)), (6, .slice A984 (l988).length c985), (11, .int .i64 (x1023)), (12, .int .i64 (x1024)), (98, .bool (x1030))] = e' ∧ (g896, Cl 54 [.int .i64 (s1.Period), .slice A2 (s1.Plan).length c3, .slice A5 (s1.Links).length c6]) :: (hs983 ++ R) = hp' ∧ b980.Le b1028) ?_ ?_
       ·
        have hm := hj1031
        refine c_region ?_
        refine t_mv rfl rfl ?_
        refine t_bool rfl (st_neq rfl rfl) (fun hc1032 => ?_) (fun hc1032 => ?_)
        ·
         rw [if_pos hc1032] at hm
         refine t_mv rfl rfl ?_
         refine t_no 89 rfl rfl rfl rfl rfl ?_
         refine t_no 89 rfl rfl rfl rfl rfl ?_
         refine t_no 89 rfl rfl rfl rfl rfl ?_
         refine t_no 89 rfl rfl rfl rfl rfl ?_
         refine t_no 93 rfl rfl rfl rfl rfl ?_
         refine t_no 93 rfl rfl rfl rfl rfl ?_
         refine t_no 89 rfl rfl rfl rfl rfl ?_
         refine t_no 89 rfl rfl rfl rfl rfl ?_
         refine t_st rfl (st_pick_t rfl rfl) ?_
         refine t_nil ?_
         obtain rfl := some1 hm
         exact x_join (e' := [(2, .pointer (some ⟨g896, 0, none⟩)), (5, .int .i64 (x987)), (6, .slice A984 (l988).length c985), (11, .int .i64 (x1023)), (12, .int .i64 (x1024)), (98, .bool (true))]) ⟨rfl, rfl, rfl, rfl, rfl, rfl, trivial⟩ (.refl _) ⟨rfl, rfl, (Base.Le.refl _)⟩
        ·
         rw [if_neg hc1032] at hm
         refine t_mv rfl rfl ?_
         refine t_yes 89 rfl rfl rfl ?_
         refine t_mv rfl rfl ?_
         refine t_yes 89 rfl rfl rfl ?_
         refine t_st rfl (st_eql rfl rfl) ?_
         refine t_yes 89 rfl rfl rfl ?_
         refine t_mv rfl rfl ?_
         rcases Bool.eq_false_or_eq_true x1020 with hc1033 | hc1033
         ·
          rw [if_pos hc1033] at hm
          refine t_resp 92 rfl (v' := .bool true) (by rw [hc1033] <;> rfl) ?_
          refine t_yes 89 rfl rfl rfl ?_
          refine t_mv rfl rfl ?_
          refine t_no 93 rfl rfl rfl rfl rfl ?_
          refine t_no 93 rfl rfl rfl rfl rfl ?_
          refine t_yes 89 rfl rfl rfl ?_
          refine t_st rfl (st_pick_t rfl rfl) ?_
          refine t_yes 89 rfl rfl rfl ?_
          refine t_st rfl (st_bneq rfl rfl boo4) ?_
          refine t_st rfl (st_pick_f rfl rfl) ?_
          refine t_nil ?_
          obtain rfl := some1 hm
          exact x_join (e' := [(2, .pointer (some ⟨g896, 0, none⟩)), (5, .int .i64 (x987)), (6, .slice A984 (l988).length c985), (11, .int .i64 (x1023)), (12, .int .i64 (x1024)), (98, .bool (decide ((decide (x1024 = 0)) ≠ true)))]) ⟨rfl, rfl, rfl, rfl, rfl, rfl, trivial⟩ (.refl _) ⟨rfl, rfl, (Base.Le.refl _)⟩
         ·
          rw [if_neg (fun hh => Bool.noConfusion (hh.symm.trans hc1033))] at hm
          refine t_resp 92 rfl (v' := .bool false) (by rw [hc1033] <;> rfl) ?_
          refine t_yes 89 rfl rfl rfl ?_
          refine t_mv rfl rfl ?_
          refine t_yes 93 rfl rfl rfl ?_
          refine t_mv rfl rfl ?_
          refine t_yes 93 rfl rfl rfl ?_
          refine t_st rfl (st_eql rfl rfl) ?_
          refine t_yes 89 rfl rfl rfl ?_
          refine t_st rfl (st_pick_f rfl rfl) ?_
          refine t_yes 89 rfl rfl rfl ?_
          refine t_st rfl (st_bneq rfl rfl boo4) ?_
          refine t_st rfl (st_pick_f rfl rfl) ?_
          refine t_nil ?_
          obtain rfl := some1 hm
          exact x_join (e' := [(2, .pointer (some ⟨g896, 0, none⟩)), (5, .int .i64 (x987)), (6, .slice A984 (l988).length c985), (11, .int .i64 (x1023)), (12, .int .i64 (x1024)), (98, .bool (decide ((decide (x1024 = 0)) ≠ (decide (x987 = 0)))))]) ⟨rfl, rfl, rfl, rfl, rfl, rfl, trivial⟩ (.refl _) ⟨rfl, rfl, (Base.Le.refl _)⟩
       ·
        rintro b1028 _ _ ⟨rfl, rfl, hle1029⟩
        have hm := hk1031
        refine c_cond _ rfl (fun hc1034 => ?_) (fun hc1034 => ?_)
        ·
         rw [if_pos hc1034] at hm
         refine c_sr ?_
         refine t_as rfl rfl ?_
         refine t_ne ?_
         refine c_ret ?_
         refine x_then_ret ?_
         obtain rfl := some1 hm
         exact retM (rs := [.tmp 4]) [.bool (false)] (hle907.trans (hle981.trans hle1029)) (by decide) rfl ⟨rfl, trivial⟩ rfl (.cons _ (sub_skip hs983 (.refl _))) ⟨rfl, rfl⟩
        ·
         rw [if_neg (fun hh => Bool.noConfusion (hh.symm.trans hc1034))] at hm
         refine c_skip ?_
         refine x_then_normal ?_
         refine c_sr ?_
         refine t_st rfl (st_loadD (vs := [_, _, _]) 0 3 rfl agg54 rfl rfl rfl) ?_
         refine t_mv rfl rfl ?_
         refine t_frz [_] hs983 R rfl ?_
         intro b1035 hle1036 hz1037
         have h1038 := OS.frz (l := l988) (h986.le hle1029) hle1036.cells hz1037
         obtain ⟨⟨x1039, l1040⟩, hcl1041, hm⟩ := bindS hm
         have hm := (unc2E hm)
         refine t_callG _ rfl call27 rfl (cMendSpread _ _ s1 l988 60 A2 c3 A5 c6 A984 c985 (h4.le (hle907.trans (hle981.trans (hle1029.trans hle1036)))) (h7.le (hle907.trans (hle981.trans (hle1029.trans hle1036)))) h1038 x1039 l1040 hcl1041) ?_
         rintro _ b1042 _ hle1043 ⟨A1044, c1045, hs1046, rfl, rfl, h1047⟩
         refine t_in1 [] [_] hs1046 R rfl ?_
         refine t_mv rfl rfl ?_
         refine t_st rfl (st_extract rfl rfl) ?_
         refine t_st rfl (st_extract rfl rfl) ?_
         refine t_as rfl rfl ?_
         refine t_as rfl rfl ?_
         refine t_ne ?_
         refine c_sr ?_
         refine t_st rfl (st_loadD (vs := [_, _, _]) 0 3 rfl agg54 rfl rfl rfl) ?_
         obtain ⟨⟨x1048, l1049⟩, hcl1050, hm⟩ := bindS hm
         have hm := (unc2E hm)
         refine t_callG _ rfl call28 rfl (cMendRoom _ _ s1 A2 c3 A5 c6 (h4.le (hle907.trans (hle981.trans (hle1029.trans (hle1036.trans hle1043))))) (h7.le (hle907.trans (hle981.trans (hle1029.trans (hle1036.trans hle1043))))) x1048 l1049 hcl1050) ?_
         rintro _ b1051 _ hle1052 ⟨A1053, c1054, hs1055, rfl, rfl, h1056⟩
         refine t_in1 [] [_] hs1055 (hs1046 ++ R) rfl ?_
         refine t_mv rfl rfl ?_
         refine t_st rfl (st_extract rfl rfl) ?_
         refine t_st rfl (st_extract rfl rfl) ?_
         refine t_frz [_] hs1055 (hs1046 ++ R) rfl ?_
         intro b1057 hle1058 hz1059
         have h1060 := OS.frz (l := l1049) h1056 hle1058.cells hz1059
         refine t_as rfl rfl ?_
         refine t_as rfl rfl ?_
         refine t_ne ?_
         refine c_seq ?_
         obtain ⟨⟨l1110, x1111⟩, hj1112, hk1112⟩ := bindS hm
         refine c_join (fun b1105 e' hp' => ∃ (A1107 : Option Addr), ∃ (c1108 : Nat), [(5, .int .i64 (x987)), (6, .slice A984 (l988).length c985), (11, .int .i64 (x1023)), (12, .int .i64 (x1024)), (13, .slice A1107 (l1110).length c1108), (14, .slice A1053 (l1049).length c1054), (136, .bool (x1111))] = e' ∧ R = hp' ∧ b1057.Le b1105 ∧ FZ (RT.list (RT.int .i64)) b1105.w A1107 c1108 l1110) ?_ ?_
         ·
          have hm := hj1112
          refine c_region ?_
          refine t_mv rfl rfl ?_
          refine t_bool rfl (st_neq rfl rfl) (fun hc1113 => ?_) (fun hc1113 => ?_)
          ·
           rw [if_pos hc1113] at hm
           refine t_mv rfl rfl ?_
           refine t_no 112 rfl rfl rfl rfl rfl ?_
           refine t_no 112 rfl rfl rfl rfl rfl ?_
           refine t_st rfl (st_pick_t rfl rfl) ?_
           refine t_mv rfl rfl ?_
           refine t_no 116 rfl rfl rfl rfl rfl ?_
           refine t_no 116 rfl rfl rfl rfl rfl ?_
           refine t_no 116 rfl rfl rfl rfl rfl ?_
           refine t_st rfl (st_pick_t rfl rfl) ?_
           refine t_mv rfl rfl ?_
           refine t_no 121 rfl rfl rfl rfl rfl ?_
           refine t_no 121 rfl rfl rfl rfl rfl ?_
           refine t_no 121 rfl rfl rfl rfl rfl ?_
           refine t_no 121 rfl rfl rfl rfl rfl ?_
           refine t_no 121 rfl rfl rfl rfl rfl ?_
           refine t_no 121 rfl rfl rfl rfl rfl ?_
           refine t_st rfl (st_pick_t rfl rfl) ?_
           refine t_mv rfl rfl ?_
           refine t_no 129 rfl rfl rfl rfl rfl ?_
           refine t_no 129 rfl rfl rfl rfl rfl ?_
           refine t_no 129 rfl rfl rfl rfl rfl ?_
           refine t_no 129 rfl rfl rfl rfl rfl ?_
           refine t_no 129 rfl rfl rfl rfl rfl ?_
           refine t_no 129 rfl rfl rfl rfl rfl ?_
           refine t_st rfl (st_pick_t rfl rfl) ?_
           refine t_nil ?_
           refine x_frz [_] hs1046 R rfl ?_
           intro b1114 hle1115 hz1116
           have h1117 := OS.frz (l := l1040) (h1047.le (hle1052.trans hle1058)) hle1115.cells hz1116
           obtain ⟨rfl, rfl⟩ := some2 hm
           exact x_join (e' := [(5, .int .i64 (x987)), (6, .slice A984 (l988).length c985), (11, .int .i64 (x1023)), (12, .int .i64 (x1024)), (13, .slice A1044 (l1040).length c1045), (14, .slice A1053 (l1049).length c1054), (136, .bool (true))]) ⟨rfl, rfl, rfl, rfl, rfl, rfl, rfl, trivial⟩ (.cons _ (.refl _)) ⟨A1044, c1045, rfl, rfl, hle1115, h1117⟩
          ·
           rw [if_neg hc1113] at hm
           refine t_mv rfl rfl ?_
           refine t_yes 112 rfl rfl rfl ?_
           refine t_mv rfl rfl ?_
           refine t_yes 112 rfl rfl rfl ?_
           refine t_bool rfl (st_neq rfl rfl) (fun hc1118 => ?_) (fun hc1118 => ?_)
           ·
            rw [if_pos hc1118] at hm
            refine t_st rfl (st_pick_f rfl rfl) ?_
            refine t_mv rfl rfl ?_
            refine t_no 116 rfl rfl rfl rfl rfl ?_
            refine t_no 116 rfl rfl rfl rfl rfl ?_
            refine t_no 116 rfl rfl rfl rfl rfl ?_
            refine t_st rfl (st_pick_t rfl rfl) ?_
            refine t_mv rfl rfl ?_
            refine t_no 121 rfl rfl rfl rfl rfl ?_
            refine t_no 121 rfl rfl rfl rfl rfl ?_
            refine t_no 121 rfl rfl rfl rfl rfl ?_
            refine t_no 121 rfl rfl rfl rfl rfl ?_
            refine t_no 121 rfl rfl rfl rfl rfl ?_
            refine t_no 121 rfl rfl rfl rfl rfl ?_
            refine t_st rfl (st_pick_t rfl rfl) ?_
            refine t_mv rfl rfl ?_
            refine t_no 129 rfl rfl rfl rfl rfl ?_
            refine t_no 129 rfl rfl rfl rfl rfl ?_
            refine t_no 129 rfl rfl rfl rfl rfl ?_
            refine t_no 129 rfl rfl rfl rfl rfl ?_
            refine t_no 129 rfl rfl rfl rfl rfl ?_
            refine t_no 129 rfl rfl rfl rfl rfl ?_
            refine t_st rfl (st_pick_t rfl rfl) ?_
            refine t_nil ?_
            refine x_frz [_] hs1046 R rfl ?_
            intro b1119 hle1120 hz1121
            have h1122 := OS.frz (l := l1040) (h1047.le (hle1052.trans hle1058)) hle1120.cells hz1121
            obtain ⟨rfl, rfl⟩ := some2 hm
            exact x_join (e' := [(5, .int .i64 (x987)), (6, .slice A984 (l988).length c985), (11, .int .i64 (x1023)), (12, .int .i64 (x1024)), (13, .slice A1044 (l1040).length c1045), (14, .slice A1053 (l1049).length c1054), (136, .bool (true))]) ⟨rfl, rfl, rfl, rfl, rfl, rfl, rfl, trivial⟩ (.cons _ (.refl _)) ⟨A1044, c1045, rfl, rfl, hle1120, h1122⟩
           ·
            rw [if_neg hc1118] at hm
            refine t_st rfl (st_pick_f rfl rfl) ?_
            refine t_mv rfl rfl ?_
            refine t_yes 116 rfl rfl rfl ?_
            refine t_mv rfl rfl ?_
            refine t_yes 116 rfl rfl rfl ?_
            refine t_st rfl (st_len rfl sl45) ?_
            refine t_yes 116 rfl rfl rfl ?_
            refine t_bool rfl (st_neq rfl rfl) (fun hc1123 => ?_) (fun hc1123 => ?_)
            ·
             rw [if_pos hc1123] at hm
             refine t_st rfl (st_pick_f rfl rfl) ?_
             refine t_mv rfl rfl ?_
             refine t_no 121 rfl rfl rfl rfl rfl ?_
             refine t_no 121 rfl rfl rfl rfl rfl ?_
             refine t_no 121 rfl rfl rfl rfl rfl ?_
             refine t_no 121 rfl rfl rfl rfl rfl ?_
             refine t_no 121 rfl rfl rfl rfl rfl ?_
             refine t_no 121 rfl rfl rfl rfl rfl ?_
             refine t_st rfl (st_pick_t rfl rfl) ?_
             refine t_mv rfl rfl ?_
             refine t_no 129 rfl rfl rfl rfl rfl ?_
             refine t_no 129 rfl rfl rfl rfl rfl ?_
             refine t_no 129 rfl rfl rfl rfl rfl ?_
             refine t_no 129 rfl rfl rfl rfl rfl ?_
             refine t_no 129 rfl rfl rfl rfl rfl ?_
             refine t_no 129 rfl rfl rfl rfl rfl ?_
             refine t_st rfl (st_pick_t rfl rfl) ?_
             refine t_nil ?_
             refine x_frz [_] hs1046 R rfl ?_
             intro b1124 hle1125 hz1126
             have h1127 := OS.frz (l := l1040) (h1047.le (hle1052.trans hle1058)) hle1125.cells hz1126
             obtain ⟨rfl, rfl⟩ := some2 hm
             exact x_join (e' := [(5, .int .i64 (x987)), (6, .slice A984 (l988).length c985), (11, .int .i64 (x1023)), (12, .int .i64 (x1024)), (13, .slice A1044 (l1040).length c1045), (14, .slice A1053 (l1049).length c1054), (136, .bool (true))]) ⟨rfl, rfl, rfl, rfl, rfl, rfl, rfl, trivial⟩ (.cons _ (.refl _)) ⟨A1044, c1045, rfl, rfl, hle1125, h1127⟩
            ·
             rw [if_neg hc1123] at hm
             refine t_st rfl (st_pick_f rfl rfl) ?_
             refine t_mv rfl rfl ?_
             refine t_yes 121 rfl rfl rfl ?_
             refine t_mv rfl rfl ?_
             refine t_yes 121 rfl rfl rfl ?_
             refine t_st rfl (st_len rfl sl45) ?_
             refine t_yes 121 rfl rfl rfl ?_
             refine t_st rfl (st_field rfl fld54_1) ?_
             refine t_yes 121 rfl rfl rfl ?_
             refine t_st rfl (st_load 0 rfl one22 rfl rfl) ?_
             refine t_yes 121 rfl rfl rfl ?_
             refine t_st rfl (st_len rfl sl22) ?_
             refine t_yes 121 rfl rfl rfl ?_
             refine t_bool rfl (st_neq rfl rfl) (fun hc1128 => ?_) (fun hc1128 => ?_)
             ·
              rw [if_pos hc1128] at hm
              refine t_st rfl (st_pick_f rfl rfl) ?_
              refine t_mv rfl rfl ?_
              refine t_no 129 rfl rfl rfl rfl rfl ?_
              refine t_no 129 rfl rfl rfl rfl rfl ?_
              refine t_no 129 rfl rfl rfl rfl rfl ?_
              refine t_no 129 rfl rfl rfl rfl rfl ?_
              refine t_no 129 rfl rfl rfl rfl rfl ?_
              refine t_no 129 rfl rfl rfl rfl rfl ?_
              refine t_st rfl (st_pick_t rfl rfl) ?_
              refine t_nil ?_
              refine x_frz [_] hs1046 R rfl ?_
              intro b1129 hle1130 hz1131
              have h1132 := OS.frz (l := l1040) (h1047.le (hle1052.trans hle1058)) hle1130.cells hz1131
              obtain ⟨rfl, rfl⟩ := some2 hm
              exact x_join (e' := [(5, .int .i64 (x987)), (6, .slice A984 (l988).length c985), (11, .int .i64 (x1023)), (12, .int .i64 (x1024)), (13, .slice A1044 (l1040).length c1045), (14, .slice A1053 (l1049).length c1054), (136, .bool (true))]) ⟨rfl, rfl, rfl, rfl, rfl, rfl, rfl, trivial⟩ (.cons _ (.refl _)) ⟨A1044, c1045, rfl, rfl, hle1130, h1132⟩
             ·
              rw [if_neg hc1128] at hm
              refine t_st rfl (st_pick_f rfl rfl) ?_
              refine t_mv rfl rfl ?_
              refine t_yes 129 rfl rfl rfl ?_
              refine t_mv rfl rfl ?_
              refine t_yes 129 rfl rfl rfl ?_
              refine t_mv rfl rfl ?_
              refine t_yes 129 rfl rfl rfl ?_
              refine t_do rfl (u_bslice (el := 45) [(0, .slice A1044 (l1040).length c1045), (1, .slice A1053 (l1049).length c1054)] [.slice A1044 (l1040).length c1045, .slice A1053 (l1049).length c1054] rfl (fun _ => by kernel_rfl)) ?_
              rintro _ _ ⟨g1133, rfl, rfl⟩
              refine t_yes 129 rfl rfl rfl ?_
              refine t_frz [_, _] hs1046 R rfl ?_
              intro b1134 hle1135 hz1136
              have h1137 := OS.frz (l := l1040) (h1047.le (hle1052.trans hle1058)) hle1135.cells hz1136
              refine t_seg 0 [_] R rfl rfl ?_
              have h1139 : OS 45 (OT.fr (RT.list (RT.list (RT.int .i64)))) b1134.w (.slice (some ⟨g1133, 0, none⟩) 2 2) [l1040, l1049] [(g1133, Cl 45 [.slice A1044 (l1040).length c1045, .slice A1053 (l1049).length c1054])] := OS.lit [[.slice A1044 (l1040).length c1045], [.slice A1053 (l1049).length c1054]] rfl ⟨(RT.list_mk h1137), ⟨(RT.list_mk (h1060.le hle1135)), trivial⟩⟩ rfl (by decide)
              have hnz1140 : (((some ⟨g1133, 0, none⟩) : Option Addr) = none ↔ [l1040, l1049] = []) := ⟨nofun, nofun⟩
              refine t_frz [_] [(g1133, Cl 45 [.slice A1044 (l1040).length c1045, .slice A1053 (l1049).length c1054])] R rfl ?_
              intro b1141 hle1142 hz1143
              have h1144 := OS.frz (l := [l1040, l1049]) h1139 hle1142.cells hz1143
              obtain ⟨l1145, hcl1146, hm⟩ := bindS hm
              refine t_callG _ rfl call30 rfl (cSlicesConcat _ _ [l1040, l1049] (some ⟨g1133, 0, none⟩) 2 h1144 l1145 hcl1146) ?_
              rintro _ b1147 _ hle1148 ⟨A1149, c1150, hs1151, rfl, rfl, h1152⟩
              refine t_in1 [] [_] hs1151 R rfl ?_
              refine t_yes 129 rfl rfl rfl ?_
              refine t_st rfl (st_func _ _ rfl rfl) ?_
              refine t_yes 129 rfl rfl rfl ?_
              obtain ⟨x1153, hcl1154, hm⟩ := bindS hm
              refine t_out1 [_] [] hs1151 R rfl ?_
              refine t_callG _ rfl call29 rfl (cSlicesContainsFunc _ _ s1.Period s1.Plan s1.Links l1145 g896 A2 c3 A5 c6 A1149 c1150 hs1151 (h4.le (hle907.trans (hle981.trans (hle1029.trans (hle1036.trans (hle1043.trans (hle1052.trans (hle1058.trans (hle1135.trans (hle1142.trans hle1148)))))))))) (h7.le (hle907.trans (hle981.trans (hle1029.trans (hle1036.trans (hle1043.trans (hle1052.trans (hle1058.trans (hle1135.trans (hle1142.trans hle1148)))))))))) h1152 x1153 hcl1154) ?_
              rintro _ b1155 _ hle1156 ⟨rfl, rfl⟩
              refine t_in1 [_] [] hs1151 R rfl ?_
              refine t_st rfl (st_pick_f rfl rfl) ?_
              refine t_nil ?_
              obtain ⟨rfl, rfl⟩ := some2 hm
              exact x_join (e' := [(5, .int .i64 (x987)), (6, .slice A984 (l988).length c985), (11, .int .i64 (x1023)), (12, .int .i64 (x1024)), (13, .slice A1044 (l1040).length c1045), (14, .slice A1053 (l1049).length c1054), (136, .bool (x1153))]) ⟨rfl, rfl, rfl, rfl, rfl, rfl, rfl, trivial⟩ (.cons _ (sub_skip hs1151 (.refl _))) ⟨A1044, c1045, rfl, rfl, (hle1135.trans (hle1142.trans (hle1148.trans hle1156))), (h1137.le (hle1142.trans (hle1148.trans hle1156)))⟩
         ·
          rintro b1105 _ _ ⟨A1107, c1108, rfl, rfl, hle1106, h1109⟩
          have hm := (unc2E hk1112)
          refine c_cond _ rfl (fun hc1157 => ?_) (fun hc1157 => ?_)
          ·
           rw [if_pos hc1157] at hm
           refine c_sr ?_
           refine t_as rfl rfl ?_
           refine t_ne ?_
           refine c_ret ?_
           refine x_then_ret ?_
           obtain rfl := some1 hm
           exact retM (rs := [.tmp 4]) [.bool (false)] (hle907.trans (hle981.trans (hle1029.trans (hle1036.trans (hle1043.trans (hle1052.trans (hle1058.trans hle1106))))))) (by decide) rfl ⟨rfl, trivial⟩ rfl (.refl _) ⟨rfl, rfl⟩
          ·
           rw [if_neg (fun hh => Bool.noConfusion (hh.symm.trans hc1157))] at hm
           refine c_skip ?_
           refine x_then_normal ?_
           refine c_seq ?_
           refine c_sr ?_
           refine t_mv rfl rfl ?_
           refine t_st rfl (st_len rfl sl45) ?_
           refine t_mv rfl rfl ?_
           refine t_ne ?_
           refine c_block ?_
           have hb1159 : l1110.length ≤ 9223372036854775807 := (FZ.bd h1109)
           obtain ⟨t1467, hl1468, hk1469⟩ := bindS hm
           refine c_forM (fun k1466 => fun _ => fun b1464 e' hp' => [(5, .int .i64 (x987)), (6, .slice A984 (l988).length c985), (11, .int .i64 (x1023)), (12, .int .i64 (x1024)), (14, .slice A1053 (l1049).length c1054), (137, .slice A1107 (l1110).length c1108), (138, .int .i64 ((l1110.length : Int))), (139, .int .i64 ((k1466 : Int)))] = e' ∧ R = hp' ∧ b1105.Le b1464) hl1468 (e' := [(5, .int .i64 (x987)), (6, .slice A984 (l988).length c985), (11, .int .i64 (x1023)), (12, .int .i64 (x1024)), (14, .slice A1053 (l1049).length c1054), (137, .slice A1107 (l1110).length c1108), (138, .int .i64 ((l1110.length : Int))), (139, .int .i64 0)]) ⟨rfl, rfl, rfl, rfl, rfl, rfl, rfl, rfl, trivial⟩ (.refl _) ⟨rfl, rfl, (Base.Le.refl _)⟩ ?_ ?_
           ·
            rintro k1466 _ b1464 _ _ oL1158 hknL1158 ⟨rfl, rfl, hle1465⟩ hstepL1158 houtL1158
            unfold mFishkeep2MendDies_L1158 at hstepL1158
            have hm := hstepL1158
            refine c_sr ?_
            refine t_st rfl (st_lss_t rfl rfl (by omega)) ?_
            refine t_ne ?_
            refine c_seq ?_
            refine c_cond_t rfl ?_
            refine c_skip ?_
            refine x_then_normal ?_
            refine c_seq ?_
            refine c_block ?_
            refine c_sr ?_
            refine t_mv rfl rfl ?_
            obtain ⟨x1470, h1471, hm⟩ := bindS hm
            obtain ⟨j1472, hj1473, hx1474⟩ := idx_some h1471
            obtain ⟨cs1475, hr1476, hcs1477, hA1478, hlt1479⟩ := FZ.get (sz := 1) rfl (by decide) (h1109.le hle1465) hx1474
            obtain ⟨A1480, c1481, rfl, h1482⟩ := hr1476
            refine t_st rfl (st_index_old j1472 rfl rfl hj1473 hlt1479 hA1478 sl45) ?_
            refine t_st rfl (st_load_old rfl one22 (hcs1477 0 _ rfl)) ?_
            refine t_as rfl rfl ?_
            refine t_as rfl rfl ?_
            refine t_ne ?_
            refine c_sr ?_
            refine t_mv rfl rfl ?_
            refine t_st rfl (st_len rfl sl22) ?_
            refine t_mv rfl rfl ?_
            refine t_ne ?_
            refine c_block ?_
            have hb1484 : x1470.length ≤ 9223372036854775807 := (FZ.bd h1482)
            obtain ⟨t1629, hl1630, hk1631⟩ := bindS hm
            refine c_forM (fun k1628 => fun _ => fun b1626 e' hp' => [(5, .int .i64 (x987)), (6, .slice A984 (l988).length c985), (11, .int .i64 (x1023)), (12, .int .i64 (x1024)), (14, .slice A1053 (l1049).length c1054), (16, .int .i64 ((k1466 : Int))), (137, .slice A1107 (l1110).length c1108), (138, .int .i64 ((l1110.length : Int))), (139, .int .i64 ((k1466 : Int))), (144, .slice A1480 (x1470).length c1481), (145, .int .i64 ((x1470.length : Int))), (146, .int .i64 ((k1628 : Int)))] = e' ∧ R = hp' ∧ b1464.Le b1626) hl1630 (e' := [(5, .int .i64 (x987)), (6, .slice A984 (l988).length c985), (11, .int .i64 (x1023)), (12, .int .i64 (x1024)), (14, .slice A1053 (l1049).length c1054), (16, .int .i64 ((k1466 : Int))), (137, .slice A1107 (l1110).length c1108), (138, .int .i64 ((l1110.length : Int))), (139, .int .i64 ((k1466 : Int))), (144, .slice A1480 (x1470).length c1481), (145, .int .i64 ((x1470.length : Int))), (146, .int .i64 0)]) ⟨rfl, rfl, rfl, rfl, rfl, rfl, rfl, rfl, rfl, rfl, rfl, rfl, trivial⟩ (.refl _) ⟨rfl, rfl, (Base.Le.refl _)⟩ ?_ ?_
            ·
             rintro k1628 _ b1626 _ _ oL1483 hknL1483 ⟨rfl, rfl, hle1627⟩ hstepL1483 houtL1483
             unfold mFishkeep2MendDies_L1483 at hstepL1483
             have hm := hstepL1483
             refine c_sr ?_
             refine t_st rfl (st_lss_t rfl rfl (by omega)) ?_
             refine t_ne ?_
             refine c_seq ?_
             refine c_cond_t rfl ?_
             refine c_skip ?_
             refine x_then_normal ?_
             refine c_seq ?_
             refine c_block ?_
             refine c_sr ?_
             refine t_mv rfl rfl ?_
             obtain ⟨x1632, h1633, hm⟩ := bindS hm
             obtain ⟨j1634, hj1635, hx1636⟩ := idx_some h1633
             obtain ⟨cs1637, hr1638, hcs1639, hA1640, hlt1641⟩ := FZ.get (sz := 1) rfl (by decide) (h1482.le hle1627) hx1636
             obtain rfl := hr1638
             refine t_st rfl (st_index_old j1634 rfl rfl hj1635 hlt1641 hA1640 sl22) ?_
             refine t_st rfl (st_load_old rfl one3 (hcs1639 0 _ rfl)) ?_
             refine t_as rfl rfl ?_
             refine t_as rfl rfl ?_
             refine t_ne ?_
             refine c_seq ?_
             obtain ⟨x1648, hj1649, hk1649⟩ := bindS hm
             refine c_join (fun b1646 e' hp' => [(5, .int .i64 (x987)), (6, .slice A984 (l988).length c985), (11, .int .i64 (x1023)), (12, .int .i64 (x1024)), (14, .slice A1053 (l1049).length c1054), (16, .int .i64 ((k1466 : Int))), (18, .int .i64 ((k1628 : Int))), (19, .int .i64 (x1632)), (137, .slice A1107 (l1110).length c1108), (138, .int .i64 ((l1110.length : Int))), (139, .int .i64 ((k1466 : Int))), (144, .slice A1480 (x1470).length c1481), (145, .int .i64 ((x1470.length : Int))), (146, .int .i64 ((k1628 : Int))), (170, .bool (x1648))] = e' ∧ R = hp' ∧ b1626.Le b1646) ?_ ?_
             ·
              have hm := hj1649
              refine c_region ?_
              refine t_mv rfl rfl ?_
              refine t_bool rfl (st_lss rfl rfl) (fun hc1650 => ?_) (fun hc1650 => ?_)
              ·
               rw [if_pos hc1650] at hm
               refine t_mv rfl rfl ?_
               refine t_no 153 rfl rfl rfl rfl rfl ?_
               refine t_no 153 rfl rfl rfl rfl rfl ?_
               refine t_no 153 rfl rfl rfl rfl rfl ?_
               refine t_st rfl (st_pick_t rfl rfl) ?_
               refine t_mv rfl rfl ?_
               refine t_no 158 rfl rfl rfl rfl rfl ?_
               refine t_no 158 rfl rfl rfl rfl rfl ?_
               refine t_no 158 rfl rfl rfl rfl rfl ?_
               refine t_no 161 rfl rfl rfl rfl rfl ?_
               refine t_no 161 rfl rfl rfl rfl rfl ?_
               refine t_no 161 rfl rfl rfl rfl rfl ?_
               refine t_no 158 rfl rfl rfl rfl rfl ?_
               refine t_no 158 rfl rfl rfl rfl rfl ?_
               refine t_no 166 rfl rfl rfl rfl rfl ?_
               refine t_no 166 rfl rfl rfl rfl rfl ?_
               refine t_no 158 rfl rfl rfl rfl rfl ?_
               refine t_st rfl (st_pick_t rfl rfl) ?_
               refine t_nil ?_
               obtain rfl := some1 hm
               exact x_join (e' := [(5, .int .i64 (x987)), (6, .slice A984 (l988).length c985), (11, .int .i64 (x1023)), (12, .int .i64 (x1024)), (14, .slice A1053 (l1049).length c1054), (16, .int .i64 ((k1466 : Int))), (18, .int .i64 ((k1628 : Int))), (19, .int .i64 (x1632)), (137, .slice A1107 (l1110).length c1108), (138, .int .i64 ((l1110.length : Int))), (139, .int .i64 ((k1466 : Int))), (144, .slice A1480 (x1470).length c1481), (145, .int .i64 ((x1470.length : Int))), (146, .int .i64 ((k1628 : Int))), (170, .bool (true))]) ⟨rfl, rfl, rfl, rfl, rfl, rfl, rfl, rfl, rfl, rfl, rfl, rfl, rfl, rfl, rfl, trivial⟩ (.refl _) ⟨rfl, rfl, (Base.Le.refl _)⟩
              ·
               rw [if_neg hc1650] at hm
               refine t_mv rfl rfl ?_
               refine t_yes 153 rfl rfl rfl ?_
               refine t_mv rfl rfl ?_
               refine t_yes 153 rfl rfl rfl ?_
               refine t_mv rfl rfl ?_
               refine t_yes 153 rfl rfl rfl ?_
               refine t_bool rfl (st_gtr rfl rfl) (fun hc1651 => ?_) (fun hc1651 => ?_)
               ·
                rw [if_pos hc1651] at hm
                refine t_st rfl (st_pick_f rfl rfl) ?_
                refine t_mv rfl rfl ?_
                refine t_no 158 rfl rfl rfl rfl rfl ?_
                refine t_no 158 rfl rfl rfl rfl rfl ?_
                refine t_no 158 rfl rfl rfl rfl rfl ?_
                refine t_no 161 rfl rfl rfl rfl rfl ?_
                refine t_no 161 rfl rfl rfl rfl rfl ?_
                refine t_no 161 rfl rfl rfl rfl rfl ?_
                refine t_no 158 rfl rfl rfl rfl rfl ?_
                refine t_no 158 rfl rfl rfl rfl rfl ?_
                refine t_no 166 rfl rfl rfl rfl rfl ?_
                refine t_no 166 rfl rfl rfl rfl rfl ?_
                refine t_no 158 rfl rfl rfl rfl rfl ?_
                refine t_st rfl (st_pick_t rfl rfl) ?_
                refine t_nil ?_
                obtain rfl := some1 hm
                exact x_join (e' := [(5, .int .i64 (x987)), (6, .slice A984 (l988).length c985), (11, .int .i64 (x1023)), (12, .int .i64 (x1024)), (14, .slice A1053 (l1049).length c1054), (16, .int .i64 ((k1466 : Int))), (18, .int .i64 ((k1628 : Int))), (19, .int .i64 (x1632)), (137, .slice A1107 (l1110).length c1108), (138, .int .i64 ((l1110.length : Int))), (139, .int .i64 ((k1466 : Int))), (144, .slice A1480 (x1470).length c1481), (145, .int .i64 ((x1470.length : Int))), (146, .int .i64 ((k1628 : Int))), (170, .bool (true))]) ⟨rfl, rfl, rfl, rfl, rfl, rfl, rfl, rfl, rfl, rfl, rfl, rfl, rfl, rfl, rfl, trivial⟩ (.refl _) ⟨rfl, rfl, (Base.Le.refl _)⟩
               ·
                rw [if_neg hc1651] at hm
                refine t_st rfl (st_pick_f rfl rfl) ?_
                refine t_mv rfl rfl ?_
                refine t_yes 158 rfl rfl rfl ?_
                refine t_mv rfl rfl ?_
                refine t_yes 158 rfl rfl rfl ?_
                refine t_bool rfl (st_eql rfl rfl) (fun hc1652 => ?_) (fun hc1652 => ?_)
                ·
                 rw [if_pos hc1652] at hm
                 refine t_yes 158 rfl rfl rfl ?_
                 refine t_mv rfl rfl ?_
                 refine t_yes 161 rfl rfl rfl ?_
                 refine t_mv rfl rfl ?_
                 refine t_yes 161 rfl rfl rfl ?_
                 refine t_mv rfl rfl ?_
                 refine t_yes 161 rfl rfl rfl ?_
                 refine t_bool rfl (st_geq rfl rfl) (fun hc1653 => ?_) (fun hc1653 => ?_)
                 ·
                  rw [if_pos hc1653] at hm
                  refine t_yes 158 rfl rfl rfl ?_
                  refine t_st rfl (st_pick_t rfl rfl) ?_
                  refine t_yes 158 rfl rfl rfl ?_
                  refine t_mv rfl rfl ?_
                  refine t_yes 166 rfl rfl rfl ?_
                  refine t_mv rfl rfl ?_
                  refine t_yes 166 rfl rfl rfl ?_
                  refine t_st rfl (st_gtr rfl rfl) ?_
                  refine t_yes 158 rfl rfl rfl ?_
                  refine t_st rfl (st_pick_t rfl rfl) ?_
                  refine t_st rfl (st_pick_f rfl rfl) ?_
                  refine t_nil ?_
                  obtain rfl := some1 hm
                  exact x_join (e' := [(5, .int .i64 (x987)), (6, .slice A984 (l988).length c985), (11, .int .i64 (x1023)), (12, .int .i64 (x1024)), (14, .slice A1053 (l1049).length c1054), (16, .int .i64 ((k1466 : Int))), (18, .int .i64 ((k1628 : Int))), (19, .int .i64 (x1632)), (137, .slice A1107 (l1110).length c1108), (138, .int .i64 ((l1110.length : Int))), (139, .int .i64 ((k1466 : Int))), (144, .slice A1480 (x1470).length c1481), (145, .int .i64 ((x1470.length : Int))), (146, .int .i64 ((k1628 : Int))), (170, .bool (decide (0 < x1632)))]) ⟨rfl, rfl, rfl, rfl, rfl, rfl, rfl, rfl, rfl, rfl, rfl, rfl, rfl, rfl, rfl, trivial⟩ (.refl _) ⟨rfl, rfl, (Base.Le.refl _)⟩
                 ·
                  rw [if_neg hc1653] at hm
                  refine t_yes 158 rfl rfl rfl ?_
                  refine t_st rfl (st_pick_t rfl rfl) ?_
                  refine t_yes 158 rfl rfl rfl ?_
                  refine t_mv rfl rfl ?_
                  refine t_no 166 rfl rfl rfl rfl rfl ?_
                  refine t_no 166 rfl rfl rfl rfl rfl ?_
                  refine t_yes 158 rfl rfl rfl ?_
                  refine t_st rfl (st_pick_f rfl rfl) ?_
                  refine t_st rfl (st_pick_f rfl rfl) ?_
                  refine t_nil ?_
                  obtain rfl := some1 hm
                  exact x_join (e' := [(5, .int .i64 (x987)), (6, .slice A984 (l988).length c985), (11, .int .i64 (x1023)), (12, .int .i64 (x1024)), (14, .slice A1053 (l1049).length c1054), (16, .int .i64 ((k1466 : Int))), (18, .int .i64 ((k1628 : Int))), (19, .int .i64 (x1632)), (137, .slice A1107 (l1110).length c1108), (138, .int .i64 ((l1110.length : Int))), (139, .int .i64 ((k1466 : Int))), (144, .slice A1480 (x1470).length c1481), (145, .int .i64 ((x1470.length : Int))), (146, .int .i64 ((k1628 : Int))), (170, .bool (false))]) ⟨rfl, rfl, rfl, rfl, rfl, rfl, rfl, rfl, rfl, rfl, rfl, rfl, rfl, rfl, rfl, trivial⟩ (.refl _) ⟨rfl, rfl, (Base.Le.refl _)⟩
                ·
                 rw [if_neg hc1652] at hm
                 refine t_yes 158 rfl rfl rfl ?_
                 refine t_mv rfl rfl ?_
                 refine t_no 161 rfl rfl rfl rfl rfl ?_
                 refine t_no 161 rfl rfl rfl rfl rfl ?_
                 refine t_no 161 rfl rfl rfl rfl rfl ?_
                 refine t_yes 158 rfl rfl rfl ?_
                 refine t_st rfl (st_pick_f rfl rfl) ?_
                 refine t_yes 158 rfl rfl rfl ?_
                 refine t_mv rfl rfl ?_
                 refine t_no 166 rfl rfl rfl rfl rfl ?_
                 refine t_no 166 rfl rfl rfl rfl rfl ?_
                 refine t_yes 158 rfl rfl rfl ?_
                 refine t_st rfl (st_pick_f rfl rfl) ?_
                 refine t_st rfl (st_pick_f rfl rfl) ?_
                 refine t_nil ?_
                 obtain rfl := some1 hm
                 exact x_join (e' := [(5, .int .i64 (x987)), (6, .slice A984 (l988).length c985), (11, .int .i64 (x1023)), (12, .int .i64 (x1024)), (14, .slice A1053 (l1049).length c1054), (16, .int .i64 ((k1466 : Int))), (18, .int .i64 ((k1628 : Int))), (19, .int .i64 (x1632)), (137, .slice A1107 (l1110).length c1108), (138, .int .i64 ((l1110.length : Int))), (139, .int .i64 ((k1466 : Int))), (144, .slice A1480 (x1470).length c1481), (145, .int .i64 ((x1470.length : Int))), (146, .int .i64 ((k1628 : Int))), (170, .bool (false))]) ⟨rfl, rfl, rfl, rfl, rfl, rfl, rfl, rfl, rfl, rfl, rfl, rfl, rfl, rfl, rfl, trivial⟩ (.refl _) ⟨rfl, rfl, (Base.Le.refl _)⟩
             ·
              rintro b1646 _ _ ⟨rfl, rfl, hle1647⟩
              have hm := hk1649
              refine c_cond _ rfl (fun hc1654 => ?_) (fun hc1654 => ?_)
              ·
               rw [if_pos hc1654] at hm
               refine c_sr ?_
               refine t_as rfl rfl ?_
               refine t_ne ?_
               refine c_ret ?_
               refine x_then_ret ?_
               refine x_block_ret ?_
               refine x_then_ret ?_
               refine x_then_ret ?_
               refine x_block_ret ?_
               refine x_block_ret ?_
               refine x_then_ret ?_
               refine x_then_ret ?_
               refine x_block_ret ?_
               refine x_then_ret ?_
               have hq1655 := houtL1483 _ (Option.some.inj hm).symm
               rw [hq1655] at hk1631
               have hm := elimR hk1631
               have hq1656 := houtL1158 _ (Option.some.inj hm).symm
               rw [hq1656] at hk1469
               have hm := elimR hk1469
               obtain rfl := some1 hm
               exact retM (rs := [.tmp 4]) [.bool (false)] (hle907.trans (hle981.trans (hle1029.trans (hle1036.trans (hle1043.trans (hle1052.trans (hle1058.trans (hle1106.trans (hle1465.trans (hle1627.trans hle1647)))))))))) (by decide) rfl ⟨rfl, trivial⟩ rfl (.refl _) ⟨rfl, rfl⟩
              ·
               rw [if_neg (fun hh => Bool.noConfusion (hh.symm.trans hc1654))] at hm
               refine c_skip ?_
               refine x_then_normal ?_
               refine c_sr ?_
               refine t_as rfl rfl ?_
               refine t_ne ?_
               refine c_seq ?_
               refine c_sr ?_
               refine t_mv rfl rfl ?_
               refine t_st rfl (st_len rfl sl55) ?_
               refine t_mv rfl rfl ?_
               refine t_ne ?_
               refine c_block ?_
               have hb1658 : l988.length ≤ 9223372036854775807 := (FZ.bd (h1038.le (hle1043.trans (hle1052.trans (hle1058.trans (hle1106.trans (hle1465.trans (hle1627.trans hle1647))))))))
               obtain ⟨x1734, hl1736, hk1737⟩ := bindS hm
               refine c_forS (fun k1735 => fun x1734 => fun b1732 e' hp' => [(5, .int .i64 (x987)), (6, .slice A984 (l988).length c985), (11, .int .i64 (x1023)), (12, .int .i64 (x1024)), (14, .slice A1053 (l1049).length c1054), (16, .int .i64 ((k1466 : Int))), (18, .int .i64 ((k1628 : Int))), (19, .int .i64 (x1632)), (20, .int .i64 (x1734)), (137, .slice A1107 (l1110).length c1108), (138, .int .i64 ((l1110.length : Int))), (139, .int .i64 ((k1466 : Int))), (144, .slice A1480 (x1470).length c1481), (145, .int .i64 ((x1470.length : Int))), (146, .int .i64 ((k1628 : Int))), (171, .slice A984 (l988).length c985), (172, .int .i64 ((l988.length : Int))), (173, .int .i64 ((k1735 : Int)))] = e' ∧ R = hp' ∧ b1646.Le b1732) hl1736 (e' := [(5, .int .i64 (x987)), (6, .slice A984 (l988).length c985), (11, .int .i64 (x1023)), (12, .int .i64 (x1024)), (14, .slice A1053 (l1049).length c1054), (16, .int .i64 ((k1466 : Int))), (18, .int .i64 ((k1628 : Int))), (19, .int .i64 (x1632)), (20, .int .i64 (0)), (137, .slice A1107 (l1110).length c1108), (138, .int .i64 ((l1110.length : Int))), (139, .int .i64 ((k1466 : Int))), (144, .slice A1480 (x1470).length c1481), (145, .int .i64 ((x1470.length : Int))), (146, .int .i64 ((k1628 : Int))), (171, .slice A984 (l988).length c985), (172, .int .i64 ((l988.length : Int))), (173, .int .i64 0)]) ⟨rfl, rfl, rfl, rfl, rfl, rfl, rfl, rfl, rfl, rfl, rfl, rfl, rfl, rfl, rfl, rfl, rfl, rfl, trivial⟩ (.refl _) ⟨rfl, rfl, (Base.Le.refl _)⟩ ?_ ?_
               ·
                rintro k1735 x1734 b1732 _ _ oL1657 hknL1657 ⟨rfl, rfl, hle1733⟩ hstepL1657
                unfold mFishkeep2MendDies_L1657 at hstepL1657
                have hm := hstepL1657
                refine c_sr ?_
                refine t_st rfl (st_lss_t rfl rfl (by omega)) ?_
                refine t_ne ?_
                refine c_seq ?_
                refine c_cond_t rfl ?_
                refine c_skip ?_
                refine x_then_normal ?_
                refine c_seq ?_
                refine c_block ?_
                refine c_sr ?_
                obtain ⟨x1738, h1739, hm⟩ := bindS hm
                obtain ⟨j1740, hj1741, hx1742⟩ := idx_some h1739
                obtain ⟨cs1743, hr1744, hcs1745, hA1746, hlt1747⟩ := FZ.get (sz := 3) rfl (by decide) (h1038.le (hle1043.trans (hle1052.trans (hle1058.trans (hle1106.trans (hle1465.trans (hle1627.trans (hle1647.trans hle1733)))))))) hx1742
                obtain ⟨_, _, rfl, rfl, ⟨_, _, rfl, rfl, rfl⟩⟩ := hr1744
                refine t_st rfl (st_index_old j1740 rfl rfl hj1741 hlt1747 hA1746 sl55) ?_
                refine t_st rfl (st_loadN_old (vs := [.int .i64 (x1738.Event), .int .i64 (x1738.Period), .int .i64 (x1738.Secs)]) 3 rfl agg58 hA1746 rfl (fun j u hu => hcs1745 j u hu)) ?_
                refine t_do rfl (u_alloc [.int .i64 0, .int .i64 0, .int .i64 0] zero58 rfl) ?_
                rintro _ _ ⟨g1748, rfl, rfl⟩
                refine t_do rfl (u_storeN (vs := [_, _, _]) 0 3 rfl rfl rfl siz58 rfl (mem_c rfl (mem_c rfl (mem_c rfl mem_n))) rfl (by simp)) ?_
                rintro _ _ rfl
                refine t_ne ?_
                refine c_sr ?_
                refine t_mv rfl rfl ?_
                refine t_st rfl (st_field rfl fld58_0) ?_
                refine t_st rfl (st_load 0 rfl one3 rfl rfl) ?_
                obtain ⟨x1749, h1750, hm⟩ := bindS hm
                obtain ⟨j1751, hj1752, hx1753⟩ := idx_some h1750
                obtain ⟨cs1754, hr1755, hcs1756, hA1757, hlt1758⟩ := FZ.get (sz := 1) rfl (by decide) (h1060.le (hle1106.trans (hle1465.trans (hle1627.trans (hle1647.trans hle1733))))) hx1753
                obtain ⟨A1759, c1760, rfl, h1761⟩ := hr1755
                refine t_st rfl (st_index_old j1751 rfl rfl hj1752 hlt1758 hA1757 sl45) ?_
                refine t_st rfl (st_load_old rfl one22 (hcs1756 0 _ rfl)) ?_
                refine t_mv rfl rfl ?_
                obtain ⟨x1762, h1763, hm⟩ := bindS hm
                obtain ⟨j1764, hj1765, hx1766⟩ := idx_some h1763
                obtain ⟨cs1767, hr1768, hcs1769, hA1770, hlt1771⟩ := FZ.get (sz := 1) rfl (by decide) h1761 hx1766
                obtain rfl := hr1768
                refine t_st rfl (st_index_old j1764 rfl rfl hj1765 hlt1771 hA1770 sl22) ?_
                refine t_st rfl (st_load_old rfl one3 (hcs1769 0 _ rfl)) ?_
                refine t_as rfl rfl ?_
                refine t_ne ?_
                refine c_sr ?_
                refine t_mv rfl rfl ?_
                refine t_st rfl (st_geq rfl rfl) ?_
                refine t_ne ?_
                refine c_cond _ rfl (fun hc1772 => ?_) (fun hc1772 => ?_)
                ·
                 rw [if_pos (of_decide_eq_true hc1772)] at hm
                 refine c_region ?_
                 refine t_mv rfl rfl ?_
                 refine t_st rfl (st_field rfl fld58_2) ?_
                 refine t_st rfl (st_load 0 rfl one3 rfl rfl) ?_
                 refine t_mv rfl rfl ?_
                 obtain ⟨_, h1773, hm⟩ := bindS hm
                 have h1773 := (chk_some h1773).2
                 refine t_st rfl (st_sub rfl rfl h1773) ?_
                 refine t_st rfl (st_max rfl rfl) ?_
                 refine t_as rfl rfl ?_
                 refine t_nil ?_
                 refine x_block_normal ?_
                 refine x_then_normal ?_
                 refine c_region ?_
                 refine t_st rfl (st_add rfl rfl (by omega)) ?_
                 refine t_mv rfl rfl ?_
                 refine t_nil ?_
                 obtain rfl := some1 hm
                 exact x_againS (e' := [(5, .int .i64 (x987)), (6, .slice A984 (l988).length c985), (11, .int .i64 (x1023)), (12, .int .i64 (x1024)), (14, .slice A1053 (l1049).length c1054), (16, .int .i64 ((k1466 : Int))), (18, .int .i64 ((k1628 : Int))), (19, .int .i64 (x1632)), (20, .int .i64 (max x1734 (x1738.Secs - x1762))), (137, .slice A1107 (l1110).length c1108), (138, .int .i64 ((l1110.length : Int))), (139, .int .i64 ((k1466 : Int))), (144, .slice A1480 (x1470).length c1481), (145, .int .i64 ((x1470.length : Int))), (146, .int .i64 ((k1628 : Int))), (171, .slice A984 (l988).length c985), (172, .int .i64 ((l988.length : Int))), (173, .int .i64 ((k1735 : Int) + 1))]) ⟨rfl, rfl, rfl, rfl, rfl, rfl, rfl, rfl, rfl, rfl, rfl, rfl, rfl, rfl, rfl, rfl, rfl, rfl, trivial⟩ (.cons _ (.refl _)) ⟨rfl, rfl, (hle1733)⟩
                ·
                 rw [if_neg (of_decide_eq_false hc1772)] at hm
                 refine c_skip ?_
                 refine x_block_normal ?_
                 refine x_then_normal ?_
                 refine c_region ?_
                 refine t_st rfl (st_add rfl rfl (by omega)) ?_
                 refine t_mv rfl rfl ?_
                 refine t_nil ?_
                 obtain rfl := some1 hm
                 exact x_againS (e' := [(5, .int .i64 (x987)), (6, .slice A984 (l988).length c985), (11, .int .i64 (x1023)), (12, .int .i64 (x1024)), (14, .slice A1053 (l1049).length c1054), (16, .int .i64 ((k1466 : Int))), (18, .int .i64 ((k1628 : Int))), (19, .int .i64 (x1632)), (20, .int .i64 (x1734)), (137, .slice A1107 (l1110).length c1108), (138, .int .i64 ((l1110.length : Int))), (139, .int .i64 ((k1466 : Int))), (144, .slice A1480 (x1470).length c1481), (145, .int .i64 ((x1470.length : Int))), (146, .int .i64 ((k1628 : Int))), (171, .slice A984 (l988).length c985), (172, .int .i64 ((l988.length : Int))), (173, .int .i64 ((k1735 : Int) + 1))]) ⟨rfl, rfl, rfl, rfl, rfl, rfl, rfl, rfl, rfl, rfl, rfl, rfl, rfl, rfl, rfl, rfl, rfl, rfl, trivial⟩ (.cons _ (.refl _)) ⟨rfl, rfl, (hle1733)⟩
               ·
                rintro b1732 _ _ ⟨rfl, rfl, hle1733⟩
                have hm := hk1737
                refine c_sr ?_
                refine t_st rfl (st_lss_f rfl rfl (by omega)) ?_
                refine t_ne ?_
                refine c_seq ?_
                refine c_cond_f rfl ?_
                refine c_exit ?_
                refine x_then_exit ?_
                refine x_then_exit ?_
                refine x_block_out ?_
                refine x_then_normal ?_
                refine c_sr ?_
                refine t_mv rfl rfl ?_
                refine t_mv rfl rfl ?_
                refine t_st rfl (st_gtr rfl rfl) ?_
                refine t_ne ?_
                refine c_cond _ rfl (fun hc1774 => ?_) (fun hc1774 => ?_)
                ·
                 rw [if_pos (of_decide_eq_true hc1774)] at hm
                 refine c_sr ?_
                 refine t_as rfl rfl ?_
                 refine t_ne ?_
                 refine c_ret ?_
                 refine x_block_ret ?_
                 refine x_then_ret ?_
                 refine x_then_ret ?_
                 refine x_block_ret ?_
                 refine x_block_ret ?_
                 refine x_then_ret ?_
                 refine x_then_ret ?_
                 refine x_block_ret ?_
                 refine x_then_ret ?_
                 have hq1775 := houtL1483 _ (Option.some.inj hm).symm
                 rw [hq1775] at hk1631
                 have hm := elimR hk1631
                 have hq1776 := houtL1158 _ (Option.some.inj hm).symm
                 rw [hq1776] at hk1469
                 have hm := elimR hk1469
                 obtain rfl := some1 hm
                 exact retM (rs := [.tmp 4]) [.bool (false)] (hle907.trans (hle981.trans (hle1029.trans (hle1036.trans (hle1043.trans (hle1052.trans (hle1058.trans (hle1106.trans (hle1465.trans (hle1627.trans (hle1647.trans hle1733))))))))))) (by decide) rfl ⟨rfl, trivial⟩ rfl (.refl _) ⟨rfl, rfl⟩
                ·
                 rw [if_neg (of_decide_eq_false hc1774)] at hm
                 refine c_skip ?_
                 refine x_block_normal ?_
                 refine x_then_normal ?_
                 refine c_region ?_
                 refine t_st rfl (st_add rfl rfl (by omega)) ?_
                 refine t_mv rfl rfl ?_
                 refine t_nil ?_
                 exact x_againM () (Option.some.inj hm).symm (e' := [(5, .int .i64 (x987)), (6, .slice A984 (l988).length c985), (11, .int .i64 (x1023)), (12, .int .i64 (x1024)), (14, .slice A1053 (l1049).length c1054), (16, .int .i64 ((k1466 : Int))), (137, .slice A1107 (l1110).length c1108), (138, .int .i64 ((l1110.length : Int))), (139, .int .i64 ((k1466 : Int))), (144, .slice A1480 (x1470).length c1481), (145, .int .i64 ((x1470.length : Int))), (146, .int .i64 ((k1628 : Int) + 1))]) ⟨rfl, rfl, rfl, rfl, rfl, rfl, rfl, rfl, rfl, rfl, rfl, rfl, trivial⟩ (.refl _) ⟨rfl, rfl, ((hle1627.trans (hle1647.trans hle1733)))⟩
            ·
             rintro _ b1626 _ _ ⟨rfl, rfl, hle1627⟩ hq1777
             rw [hq1777] at hk1631
             have hm := elimL hk1631
             refine c_sr ?_
             refine t_st rfl (st_lss_f rfl rfl (by omega)) ?_
             refine t_ne ?_
             refine c_seq ?_
             refine c_cond_f rfl ?_
             refine c_exit ?_
             refine x_then_exit ?_
             refine x_then_exit ?_
             refine x_block_out ?_
             refine x_block_normal ?_
             refine x_then_normal ?_
             refine c_region ?_
             refine t_st rfl (st_add rfl rfl (by omega)) ?_
             refine t_mv rfl rfl ?_
             refine t_nil ?_
             exact x_againM () (Option.some.inj hm).symm (e' := [(5, .int .i64 (x987)), (6, .slice A984 (l988).length c985), (11, .int .i64 (x1023)), (12, .int .i64 (x1024)), (14, .slice A1053 (l1049).length c1054), (137, .slice A1107 (l1110).length c1108), (138, .int .i64 ((l1110.length : Int))), (139, .int .i64 ((k1466 : Int) + 1))]) ⟨rfl, rfl, rfl, rfl, rfl, rfl, rfl, rfl, trivial⟩ (.refl _) ⟨rfl, rfl, ((hle1465.trans hle1627))⟩
           ·
            rintro _ b1464 _ _ ⟨rfl, rfl, hle1465⟩ hq1778
            rw [hq1778] at hk1469
            have hm := elimL hk1469
            refine c_sr ?_
            refine t_st rfl (st_lss_f rfl rfl (by omega)) ?_
            refine t_ne ?_
            refine c_seq ?_
            refine c_cond_f rfl ?_
            refine c_exit ?_
            refine x_then_exit ?_
            refine x_then_exit ?_
            refine x_block_out ?_
            refine x_then_normal ?_
            refine c_sr ?_
            refine t_as rfl rfl ?_
            refine t_ne ?_
            refine c_ret ?_
            obtain rfl := some1 hm
            exact retM (rs := [.tmp 4]) [.bool (true)] (hle907.trans (hle981.trans (hle1029.trans (hle1036.trans (hle1043.trans (hle1052.trans (hle1058.trans (hle1106.trans hle1465)))))))) (by decide) rfl ⟨rfl, trivial⟩ rfl (.refl _) ⟨rfl, rfl⟩

end Go.Proofs.Ytakehdnblmonlaa
