/- Contracts: the code computes its model (part 5). -/
import Derived.Test.YtajmocgpjkhjlaaEP4
set_option linter.unusedVariables false
set_option linter.unusedSimpArgs false
namespace Go.Proofs.Ytajmocgpjkhjlaa
open Go.RowKit Go.Fp

set_option maxRecDepth 20000 in
theorem cFleetMatchingGrow : ∀ (N : Nat) (b : Base) (R : Hp) (x22 : Int) (l23 : (List Bool)) (l24 : (List (List Bool))) (l25 : (List Int)) (l26 : (List Int)) (g21 : Nat) (A3 : Option Addr) (c4 : Nat) (hs2 : Hp) (A8 : Option Addr) (c9 : Nat) (hs7 : Hp) (A13 : Option Addr) (c14 : Nat) (hs12 : Hp) (A18 : Option Addr) (c19 : Nat) (hs17 : Hp) (h5 : OS 4 (OT.fr RT.bool) b.w (.slice A3 l23.length c4) l23 hs2) (h10 : OS 104 (OT.fr (RT.list RT.bool)) b.w (.slice A8 l24.length c9) l24 hs7) (h15 : OS 3 (OT.fr (RT.int .i64)) b.w (.slice A13 l25.length c14) l25 hs12) (h20 : OS 3 (OT.fr (RT.int .i64)) b.w (.slice A18 l26.length c19) l26 hs17) (x1752 : Bool) (l1753 : (List Bool)) (l1755 : (List Int)) (l1757 : (List Int)) (hm : mFleetMatchingGrow N x22 l23 l24 l25 l26 = some (x1752, l1753, l1755, l1757)),
    CallsG Try.prog 92 [.pointer (some ⟨g21, 0, none⟩), .int .i64 (x22), .slice A3 (l23).length c4] b ((g21, Cl 101 [.slice A8 (l24).length c9, .slice A13 (l25).length c14, .slice A18 (l26).length c19]) :: (hs2 ++ (hs7 ++ (hs12 ++ (hs17 ++ R))))) (fun v b' hp' => ∃ (hs1744 : Hp), ∃ (hs1747 : Hp), ∃ (hs1750 : Hp), .bool (x1752) = v ∧ (g21, Cl 101 [.slice A8 (l24).length c9, .slice A13 (l1755).length c14, .slice A18 (l1757).length c19]) :: (hs1744 ++ (hs7 ++ (hs1747 ++ (hs1750 ++ R)))) = hp' ∧ OS 4 (OT.fr RT.bool) b'.w (.slice A3 l1753.length c4) l1753 hs1744 ∧ l1753.length = l23.length ∧ OS 3 (OT.fr (RT.int .i64)) b'.w (.slice A13 l1755.length c14) l1755 hs1747 ∧ l1755.length = l25.length ∧ OS 3 (OT.fr (RT.int .i64)) b'.w (.slice A18 l1757.length c19) l1757 hs1750 ∧ l1757.length = l26.length) := by
  intro N
  induction N with
  | zero =>
    intro b R x22 l23 l24 l25 l26 g21 A3 c4 hs2 A8 c9 hs7 A13 c14 hs12 A18 c19 hs17 h5 h10 h15 h20 x1752 l1753 l1755 l1757 hm
    unfold mFleetMatchingGrow at hm
    cases hm
  | succ N ih =>
    intro b R x22 l23 l24 l25 l26 g21 A3 c4 hs2 A8 c9 hs7 A13 c14 hs12 A18 c19 hs17 h5 h10 h15 h20 x1752 l1753 l1755 l1757 hm
    refine fn_enterG 68 Try.func92 rfl Try.ntmps92 rfl ?_
    unfold mFleetMatchingGrow at hm
    refine c_seq ?_
    refine c_region ?_
    refine t_st rfl (st_assign rfl) ?_
    refine t_nil ?_
    refine x_then_normal ?_
    refine c_seq ?_
    refine c_seq ?_
    refine c_region ?_
    refine t_st rfl (st_move rfl) ?_
    refine t_st rfl (st_nil rfl) ?_
    refine t_st rfl (st_field rfl fld101_0) ?_
    refine t_st rfl (st_load 0 rfl one99 rfl rfl) ?_
    refine t_st rfl (st_move rfl) ?_
    obtain ⟨x1759, h1760, hm⟩ := bindS hm
    obtain ⟨j1761, hj1762, hx1763⟩ := idx_some h1760
    obtain ⟨cs1764, hs1769, P1770, P1771, hq1772, hr1765, hcs1766, hA1767, hlt1768, hb1773, hho1774⟩ := OS.get (sz := 1) rfl (by decide) h10 hx1763
    obtain ⟨⟨A1775, c1776, rfl, h1777⟩, rfl⟩ := hr1765
    refine t_st rfl (st_index_old j1761 rfl rfl hj1762 hlt1768 hA1767 sl99) ?_
    refine t_st rfl (st_load_rd rfl one104 (fun w ho => hcs1766 w _ ho (.cons _ (sub_skip hs2 (List.sublist_append_left _ _))) 0 _ rfl)) ?_
    refine t_st rfl (st_len rfl sl104) ?_
    refine t_st rfl (st_move rfl) ?_
    refine t_nil ?_
    refine x_then_normal ?_
    refine c_block ?_
    have hb1779 := (FZ.bd h1777)
    refine c_front4 [_] hs2 hs7 hs12 hs17 R rfl ?_
    refine c_front4 [_] hs17 hs2 hs7 hs12 R rfl ?_
    refine c_front4 [_] hs12 hs17 hs2 hs7 R rfl ?_
    refine c_front4 [_] hs7 hs12 hs17 hs2 R rfl ?_
    obtain ⟨t2497, hl2498, hk2499⟩ := bindS hm
    refine c_forM (fun k2496 => unc3 fun l2490 l2492 l2494 => fun b2479 e' hp' => ∃ (hs2482 : Hp), ∃ (hs2485 : Hp), ∃ (hs2488 : Hp), [(0, .pointer (some ⟨g21, 0, none⟩)), (1, .int .i64 (x22)), (2, .slice A3 (l2490).length c4), (15, .slice A1775 (x1759).length c1776), (16, .int .i64 ((x1759.length : Int))), (17, .int .i64 ((k2496 : Int)))] = e' ∧ (g21, Cl 101 [.slice A8 (l24).length c9, .slice A13 (l2492).length c14, .slice A18 (l2494).length c19]) :: (hs2482 ++ (hs7 ++ (hs2485 ++ (hs2488 ++ R)))) = hp' ∧ b.Le b2479 ∧ OS 4 (OT.fr RT.bool) b2479.w (.slice A3 l2490.length c4) l2490 hs2482 ∧ l2490.length = l23.length ∧ OS 3 (OT.fr (RT.int .i64)) b2479.w (.slice A13 l2492.length c14) l2492 hs2485 ∧ l2492.length = l25.length ∧ OS 3 (OT.fr (RT.int .i64)) b2479.w (.slice A18 l2494.length c19) l2494 hs2488 ∧ l2494.length = l26.length) hl2498 (e' := [(0, .pointer (some ⟨g21, 0, none⟩)), (1, .int .i64 (x22)), (2, .slice A3 (l23).length c4), (15, .slice A1775 (x1759).length c1776), (16, .int .i64 ((x1759.length : Int))), (17, .int .i64 0)]) (hp' := (g21, Cl 101 [.slice A8 (l24).length c9, .slice A13 (l25).length c14, .slice A18 (l26).length c19]) :: (hs2 ++ (hs7 ++ (hs12 ++ (hs17 ++ R))))) ⟨rfl, rfl, rfl, rfl, rfl, rfl, trivial⟩ (.cons_cons _ (sub_app hs2 (sub_app hs7 (sub_app hs12 (sub_app hs17 (.refl _)))))) ⟨hs2, hs12, hs17, rfl, rfl, (Base.Le.refl _), h5, rfl, h15, rfl, h20, rfl⟩ ?_ ?_
    ·
      rintro k2496 ⟨l2490, l2492, l2494⟩ b2479 _ _ oL1778 hknL1778 ⟨hs2482, hs2485, hs2488, rfl, rfl, hle2480, h2483, hln2491, h2486, hln2493, h2489, hln2495⟩ hstepL1778 houtL1778
      unfold mFleetMatchingGrow_L1778 at hstepL1778
      have hm := (unc3E hstepL1778)
      refine c_seq ?_
      refine c_region ?_
      refine t_st rfl (st_lss_t rfl rfl (by omega)) ?_
      refine t_nil ?_
      refine x_then_normal ?_
      refine c_seq ?_
      refine c_cond_t rfl ?_
      refine c_skip ?_
      refine x_then_normal ?_
      refine c_seq ?_
      refine c_block ?_
      refine c_seq ?_
      refine c_region ?_
      refine t_st rfl (st_move rfl) ?_
      obtain ⟨x2500, h2501, hm⟩ := bindS hm
      obtain ⟨j2502, hj2503, hx2504⟩ := idx_some h2501
      obtain ⟨cs2505, hr2506, hcs2507, hA2508, hlt2509⟩ := FZ.get (sz := 1) rfl (by decide) (h1777.le hle2480) hx2504
      obtain rfl := hr2506
      refine t_st rfl (st_index_old j2502 rfl rfl hj2503 hlt2509 hA2508 sl104) ?_
      refine t_st rfl (st_load_old rfl one4 (hcs2507 0 _ rfl)) ?_
      refine t_st rfl (st_assign rfl) ?_
      refine t_st rfl (st_assign rfl) ?_
      refine t_nil ?_
      refine x_then_normal ?_
      refine c_seq ?_
      obtain ⟨x2529, hj2530, hk2530⟩ := bindS hm
      refine c_join (fun b2527 e' hp' => [(0, .pointer (some ⟨g21, 0, none⟩)), (1, .int .i64 (x22)), (2, .slice A3 (l2490).length c4), (7, .int .i64 ((k2496 : Int))), (15, .slice A1775 (x1759).length c1776), (16, .int .i64 ((x1759.length : Int))), (17, .int .i64 ((k2496 : Int))), (29, .bool (x2529))] = e' ∧ (g21, Cl 101 [.slice A8 (l24).length c9, .slice A13 (l2492).length c14, .slice A18 (l2494).length c19]) :: (hs2482 ++ (hs7 ++ (hs2485 ++ (hs2488 ++ R)))) = hp' ∧ b2479.Le b2527) ?_ ?_
      ·
        have hm := hj2530
        refine c_region ?_
        refine t_st rfl (st_move rfl) ?_
        rcases Bool.eq_false_or_eq_true x2500 with hc2531 | hc2531
        ·
          rw [if_pos hc2531] at hm
          refine t_resp 22 rfl (v' := .bool true) (by rw [hc2531] <;> rfl) ?_
          refine t_st rfl (st_not_t rfl) ?_
          refine t_st rfl (st_move rfl) ?_
          refine t_yes 24 rfl rfl rfl ?_
          refine t_st rfl (st_move rfl) ?_
          refine t_yes 24 rfl rfl rfl ?_
          refine t_st rfl (st_move rfl) ?_
          refine t_yes 24 rfl rfl rfl ?_
          obtain ⟨x2532, h2533, hm⟩ := bindS hm
          obtain ⟨j2534, hj2535, hx2536⟩ := idx_some h2533
          obtain ⟨cs2537, hs2542, P2543, P2544, hq2545, hr2538, hcs2539, hA2540, hlt2541, hb2546, hho2547⟩ := OS.get (sz := 1) rfl (by decide) h2483 hx2536
          obtain ⟨rfl, rfl⟩ := hr2538
          refine t_st rfl (st_index_old j2534 rfl rfl hj2535 hlt2541 hA2540 sl104) ?_
          refine t_yes 24 rfl rfl rfl ?_
          refine t_st rfl (st_load_rd rfl one4 (fun w ho => hcs2539 w _ ho (.cons _ (List.sublist_append_left _ _)) 0 _ rfl)) ?_
          refine t_st rfl (st_pick_f rfl rfl) ?_
          refine t_nil ?_
          obtain rfl := some1 hm
          refine x_front4 [_] hs2482 hs7 hs2485 hs2488 R rfl ?_
          refine x_front4 [_] hs2488 hs2482 hs7 hs2485 R rfl ?_
          refine x_front4 [_] hs2485 hs2488 hs2482 hs7 R rfl ?_
          refine x_front4 [_] hs7 hs2485 hs2488 hs2482 R rfl ?_
          exact x_join (e' := [(0, .pointer (some ⟨g21, 0, none⟩)), (1, .int .i64 (x22)), (2, .slice A3 (l2490).length c4), (7, .int .i64 ((k2496 : Int))), (15, .slice A1775 (x1759).length c1776), (16, .int .i64 ((x1759.length : Int))), (17, .int .i64 ((k2496 : Int))), (29, .bool (x2532))]) (hp' := (g21, Cl 101 [.slice A8 (l24).length c9, .slice A13 (l2492).length c14, .slice A18 (l2494).length c19]) :: (hs2482 ++ (hs7 ++ (hs2485 ++ (hs2488 ++ R))))) ⟨rfl, rfl, rfl, rfl, rfl, rfl, rfl, rfl, trivial⟩ (.cons_cons _ (sub_app hs2482 (sub_app hs7 (sub_app hs2485 (sub_app hs2488 (.refl _)))))) ⟨rfl, rfl, (Base.Le.refl _)⟩
        ·
          rw [if_neg (fun hh => Bool.noConfusion (hh.symm.trans hc2531))] at hm
          refine t_resp 22 rfl (v' := .bool false) (by rw [hc2531] <;> rfl) ?_
          refine t_st rfl (st_not_f rfl) ?_
          refine t_st rfl (st_move rfl) ?_
          refine t_no 24 rfl rfl rfl rfl rfl ?_
          refine t_no 24 rfl rfl rfl rfl rfl ?_
          refine t_no 24 rfl rfl rfl rfl rfl ?_
          refine t_no 24 rfl rfl rfl rfl rfl ?_
          refine t_st rfl (st_pick_t rfl rfl) ?_
          refine t_nil ?_
          obtain rfl := some1 hm
          refine x_front4 [_] hs2482 hs7 hs2485 hs2488 R rfl ?_
          refine x_front4 [_] hs2488 hs2482 hs7 hs2485 R rfl ?_
          refine x_front4 [_] hs2485 hs2488 hs2482 hs7 R rfl ?_
          refine x_front4 [_] hs7 hs2485 hs2488 hs2482 R rfl ?_
          exact x_join (e' := [(0, .pointer (some ⟨g21, 0, none⟩)), (1, .int .i64 (x22)), (2, .slice A3 (l2490).length c4), (7, .int .i64 ((k2496 : Int))), (15, .slice A1775 (x1759).length c1776), (16, .int .i64 ((x1759.length : Int))), (17, .int .i64 ((k2496 : Int))), (29, .bool (true))]) (hp' := (g21, Cl 101 [.slice A8 (l24).length c9, .slice A13 (l2492).length c14, .slice A18 (l2494).length c19]) :: (hs2482 ++ (hs7 ++ (hs2485 ++ (hs2488 ++ R))))) ⟨rfl, rfl, rfl, rfl, rfl, rfl, rfl, rfl, trivial⟩ (.cons_cons _ (sub_app hs2482 (sub_app hs7 (sub_app hs2485 (sub_app hs2488 (.refl _)))))) ⟨rfl, rfl, (Base.Le.refl _)⟩
      ·
        rintro b2527 _ _ ⟨rfl, rfl, hle2528⟩
        have hm := hk2530
        refine c_cond _ rfl (fun hc2548 => ?_) (fun hc2548 => ?_)
        ·
          rw [if_pos hc2548] at hm
          refine c_exit ?_
          refine x_then_exit ?_
          refine x_block_out ?_
          refine x_then_normal ?_
          refine c_region ?_
          refine t_st rfl (st_add rfl rfl (by omega)) ?_
          refine t_st rfl (st_move rfl) ?_
          refine t_nil ?_
          refine x_front4 [_] hs2482 hs7 hs2485 hs2488 R rfl ?_
          refine x_front4 [_] hs2488 hs2482 hs7 hs2485 R rfl ?_
          refine x_front4 [_] hs2485 hs2488 hs2482 hs7 R rfl ?_
          refine x_front4 [_] hs7 hs2485 hs2488 hs2482 R rfl ?_
          exact x_againM (l2490, l2492, l2494) (Option.some.inj hm).symm (e' := [(0, .pointer (some ⟨g21, 0, none⟩)), (1, .int .i64 (x22)), (2, .slice A3 (l2490).length c4), (15, .slice A1775 (x1759).length c1776), (16, .int .i64 ((x1759.length : Int))), (17, .int .i64 ((k2496 : Int) + 1))]) (hp' := (g21, Cl 101 [.slice A8 (l24).length c9, .slice A13 (l2492).length c14, .slice A18 (l2494).length c19]) :: (hs2482 ++ (hs7 ++ (hs2485 ++ (hs2488 ++ R))))) ⟨rfl, rfl, rfl, rfl, rfl, rfl, trivial⟩ (.cons_cons _ (sub_app hs2482 (sub_app hs7 (sub_app hs2485 (sub_app hs2488 (.refl _)))))) ⟨hs2482, hs2485, hs2488, rfl, rfl, ((hle2480.trans hle2528)), (h2483.le hle2528), hln2491, (h2486.le hle2528), hln2493, (h2489.le hle2528), hln2495⟩
        ·
          rw [if_neg (fun hh => Bool.noConfusion (hh.symm.trans hc2548))] at hm
          refine c_skip ?_
          refine x_then_normal ?_
          refine c_seq ?_
          refine c_region ?_
          refine t_st rfl (st_move rfl) ?_
          refine t_st rfl (st_move rfl) ?_
          obtain ⟨x2549, h2550, hm⟩ := bindS hm
          obtain ⟨j2551, hj2552, hx2553⟩ := idx_some h2550
          obtain ⟨cs2554, hs2559, P2560, P2561, hq2562, hr2555, hcs2556, hA2557, hlt2558, hb2563, hho2564⟩ := OS.get (sz := 1) rfl (by decide) (h2483.le hle2528) hx2553
          obtain ⟨rfl, rfl⟩ := hr2555
          refine t_st rfl (st_index_old j2551 rfl rfl hj2552 hlt2558 hA2557 sl104) ?_
          refine t_do rfl (u_putOS hj2552 (sz := 1) (a' := true) rfl [_] (hs7 ++ (hs2485 ++ (hs2488 ++ R))) 0 1 [.bool (true)] rfl (h2483.le hle2528) hx2553 rfl rfl rfl siz4 rfl (by intro u hu; simp only [List.mem_cons, List.not_mem_nil, or_false] at hu; subst hu; rfl) (fun cs hsj hh => by obtain ⟨rfl, rfl⟩ := hh; exact ⟨by decide, rfl, rfl⟩)) ?_
          rintro _ _ ⟨hs2565, rfl, h2566⟩
          refine t_resp 2 rfl (v' := .slice A3 (put l2490 (k2496 : Int) true).length c4) (by simp only [put_length]) ?_
          refine t_nil ?_
          refine x_then_normal ?_
          obtain ⟨⟨x2627, l2628, l2630, l2632⟩, hj2634, hk2634⟩ := bindS hm
          refine c_join (fun b2616 e' hp' => ∃ (hs2619 : Hp), ∃ (hs2622 : Hp), ∃ (hs2625 : Hp), [(0, .pointer (some ⟨g21, 0, none⟩)), (1, .int .i64 (x22)), (2, .slice A3 (l2628).length c4), (7, .int .i64 ((k2496 : Int))), (15, .slice A1775 (x1759).length c1776), (16, .int .i64 ((x1759.length : Int))), (17, .int .i64 ((k2496 : Int))), (52, .bool (x2627))] = e' ∧ (g21, Cl 101 [.slice A8 (l24).length c9, .slice A13 (l2630).length c14, .slice A18 (l2632).length c19]) :: (hs2619 ++ (hs7 ++ (hs2622 ++ (hs2625 ++ R)))) = hp' ∧ b2527.Le b2616 ∧ OS 4 (OT.fr RT.bool) b2616.w (.slice A3 l2628.length c4) l2628 hs2619 ∧ l2628.length = l23.length ∧ OS 3 (OT.fr (RT.int .i64)) b2616.w (.slice A13 l2630.length c14) l2630 hs2622 ∧ l2630.length = l25.length ∧ OS 3 (OT.fr (RT.int .i64)) b2616.w (.slice A18 l2632.length c19) l2632 hs2625 ∧ l2632.length = l26.length) ?_ ?_
          ·
            have hm := hj2634
            refine c_region ?_
            refine t_st rfl (st_move rfl) ?_
            refine t_st rfl (st_nil rfl) ?_
            refine t_st rfl (st_field rfl fld101_2) ?_
            refine t_st rfl (st_load 0 rfl one45 rfl rfl) ?_
            refine t_st rfl (st_move rfl) ?_
            obtain ⟨x2635, h2636, hm⟩ := bindS hm
            obtain ⟨j2637, hj2638, hx2639⟩ := idx_some h2636
            obtain ⟨cs2640, hs2645, P2646, P2647, hq2648, hr2641, hcs2642, hA2643, hlt2644, hb2649, hho2650⟩ := OS.get (sz := 1) rfl (by decide) (h2489.le hle2528) hx2639
            obtain ⟨rfl, rfl⟩ := hr2641
            refine t_st rfl (st_index_old j2637 rfl rfl hj2638 hlt2644 hA2643 sl45) ?_
            refine t_st rfl (st_load_rd rfl one3 (fun w ho => hcs2642 w _ ho (.cons _ (sub_skip hs2565 (sub_skip hs7 (sub_skip hs2485 (List.sublist_append_left _ _))))) 0 _ rfl)) ?_
            refine t_bool rfl (st_lss rfl rfl) (fun hc2651 => ?_) (fun hc2651 => ?_)
            ·
              rw [if_pos hc2651] at hm
              refine t_st rfl (st_move rfl) ?_
              refine t_no 41 rfl rfl rfl rfl rfl ?_
              refine t_no 41 rfl rfl rfl rfl rfl ?_
              refine t_no 41 rfl rfl rfl rfl rfl ?_
              refine t_no 41 rfl rfl rfl rfl rfl ?_
              refine t_no 41 rfl rfl rfl rfl rfl ?_
              refine t_no 41 rfl rfl rfl rfl rfl ?_
              refine t_no 41 rfl rfl rfl rfl rfl ?_
              refine t_no 41 rfl rfl rfl rfl rfl ?_
              refine t_no 41 rfl rfl rfl rfl rfl ?_
              refine t_no 41 rfl rfl rfl rfl rfl ?_
              refine t_st rfl (st_pick_t rfl rfl) ?_
              refine t_nil ?_
              obtain ⟨rfl, rfl, rfl, rfl⟩ := some4 hm
              refine x_front4 [_] hs2565 hs7 hs2485 hs2488 R rfl ?_
              refine x_front4 [_] hs2488 hs2565 hs7 hs2485 R rfl ?_
              refine x_front4 [_] hs2485 hs2488 hs2565 hs7 R rfl ?_
              refine x_front4 [_] hs7 hs2485 hs2488 hs2565 R rfl ?_
              exact x_join (e' := [(0, .pointer (some ⟨g21, 0, none⟩)), (1, .int .i64 (x22)), (2, .slice A3 (put l2490 (k2496 : Int) true).length c4), (7, .int .i64 ((k2496 : Int))), (15, .slice A1775 (x1759).length c1776), (16, .int .i64 ((x1759.length : Int))), (17, .int .i64 ((k2496 : Int))), (52, .bool (true))]) (hp' := (g21, Cl 101 [.slice A8 (l24).length c9, .slice A13 (l2492).length c14, .slice A18 (l2494).length c19]) :: (hs2565 ++ (hs7 ++ (hs2485 ++ (hs2488 ++ R))))) ⟨rfl, rfl, rfl, rfl, rfl, rfl, rfl, rfl, trivial⟩ (.cons_cons _ (sub_app hs2565 (sub_app hs7 (sub_app hs2485 (sub_app hs2488 (.refl _)))))) ⟨hs2565, hs2485, hs2488, rfl, rfl, (Base.Le.refl _), h2566, ((put_length _ _ _).trans hln2491), (h2486.le hle2528), hln2493, (h2489.le hle2528), hln2495⟩
            ·
              rw [if_neg hc2651] at hm
              refine t_st rfl (st_move rfl) ?_
              refine t_yes 41 rfl rfl rfl ?_
              refine t_st rfl (st_move rfl) ?_
              refine t_yes 41 rfl rfl rfl ?_
              refine t_st rfl (st_move rfl) ?_
              refine t_yes 41 rfl rfl rfl ?_
              refine t_st rfl (st_nil rfl) ?_
              refine t_yes 41 rfl rfl rfl ?_
              refine t_st rfl (st_field rfl fld101_2) ?_
              refine t_yes 41 rfl rfl rfl ?_
              refine t_st rfl (st_load 0 rfl one45 rfl rfl) ?_
              refine t_yes 41 rfl rfl rfl ?_
              refine t_st rfl (st_move rfl) ?_
              refine t_yes 41 rfl rfl rfl ?_
              obtain ⟨x2652, h2653, hm⟩ := bindS hm
              obtain ⟨j2654, hj2655, hx2656⟩ := idx_some h2653
              obtain ⟨cs2657, hs2662, P2663, P2664, hq2665, hr2658, hcs2659, hA2660, hlt2661, hb2666, hho2667⟩ := OS.get (sz := 1) rfl (by decide) (h2489.le hle2528) hx2656
              obtain ⟨rfl, rfl⟩ := hr2658
              refine t_st rfl (st_index_old j2654 rfl rfl hj2655 hlt2661 hA2660 sl45) ?_
              refine t_yes 41 rfl rfl rfl ?_
              refine t_st rfl (st_load_rd rfl one3 (fun w ho => hcs2659 w _ ho (.cons _ (sub_skip hs2565 (sub_skip hs7 (sub_skip hs2485 (List.sublist_append_left _ _))))) 0 _ rfl)) ?_
              refine t_yes 41 rfl rfl rfl ?_
              refine t_st rfl (st_move rfl) ?_
              refine t_yes 41 rfl rfl rfl ?_
              obtain ⟨⟨x2668, l2669, l2670, l2671⟩, hcl2672, hm⟩ := bindS hm
              have hm := (unc4E hm)
              refine t_front4 [_] hs2565 hs7 hs2485 hs2488 R rfl ?_
              refine t_front4 [_] hs2488 hs2565 hs7 hs2485 R rfl ?_
              refine t_front4 [_] hs2485 hs2488 hs2565 hs7 R rfl ?_
              refine t_front4 [_] hs7 hs2485 hs2488 hs2565 R rfl ?_
              refine t_out4 [_] [] hs2565 hs7 hs2485 hs2488 R rfl ?_
              refine t_callG _ rfl call92 rfl (ih _ _ x2652 (put l2490 (k2496 : Int) true) l24 l2492 l2494 g21 A3 c4 hs2565 A8 c9 hs7 A13 c14 hs2485 A18 c19 hs2488 h2566 (h10.le (hle2480.trans hle2528)) (h2486.le hle2528) (h2489.le hle2528) x2668 l2669 l2670 l2671 hcl2672) ?_
              rintro _ b2673 _ hle2674 ⟨hs2675, hs2676, hs2677, rfl, rfl, h2678, h2679, h2680, h2681, h2682, h2683⟩
              refine t_in4 [_] [] hs2675 hs7 hs2676 hs2677 R rfl ?_
              refine t_resp 2 rfl (v' := .slice A3 (l2669).length c4) (by rw [h2679]) ?_
              refine t_hresp 0 rfl (o' := Cl 101 [.slice A8 (l24).length c9, .slice A13 (l2670).length c14, .slice A18 (l2671).length c19]) (by simp only [h2681]) ?_
              refine t_hresp 0 rfl (o' := Cl 101 [.slice A8 (l24).length c9, .slice A13 (l2670).length c14, .slice A18 (l2671).length c19]) (by simp only [h2683]) ?_
              refine t_st rfl (st_pick_f rfl rfl) ?_
              refine t_nil ?_
              obtain ⟨rfl, rfl, rfl, rfl⟩ := some4 hm
              refine x_front4 [_] hs2675 hs7 hs2676 hs2677 R rfl ?_
              refine x_front4 [_] hs2677 hs2675 hs7 hs2676 R rfl ?_
              refine x_front4 [_] hs2676 hs2677 hs2675 hs7 R rfl ?_
              refine x_front4 [_] hs7 hs2676 hs2677 hs2675 R rfl ?_
              exact x_join (e' := [(0, .pointer (some ⟨g21, 0, none⟩)), (1, .int .i64 (x22)), (2, .slice A3 (l2669).length c4), (7, .int .i64 ((k2496 : Int))), (15, .slice A1775 (x1759).length c1776), (16, .int .i64 ((x1759.length : Int))), (17, .int .i64 ((k2496 : Int))), (52, .bool (x2668))]) (hp' := (g21, Cl 101 [.slice A8 (l24).length c9, .slice A13 (l2670).length c14, .slice A18 (l2671).length c19]) :: (hs2675 ++ (hs7 ++ (hs2676 ++ (hs2677 ++ R))))) ⟨rfl, rfl, rfl, rfl, rfl, rfl, rfl, rfl, trivial⟩ (.cons_cons _ (sub_app hs2675 (sub_app hs7 (sub_app hs2676 (sub_app hs2677 (.refl _)))))) ⟨hs2675, hs2676, hs2677, rfl, rfl, hle2674, h2678, (h2679.trans ((put_length _ _ _).trans hln2491)), h2680, (h2681.trans hln2493), h2682, (h2683.trans hln2495)⟩
          ·
            rintro b2616 _ _ ⟨hs2619, hs2622, hs2625, rfl, rfl, hle2617, h2620, hln2629, h2623, hln2631, h2626, hln2633⟩
            have hm := (unc4E hk2634)
            refine c_cond _ rfl (fun hc2684 => ?_) (fun hc2684 => ?_)
            ·
              rw [if_pos hc2684] at hm
              obtain ⟨⟨l2765, l2767⟩, hj2769, hk2769⟩ := bindS hm
              refine c_join (fun b2757 e' hp' => ∃ (hs2760 : Hp), ∃ (hs2763 : Hp), [] = e' ∧ (g21, Cl 101 [.slice A8 (l24).length c9, .slice A13 (l2765).length c14, .slice A18 (l2767).length c19]) :: (hs2619 ++ (hs7 ++ (hs2760 ++ (hs2763 ++ R)))) = hp' ∧ b2616.Le b2757 ∧ OS 3 (OT.fr (RT.int .i64)) b2757.w (.slice A13 l2765.length c14) l2765 hs2760 ∧ l2765.length = l25.length ∧ OS 3 (OT.fr (RT.int .i64)) b2757.w (.slice A18 l2767.length c19) l2767 hs2763 ∧ l2767.length = l26.length) ?_ ?_
              ·
                have hm := hj2769
                obtain ⟨x2806, h2807, hm⟩ := bindS hm
                obtain ⟨x2824, h2825, hm⟩ := bindS hm
                refine c_front3 [_] hs2619 hs7 hs2622 (hs2625 ++ R) rfl ?_
                refine c_front4 [_] hs2622 hs2619 hs7 hs2625 R rfl ?_
                refine D_drawS ((hs2625 ++ (hs2619 ++ (hs7 ++ R)))) mixed ?_
                refine D_st (Base.Le.refl _) 0 rfl (by kernel_rfl) (by kernel_rfl) (by kernel_rfl) rfl (st_move rfl) (.cons _ (sub_app hs2625 (sub_skip hs2622 (sub_app hs2619 (sub_app hs7 (.refl _)))))) ?_
                refine D_st (Base.Le.refl _) 1 rfl (by kernel_rfl) (by kernel_rfl) (by kernel_rfl) rfl (st_nil rfl) (.cons _ (sub_app hs2625 (sub_skip hs2622 (sub_app hs2619 (sub_app hs7 (.refl _)))))) ?_
                refine D_st (Base.Le.refl _) 2 rfl (by kernel_rfl) (by kernel_rfl) (by kernel_rfl) rfl (st_field rfl fld101_1) (.cons _ (sub_app hs2625 (sub_skip hs2622 (sub_app hs2619 (sub_app hs7 (.refl _)))))) ?_
                refine D_st (Base.Le.refl _) 4 rfl (by kernel_rfl) (by kernel_rfl) (by kernel_rfl) rfl (st_move rfl) (.cons _ (sub_app hs2625 (sub_skip hs2622 (sub_app hs2619 (sub_app hs7 (.refl _)))))) ?_
                refine D_st (Base.Le.refl _) 5 rfl (by kernel_rfl) (by kernel_rfl) (by kernel_rfl) rfl (st_move rfl) (.cons _ (sub_app hs2625 (sub_skip hs2622 (sub_app hs2619 (sub_app hs7 (.refl _)))))) ?_
                refine D_st (Base.Le.refl _) 6 rfl (by kernel_rfl) (by kernel_rfl) (by kernel_rfl) rfl (st_nil rfl) (.cons _ (sub_app hs2625 (sub_skip hs2622 (sub_app hs2619 (sub_app hs7 (.refl _)))))) ?_
                refine D_st (Base.Le.refl _) 7 rfl (by kernel_rfl) (by kernel_rfl) (by kernel_rfl) rfl (st_field rfl fld101_2) (.cons _ (sub_app hs2625 (sub_skip hs2622 (sub_app hs2619 (sub_app hs7 (.refl _)))))) ?_
                refine D_st (Base.Le.refl _) 9 rfl (by kernel_rfl) (by kernel_rfl) (by kernel_rfl) rfl (st_move rfl) (.cons _ (sub_app hs2625 (sub_skip hs2622 (sub_app hs2619 (sub_app hs7 (.refl _)))))) ?_
                refine D_st (Base.Le.refl _) 10 rfl (by kernel_rfl) (by kernel_rfl) (by kernel_rfl) rfl (st_move rfl) (.cons _ (sub_app hs2625 (sub_skip hs2622 (sub_app hs2619 (sub_app hs7 (.refl _)))))) ?_
                refine D_st (Base.Le.refl _) 11 rfl (by kernel_rfl) (by kernel_rfl) (by kernel_rfl) rfl (st_move rfl) (.cons _ (sub_app hs2625 (sub_skip hs2622 (sub_app hs2619 (sub_app hs7 (.refl _)))))) ?_
                refine D_all [3, 8] (by kernel_rfl) rfl ?_
                refine R_do (Base.Le.refl _) rfl rfl (Stable.does (st_load 0 rfl one45 rfl rfl)) ?_ ?_
                ·
                  rintro _ _ ⟨rfl, rfl⟩
                  refine ⟨.inr (.cons _ (sub_app hs2625 (sub_skip hs2622 (sub_app hs2619 (sub_app hs7 (.refl _)))))), ?_⟩
                  refine D_all [8] (by kernel_rfl) rfl ?_
                  refine R_do (Base.Le.refl _) rfl rfl (Stable.does (st_load 0 rfl one45 rfl rfl)) ?_ ?_
                  ·
                    rintro _ _ ⟨rfl, rfl⟩
                    refine ⟨.inr (.cons _ (sub_app hs2625 (sub_skip hs2622 (sub_app hs2619 (sub_app hs7 (.refl _)))))), ?_⟩
                    obtain ⟨j2808, hj2809, hx2810⟩ := idx_some h2807
                    obtain ⟨cs2811, hs2816, P2817, P2818, hq2819, hr2812, hcs2813, hA2814, hlt2815, hb2820, hho2821⟩ := OS.get (sz := 1) rfl (by decide) h2623 hx2810
                    obtain ⟨rfl, rfl⟩ := hr2812
                    refine D_st (Base.Le.refl _) 12 rfl (by kernel_rfl) (by kernel_rfl) (by kernel_rfl) rfl (st_index_old j2808 rfl rfl hj2809 hlt2815 hA2814 sl45) (.cons _ (sub_app hs2625 (sub_skip hs2622 (sub_app hs2619 (sub_app hs7 (.refl _)))))) ?_
                    refine d_front2 [_] hs2625 hs2622 (hs2619 ++ (hs7 ++ R)) rfl ?_
                    refine D_all [13] (by kernel_rfl) rfl ?_
                    refine R_do (Base.Le.refl _) rfl rfl (u_putOS hj2809 (sz := 1) (a' := (k2496 : Int)) rfl [_] (hs2625 ++ (hs2619 ++ (hs7 ++ R))) 0 1 [.int .i64 ((k2496 : Int))] rfl h2623 hx2810 rfl rfl rfl siz3 rfl (by intro u hu; simp only [List.mem_cons, List.not_mem_nil, or_false] at hu; subst hu; rfl) (fun cs hsj hh => by obtain ⟨rfl, rfl⟩ := hh; exact ⟨by decide, rfl, rfl⟩)) ?_ ?_
                    ·
                      rintro _ _ ⟨hs2822, rfl, h2823⟩
                      refine ⟨.inr (.cons _ (sub_skip hs2822 (sub_app hs2625 (sub_app hs2619 (sub_app hs7 (.refl _)))))), ?_⟩
                      refine d_hresp 0 rfl (o' := Cl 101 [.slice A8 (l24).length c9, .slice A13 (put l2630 x22 (k2496 : Int)).length c14, .slice A18 (l2632).length c19]) (by simp only [put_length]) ?_
                      obtain ⟨j2826, hj2827, hx2828⟩ := idx_some h2825
                      obtain ⟨cs2829, hs2834, P2835, P2836, hq2837, hr2830, hcs2831, hA2832, hlt2833, hb2838, hho2839⟩ := OS.get (sz := 1) rfl (by decide) h2626 hx2828
                      obtain ⟨rfl, rfl⟩ := hr2830
                      refine D_st (Base.Le.refl _) 14 rfl (by kernel_rfl) (by kernel_rfl) (by kernel_rfl) rfl (st_index_old j2826 rfl rfl hj2827 hlt2833 hA2832 sl45) (.cons _ (sub_skip hs2822 (sub_app hs2625 (sub_app hs2619 (sub_app hs7 (.refl _)))))) ?_
                      refine d_front2 [_] hs2822 hs2625 (hs2619 ++ (hs7 ++ R)) rfl ?_
                      refine D_all [15] (by kernel_rfl) rfl ?_
                      refine R_do (Base.Le.refl _) rfl rfl (u_putOS hj2827 (sz := 1) (a' := x22) rfl [_] (hs2822 ++ (hs2619 ++ (hs7 ++ R))) 0 1 [.int .i64 (x22)] rfl h2626 hx2828 rfl rfl rfl siz3 rfl (by intro u hu; simp only [List.mem_cons, List.not_mem_nil, or_false] at hu; subst hu; rfl) (fun cs hsj hh => by obtain ⟨rfl, rfl⟩ := hh; exact ⟨by decide, rfl, rfl⟩)) ?_ ?_
                      ·
                        rintro _ _ ⟨hs2840, rfl, h2841⟩
                        refine ⟨.inl (by kernel_rfl), ?_⟩
                        refine d_hresp 0 rfl (o' := Cl 101 [.slice A8 (l24).length c9, .slice A13 (put l2630 x22 (k2496 : Int)).length c14, .slice A18 (put l2632 (k2496 : Int) x22).length c19]) (by simp only [put_length]) ?_
                        refine D_done (by kernel_rfl) ?_
                        obtain ⟨rfl, rfl⟩ := some2 hm
                        refine x_front2 [_] hs2840 hs2822 (hs2619 ++ (hs7 ++ R)) rfl ?_
                        refine x_front4 [_] hs2822 hs2840 hs2619 hs7 R rfl ?_
                        refine x_front4 [_] hs7 hs2822 hs2840 hs2619 R rfl ?_
                        exact x_join (e' := []) (hp' := (g21, Cl 101 [.slice A8 (l24).length c9, .slice A13 (put l2630 x22 (k2496 : Int)).length c14, .slice A18 (put l2632 (k2496 : Int) x22).length c19]) :: (hs2619 ++ (hs7 ++ (hs2822 ++ (hs2840 ++ R))))) trivial (.cons_cons _ (sub_app hs2619 (sub_app hs7 (sub_app hs2822 (sub_app hs2840 (.refl _)))))) ⟨hs2822, hs2840, rfl, rfl, (Base.Le.refl _), h2823, ((put_length _ _ _).trans hln2631), h2841, ((put_length _ _ _).trans hln2633)⟩
                      exact R_nil
                    exact R_nil
                  exact R_nil
                refine R_do (Base.Le.refl _) rfl rfl (Stable.does (st_load 0 rfl one45 rfl rfl)) ?_ ?_
                ·
                  rintro _ _ ⟨rfl, rfl⟩
                  refine ⟨.inr (.cons _ (sub_app hs2625 (sub_skip hs2622 (sub_app hs2619 (sub_app hs7 (.refl _)))))), ?_⟩
                  refine D_all [3] (by kernel_rfl) rfl ?_
                  refine R_do (Base.Le.refl _) rfl rfl (Stable.does (st_load 0 rfl one45 rfl rfl)) ?_ ?_
                  ·
                    rintro _ _ ⟨rfl, rfl⟩
                    refine ⟨.inr (.cons _ (sub_app hs2625 (sub_skip hs2622 (sub_app hs2619 (sub_app hs7 (.refl _)))))), ?_⟩
                    obtain ⟨j2808, hj2809, hx2810⟩ := idx_some h2807
                    obtain ⟨cs2811, hs2816, P2817, P2818, hq2819, hr2812, hcs2813, hA2814, hlt2815, hb2820, hho2821⟩ := OS.get (sz := 1) rfl (by decide) h2623 hx2810
                    obtain ⟨rfl, rfl⟩ := hr2812
                    refine D_st (Base.Le.refl _) 12 rfl (by kernel_rfl) (by kernel_rfl) (by kernel_rfl) rfl (st_index_old j2808 rfl rfl hj2809 hlt2815 hA2814 sl45) (.cons _ (sub_app hs2625 (sub_skip hs2622 (sub_app hs2619 (sub_app hs7 (.refl _)))))) ?_
                    refine d_front2 [_] hs2625 hs2622 (hs2619 ++ (hs7 ++ R)) rfl ?_
                    refine D_all [13] (by kernel_rfl) rfl ?_
                    refine R_do (Base.Le.refl _) rfl rfl (u_putOS hj2809 (sz := 1) (a' := (k2496 : Int)) rfl [_] (hs2625 ++ (hs2619 ++ (hs7 ++ R))) 0 1 [.int .i64 ((k2496 : Int))] rfl h2623 hx2810 rfl rfl rfl siz3 rfl (by intro u hu; simp only [List.mem_cons, List.not_mem_nil, or_false] at hu; subst hu; rfl) (fun cs hsj hh => by obtain ⟨rfl, rfl⟩ := hh; exact ⟨by decide, rfl, rfl⟩)) ?_ ?_
                    ·
                      rintro _ _ ⟨hs2822, rfl, h2823⟩
                      refine ⟨.inr (.cons _ (sub_skip hs2822 (sub_app hs2625 (sub_app hs2619 (sub_app hs7 (.refl _)))))), ?_⟩
                      refine d_hresp 0 rfl (o' := Cl 101 [.slice A8 (l24).length c9, .slice A13 (put l2630 x22 (k2496 : Int)).length c14, .slice A18 (l2632).length c19]) (by simp only [put_length]) ?_
                      obtain ⟨j2826, hj2827, hx2828⟩ := idx_some h2825
                      obtain ⟨cs2829, hs2834, P2835, P2836, hq2837, hr2830, hcs2831, hA2832, hlt2833, hb2838, hho2839⟩ := OS.get (sz := 1) rfl (by decide) h2626 hx2828
                      obtain ⟨rfl, rfl⟩ := hr2830
                      refine D_st (Base.Le.refl _) 14 rfl (by kernel_rfl) (by kernel_rfl) (by kernel_rfl) rfl (st_index_old j2826 rfl rfl hj2827 hlt2833 hA2832 sl45) (.cons _ (sub_skip hs2822 (sub_app hs2625 (sub_app hs2619 (sub_app hs7 (.refl _)))))) ?_
                      refine d_front2 [_] hs2822 hs2625 (hs2619 ++ (hs7 ++ R)) rfl ?_
                      refine D_all [15] (by kernel_rfl) rfl ?_
                      refine R_do (Base.Le.refl _) rfl rfl (u_putOS hj2827 (sz := 1) (a' := x22) rfl [_] (hs2822 ++ (hs2619 ++ (hs7 ++ R))) 0 1 [.int .i64 (x22)] rfl h2626 hx2828 rfl rfl rfl siz3 rfl (by intro u hu; simp only [List.mem_cons, List.not_mem_nil, or_false] at hu; subst hu; rfl) (fun cs hsj hh => by obtain ⟨rfl, rfl⟩ := hh; exact ⟨by decide, rfl, rfl⟩)) ?_ ?_
                      ·
                        rintro _ _ ⟨hs2840, rfl, h2841⟩
                        refine ⟨.inl (by kernel_rfl), ?_⟩
                        refine d_hresp 0 rfl (o' := Cl 101 [.slice A8 (l24).length c9, .slice A13 (put l2630 x22 (k2496 : Int)).length c14, .slice A18 (put l2632 (k2496 : Int) x22).length c19]) (by simp only [put_length]) ?_
                        refine D_done (by kernel_rfl) ?_
                        obtain ⟨rfl, rfl⟩ := some2 hm
                        refine x_front2 [_] hs2840 hs2822 (hs2619 ++ (hs7 ++ R)) rfl ?_
                        refine x_front4 [_] hs2822 hs2840 hs2619 hs7 R rfl ?_
                        refine x_front4 [_] hs7 hs2822 hs2840 hs2619 R rfl ?_
                        exact x_join (e' := []) (hp' := (g21, Cl 101 [.slice A8 (l24).length c9, .slice A13 (put l2630 x22 (k2496 : Int)).length c14, .slice A18 (put l2632 (k2496 : Int) x22).length c19]) :: (hs2619 ++ (hs7 ++ (hs2822 ++ (hs2840 ++ R))))) trivial (.cons_cons _ (sub_app hs2619 (sub_app hs7 (sub_app hs2822 (sub_app hs2840 (.refl _)))))) ⟨hs2822, hs2840, rfl, rfl, (Base.Le.refl _), h2823, ((put_length _ _ _).trans hln2631), h2841, ((put_length _ _ _).trans hln2633)⟩
                      exact R_nil
                    exact R_nil
                  exact R_nil
                exact R_nil
              ·
                rintro b2757 _ _ ⟨hs2760, hs2763, rfl, rfl, hle2758, h2761, hln2766, h2764, hln2768⟩
                have hm := (unc2E hk2769)
                refine c_seq ?_
                refine c_region ?_
                refine t_st rfl (st_assign rfl) ?_
                refine t_nil ?_
                refine x_then_normal ?_
                refine c_ret ?_
                refine x_block_ret ?_
                refine x_then_ret ?_
                refine x_then_ret ?_
                refine x_block_ret ?_
                refine x_then_ret ?_
                have hq2842 := houtL1778 _ (Option.some.inj hm).symm
                rw [hq2842] at hk2499
                have hm := elimR hk2499
                obtain ⟨rfl, rfl, rfl, rfl⟩ := some4 hm
                refine x_front4 [_] hs2619 hs7 hs2760 hs2763 R rfl ?_
                refine x_front4 [_] hs2763 hs2619 hs7 hs2760 R rfl ?_
                refine x_front4 [_] hs2760 hs2763 hs2619 hs7 R rfl ?_
                refine x_front4 [_] hs7 hs2760 hs2763 hs2619 R rfl ?_
                exact retM (rs := [.tmp 6]) [.bool (true)] (hle2480.trans (hle2528.trans (hle2617.trans hle2758))) (by decide) rfl ⟨rfl, trivial⟩ rfl (hp' := (g21, Cl 101 [.slice A8 (l24).length c9, .slice A13 (l2765).length c14, .slice A18 (l2767).length c19]) :: (hs2619 ++ (hs7 ++ (hs2760 ++ (hs2763 ++ R))))) (.cons_cons _ (sub_app hs2619 (sub_app hs7 (sub_app hs2760 (sub_app hs2763 (.refl _)))))) ⟨hs2619, hs2760, hs2763, rfl, rfl, (h2620.le hle2758), hln2629, h2761, hln2766, h2764, hln2768⟩
            ·
              rw [if_neg (fun hh => Bool.noConfusion (hh.symm.trans hc2684))] at hm
              refine c_skip ?_
              refine x_block_normal ?_
              refine x_then_normal ?_
              refine c_region ?_
              refine t_st rfl (st_add rfl rfl (by omega)) ?_
              refine t_st rfl (st_move rfl) ?_
              refine t_nil ?_
              refine x_front4 [_] hs2619 hs7 hs2622 hs2625 R rfl ?_
              refine x_front4 [_] hs2625 hs2619 hs7 hs2622 R rfl ?_
              refine x_front4 [_] hs2622 hs2625 hs2619 hs7 R rfl ?_
              refine x_front4 [_] hs7 hs2622 hs2625 hs2619 R rfl ?_
              exact x_againM (l2628, l2630, l2632) (Option.some.inj hm).symm (e' := [(0, .pointer (some ⟨g21, 0, none⟩)), (1, .int .i64 (x22)), (2, .slice A3 (l2628).length c4), (15, .slice A1775 (x1759).length c1776), (16, .int .i64 ((x1759.length : Int))), (17, .int .i64 ((k2496 : Int) + 1))]) (hp' := (g21, Cl 101 [.slice A8 (l24).length c9, .slice A13 (l2630).length c14, .slice A18 (l2632).length c19]) :: (hs2619 ++ (hs7 ++ (hs2622 ++ (hs2625 ++ R))))) ⟨rfl, rfl, rfl, rfl, rfl, rfl, trivial⟩ (.cons_cons _ (sub_app hs2619 (sub_app hs7 (sub_app hs2622 (sub_app hs2625 (.refl _)))))) ⟨hs2619, hs2622, hs2625, rfl, rfl, ((hle2480.trans (hle2528.trans hle2617))), h2620, hln2629, h2623, hln2631, h2626, hln2633⟩
    ·
      rintro ⟨l2490, l2492, l2494⟩ b2479 _ _ ⟨hs2482, hs2485, hs2488, rfl, rfl, hle2480, h2483, hln2491, h2486, hln2493, h2489, hln2495⟩ hq2843
      rw [hq2843] at hk2499
      have hm := elimL hk2499
      have hm := (unc3E hm)
      refine c_seq ?_
      refine c_region ?_
      refine t_st rfl (st_lss_f rfl rfl (by omega)) ?_
      refine t_nil ?_
      refine x_then_normal ?_
      refine c_seq ?_
      refine c_cond_f rfl ?_
      refine c_exit ?_
      refine x_then_exit ?_
      refine x_then_exit ?_
      refine x_block_out ?_
      refine x_then_normal ?_
      refine c_seq ?_
      refine c_region ?_
      refine t_st rfl (st_assign rfl) ?_
      refine t_nil ?_
      refine x_then_normal ?_
      refine c_ret ?_
      obtain ⟨rfl, rfl, rfl, rfl⟩ := some4 hm
      refine x_front4 [_] hs2482 hs7 hs2485 hs2488 R rfl ?_
      refine x_front4 [_] hs2488 hs2482 hs7 hs2485 R rfl ?_
      refine x_front4 [_] hs2485 hs2488 hs2482 hs7 R rfl ?_
      refine x_front4 [_] hs7 hs2485 hs2488 hs2482 R rfl ?_
      exact retM (rs := [.tmp 6]) [.bool (false)] hle2480 (by decide) rfl ⟨rfl, trivial⟩ rfl (hp' := (g21, Cl 101 [.slice A8 (l24).length c9, .slice A13 (l2492).length c14, .slice A18 (l2494).length c19]) :: (hs2482 ++ (hs7 ++ (hs2485 ++ (hs2488 ++ R))))) (.cons_cons _ (sub_app hs2482 (sub_app hs7 (sub_app hs2485 (sub_app hs2488 (.refl _)))))) ⟨hs2482, hs2485, hs2488, rfl, rfl, h2483, hln2491, h2486, hln2493, h2489, hln2495⟩

set_option maxRecDepth 20000 in
theorem cFleetMatch (b : Base) (R : Hp) (l4 : (List FleetTask)) (x5 : Int) (l9 : (List (List Int))) (A1 : Option Addr) (c2 : Nat) (A6 : Option Addr) (c7 : Nat) (h3 : FZ rFleetTask b.w A1 c2 l4) (h8 : FZ (RT.list (RT.int .i64)) b.w A6 c7 l9) (l949 : (List (List Bool))) (l950 : (List Int)) (l951 : (List Int)) (hm : mFleetMatch l4 x5 l9 = some (l949, l950, l951)) :
    CallsG Try.prog 53 [.slice A1 (l4).length c2, .int .i64 (x5), .slice A6 (l9).length c7] b (R) (fun v b' hp' => ∃ (g948 : Nat), ∃ (A935 : Option Addr), ∃ (c936 : Nat), ∃ (hs934 : Hp), ∃ (A940 : Option Addr), ∃ (c941 : Nat), ∃ (hs939 : Hp), ∃ (A945 : Option Addr), ∃ (c946 : Nat), ∃ (hs944 : Hp), .pointer (some ⟨g948, 0, none⟩) = v ∧ (g948, Cl 101 [.slice A935 (l949).length c936, .slice A940 (l950).length c941, .slice A945 (l951).length c946]) :: (hs934 ++ (hs939 ++ (hs944 ++ R))) = hp' ∧ OS 104 (OT.fr (RT.list RT.bool)) b'.w (.slice A935 l949.length c936) l949 hs934 ∧ OS 3 (OT.fr (RT.int .i64)) b'.w (.slice A940 l950.length c941) l950 hs939 ∧ OS 3 (OT.fr (RT.int .i64)) b'.w (.slice A945 l951.length c946) l951 hs944) := by
  refine fn_enterG 81 Try.func53 rfl Try.ntmps53 rfl ?_
  unfold mFleetMatch at hm
  refine c_seq ?_
  refine c_region ?_
  refine t_st rfl (st_assign rfl) ?_
  refine t_nil ?_
  refine x_then_normal ?_
  refine c_seq ?_
  refine c_region ?_
  refine t_do rfl (u_bslice (el := 3) [(0, .int .i64 ((-1)))] [.int .i64 ((-1))] rfl (fun _ => by kernel_rfl)) ?_
  rintro _ _ ⟨g952, rfl, rfl⟩
  refine t_st rfl (st_move rfl) ?_
  refine t_st rfl (st_len rfl sl22) ?_
  refine t_seg 0 [] R rfl rfl ?_
  have h954 : OS 3 (OT.fr (RT.int .i64)) b.w (.slice (some ⟨g952, 0, none⟩) 1 1) [(-1)] [(g952, Cl 3 [.int .i64 ((-1))])] := OS.lit [[.int .i64 ((-1))]] rfl ⟨rfl, trivial⟩ rfl (by decide)
  obtain ⟨l955, hcl956, hm⟩ := bindS hm
  refine t_do rfl (u_callWF [] ([(g952, Cl 3 [.int .i64 ((-1))])] ++ R) _ rfl call91 rfl (fun w ho => cSlicesRepeat _ [] [(-1)] (l4.length : Int) (some ⟨g952, 0, none⟩) 1 (OS.now (o := (OT.fr (RT.int .i64))) (l := [(-1)]) (hs := [(g952, Cl 3 [.int .i64 ((-1))])]) h954 ho (List.sublist_append_left _ _)) l955 hcl956)) ?_
  rintro _ _ ⟨_, _, rfl, A957, c958, hs959, rfl, hq962, h960⟩
  obtain rfl := List.append_cancel_right hq962
  have h961 := flat_fz (w' := b.w) (fun _ _ _ _ h => h) h960
  refine t_do rfl (u_bslice (el := 3) [(0, .int .i64 ((-1)))] [.int .i64 ((-1))] rfl (fun _ => by kernel_rfl)) ?_
  rintro _ _ ⟨g963, rfl, rfl⟩
  refine t_st rfl (st_move rfl) ?_
  refine t_st rfl (st_len rfl sl22) ?_
  refine t_seg 0 [] (hs959 ++ ([(g952, Cl 3 [.int .i64 ((-1))])] ++ R)) rfl rfl ?_
  have h965 : OS 3 (OT.fr (RT.int .i64)) b.w (.slice (some ⟨g963, 0, none⟩) 1 1) [(-1)] [(g963, Cl 3 [.int .i64 ((-1))])] := OS.lit [[.int .i64 ((-1))]] rfl ⟨rfl, trivial⟩ rfl (by decide)
  obtain ⟨l966, hcl967, hm⟩ := bindS hm
  refine t_do rfl (u_callWF [] ([(g963, Cl 3 [.int .i64 ((-1))])] ++ (hs959 ++ ([(g952, Cl 3 [.int .i64 ((-1))])] ++ R))) _ rfl call91 rfl (fun w ho => cSlicesRepeat _ [] [(-1)] (l4.length : Int) (some ⟨g963, 0, none⟩) 1 (OS.now (o := (OT.fr (RT.int .i64))) (l := [(-1)]) (hs := [(g963, Cl 3 [.int .i64 ((-1))])]) h965 ho (List.sublist_append_left _ _)) l966 hcl967)) ?_
  rintro _ _ ⟨_, _, rfl, A968, c969, hs970, rfl, hq973, h971⟩
  obtain rfl := List.append_cancel_right hq973
  have h972 := flat_fz (w' := b.w) (fun _ _ _ _ h => h) h971
  refine t_st rfl (st_build (v := .agg #[.slice none 0 0, .slice A957 (l955).length c958, .slice A968 (l966).length c969]) [(1, .slice A957 (l955).length c958), (2, .slice A968 (l966).length c969)] rfl (fun _ => by kernel_rfl)) ?_
  refine t_do rfl (u_box _ rfl rfl) ?_
  rintro _ _ ⟨g974, rfl, rfl⟩
  refine t_st rfl (st_assign rfl) ?_
  refine t_nil ?_
  refine x_then_normal ?_
  refine c_seq ?_
  refine c_seq ?_
  refine c_region ?_
  refine t_st rfl (st_move rfl) ?_
  refine t_st rfl (st_len rfl sl22) ?_
  refine t_st rfl (st_move rfl) ?_
  refine t_nil ?_
  refine x_then_normal ?_
  refine c_block ?_
  have hb976 := (FZ.bd h3)
  refine c_front3 [_] hs970 [(g963, Cl 3 [.int .i64 ((-1))])] hs959 ([(g952, Cl 3 [.int .i64 ((-1))])] ++ R) rfl ?_
  obtain ⟨l1513, hl1515, hk1516⟩ := bindS hm
  refine c_forS (fun k1514 => fun l1513 => fun b1506 e' hp' => ∃ (A1510 : Option Addr), ∃ (c1511 : Nat), ∃ (hs1509 : Hp), [(0, .slice A1 (l4).length c2), (1, .int .i64 (x5)), (2, .slice A6 (l9).length c7), (7, .pointer (some ⟨g974, 0, none⟩)), (24, .slice A1 (l4).length c2), (25, .int .i64 ((l4.length : Int))), (26, .int .i64 ((k1514 : Int)))] = e' ∧ (g974, Cl 101 [.slice A1510 (l1513).length c1511, .slice A957 (l955).length c958, .slice A968 (l966).length c969]) :: (hs1509 ++ (hs959 ++ (hs970 ++ R))) = hp' ∧ b.Le b1506 ∧ OS 104 (OT.fr (RT.list RT.bool)) b1506.w (.slice A1510 l1513.length c1511) l1513 hs1509) hl1515 (e' := [(0, .slice A1 (l4).length c2), (1, .int .i64 (x5)), (2, .slice A6 (l9).length c7), (7, .pointer (some ⟨g974, 0, none⟩)), (24, .slice A1 (l4).length c2), (25, .int .i64 ((l4.length : Int))), (26, .int .i64 0)]) (hp' := (g974, Cl 101 [.slice none 0 0, .slice A957 (l955).length c958, .slice A968 (l966).length c969]) :: ([] ++ (hs959 ++ (hs970 ++ R)))) ⟨rfl, rfl, rfl, rfl, rfl, rfl, rfl, trivial⟩ (.cons_cons _ (sub_app hs959 (sub_app hs970 (sub_skip [(g963, Cl 3 [.int .i64 ((-1))])] (sub_skip [(g952, Cl 3 [.int .i64 ((-1))])] (.refl _)))))) ⟨none, 0, [], rfl, rfl, (Base.Le.refl _), OS.nil⟩ ?_ ?_
  ·
    rintro k1514 l1513 b1506 _ _ oL975 hknL975 ⟨A1510, c1511, hs1509, rfl, rfl, hle1507, h1512⟩ hstepL975
    unfold mFleetMatch_L975 at hstepL975
    have hm := hstepL975
    refine c_seq ?_
    refine c_region ?_
    refine t_st rfl (st_lss_t rfl rfl (by omega)) ?_
    refine t_nil ?_
    refine x_then_normal ?_
    refine c_seq ?_
    refine c_cond_t rfl ?_
    refine c_skip ?_
    refine x_then_normal ?_
    refine c_seq ?_
    refine c_block ?_
    refine c_seq ?_
    refine c_region ?_
    obtain ⟨x1517, h1518, hm⟩ := bindS hm
    obtain ⟨j1519, hj1520, hx1521⟩ := idx_some h1518
    obtain ⟨cs1522, hr1523, hcs1524, hA1525, hlt1526⟩ := FZ.get (sz := 6) rfl (by decide) (h3.le hle1507) hx1521
    obtain ⟨_, _, rfl, rfl, ⟨_, _, rfl, rfl, ⟨_, _, rfl, rfl, ⟨_, _, rfl, rfl, ⟨_, _, rfl, rfl, rfl⟩⟩⟩⟩⟩ := hr1523
    refine t_st rfl (st_index_old j1519 rfl rfl hj1520 hlt1526 hA1525 sl22) ?_
    refine t_st rfl (st_loadN_old (vs := [.int .i64 (x1517.From), .int .i64 (x1517.To), .int .i64 (x1517.Dep), .int .i64 (x1517.Arr), .int .i64 (x1517.Km), .int .i64 (x1517.Units)]) 6 rfl agg36 hA1525 rfl (fun j u hu => hcs1524 j u hu)) ?_
    refine t_do rfl (u_alloc [.int .i64 0, .int .i64 0, .int .i64 0, .int .i64 0, .int .i64 0, .int .i64 0] zero36 rfl) ?_
    rintro _ _ ⟨g1527, rfl, rfl⟩
    refine t_do rfl (u_storeN (vs := [_, _, _, _, _, _]) 0 6 rfl rfl rfl siz36 rfl (by intro u hu; simp only [List.mem_cons, List.not_mem_nil, or_false] at hu; rcases hu with rfl | rfl | rfl | rfl | rfl | rfl <;> rfl) rfl (by simp)) ?_
    rintro _ _ rfl
    refine t_nil ?_
    refine x_then_normal ?_
    refine c_seq ?_
    refine c_region ?_
    refine t_st rfl (st_assign rfl) ?_
    refine t_nil ?_
    refine x_then_normal ?_
    refine c_seq ?_
    refine c_seq ?_
    refine c_region ?_
    refine t_st rfl (st_move rfl) ?_
    refine t_st rfl (st_len rfl sl22) ?_
    refine t_st rfl (st_move rfl) ?_
    refine t_nil ?_
    refine x_then_normal ?_
    refine c_block ?_
    have hb1529 := (FZ.bd (h3.le hle1507))
    refine c_pullb 1 rfl ?_
    refine c_front3 [_, _] hs1509 hs959 hs970 R rfl ?_
    refine c_front3 [_, _] hs970 hs1509 hs959 R rfl ?_
    refine c_front3 [_, _] hs959 hs970 hs1509 R rfl ?_
    obtain ⟨l1691, hl1693, hk1694⟩ := bindS hm
    refine c_forS (fun k1692 => fun l1691 => fun b1684 e' hp' => ∃ (A1688 : Option Addr), ∃ (c1689 : Nat), ∃ (hs1687 : Hp), [(0, .slice A1 (l4).length c2), (1, .int .i64 (x5)), (2, .slice A6 (l9).length c7), (7, .pointer (some ⟨g974, 0, none⟩)), (9, .pointer (some ⟨g1527, 0, none⟩)), (10, .slice A1688 (l1691).length c1689), (24, .slice A1 (l4).length c2), (25, .int .i64 ((l4.length : Int))), (26, .int .i64 ((k1514 : Int))), (30, .slice A1 (l4).length c2), (31, .int .i64 ((l4.length : Int))), (32, .int .i64 ((k1692 : Int)))] = e' ∧ (g974, Cl 101 [.slice A1510 (l1513).length c1511, .slice A957 (l955).length c958, .slice A968 (l966).length c969]) :: (g1527, Cl 36 [.int .i64 (x1517.From), .int .i64 (x1517.To), .int .i64 (x1517.Dep), .int .i64 (x1517.Arr), .int .i64 (x1517.Km), .int .i64 (x1517.Units)]) :: (hs1687 ++ (hs1509 ++ (hs959 ++ (hs970 ++ R)))) = hp' ∧ b1506.Le b1684 ∧ OS 4 (OT.fr RT.bool) b1684.w (.slice A1688 l1691.length c1689) l1691 hs1687) hl1693 (e' := [(0, .slice A1 (l4).length c2), (1, .int .i64 (x5)), (2, .slice A6 (l9).length c7), (7, .pointer (some ⟨g974, 0, none⟩)), (9, .pointer (some ⟨g1527, 0, none⟩)), (10, .slice none 0 0), (24, .slice A1 (l4).length c2), (25, .int .i64 ((l4.length : Int))), (26, .int .i64 ((k1514 : Int))), (30, .slice A1 (l4).length c2), (31, .int .i64 ((l4.length : Int))), (32, .int .i64 0)]) (hp' := (g974, Cl 101 [.slice A1510 (l1513).length c1511, .slice A957 (l955).length c958, .slice A968 (l966).length c969]) :: (g1527, Cl 36 [.int .i64 (x1517.From), .int .i64 (x1517.To), .int .i64 (x1517.Dep), .int .i64 (x1517.Arr), .int .i64 (x1517.Km), .int .i64 (x1517.Units)]) :: ([] ++ (hs1509 ++ (hs959 ++ (hs970 ++ R))))) ⟨rfl, rfl, rfl, rfl, rfl, rfl, rfl, rfl, rfl, rfl, rfl, rfl, trivial⟩ (.cons_cons _ (.cons_cons _ (sub_app hs1509 (sub_app hs959 (sub_app hs970 (.refl _)))))) ⟨none, 0, [], rfl, rfl, (Base.Le.refl _), OS.nil⟩ ?_ ?_
    ·
      rintro k1692 l1691 b1684 _ _ oL1528 hknL1528 ⟨A1688, c1689, hs1687, rfl, rfl, hle1685, h1690⟩ hstepL1528
      unfold mFleetMatch_L1528 at hstepL1528
      have hm := hstepL1528
      refine c_seq ?_
      refine c_region ?_
      refine t_st rfl (st_lss_t rfl rfl (by omega)) ?_
      refine t_nil ?_
      refine x_then_normal ?_
      refine c_seq ?_
      refine c_cond_t rfl ?_
      refine c_skip ?_
      refine x_then_normal ?_
      refine c_seq ?_
      refine c_block ?_
      refine c_seq ?_
      refine c_region ?_
      obtain ⟨x1695, h1696, hm⟩ := bindS hm
      obtain ⟨j1697, hj1698, hx1699⟩ := idx_some h1696
      obtain ⟨cs1700, hr1701, hcs1702, hA1703, hlt1704⟩ := FZ.get (sz := 6) rfl (by decide) (h3.le (hle1507.trans hle1685)) hx1699
      obtain ⟨_, _, rfl, rfl, ⟨_, _, rfl, rfl, ⟨_, _, rfl, rfl, ⟨_, _, rfl, rfl, ⟨_, _, rfl, rfl, rfl⟩⟩⟩⟩⟩ := hr1701
      refine t_st rfl (st_index_old j1697 rfl rfl hj1698 hlt1704 hA1703 sl22) ?_
      refine t_st rfl (st_loadN_old (vs := [.int .i64 (x1695.From), .int .i64 (x1695.To), .int .i64 (x1695.Dep), .int .i64 (x1695.Arr), .int .i64 (x1695.Km), .int .i64 (x1695.Units)]) 6 rfl agg36 hA1703 rfl (fun j u hu => hcs1702 j u hu)) ?_
      refine t_do rfl (u_alloc [.int .i64 0, .int .i64 0, .int .i64 0, .int .i64 0, .int .i64 0, .int .i64 0] zero36 rfl) ?_
      rintro _ _ ⟨g1705, rfl, rfl⟩
      refine t_do rfl (u_storeN (vs := [_, _, _, _, _, _]) 0 6 rfl rfl rfl siz36 rfl (by intro u hu; simp only [List.mem_cons, List.not_mem_nil, or_false] at hu; rcases hu with rfl | rfl | rfl | rfl | rfl | rfl <;> rfl) rfl (by simp)) ?_
      rintro _ _ rfl
      refine t_nil ?_
      refine x_then_normal ?_
      obtain ⟨_, h1737, hm⟩ := bindS hm
      obtain ⟨x1738, h1739, hm⟩ := bindS hm
      obtain ⟨x1751, h1752, hm⟩ := bindS hm
      obtain ⟨_, h1761, hm⟩ := bindS hm
      obtain ⟨_, h1763, hm⟩ := bindS hm
      refine D_drawS ((g1705, Cl 36 [.int .i64 (x1695.From), .int .i64 (x1695.To), .int .i64 (x1695.Dep), .int .i64 (x1695.Arr), .int .i64 (x1695.Km), .int .i64 (x1695.Units)]) :: (g974, Cl 101 [.slice A1510 (l1513).length c1511, .slice A957 (l955).length c958, .slice A968 (l966).length c969]) :: (g1527, Cl 36 [.int .i64 (x1517.From), .int .i64 (x1517.To), .int .i64 (x1517.Dep), .int .i64 (x1517.Arr), .int .i64 (x1517.Km), .int .i64 (x1517.Units)]) :: (hs1509 ++ (hs959 ++ (hs970 ++ R)))) mixed ?_
      refine D_st (Base.Le.refl _) 0 rfl (by kernel_rfl) (by kernel_rfl) (by kernel_rfl) rfl (st_move rfl) (.cons_cons _ (.cons_cons _ (.cons_cons _ (sub_skip hs1687 (sub_app hs1509 (sub_app hs959 (sub_app hs970 (.refl _)))))))) ?_
      refine D_st (Base.Le.refl _) 1 rfl (by kernel_rfl) (by kernel_rfl) (by kernel_rfl) rfl (st_field rfl fld36_2) (.cons_cons _ (.cons_cons _ (.cons_cons _ (sub_skip hs1687 (sub_app hs1509 (sub_app hs959 (sub_app hs970 (.refl _)))))))) ?_
      refine D_st (Base.Le.refl _) 2 rfl (by kernel_rfl) (by kernel_rfl) (by kernel_rfl) rfl (st_load 0 rfl one3 rfl rfl) (.cons_cons _ (.cons_cons _ (.cons_cons _ (sub_skip hs1687 (sub_app hs1509 (sub_app hs959 (sub_app hs970 (.refl _)))))))) ?_
      refine D_st (Base.Le.refl _) 3 rfl (by kernel_rfl) (by kernel_rfl) (by kernel_rfl) rfl (st_field rfl fld36_3) (.cons_cons _ (.cons_cons _ (.cons_cons _ (sub_skip hs1687 (sub_app hs1509 (sub_app hs959 (sub_app hs970 (.refl _)))))))) ?_
      refine D_st (Base.Le.refl _) 4 rfl (by kernel_rfl) (by kernel_rfl) (by kernel_rfl) rfl (st_load 2 rfl one3 rfl rfl) (.cons_cons _ (.cons_cons _ (.cons_cons _ (sub_skip hs1687 (sub_app hs1509 (sub_app hs959 (sub_app hs970 (.refl _)))))))) ?_
      refine D_st (Base.Le.refl _) 5 rfl (by kernel_rfl) (by kernel_rfl) (by kernel_rfl) rfl (st_move rfl) (.cons_cons _ (.cons_cons _ (.cons_cons _ (sub_skip hs1687 (sub_app hs1509 (sub_app hs959 (sub_app hs970 (.refl _)))))))) ?_
      have h1737 := (chk_some h1737).2
      refine D_st (Base.Le.refl _) 6 rfl (by kernel_rfl) (by kernel_rfl) (by kernel_rfl) rfl (st_add rfl rfl h1737) (.cons_cons _ (.cons_cons _ (.cons_cons _ (sub_skip hs1687 (sub_app hs1509 (sub_app hs959 (sub_app hs970 (.refl _)))))))) ?_
      refine D_st (Base.Le.refl _) 7 rfl (by kernel_rfl) (by kernel_rfl) (by kernel_rfl) rfl (st_move rfl) (.cons_cons _ (.cons_cons _ (.cons_cons _ (sub_skip hs1687 (sub_app hs1509 (sub_app hs959 (sub_app hs970 (.refl _)))))))) ?_
      refine D_st (Base.Le.refl _) 8 rfl (by kernel_rfl) (by kernel_rfl) (by kernel_rfl) rfl (st_field rfl fld36_1) (.cons_cons _ (.cons_cons _ (.cons_cons _ (sub_skip hs1687 (sub_app hs1509 (sub_app hs959 (sub_app hs970 (.refl _)))))))) ?_
      refine D_st (Base.Le.refl _) 9 rfl (by kernel_rfl) (by kernel_rfl) (by kernel_rfl) rfl (st_load 2 rfl one3 rfl rfl) (.cons_cons _ (.cons_cons _ (.cons_cons _ (sub_skip hs1687 (sub_app hs1509 (sub_app hs959 (sub_app hs970 (.refl _)))))))) ?_
      obtain ⟨j1740, hj1741, hx1742⟩ := idx_some h1739
      obtain ⟨cs1743, hr1744, hcs1745, hA1746, hlt1747⟩ := FZ.get (sz := 1) rfl (by decide) (h8.le (hle1507.trans hle1685)) hx1742
      obtain ⟨A1748, c1749, rfl, h1750⟩ := hr1744
      refine D_st (Base.Le.refl _) 10 rfl (by kernel_rfl) (by kernel_rfl) (by kernel_rfl) rfl (st_index_old j1740 rfl rfl hj1741 hlt1747 hA1746 sl26) (.cons_cons _ (.cons_cons _ (.cons_cons _ (sub_skip hs1687 (sub_app hs1509 (sub_app hs959 (sub_app hs970 (.refl _)))))))) ?_
      refine D_st (Base.Le.refl _) 11 rfl (by kernel_rfl) (by kernel_rfl) (by kernel_rfl) rfl (st_load_old rfl one45 (hcs1745 0 _ rfl)) (.cons_cons _ (.cons_cons _ (.cons_cons _ (sub_skip hs1687 (sub_app hs1509 (sub_app hs959 (sub_app hs970 (.refl _)))))))) ?_
      refine D_st (Base.Le.refl _) 12 rfl (by kernel_rfl) (by kernel_rfl) (by kernel_rfl) rfl (st_field rfl fld36_0) (.cons_cons _ (.cons_cons _ (.cons_cons _ (sub_skip hs1687 (sub_app hs1509 (sub_app hs959 (sub_app hs970 (.refl _)))))))) ?_
      refine D_st (Base.Le.refl _) 13 rfl (by kernel_rfl) (by kernel_rfl) (by kernel_rfl) rfl (st_load 0 rfl one3 rfl rfl) (.cons_cons _ (.cons_cons _ (.cons_cons _ (sub_skip hs1687 (sub_app hs1509 (sub_app hs959 (sub_app hs970 (.refl _)))))))) ?_
      obtain ⟨j1753, hj1754, hx1755⟩ := idx_some h1752
      obtain ⟨cs1756, hr1757, hcs1758, hA1759, hlt1760⟩ := FZ.get (sz := 1) rfl (by decide) h1750 hx1755
      obtain rfl := hr1757
      refine D_st (Base.Le.refl _) 14 rfl (by kernel_rfl) (by kernel_rfl) (by kernel_rfl) rfl (st_index_old j1753 rfl rfl hj1754 hlt1760 hA1759 sl45) (.cons_cons _ (.cons_cons _ (.cons_cons _ (sub_skip hs1687 (sub_app hs1509 (sub_app hs959 (sub_app hs970 (.refl _)))))))) ?_
      refine D_st (Base.Le.refl _) 15 rfl (by kernel_rfl) (by kernel_rfl) (by kernel_rfl) rfl (st_load_old rfl one3 (hcs1758 0 _ rfl)) (.cons_cons _ (.cons_cons _ (.cons_cons _ (sub_skip hs1687 (sub_app hs1509 (sub_app hs959 (sub_app hs970 (.refl _)))))))) ?_
      have h1761 := (chk_some h1761).2
      refine D_st (Base.Le.refl _) 16 rfl (by kernel_rfl) (by kernel_rfl) (by kernel_rfl) rfl (st_add rfl rfl h1761) (.cons_cons _ (.cons_cons _ (.cons_cons _ (sub_skip hs1687 (sub_app hs1509 (sub_app hs959 (sub_app hs970 (.refl _)))))))) ?_
      refine D_st (Base.Le.refl _) 17 rfl (by kernel_rfl) (by kernel_rfl) (by kernel_rfl) rfl (st_geq rfl rfl) (.cons_cons _ (.cons_cons _ (.cons_cons _ (sub_skip hs1687 (sub_app hs1509 (sub_app hs959 (sub_app hs970 (.refl _)))))))) ?_
      refine D_all [18] (by kernel_rfl) rfl ?_
      refine R_do (Base.Le.refl _) rfl rfl (u_bslice (el := 4) [(0, .bool (decide (((x1517.Arr + x5) + x1751) ≤ x1695.Dep)))] [.bool (decide (((x1517.Arr + x5) + x1751) ≤ x1695.Dep))] rfl (fun _ => by kernel_rfl)) ?_ ?_
      ·
        rintro _ _ ⟨g1762, rfl, rfl⟩
        refine ⟨.inr (.cons _ (.cons_cons _ (.cons_cons _ (.cons_cons _ (sub_skip hs1687 (sub_app hs1509 (sub_app hs959 (sub_app hs970 (.refl _))))))))), ?_⟩
        have h1763 := room_some h1763
        refine D_all [19] (by kernel_rfl) rfl ?_
        refine R_do (Base.Le.refl _) rfl rfl (u_appOS (r := RT.bool) (l := l1691) [_, _, _, _] (hs1509 ++ (hs959 ++ (hs970 ++ R))) [[.bool (decide (((x1517.Arr + x5) + x1751) ≤ x1695.Dep))]] [decide (((x1517.Arr + x5) + x1751) ≤ x1695.Dep)] rfl (by decide) sl104 inf4 rfl rfl rfl rfl h1690 rfl (fun w ho => Rd.own (i := 0) ho rfl) ⟨rfl, trivial⟩ h1763) ?_ ?_
        ·
          rintro _ _ ⟨hs1764, rfl, h1765⟩
          obtain ⟨A1766, c1767, rfl, _⟩ := h1765.form
          refine ⟨.inr (.cons _ (.cons_cons _ (.cons_cons _ (.cons_cons _ (sub_skip hs1764 (sub_app hs1509 (sub_app hs959 (sub_app hs970 (.refl _))))))))), ?_⟩
          refine D_st (Base.Le.refl _) 20 rfl (by kernel_rfl) (by kernel_rfl) (by kernel_rfl) rfl (st_assign rfl) (.cons _ (.cons_cons _ (.cons_cons _ (.cons_cons _ (sub_skip hs1764 (sub_app hs1509 (sub_app hs959 (sub_app hs970 (.refl _))))))))) ?_
          refine D_done (by kernel_rfl) ?_
          refine x_block_normal ?_
          refine x_then_normal ?_
          refine c_region ?_
          refine t_st rfl (st_add rfl rfl (by omega)) ?_
          refine t_st rfl (st_move rfl) ?_
          refine t_nil ?_
          refine x_pullb 3 rfl ?_
          refine x_pullb 3 rfl ?_
          refine x_front4 [_, _, _, _] hs1764 hs1509 hs959 hs970 R rfl ?_
          refine x_front4 [_, _, _, _] hs970 hs1764 hs1509 hs959 R rfl ?_
          refine x_front4 [_, _, _, _] hs959 hs970 hs1764 hs1509 R rfl ?_
          refine x_front4 [_, _, _, _] hs1509 hs959 hs970 hs1764 R rfl ?_
          obtain rfl := some1 hm
          exact x_againS (e' := [(0, .slice A1 (l4).length c2), (1, .int .i64 (x5)), (2, .slice A6 (l9).length c7), (7, .pointer (some ⟨g974, 0, none⟩)), (9, .pointer (some ⟨g1527, 0, none⟩)), (10, .slice A1766 (l1691 ++ [decide (((x1517.Arr + x5) + x1751) ≤ x1695.Dep)]).length c1767), (24, .slice A1 (l4).length c2), (25, .int .i64 ((l4.length : Int))), (26, .int .i64 ((k1514 : Int))), (30, .slice A1 (l4).length c2), (31, .int .i64 ((l4.length : Int))), (32, .int .i64 ((k1692 : Int) + 1))]) (hp' := (g974, Cl 101 [.slice A1510 (l1513).length c1511, .slice A957 (l955).length c958, .slice A968 (l966).length c969]) :: (g1527, Cl 36 [.int .i64 (x1517.From), .int .i64 (x1517.To), .int .i64 (x1517.Dep), .int .i64 (x1517.Arr), .int .i64 (x1517.Km), .int .i64 (x1517.Units)]) :: (hs1764 ++ (hs1509 ++ (hs959 ++ (hs970 ++ R))))) ⟨rfl, rfl, rfl, rfl, rfl, rfl, rfl, rfl, rfl, rfl, rfl, rfl, trivial⟩ (.cons_cons _ (.cons_cons _ (.cons _ (.cons _ (sub_app hs1764 (sub_app hs1509 (sub_app hs959 (sub_app hs970 (.refl _))))))))) ⟨A1766, c1767, hs1764, rfl, rfl, (hle1685), h1765⟩
        exact R_nil
      exact R_nil
    ·
      rintro b1684 _ _ ⟨A1688, c1689, hs1687, rfl, rfl, hle1685, h1690⟩
      have hm := hk1694
      refine c_seq ?_
      refine c_region ?_
      refine t_st rfl (st_lss_f rfl rfl (by omega)) ?_
      refine t_nil ?_
      refine x_then_normal ?_
      refine c_seq ?_
      refine c_cond_f rfl ?_
      refine c_exit ?_
      refine x_then_exit ?_
      refine x_then_exit ?_
      refine x_block_out ?_
      refine x_then_normal ?_
      refine c_region ?_
      refine t_st rfl (st_move rfl) ?_
      refine t_st rfl (st_move rfl) ?_
      refine t_st rfl (st_nil rfl) ?_
      refine t_st rfl (st_field rfl fld101_0) ?_
      refine t_st rfl (st_load 0 rfl one99 rfl rfl) ?_
      refine t_st rfl (st_move rfl) ?_
      refine t_do rfl (u_bslice (el := 104) [(0, .slice A1688 (l1691).length c1689)] [.slice A1688 (l1691).length c1689] rfl (fun _ => by kernel_rfl)) ?_
      rintro _ _ ⟨g1768, rfl, rfl⟩
      refine t_frz [_, _, _] hs1687 (hs1509 ++ (hs959 ++ (hs970 ++ R))) rfl ?_
      intro b1769 hle1770 hz1771
      have h1772 := OS.frz (l := l1691) h1690 hle1770.cells hz1771
      obtain ⟨_, h1773, hm⟩ := bindS hm
      have h1773 := room_some h1773
      refine t_do rfl (u_appOS (r := (RT.list RT.bool)) (l := l1513) [_, _, _] (hs959 ++ (hs970 ++ R)) [[.slice A1688 (l1691).length c1689]] [l1691] rfl (by decide) sl99 inf104 rfl rfl rfl rfl (h1512.le (hle1685.trans hle1770)) rfl (fun w ho => Rd.own (i := 0) ho rfl) ⟨(RT.list_mk h1772), trivial⟩ h1773) ?_
      rintro _ _ ⟨hs1774, rfl, h1775⟩
      obtain ⟨A1776, c1777, rfl, _⟩ := h1775.form
      refine t_st rfl (st_nil rfl) ?_
      refine t_st rfl (st_field rfl fld101_0) ?_
      refine t_do rfl (u_store 1 rfl rfl siz99 rfl rfl (by simp)) ?_
      rintro _ _ rfl
      refine t_nil ?_
      refine x_block_normal ?_
      refine x_then_normal ?_
      refine c_region ?_
      refine t_st rfl (st_add rfl rfl (by omega)) ?_
      refine t_st rfl (st_move rfl) ?_
      refine t_nil ?_
      refine x_pullb 1 rfl ?_
      refine x_front3 [_, _, _] hs1774 hs959 hs970 R rfl ?_
      refine x_front3 [_, _, _] hs970 hs1774 hs959 R rfl ?_
      refine x_front3 [_, _, _] hs959 hs970 hs1774 R rfl ?_
      obtain rfl := some1 hm
      exact x_againS (e' := [(0, .slice A1 (l4).length c2), (1, .int .i64 (x5)), (2, .slice A6 (l9).length c7), (7, .pointer (some ⟨g974, 0, none⟩)), (24, .slice A1 (l4).length c2), (25, .int .i64 ((l4.length : Int))), (26, .int .i64 ((k1514 : Int) + 1))]) (hp' := (g974, Cl 101 [.slice A1776 (l1513 ++ [l1691]).length c1777, .slice A957 (l955).length c958, .slice A968 (l966).length c969]) :: (hs1774 ++ (hs959 ++ (hs970 ++ R)))) ⟨rfl, rfl, rfl, rfl, rfl, rfl, rfl, trivial⟩ (.cons_cons _ (.cons _ (.cons _ (sub_app hs1774 (sub_app hs959 (sub_app hs970 (.refl _))))))) ⟨A1776, c1777, hs1774, rfl, rfl, ((hle1507.trans (hle1685.trans hle1770))), h1775⟩
  ·
    rintro b1506 _ _ ⟨A1510, c1511, hs1509, rfl, rfl, hle1507, h1512⟩
    have hm := hk1516
    refine c_seq ?_
    refine c_region ?_
    refine t_st rfl (st_lss_f rfl rfl (by omega)) ?_
    refine t_nil ?_
    refine x_then_normal ?_
    refine c_seq ?_
    refine c_cond_f rfl ?_
    refine c_exit ?_
    refine x_then_exit ?_
    refine x_then_exit ?_
    refine x_block_out ?_
    refine x_then_normal ?_
    refine c_seq ?_
    refine c_seq ?_
    refine c_region ?_
    refine t_st rfl (st_move rfl) ?_
    refine t_st rfl (st_len rfl sl22) ?_
    refine t_st rfl (st_move rfl) ?_
    refine t_nil ?_
    refine x_then_normal ?_
    refine c_block ?_
    have hb1779 := (FZ.bd (h3.le hle1507))
    refine c_front3 [_] hs1509 hs959 hs970 R rfl ?_
    refine c_front3 [_] hs970 hs1509 hs959 R rfl ?_
    refine c_front3 [_] hs959 hs970 hs1509 R rfl ?_
    obtain ⟨⟨l1848, l1849⟩, hl1851, hk1852⟩ := bindS hm
    refine c_forS (fun k1850 => unc2 fun l1848 l1849 => fun b1836 e' hp' => ∃ (A1840 : Option Addr), ∃ (c1841 : Nat), ∃ (hs1839 : Hp), ∃ (A1845 : Option Addr), ∃ (c1846 : Nat), ∃ (hs1844 : Hp), [(0, .slice A1 (l4).length c2), (7, .pointer (some ⟨g974, 0, none⟩)), (69, .int .i64 ((l4.length : Int))), (70, .int .i64 ((k1850 : Int)))] = e' ∧ (g974, Cl 101 [.slice A1510 (l1513).length c1511, .slice A1840 (l1848).length c1841, .slice A1845 (l1849).length c1846]) :: (hs1509 ++ (hs1839 ++ (hs1844 ++ R))) = hp' ∧ b1506.Le b1836 ∧ OS 3 (OT.fr (RT.int .i64)) b1836.w (.slice A1840 l1848.length c1841) l1848 hs1839 ∧ OS 3 (OT.fr (RT.int .i64)) b1836.w (.slice A1845 l1849.length c1846) l1849 hs1844) hl1851 (e' := [(0, .slice A1 (l4).length c2), (7, .pointer (some ⟨g974, 0, none⟩)), (69, .int .i64 ((l4.length : Int))), (70, .int .i64 0)]) (hp' := (g974, Cl 101 [.slice A1510 (l1513).length c1511, .slice A957 (l955).length c958, .slice A968 (l966).length c969]) :: (hs1509 ++ (hs959 ++ (hs970 ++ R)))) ⟨rfl, rfl, rfl, rfl, trivial⟩ (.cons_cons _ (sub_app hs1509 (sub_app hs959 (sub_app hs970 (.refl _))))) ⟨A957, c958, hs959, A968, c969, hs970, rfl, rfl, (Base.Le.refl _), (h961.le hle1507), (h972.le hle1507)⟩ ?_ ?_
    ·
      rintro k1850 ⟨l1848, l1849⟩ b1836 _ _ oL1778 hknL1778 ⟨A1840, c1841, hs1839, A1845, c1846, hs1844, rfl, rfl, hle1837, h1842, h1847⟩ hstepL1778
      unfold mFleetMatch_L1778 at hstepL1778
      have hm := (unc2E hstepL1778)
      refine c_seq ?_
      refine c_region ?_
      refine t_st rfl (st_lss_t rfl rfl (by omega)) ?_
      refine t_nil ?_
      refine x_then_normal ?_
      refine c_seq ?_
      refine c_cond_t rfl ?_
      refine c_skip ?_
      refine x_then_normal ?_
      refine c_seq ?_
      refine c_block ?_
      refine c_seq ?_
      refine c_region ?_
      refine t_st rfl (st_move rfl) ?_
      refine t_st rfl (st_assign rfl) ?_
      refine t_nil ?_
      refine x_then_normal ?_
      refine c_region ?_
      refine t_st rfl (st_move rfl) ?_
      refine t_st rfl (st_move rfl) ?_
      refine t_st rfl (st_move rfl) ?_
      refine t_st rfl (st_len rfl sl22) ?_
      obtain ⟨m1853, h1854, hm⟩ := bindS hm
      have h1854 := mkLen_some h1854
      refine t_do rfl (u_mkOS (r := RT.bool) [_] (hs1509 ++ (hs1839 ++ (hs1844 ++ R))) [.bool (false)] false m1853 rfl h1854.1 rfl rfl sl104 inf4 rfl rfl rfl (by decide) rfl h1854.2.1 h1854.2.2) ?_
      rintro _ _ ⟨hs1855, rfl, h1856⟩
      obtain ⟨A1857, c1858, rfl, _⟩ := h1856.form
      obtain ⟨⟨x1859, l1860, l1861, l1862⟩, hcl1863, hm⟩ := bindS hm
      obtain ⟨Nhcl1863, hcl1863⟩ := lim_some hcl1863
      have hm := (unc4E hm)
      refine t_front4 [_] hs1855 hs1509 hs1839 hs1844 R rfl ?_
      refine t_front4 [_] hs1844 hs1855 hs1509 hs1839 R rfl ?_
      refine t_front4 [_] hs1839 hs1844 hs1855 hs1509 R rfl ?_
      refine t_front4 [_] hs1509 hs1839 hs1844 hs1855 R rfl ?_
      refine t_out4 [_] [] hs1855 hs1509 hs1839 hs1844 R rfl ?_
      refine t_callG _ rfl call92 rfl (cFleetMatchingGrow Nhcl1863 _ _ (k1850 : Int) (List.replicate m1853 (false : Bool)) l1513 l1848 l1849 g974 A1857 c1858 hs1855 A1510 c1511 hs1509 A1840 c1841 hs1839 A1845 c1846 hs1844 h1856 (h1512.le hle1837) h1842 h1847 x1859 l1860 l1861 l1862 hcl1863) ?_
      rintro _ b1864 _ hle1865 ⟨hs1866, hs1867, hs1868, rfl, rfl, h1869, h1870, h1871, h1872, h1873, h1874⟩
      refine t_in4 [_] [] hs1866 hs1509 hs1867 hs1868 R rfl ?_
      refine t_hresp 0 rfl (o' := Cl 101 [.slice A1510 (l1513).length c1511, .slice A1840 (l1861).length c1841, .slice A1845 (l1862).length c1846]) (by simp only [h1872]) ?_
      refine t_hresp 0 rfl (o' := Cl 101 [.slice A1510 (l1513).length c1511, .slice A1840 (l1861).length c1841, .slice A1845 (l1862).length c1846]) (by simp only [h1874]) ?_
      refine t_nil ?_
      refine x_block_normal ?_
      refine x_then_normal ?_
      refine c_region ?_
      refine t_st rfl (st_add rfl rfl (by omega)) ?_
      refine t_st rfl (st_move rfl) ?_
      refine t_nil ?_
      refine x_front4 [_] hs1866 hs1509 hs1867 hs1868 R rfl ?_
      refine x_front4 [_] hs1868 hs1866 hs1509 hs1867 R rfl ?_
      refine x_front4 [_] hs1867 hs1868 hs1866 hs1509 R rfl ?_
      obtain rfl := some1 hm
      exact x_againS (e' := [(0, .slice A1 (l4).length c2), (7, .pointer (some ⟨g974, 0, none⟩)), (69, .int .i64 ((l4.length : Int))), (70, .int .i64 ((k1850 : Int) + 1))]) (hp' := (g974, Cl 101 [.slice A1510 (l1513).length c1511, .slice A1840 (l1861).length c1841, .slice A1845 (l1862).length c1846]) :: (hs1509 ++ (hs1867 ++ (hs1868 ++ R)))) ⟨rfl, rfl, rfl, rfl, trivial⟩ (.cons_cons _ (sub_app hs1509 (sub_app hs1867 (sub_app hs1868 (sub_skip hs1866 (.refl _)))))) ⟨A1840, c1841, hs1867, A1845, c1846, hs1868, rfl, rfl, ((hle1837.trans hle1865)), h1871, h1873⟩
    ·
      rintro b1836 _ _ ⟨A1840, c1841, hs1839, A1845, c1846, hs1844, rfl, rfl, hle1837, h1842, h1847⟩
      have hm := (unc2E hk1852)
      refine c_seq ?_
      refine c_region ?_
      refine t_st rfl (st_lss_f rfl rfl (by omega)) ?_
      refine t_nil ?_
      refine x_then_normal ?_
      refine c_seq ?_
      refine c_cond_f rfl ?_
      refine c_exit ?_
      refine x_then_exit ?_
      refine x_then_exit ?_
      refine x_block_out ?_
      refine x_then_normal ?_
      refine c_seq ?_
      refine c_region ?_
      refine t_st rfl (st_move rfl) ?_
      refine t_st rfl (st_assign rfl) ?_
      refine t_nil ?_
      refine x_then_normal ?_
      refine c_ret ?_
      obtain ⟨rfl, rfl, rfl⟩ := some3 hm
      refine x_front3 [_] hs1509 hs1839 hs1844 R rfl ?_
      refine x_front3 [_] hs1844 hs1509 hs1839 R rfl ?_
      refine x_front3 [_] hs1839 hs1844 hs1509 R rfl ?_
      exact retM (rs := [.tmp 6]) [.pointer (some ⟨g974, 0, none⟩)] (hle1507.trans hle1837) (by decide) rfl ⟨rfl, trivial⟩ rfl (hp' := (g974, Cl 101 [.slice A1510 (l1513).length c1511, .slice A1840 (l1848).length c1841, .slice A1845 (l1849).length c1846]) :: (hs1509 ++ (hs1839 ++ (hs1844 ++ R)))) (.cons_cons _ (sub_app hs1509 (sub_app hs1839 (sub_app hs1844 (.refl _))))) ⟨g974, A1510, c1511, hs1509, A1840, c1841, hs1839, A1845, c1846, hs1844, rfl, rfl, (h1512.le hle1837), h1842, h1847⟩

set_option maxRecDepth 20000 in
theorem cFleetCovers (b : Base) (R : Hp) (l4 : (List FleetTask)) (x5 : Int) (l9 : (List (List Int))) (A1 : Option Addr) (c2 : Nat) (A6 : Option Addr) (c7 : Nat) (h3 : FZ rFleetTask b.w A1 c2 l4) (h8 : FZ (RT.list (RT.int .i64)) b.w A6 c7 l9) (x687 : Int) (l688 : (List (List Int))) (hm : mFleetCovers l4 x5 l9 = some (x687, l688)) :
    CallsG Try.prog 24 [.slice A1 (l4).length c2, .int .i64 (x5), .slice A6 (l9).length c7] b (R) (fun v b' hp' => ∃ (A684 : Option Addr), ∃ (c685 : Nat), ∃ (hs683 : Hp), .tuple #[.slice A684 (l688).length c685, .int .i64 (x687)] = v ∧ (hs683 ++ R) = hp' ∧ OS 45 (OT.fr (RT.list (RT.int .i64))) b'.w (.slice A684 l688.length c685) l688 hs683) := by
  refine fn_enterG 56 Try.func24 rfl Try.ntmps24 rfl ?_
  unfold mFleetCovers at hm
  refine c_seq ?_
  refine c_region ?_
  refine t_st rfl (st_assign rfl) ?_
  refine t_st rfl (st_assign rfl) ?_
  refine t_nil ?_
  refine x_then_normal ?_
  refine c_seq ?_
  refine c_seq ?_
  refine c_region ?_
  refine t_st rfl (st_move rfl) ?_
  refine t_st rfl (st_move rfl) ?_
  refine t_st rfl (st_move rfl) ?_
  obtain ⟨x689, hcl690, hm⟩ := bindS hm
  refine t_do rfl (u_callW0 _ call52 rfl (fun w ho => cFleetCheckSecs _ [] l4 x5 l9 A1 c2 A6 c7 (h3.old ho) (h8.old ho) x689 hcl690) (fun _ _ _ h => h.2.symm)) ?_
  rintro _ _ ⟨⟨_, rfl, _⟩, rfl⟩
  refine t_st rfl (st_assign rfl) ?_
  refine t_nil ?_
  refine x_then_normal ?_
  refine c_seq ?_
  refine c_region ?_
  refine t_st rfl (st_move rfl) ?_
  refine t_st rfl (st_neq rfl rfl) ?_
  refine t_nil ?_
  refine x_then_normal ?_
  refine c_cond _ rfl (fun hc691 => ?_) (fun hc691 => ?_)
  ·
    rw [if_pos (of_decide_eq_true hc691)] at hm
    refine c_seq ?_
    refine c_region ?_
    refine t_st rfl (st_move rfl) ?_
    refine t_st rfl (st_assign rfl) ?_
    refine t_st rfl (st_assign rfl) ?_
    refine t_nil ?_
    refine x_then_normal ?_
    refine c_ret ?_
    refine x_then_ret ?_
    obtain ⟨rfl, rfl⟩ := some2 hm
    exact retM (rs := [.tmp 6, .tmp 7]) [.slice none 0 0, .int .i64 (x689)] (Base.Le.refl _) (by decide) rfl ⟨rfl, ⟨rfl, trivial⟩⟩ rfl (hp' := ([] ++ R)) (.refl _) ⟨none, 0, [], rfl, rfl, OS.nil⟩
  ·
    rw [if_neg (of_decide_eq_false hc691)] at hm
    refine c_skip ?_
    refine x_then_normal ?_
    refine c_seq ?_
    refine c_region ?_
    refine t_st rfl (st_move rfl) ?_
    refine t_st rfl (st_move rfl) ?_
    refine t_st rfl (st_move rfl) ?_
    obtain ⟨⟨l692, l693, l694⟩, hcl695, hm⟩ := bindS hm
    have hm := (unc3E hm)
    refine t_callG _ rfl call53 rfl (cFleetMatch _ _ l4 x5 l9 A1 c2 A6 c7 h3 h8 l692 l693 l694 hcl695) ?_
    rintro _ b696 _ hle697 ⟨g698, A699, c700, hs701, A702, c703, hs704, A705, c706, hs707, rfl, rfl, h708, h709, h710⟩
    refine t_in3 [_] [] hs701 hs704 hs707 R rfl ?_
    refine t_st rfl (st_assign rfl) ?_
    refine t_nil ?_
    refine x_then_normal ?_
    refine c_seq ?_
    refine c_region ?_
    refine t_st rfl (st_assign rfl) ?_
    refine t_nil ?_
    refine x_then_normal ?_
    refine c_seq ?_
    refine c_seq ?_
    refine c_region ?_
    refine t_st rfl (st_move rfl) ?_
    refine t_st rfl (st_len rfl sl22) ?_
    refine t_st rfl (st_move rfl) ?_
    refine t_nil ?_
    refine x_then_normal ?_
    refine c_block ?_
    have hb712 := (FZ.bd (h3.le hle697))
    refine c_front3 [_] hs701 hs704 hs707 R rfl ?_
    refine c_front3 [_] hs707 hs701 hs704 R rfl ?_
    refine c_front3 [_] hs704 hs707 hs701 R rfl ?_
    obtain ⟨l1147, hl1149, hk1150⟩ := bindS hm
    refine c_forS (fun k1148 => fun l1147 => fun b1140 e' hp' => ∃ (A1144 : Option Addr), ∃ (c1145 : Nat), ∃ (hs1143 : Hp), [(9, .pointer (some ⟨g698, 0, none⟩)), (10, .slice A1144 (l1147).length c1145), (25, .int .i64 ((l4.length : Int))), (26, .int .i64 ((k1148 : Int)))] = e' ∧ (g698, Cl 101 [.slice A699 (l692).length c700, .slice A702 (l693).length c703, .slice A705 (l694).length c706]) :: (hs1143 ++ (hs701 ++ (hs704 ++ (hs707 ++ R)))) = hp' ∧ b696.Le b1140 ∧ OS 45 (OT.fr (RT.list (RT.int .i64))) b1140.w (.slice A1144 l1147.length c1145) l1147 hs1143) hl1149 (e' := [(9, .pointer (some ⟨g698, 0, none⟩)), (10, .slice none 0 0), (25, .int .i64 ((l4.length : Int))), (26, .int .i64 0)]) (hp' := (g698, Cl 101 [.slice A699 (l692).length c700, .slice A702 (l693).length c703, .slice A705 (l694).length c706]) :: ([] ++ (hs701 ++ (hs704 ++ (hs707 ++ R))))) ⟨rfl, rfl, rfl, rfl, trivial⟩ (.cons_cons _ (sub_app hs701 (sub_app hs704 (sub_app hs707 (.refl _))))) ⟨none, 0, [], rfl, rfl, (Base.Le.refl _), OS.nil⟩ ?_ ?_
    ·
      rintro k1148 l1147 b1140 _ _ oL711 hknL711 ⟨A1144, c1145, hs1143, rfl, rfl, hle1141, h1146⟩ hstepL711
      unfold mFleetCovers_L711 at hstepL711
      have hm := hstepL711
      refine c_seq ?_
      refine c_region ?_
      refine t_st rfl (st_lss_t rfl rfl (by omega)) ?_
      refine t_nil ?_
      refine x_then_normal ?_
      refine c_seq ?_
      refine c_cond_t rfl ?_
      refine c_skip ?_
      refine x_then_normal ?_
      refine c_seq ?_
      refine c_block ?_
      refine c_seq ?_
      refine c_region ?_
      refine t_st rfl (st_move rfl) ?_
      refine t_st rfl (st_assign rfl) ?_
      refine t_nil ?_
      refine x_then_normal ?_
      refine c_seq ?_
      refine c_seq ?_
      refine c_region ?_
      refine t_st rfl (st_move rfl) ?_
      refine t_st rfl (st_nil rfl) ?_
      refine t_st rfl (st_field rfl fld101_2) ?_
      refine t_st rfl (st_load 0 rfl one45 rfl rfl) ?_
      refine t_st rfl (st_move rfl) ?_
      obtain ⟨x1151, h1152, hm⟩ := bindS hm
      obtain ⟨j1153, hj1154, hx1155⟩ := idx_some h1152
      obtain ⟨cs1156, hs1161, P1162, P1163, hq1164, hr1157, hcs1158, hA1159, hlt1160, hb1165, hho1166⟩ := OS.get (sz := 1) rfl (by decide) (h710.le hle1141) hx1155
      obtain ⟨rfl, rfl⟩ := hr1157
      refine t_st rfl (st_index_old j1153 rfl rfl hj1154 hlt1160 hA1159 sl45) ?_
      refine t_st rfl (st_load_rd rfl one3 (fun w ho => hcs1158 w _ ho (.cons _ (sub_skip hs1143 (sub_skip hs701 (sub_skip hs704 (List.sublist_append_left _ _))))) 0 _ rfl)) ?_
      refine t_st rfl (st_geq rfl rfl) ?_
      refine t_nil ?_
      refine x_then_normal ?_
      refine c_cond _ rfl (fun hc1167 => ?_) (fun hc1167 => ?_)
      ·
        rw [if_pos (of_decide_eq_true hc1167)] at hm
        refine c_exit ?_
        refine x_then_exit ?_
        refine x_block_out ?_
        refine x_then_normal ?_
        refine c_region ?_
        refine t_st rfl (st_add rfl rfl (by omega)) ?_
        refine t_st rfl (st_move rfl) ?_
        refine t_nil ?_
        refine x_front4 [_] hs1143 hs701 hs704 hs707 R rfl ?_
        refine x_front4 [_] hs707 hs1143 hs701 hs704 R rfl ?_
        refine x_front4 [_] hs704 hs707 hs1143 hs701 R rfl ?_
        refine x_front4 [_] hs701 hs704 hs707 hs1143 R rfl ?_
        obtain rfl := some1 hm
        exact x_againS (e' := [(9, .pointer (some ⟨g698, 0, none⟩)), (10, .slice A1144 (l1147).length c1145), (25, .int .i64 ((l4.length : Int))), (26, .int .i64 ((k1148 : Int) + 1))]) (hp' := (g698, Cl 101 [.slice A699 (l692).length c700, .slice A702 (l693).length c703, .slice A705 (l694).length c706]) :: (hs1143 ++ (hs701 ++ (hs704 ++ (hs707 ++ R))))) ⟨rfl, rfl, rfl, rfl, trivial⟩ (.cons_cons _ (sub_app hs1143 (sub_app hs701 (sub_app hs704 (sub_app hs707 (.refl _)))))) ⟨A1144, c1145, hs1143, rfl, rfl, (hle1141), h1146⟩
      ·
        rw [if_neg (of_decide_eq_false hc1167)] at hm
        refine c_skip ?_
        refine x_then_normal ?_
        refine c_seq ?_
        refine c_region ?_
        refine t_st rfl (st_assign rfl) ?_
        refine t_nil ?_
        refine x_then_normal ?_
        obtain ⟨l1262, hj1263, hk1263⟩ := bindS hm
        refine c_join (fun b1255 e' hp' => ∃ (A1259 : Option Addr), ∃ (c1260 : Nat), ∃ (hs1258 : Hp), [(9, .pointer (some ⟨g698, 0, none⟩)), (10, .slice A1144 (l1147).length c1145), (12, .slice A1259 (l1262).length c1260), (25, .int .i64 ((l4.length : Int))), (26, .int .i64 ((k1148 : Int)))] = e' ∧ (g698, Cl 101 [.slice A699 (l692).length c700, .slice A702 (l693).length c703, .slice A705 (l694).length c706]) :: (hs1143 ++ (hs1258 ++ (hs701 ++ (hs704 ++ (hs707 ++ R))))) = hp' ∧ b1140.Le b1255 ∧ OS 3 (OT.fr (RT.int .i64)) b1255.w (.slice A1259 l1262.length c1260) l1262 hs1258) ?_ ?_
        ·
          have hm := hj1263
          refine c_block ?_
          refine c_front4 [_] hs1143 hs701 hs704 hs707 R rfl ?_
          refine c_front4 [_] hs707 hs1143 hs701 hs704 R rfl ?_
          refine c_front4 [_] hs704 hs707 hs1143 hs701 R rfl ?_
          refine c_front4 [_] hs701 hs704 hs707 hs1143 R rfl ?_
          refine c_loopM (unc2 fun x1326 l1327 => fun b1319 e' hp' => ∃ (A1323 : Option Addr), ∃ (c1324 : Nat), ∃ (hs1322 : Hp), [(9, .pointer (some ⟨g698, 0, none⟩)), (10, .slice A1144 (l1147).length c1145), (11, .int .i64 (x1326)), (12, .slice A1323 (l1327).length c1324), (25, .int .i64 ((l4.length : Int))), (26, .int .i64 ((k1148 : Int)))] = e' ∧ (g698, Cl 101 [.slice A699 (l692).length c700, .slice A702 (l693).length c703, .slice A705 (l694).length c706]) :: (hs1143 ++ (hs1322 ++ (hs701 ++ (hs704 ++ (hs707 ++ R))))) = hp' ∧ b1140.Le b1319 ∧ OS 3 (OT.fr (RT.int .i64)) b1319.w (.slice A1323 l1327.length c1324) l1327 hs1322) hm (e' := [(9, .pointer (some ⟨g698, 0, none⟩)), (10, .slice A1144 (l1147).length c1145), (11, .int .i64 ((k1148 : Int))), (12, .slice none 0 0), (25, .int .i64 ((l4.length : Int))), (26, .int .i64 ((k1148 : Int)))]) (hp' := (g698, Cl 101 [.slice A699 (l692).length c700, .slice A702 (l693).length c703, .slice A705 (l694).length c706]) :: (hs1143 ++ ([] ++ (hs701 ++ (hs704 ++ (hs707 ++ R)))))) ⟨rfl, rfl, rfl, rfl, rfl, rfl, trivial⟩ (.cons_cons _ (sub_app hs1143 (sub_app hs701 (sub_app hs704 (sub_app hs707 (.refl _)))))) ⟨none, 0, [], rfl, rfl, (Base.Le.refl _), OS.nil⟩ ?_
          rintro ⟨x1326, l1327⟩ b1319 _ _ oL1264 ⟨A1323, c1324, hs1322, rfl, rfl, hle1320, h1325⟩ hstepL1264 houtL1264
          unfold mFleetCovers_L1264 at hstepL1264
          have hm := (unc2E hstepL1264)
          refine c_seq ?_
          refine c_seq ?_
          refine c_region ?_
          refine t_st rfl (st_move rfl) ?_
          refine t_st rfl (st_geq rfl rfl) ?_
          refine t_nil ?_
          refine x_then_normal ?_
          refine c_cond _ rfl (fun hc1328 => ?_) (fun hc1328 => ?_)
          ·
            rw [if_pos (of_decide_eq_true hc1328)] at hm
            refine c_skip ?_
            refine x_then_normal ?_
            refine c_seq ?_
            refine c_block ?_
            refine c_region ?_
            refine t_st rfl (st_move rfl) ?_
            refine t_st rfl (st_move rfl) ?_
            refine t_do rfl (u_bslice (el := 3) [(0, .int .i64 (x1326))] [.int .i64 (x1326)] rfl (fun _ => by kernel_rfl)) ?_
            rintro _ _ ⟨g1329, rfl, rfl⟩
            obtain ⟨_, h1330, hm⟩ := bindS hm
            have h1330 := room_some h1330
            refine t_front2 [_, _] hs1143 hs1322 (hs701 ++ (hs704 ++ (hs707 ++ R))) rfl ?_
            refine t_do rfl (u_appOS (r := (RT.int .i64)) (l := l1327) [_, _] (hs1143 ++ (hs701 ++ (hs704 ++ (hs707 ++ R)))) [[.int .i64 (x1326)]] [x1326] rfl (by decide) sl45 inf3 rfl rfl rfl rfl h1325 rfl (fun w ho => Rd.own (i := 0) ho rfl) ⟨rfl, trivial⟩ h1330) ?_
            rintro _ _ ⟨hs1331, rfl, h1332⟩
            obtain ⟨A1333, c1334, rfl, _⟩ := h1332.form
            refine t_st rfl (st_assign rfl) ?_
            refine t_nil ?_
            refine x_block_normal ?_
            refine x_then_normal ?_
            refine c_region ?_
            refine t_st rfl (st_move rfl) ?_
            refine t_st rfl (st_nil rfl) ?_
            refine t_st rfl (st_field rfl fld101_1) ?_
            refine t_st rfl (st_load 1 rfl one45 rfl rfl) ?_
            refine t_st rfl (st_move rfl) ?_
            obtain ⟨x1335, h1336, hm⟩ := bindS hm
            obtain ⟨j1337, hj1338, hx1339⟩ := idx_some h1336
            obtain ⟨cs1340, hs1345, P1346, P1347, hq1348, hr1341, hcs1342, hA1343, hlt1344, hb1349, hho1350⟩ := OS.get (sz := 1) rfl (by decide) (h709.le (hle1141.trans hle1320)) hx1339
            obtain ⟨rfl, rfl⟩ := hr1341
            refine t_st rfl (st_index_old j1337 rfl rfl hj1338 hlt1344 hA1343 sl45) ?_
            refine t_st rfl (st_load_rd rfl one3 (fun w ho => hcs1342 w _ ho (.cons _ (.cons _ (sub_skip hs1331 (sub_skip hs1143 (sub_skip hs701 (List.sublist_append_left _ _)))))) 0 _ rfl)) ?_
            refine t_st rfl (st_assign rfl) ?_
            refine t_nil ?_
            refine x_pullb 1 rfl ?_
            refine x_front5 [_, _] hs1331 hs1143 hs701 hs704 hs707 R rfl ?_
            refine x_front5 [_, _] hs707 hs1331 hs1143 hs701 hs704 R rfl ?_
            refine x_front5 [_, _] hs704 hs707 hs1331 hs1143 hs701 R rfl ?_
            refine x_front4 [_, _] hs701 hs704 hs707 hs1331 (hs1143 ++ R) rfl ?_
            refine x_front5 [_, _] hs1331 hs701 hs704 hs707 hs1143 R rfl ?_
            exact x_againM (x1335, l1327 ++ [x1326]) (Option.some.inj hm).symm (e' := [(9, .pointer (some ⟨g698, 0, none⟩)), (10, .slice A1144 (l1147).length c1145), (11, .int .i64 (x1335)), (12, .slice A1333 (l1327 ++ [x1326]).length c1334), (25, .int .i64 ((l4.length : Int))), (26, .int .i64 ((k1148 : Int)))]) (hp' := (g698, Cl 101 [.slice A699 (l692).length c700, .slice A702 (l693).length c703, .slice A705 (l694).length c706]) :: (hs1143 ++ (hs1331 ++ (hs701 ++ (hs704 ++ (hs707 ++ R)))))) ⟨rfl, rfl, rfl, rfl, rfl, rfl, trivial⟩ (.cons_cons _ (.cons _ (sub_app hs1143 (sub_app hs1331 (sub_app hs701 (sub_app hs704 (sub_app hs707 (.refl _)))))))) ⟨A1333, c1334, hs1331, rfl, rfl, (hle1320), h1332⟩
          ·
            rw [if_neg (of_decide_eq_false hc1328)] at hm
            refine c_exit ?_
            refine x_then_exit ?_
            refine x_then_exit ?_
            refine x_block_out ?_
            have hm := congrArg some (houtL1264 _ (Option.some.inj hm).symm)
            obtain rfl := some1 hm
            refine x_front5 [_] hs1143 hs1322 hs701 hs704 hs707 R rfl ?_
            refine x_front5 [_] hs707 hs1143 hs1322 hs701 hs704 R rfl ?_
            refine x_front5 [_] hs704 hs707 hs1143 hs1322 hs701 R rfl ?_
            refine x_front5 [_] hs701 hs704 hs707 hs1143 hs1322 R rfl ?_
            refine x_front5 [_] hs1322 hs701 hs704 hs707 hs1143 R rfl ?_
            exact x_join (e' := [(9, .pointer (some ⟨g698, 0, none⟩)), (10, .slice A1144 (l1147).length c1145), (12, .slice A1323 (l1327).length c1324), (25, .int .i64 ((l4.length : Int))), (26, .int .i64 ((k1148 : Int)))]) (hp' := (g698, Cl 101 [.slice A699 (l692).length c700, .slice A702 (l693).length c703, .slice A705 (l694).length c706]) :: (hs1143 ++ (hs1322 ++ (hs701 ++ (hs704 ++ (hs707 ++ R)))))) ⟨rfl, rfl, rfl, rfl, rfl, trivial⟩ (.cons_cons _ (sub_app hs1143 (sub_app hs1322 (sub_app hs701 (sub_app hs704 (sub_app hs707 (.refl _))))))) ⟨A1323, c1324, hs1322, rfl, rfl, hle1320, h1325⟩
        ·
          rintro b1255 _ _ ⟨A1259, c1260, hs1258, rfl, rfl, hle1256, h1261⟩
          have hm := hk1263
          refine c_region ?_
          refine t_st rfl (st_move rfl) ?_
          refine t_st rfl (st_move rfl) ?_
          refine t_do rfl (u_bslice (el := 45) [(0, .slice A1259 (l1262).length c1260)] [.slice A1259 (l1262).length c1260] rfl (fun _ => by kernel_rfl)) ?_
          rintro _ _ ⟨g1351, rfl, rfl⟩
          refine t_front2 [_, _] hs1143 hs1258 (hs701 ++ (hs704 ++ (hs707 ++ R))) rfl ?_
          refine t_frz [_, _] hs1258 (hs1143 ++ (hs701 ++ (hs704 ++ (hs707 ++ R)))) rfl ?_
          intro b1352 hle1353 hz1354
          have h1355 := OS.frz (l := l1262) h1261 hle1353.cells hz1354
          obtain ⟨_, h1356, hm⟩ := bindS hm
          have h1356 := room_some h1356
          refine t_do rfl (u_appOS (r := (RT.list (RT.int .i64))) (l := l1147) [_, _] (hs701 ++ (hs704 ++ (hs707 ++ R))) [[.slice A1259 (l1262).length c1260]] [l1262] rfl (by decide) sl26 inf45 rfl rfl rfl rfl (h1146.le (hle1256.trans hle1353)) rfl (fun w ho => Rd.own (i := 0) ho rfl) ⟨(RT.list_mk h1355), trivial⟩ h1356) ?_
          rintro _ _ ⟨hs1357, rfl, h1358⟩
          obtain ⟨A1359, c1360, rfl, _⟩ := h1358.form
          refine t_st rfl (st_assign rfl) ?_
          refine t_nil ?_
          refine x_block_normal ?_
          refine x_then_normal ?_
          refine c_region ?_
          refine t_st rfl (st_add rfl rfl (by omega)) ?_
          refine t_st rfl (st_move rfl) ?_
          refine t_nil ?_
          refine x_pullb 1 rfl ?_
          refine x_front4 [_, _] hs1357 hs701 hs704 hs707 R rfl ?_
          refine x_front4 [_, _] hs707 hs1357 hs701 hs704 R rfl ?_
          refine x_front4 [_, _] hs704 hs707 hs1357 hs701 R rfl ?_
          refine x_front4 [_, _] hs701 hs704 hs707 hs1357 R rfl ?_
          obtain rfl := some1 hm
          exact x_againS (e' := [(9, .pointer (some ⟨g698, 0, none⟩)), (10, .slice A1359 (l1147 ++ [l1262]).length c1360), (25, .int .i64 ((l4.length : Int))), (26, .int .i64 ((k1148 : Int) + 1))]) (hp' := (g698, Cl 101 [.slice A699 (l692).length c700, .slice A702 (l693).length c703, .slice A705 (l694).length c706]) :: (hs1357 ++ (hs701 ++ (hs704 ++ (hs707 ++ R))))) ⟨rfl, rfl, rfl, rfl, trivial⟩ (.cons_cons _ (.cons _ (sub_app hs1357 (sub_app hs701 (sub_app hs704 (sub_app hs707 (.refl _))))))) ⟨A1359, c1360, hs1357, rfl, rfl, ((hle1141.trans (hle1256.trans hle1353))), h1358⟩
    ·
      rintro b1140 _ _ ⟨A1144, c1145, hs1143, rfl, rfl, hle1141, h1146⟩
      have hm := hk1150
      refine c_seq ?_
      refine c_region ?_
      refine t_st rfl (st_lss_f rfl rfl (by omega)) ?_
      refine t_nil ?_
      refine x_then_normal ?_
      refine c_seq ?_
      refine c_cond_f rfl ?_
      refine c_exit ?_
      refine x_then_exit ?_
      refine x_then_exit ?_
      refine x_block_out ?_
      refine x_then_normal ?_
      refine c_seq ?_
      refine c_region ?_
      refine t_st rfl (st_move rfl) ?_
      refine t_st rfl (st_assign rfl) ?_
      refine t_st rfl (st_assign rfl) ?_
      refine t_nil ?_
      refine x_then_normal ?_
      refine c_ret ?_
      obtain ⟨rfl, rfl⟩ := some2 hm
      exact retM (rs := [.tmp 6, .tmp 7]) [.slice A1144 (l1147).length c1145, .int .i64 (0)] (hle697.trans hle1141) (by decide) rfl ⟨rfl, ⟨rfl, trivial⟩⟩ rfl (hp' := (hs1143 ++ R)) (.cons _ (sub_app hs1143 (sub_skip hs701 (sub_skip hs704 (sub_skip hs707 (.refl _)))))) ⟨A1144, c1145, hs1143, rfl, rfl, h1146⟩

set_option maxRecDepth 20000 in
theorem cFishkeep2FleetEmpties (b : Base) (R : Hp) (l4 : (List FleetTask)) (x5 : Int) (l9 : (List (List Int))) (A1 : Option Addr) (c2 : Nat) (A6 : Option Addr) (c7 : Nat) (h3 : FZ rFleetTask b.w A1 c2 l4) (h8 : FZ (RT.list (RT.int .i64)) b.w A6 c7 l9) (x262 : Bool) (hm : mFishkeep2FleetEmpties l4 x5 l9 = some x262) :
    CallsG Try.prog 5 [.slice A1 (l4).length c2, .int .i64 (x5), .slice A6 (l9).length c7] b (R) (fun v b' hp' => .bool (x262) = v ∧ R = hp') := by
  refine fn_enterG 94 Try.func5 rfl Try.ntmps5 rfl ?_
  unfold mFishkeep2FleetEmpties at hm
  refine c_seq ?_
  refine c_region ?_
  refine t_st rfl (st_assign rfl) ?_
  refine t_nil ?_
  refine x_then_normal ?_
  refine c_seq ?_
  refine c_seq ?_
  refine c_region ?_
  obtain ⟨x263, hcl264, hm⟩ := bindS hm
  refine t_do rfl (u_callW0 _ call10 rfl (fun w ho => cFishkeep2AwakeFleet _ [] x263 hcl264) (fun _ _ _ h => h.2.symm)) ?_
  rintro _ _ ⟨⟨_, rfl, _⟩, rfl⟩
  refine t_st rfl (st_not rfl) ?_
  refine t_nil ?_
  refine x_then_normal ?_
  refine c_cond _ rfl (fun hc265 => ?_) (fun hc265 => ?_)
  ·
    rw [if_neg (fun hh => Bool.noConfusion (hh.symm.trans (notT hc265)))] at hm
    refine c_seq ?_
    refine c_region ?_
    refine t_st rfl (st_assign rfl) ?_
    refine t_nil ?_
    refine x_then_normal ?_
    refine c_ret ?_
    refine x_then_ret ?_
    obtain rfl := some1 hm
    exact retM (rs := [.tmp 6]) [.bool (false)] (Base.Le.refl _) (by decide) rfl ⟨rfl, trivial⟩ rfl (hp' := R) (.refl _) ⟨rfl, rfl⟩
  ·
    rw [if_pos (notF hc265)] at hm
    refine c_skip ?_
    refine x_then_normal ?_
    refine c_seq ?_
    refine c_seq ?_
    refine c_region ?_
    obtain ⟨x266, hcl267, hm⟩ := bindS hm
    refine t_do rfl (u_callW0 _ call11 rfl (fun w ho => cFishkeep2Sets _ [] x266 hcl267) (fun _ _ _ h => h.2.symm)) ?_
    rintro _ _ ⟨⟨_, rfl, _⟩, rfl⟩
    refine t_st rfl (st_not rfl) ?_
    refine t_nil ?_
    refine x_then_normal ?_
    refine c_cond _ rfl (fun hc268 => ?_) (fun hc268 => ?_)
    ·
      rw [if_neg (fun hh => Bool.noConfusion (hh.symm.trans (notT hc268)))] at hm
      refine c_seq ?_
      refine c_region ?_
      refine t_st rfl (st_assign rfl) ?_
      refine t_nil ?_
      refine x_then_normal ?_
      refine c_ret ?_
      refine x_then_ret ?_
      obtain rfl := some1 hm
      exact retM (rs := [.tmp 6]) [.bool (false)] (Base.Le.refl _) (by decide) rfl ⟨rfl, trivial⟩ rfl (hp' := R) (.refl _) ⟨rfl, rfl⟩
    ·
      rw [if_pos (notF hc268)] at hm
      refine c_skip ?_
      refine x_then_normal ?_
      refine c_seq ?_
      refine c_seq ?_
      refine c_region ?_
      refine t_st rfl (st_move rfl) ?_
      refine t_st rfl (st_move rfl) ?_
      refine t_st rfl (st_move rfl) ?_
      obtain ⟨x269, hcl270, hm⟩ := bindS hm
      refine t_do rfl (u_callW0 _ call23 rfl (fun w ho => cFishref2EmptyFault _ [] l4 x5 l9 A1 c2 A6 c7 (h3.old ho) (h8.old ho) x269 hcl270) (fun _ _ _ h => h.2.symm)) ?_
      rintro _ _ ⟨⟨_, rfl, _⟩, rfl⟩
      refine t_st rfl (st_neq rfl rfl) ?_
      refine t_nil ?_
      refine x_then_normal ?_
      refine c_cond _ rfl (fun hc271 => ?_) (fun hc271 => ?_)
      ·
        rw [if_pos (of_decide_eq_true hc271)] at hm
        refine c_seq ?_
        refine c_region ?_
        refine t_st rfl (st_assign rfl) ?_
        refine t_nil ?_
        refine x_then_normal ?_
        refine c_ret ?_
        refine x_then_ret ?_
        obtain rfl := some1 hm
        exact retM (rs := [.tmp 6]) [.bool (true)] (Base.Le.refl _) (by decide) rfl ⟨rfl, trivial⟩ rfl (hp' := R) (.refl _) ⟨rfl, rfl⟩
      ·
        rw [if_neg (of_decide_eq_false hc271)] at hm
        refine c_skip ?_
        refine x_then_normal ?_
        refine c_seq ?_
        refine c_region ?_
        refine t_st rfl (st_assign rfl) ?_
        refine t_nil ?_
        refine x_then_normal ?_
        refine c_seq ?_
        refine c_seq ?_
        refine c_region ?_
        refine t_st rfl (st_move rfl) ?_
        refine t_st rfl (st_len rfl sl22) ?_
        refine t_st rfl (st_move rfl) ?_
        refine t_nil ?_
        refine x_then_normal ?_
        refine c_block ?_
        have hb273 := (FZ.bd h3)
        obtain ⟨l322, hl324, hk325⟩ := bindS hm
        refine c_forS (fun k323 => fun l322 => fun b315 e' hp' => ∃ (A319 : Option Addr), ∃ (c320 : Nat), ∃ (hs318 : Hp), [(1, .int .i64 (x5)), (2, .slice A6 (l9).length c7), (7, .slice A319 (l322).length c320), (27, .slice A1 (l4).length c2), (28, .int .i64 ((l4.length : Int))), (29, .int .i64 ((k323 : Int)))] = e' ∧ (hs318 ++ R) = hp' ∧ b.Le b315 ∧ OS 36 (OT.fr rFleetTask) b315.w (.slice A319 l322.length c320) l322 hs318) hl324 (e' := [(1, .int .i64 (x5)), (2, .slice A6 (l9).length c7), (7, .slice none 0 0), (27, .slice A1 (l4).length c2), (28, .int .i64 ((l4.length : Int))), (29, .int .i64 0)]) (hp' := ([] ++ R)) ⟨rfl, rfl, rfl, rfl, rfl, rfl, trivial⟩ (.refl _) ⟨none, 0, [], rfl, rfl, (Base.Le.refl _), OS.nil⟩ ?_ ?_
        ·
          rintro k323 l322 b315 _ _ oL272 hknL272 ⟨A319, c320, hs318, rfl, rfl, hle316, h321⟩ hstepL272
          unfold mFishkeep2FleetEmpties_L272 at hstepL272
          have hm := hstepL272
          refine c_seq ?_
          refine c_region ?_
          refine t_st rfl (st_lss_t rfl rfl (by omega)) ?_
          refine t_nil ?_
          refine x_then_normal ?_
          refine c_seq ?_
          refine c_cond_t rfl ?_
          refine c_skip ?_
          refine x_then_normal ?_
          refine c_seq ?_
          refine c_block ?_
          refine c_seq ?_
          refine c_region ?_
          obtain ⟨x326, h327, hm⟩ := bindS hm
          obtain ⟨j328, hj329, hx330⟩ := idx_some h327
          obtain ⟨cs331, hr332, hcs333, hA334, hlt335⟩ := FZ.get (sz := 6) rfl (by decide) (h3.le hle316) hx330
          obtain ⟨_, _, rfl, rfl, ⟨_, _, rfl, rfl, ⟨_, _, rfl, rfl, ⟨_, _, rfl, rfl, ⟨_, _, rfl, rfl, rfl⟩⟩⟩⟩⟩ := hr332
          refine t_st rfl (st_index_old j328 rfl rfl hj329 hlt335 hA334 sl22) ?_
          refine t_st rfl (st_loadN_old (vs := [.int .i64 (x326.From), .int .i64 (x326.To), .int .i64 (x326.Dep), .int .i64 (x326.Arr), .int .i64 (x326.Km), .int .i64 (x326.Units)]) 6 rfl agg36 hA334 rfl (fun j u hu => hcs333 j u hu)) ?_
          refine t_do rfl (u_alloc [.int .i64 0, .int .i64 0, .int .i64 0, .int .i64 0, .int .i64 0, .int .i64 0] zero36 rfl) ?_
          rintro _ _ ⟨g336, rfl, rfl⟩
          refine t_do rfl (u_storeN (vs := [_, _, _, _, _, _]) 0 6 rfl rfl rfl siz36 rfl (by intro u hu; simp only [List.mem_cons, List.not_mem_nil, or_false] at hu; rcases hu with rfl | rfl | rfl | rfl | rfl | rfl <;> rfl) rfl (by simp)) ?_
          rintro _ _ rfl
          refine t_nil ?_
          refine x_then_normal ?_
          refine c_seq ?_
          refine c_region ?_
          refine t_st rfl (st_field rfl fld36_5) ?_
          refine t_do rfl (u_store 0 rfl rfl siz3 rfl rfl (by simp)) ?_
          rintro _ _ rfl
          refine t_nil ?_
          refine x_then_normal ?_
          refine c_region ?_
          refine t_st rfl (st_move rfl) ?_
          refine t_st rfl (st_loadD (vs := [_, _, _, _, _, _]) 0 6 rfl agg36 rfl rfl rfl) ?_
          refine t_do rfl (u_bslice (el := 36) [(0, .agg #[.int .i64 (x326.From), .int .i64 (x326.To), .int .i64 (x326.Dep), .int .i64 (x326.Arr), .int .i64 (x326.Km), .int .i64 (1)])] [.int .i64 (x326.From), .int .i64 (x326.To), .int .i64 (x326.Dep), .int .i64 (x326.Arr), .int .i64 (x326.Km), .int .i64 (1)] rfl (fun _ => by kernel_rfl)) ?_
          rintro _ _ ⟨g337, rfl, rfl⟩
          obtain ⟨_, h338, hm⟩ := bindS hm
          have h338 := room_some h338
          refine t_do rfl (u_appOS (r := rFleetTask) (l := l322) [_, _] R [[.int .i64 (x326.From), .int .i64 (x326.To), .int .i64 (x326.Dep), .int .i64 (x326.Arr), .int .i64 (x326.Km), .int .i64 (1)]] [(⟨x326.From, x326.To, x326.Dep, x326.Arr, x326.Km, 1⟩ : FleetTask)] rfl (by decide) sl22 inf36 rfl rfl rfl rfl h321 rfl (fun w ho => Rd.own (i := 0) ho rfl) ⟨⟨[.int .i64 (x326.From)], _, rfl, rfl, ⟨[.int .i64 (x326.To)], _, rfl, rfl, ⟨[.int .i64 (x326.Dep)], _, rfl, rfl, ⟨[.int .i64 (x326.Arr)], _, rfl, rfl, ⟨[.int .i64 (x326.Km)], _, rfl, rfl, rfl⟩⟩⟩⟩⟩, trivial⟩ h338) ?_
          rintro _ _ ⟨hs339, rfl, h340⟩
          obtain ⟨A341, c342, rfl, _⟩ := h340.form
          refine t_st rfl (st_assign rfl) ?_
          refine t_nil ?_
          refine x_block_normal ?_
          refine x_then_normal ?_
          refine c_region ?_
          refine t_st rfl (st_add rfl rfl (by omega)) ?_
          refine t_st rfl (st_move rfl) ?_
          refine t_nil ?_
          obtain rfl := some1 hm
          exact x_againS (e' := [(1, .int .i64 (x5)), (2, .slice A6 (l9).length c7), (7, .slice A341 (l322 ++ [(⟨x326.From, x326.To, x326.Dep, x326.Arr, x326.Km, 1⟩ : FleetTask)]).length c342), (27, .slice A1 (l4).length c2), (28, .int .i64 ((l4.length : Int))), (29, .int .i64 ((k323 : Int) + 1))]) (hp' := (hs339 ++ R)) ⟨rfl, rfl, rfl, rfl, rfl, rfl, trivial⟩ (.cons _ (.cons _ (sub_app hs339 (.refl _)))) ⟨A341, c342, hs339, rfl, rfl, (hle316), h340⟩
        ·
          rintro b315 _ _ ⟨A319, c320, hs318, rfl, rfl, hle316, h321⟩
          have hm := hk325
          refine c_seq ?_
          refine c_region ?_
          refine t_st rfl (st_lss_f rfl rfl (by omega)) ?_
          refine t_nil ?_
          refine x_then_normal ?_
          refine c_seq ?_
          refine c_cond_f rfl ?_
          refine c_exit ?_
          refine x_then_exit ?_
          refine x_then_exit ?_
          refine x_block_out ?_
          refine x_then_normal ?_
          refine c_seq ?_
          refine c_region ?_
          refine t_st rfl (st_move rfl) ?_
          refine t_st rfl (st_move rfl) ?_
          refine t_st rfl (st_move rfl) ?_
          refine t_frz [] hs318 R rfl ?_
          intro b343 hle344 hz345
          have h346 := OS.frz (l := l322) h321 hle344.cells hz345
          obtain ⟨⟨x347, l348⟩, hcl349, hm⟩ := bindS hm
          have hm := (unc2E hm)
          refine t_callG _ rfl call24 rfl (cFleetCovers _ _ l322 x5 l9 A319 c320 A6 c7 h346 (h8.le (hle316.trans hle344)) x347 l348 hcl349) ?_
          rintro _ b350 _ hle351 ⟨A352, c353, hs354, rfl, rfl, h355⟩
          refine t_in1 [] [] hs354 R rfl ?_
          refine t_st rfl (st_move rfl) ?_
          refine t_st rfl (st_extract rfl rfl) ?_
          refine t_st rfl (st_extract rfl rfl) ?_
          refine t_st rfl (st_assign rfl) ?_
          refine t_st rfl (st_assign rfl) ?_
          refine t_nil ?_
          refine x_then_normal ?_
          refine c_seq ?_
          refine c_region ?_
          refine t_st rfl (st_move rfl) ?_
          refine t_st rfl (st_move rfl) ?_
          obtain ⟨⟨x356, l357⟩, hcl358, hm⟩ := bindS hm
          have hm := (unc2E hm)
          refine t_callG _ rfl call13 rfl (cFleetTurns _ _ l322 x5 A319 c320 (h346.le hle351) x356 l357 hcl358) ?_
          rintro _ b359 _ hle360 ⟨A361, c362, hs363, rfl, rfl, h364⟩
          refine t_in1 [] [] hs363 (hs354 ++ R) rfl ?_
          refine t_st rfl (st_move rfl) ?_
          refine t_st rfl (st_extract rfl rfl) ?_
          refine t_st rfl (st_extract rfl rfl) ?_
          refine t_st rfl (st_assign rfl) ?_
          refine t_st rfl (st_assign rfl) ?_
          refine t_nil ?_
          refine x_then_normal ?_
          refine c_seq ?_
          refine c_region ?_
          obtain ⟨m365, h366, hm⟩ := bindS hm
          have h366 := mkLen_some h366
          refine t_do rfl (u_mkOS (r := (RT.list (RT.int .i64))) [] (hs363 ++ (hs354 ++ R)) [.slice none 0 0] ([] : List Int) m365 rfl h366.1 rfl rfl sl26 inf45 rfl rfl rfl (by decide) (RT.list_mk FZ.nil) h366.2.1 h366.2.2) ?_
          rintro _ _ ⟨hs367, rfl, h368⟩
          obtain ⟨A369, c370, rfl, _⟩ := h368.form
          refine t_st rfl (st_assign rfl) ?_
          refine t_nil ?_
          refine x_then_normal ?_
          refine c_seq ?_
          refine c_seq ?_
          refine c_region ?_
          refine t_st rfl (st_move rfl) ?_
          refine t_st rfl (st_len rfl sl26) ?_
          refine t_st rfl (st_move rfl) ?_
          refine t_nil ?_
          refine x_then_normal ?_
          refine c_block ?_
          have hb372 := (OS.len h368)
          refine c_front2 [] hs367 hs363 (hs354 ++ R) rfl ?_
          refine c_front3 [] hs363 hs367 hs354 R rfl ?_
          obtain ⟨l451, hl454, hk455⟩ := bindS hm
          refine c_forS (fun k453 => fun l451 => fun b446 e' hp' => ∃ (hs449 : Hp), [(1, .int .i64 (x5)), (7, .slice A319 (l322).length c320), (10, .slice A352 (l348).length c353), (11, .int .i64 (x347)), (12, .slice A361 (l357).length c362), (13, .int .i64 (x356)), (14, .slice A369 (l451).length c370), (54, .int .i64 (((List.replicate m365 (([] : List Int) : (List Int))).length : Int))), (55, .int .i64 ((k453 : Int)))] = e' ∧ (hs354 ++ (hs363 ++ (hs449 ++ R))) = hp' ∧ b359.Le b446 ∧ OS 45 (OT.fr (RT.list (RT.int .i64))) b446.w (.slice A369 l451.length c370) l451 hs449 ∧ l451.length = m365) hl454 (e' := [(1, .int .i64 (x5)), (7, .slice A319 (l322).length c320), (10, .slice A352 (l348).length c353), (11, .int .i64 (x347)), (12, .slice A361 (l357).length c362), (13, .int .i64 (x356)), (14, .slice A369 (List.replicate m365 (([] : List Int) : (List Int))).length c370), (54, .int .i64 (((List.replicate m365 (([] : List Int) : (List Int))).length : Int))), (55, .int .i64 0)]) (hp' := (hs354 ++ (hs363 ++ (hs367 ++ R)))) ⟨rfl, rfl, rfl, rfl, rfl, rfl, rfl, rfl, rfl, trivial⟩ (sub_app hs354 (sub_app hs363 (sub_app hs367 (.refl _)))) ⟨hs367, rfl, rfl, (Base.Le.refl _), h368, List.length_replicate⟩ ?_ ?_
          ·
            rintro k453 l451 b446 _ _ oL371 hknL371 ⟨hs449, rfl, rfl, hle447, h450, hln452⟩ hstepL371
            unfold mFishkeep2FleetEmpties_L371 at hstepL371
            have hm := hstepL371
            refine c_seq ?_
            refine c_region ?_
            refine t_st rfl (st_lss_t rfl rfl (by omega)) ?_
            refine t_nil ?_
            refine x_then_normal ?_
            refine c_seq ?_
            refine c_cond_t rfl ?_
            refine c_skip ?_
            refine x_then_normal ?_
            refine c_seq ?_
            refine c_block ?_
            refine c_seq ?_
            refine c_region ?_
            refine t_st rfl (st_move rfl) ?_
            refine t_st rfl (st_assign rfl) ?_
            refine t_nil ?_
            refine x_then_normal ?_
            refine c_region ?_
            refine t_st rfl (st_move rfl) ?_
            refine t_st rfl (st_move rfl) ?_
            obtain ⟨m456, h457, hm⟩ := bindS hm
            have h457 := mkLen_some h457
            refine t_do rfl (u_mkOS (r := (RT.int .i64)) [] (hs354 ++ (hs363 ++ (hs449 ++ R))) [.int .i64 (0)] 0 m456 rfl h457.1 rfl rfl sl45 inf3 rfl rfl rfl (by decide) rfl h457.2.1 h457.2.2) ?_
            rintro _ _ ⟨hs458, rfl, h459⟩
            obtain ⟨A460, c461, rfl, _⟩ := h459.form
            obtain ⟨x462, h463, hm⟩ := bindS hm
            obtain ⟨j464, hj465, hx466⟩ := idx_some h463
            obtain ⟨cs467, hs472, P473, P474, hq475, hr468, hcs469, hA470, hlt471, hb476, hho477⟩ := OS.get (sz := 1) rfl (by decide) h450 hx466
            obtain ⟨⟨A478, c479, rfl, h480⟩, rfl⟩ := hr468
            refine t_st rfl (st_index_old j464 rfl rfl hj465 hlt471 hA470 sl26) ?_
            refine t_frz [] hs458 (hs354 ++ (hs363 ++ (hs449 ++ R))) rfl ?_
            intro b483 hle484 hz485
            have h486 := OS.frz (l := List.replicate m456 (0 : Int)) h459 hle484.cells hz485
            refine t_front3 [] hs354 hs363 hs449 R rfl ?_
            refine t_do rfl (u_putOS hj465 (sz := 1) (a' := List.replicate m456 (0 : Int)) rfl [] (hs354 ++ (hs363 ++ R)) 0 1 [.slice A460 (List.replicate m456 (0 : Int)).length c461] rfl (h450.le hle484) hx466 rfl rfl rfl siz45 rfl (by intro u hu; simp only [List.mem_cons, List.not_mem_nil, or_false] at hu; subst hu; rfl) (fun cs hsj hh => by obtain ⟨⟨A487, c488, rfl, h489⟩, rfl⟩ := hh; exact ⟨by decide, (RT.list_mk h486), rfl⟩)) ?_
            rintro _ _ ⟨hs481, rfl, h482⟩
            refine t_resp 14 rfl (v' := .slice A369 (put l451 (k453 : Int) (List.replicate m456 (0 : Int))).length c370) (by simp only [put_length]) ?_
            refine t_nil ?_
            refine x_block_normal ?_
            refine x_then_normal ?_
            refine c_region ?_
            refine t_st rfl (st_add rfl rfl (by omega)) ?_
            refine t_st rfl (st_move rfl) ?_
            refine t_nil ?_
            refine x_front3 [] hs481 hs354 hs363 R rfl ?_
            refine x_front3 [] hs363 hs481 hs354 R rfl ?_
            obtain rfl := some1 hm
            exact x_againS (e' := [(1, .int .i64 (x5)), (7, .slice A319 (l322).length c320), (10, .slice A352 (l348).length c353), (11, .int .i64 (x347)), (12, .slice A361 (l357).length c362), (13, .int .i64 (x356)), (14, .slice A369 (put l451 (k453 : Int) (List.replicate m456 (0 : Int))).length c370), (54, .int .i64 (((List.replicate m365 (([] : List Int) : (List Int))).length : Int))), (55, .int .i64 ((k453 : Int) + 1))]) (hp' := (hs354 ++ (hs363 ++ (hs481 ++ R)))) ⟨rfl, rfl, rfl, rfl, rfl, rfl, rfl, rfl, rfl, trivial⟩ (sub_app hs354 (sub_app hs363 (sub_app hs481 (.refl _)))) ⟨hs481, rfl, rfl, ((hle447.trans hle484)), h482, ((put_length _ _ _).trans hln452)⟩
          ·
            rintro b446 _ _ ⟨hs449, rfl, rfl, hle447, h450, hln452⟩
            have hm := hk455
            refine c_seq ?_
            refine c_region ?_
            refine t_st rfl (st_lss_f rfl rfl (by omega)) ?_
            refine t_nil ?_
            refine x_then_normal ?_
            refine c_seq ?_
            refine c_cond_f rfl ?_
            refine c_exit ?_
            refine x_then_exit ?_
            refine x_then_exit ?_
            refine x_block_out ?_
            refine x_then_normal ?_
            refine c_seq ?_
            refine c_region ?_
            refine t_st rfl (st_move rfl) ?_
            refine t_st rfl (st_move rfl) ?_
            refine t_st rfl (st_move rfl) ?_
            refine t_front3 [] hs354 hs363 hs449 R rfl ?_
            refine t_frz [] hs449 (hs354 ++ (hs363 ++ R)) rfl ?_
            intro b490 hle491 hz492
            have h493 := OS.frz (l := l451) h450 hle491.cells hz492
            obtain ⟨⟨x494, l495⟩, hcl496, hm⟩ := bindS hm
            have hm := (unc2E hm)
            refine t_callG _ rfl call24 rfl (cFleetCovers _ _ l322 x5 l451 A319 c320 A369 c370 (h346.le (hle351.trans (hle360.trans (hle447.trans hle491)))) h493 x494 l495 hcl496) ?_
            rintro _ b497 _ hle498 ⟨A499, c500, hs501, rfl, rfl, h502⟩
            refine t_in1 [] [] hs501 (hs354 ++ (hs363 ++ R)) rfl ?_
            refine t_st rfl (st_move rfl) ?_
            refine t_st rfl (st_extract rfl rfl) ?_
            refine t_st rfl (st_extract rfl rfl) ?_
            refine t_st rfl (st_assign rfl) ?_
            refine t_st rfl (st_assign rfl) ?_
            refine t_nil ?_
            refine x_then_normal ?_
            obtain ⟨x509, hj510, hk510⟩ := bindS hm
            refine c_join (fun b507 e' hp' => [(6, .bool (x509))] = e' ∧ R = hp' ∧ b497.Le b507) ?_ ?_
            ·
              have hm := hj510
              refine c_region ?_
              refine t_st rfl (st_move rfl) ?_
              refine t_bool rfl (st_eql rfl rfl) (fun hc511 => ?_) (fun hc511 => ?_)
              ·
                rw [if_pos hc511] at hm
                refine t_st rfl (st_move rfl) ?_
                refine t_yes 72 rfl rfl rfl ?_
                refine t_st rfl (st_move rfl) ?_
                refine t_yes 72 rfl rfl rfl ?_
                refine t_bool rfl (st_eql rfl rfl) (fun hc512 => ?_) (fun hc512 => ?_)
                ·
                  rw [if_pos hc512] at hm
                  refine t_st rfl (st_pick_t rfl rfl) ?_
                  refine t_st rfl (st_move rfl) ?_
                  refine t_yes 76 rfl rfl rfl ?_
                  refine t_st rfl (st_move rfl) ?_
                  refine t_yes 76 rfl rfl rfl ?_
                  refine t_bool rfl (st_eql rfl rfl) (fun hc513 => ?_) (fun hc513 => ?_)
                  ·
                    rw [if_pos hc513] at hm
                    refine t_st rfl (st_pick_t rfl rfl) ?_
                    refine t_st rfl (st_move rfl) ?_
                    refine t_yes 80 rfl rfl rfl ?_
                    refine t_st rfl (st_move rfl) ?_
                    refine t_yes 80 rfl rfl rfl ?_
                    refine t_st rfl (st_len rfl sl26) ?_
                    refine t_yes 80 rfl rfl rfl ?_
                    refine t_st rfl (st_move rfl) ?_
                    refine t_yes 80 rfl rfl rfl ?_
                    refine t_st rfl (st_len rfl sl26) ?_
                    refine t_yes 80 rfl rfl rfl ?_
                    refine t_bool rfl (st_leq rfl rfl) (fun hc514 => ?_) (fun hc514 => ?_)
                    ·
                      rw [if_pos hc514] at hm
                      refine t_st rfl (st_pick_t rfl rfl) ?_
                      refine t_st rfl (st_move rfl) ?_
                      refine t_yes 87 rfl rfl rfl ?_
                      refine t_st rfl (st_move rfl) ?_
                      refine t_yes 87 rfl rfl rfl ?_
                      refine t_st rfl (st_len rfl sl26) ?_
                      refine t_yes 87 rfl rfl rfl ?_
                      refine t_st rfl (st_move rfl) ?_
                      refine t_yes 87 rfl rfl rfl ?_
                      refine t_st rfl (st_len rfl sl26) ?_
                      refine t_yes 87 rfl rfl rfl ?_
                      refine t_st rfl (st_leq rfl rfl) ?_
                      refine t_st rfl (st_pick_t rfl rfl) ?_
                      refine t_st rfl (st_assign rfl) ?_
                      refine t_nil ?_
                      obtain rfl := some1 hm
                      exact x_join (e' := [(6, .bool (decide ((l495.length : Int) ≤ (l348.length : Int))))]) (hp' := R) ⟨rfl, trivial⟩ (sub_skip hs501 (sub_skip hs354 (sub_skip hs363 (.refl _)))) ⟨rfl, rfl, (Base.Le.refl _)⟩
                    ·
                      rw [if_neg hc514] at hm
                      refine t_st rfl (st_pick_t rfl rfl) ?_
                      refine t_st rfl (st_move rfl) ?_
                      refine t_no 87 rfl rfl rfl rfl rfl ?_
                      refine t_no 87 rfl rfl rfl rfl rfl ?_
                      refine t_no 87 rfl rfl rfl rfl rfl ?_
                      refine t_no 87 rfl rfl rfl rfl rfl ?_
                      refine t_no 87 rfl rfl rfl rfl rfl ?_
                      refine t_st rfl (st_pick_f rfl rfl) ?_
                      refine t_st rfl (st_assign rfl) ?_
                      refine t_nil ?_
                      obtain rfl := some1 hm
                      exact x_join (e' := [(6, .bool (false))]) (hp' := R) ⟨rfl, trivial⟩ (sub_skip hs501 (sub_skip hs354 (sub_skip hs363 (.refl _)))) ⟨rfl, rfl, (Base.Le.refl _)⟩
                  ·
                    rw [if_neg hc513] at hm
                    refine t_st rfl (st_pick_t rfl rfl) ?_
                    refine t_st rfl (st_move rfl) ?_
                    refine t_no 80 rfl rfl rfl rfl rfl ?_
                    refine t_no 80 rfl rfl rfl rfl rfl ?_
                    refine t_no 80 rfl rfl rfl rfl rfl ?_
                    refine t_no 80 rfl rfl rfl rfl rfl ?_
                    refine t_no 80 rfl rfl rfl rfl rfl ?_
                    refine t_st rfl (st_pick_f rfl rfl) ?_
                    refine t_st rfl (st_move rfl) ?_
                    refine t_no 87 rfl rfl rfl rfl rfl ?_
                    refine t_no 87 rfl rfl rfl rfl rfl ?_
                    refine t_no 87 rfl rfl rfl rfl rfl ?_
                    refine t_no 87 rfl rfl rfl rfl rfl ?_
                    refine t_no 87 rfl rfl rfl rfl rfl ?_
                    refine t_st rfl (st_pick_f rfl rfl) ?_
                    refine t_st rfl (st_assign rfl) ?_
                    refine t_nil ?_
                    obtain rfl := some1 hm
                    exact x_join (e' := [(6, .bool (false))]) (hp' := R) ⟨rfl, trivial⟩ (sub_skip hs501 (sub_skip hs354 (sub_skip hs363 (.refl _)))) ⟨rfl, rfl, (Base.Le.refl _)⟩
                ·
                  rw [if_neg hc512] at hm
                  refine t_st rfl (st_pick_t rfl rfl) ?_
                  refine t_st rfl (st_move rfl) ?_
                  refine t_no 76 rfl rfl rfl rfl rfl ?_
                  refine t_no 76 rfl rfl rfl rfl rfl ?_
                  refine t_st rfl (st_pick_f rfl rfl) ?_
                  refine t_st rfl (st_move rfl) ?_
                  refine t_no 80 rfl rfl rfl rfl rfl ?_
                  refine t_no 80 rfl rfl rfl rfl rfl ?_
                  refine t_no 80 rfl rfl rfl rfl rfl ?_
                  refine t_no 80 rfl rfl rfl rfl rfl ?_
                  refine t_no 80 rfl rfl rfl rfl rfl ?_
                  refine t_st rfl (st_pick_f rfl rfl) ?_
                  refine t_st rfl (st_move rfl) ?_
                  refine t_no 87 rfl rfl rfl rfl rfl ?_
                  refine t_no 87 rfl rfl rfl rfl rfl ?_
                  refine t_no 87 rfl rfl rfl rfl rfl ?_
                  refine t_no 87 rfl rfl rfl rfl rfl ?_
                  refine t_no 87 rfl rfl rfl rfl rfl ?_
                  refine t_st rfl (st_pick_f rfl rfl) ?_
                  refine t_st rfl (st_assign rfl) ?_
                  refine t_nil ?_
                  obtain rfl := some1 hm
                  exact x_join (e' := [(6, .bool (false))]) (hp' := R) ⟨rfl, trivial⟩ (sub_skip hs501 (sub_skip hs354 (sub_skip hs363 (.refl _)))) ⟨rfl, rfl, (Base.Le.refl _)⟩
              ·
                rw [if_neg hc511] at hm
                refine t_st rfl (st_move rfl) ?_
                refine t_no 72 rfl rfl rfl rfl rfl ?_
                refine t_no 72 rfl rfl rfl rfl rfl ?_
                refine t_st rfl (st_pick_f rfl rfl) ?_
                refine t_st rfl (st_move rfl) ?_
                refine t_no 76 rfl rfl rfl rfl rfl ?_
                refine t_no 76 rfl rfl rfl rfl rfl ?_
                refine t_st rfl (st_pick_f rfl rfl) ?_
                refine t_st rfl (st_move rfl) ?_
                refine t_no 80 rfl rfl rfl rfl rfl ?_
                refine t_no 80 rfl rfl rfl rfl rfl ?_
                refine t_no 80 rfl rfl rfl rfl rfl ?_
                refine t_no 80 rfl rfl rfl rfl rfl ?_
                refine t_no 80 rfl rfl rfl rfl rfl ?_
                refine t_st rfl (st_pick_f rfl rfl) ?_
                refine t_st rfl (st_move rfl) ?_
                refine t_no 87 rfl rfl rfl rfl rfl ?_
                refine t_no 87 rfl rfl rfl rfl rfl ?_
                refine t_no 87 rfl rfl rfl rfl rfl ?_
                refine t_no 87 rfl rfl rfl rfl rfl ?_
                refine t_no 87 rfl rfl rfl rfl rfl ?_
                refine t_st rfl (st_pick_f rfl rfl) ?_
                refine t_st rfl (st_assign rfl) ?_
                refine t_nil ?_
                obtain rfl := some1 hm
                exact x_join (e' := [(6, .bool (false))]) (hp' := R) ⟨rfl, trivial⟩ (sub_skip hs501 (sub_skip hs354 (sub_skip hs363 (.refl _)))) ⟨rfl, rfl, (Base.Le.refl _)⟩
            ·
              rintro b507 _ _ ⟨rfl, rfl, hle508⟩
              have hm := hk510
              refine c_ret ?_
              obtain rfl := some1 hm
              exact retM (rs := [.tmp 6]) [.bool (x509)] (hle316.trans (hle344.trans (hle351.trans (hle360.trans (hle447.trans (hle491.trans (hle498.trans hle508))))))) (by decide) rfl ⟨rfl, trivial⟩ rfl (hp' := R) (.refl _) ⟨rfl, rfl⟩

end Go.Proofs.Ytajmocgpjkhjlaa
