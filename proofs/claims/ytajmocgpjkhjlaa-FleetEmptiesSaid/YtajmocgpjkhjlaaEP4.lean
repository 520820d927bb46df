/- Contracts: the code computes its model (part 4). -/
import Derived.Test.YtajmocgpjkhjlaaEP3
set_option linter.unusedVariables false
set_option linter.unusedSimpArgs false
namespace Go.Proofs.Ytajmocgpjkhjlaa
open Go.RowKit Go.Fp

set_option maxRecDepth 20000 in
theorem cFishref2EmptyFault (b : Base) (R : Hp) (l4 : (List FleetTask)) (x5 : Int) (l9 : (List (List Int))) (A1 : Option Addr) (c2 : Nat) (A6 : Option Addr) (c7 : Nat) (h3 : FZ rFleetTask b.w A1 c2 l4) (h8 : FZ (RT.list (RT.int .i64)) b.w A6 c7 l9) (x1514 : Int) (hm : mFishref2EmptyFault l4 x5 l9 = some x1514) :
    CallsG Try.prog 23 [.slice A1 (l4).length c2, .int .i64 (x5), .slice A6 (l9).length c7] b (R) (fun v b' hp' => .int .i64 (x1514) = v ∧ R = hp') := by
  refine fn_enterG 130 Try.func23 rfl Try.ntmps23 rfl ?_
  unfold mFishref2EmptyFault at hm
  refine c_seq ?_
  refine c_region ?_
  refine t_st rfl (st_assign rfl) ?_
  refine t_nil ?_
  refine x_then_normal ?_
  refine c_seq ?_
  refine c_seq ?_
  refine c_region ?_
  refine t_st rfl (st_move rfl) ?_
  refine t_st rfl (st_move rfl) ?_
  obtain ⟨x1515, hcl1516, hm⟩ := bindS hm
  refine t_do rfl (u_callW0 _ call12 rfl (fun w ho => cFishref2TurnFault _ [] l4 x5 A1 c2 (h3.old ho) x1515 hcl1516) (fun _ _ _ h => h.2.symm)) ?_
  rintro _ _ ⟨⟨_, rfl, _⟩, rfl⟩
  refine t_st rfl (st_assign rfl) ?_
  refine t_nil ?_
  refine x_then_normal ?_
  refine c_seq ?_
  refine c_region ?_
  refine t_st rfl (st_move rfl) ?_
  refine t_st rfl (st_neq rfl rfl) ?_
  refine t_nil ?_
  refine x_then_normal ?_
  refine c_cond _ rfl (fun hc1517 => ?_) (fun hc1517 => ?_)
  ·
    rw [if_pos (of_decide_eq_true hc1517)] at hm
    refine c_seq ?_
    refine c_region ?_
    refine t_st rfl (st_move rfl) ?_
    refine t_st rfl (st_assign rfl) ?_
    refine t_nil ?_
    refine x_then_normal ?_
    refine c_ret ?_
    refine x_then_ret ?_
    obtain rfl := some1 hm
    exact retM (rs := [.tmp 6]) [.int .i64 (x1515)] (Base.Le.refl _) (by decide) rfl ⟨rfl, trivial⟩ rfl (hp' := R) (.refl _) ⟨rfl, rfl⟩
  ·
    rw [if_neg (of_decide_eq_false hc1517)] at hm
    refine c_skip ?_
    refine x_then_normal ?_
    refine c_seq ?_
    refine c_seq ?_
    refine c_region ?_
    refine t_st rfl (st_move rfl) ?_
    refine t_st rfl (st_len rfl sl22) ?_
    refine t_st rfl (st_gtr rfl rfl) ?_
    refine t_nil ?_
    refine x_then_normal ?_
    refine c_cond _ rfl (fun hc1518 => ?_) (fun hc1518 => ?_)
    ·
      rw [if_pos (of_decide_eq_true hc1518)] at hm
      refine c_seq ?_
      refine c_region ?_
      refine t_st rfl (st_assign rfl) ?_
      refine t_nil ?_
      refine x_then_normal ?_
      refine c_ret ?_
      refine x_then_ret ?_
      obtain rfl := some1 hm
      exact retM (rs := [.tmp 6]) [.int .i64 (4)] (Base.Le.refl _) (by decide) rfl ⟨rfl, trivial⟩ rfl (hp' := R) (.refl _) ⟨rfl, rfl⟩
    ·
      rw [if_neg (of_decide_eq_false hc1518)] at hm
      refine c_skip ?_
      refine x_then_normal ?_
      refine c_seq ?_
      refine c_seq ?_
      refine c_region ?_
      refine t_st rfl (st_move rfl) ?_
      refine t_st rfl (st_len rfl sl26) ?_
      refine t_st rfl (st_neq rfl rfl) ?_
      refine t_nil ?_
      refine x_then_normal ?_
      refine c_cond _ rfl (fun hc1519 => ?_) (fun hc1519 => ?_)
      ·
        rw [if_pos (of_decide_eq_true hc1519)] at hm
        refine c_seq ?_
        refine c_region ?_
        refine t_st rfl (st_assign rfl) ?_
        refine t_nil ?_
        refine x_then_normal ?_
        refine c_ret ?_
        refine x_then_ret ?_
        obtain rfl := some1 hm
        exact retM (rs := [.tmp 6]) [.int .i64 (1)] (Base.Le.refl _) (by decide) rfl ⟨rfl, trivial⟩ rfl (hp' := R) (.refl _) ⟨rfl, rfl⟩
      ·
        rw [if_neg (of_decide_eq_false hc1519)] at hm
        refine c_skip ?_
        refine x_then_normal ?_
        refine c_seq ?_
        refine c_seq ?_
        refine c_region ?_
        refine t_st rfl (st_move rfl) ?_
        refine t_st rfl (st_len rfl sl26) ?_
        refine t_st rfl (st_move rfl) ?_
        refine t_nil ?_
        refine x_then_normal ?_
        refine c_block ?_
        have hb1521 := (FZ.bd h8)
        obtain ⟨t1539, hl1540, hk1541⟩ := bindS hm
        refine c_forM (fun k1538 => fun _ => fun b1536 e' hp' => [(0, .slice A1 (l4).length c2), (2, .slice A6 (l9).length c7), (31, .slice A6 (l9).length c7), (32, .int .i64 ((l9.length : Int))), (33, .int .i64 ((k1538 : Int)))] = e' ∧ R = hp' ∧ b.Le b1536) hl1540 (e' := [(0, .slice A1 (l4).length c2), (2, .slice A6 (l9).length c7), (31, .slice A6 (l9).length c7), (32, .int .i64 ((l9.length : Int))), (33, .int .i64 0)]) (hp' := R) ⟨rfl, rfl, rfl, rfl, rfl, trivial⟩ (.refl _) ⟨rfl, rfl, (Base.Le.refl _)⟩ ?_ ?_
        ·
          rintro k1538 _ b1536 _ _ oL1520 hknL1520 ⟨rfl, rfl, hle1537⟩ hstepL1520 houtL1520
          unfold mFishref2EmptyFault_L1520 at hstepL1520
          have hm := hstepL1520
          refine c_seq ?_
          refine c_region ?_
          refine t_st rfl (st_lss_t rfl rfl (by omega)) ?_
          refine t_nil ?_
          refine x_then_normal ?_
          refine c_seq ?_
          refine c_cond_t rfl ?_
          refine c_skip ?_
          refine x_then_normal ?_
          refine c_seq ?_
          refine c_block ?_
          refine c_seq ?_
          refine c_region ?_
          obtain ⟨x1542, h1543, hm⟩ := bindS hm
          obtain ⟨j1544, hj1545, hx1546⟩ := idx_some h1543
          obtain ⟨cs1547, hr1548, hcs1549, hA1550, hlt1551⟩ := FZ.get (sz := 1) rfl (by decide) (h8.le hle1537) hx1546
          obtain ⟨A1552, c1553, rfl, h1554⟩ := hr1548
          refine t_st rfl (st_index_old j1544 rfl rfl hj1545 hlt1551 hA1550 sl26) ?_
          refine t_st rfl (st_load_old rfl one45 (hcs1549 0 _ rfl)) ?_
          refine t_st rfl (st_assign rfl) ?_
          refine t_nil ?_
          refine x_then_normal ?_
          refine c_seq ?_
          refine c_region ?_
          refine t_st rfl (st_move rfl) ?_
          refine t_st rfl (st_len rfl sl45) ?_
          refine t_st rfl (st_neq rfl rfl) ?_
          refine t_nil ?_
          refine x_then_normal ?_
          refine c_cond _ rfl (fun hc1555 => ?_) (fun hc1555 => ?_)
          ·
            rw [if_pos (of_decide_eq_true hc1555)] at hm
            refine c_seq ?_
            refine c_region ?_
            refine t_st rfl (st_assign rfl) ?_
            refine t_nil ?_
            refine x_then_normal ?_
            refine c_ret ?_
            refine x_block_ret ?_
            refine x_then_ret ?_
            refine x_then_ret ?_
            refine x_block_ret ?_
            refine x_then_ret ?_
            have hq1556 := houtL1520 _ (Option.some.inj hm).symm
            rw [hq1556] at hk1541
            have hm := elimR hk1541
            obtain rfl := some1 hm
            exact retM (rs := [.tmp 6]) [.int .i64 (1)] hle1537 (by decide) rfl ⟨rfl, trivial⟩ rfl (hp' := R) (.refl _) ⟨rfl, rfl⟩
          ·
            rw [if_neg (of_decide_eq_false hc1555)] at hm
            refine c_skip ?_
            refine x_block_normal ?_
            refine x_then_normal ?_
            refine c_region ?_
            refine t_st rfl (st_add rfl rfl (by omega)) ?_
            refine t_st rfl (st_move rfl) ?_
            refine t_nil ?_
            exact x_againM () (Option.some.inj hm).symm (e' := [(0, .slice A1 (l4).length c2), (2, .slice A6 (l9).length c7), (31, .slice A6 (l9).length c7), (32, .int .i64 ((l9.length : Int))), (33, .int .i64 ((k1538 : Int) + 1))]) (hp' := R) ⟨rfl, rfl, rfl, rfl, rfl, trivial⟩ (.refl _) ⟨rfl, rfl, (hle1537)⟩
        ·
          rintro _ b1536 _ _ ⟨rfl, rfl, hle1537⟩ hq1557
          rw [hq1557] at hk1541
          have hm := elimL hk1541
          refine c_seq ?_
          refine c_region ?_
          refine t_st rfl (st_lss_f rfl rfl (by omega)) ?_
          refine t_nil ?_
          refine x_then_normal ?_
          refine c_seq ?_
          refine c_cond_f rfl ?_
          refine c_exit ?_
          refine x_then_exit ?_
          refine x_then_exit ?_
          refine x_block_out ?_
          refine x_then_normal ?_
          refine c_seq ?_
          refine c_seq ?_
          refine c_region ?_
          refine t_st rfl (st_move rfl) ?_
          refine t_st rfl (st_len rfl sl26) ?_
          refine t_st rfl (st_move rfl) ?_
          refine t_nil ?_
          refine x_then_normal ?_
          refine c_block ?_
          have hb1559 := (FZ.bd (h8.le hle1537))
          obtain ⟨t1625, hl1626, hk1627⟩ := bindS hm
          refine c_forM (fun k1624 => fun _ => fun b1622 e' hp' => [(0, .slice A1 (l4).length c2), (2, .slice A6 (l9).length c7), (41, .slice A6 (l9).length c7), (42, .int .i64 ((l9.length : Int))), (43, .int .i64 ((k1624 : Int)))] = e' ∧ R = hp' ∧ b1536.Le b1622) hl1626 (e' := [(0, .slice A1 (l4).length c2), (2, .slice A6 (l9).length c7), (41, .slice A6 (l9).length c7), (42, .int .i64 ((l9.length : Int))), (43, .int .i64 0)]) (hp' := R) ⟨rfl, rfl, rfl, rfl, rfl, trivial⟩ (.refl _) ⟨rfl, rfl, (Base.Le.refl _)⟩ ?_ ?_
          ·
            rintro k1624 _ b1622 _ _ oL1558 hknL1558 ⟨rfl, rfl, hle1623⟩ hstepL1558 houtL1558
            unfold mFishref2EmptyFault_L1558 at hstepL1558
            have hm := hstepL1558
            refine c_seq ?_
            refine c_region ?_
            refine t_st rfl (st_lss_t rfl rfl (by omega)) ?_
            refine t_nil ?_
            refine x_then_normal ?_
            refine c_seq ?_
            refine c_cond_t rfl ?_
            refine c_skip ?_
            refine x_then_normal ?_
            refine c_seq ?_
            refine c_block ?_
            refine c_seq ?_
            refine c_region ?_
            refine t_st rfl (st_move rfl) ?_
            obtain ⟨x1628, h1629, hm⟩ := bindS hm
            obtain ⟨j1630, hj1631, hx1632⟩ := idx_some h1629
            obtain ⟨cs1633, hr1634, hcs1635, hA1636, hlt1637⟩ := FZ.get (sz := 1) rfl (by decide) (h8.le (hle1537.trans hle1623)) hx1632
            obtain ⟨A1638, c1639, rfl, h1640⟩ := hr1634
            refine t_st rfl (st_index_old j1630 rfl rfl hj1631 hlt1637 hA1636 sl26) ?_
            refine t_st rfl (st_load_old rfl one45 (hcs1635 0 _ rfl)) ?_
            refine t_st rfl (st_assign rfl) ?_
            refine t_st rfl (st_assign rfl) ?_
            refine t_nil ?_
            refine x_then_normal ?_
            refine c_seq ?_
            refine c_region ?_
            refine t_st rfl (st_move rfl) ?_
            refine t_st rfl (st_len rfl sl45) ?_
            refine t_st rfl (st_move rfl) ?_
            refine t_nil ?_
            refine x_then_normal ?_
            refine c_block ?_
            have hb1642 := (FZ.bd h1640)
            obtain ⟨t1666, hl1667, hk1668⟩ := bindS hm
            refine c_forM (fun k1665 => fun _ => fun b1663 e' hp' => [(0, .slice A1 (l4).length c2), (2, .slice A6 (l9).length c7), (10, .int .i64 ((k1624 : Int))), (41, .slice A6 (l9).length c7), (42, .int .i64 ((l9.length : Int))), (43, .int .i64 ((k1624 : Int))), (48, .slice A1638 (x1628).length c1639), (49, .int .i64 ((x1628.length : Int))), (50, .int .i64 ((k1665 : Int)))] = e' ∧ R = hp' ∧ b1622.Le b1663) hl1667 (e' := [(0, .slice A1 (l4).length c2), (2, .slice A6 (l9).length c7), (10, .int .i64 ((k1624 : Int))), (41, .slice A6 (l9).length c7), (42, .int .i64 ((l9.length : Int))), (43, .int .i64 ((k1624 : Int))), (48, .slice A1638 (x1628).length c1639), (49, .int .i64 ((x1628.length : Int))), (50, .int .i64 0)]) (hp' := R) ⟨rfl, rfl, rfl, rfl, rfl, rfl, rfl, rfl, rfl, trivial⟩ (.refl _) ⟨rfl, rfl, (Base.Le.refl _)⟩ ?_ ?_
            ·
              rintro k1665 _ b1663 _ _ oL1641 hknL1641 ⟨rfl, rfl, hle1664⟩ hstepL1641 houtL1641
              unfold mFishref2EmptyFault_L1641 at hstepL1641
              have hm := hstepL1641
              refine c_seq ?_
              refine c_region ?_
              refine t_st rfl (st_lss_t rfl rfl (by omega)) ?_
              refine t_nil ?_
              refine x_then_normal ?_
              refine c_seq ?_
              refine c_cond_t rfl ?_
              refine c_skip ?_
              refine x_then_normal ?_
              refine c_seq ?_
              refine c_block ?_
              refine c_seq ?_
              refine c_region ?_
              refine t_st rfl (st_move rfl) ?_
              obtain ⟨x1669, h1670, hm⟩ := bindS hm
              obtain ⟨j1671, hj1672, hx1673⟩ := idx_some h1670
              obtain ⟨cs1674, hr1675, hcs1676, hA1677, hlt1678⟩ := FZ.get (sz := 1) rfl (by decide) (h1640.le hle1664) hx1673
              obtain rfl := hr1675
              refine t_st rfl (st_index_old j1671 rfl rfl hj1672 hlt1678 hA1677 sl45) ?_
              refine t_st rfl (st_load_old rfl one3 (hcs1676 0 _ rfl)) ?_
              refine t_st rfl (st_assign rfl) ?_
              refine t_st rfl (st_assign rfl) ?_
              refine t_nil ?_
              refine x_then_normal ?_
              refine c_seq ?_
              refine c_seq ?_
              refine c_region ?_
              refine t_st rfl (st_move rfl) ?_
              obtain ⟨x1679, hcl1680, hm⟩ := bindS hm
              refine t_do rfl (u_callW0 _ call42 rfl (fun w ho => cFishref2Within _ [] x1669 0 28800 x1679 hcl1680) (fun _ _ _ h => h.2.symm)) ?_
              rintro _ _ ⟨⟨_, rfl, _⟩, rfl⟩
              refine t_st rfl (st_not rfl) ?_
              refine t_nil ?_
              refine x_then_normal ?_
              refine c_cond _ rfl (fun hc1681 => ?_) (fun hc1681 => ?_)
              ·
                rw [if_neg (fun hh => Bool.noConfusion (hh.symm.trans (notT hc1681)))] at hm
                refine c_seq ?_
                refine c_region ?_
                refine t_st rfl (st_assign rfl) ?_
                refine t_nil ?_
                refine x_then_normal ?_
                refine c_ret ?_
                refine x_then_ret ?_
                refine x_block_ret ?_
                refine x_then_ret ?_
                refine x_then_ret ?_
                refine x_block_ret ?_
                refine x_block_ret ?_
                refine x_then_ret ?_
                refine x_then_ret ?_
                refine x_block_ret ?_
                refine x_then_ret ?_
                have hq1682 := houtL1641 _ (Option.some.inj hm).symm
                rw [hq1682] at hk1668
                have hm := elimR hk1668
                have hq1683 := houtL1558 _ (Option.some.inj hm).symm
                rw [hq1683] at hk1627
                have hm := elimR hk1627
                obtain rfl := some1 hm
                exact retM (rs := [.tmp 6]) [.int .i64 (2)] (hle1537.trans (hle1623.trans hle1664)) (by decide) rfl ⟨rfl, trivial⟩ rfl (hp' := R) (.refl _) ⟨rfl, rfl⟩
              ·
                rw [if_pos (notF hc1681)] at hm
                refine c_skip ?_
                refine x_then_normal ?_
                obtain ⟨x1687, hj1688, hk1688⟩ := bindS hm
                refine c_join (fun b1685 e' hp' => [(0, .slice A1 (l4).length c2), (2, .slice A6 (l9).length c7), (10, .int .i64 ((k1624 : Int))), (41, .slice A6 (l9).length c7), (42, .int .i64 ((l9.length : Int))), (43, .int .i64 ((k1624 : Int))), (48, .slice A1638 (x1628).length c1639), (49, .int .i64 ((x1628.length : Int))), (50, .int .i64 ((k1665 : Int))), (64, .bool (x1687))] = e' ∧ R = hp' ∧ b1663.Le b1685) ?_ ?_
                ·
                  have hm := hj1688
                  refine c_region ?_
                  refine t_st rfl (st_move rfl) ?_
                  refine t_st rfl (st_move rfl) ?_
                  refine t_bool rfl (st_eql rfl rfl) (fun hc1689 => ?_) (fun hc1689 => ?_)
                  ·
                    rw [if_pos hc1689] at hm
                    refine t_st rfl (st_move rfl) ?_
                    refine t_yes 61 rfl rfl rfl ?_
                    refine t_st rfl (st_move rfl) ?_
                    refine t_yes 61 rfl rfl rfl ?_
                    refine t_st rfl (st_neq rfl rfl) ?_
                    refine t_st rfl (st_pick_t rfl rfl) ?_
                    refine t_nil ?_
                    obtain rfl := some1 hm
                    exact x_join (e' := [(0, .slice A1 (l4).length c2), (2, .slice A6 (l9).length c7), (10, .int .i64 ((k1624 : Int))), (41, .slice A6 (l9).length c7), (42, .int .i64 ((l9.length : Int))), (43, .int .i64 ((k1624 : Int))), (48, .slice A1638 (x1628).length c1639), (49, .int .i64 ((x1628.length : Int))), (50, .int .i64 ((k1665 : Int))), (64, .bool (decide (x1669 ≠ 0)))]) (hp' := R) ⟨rfl, rfl, rfl, rfl, rfl, rfl, rfl, rfl, rfl, rfl, trivial⟩ (.refl _) ⟨rfl, rfl, (Base.Le.refl _)⟩
                  ·
                    rw [if_neg hc1689] at hm
                    refine t_st rfl (st_move rfl) ?_
                    refine t_no 61 rfl rfl rfl rfl rfl ?_
                    refine t_no 61 rfl rfl rfl rfl rfl ?_
                    refine t_st rfl (st_pick_f rfl rfl) ?_
                    refine t_nil ?_
                    obtain rfl := some1 hm
                    exact x_join (e' := [(0, .slice A1 (l4).length c2), (2, .slice A6 (l9).length c7), (10, .int .i64 ((k1624 : Int))), (41, .slice A6 (l9).length c7), (42, .int .i64 ((l9.length : Int))), (43, .int .i64 ((k1624 : Int))), (48, .slice A1638 (x1628).length c1639), (49, .int .i64 ((x1628.length : Int))), (50, .int .i64 ((k1665 : Int))), (64, .bool (false))]) (hp' := R) ⟨rfl, rfl, rfl, rfl, rfl, rfl, rfl, rfl, rfl, rfl, trivial⟩ (.refl _) ⟨rfl, rfl, (Base.Le.refl _)⟩
                ·
                  rintro b1685 _ _ ⟨rfl, rfl, hle1686⟩
                  have hm := hk1688
                  refine c_cond _ rfl (fun hc1690 => ?_) (fun hc1690 => ?_)
                  ·
                    rw [if_pos hc1690] at hm
                    refine c_seq ?_
                    refine c_region ?_
                    refine t_st rfl (st_assign rfl) ?_
                    refine t_nil ?_
                    refine x_then_normal ?_
                    refine c_ret ?_
                    refine x_block_ret ?_
                    refine x_then_ret ?_
                    refine x_then_ret ?_
                    refine x_block_ret ?_
                    refine x_block_ret ?_
                    refine x_then_ret ?_
                    refine x_then_ret ?_
                    refine x_block_ret ?_
                    refine x_then_ret ?_
                    have hq1691 := houtL1641 _ (Option.some.inj hm).symm
                    rw [hq1691] at hk1668
                    have hm := elimR hk1668
                    have hq1692 := houtL1558 _ (Option.some.inj hm).symm
                    rw [hq1692] at hk1627
                    have hm := elimR hk1627
                    obtain rfl := some1 hm
                    exact retM (rs := [.tmp 6]) [.int .i64 (1)] (hle1537.trans (hle1623.trans (hle1664.trans hle1686))) (by decide) rfl ⟨rfl, trivial⟩ rfl (hp' := R) (.refl _) ⟨rfl, rfl⟩
                  ·
                    rw [if_neg (fun hh => Bool.noConfusion (hh.symm.trans hc1690))] at hm
                    refine c_skip ?_
                    refine x_block_normal ?_
                    refine x_then_normal ?_
                    refine c_region ?_
                    refine t_st rfl (st_add rfl rfl (by omega)) ?_
                    refine t_st rfl (st_move rfl) ?_
                    refine t_nil ?_
                    exact x_againM () (Option.some.inj hm).symm (e' := [(0, .slice A1 (l4).length c2), (2, .slice A6 (l9).length c7), (10, .int .i64 ((k1624 : Int))), (41, .slice A6 (l9).length c7), (42, .int .i64 ((l9.length : Int))), (43, .int .i64 ((k1624 : Int))), (48, .slice A1638 (x1628).length c1639), (49, .int .i64 ((x1628.length : Int))), (50, .int .i64 ((k1665 : Int) + 1))]) (hp' := R) ⟨rfl, rfl, rfl, rfl, rfl, rfl, rfl, rfl, rfl, trivial⟩ (.refl _) ⟨rfl, rfl, ((hle1664.trans hle1686))⟩
            ·
              rintro _ b1663 _ _ ⟨rfl, rfl, hle1664⟩ hq1693
              rw [hq1693] at hk1668
              have hm := elimL hk1668
              refine c_seq ?_
              refine c_region ?_
              refine t_st rfl (st_lss_f rfl rfl (by omega)) ?_
              refine t_nil ?_
              refine x_then_normal ?_
              refine c_seq ?_
              refine c_cond_f rfl ?_
              refine c_exit ?_
              refine x_then_exit ?_
              refine x_then_exit ?_
              refine x_block_out ?_
              refine x_block_normal ?_
              refine x_then_normal ?_
              refine c_region ?_
              refine t_st rfl (st_add rfl rfl (by omega)) ?_
              refine t_st rfl (st_move rfl) ?_
              refine t_nil ?_
              exact x_againM () (Option.some.inj hm).symm (e' := [(0, .slice A1 (l4).length c2), (2, .slice A6 (l9).length c7), (41, .slice A6 (l9).length c7), (42, .int .i64 ((l9.length : Int))), (43, .int .i64 ((k1624 : Int) + 1))]) (hp' := R) ⟨rfl, rfl, rfl, rfl, rfl, trivial⟩ (.refl _) ⟨rfl, rfl, ((hle1623.trans hle1664))⟩
          ·
            rintro _ b1622 _ _ ⟨rfl, rfl, hle1623⟩ hq1694
            rw [hq1694] at hk1627
            have hm := elimL hk1627
            refine c_seq ?_
            refine c_region ?_
            refine t_st rfl (st_lss_f rfl rfl (by omega)) ?_
            refine t_nil ?_
            refine x_then_normal ?_
            refine c_seq ?_
            refine c_cond_f rfl ?_
            refine c_exit ?_
            refine x_then_exit ?_
            refine x_then_exit ?_
            refine x_block_out ?_
            refine x_then_normal ?_
            refine c_seq ?_
            refine c_seq ?_
            refine c_region ?_
            refine t_st rfl (st_move rfl) ?_
            refine t_st rfl (st_len rfl sl26) ?_
            refine t_st rfl (st_move rfl) ?_
            refine t_nil ?_
            refine x_then_normal ?_
            refine c_block ?_
            have hb1696 := (FZ.bd (h8.le (hle1537.trans hle1623)))
            obtain ⟨t2291, hl2292, hk2293⟩ := bindS hm
            refine c_forM (fun k2290 => fun _ => fun b2288 e' hp' => [(0, .slice A1 (l4).length c2), (2, .slice A6 (l9).length c7), (68, .int .i64 ((l9.length : Int))), (69, .int .i64 ((k2290 : Int)))] = e' ∧ R = hp' ∧ b1622.Le b2288) hl2292 (e' := [(0, .slice A1 (l4).length c2), (2, .slice A6 (l9).length c7), (68, .int .i64 ((l9.length : Int))), (69, .int .i64 0)]) (hp' := R) ⟨rfl, rfl, rfl, rfl, trivial⟩ (.refl _) ⟨rfl, rfl, (Base.Le.refl _)⟩ ?_ ?_
            ·
              rintro k2290 _ b2288 _ _ oL1695 hknL1695 ⟨rfl, rfl, hle2289⟩ hstepL1695 houtL1695
              unfold mFishref2EmptyFault_L1695 at hstepL1695
              have hm := hstepL1695
              refine c_seq ?_
              refine c_region ?_
              refine t_st rfl (st_lss_t rfl rfl (by omega)) ?_
              refine t_nil ?_
              refine x_then_normal ?_
              refine c_seq ?_
              refine c_cond_t rfl ?_
              refine c_skip ?_
              refine x_then_normal ?_
              refine c_seq ?_
              refine c_block ?_
              refine c_seq ?_
              refine c_region ?_
              refine t_st rfl (st_move rfl) ?_
              refine t_st rfl (st_assign rfl) ?_
              refine t_nil ?_
              refine x_then_normal ?_
              refine c_seq ?_
              refine c_region ?_
              refine t_st rfl (st_move rfl) ?_
              refine t_st rfl (st_len rfl sl26) ?_
              refine t_st rfl (st_move rfl) ?_
              refine t_nil ?_
              refine x_then_normal ?_
              refine c_block ?_
              have hb2295 := (FZ.bd (h8.le (hle1537.trans (hle1623.trans hle2289))))
              obtain ⟨t2590, hl2591, hk2592⟩ := bindS hm
              refine c_forM (fun k2589 => fun _ => fun b2587 e' hp' => [(0, .slice A1 (l4).length c2), (2, .slice A6 (l9).length c7), (14, .int .i64 ((k2290 : Int))), (68, .int .i64 ((l9.length : Int))), (69, .int .i64 ((k2290 : Int))), (73, .int .i64 ((l9.length : Int))), (74, .int .i64 ((k2589 : Int)))] = e' ∧ R = hp' ∧ b2288.Le b2587) hl2591 (e' := [(0, .slice A1 (l4).length c2), (2, .slice A6 (l9).length c7), (14, .int .i64 ((k2290 : Int))), (68, .int .i64 ((l9.length : Int))), (69, .int .i64 ((k2290 : Int))), (73, .int .i64 ((l9.length : Int))), (74, .int .i64 0)]) (hp' := R) ⟨rfl, rfl, rfl, rfl, rfl, rfl, rfl, trivial⟩ (.refl _) ⟨rfl, rfl, (Base.Le.refl _)⟩ ?_ ?_
              ·
                rintro k2589 _ b2587 _ _ oL2294 hknL2294 ⟨rfl, rfl, hle2588⟩ hstepL2294 houtL2294
                unfold mFishref2EmptyFault_L2294 at hstepL2294
                have hm := hstepL2294
                refine c_seq ?_
                refine c_region ?_
                refine t_st rfl (st_lss_t rfl rfl (by omega)) ?_
                refine t_nil ?_
                refine x_then_normal ?_
                refine c_seq ?_
                refine c_cond_t rfl ?_
                refine c_skip ?_
                refine x_then_normal ?_
                refine c_seq ?_
                refine c_block ?_
                refine c_seq ?_
                refine c_region ?_
                refine t_st rfl (st_move rfl) ?_
                refine t_st rfl (st_assign rfl) ?_
                refine t_nil ?_
                refine x_then_normal ?_
                refine c_seq ?_
                refine c_region ?_
                refine t_st rfl (st_move rfl) ?_
                refine t_st rfl (st_len rfl sl26) ?_
                refine t_st rfl (st_move rfl) ?_
                refine t_nil ?_
                refine x_then_normal ?_
                refine c_block ?_
                have hb2594 := (FZ.bd (h8.le (hle1537.trans (hle1623.trans (hle2289.trans hle2588)))))
                obtain ⟨t2739, hl2740, hk2741⟩ := bindS hm
                refine c_forM (fun k2738 => fun _ => fun b2736 e' hp' => [(0, .slice A1 (l4).length c2), (2, .slice A6 (l9).length c7), (14, .int .i64 ((k2290 : Int))), (15, .int .i64 ((k2589 : Int))), (68, .int .i64 ((l9.length : Int))), (69, .int .i64 ((k2290 : Int))), (73, .int .i64 ((l9.length : Int))), (74, .int .i64 ((k2589 : Int))), (78, .int .i64 ((l9.length : Int))), (79, .int .i64 ((k2738 : Int)))] = e' ∧ R = hp' ∧ b2587.Le b2736) hl2740 (e' := [(0, .slice A1 (l4).length c2), (2, .slice A6 (l9).length c7), (14, .int .i64 ((k2290 : Int))), (15, .int .i64 ((k2589 : Int))), (68, .int .i64 ((l9.length : Int))), (69, .int .i64 ((k2290 : Int))), (73, .int .i64 ((l9.length : Int))), (74, .int .i64 ((k2589 : Int))), (78, .int .i64 ((l9.length : Int))), (79, .int .i64 0)]) (hp' := R) ⟨rfl, rfl, rfl, rfl, rfl, rfl, rfl, rfl, rfl, rfl, trivial⟩ (.refl _) ⟨rfl, rfl, (Base.Le.refl _)⟩ ?_ ?_
                ·
                  rintro k2738 _ b2736 _ _ oL2593 hknL2593 ⟨rfl, rfl, hle2737⟩ hstepL2593 houtL2593
                  unfold mFishref2EmptyFault_L2593 at hstepL2593
                  have hm := hstepL2593
                  refine c_seq ?_
                  refine c_region ?_
                  refine t_st rfl (st_lss_t rfl rfl (by omega)) ?_
                  refine t_nil ?_
                  refine x_then_normal ?_
                  refine c_seq ?_
                  refine c_cond_t rfl ?_
                  refine c_skip ?_
                  refine x_then_normal ?_
                  refine c_seq ?_
                  refine c_block ?_
                  refine c_seq ?_
                  refine c_region ?_
                  refine t_st rfl (st_move rfl) ?_
                  refine t_st rfl (st_assign rfl) ?_
                  refine t_nil ?_
                  refine x_then_normal ?_
                  refine c_seq ?_
                  obtain ⟨x2812, h2813, hm⟩ := bindS hm
                  obtain ⟨x2825, h2826, hm⟩ := bindS hm
                  obtain ⟨x2835, h2836, hm⟩ := bindS hm
                  obtain ⟨x2848, h2849, hm⟩ := bindS hm
                  obtain ⟨x2858, h2859, hm⟩ := bindS hm
                  obtain ⟨x2871, h2872, hm⟩ := bindS hm
                  obtain ⟨_, h2881, hm⟩ := bindS hm
                  refine D_drawS (R) mixed ?_
                  refine D_st (Base.Le.refl _) 0 rfl (by kernel_rfl) (by kernel_rfl) (by kernel_rfl) rfl (st_move rfl) (.refl _) ?_
                  refine D_st (Base.Le.refl _) 1 rfl (by kernel_rfl) (by kernel_rfl) (by kernel_rfl) rfl (st_move rfl) (.refl _) ?_
                  obtain ⟨j2814, hj2815, hx2816⟩ := idx_some h2813
                  obtain ⟨cs2817, hr2818, hcs2819, hA2820, hlt2821⟩ := FZ.get (sz := 1) rfl (by decide) (h8.le (hle1537.trans (hle1623.trans (hle2289.trans (hle2588.trans hle2737))))) hx2816
                  obtain ⟨A2822, c2823, rfl, h2824⟩ := hr2818
                  refine D_st (Base.Le.refl _) 2 rfl (by kernel_rfl) (by kernel_rfl) (by kernel_rfl) rfl (st_index_old j2814 rfl rfl hj2815 hlt2821 hA2820 sl26) (.refl _) ?_
                  refine D_st (Base.Le.refl _) 3 rfl (by kernel_rfl) (by kernel_rfl) (by kernel_rfl) rfl (st_load_old rfl one45 (hcs2819 0 _ rfl)) (.refl _) ?_
                  refine D_st (Base.Le.refl _) 4 rfl (by kernel_rfl) (by kernel_rfl) (by kernel_rfl) rfl (st_move rfl) (.refl _) ?_
                  obtain ⟨j2827, hj2828, hx2829⟩ := idx_some h2826
                  obtain ⟨cs2830, hr2831, hcs2832, hA2833, hlt2834⟩ := FZ.get (sz := 1) rfl (by decide) h2824 hx2829
                  obtain rfl := hr2831
                  refine D_st (Base.Le.refl _) 5 rfl (by kernel_rfl) (by kernel_rfl) (by kernel_rfl) rfl (st_index_old j2827 rfl rfl hj2828 hlt2834 hA2833 sl45) (.refl _) ?_
                  refine D_st (Base.Le.refl _) 6 rfl (by kernel_rfl) (by kernel_rfl) (by kernel_rfl) rfl (st_load_old rfl one3 (hcs2832 0 _ rfl)) (.refl _) ?_
                  refine D_st (Base.Le.refl _) 7 rfl (by kernel_rfl) (by kernel_rfl) (by kernel_rfl) rfl (st_move rfl) (.refl _) ?_
                  refine D_st (Base.Le.refl _) 8 rfl (by kernel_rfl) (by kernel_rfl) (by kernel_rfl) rfl (st_move rfl) (.refl _) ?_
                  obtain ⟨j2837, hj2838, hx2839⟩ := idx_some h2836
                  obtain ⟨cs2840, hr2841, hcs2842, hA2843, hlt2844⟩ := FZ.get (sz := 1) rfl (by decide) (h8.le (hle1537.trans (hle1623.trans (hle2289.trans (hle2588.trans hle2737))))) hx2839
                  obtain ⟨A2845, c2846, rfl, h2847⟩ := hr2841
                  refine D_st (Base.Le.refl _) 9 rfl (by kernel_rfl) (by kernel_rfl) (by kernel_rfl) rfl (st_index_old j2837 rfl rfl hj2838 hlt2844 hA2843 sl26) (.refl _) ?_
                  refine D_st (Base.Le.refl _) 10 rfl (by kernel_rfl) (by kernel_rfl) (by kernel_rfl) rfl (st_load_old rfl one45 (hcs2842 0 _ rfl)) (.refl _) ?_
                  refine D_st (Base.Le.refl _) 11 rfl (by kernel_rfl) (by kernel_rfl) (by kernel_rfl) rfl (st_move rfl) (.refl _) ?_
                  obtain ⟨j2850, hj2851, hx2852⟩ := idx_some h2849
                  obtain ⟨cs2853, hr2854, hcs2855, hA2856, hlt2857⟩ := FZ.get (sz := 1) rfl (by decide) h2847 hx2852
                  obtain rfl := hr2854
                  refine D_st (Base.Le.refl _) 12 rfl (by kernel_rfl) (by kernel_rfl) (by kernel_rfl) rfl (st_index_old j2850 rfl rfl hj2851 hlt2857 hA2856 sl45) (.refl _) ?_
                  refine D_st (Base.Le.refl _) 13 rfl (by kernel_rfl) (by kernel_rfl) (by kernel_rfl) rfl (st_load_old rfl one3 (hcs2855 0 _ rfl)) (.refl _) ?_
                  refine D_st (Base.Le.refl _) 14 rfl (by kernel_rfl) (by kernel_rfl) (by kernel_rfl) rfl (st_move rfl) (.refl _) ?_
                  refine D_st (Base.Le.refl _) 15 rfl (by kernel_rfl) (by kernel_rfl) (by kernel_rfl) rfl (st_move rfl) (.refl _) ?_
                  obtain ⟨j2860, hj2861, hx2862⟩ := idx_some h2859
                  obtain ⟨cs2863, hr2864, hcs2865, hA2866, hlt2867⟩ := FZ.get (sz := 1) rfl (by decide) (h8.le (hle1537.trans (hle1623.trans (hle2289.trans (hle2588.trans hle2737))))) hx2862
                  obtain ⟨A2868, c2869, rfl, h2870⟩ := hr2864
                  refine D_st (Base.Le.refl _) 16 rfl (by kernel_rfl) (by kernel_rfl) (by kernel_rfl) rfl (st_index_old j2860 rfl rfl hj2861 hlt2867 hA2866 sl26) (.refl _) ?_
                  refine D_st (Base.Le.refl _) 17 rfl (by kernel_rfl) (by kernel_rfl) (by kernel_rfl) rfl (st_load_old rfl one45 (hcs2865 0 _ rfl)) (.refl _) ?_
                  refine D_st (Base.Le.refl _) 18 rfl (by kernel_rfl) (by kernel_rfl) (by kernel_rfl) rfl (st_move rfl) (.refl _) ?_
                  obtain ⟨j2873, hj2874, hx2875⟩ := idx_some h2872
                  obtain ⟨cs2876, hr2877, hcs2878, hA2879, hlt2880⟩ := FZ.get (sz := 1) rfl (by decide) h2870 hx2875
                  obtain rfl := hr2877
                  refine D_st (Base.Le.refl _) 19 rfl (by kernel_rfl) (by kernel_rfl) (by kernel_rfl) rfl (st_index_old j2873 rfl rfl hj2874 hlt2880 hA2879 sl45) (.refl _) ?_
                  refine D_st (Base.Le.refl _) 20 rfl (by kernel_rfl) (by kernel_rfl) (by kernel_rfl) rfl (st_load_old rfl one3 (hcs2878 0 _ rfl)) (.refl _) ?_
                  have h2881 := (chk_some h2881).2
                  refine D_st (Base.Le.refl _) 21 rfl (by kernel_rfl) (by kernel_rfl) (by kernel_rfl) rfl (st_add rfl rfl h2881) (.refl _) ?_
                  refine D_st (Base.Le.refl _) 22 rfl (by kernel_rfl) (by kernel_rfl) (by kernel_rfl) rfl (st_gtr rfl rfl) (.refl _) ?_
                  refine D_done (by kernel_rfl) ?_
                  refine x_then_normal ?_
                  refine c_cond _ rfl (fun hc2882 => ?_) (fun hc2882 => ?_)
                  ·
                    rw [if_pos (of_decide_eq_true hc2882)] at hm
                    refine c_seq ?_
                    refine c_region ?_
                    refine t_st rfl (st_assign rfl) ?_
                    refine t_nil ?_
                    refine x_then_normal ?_
                    refine c_ret ?_
                    refine x_block_ret ?_
                    refine x_then_ret ?_
                    refine x_then_ret ?_
                    refine x_block_ret ?_
                    refine x_block_ret ?_
                    refine x_then_ret ?_
                    refine x_then_ret ?_
                    refine x_block_ret ?_
                    refine x_block_ret ?_
                    refine x_then_ret ?_
                    refine x_then_ret ?_
                    refine x_block_ret ?_
                    refine x_then_ret ?_
                    have hq2883 := houtL2593 _ (Option.some.inj hm).symm
                    rw [hq2883] at hk2741
                    have hm := elimR hk2741
                    have hq2884 := houtL2294 _ (Option.some.inj hm).symm
                    rw [hq2884] at hk2592
                    have hm := elimR hk2592
                    have hq2885 := houtL1695 _ (Option.some.inj hm).symm
                    rw [hq2885] at hk2293
                    have hm := elimR hk2293
                    obtain rfl := some1 hm
                    exact retM (rs := [.tmp 6]) [.int .i64 (1)] (hle1537.trans (hle1623.trans (hle2289.trans (hle2588.trans hle2737)))) (by decide) rfl ⟨rfl, trivial⟩ rfl (hp' := R) (.refl _) ⟨rfl, rfl⟩
                  ·
                    rw [if_neg (of_decide_eq_false hc2882)] at hm
                    refine c_skip ?_
                    refine x_block_normal ?_
                    refine x_then_normal ?_
                    refine c_region ?_
                    refine t_st rfl (st_add rfl rfl (by omega)) ?_
                    refine t_st rfl (st_move rfl) ?_
                    refine t_nil ?_
                    exact x_againM () (Option.some.inj hm).symm (e' := [(0, .slice A1 (l4).length c2), (2, .slice A6 (l9).length c7), (14, .int .i64 ((k2290 : Int))), (15, .int .i64 ((k2589 : Int))), (68, .int .i64 ((l9.length : Int))), (69, .int .i64 ((k2290 : Int))), (73, .int .i64 ((l9.length : Int))), (74, .int .i64 ((k2589 : Int))), (78, .int .i64 ((l9.length : Int))), (79, .int .i64 ((k2738 : Int) + 1))]) (hp' := R) ⟨rfl, rfl, rfl, rfl, rfl, rfl, rfl, rfl, rfl, rfl, trivial⟩ (.refl _) ⟨rfl, rfl, (hle2737)⟩
                ·
                  rintro _ b2736 _ _ ⟨rfl, rfl, hle2737⟩ hq2886
                  rw [hq2886] at hk2741
                  have hm := elimL hk2741
                  refine c_seq ?_
                  refine c_region ?_
                  refine t_st rfl (st_lss_f rfl rfl (by omega)) ?_
                  refine t_nil ?_
                  refine x_then_normal ?_
                  refine c_seq ?_
                  refine c_cond_f rfl ?_
                  refine c_exit ?_
                  refine x_then_exit ?_
                  refine x_then_exit ?_
                  refine x_block_out ?_
                  refine x_block_normal ?_
                  refine x_then_normal ?_
                  refine c_region ?_
                  refine t_st rfl (st_add rfl rfl (by omega)) ?_
                  refine t_st rfl (st_move rfl) ?_
                  refine t_nil ?_
                  exact x_againM () (Option.some.inj hm).symm (e' := [(0, .slice A1 (l4).length c2), (2, .slice A6 (l9).length c7), (14, .int .i64 ((k2290 : Int))), (68, .int .i64 ((l9.length : Int))), (69, .int .i64 ((k2290 : Int))), (73, .int .i64 ((l9.length : Int))), (74, .int .i64 ((k2589 : Int) + 1))]) (hp' := R) ⟨rfl, rfl, rfl, rfl, rfl, rfl, rfl, trivial⟩ (.refl _) ⟨rfl, rfl, ((hle2588.trans hle2737))⟩
              ·
                rintro _ b2587 _ _ ⟨rfl, rfl, hle2588⟩ hq2887
                rw [hq2887] at hk2592
                have hm := elimL hk2592
                refine c_seq ?_
                refine c_region ?_
                refine t_st rfl (st_lss_f rfl rfl (by omega)) ?_
                refine t_nil ?_
                refine x_then_normal ?_
                refine c_seq ?_
                refine c_cond_f rfl ?_
                refine c_exit ?_
                refine x_then_exit ?_
                refine x_then_exit ?_
                refine x_block_out ?_
                refine x_block_normal ?_
                refine x_then_normal ?_
                refine c_region ?_
                refine t_st rfl (st_add rfl rfl (by omega)) ?_
                refine t_st rfl (st_move rfl) ?_
                refine t_nil ?_
                exact x_againM () (Option.some.inj hm).symm (e' := [(0, .slice A1 (l4).length c2), (2, .slice A6 (l9).length c7), (68, .int .i64 ((l9.length : Int))), (69, .int .i64 ((k2290 : Int) + 1))]) (hp' := R) ⟨rfl, rfl, rfl, rfl, trivial⟩ (.refl _) ⟨rfl, rfl, ((hle2289.trans hle2588))⟩
            ·
              rintro _ b2288 _ _ ⟨rfl, rfl, hle2289⟩ hq2888
              rw [hq2888] at hk2293
              have hm := elimL hk2293
              refine c_seq ?_
              refine c_region ?_
              refine t_st rfl (st_lss_f rfl rfl (by omega)) ?_
              refine t_nil ?_
              refine x_then_normal ?_
              refine c_seq ?_
              refine c_cond_f rfl ?_
              refine c_exit ?_
              refine x_then_exit ?_
              refine x_then_exit ?_
              refine x_block_out ?_
              refine x_then_normal ?_
              refine c_seq ?_
              refine c_seq ?_
              refine c_region ?_
              refine t_st rfl (st_move rfl) ?_
              refine t_st rfl (st_len rfl sl22) ?_
              refine t_st rfl (st_move rfl) ?_
              refine t_nil ?_
              refine x_then_normal ?_
              refine c_block ?_
              have hb2890 := (FZ.bd (h3.le (hle1537.trans (hle1623.trans hle2289))))
              obtain ⟨t2954, hl2955, hk2956⟩ := bindS hm
              refine c_forM (fun k2953 => fun _ => fun b2951 e' hp' => [(2, .slice A6 (l9).length c7), (108, .slice A1 (l4).length c2), (109, .int .i64 ((l4.length : Int))), (110, .int .i64 ((k2953 : Int)))] = e' ∧ R = hp' ∧ b2288.Le b2951) hl2955 (e' := [(2, .slice A6 (l9).length c7), (108, .slice A1 (l4).length c2), (109, .int .i64 ((l4.length : Int))), (110, .int .i64 0)]) (hp' := R) ⟨rfl, rfl, rfl, rfl, trivial⟩ (.refl _) ⟨rfl, rfl, (Base.Le.refl _)⟩ ?_ ?_
              ·
                rintro k2953 _ b2951 _ _ oL2889 hknL2889 ⟨rfl, rfl, hle2952⟩ hstepL2889 houtL2889
                unfold mFishref2EmptyFault_L2889 at hstepL2889
                have hm := hstepL2889
                refine c_seq ?_
                refine c_region ?_
                refine t_st rfl (st_lss_t rfl rfl (by omega)) ?_
                refine t_nil ?_
                refine x_then_normal ?_
                refine c_seq ?_
                refine c_cond_t rfl ?_
                refine c_skip ?_
                refine x_then_normal ?_
                refine c_seq ?_
                refine c_block ?_
                refine c_seq ?_
                refine c_region ?_
                obtain ⟨x2957, h2958, hm⟩ := bindS hm
                obtain ⟨j2959, hj2960, hx2961⟩ := idx_some h2958
                obtain ⟨cs2962, hr2963, hcs2964, hA2965, hlt2966⟩ := FZ.get (sz := 6) rfl (by decide) (h3.le (hle1537.trans (hle1623.trans (hle2289.trans hle2952)))) hx2961
                obtain ⟨_, _, rfl, rfl, ⟨_, _, rfl, rfl, ⟨_, _, rfl, rfl, ⟨_, _, rfl, rfl, ⟨_, _, rfl, rfl, rfl⟩⟩⟩⟩⟩ := hr2963
                refine t_st rfl (st_index_old j2959 rfl rfl hj2960 hlt2966 hA2965 sl22) ?_
                refine t_st rfl (st_loadN_old (vs := [.int .i64 (x2957.From), .int .i64 (x2957.To), .int .i64 (x2957.Dep), .int .i64 (x2957.Arr), .int .i64 (x2957.Km), .int .i64 (x2957.Units)]) 6 rfl agg36 hA2965 rfl (fun j u hu => hcs2964 j u hu)) ?_
                refine t_do rfl (u_alloc [.int .i64 0, .int .i64 0, .int .i64 0, .int .i64 0, .int .i64 0, .int .i64 0] zero36 rfl) ?_
                rintro _ _ ⟨g2967, rfl, rfl⟩
                refine t_do rfl (u_storeN (vs := [_, _, _, _, _, _]) 0 6 rfl rfl rfl siz36 rfl (by intro u hu; simp only [List.mem_cons, List.not_mem_nil, or_false] at hu; rcases hu with rfl | rfl | rfl | rfl | rfl | rfl <;> rfl) rfl (by simp)) ?_
                rintro _ _ rfl
                refine t_nil ?_
                refine x_then_normal ?_
                refine c_seq ?_
                obtain ⟨x2992, h2993, hm⟩ := bindS hm
                obtain ⟨x3005, h3006, hm⟩ := bindS hm
                obtain ⟨_, h3015, hm⟩ := bindS hm
                refine D_drawS ((g2967, Cl 36 [.int .i64 (x2957.From), .int .i64 (x2957.To), .int .i64 (x2957.Dep), .int .i64 (x2957.Arr), .int .i64 (x2957.Km), .int .i64 (x2957.Units)]) :: R) mixed ?_
                refine D_st (Base.Le.refl _) 0 rfl (by kernel_rfl) (by kernel_rfl) (by kernel_rfl) rfl (st_move rfl) (.cons_cons _ (.refl _)) ?_
                refine D_st (Base.Le.refl _) 1 rfl (by kernel_rfl) (by kernel_rfl) (by kernel_rfl) rfl (st_field rfl fld36_0) (.cons_cons _ (.refl _)) ?_
                refine D_st (Base.Le.refl _) 2 rfl (by kernel_rfl) (by kernel_rfl) (by kernel_rfl) rfl (st_load 0 rfl one3 rfl rfl) (.cons_cons _ (.refl _)) ?_
                obtain ⟨j2994, hj2995, hx2996⟩ := idx_some h2993
                obtain ⟨cs2997, hr2998, hcs2999, hA3000, hlt3001⟩ := FZ.get (sz := 1) rfl (by decide) (h8.le (hle1537.trans (hle1623.trans (hle2289.trans hle2952)))) hx2996
                obtain ⟨A3002, c3003, rfl, h3004⟩ := hr2998
                refine D_st (Base.Le.refl _) 3 rfl (by kernel_rfl) (by kernel_rfl) (by kernel_rfl) rfl (st_index_old j2994 rfl rfl hj2995 hlt3001 hA3000 sl26) (.cons_cons _ (.refl _)) ?_
                refine D_st (Base.Le.refl _) 4 rfl (by kernel_rfl) (by kernel_rfl) (by kernel_rfl) rfl (st_load_old rfl one45 (hcs2999 0 _ rfl)) (.cons_cons _ (.refl _)) ?_
                refine D_st (Base.Le.refl _) 5 rfl (by kernel_rfl) (by kernel_rfl) (by kernel_rfl) rfl (st_field rfl fld36_1) (.cons_cons _ (.refl _)) ?_
                refine D_st (Base.Le.refl _) 6 rfl (by kernel_rfl) (by kernel_rfl) (by kernel_rfl) rfl (st_load 0 rfl one3 rfl rfl) (.cons_cons _ (.refl _)) ?_
                obtain ⟨j3007, hj3008, hx3009⟩ := idx_some h3006
                obtain ⟨cs3010, hr3011, hcs3012, hA3013, hlt3014⟩ := FZ.get (sz := 1) rfl (by decide) h3004 hx3009
                obtain rfl := hr3011
                refine D_st (Base.Le.refl _) 7 rfl (by kernel_rfl) (by kernel_rfl) (by kernel_rfl) rfl (st_index_old j3007 rfl rfl hj3008 hlt3014 hA3013 sl45) (.cons_cons _ (.refl _)) ?_
                refine D_st (Base.Le.refl _) 8 rfl (by kernel_rfl) (by kernel_rfl) (by kernel_rfl) rfl (st_load_old rfl one3 (hcs3012 0 _ rfl)) (.cons_cons _ (.refl _)) ?_
                refine D_st (Base.Le.refl _) 9 rfl (by kernel_rfl) (by kernel_rfl) (by kernel_rfl) rfl (st_field rfl fld36_3) (.cons_cons _ (.refl _)) ?_
                refine D_st (Base.Le.refl _) 10 rfl (by kernel_rfl) (by kernel_rfl) (by kernel_rfl) rfl (st_load 0 rfl one3 rfl rfl) (.cons_cons _ (.refl _)) ?_
                refine D_st (Base.Le.refl _) 11 rfl (by kernel_rfl) (by kernel_rfl) (by kernel_rfl) rfl (st_field rfl fld36_2) (.cons_cons _ (.refl _)) ?_
                refine D_st (Base.Le.refl _) 12 rfl (by kernel_rfl) (by kernel_rfl) (by kernel_rfl) rfl (st_load 0 rfl one3 rfl rfl) (.cons_cons _ (.refl _)) ?_
                have h3015 := (chk_some h3015).2
                refine D_st (Base.Le.refl _) 13 rfl (by kernel_rfl) (by kernel_rfl) (by kernel_rfl) rfl (st_sub rfl rfl h3015) (.cons_cons _ (.refl _)) ?_
                refine D_st (Base.Le.refl _) 14 rfl (by kernel_rfl) (by kernel_rfl) (by kernel_rfl) rfl (st_gtr rfl rfl) (.cons_cons _ (.refl _)) ?_
                refine D_done (by kernel_rfl) ?_
                refine x_then_normal ?_
                refine c_cond _ rfl (fun hc3016 => ?_) (fun hc3016 => ?_)
                ·
                  rw [if_pos (of_decide_eq_true hc3016)] at hm
                  refine c_seq ?_
                  refine c_region ?_
                  refine t_st rfl (st_assign rfl) ?_
                  refine t_nil ?_
                  refine x_then_normal ?_
                  refine c_ret ?_
                  refine x_block_ret ?_
                  refine x_then_ret ?_
                  refine x_then_ret ?_
                  refine x_block_ret ?_
                  refine x_then_ret ?_
                  have hq3017 := houtL2889 _ (Option.some.inj hm).symm
                  rw [hq3017] at hk2956
                  have hm := elimR hk2956
                  obtain rfl := some1 hm
                  exact retM (rs := [.tmp 6]) [.int .i64 (1)] (hle1537.trans (hle1623.trans (hle2289.trans hle2952))) (by decide) rfl ⟨rfl, trivial⟩ rfl (hp' := R) (.cons _ (.refl _)) ⟨rfl, rfl⟩
                ·
                  rw [if_neg (of_decide_eq_false hc3016)] at hm
                  refine c_skip ?_
                  refine x_block_normal ?_
                  refine x_then_normal ?_
                  refine c_region ?_
                  refine t_st rfl (st_add rfl rfl (by omega)) ?_
                  refine t_st rfl (st_move rfl) ?_
                  refine t_nil ?_
                  exact x_againM () (Option.some.inj hm).symm (e' := [(2, .slice A6 (l9).length c7), (108, .slice A1 (l4).length c2), (109, .int .i64 ((l4.length : Int))), (110, .int .i64 ((k2953 : Int) + 1))]) (hp' := R) ⟨rfl, rfl, rfl, rfl, trivial⟩ (.cons _ (.refl _)) ⟨rfl, rfl, (hle2952)⟩
              ·
                rintro _ b2951 _ _ ⟨rfl, rfl, hle2952⟩ hq3018
                rw [hq3018] at hk2956
                have hm := elimL hk2956
                refine c_seq ?_
                refine c_region ?_
                refine t_st rfl (st_lss_f rfl rfl (by omega)) ?_
                refine t_nil ?_
                refine x_then_normal ?_
                refine c_seq ?_
                refine c_cond_f rfl ?_
                refine c_exit ?_
                refine x_then_exit ?_
                refine x_then_exit ?_
                refine x_block_out ?_
                refine x_then_normal ?_
                refine c_seq ?_
                refine c_region ?_
                refine t_st rfl (st_assign rfl) ?_
                refine t_nil ?_
                refine x_then_normal ?_
                refine c_ret ?_
                obtain rfl := some1 hm
                exact retM (rs := [.tmp 6]) [.int .i64 (0)] (hle1537.trans (hle1623.trans (hle2289.trans hle2952))) (by decide) rfl ⟨rfl, trivial⟩ rfl (hp' := R) (.refl _) ⟨rfl, rfl⟩

set_option maxRecDepth 20000 in
theorem cFleetCheckSecs_1 (b : Base) (R : Hp) (l4 : (List Int)) (A1 : Option Addr) (c2 : Nat) (h3 : FZ (RT.int .i64) b.w A1 c2 l4) (x5 : Bool) (hm : mFleetCheckSecs_1 l4 = some x5) :
    CallsG Try.prog 88 [.slice A1 (l4).length c2] b (R) (fun v b' hp' => .bool (x5) = v ∧ R = hp') := by
  refine fn_enterG 6 Try.func88 rfl Try.ntmps88 rfl ?_
  unfold mFleetCheckSecs_1 at hm
  refine c_seq ?_
  refine c_region ?_
  refine t_st rfl (st_assign rfl) ?_
  refine t_nil ?_
  refine x_then_normal ?_
  refine c_seq ?_
  refine c_region ?_
  refine t_st rfl (st_move rfl) ?_
  refine t_st rfl (st_len rfl sl45) ?_
  refine t_st rfl (st_neq rfl rfl) ?_
  refine t_st rfl (st_assign rfl) ?_
  refine t_nil ?_
  refine x_then_normal ?_
  refine c_ret ?_
  obtain rfl := some1 hm
  exact retM (rs := [.tmp 2]) [.bool (decide ((l4.length : Int) ≠ 12))] (Base.Le.refl _) (by decide) rfl ⟨rfl, trivial⟩ rfl (hp' := R) (.refl _) ⟨rfl, rfl⟩

set_option maxRecDepth 20000 in
theorem cSlicesIndexFunc (b : Base) (R : Hp) (l4 : (List (List Int))) (A1 : Option Addr) (c2 : Nat) (h3 : FZ (RT.list (RT.int .i64)) b.w A1 c2 l4) (x47 : Int) (hm : mSlicesIndexFunc l4 = some x47) :
    CallsG Try.prog 104 [.slice A1 (l4).length c2, .func (.func 88) #[] #[]] b (R) (fun v b' hp' => .int .i64 (x47) = v ∧ R = hp') := by
  refine fn_enterG 19 Try.func104 rfl Try.ntmps104 rfl ?_
  unfold mSlicesIndexFunc at hm
  refine c_seq ?_
  refine c_region ?_
  refine t_st rfl (st_assign rfl) ?_
  refine t_nil ?_
  refine x_then_normal ?_
  refine c_seq ?_
  refine c_seq ?_
  refine c_region ?_
  refine t_st rfl (st_move rfl) ?_
  refine t_st rfl (st_len rfl sl26) ?_
  refine t_st rfl (st_move rfl) ?_
  refine t_nil ?_
  refine x_then_normal ?_
  refine c_block ?_
  have hb49 := (FZ.bd h3)
  obtain ⟨t69, hl70, hk71⟩ := bindS hm
  refine c_forM (fun k68 => fun _ => fun b66 e' hp' => [(0, .slice A1 (l4).length c2), (1, .func (.func 88) #[] #[]), (7, .int .i64 ((l4.length : Int))), (8, .int .i64 ((k68 : Int)))] = e' ∧ R = hp' ∧ b.Le b66) hl70 (e' := [(0, .slice A1 (l4).length c2), (1, .func (.func 88) #[] #[]), (7, .int .i64 ((l4.length : Int))), (8, .int .i64 0)]) (hp' := R) ⟨rfl, rfl, rfl, rfl, trivial⟩ (.refl _) ⟨rfl, rfl, (Base.Le.refl _)⟩ ?_ ?_
  ·
    rintro k68 _ b66 _ _ oL48 hknL48 ⟨rfl, rfl, hle67⟩ hstepL48 houtL48
    unfold mSlicesIndexFunc_L48 at hstepL48
    have hm := hstepL48
    refine c_seq ?_
    refine c_region ?_
    refine t_st rfl (st_lss_t rfl rfl (by omega)) ?_
    refine t_nil ?_
    refine x_then_normal ?_
    refine c_seq ?_
    refine c_cond_t rfl ?_
    refine c_skip ?_
    refine x_then_normal ?_
    refine c_seq ?_
    refine c_block ?_
    refine c_seq ?_
    refine c_region ?_
    refine t_st rfl (st_move rfl) ?_
    refine t_st rfl (st_assign rfl) ?_
    refine t_nil ?_
    refine x_then_normal ?_
    refine c_seq ?_
    refine c_region ?_
    refine t_st rfl (st_move rfl) ?_
    refine t_st rfl (st_move rfl) ?_
    refine t_st rfl (st_move rfl) ?_
    obtain ⟨x72, h73, hm⟩ := bindS hm
    obtain ⟨j74, hj75, hx76⟩ := idx_some h73
    obtain ⟨cs77, hr78, hcs79, hA80, hlt81⟩ := FZ.get (sz := 1) rfl (by decide) (h3.le hle67) hx76
    obtain ⟨A82, c83, rfl, h84⟩ := hr78
    refine t_st rfl (st_index_old j74 rfl rfl hj75 hlt81 hA80 sl26) ?_
    refine t_st rfl (st_load_old rfl one45 (hcs79 0 _ rfl)) ?_
    obtain ⟨x85, hcl86, hm⟩ := bindS hm
    refine t_do rfl (u_callvW0 #[] #[] [.slice A82 (x72).length c83] rfl call88 rfl (fun w ho => cFleetCheckSecs_1 _ [] x72 A82 c83 (h84.old ho) x85 hcl86) (fun _ _ _ h => h.2.symm)) ?_
    rintro _ _ ⟨⟨_, rfl, _⟩, rfl⟩
    refine t_nil ?_
    refine x_then_normal ?_
    refine c_cond _ rfl (fun hc87 => ?_) (fun hc87 => ?_)
    ·
      rw [if_pos hc87] at hm
      refine c_seq ?_
      refine c_region ?_
      refine t_st rfl (st_move rfl) ?_
      refine t_st rfl (st_assign rfl) ?_
      refine t_nil ?_
      refine x_then_normal ?_
      refine c_ret ?_
      refine x_block_ret ?_
      refine x_then_ret ?_
      refine x_then_ret ?_
      refine x_block_ret ?_
      refine x_then_ret ?_
      have hq88 := houtL48 _ (Option.some.inj hm).symm
      rw [hq88] at hk71
      have hm := elimR hk71
      obtain rfl := some1 hm
      exact retM (rs := [.tmp 4]) [.int .i64 ((k68 : Int))] hle67 (by decide) rfl ⟨rfl, trivial⟩ rfl (hp' := R) (.refl _) ⟨rfl, rfl⟩
    ·
      rw [if_neg (fun hh => Bool.noConfusion (hh.symm.trans hc87))] at hm
      refine c_skip ?_
      refine x_block_normal ?_
      refine x_then_normal ?_
      refine c_region ?_
      refine t_st rfl (st_add rfl rfl (by omega)) ?_
      refine t_st rfl (st_move rfl) ?_
      refine t_nil ?_
      exact x_againM () (Option.some.inj hm).symm (e' := [(0, .slice A1 (l4).length c2), (1, .func (.func 88) #[] #[]), (7, .int .i64 ((l4.length : Int))), (8, .int .i64 ((k68 : Int) + 1))]) (hp' := R) ⟨rfl, rfl, rfl, rfl, trivial⟩ (.refl _) ⟨rfl, rfl, (hle67)⟩
  ·
    rintro _ b66 _ _ ⟨rfl, rfl, hle67⟩ hq89
    rw [hq89] at hk71
    have hm := elimL hk71
    refine c_seq ?_
    refine c_region ?_
    refine t_st rfl (st_lss_f rfl rfl (by omega)) ?_
    refine t_nil ?_
    refine x_then_normal ?_
    refine c_seq ?_
    refine c_cond_f rfl ?_
    refine c_exit ?_
    refine x_then_exit ?_
    refine x_then_exit ?_
    refine x_block_out ?_
    refine x_then_normal ?_
    refine c_seq ?_
    refine c_region ?_
    refine t_st rfl (st_assign rfl) ?_
    refine t_nil ?_
    refine x_then_normal ?_
    refine c_ret ?_
    obtain rfl := some1 hm
    exact retM (rs := [.tmp 4]) [.int .i64 ((-1))] hle67 (by decide) rfl ⟨rfl, trivial⟩ rfl (hp' := R) (.refl _) ⟨rfl, rfl⟩

set_option maxRecDepth 20000 in
theorem cSlicesContainsFunc (b : Base) (R : Hp) (l4 : (List (List Int))) (A1 : Option Addr) (c2 : Nat) (h3 : FZ (RT.list (RT.int .i64)) b.w A1 c2 l4) (x7 : Bool) (hm : mSlicesContainsFunc l4 = some x7) :
    CallsG Try.prog 87 [.slice A1 (l4).length c2, .func (.func 88) #[] #[]] b (R) (fun v b' hp' => .bool (x7) = v ∧ R = hp') := by
  refine fn_enterG 9 Try.func87 rfl Try.ntmps87 rfl ?_
  unfold mSlicesContainsFunc at hm
  refine c_seq ?_
  refine c_region ?_
  refine t_st rfl (st_assign rfl) ?_
  refine t_nil ?_
  refine x_then_normal ?_
  refine c_seq ?_
  refine c_region ?_
  refine t_st rfl (st_move rfl) ?_
  refine t_st rfl (st_move rfl) ?_
  obtain ⟨x8, hcl9, hm⟩ := bindS hm
  refine t_do rfl (u_callW0 _ call104 rfl (fun w ho => cSlicesIndexFunc _ [] l4 A1 c2 (h3.old ho) x8 hcl9) (fun _ _ _ h => h.2.symm)) ?_
  rintro _ _ ⟨⟨_, rfl, _⟩, rfl⟩
  refine t_st rfl (st_geq rfl rfl) ?_
  refine t_st rfl (st_assign rfl) ?_
  refine t_nil ?_
  refine x_then_normal ?_
  refine c_ret ?_
  obtain rfl := some1 hm
  exact retM (rs := [.tmp 4]) [.bool (decide (0 ≤ x8))] (Base.Le.refl _) (by decide) rfl ⟨rfl, trivial⟩ rfl (hp' := R) (.refl _) ⟨rfl, rfl⟩

set_option maxRecDepth 20000 in
theorem cFleetCheckSecs_2 (b : Base) (R : Hp) (s2 : FleetTask) (l6 : (List (List Int))) (g1 : Nat) (A3 : Option Addr) (c4 : Nat) (h5 : FZ (RT.list (RT.int .i64)) b.w A3 c4 l6) (x56 : Bool) (hm : mFleetCheckSecs_2 s2 l6 = some x56) :
    CallsG Try.prog 90 [.agg #[.int .i64 (s2.From), .int .i64 (s2.To), .int .i64 (s2.Dep), .int .i64 (s2.Arr), .int .i64 (s2.Km), .int .i64 (s2.Units)], .pointer (some ⟨g1, 0, none⟩)] b ((g1, Cl 26 [.slice A3 (l6).length c4]) :: R) (fun v b' hp' => .bool (x56) = v ∧ (g1, Cl 26 [.slice A3 (l6).length c4]) :: R = hp') := by
  refine fn_enterG 19 Try.func90 rfl Try.ntmps90 rfl ?_
  unfold mFleetCheckSecs_2 at hm
  refine c_seq ?_
  refine c_region ?_
  refine t_do rfl (u_box _ rfl rfl) ?_
  rintro _ _ ⟨g57, rfl, rfl⟩
  refine t_st rfl (st_assign rfl) ?_
  refine t_nil ?_
  refine x_then_normal ?_
  refine c_seq ?_
  obtain ⟨x82, h83, hm⟩ := bindS hm
  obtain ⟨x95, h96, hm⟩ := bindS hm
  obtain ⟨_, h105, hm⟩ := bindS hm
  refine D_drawS ((g57, Cl 36 [.int .i64 (s2.From), .int .i64 (s2.To), .int .i64 (s2.Dep), .int .i64 (s2.Arr), .int .i64 (s2.Km), .int .i64 (s2.Units)]) :: (g1, Cl 26 [.slice A3 (l6).length c4]) :: R) mixed ?_
  refine D_st (Base.Le.refl _) 0 rfl (by kernel_rfl) (by kernel_rfl) (by kernel_rfl) rfl (st_load 1 rfl one26 rfl rfl) (.cons_cons _ (.cons_cons _ (.refl _))) ?_
  refine D_st (Base.Le.refl _) 1 rfl (by kernel_rfl) (by kernel_rfl) (by kernel_rfl) rfl (st_field rfl fld36_0) (.cons_cons _ (.cons_cons _ (.refl _))) ?_
  refine D_st (Base.Le.refl _) 2 rfl (by kernel_rfl) (by kernel_rfl) (by kernel_rfl) rfl (st_load 0 rfl one3 rfl rfl) (.cons_cons _ (.cons_cons _ (.refl _))) ?_
  obtain ⟨j84, hj85, hx86⟩ := idx_some h83
  obtain ⟨cs87, hr88, hcs89, hA90, hlt91⟩ := FZ.get (sz := 1) rfl (by decide) h5 hx86
  obtain ⟨A92, c93, rfl, h94⟩ := hr88
  refine D_st (Base.Le.refl _) 3 rfl (by kernel_rfl) (by kernel_rfl) (by kernel_rfl) rfl (st_index_old j84 rfl rfl hj85 hlt91 hA90 sl26) (.cons_cons _ (.cons_cons _ (.refl _))) ?_
  refine D_st (Base.Le.refl _) 4 rfl (by kernel_rfl) (by kernel_rfl) (by kernel_rfl) rfl (st_load_old rfl one45 (hcs89 0 _ rfl)) (.cons_cons _ (.cons_cons _ (.refl _))) ?_
  refine D_st (Base.Le.refl _) 5 rfl (by kernel_rfl) (by kernel_rfl) (by kernel_rfl) rfl (st_field rfl fld36_1) (.cons_cons _ (.cons_cons _ (.refl _))) ?_
  refine D_st (Base.Le.refl _) 6 rfl (by kernel_rfl) (by kernel_rfl) (by kernel_rfl) rfl (st_load 0 rfl one3 rfl rfl) (.cons_cons _ (.cons_cons _ (.refl _))) ?_
  obtain ⟨j97, hj98, hx99⟩ := idx_some h96
  obtain ⟨cs100, hr101, hcs102, hA103, hlt104⟩ := FZ.get (sz := 1) rfl (by decide) h94 hx99
  obtain rfl := hr101
  refine D_st (Base.Le.refl _) 7 rfl (by kernel_rfl) (by kernel_rfl) (by kernel_rfl) rfl (st_index_old j97 rfl rfl hj98 hlt104 hA103 sl45) (.cons_cons _ (.cons_cons _ (.refl _))) ?_
  refine D_st (Base.Le.refl _) 8 rfl (by kernel_rfl) (by kernel_rfl) (by kernel_rfl) rfl (st_load_old rfl one3 (hcs102 0 _ rfl)) (.cons_cons _ (.cons_cons _ (.refl _))) ?_
  refine D_st (Base.Le.refl _) 9 rfl (by kernel_rfl) (by kernel_rfl) (by kernel_rfl) rfl (st_field rfl fld36_3) (.cons_cons _ (.cons_cons _ (.refl _))) ?_
  refine D_st (Base.Le.refl _) 10 rfl (by kernel_rfl) (by kernel_rfl) (by kernel_rfl) rfl (st_load 0 rfl one3 rfl rfl) (.cons_cons _ (.cons_cons _ (.refl _))) ?_
  refine D_st (Base.Le.refl _) 11 rfl (by kernel_rfl) (by kernel_rfl) (by kernel_rfl) rfl (st_field rfl fld36_2) (.cons_cons _ (.cons_cons _ (.refl _))) ?_
  refine D_st (Base.Le.refl _) 12 rfl (by kernel_rfl) (by kernel_rfl) (by kernel_rfl) rfl (st_load 0 rfl one3 rfl rfl) (.cons_cons _ (.cons_cons _ (.refl _))) ?_
  have h105 := (chk_some h105).2
  refine D_st (Base.Le.refl _) 13 rfl (by kernel_rfl) (by kernel_rfl) (by kernel_rfl) rfl (st_sub rfl rfl h105) (.cons_cons _ (.cons_cons _ (.refl _))) ?_
  refine D_st (Base.Le.refl _) 14 rfl (by kernel_rfl) (by kernel_rfl) (by kernel_rfl) rfl (st_gtr rfl rfl) (.cons_cons _ (.cons_cons _ (.refl _))) ?_
  refine D_st (Base.Le.refl _) 15 rfl (by kernel_rfl) (by kernel_rfl) (by kernel_rfl) rfl (st_assign rfl) (.cons_cons _ (.cons_cons _ (.refl _))) ?_
  refine D_done (by kernel_rfl) ?_
  refine x_then_normal ?_
  refine c_ret ?_
  obtain rfl := some1 hm
  refine x_pullb 1 rfl ?_
  exact retM (rs := [.tmp 3]) [.bool (decide ((s2.Arr - s2.Dep) < x95))] (Base.Le.refl _) (by decide) rfl ⟨rfl, trivial⟩ rfl (hp' := (g1, Cl 26 [.slice A3 (l6).length c4]) :: R) (.cons_cons _ (.cons _ (.refl _))) ⟨rfl, rfl⟩

set_option maxRecDepth 20000 in
theorem cSlicesIndexFunc_2 (b : Base) (R : Hp) (l5 : (List FleetTask)) (l9 : (List (List Int))) (g1 : Nat) (A2 : Option Addr) (c3 : Nat) (A6 : Option Addr) (c7 : Nat) (h4 : FZ rFleetTask b.w A2 c3 l5) (h8 : FZ (RT.list (RT.int .i64)) b.w A6 c7 l9) (x50 : Int) (hm : mSlicesIndexFunc_2 l5 l9 = some x50) :
    CallsG Try.prog 105 [.slice A2 (l5).length c3, .func (.func 90) #[] #[.pointer (some ⟨g1, 0, none⟩)]] b ((g1, Cl 26 [.slice A6 (l9).length c7]) :: R) (fun v b' hp' => .int .i64 (x50) = v ∧ (g1, Cl 26 [.slice A6 (l9).length c7]) :: R = hp') := by
  refine fn_enterG 19 Try.func105 rfl Try.ntmps105 rfl ?_
  unfold mSlicesIndexFunc_2 at hm
  refine c_seq ?_
  refine c_region ?_
  refine t_st rfl (st_assign rfl) ?_
  refine t_nil ?_
  refine x_then_normal ?_
  refine c_seq ?_
  refine c_seq ?_
  refine c_region ?_
  refine t_st rfl (st_move rfl) ?_
  refine t_st rfl (st_len rfl sl22) ?_
  refine t_st rfl (st_move rfl) ?_
  refine t_nil ?_
  refine x_then_normal ?_
  refine c_block ?_
  have hb52 := (FZ.bd h4)
  obtain ⟨t71, hl72, hk73⟩ := bindS hm
  refine c_forM (fun k70 => fun _ => fun b68 e' hp' => [(0, .slice A2 (l5).length c3), (1, .func (.func 90) #[] #[.pointer (some ⟨g1, 0, none⟩)]), (7, .int .i64 ((l5.length : Int))), (8, .int .i64 ((k70 : Int)))] = e' ∧ (g1, Cl 26 [.slice A6 (l9).length c7]) :: R = hp' ∧ b.Le b68) hl72 (e' := [(0, .slice A2 (l5).length c3), (1, .func (.func 90) #[] #[.pointer (some ⟨g1, 0, none⟩)]), (7, .int .i64 ((l5.length : Int))), (8, .int .i64 0)]) (hp' := (g1, Cl 26 [.slice A6 (l9).length c7]) :: R) ⟨rfl, rfl, rfl, rfl, trivial⟩ (.cons_cons _ (.refl _)) ⟨rfl, rfl, (Base.Le.refl _)⟩ ?_ ?_
  ·
    rintro k70 _ b68 _ _ oL51 hknL51 ⟨rfl, rfl, hle69⟩ hstepL51 houtL51
    unfold mSlicesIndexFunc_2_L51 at hstepL51
    have hm := hstepL51
    refine c_seq ?_
    refine c_region ?_
    refine t_st rfl (st_lss_t rfl rfl (by omega)) ?_
    refine t_nil ?_
    refine x_then_normal ?_
    refine c_seq ?_
    refine c_cond_t rfl ?_
    refine c_skip ?_
    refine x_then_normal ?_
    refine c_seq ?_
    refine c_block ?_
    refine c_seq ?_
    refine c_region ?_
    refine t_st rfl (st_move rfl) ?_
    refine t_st rfl (st_assign rfl) ?_
    refine t_nil ?_
    refine x_then_normal ?_
    refine c_seq ?_
    refine c_region ?_
    refine t_st rfl (st_move rfl) ?_
    refine t_st rfl (st_move rfl) ?_
    refine t_st rfl (st_move rfl) ?_
    obtain ⟨x74, h75, hm⟩ := bindS hm
    obtain ⟨j76, hj77, hx78⟩ := idx_some h75
    obtain ⟨cs79, hr80, hcs81, hA82, hlt83⟩ := FZ.get (sz := 6) rfl (by decide) (h4.le hle69) hx78
    obtain ⟨_, _, rfl, rfl, ⟨_, _, rfl, rfl, ⟨_, _, rfl, rfl, ⟨_, _, rfl, rfl, ⟨_, _, rfl, rfl, rfl⟩⟩⟩⟩⟩ := hr80
    refine t_st rfl (st_index_old j76 rfl rfl hj77 hlt83 hA82 sl22) ?_
    refine t_st rfl (st_loadN_old (vs := [.int .i64 (x74.From), .int .i64 (x74.To), .int .i64 (x74.Dep), .int .i64 (x74.Arr), .int .i64 (x74.Km), .int .i64 (x74.Units)]) 6 rfl agg36 hA82 rfl (fun j u hu => hcs81 j u hu)) ?_
    obtain ⟨x84, hcl85, hm⟩ := bindS hm
    refine t_callvG #[] #[.pointer (some ⟨g1, 0, none⟩)] [.agg #[.int .i64 (x74.From), .int .i64 (x74.To), .int .i64 (x74.Dep), .int .i64 (x74.Arr), .int .i64 (x74.Km), .int .i64 (x74.Units)]] rfl rfl call90 rfl (cFleetCheckSecs_2 _ _ x74 l9 g1 A6 c7 (h8.le hle69) x84 hcl85) ?_
    rintro _ b86 _ hle87 ⟨rfl, rfl⟩
    refine t_nil ?_
    refine x_then_normal ?_
    refine c_cond _ rfl (fun hc88 => ?_) (fun hc88 => ?_)
    ·
      rw [if_pos hc88] at hm
      refine c_seq ?_
      refine c_region ?_
      refine t_st rfl (st_move rfl) ?_
      refine t_st rfl (st_assign rfl) ?_
      refine t_nil ?_
      refine x_then_normal ?_
      refine c_ret ?_
      refine x_block_ret ?_
      refine x_then_ret ?_
      refine x_then_ret ?_
      refine x_block_ret ?_
      refine x_then_ret ?_
      have hq89 := houtL51 _ (Option.some.inj hm).symm
      rw [hq89] at hk73
      have hm := elimR hk73
      obtain rfl := some1 hm
      exact retM (rs := [.tmp 4]) [.int .i64 ((k70 : Int))] (hle69.trans hle87) (by decide) rfl ⟨rfl, trivial⟩ rfl (hp' := (g1, Cl 26 [.slice A6 (l9).length c7]) :: R) (.cons_cons _ (.refl _)) ⟨rfl, rfl⟩
    ·
      rw [if_neg (fun hh => Bool.noConfusion (hh.symm.trans hc88))] at hm
      refine c_skip ?_
      refine x_block_normal ?_
      refine x_then_normal ?_
      refine c_region ?_
      refine t_st rfl (st_add rfl rfl (by omega)) ?_
      refine t_st rfl (st_move rfl) ?_
      refine t_nil ?_
      exact x_againM () (Option.some.inj hm).symm (e' := [(0, .slice A2 (l5).length c3), (1, .func (.func 90) #[] #[.pointer (some ⟨g1, 0, none⟩)]), (7, .int .i64 ((l5.length : Int))), (8, .int .i64 ((k70 : Int) + 1))]) (hp' := (g1, Cl 26 [.slice A6 (l9).length c7]) :: R) ⟨rfl, rfl, rfl, rfl, trivial⟩ (.cons_cons _ (.refl _)) ⟨rfl, rfl, ((hle69.trans hle87))⟩
  ·
    rintro _ b68 _ _ ⟨rfl, rfl, hle69⟩ hq90
    rw [hq90] at hk73
    have hm := elimL hk73
    refine c_seq ?_
    refine c_region ?_
    refine t_st rfl (st_lss_f rfl rfl (by omega)) ?_
    refine t_nil ?_
    refine x_then_normal ?_
    refine c_seq ?_
    refine c_cond_f rfl ?_
    refine c_exit ?_
    refine x_then_exit ?_
    refine x_then_exit ?_
    refine x_block_out ?_
    refine x_then_normal ?_
    refine c_seq ?_
    refine c_region ?_
    refine t_st rfl (st_assign rfl) ?_
    refine t_nil ?_
    refine x_then_normal ?_
    refine c_ret ?_
    obtain rfl := some1 hm
    exact retM (rs := [.tmp 4]) [.int .i64 ((-1))] hle69 (by decide) rfl ⟨rfl, trivial⟩ rfl (hp' := (g1, Cl 26 [.slice A6 (l9).length c7]) :: R) (.cons_cons _ (.refl _)) ⟨rfl, rfl⟩

set_option maxRecDepth 20000 in
theorem cSlicesContainsFunc_2 (b : Base) (R : Hp) (l5 : (List FleetTask)) (l9 : (List (List Int))) (g1 : Nat) (A2 : Option Addr) (c3 : Nat) (A6 : Option Addr) (c7 : Nat) (h4 : FZ rFleetTask b.w A2 c3 l5) (h8 : FZ (RT.list (RT.int .i64)) b.w A6 c7 l9) (x14 : Bool) (hm : mSlicesContainsFunc_2 l5 l9 = some x14) :
    CallsG Try.prog 89 [.slice A2 (l5).length c3, .func (.func 90) #[] #[.pointer (some ⟨g1, 0, none⟩)]] b ((g1, Cl 26 [.slice A6 (l9).length c7]) :: R) (fun v b' hp' => .bool (x14) = v ∧ (g1, Cl 26 [.slice A6 (l9).length c7]) :: R = hp') := by
  refine fn_enterG 9 Try.func89 rfl Try.ntmps89 rfl ?_
  unfold mSlicesContainsFunc_2 at hm
  refine c_seq ?_
  refine c_region ?_
  refine t_st rfl (st_assign rfl) ?_
  refine t_nil ?_
  refine x_then_normal ?_
  refine c_seq ?_
  refine c_region ?_
  refine t_st rfl (st_move rfl) ?_
  refine t_st rfl (st_move rfl) ?_
  obtain ⟨x15, hcl16, hm⟩ := bindS hm
  refine t_callG _ rfl call105 rfl (cSlicesIndexFunc_2 _ _ l5 l9 g1 A2 c3 A6 c7 h4 h8 x15 hcl16) ?_
  rintro _ b17 _ hle18 ⟨rfl, rfl⟩
  refine t_st rfl (st_geq rfl rfl) ?_
  refine t_st rfl (st_assign rfl) ?_
  refine t_nil ?_
  refine x_then_normal ?_
  refine c_ret ?_
  obtain rfl := some1 hm
  exact retM (rs := [.tmp 4]) [.bool (decide (0 ≤ x15))] hle18 (by decide) rfl ⟨rfl, trivial⟩ rfl (hp' := (g1, Cl 26 [.slice A6 (l9).length c7]) :: R) (.cons_cons _ (.refl _)) ⟨rfl, rfl⟩

set_option maxRecDepth 20000 in
theorem cFleetCheckSecs (b : Base) (R : Hp) (l4 : (List FleetTask)) (x5 : Int) (l9 : (List (List Int))) (A1 : Option Addr) (c2 : Nat) (A6 : Option Addr) (c7 : Nat) (h3 : FZ rFleetTask b.w A1 c2 l4) (h8 : FZ (RT.list (RT.int .i64)) b.w A6 c7 l9) (x1362 : Int) (hm : mFleetCheckSecs l4 x5 l9 = some x1362) :
    CallsG Try.prog 52 [.slice A1 (l4).length c2, .int .i64 (x5), .slice A6 (l9).length c7] b (R) (fun v b' hp' => .int .i64 (x1362) = v ∧ R = hp') := by
  refine fn_enterG 103 Try.func52 rfl Try.ntmps52 rfl ?_
  unfold mFleetCheckSecs at hm
  refine c_seq ?_
  refine c_region ?_
  refine t_do rfl (u_box _ rfl rfl) ?_
  rintro _ _ ⟨g1363, rfl, rfl⟩
  refine t_st rfl (st_assign rfl) ?_
  refine t_nil ?_
  refine x_then_normal ?_
  refine c_seq ?_
  refine c_seq ?_
  refine c_region ?_
  refine t_st rfl (st_move rfl) ?_
  refine t_st rfl (st_move rfl) ?_
  obtain ⟨x1364, hcl1365, hm⟩ := bindS hm
  refine t_do rfl (u_callW0 _ call43 rfl (fun w ho => cFleetCheckTurn _ [] l4 x5 A1 c2 (h3.old ho) x1364 hcl1365) (fun _ _ _ h => h.2.symm)) ?_
  rintro _ _ ⟨⟨_, rfl, _⟩, rfl⟩
  refine t_st rfl (st_assign rfl) ?_
  refine t_nil ?_
  refine x_then_normal ?_
  refine c_seq ?_
  refine c_region ?_
  refine t_st rfl (st_move rfl) ?_
  refine t_st rfl (st_neq rfl rfl) ?_
  refine t_nil ?_
  refine x_then_normal ?_
  refine c_cond _ rfl (fun hc1366 => ?_) (fun hc1366 => ?_)
  ·
    rw [if_pos (of_decide_eq_true hc1366)] at hm
    refine c_seq ?_
    refine c_region ?_
    refine t_st rfl (st_move rfl) ?_
    refine t_st rfl (st_assign rfl) ?_
    refine t_nil ?_
    refine x_then_normal ?_
    refine c_ret ?_
    refine x_then_ret ?_
    obtain rfl := some1 hm
    exact retM (rs := [.tmp 6]) [.int .i64 (x1364)] (Base.Le.refl _) (by decide) rfl ⟨rfl, trivial⟩ rfl (hp' := R) (.cons _ (.refl _)) ⟨rfl, rfl⟩
  ·
    rw [if_neg (of_decide_eq_false hc1366)] at hm
    refine c_skip ?_
    refine x_then_normal ?_
    refine c_seq ?_
    refine c_seq ?_
    refine c_region ?_
    refine t_st rfl (st_move rfl) ?_
    refine t_st rfl (st_len rfl sl22) ?_
    refine t_st rfl (st_gtr rfl rfl) ?_
    refine t_nil ?_
    refine x_then_normal ?_
    refine c_cond _ rfl (fun hc1367 => ?_) (fun hc1367 => ?_)
    ·
      rw [if_pos (of_decide_eq_true hc1367)] at hm
      refine c_seq ?_
      refine c_region ?_
      refine t_st rfl (st_assign rfl) ?_
      refine t_nil ?_
      refine x_then_normal ?_
      refine c_ret ?_
      refine x_then_ret ?_
      obtain rfl := some1 hm
      exact retM (rs := [.tmp 6]) [.int .i64 (4)] (Base.Le.refl _) (by decide) rfl ⟨rfl, trivial⟩ rfl (hp' := R) (.cons _ (.refl _)) ⟨rfl, rfl⟩
    ·
      rw [if_neg (of_decide_eq_false hc1367)] at hm
      refine c_skip ?_
      refine x_then_normal ?_
      refine c_seq ?_
      obtain ⟨x1373, hj1374, hk1374⟩ := bindS hm
      refine c_join (fun b1371 e' hp' => [(0, .slice A1 (l4).length c2), (5, .pointer (some ⟨g1363, 0, none⟩)), (30, .bool (x1373))] = e' ∧ (g1363, Cl 26 [.slice A6 (l9).length c7]) :: R = hp' ∧ b.Le b1371) ?_ ?_
      ·
        have hm := hj1374
        refine c_region ?_
        refine t_st rfl (st_load 0 rfl one26 rfl rfl) ?_
        refine t_st rfl (st_len rfl sl26) ?_
        refine t_bool rfl (st_neq rfl rfl) (fun hc1375 => ?_) (fun hc1375 => ?_)
        ·
          rw [if_pos hc1375] at hm
          refine t_st rfl (st_move rfl) ?_
          refine t_no 27 rfl rfl rfl rfl rfl ?_
          refine t_no 27 rfl rfl rfl rfl rfl ?_
          refine t_st rfl (st_pick_t rfl rfl) ?_
          refine t_nil ?_
          obtain rfl := some1 hm
          exact x_join (e' := [(0, .slice A1 (l4).length c2), (5, .pointer (some ⟨g1363, 0, none⟩)), (30, .bool (true))]) (hp' := (g1363, Cl 26 [.slice A6 (l9).length c7]) :: R) ⟨rfl, rfl, rfl, trivial⟩ (.cons_cons _ (.refl _)) ⟨rfl, rfl, (Base.Le.refl _)⟩
        ·
          rw [if_neg hc1375] at hm
          refine t_st rfl (st_move rfl) ?_
          refine t_yes 27 rfl rfl rfl ?_
          refine t_st rfl (st_load 0 rfl one26 rfl rfl) ?_
          refine t_yes 27 rfl rfl rfl ?_
          obtain ⟨x1376, hcl1377, hm⟩ := bindS hm
          refine t_do rfl (u_callW0 _ call87 rfl (fun w ho => cSlicesContainsFunc _ [] l9 A6 c7 (h8.old ho) x1376 hcl1377) (fun _ _ _ h => h.2.symm)) ?_
          rintro _ _ ⟨⟨_, rfl, _⟩, rfl⟩
          refine t_st rfl (st_pick_f rfl rfl) ?_
          refine t_nil ?_
          obtain rfl := some1 hm
          exact x_join (e' := [(0, .slice A1 (l4).length c2), (5, .pointer (some ⟨g1363, 0, none⟩)), (30, .bool (x1376))]) (hp' := (g1363, Cl 26 [.slice A6 (l9).length c7]) :: R) ⟨rfl, rfl, rfl, trivial⟩ (.cons_cons _ (.refl _)) ⟨rfl, rfl, (Base.Le.refl _)⟩
      ·
        rintro b1371 _ _ ⟨rfl, rfl, hle1372⟩
        have hm := hk1374
        refine c_cond _ rfl (fun hc1378 => ?_) (fun hc1378 => ?_)
        ·
          rw [if_pos hc1378] at hm
          refine c_seq ?_
          refine c_region ?_
          refine t_st rfl (st_assign rfl) ?_
          refine t_nil ?_
          refine x_then_normal ?_
          refine c_ret ?_
          refine x_then_ret ?_
          obtain rfl := some1 hm
          exact retM (rs := [.tmp 6]) [.int .i64 (1)] hle1372 (by decide) rfl ⟨rfl, trivial⟩ rfl (hp' := R) (.cons _ (.refl _)) ⟨rfl, rfl⟩
        ·
          rw [if_neg (fun hh => Bool.noConfusion (hh.symm.trans hc1378))] at hm
          refine c_skip ?_
          refine x_then_normal ?_
          refine c_seq ?_
          refine c_seq ?_
          refine c_region ?_
          refine t_st rfl (st_load 0 rfl one26 rfl rfl) ?_
          refine t_st rfl (st_len rfl sl26) ?_
          refine t_st rfl (st_move rfl) ?_
          refine t_nil ?_
          refine x_then_normal ?_
          refine c_block ?_
          have hb1380 := (FZ.bd (h8.le hle1372))
          obtain ⟨t1446, hl1447, hk1448⟩ := bindS hm
          refine c_forM (fun k1445 => fun _ => fun b1443 e' hp' => [(0, .slice A1 (l4).length c2), (5, .pointer (some ⟨g1363, 0, none⟩)), (31, .slice A6 (l9).length c7), (32, .int .i64 ((l9.length : Int))), (33, .int .i64 ((k1445 : Int)))] = e' ∧ (g1363, Cl 26 [.slice A6 (l9).length c7]) :: R = hp' ∧ b1371.Le b1443) hl1447 (e' := [(0, .slice A1 (l4).length c2), (5, .pointer (some ⟨g1363, 0, none⟩)), (31, .slice A6 (l9).length c7), (32, .int .i64 ((l9.length : Int))), (33, .int .i64 0)]) (hp' := (g1363, Cl 26 [.slice A6 (l9).length c7]) :: R) ⟨rfl, rfl, rfl, rfl, rfl, trivial⟩ (.cons_cons _ (.refl _)) ⟨rfl, rfl, (Base.Le.refl _)⟩ ?_ ?_
          ·
            rintro k1445 _ b1443 _ _ oL1379 hknL1379 ⟨rfl, rfl, hle1444⟩ hstepL1379 houtL1379
            unfold mFleetCheckSecs_L1379 at hstepL1379
            have hm := hstepL1379
            refine c_seq ?_
            refine c_region ?_
            refine t_st rfl (st_lss_t rfl rfl (by omega)) ?_
            refine t_nil ?_
            refine x_then_normal ?_
            refine c_seq ?_
            refine c_cond_t rfl ?_
            refine c_skip ?_
            refine x_then_normal ?_
            refine c_seq ?_
            refine c_block ?_
            refine c_seq ?_
            refine c_region ?_
            refine t_st rfl (st_move rfl) ?_
            obtain ⟨x1449, h1450, hm⟩ := bindS hm
            obtain ⟨j1451, hj1452, hx1453⟩ := idx_some h1450
            obtain ⟨cs1454, hr1455, hcs1456, hA1457, hlt1458⟩ := FZ.get (sz := 1) rfl (by decide) (h8.le (hle1372.trans hle1444)) hx1453
            obtain ⟨A1459, c1460, rfl, h1461⟩ := hr1455
            refine t_st rfl (st_index_old j1451 rfl rfl hj1452 hlt1458 hA1457 sl26) ?_
            refine t_st rfl (st_load_old rfl one45 (hcs1456 0 _ rfl)) ?_
            refine t_st rfl (st_assign rfl) ?_
            refine t_st rfl (st_assign rfl) ?_
            refine t_nil ?_
            refine x_then_normal ?_
            refine c_seq ?_
            refine c_region ?_
            refine t_st rfl (st_move rfl) ?_
            refine t_st rfl (st_len rfl sl45) ?_
            refine t_st rfl (st_move rfl) ?_
            refine t_nil ?_
            refine x_then_normal ?_
            refine c_block ?_
            have hb1463 := (FZ.bd h1461)
            obtain ⟨t1487, hl1488, hk1489⟩ := bindS hm
            refine c_forM (fun k1486 => fun _ => fun b1484 e' hp' => [(0, .slice A1 (l4).length c2), (5, .pointer (some ⟨g1363, 0, none⟩)), (8, .int .i64 ((k1445 : Int))), (31, .slice A6 (l9).length c7), (32, .int .i64 ((l9.length : Int))), (33, .int .i64 ((k1445 : Int))), (38, .slice A1459 (x1449).length c1460), (39, .int .i64 ((x1449.length : Int))), (40, .int .i64 ((k1486 : Int)))] = e' ∧ (g1363, Cl 26 [.slice A6 (l9).length c7]) :: R = hp' ∧ b1443.Le b1484) hl1488 (e' := [(0, .slice A1 (l4).length c2), (5, .pointer (some ⟨g1363, 0, none⟩)), (8, .int .i64 ((k1445 : Int))), (31, .slice A6 (l9).length c7), (32, .int .i64 ((l9.length : Int))), (33, .int .i64 ((k1445 : Int))), (38, .slice A1459 (x1449).length c1460), (39, .int .i64 ((x1449.length : Int))), (40, .int .i64 0)]) (hp' := (g1363, Cl 26 [.slice A6 (l9).length c7]) :: R) ⟨rfl, rfl, rfl, rfl, rfl, rfl, rfl, rfl, rfl, trivial⟩ (.cons_cons _ (.refl _)) ⟨rfl, rfl, (Base.Le.refl _)⟩ ?_ ?_
            ·
              rintro k1486 _ b1484 _ _ oL1462 hknL1462 ⟨rfl, rfl, hle1485⟩ hstepL1462 houtL1462
              unfold mFleetCheckSecs_L1462 at hstepL1462
              have hm := hstepL1462
              refine c_seq ?_
              refine c_region ?_
              refine t_st rfl (st_lss_t rfl rfl (by omega)) ?_
              refine t_nil ?_
              refine x_then_normal ?_
              refine c_seq ?_
              refine c_cond_t rfl ?_
              refine c_skip ?_
              refine x_then_normal ?_
              refine c_seq ?_
              refine c_block ?_
              refine c_seq ?_
              refine c_region ?_
              refine t_st rfl (st_move rfl) ?_
              obtain ⟨x1490, h1491, hm⟩ := bindS hm
              obtain ⟨j1492, hj1493, hx1494⟩ := idx_some h1491
              obtain ⟨cs1495, hr1496, hcs1497, hA1498, hlt1499⟩ := FZ.get (sz := 1) rfl (by decide) (h1461.le hle1485) hx1494
              obtain rfl := hr1496
              refine t_st rfl (st_index_old j1492 rfl rfl hj1493 hlt1499 hA1498 sl45) ?_
              refine t_st rfl (st_load_old rfl one3 (hcs1497 0 _ rfl)) ?_
              refine t_st rfl (st_assign rfl) ?_
              refine t_st rfl (st_assign rfl) ?_
              refine t_nil ?_
              refine x_then_normal ?_
              refine c_block ?_
              refine c_seq ?_
              refine c_region ?_
              refine t_st rfl (st_move rfl) ?_
              obtain ⟨x1500, hcl1501, hm⟩ := bindS hm
              refine t_do rfl (u_callW0 _ call46 rfl (fun w ho => cFleetWithin _ [] x1490 0 28800 x1500 hcl1501) (fun _ _ _ h => h.2.symm)) ?_
              rintro _ _ ⟨⟨_, rfl, _⟩, rfl⟩
              refine t_st rfl (st_not rfl) ?_
              refine t_st rfl (st_assign rfl) ?_
              refine t_nil ?_
              refine x_then_normal ?_
              refine c_cond _ rfl (fun hc1502 => ?_) (fun hc1502 => ?_)
              ·
                rw [if_neg (fun hh => Bool.noConfusion (hh.symm.trans (notT hc1502)))] at hm
                refine c_seq ?_
                refine c_region ?_
                refine t_st rfl (st_assign rfl) ?_
                refine t_nil ?_
                refine x_then_normal ?_
                refine c_ret ?_
                refine x_block_ret ?_
                refine x_block_ret ?_
                refine x_then_ret ?_
                refine x_then_ret ?_
                refine x_block_ret ?_
                refine x_block_ret ?_
                refine x_then_ret ?_
                refine x_then_ret ?_
                refine x_block_ret ?_
                refine x_then_ret ?_
                have hq1503 := houtL1462 _ (Option.some.inj hm).symm
                rw [hq1503] at hk1489
                have hm := elimR hk1489
                have hq1504 := houtL1379 _ (Option.some.inj hm).symm
                rw [hq1504] at hk1448
                have hm := elimR hk1448
                obtain rfl := some1 hm
                exact retM (rs := [.tmp 6]) [.int .i64 (2)] (hle1372.trans (hle1444.trans hle1485)) (by decide) rfl ⟨rfl, trivial⟩ rfl (hp' := R) (.cons _ (.refl _)) ⟨rfl, rfl⟩
              ·
                rw [if_pos (notF hc1502)] at hm
                obtain ⟨x1508, hj1509, hk1509⟩ := bindS hm
                refine c_join (fun b1506 e' hp' => [(0, .slice A1 (l4).length c2), (5, .pointer (some ⟨g1363, 0, none⟩)), (8, .int .i64 ((k1445 : Int))), (31, .slice A6 (l9).length c7), (32, .int .i64 ((l9.length : Int))), (33, .int .i64 ((k1445 : Int))), (38, .slice A1459 (x1449).length c1460), (39, .int .i64 ((x1449.length : Int))), (40, .int .i64 ((k1486 : Int))), (49, .bool (x1508))] = e' ∧ (g1363, Cl 26 [.slice A6 (l9).length c7]) :: R = hp' ∧ b1484.Le b1506) ?_ ?_
                ·
                  have hm := hj1509
                  refine c_region ?_
                  refine t_st rfl (st_move rfl) ?_
                  refine t_st rfl (st_move rfl) ?_
                  refine t_bool rfl (st_eql rfl rfl) (fun hc1510 => ?_) (fun hc1510 => ?_)
                  ·
                    rw [if_pos hc1510] at hm
                    refine t_st rfl (st_move rfl) ?_
                    refine t_yes 53 rfl rfl rfl ?_
                    refine t_st rfl (st_move rfl) ?_
                    refine t_yes 53 rfl rfl rfl ?_
                    refine t_st rfl (st_neq rfl rfl) ?_
                    refine t_st rfl (st_pick_t rfl rfl) ?_
                    refine t_st rfl (st_assign rfl) ?_
                    refine t_nil ?_
                    obtain rfl := some1 hm
                    exact x_join (e' := [(0, .slice A1 (l4).length c2), (5, .pointer (some ⟨g1363, 0, none⟩)), (8, .int .i64 ((k1445 : Int))), (31, .slice A6 (l9).length c7), (32, .int .i64 ((l9.length : Int))), (33, .int .i64 ((k1445 : Int))), (38, .slice A1459 (x1449).length c1460), (39, .int .i64 ((x1449.length : Int))), (40, .int .i64 ((k1486 : Int))), (49, .bool (decide (x1490 ≠ 0)))]) (hp' := (g1363, Cl 26 [.slice A6 (l9).length c7]) :: R) ⟨rfl, rfl, rfl, rfl, rfl, rfl, rfl, rfl, rfl, rfl, trivial⟩ (.cons_cons _ (.refl _)) ⟨rfl, rfl, (Base.Le.refl _)⟩
                  ·
                    rw [if_neg hc1510] at hm
                    refine t_st rfl (st_move rfl) ?_
                    refine t_no 53 rfl rfl rfl rfl rfl ?_
                    refine t_no 53 rfl rfl rfl rfl rfl ?_
                    refine t_st rfl (st_pick_f rfl rfl) ?_
                    refine t_st rfl (st_assign rfl) ?_
                    refine t_nil ?_
                    obtain rfl := some1 hm
                    exact x_join (e' := [(0, .slice A1 (l4).length c2), (5, .pointer (some ⟨g1363, 0, none⟩)), (8, .int .i64 ((k1445 : Int))), (31, .slice A6 (l9).length c7), (32, .int .i64 ((l9.length : Int))), (33, .int .i64 ((k1445 : Int))), (38, .slice A1459 (x1449).length c1460), (39, .int .i64 ((x1449.length : Int))), (40, .int .i64 ((k1486 : Int))), (49, .bool (false))]) (hp' := (g1363, Cl 26 [.slice A6 (l9).length c7]) :: R) ⟨rfl, rfl, rfl, rfl, rfl, rfl, rfl, rfl, rfl, rfl, trivial⟩ (.cons_cons _ (.refl _)) ⟨rfl, rfl, (Base.Le.refl _)⟩
                ·
                  rintro b1506 _ _ ⟨rfl, rfl, hle1507⟩
                  have hm := hk1509
                  refine c_cond _ rfl (fun hc1511 => ?_) (fun hc1511 => ?_)
                  ·
                    rw [if_pos hc1511] at hm
                    refine c_seq ?_
                    refine c_region ?_
                    refine t_st rfl (st_assign rfl) ?_
                    refine t_nil ?_
                    refine x_then_normal ?_
                    refine c_ret ?_
                    refine x_block_ret ?_
                    refine x_block_ret ?_
                    refine x_then_ret ?_
                    refine x_then_ret ?_
                    refine x_block_ret ?_
                    refine x_block_ret ?_
                    refine x_then_ret ?_
                    refine x_then_ret ?_
                    refine x_block_ret ?_
                    refine x_then_ret ?_
                    have hq1512 := houtL1462 _ (Option.some.inj hm).symm
                    rw [hq1512] at hk1489
                    have hm := elimR hk1489
                    have hq1513 := houtL1379 _ (Option.some.inj hm).symm
                    rw [hq1513] at hk1448
                    have hm := elimR hk1448
                    obtain rfl := some1 hm
                    exact retM (rs := [.tmp 6]) [.int .i64 (1)] (hle1372.trans (hle1444.trans (hle1485.trans hle1507))) (by decide) rfl ⟨rfl, trivial⟩ rfl (hp' := R) (.cons _ (.refl _)) ⟨rfl, rfl⟩
                  ·
                    rw [if_neg (fun hh => Bool.noConfusion (hh.symm.trans hc1511))] at hm
                    refine c_skip ?_
                    refine x_block_normal ?_
                    refine x_block_normal ?_
                    refine x_then_normal ?_
                    refine c_region ?_
                    refine t_st rfl (st_add rfl rfl (by omega)) ?_
                    refine t_st rfl (st_move rfl) ?_
                    refine t_nil ?_
                    exact x_againM () (Option.some.inj hm).symm (e' := [(0, .slice A1 (l4).length c2), (5, .pointer (some ⟨g1363, 0, none⟩)), (8, .int .i64 ((k1445 : Int))), (31, .slice A6 (l9).length c7), (32, .int .i64 ((l9.length : Int))), (33, .int .i64 ((k1445 : Int))), (38, .slice A1459 (x1449).length c1460), (39, .int .i64 ((x1449.length : Int))), (40, .int .i64 ((k1486 : Int) + 1))]) (hp' := (g1363, Cl 26 [.slice A6 (l9).length c7]) :: R) ⟨rfl, rfl, rfl, rfl, rfl, rfl, rfl, rfl, rfl, trivial⟩ (.cons_cons _ (.refl _)) ⟨rfl, rfl, ((hle1485.trans hle1507))⟩
            ·
              rintro _ b1484 _ _ ⟨rfl, rfl, hle1485⟩ hq1514
              rw [hq1514] at hk1489
              have hm := elimL hk1489
              refine c_seq ?_
              refine c_region ?_
              refine t_st rfl (st_lss_f rfl rfl (by omega)) ?_
              refine t_nil ?_
              refine x_then_normal ?_
              refine c_seq ?_
              refine c_cond_f rfl ?_
              refine c_exit ?_
              refine x_then_exit ?_
              refine x_then_exit ?_
              refine x_block_out ?_
              refine x_block_normal ?_
              refine x_then_normal ?_
              refine c_region ?_
              refine t_st rfl (st_add rfl rfl (by omega)) ?_
              refine t_st rfl (st_move rfl) ?_
              refine t_nil ?_
              exact x_againM () (Option.some.inj hm).symm (e' := [(0, .slice A1 (l4).length c2), (5, .pointer (some ⟨g1363, 0, none⟩)), (31, .slice A6 (l9).length c7), (32, .int .i64 ((l9.length : Int))), (33, .int .i64 ((k1445 : Int) + 1))]) (hp' := (g1363, Cl 26 [.slice A6 (l9).length c7]) :: R) ⟨rfl, rfl, rfl, rfl, rfl, trivial⟩ (.cons_cons _ (.refl _)) ⟨rfl, rfl, ((hle1444.trans hle1485))⟩
          ·
            rintro _ b1443 _ _ ⟨rfl, rfl, hle1444⟩ hq1515
            rw [hq1515] at hk1448
            have hm := elimL hk1448
            refine c_seq ?_
            refine c_region ?_
            refine t_st rfl (st_lss_f rfl rfl (by omega)) ?_
            refine t_nil ?_
            refine x_then_normal ?_
            refine c_seq ?_
            refine c_cond_f rfl ?_
            refine c_exit ?_
            refine x_then_exit ?_
            refine x_then_exit ?_
            refine x_block_out ?_
            refine x_then_normal ?_
            refine c_seq ?_
            refine c_seq ?_
            refine c_region ?_
            refine t_st rfl (st_load 0 rfl one26 rfl rfl) ?_
            refine t_st rfl (st_len rfl sl26) ?_
            refine t_st rfl (st_move rfl) ?_
            refine t_nil ?_
            refine x_then_normal ?_
            refine c_block ?_
            have hb1517 := (FZ.bd (h8.le (hle1372.trans hle1444)))
            obtain ⟨t2112, hl2113, hk2114⟩ := bindS hm
            refine c_forM (fun k2111 => fun _ => fun b2109 e' hp' => [(0, .slice A1 (l4).length c2), (5, .pointer (some ⟨g1363, 0, none⟩)), (60, .int .i64 ((l9.length : Int))), (61, .int .i64 ((k2111 : Int)))] = e' ∧ (g1363, Cl 26 [.slice A6 (l9).length c7]) :: R = hp' ∧ b1443.Le b2109) hl2113 (e' := [(0, .slice A1 (l4).length c2), (5, .pointer (some ⟨g1363, 0, none⟩)), (60, .int .i64 ((l9.length : Int))), (61, .int .i64 0)]) (hp' := (g1363, Cl 26 [.slice A6 (l9).length c7]) :: R) ⟨rfl, rfl, rfl, rfl, trivial⟩ (.cons_cons _ (.refl _)) ⟨rfl, rfl, (Base.Le.refl _)⟩ ?_ ?_
            ·
              rintro k2111 _ b2109 _ _ oL1516 hknL1516 ⟨rfl, rfl, hle2110⟩ hstepL1516 houtL1516
              unfold mFleetCheckSecs_L1516 at hstepL1516
              have hm := hstepL1516
              refine c_seq ?_
              refine c_region ?_
              refine t_st rfl (st_lss_t rfl rfl (by omega)) ?_
              refine t_nil ?_
              refine x_then_normal ?_
              refine c_seq ?_
              refine c_cond_t rfl ?_
              refine c_skip ?_
              refine x_then_normal ?_
              refine c_seq ?_
              refine c_block ?_
              refine c_seq ?_
              refine c_region ?_
              refine t_st rfl (st_move rfl) ?_
              refine t_st rfl (st_assign rfl) ?_
              refine t_nil ?_
              refine x_then_normal ?_
              refine c_seq ?_
              refine c_region ?_
              refine t_st rfl (st_load 0 rfl one26 rfl rfl) ?_
              refine t_st rfl (st_len rfl sl26) ?_
              refine t_st rfl (st_move rfl) ?_
              refine t_nil ?_
              refine x_then_normal ?_
              refine c_block ?_
              have hb2116 := (FZ.bd (h8.le (hle1372.trans (hle1444.trans hle2110))))
              obtain ⟨t2411, hl2412, hk2413⟩ := bindS hm
              refine c_forM (fun k2410 => fun _ => fun b2408 e' hp' => [(0, .slice A1 (l4).length c2), (5, .pointer (some ⟨g1363, 0, none⟩)), (12, .int .i64 ((k2111 : Int))), (60, .int .i64 ((l9.length : Int))), (61, .int .i64 ((k2111 : Int))), (65, .int .i64 ((l9.length : Int))), (66, .int .i64 ((k2410 : Int)))] = e' ∧ (g1363, Cl 26 [.slice A6 (l9).length c7]) :: R = hp' ∧ b2109.Le b2408) hl2412 (e' := [(0, .slice A1 (l4).length c2), (5, .pointer (some ⟨g1363, 0, none⟩)), (12, .int .i64 ((k2111 : Int))), (60, .int .i64 ((l9.length : Int))), (61, .int .i64 ((k2111 : Int))), (65, .int .i64 ((l9.length : Int))), (66, .int .i64 0)]) (hp' := (g1363, Cl 26 [.slice A6 (l9).length c7]) :: R) ⟨rfl, rfl, rfl, rfl, rfl, rfl, rfl, trivial⟩ (.cons_cons _ (.refl _)) ⟨rfl, rfl, (Base.Le.refl _)⟩ ?_ ?_
              ·
                rintro k2410 _ b2408 _ _ oL2115 hknL2115 ⟨rfl, rfl, hle2409⟩ hstepL2115 houtL2115
                unfold mFleetCheckSecs_L2115 at hstepL2115
                have hm := hstepL2115
                refine c_seq ?_
                refine c_region ?_
                refine t_st rfl (st_lss_t rfl rfl (by omega)) ?_
                refine t_nil ?_
                refine x_then_normal ?_
                refine c_seq ?_
                refine c_cond_t rfl ?_
                refine c_skip ?_
                refine x_then_normal ?_
                refine c_seq ?_
                refine c_block ?_
                refine c_seq ?_
                refine c_region ?_
                refine t_st rfl (st_move rfl) ?_
                refine t_st rfl (st_assign rfl) ?_
                refine t_nil ?_
                refine x_then_normal ?_
                refine c_seq ?_
                refine c_region ?_
                refine t_st rfl (st_load 0 rfl one26 rfl rfl) ?_
                refine t_st rfl (st_len rfl sl26) ?_
                refine t_st rfl (st_move rfl) ?_
                refine t_nil ?_
                refine x_then_normal ?_
                refine c_block ?_
                have hb2415 := (FZ.bd (h8.le (hle1372.trans (hle1444.trans (hle2110.trans hle2409)))))
                obtain ⟨t2560, hl2561, hk2562⟩ := bindS hm
                refine c_forM (fun k2559 => fun _ => fun b2557 e' hp' => [(0, .slice A1 (l4).length c2), (5, .pointer (some ⟨g1363, 0, none⟩)), (12, .int .i64 ((k2111 : Int))), (13, .int .i64 ((k2410 : Int))), (60, .int .i64 ((l9.length : Int))), (61, .int .i64 ((k2111 : Int))), (65, .int .i64 ((l9.length : Int))), (66, .int .i64 ((k2410 : Int))), (70, .int .i64 ((l9.length : Int))), (71, .int .i64 ((k2559 : Int)))] = e' ∧ (g1363, Cl 26 [.slice A6 (l9).length c7]) :: R = hp' ∧ b2408.Le b2557) hl2561 (e' := [(0, .slice A1 (l4).length c2), (5, .pointer (some ⟨g1363, 0, none⟩)), (12, .int .i64 ((k2111 : Int))), (13, .int .i64 ((k2410 : Int))), (60, .int .i64 ((l9.length : Int))), (61, .int .i64 ((k2111 : Int))), (65, .int .i64 ((l9.length : Int))), (66, .int .i64 ((k2410 : Int))), (70, .int .i64 ((l9.length : Int))), (71, .int .i64 0)]) (hp' := (g1363, Cl 26 [.slice A6 (l9).length c7]) :: R) ⟨rfl, rfl, rfl, rfl, rfl, rfl, rfl, rfl, rfl, rfl, trivial⟩ (.cons_cons _ (.refl _)) ⟨rfl, rfl, (Base.Le.refl _)⟩ ?_ ?_
                ·
                  rintro k2559 _ b2557 _ _ oL2414 hknL2414 ⟨rfl, rfl, hle2558⟩ hstepL2414 houtL2414
                  unfold mFleetCheckSecs_L2414 at hstepL2414
                  have hm := hstepL2414
                  refine c_seq ?_
                  refine c_region ?_
                  refine t_st rfl (st_lss_t rfl rfl (by omega)) ?_
                  refine t_nil ?_
                  refine x_then_normal ?_
                  refine c_seq ?_
                  refine c_cond_t rfl ?_
                  refine c_skip ?_
                  refine x_then_normal ?_
                  refine c_seq ?_
                  refine c_block ?_
                  refine c_seq ?_
                  refine c_region ?_
                  refine t_st rfl (st_move rfl) ?_
                  refine t_st rfl (st_assign rfl) ?_
                  refine t_nil ?_
                  refine x_then_normal ?_
                  refine c_seq ?_
                  obtain ⟨x2633, h2634, hm⟩ := bindS hm
                  obtain ⟨x2646, h2647, hm⟩ := bindS hm
                  obtain ⟨x2656, h2657, hm⟩ := bindS hm
                  obtain ⟨x2669, h2670, hm⟩ := bindS hm
                  obtain ⟨x2679, h2680, hm⟩ := bindS hm
                  obtain ⟨x2692, h2693, hm⟩ := bindS hm
                  obtain ⟨_, h2702, hm⟩ := bindS hm
                  refine D_drawS ((g1363, Cl 26 [.slice A6 (l9).length c7]) :: R) mixed ?_
                  refine D_st (Base.Le.refl _) 0 rfl (by kernel_rfl) (by kernel_rfl) (by kernel_rfl) rfl (st_load 0 rfl one26 rfl rfl) (.cons_cons _ (.refl _)) ?_
                  refine D_st (Base.Le.refl _) 1 rfl (by kernel_rfl) (by kernel_rfl) (by kernel_rfl) rfl (st_move rfl) (.cons_cons _ (.refl _)) ?_
                  obtain ⟨j2635, hj2636, hx2637⟩ := idx_some h2634
                  obtain ⟨cs2638, hr2639, hcs2640, hA2641, hlt2642⟩ := FZ.get (sz := 1) rfl (by decide) (h8.le (hle1372.trans (hle1444.trans (hle2110.trans (hle2409.trans hle2558))))) hx2637
                  obtain ⟨A2643, c2644, rfl, h2645⟩ := hr2639
                  refine D_st (Base.Le.refl _) 2 rfl (by kernel_rfl) (by kernel_rfl) (by kernel_rfl) rfl (st_index_old j2635 rfl rfl hj2636 hlt2642 hA2641 sl26) (.cons_cons _ (.refl _)) ?_
                  refine D_st (Base.Le.refl _) 3 rfl (by kernel_rfl) (by kernel_rfl) (by kernel_rfl) rfl (st_load_old rfl one45 (hcs2640 0 _ rfl)) (.cons_cons _ (.refl _)) ?_
                  refine D_st (Base.Le.refl _) 4 rfl (by kernel_rfl) (by kernel_rfl) (by kernel_rfl) rfl (st_move rfl) (.cons_cons _ (.refl _)) ?_
                  obtain ⟨j2648, hj2649, hx2650⟩ := idx_some h2647
                  obtain ⟨cs2651, hr2652, hcs2653, hA2654, hlt2655⟩ := FZ.get (sz := 1) rfl (by decide) h2645 hx2650
                  obtain rfl := hr2652
                  refine D_st (Base.Le.refl _) 5 rfl (by kernel_rfl) (by kernel_rfl) (by kernel_rfl) rfl (st_index_old j2648 rfl rfl hj2649 hlt2655 hA2654 sl45) (.cons_cons _ (.refl _)) ?_
                  refine D_st (Base.Le.refl _) 6 rfl (by kernel_rfl) (by kernel_rfl) (by kernel_rfl) rfl (st_load_old rfl one3 (hcs2653 0 _ rfl)) (.cons_cons _ (.refl _)) ?_
                  refine D_st (Base.Le.refl _) 7 rfl (by kernel_rfl) (by kernel_rfl) (by kernel_rfl) rfl (st_load 0 rfl one26 rfl rfl) (.cons_cons _ (.refl _)) ?_
                  refine D_st (Base.Le.refl _) 8 rfl (by kernel_rfl) (by kernel_rfl) (by kernel_rfl) rfl (st_move rfl) (.cons_cons _ (.refl _)) ?_
                  obtain ⟨j2658, hj2659, hx2660⟩ := idx_some h2657
                  obtain ⟨cs2661, hr2662, hcs2663, hA2664, hlt2665⟩ := FZ.get (sz := 1) rfl (by decide) (h8.le (hle1372.trans (hle1444.trans (hle2110.trans (hle2409.trans hle2558))))) hx2660
                  obtain ⟨A2666, c2667, rfl, h2668⟩ := hr2662
                  refine D_st (Base.Le.refl _) 9 rfl (by kernel_rfl) (by kernel_rfl) (by kernel_rfl) rfl (st_index_old j2658 rfl rfl hj2659 hlt2665 hA2664 sl26) (.cons_cons _ (.refl _)) ?_
                  refine D_st (Base.Le.refl _) 10 rfl (by kernel_rfl) (by kernel_rfl) (by kernel_rfl) rfl (st_load_old rfl one45 (hcs2663 0 _ rfl)) (.cons_cons _ (.refl _)) ?_
                  refine D_st (Base.Le.refl _) 11 rfl (by kernel_rfl) (by kernel_rfl) (by kernel_rfl) rfl (st_move rfl) (.cons_cons _ (.refl _)) ?_
                  obtain ⟨j2671, hj2672, hx2673⟩ := idx_some h2670
                  obtain ⟨cs2674, hr2675, hcs2676, hA2677, hlt2678⟩ := FZ.get (sz := 1) rfl (by decide) h2668 hx2673
                  obtain rfl := hr2675
                  refine D_st (Base.Le.refl _) 12 rfl (by kernel_rfl) (by kernel_rfl) (by kernel_rfl) rfl (st_index_old j2671 rfl rfl hj2672 hlt2678 hA2677 sl45) (.cons_cons _ (.refl _)) ?_
                  refine D_st (Base.Le.refl _) 13 rfl (by kernel_rfl) (by kernel_rfl) (by kernel_rfl) rfl (st_load_old rfl one3 (hcs2676 0 _ rfl)) (.cons_cons _ (.refl _)) ?_
                  refine D_st (Base.Le.refl _) 14 rfl (by kernel_rfl) (by kernel_rfl) (by kernel_rfl) rfl (st_load 0 rfl one26 rfl rfl) (.cons_cons _ (.refl _)) ?_
                  refine D_st (Base.Le.refl _) 15 rfl (by kernel_rfl) (by kernel_rfl) (by kernel_rfl) rfl (st_move rfl) (.cons_cons _ (.refl _)) ?_
                  obtain ⟨j2681, hj2682, hx2683⟩ := idx_some h2680
                  obtain ⟨cs2684, hr2685, hcs2686, hA2687, hlt2688⟩ := FZ.get (sz := 1) rfl (by decide) (h8.le (hle1372.trans (hle1444.trans (hle2110.trans (hle2409.trans hle2558))))) hx2683
                  obtain ⟨A2689, c2690, rfl, h2691⟩ := hr2685
                  refine D_st (Base.Le.refl _) 16 rfl (by kernel_rfl) (by kernel_rfl) (by kernel_rfl) rfl (st_index_old j2681 rfl rfl hj2682 hlt2688 hA2687 sl26) (.cons_cons _ (.refl _)) ?_
                  refine D_st (Base.Le.refl _) 17 rfl (by kernel_rfl) (by kernel_rfl) (by kernel_rfl) rfl (st_load_old rfl one45 (hcs2686 0 _ rfl)) (.cons_cons _ (.refl _)) ?_
                  refine D_st (Base.Le.refl _) 18 rfl (by kernel_rfl) (by kernel_rfl) (by kernel_rfl) rfl (st_move rfl) (.cons_cons _ (.refl _)) ?_
                  obtain ⟨j2694, hj2695, hx2696⟩ := idx_some h2693
                  obtain ⟨cs2697, hr2698, hcs2699, hA2700, hlt2701⟩ := FZ.get (sz := 1) rfl (by decide) h2691 hx2696
                  obtain rfl := hr2698
                  refine D_st (Base.Le.refl _) 19 rfl (by kernel_rfl) (by kernel_rfl) (by kernel_rfl) rfl (st_index_old j2694 rfl rfl hj2695 hlt2701 hA2700 sl45) (.cons_cons _ (.refl _)) ?_
                  refine D_st (Base.Le.refl _) 20 rfl (by kernel_rfl) (by kernel_rfl) (by kernel_rfl) rfl (st_load_old rfl one3 (hcs2699 0 _ rfl)) (.cons_cons _ (.refl _)) ?_
                  have h2702 := (chk_some h2702).2
                  refine D_st (Base.Le.refl _) 21 rfl (by kernel_rfl) (by kernel_rfl) (by kernel_rfl) rfl (st_add rfl rfl h2702) (.cons_cons _ (.refl _)) ?_
                  refine D_st (Base.Le.refl _) 22 rfl (by kernel_rfl) (by kernel_rfl) (by kernel_rfl) rfl (st_gtr rfl rfl) (.cons_cons _ (.refl _)) ?_
                  refine D_done (by kernel_rfl) ?_
                  refine x_then_normal ?_
                  refine c_cond _ rfl (fun hc2703 => ?_) (fun hc2703 => ?_)
                  ·
                    rw [if_pos (of_decide_eq_true hc2703)] at hm
                    refine c_seq ?_
                    refine c_region ?_
                    refine t_st rfl (st_assign rfl) ?_
                    refine t_nil ?_
                    refine x_then_normal ?_
                    refine c_ret ?_
                    refine x_block_ret ?_
                    refine x_then_ret ?_
                    refine x_then_ret ?_
                    refine x_block_ret ?_
                    refine x_block_ret ?_
                    refine x_then_ret ?_
                    refine x_then_ret ?_
                    refine x_block_ret ?_
                    refine x_block_ret ?_
                    refine x_then_ret ?_
                    refine x_then_ret ?_
                    refine x_block_ret ?_
                    refine x_then_ret ?_
                    have hq2704 := houtL2414 _ (Option.some.inj hm).symm
                    rw [hq2704] at hk2562
                    have hm := elimR hk2562
                    have hq2705 := houtL2115 _ (Option.some.inj hm).symm
                    rw [hq2705] at hk2413
                    have hm := elimR hk2413
                    have hq2706 := houtL1516 _ (Option.some.inj hm).symm
                    rw [hq2706] at hk2114
                    have hm := elimR hk2114
                    obtain rfl := some1 hm
                    exact retM (rs := [.tmp 6]) [.int .i64 (1)] (hle1372.trans (hle1444.trans (hle2110.trans (hle2409.trans hle2558)))) (by decide) rfl ⟨rfl, trivial⟩ rfl (hp' := R) (.cons _ (.refl _)) ⟨rfl, rfl⟩
                  ·
                    rw [if_neg (of_decide_eq_false hc2703)] at hm
                    refine c_skip ?_
                    refine x_block_normal ?_
                    refine x_then_normal ?_
                    refine c_region ?_
                    refine t_st rfl (st_add rfl rfl (by omega)) ?_
                    refine t_st rfl (st_move rfl) ?_
                    refine t_nil ?_
                    exact x_againM () (Option.some.inj hm).symm (e' := [(0, .slice A1 (l4).length c2), (5, .pointer (some ⟨g1363, 0, none⟩)), (12, .int .i64 ((k2111 : Int))), (13, .int .i64 ((k2410 : Int))), (60, .int .i64 ((l9.length : Int))), (61, .int .i64 ((k2111 : Int))), (65, .int .i64 ((l9.length : Int))), (66, .int .i64 ((k2410 : Int))), (70, .int .i64 ((l9.length : Int))), (71, .int .i64 ((k2559 : Int) + 1))]) (hp' := (g1363, Cl 26 [.slice A6 (l9).length c7]) :: R) ⟨rfl, rfl, rfl, rfl, rfl, rfl, rfl, rfl, rfl, rfl, trivial⟩ (.cons_cons _ (.refl _)) ⟨rfl, rfl, (hle2558)⟩
                ·
                  rintro _ b2557 _ _ ⟨rfl, rfl, hle2558⟩ hq2707
                  rw [hq2707] at hk2562
                  have hm := elimL hk2562
                  refine c_seq ?_
                  refine c_region ?_
                  refine t_st rfl (st_lss_f rfl rfl (by omega)) ?_
                  refine t_nil ?_
                  refine x_then_normal ?_
                  refine c_seq ?_
                  refine c_cond_f rfl ?_
                  refine c_exit ?_
                  refine x_then_exit ?_
                  refine x_then_exit ?_
                  refine x_block_out ?_
                  refine x_block_normal ?_
                  refine x_then_normal ?_
                  refine c_region ?_
                  refine t_st rfl (st_add rfl rfl (by omega)) ?_
                  refine t_st rfl (st_move rfl) ?_
                  refine t_nil ?_
                  exact x_againM () (Option.some.inj hm).symm (e' := [(0, .slice A1 (l4).length c2), (5, .pointer (some ⟨g1363, 0, none⟩)), (12, .int .i64 ((k2111 : Int))), (60, .int .i64 ((l9.length : Int))), (61, .int .i64 ((k2111 : Int))), (65, .int .i64 ((l9.length : Int))), (66, .int .i64 ((k2410 : Int) + 1))]) (hp' := (g1363, Cl 26 [.slice A6 (l9).length c7]) :: R) ⟨rfl, rfl, rfl, rfl, rfl, rfl, rfl, trivial⟩ (.cons_cons _ (.refl _)) ⟨rfl, rfl, ((hle2409.trans hle2558))⟩
              ·
                rintro _ b2408 _ _ ⟨rfl, rfl, hle2409⟩ hq2708
                rw [hq2708] at hk2413
                have hm := elimL hk2413
                refine c_seq ?_
                refine c_region ?_
                refine t_st rfl (st_lss_f rfl rfl (by omega)) ?_
                refine t_nil ?_
                refine x_then_normal ?_
                refine c_seq ?_
                refine c_cond_f rfl ?_
                refine c_exit ?_
                refine x_then_exit ?_
                refine x_then_exit ?_
                refine x_block_out ?_
                refine x_block_normal ?_
                refine x_then_normal ?_
                refine c_region ?_
                refine t_st rfl (st_add rfl rfl (by omega)) ?_
                refine t_st rfl (st_move rfl) ?_
                refine t_nil ?_
                exact x_againM () (Option.some.inj hm).symm (e' := [(0, .slice A1 (l4).length c2), (5, .pointer (some ⟨g1363, 0, none⟩)), (60, .int .i64 ((l9.length : Int))), (61, .int .i64 ((k2111 : Int) + 1))]) (hp' := (g1363, Cl 26 [.slice A6 (l9).length c7]) :: R) ⟨rfl, rfl, rfl, rfl, trivial⟩ (.cons_cons _ (.refl _)) ⟨rfl, rfl, ((hle2110.trans hle2409))⟩
            ·
              rintro _ b2109 _ _ ⟨rfl, rfl, hle2110⟩ hq2709
              rw [hq2709] at hk2114
              have hm := elimL hk2114
              refine c_seq ?_
              refine c_region ?_
              refine t_st rfl (st_lss_f rfl rfl (by omega)) ?_
              refine t_nil ?_
              refine x_then_normal ?_
              refine c_seq ?_
              refine c_cond_f rfl ?_
              refine c_exit ?_
              refine x_then_exit ?_
              refine x_then_exit ?_
              refine x_block_out ?_
              refine x_then_normal ?_
              refine c_seq ?_
              refine c_seq ?_
              refine c_region ?_
              refine t_st rfl (st_move rfl) ?_
              refine t_st rfl (st_func _ _ rfl rfl) ?_
              obtain ⟨x2710, hcl2711, hm⟩ := bindS hm
              refine t_callG _ rfl call89 rfl (cSlicesContainsFunc_2 _ _ l4 l9 g1363 A1 c2 A6 c7 (h3.le (hle1372.trans (hle1444.trans hle2110))) (h8.le (hle1372.trans (hle1444.trans hle2110))) x2710 hcl2711) ?_
              rintro _ b2712 _ hle2713 ⟨rfl, rfl⟩
              refine t_nil ?_
              refine x_then_normal ?_
              refine c_cond _ rfl (fun hc2714 => ?_) (fun hc2714 => ?_)
              ·
                rw [if_pos hc2714] at hm
                refine c_seq ?_
                refine c_region ?_
                refine t_st rfl (st_assign rfl) ?_
                refine t_nil ?_
                refine x_then_normal ?_
                refine c_ret ?_
                refine x_then_ret ?_
                obtain rfl := some1 hm
                exact retM (rs := [.tmp 6]) [.int .i64 (1)] (hle1372.trans (hle1444.trans (hle2110.trans hle2713))) (by decide) rfl ⟨rfl, trivial⟩ rfl (hp' := R) (.cons _ (.refl _)) ⟨rfl, rfl⟩
              ·
                rw [if_neg (fun hh => Bool.noConfusion (hh.symm.trans hc2714))] at hm
                refine c_skip ?_
                refine x_then_normal ?_
                refine c_seq ?_
                refine c_region ?_
                refine t_st rfl (st_assign rfl) ?_
                refine t_nil ?_
                refine x_then_normal ?_
                refine c_ret ?_
                obtain rfl := some1 hm
                exact retM (rs := [.tmp 6]) [.int .i64 (0)] (hle1372.trans (hle1444.trans (hle2110.trans hle2713))) (by decide) rfl ⟨rfl, trivial⟩ rfl (hp' := R) (.cons _ (.refl _)) ⟨rfl, rfl⟩

set_option maxRecDepth 20000 in
theorem cBitsMul64 (b : Base) (R : Hp) (x1 : Int) (x2 : Int) (x8 : Int) (x9 : Int) (hm : mBitsMul64 x1 x2 = some (x8, x9)) :
    CallsG Try.prog 122 [.int .u64 (x1), .int .u64 (x2)] b (R) (fun v b' hp' => .tuple #[.int .u64 (x8), .int .u64 (x9)] = v ∧ R = hp') := by
  refine fn_enterG 51 Try.func122 rfl Try.ntmps122 rfl ?_
  unfold mBitsMul64 at hm
  refine c_seq ?_
  refine c_region ?_
  refine t_st rfl (st_assign rfl) ?_
  refine t_st rfl (st_assign rfl) ?_
  refine t_nil ?_
  refine x_then_normal ?_
  refine c_seq ?_
  refine c_region ?_
  refine t_st rfl (st_move rfl) ?_
  refine t_st rfl (st_and rfl rfl) ?_
  refine t_st rfl (st_assign rfl) ?_
  refine t_nil ?_
  refine x_then_normal ?_
  refine c_seq ?_
  refine c_region ?_
  refine t_st rfl (st_move rfl) ?_
  obtain ⟨_, h10, hm⟩ := bindS hm
  have h10 := shN_some h10
  refine t_st rfl (st_shr rfl rfl h10) ?_
  refine t_st rfl (st_assign rfl) ?_
  refine t_nil ?_
  refine x_then_normal ?_
  refine c_seq ?_
  refine c_region ?_
  refine t_st rfl (st_move rfl) ?_
  refine t_st rfl (st_and rfl rfl) ?_
  refine t_st rfl (st_assign rfl) ?_
  refine t_nil ?_
  refine x_then_normal ?_
  refine c_seq ?_
  refine c_region ?_
  refine t_st rfl (st_move rfl) ?_
  obtain ⟨_, h11, hm⟩ := bindS hm
  have h11 := shN_some h11
  refine t_st rfl (st_shr rfl rfl h11) ?_
  refine t_st rfl (st_assign rfl) ?_
  refine t_nil ?_
  refine x_then_normal ?_
  refine c_seq ?_
  refine c_region ?_
  refine t_st rfl (st_move rfl) ?_
  refine t_st rfl (st_move rfl) ?_
  refine t_st rfl (st_mul_w rfl rfl) ?_
  refine t_st rfl (st_assign rfl) ?_
  refine t_nil ?_
  refine x_then_normal ?_
  refine c_seq ?_
  refine c_region ?_
  refine t_st rfl (st_move rfl) ?_
  refine t_st rfl (st_move rfl) ?_
  refine t_st rfl (st_mul_w rfl rfl) ?_
  refine t_st rfl (st_move rfl) ?_
  obtain ⟨_, h12, hm⟩ := bindS hm
  have h12 := shN_some h12
  refine t_st rfl (st_shr rfl rfl h12) ?_
  refine t_st rfl (st_add_w rfl rfl) ?_
  refine t_st rfl (st_assign rfl) ?_
  refine t_nil ?_
  refine x_then_normal ?_
  refine c_seq ?_
  refine c_region ?_
  refine t_st rfl (st_move rfl) ?_
  refine t_st rfl (st_and rfl rfl) ?_
  refine t_st rfl (st_assign rfl) ?_
  refine t_nil ?_
  refine x_then_normal ?_
  refine c_seq ?_
  refine c_region ?_
  refine t_st rfl (st_move rfl) ?_
  obtain ⟨_, h13, hm⟩ := bindS hm
  have h13 := shN_some h13
  refine t_st rfl (st_shr rfl rfl h13) ?_
  refine t_st rfl (st_assign rfl) ?_
  refine t_nil ?_
  refine x_then_normal ?_
  refine c_seq ?_
  refine c_region ?_
  refine t_st rfl (st_move rfl) ?_
  refine t_st rfl (st_move rfl) ?_
  refine t_st rfl (st_move rfl) ?_
  refine t_st rfl (st_mul_w rfl rfl) ?_
  refine t_st rfl (st_add_w rfl rfl) ?_
  refine t_st rfl (st_assign rfl) ?_
  refine t_nil ?_
  refine x_then_normal ?_
  refine c_seq ?_
  refine c_region ?_
  refine t_st rfl (st_move rfl) ?_
  refine t_st rfl (st_move rfl) ?_
  refine t_st rfl (st_mul_w rfl rfl) ?_
  refine t_st rfl (st_move rfl) ?_
  refine t_st rfl (st_add_w rfl rfl) ?_
  refine t_st rfl (st_move rfl) ?_
  obtain ⟨_, h14, hm⟩ := bindS hm
  have h14 := shN_some h14
  refine t_st rfl (st_shr rfl rfl h14) ?_
  refine t_st rfl (st_add_w rfl rfl) ?_
  refine t_st rfl (st_assign rfl) ?_
  refine t_nil ?_
  refine x_then_normal ?_
  refine c_seq ?_
  refine c_region ?_
  refine t_st rfl (st_move rfl) ?_
  refine t_st rfl (st_move rfl) ?_
  refine t_st rfl (st_mul_w rfl rfl) ?_
  refine t_st rfl (st_assign rfl) ?_
  refine t_nil ?_
  refine x_then_normal ?_
  refine c_ret ?_
  obtain ⟨rfl, rfl⟩ := some2 hm
  exact retM (rs := [.tmp 4, .tmp 5]) [.int .u64 (IntKind.wrap .u64 ((IntKind.wrap .u64 ((IntKind.wrap .u64 ((shrI .u64 x1 32) * (shrI .u64 x2 32))) + (shrI .u64 (IntKind.wrap .u64 ((IntKind.wrap .u64 ((shrI .u64 x1 32) * (andI .u64 x2 4294967295))) + (shrI .u64 (IntKind.wrap .u64 ((andI .u64 x1 4294967295) * (andI .u64 x2 4294967295))) 32))) 32))) + (shrI .u64 (IntKind.wrap .u64 ((andI .u64 (IntKind.wrap .u64 ((IntKind.wrap .u64 ((shrI .u64 x1 32) * (andI .u64 x2 4294967295))) + (shrI .u64 (IntKind.wrap .u64 ((andI .u64 x1 4294967295) * (andI .u64 x2 4294967295))) 32))) 4294967295) + (IntKind.wrap .u64 ((andI .u64 x1 4294967295) * (shrI .u64 x2 32))))) 32))), .int .u64 (IntKind.wrap .u64 (x1 * x2))] (Base.Le.refl _) (by decide) rfl ⟨rfl, ⟨rfl, trivial⟩⟩ rfl (hp' := R) (.refl _) ⟨rfl, rfl⟩

set_option maxRecDepth 20000 in
theorem cBitsMul (b : Base) (R : Hp) (x1 : Int) (x2 : Int) (x6 : Int) (x7 : Int) (hm : mBitsMul x1 x2 = some (x6, x7)) :
    CallsG Try.prog 106 [.int .u64 (x1), .int .u64 (x2)] b (R) (fun v b' hp' => .tuple #[.int .u64 (x6), .int .u64 (x7)] = v ∧ R = hp') := by
  refine fn_enterG 30 Try.func106 rfl Try.ntmps106 rfl ?_
  unfold mBitsMul at hm
  refine c_seq ?_
  refine c_region ?_
  refine t_st rfl (st_assign rfl) ?_
  refine t_st rfl (st_assign rfl) ?_
  refine t_nil ?_
  refine x_then_normal ?_
  refine c_seq ?_
  refine c_cond_f rfl ?_
  refine c_skip ?_
  refine x_then_normal ?_
  refine c_seq ?_
  refine c_region ?_
  refine t_st rfl (st_move rfl) ?_
  refine t_st rfl (st_move rfl) ?_
  obtain ⟨⟨x8, x9⟩, hcl10, hm⟩ := bindS hm
  have hm := (unc2E hm)
  refine t_do rfl (u_callW0 _ call122 rfl (fun w ho => cBitsMul64 _ [] x1 x2 x8 x9 hcl10) (fun _ _ _ h => h.2.symm)) ?_
  rintro _ _ ⟨⟨_, rfl, _⟩, rfl⟩
  refine t_st rfl (st_move rfl) ?_
  refine t_st rfl (st_extract rfl rfl) ?_
  refine t_st rfl (st_extract rfl rfl) ?_
  refine t_st rfl (st_assign rfl) ?_
  refine t_st rfl (st_assign rfl) ?_
  refine t_nil ?_
  refine x_then_normal ?_
  refine c_seq ?_
  refine c_region ?_
  refine t_st rfl (st_move rfl) ?_
  refine t_st rfl (st_move rfl) ?_
  refine t_st rfl (st_assign rfl) ?_
  refine t_st rfl (st_assign rfl) ?_
  refine t_nil ?_
  refine x_then_normal ?_
  refine c_ret ?_
  obtain ⟨rfl, rfl⟩ := some2 hm
  exact retM (rs := [.tmp 4, .tmp 5]) [.int .u64 (x8), .int .u64 (x9)] (Base.Le.refl _) (by decide) rfl ⟨rfl, ⟨rfl, trivial⟩⟩ rfl (hp' := R) (.refl _) ⟨rfl, rfl⟩

set_option maxRecDepth 20000 in
theorem cSlicesRepeat (b : Base) (R : Hp) (l4 : (List Int)) (x5 : Int) (A1 : Option Addr) (c2 : Nat) (h3 : FZ (RT.int .i64) b.w A1 c2 l4) (l401 : (List Int)) (hm : mSlicesRepeat l4 x5 = some l401) :
    CallsG Try.prog 91 [.slice A1 (l4).length c2, .int .i64 (x5)] b (R) (fun v b' hp' => ∃ (A398 : Option Addr), ∃ (c399 : Nat), ∃ (hs397 : Hp), .slice A398 (l401).length c399 = v ∧ (hs397 ++ R) = hp' ∧ OS 3 (OT.fr (RT.int .i64)) b'.w (.slice A398 l401.length c399) l401 hs397) := by
  refine fn_enterG 48 Try.func91 rfl Try.ntmps91 rfl ?_
  unfold mSlicesRepeat at hm
  refine c_seq ?_
  refine c_region ?_
  refine t_st rfl (st_assign rfl) ?_
  refine t_nil ?_
  refine x_then_normal ?_
  refine c_seq ?_
  refine c_seq ?_
  refine c_region ?_
  refine t_st rfl (st_move rfl) ?_
  refine t_st rfl (st_lss rfl rfl) ?_
  refine t_nil ?_
  refine x_then_normal ?_
  refine c_cond _ rfl (fun hc402 => ?_) (fun hc402 => ?_)
  ·
    rw [if_pos (of_decide_eq_true hc402)] at hm
    cases hm
  ·
    rw [if_neg (of_decide_eq_false hc402)] at hm
    refine c_skip ?_
    refine x_then_normal ?_
    refine c_seq ?_
    refine c_region ?_
    refine t_st rfl (st_move rfl) ?_
    refine t_st rfl (st_len rfl sl45) ?_
    refine t_st rfl (st_conv rfl int3_i64 int167_u64) ?_
    refine t_st rfl (st_move rfl) ?_
    refine t_st rfl (st_conv rfl int3_i64 int167_u64) ?_
    obtain ⟨⟨x403, x404⟩, hcl405, hm⟩ := bindS hm
    have hm := (unc2E hm)
    refine t_do rfl (u_callW0 _ call106 rfl (fun w ho => cBitsMul _ [] (IntKind.wrap .u64 (l4.length : Int)) (IntKind.wrap .u64 x5) x403 x404 hcl405) (fun _ _ _ h => h.2.symm)) ?_
    rintro _ _ ⟨⟨_, rfl, _⟩, rfl⟩
    refine t_st rfl (st_move rfl) ?_
    refine t_st rfl (st_extract rfl rfl) ?_
    refine t_st rfl (st_extract rfl rfl) ?_
    refine t_st rfl (st_assign rfl) ?_
    refine t_st rfl (st_assign rfl) ?_
    refine t_nil ?_
    refine x_then_normal ?_
    refine c_seq ?_
    obtain ⟨x409, hj410, hk410⟩ := bindS hm
    refine c_join (fun b407 e' hp' => [(0, .slice A1 (l4).length c2), (6, .int .u64 (x404)), (26, .bool (x409))] = e' ∧ R = hp' ∧ b.Le b407) ?_ ?_
    ·
      have hm := hj410
      refine c_region ?_
      refine t_st rfl (st_move rfl) ?_
      refine t_bool rfl (st_gtr rfl rfl) (fun hc411 => ?_) (fun hc411 => ?_)
      ·
        rw [if_pos hc411] at hm
        refine t_st rfl (st_move rfl) ?_
        refine t_no 23 rfl rfl rfl rfl rfl ?_
        refine t_no 23 rfl rfl rfl rfl rfl ?_
        refine t_st rfl (st_pick_t rfl rfl) ?_
        refine t_nil ?_
        obtain rfl := some1 hm
        exact x_join (e' := [(0, .slice A1 (l4).length c2), (6, .int .u64 (x404)), (26, .bool (true))]) (hp' := R) ⟨rfl, rfl, rfl, trivial⟩ (.refl _) ⟨rfl, rfl, (Base.Le.refl _)⟩
      ·
        rw [if_neg hc411] at hm
        refine t_st rfl (st_move rfl) ?_
        refine t_yes 23 rfl rfl rfl ?_
        refine t_st rfl (st_move rfl) ?_
        refine t_yes 23 rfl rfl rfl ?_
        refine t_st rfl (st_gtr rfl rfl) ?_
        refine t_st rfl (st_pick_f rfl rfl) ?_
        refine t_nil ?_
        obtain rfl := some1 hm
        exact x_join (e' := [(0, .slice A1 (l4).length c2), (6, .int .u64 (x404)), (26, .bool (decide (9223372036854775807 < x404)))]) (hp' := R) ⟨rfl, rfl, rfl, trivial⟩ (.refl _) ⟨rfl, rfl, (Base.Le.refl _)⟩
    ·
      rintro b407 _ _ ⟨rfl, rfl, hle408⟩
      have hm := hk410
      refine c_cond _ rfl (fun hc412 => ?_) (fun hc412 => ?_)
      ·
        rw [if_pos hc412] at hm
        cases hm
      ·
        rw [if_neg (fun hh => Bool.noConfusion (hh.symm.trans hc412))] at hm
        refine c_skip ?_
        refine x_then_normal ?_
        refine c_seq ?_
        refine c_region ?_
        refine t_st rfl (st_move rfl) ?_
        refine t_st rfl (st_conv rfl int167_u64 int3_i64) ?_
        obtain ⟨m413, h414, hm⟩ := bindS hm
        have h414 := mkLen_some h414
        refine t_do rfl (u_mkOS (r := (RT.int .i64)) [] R [.int .i64 (0)] 0 m413 rfl h414.1 rfl rfl sl45 inf3 rfl rfl rfl (by decide) rfl h414.2.1 h414.2.2) ?_
        rintro _ _ ⟨hs415, rfl, h416⟩
        obtain ⟨A417, c418, rfl, _⟩ := h416.form
        refine t_st rfl (st_assign rfl) ?_
        refine t_nil ?_
        refine x_then_normal ?_
        refine c_seq ?_
        refine c_region ?_
        refine t_st rfl (st_move rfl) ?_
        refine t_st rfl (st_move rfl) ?_
        obtain ⟨css419, h420, h421⟩ := rd_src (h3.le hle408)
        refine t_do rfl (u_copyI (r := (RT.int .i64)) (m := l4) (show (0 : Int) = ((0 : Nat) : Int) from rfl) rfl [] R css419 rfl sl45 rfl rfl (subA_zero _ _ _).symm (Nat.sub_zero _).symm rfl (Nat.zero_le _) (Nat.le_refl _) h416 rfl (fun w ho => h420.old ho) h421) ?_
        rintro _ _ ⟨rfl, hs422, rfl, h423⟩
        refine t_resp 7 rfl (v' := .slice A417 (cpyI (List.replicate m413 (0 : Int)) 0 ((List.replicate m413 (0 : Int)).length : Int) l4).length c418) (by rw [(cpyI_length (show (0 : Int) = ((0 : Nat) : Int) from rfl) rfl (Nat.zero_le _) (Nat.le_refl _))]) ?_
        refine t_st rfl (st_assign rfl) ?_
        refine t_nil ?_
        refine x_then_normal ?_
        obtain ⟨l609, hj611, hk611⟩ := bindS hm
        refine c_join (fun b604 e' hp' => ∃ (hs607 : Hp), [(7, .slice A417 (l609).length c418)] = e' ∧ (hs607 ++ R) = hp' ∧ b407.Le b604 ∧ OS 3 (OT.fr (RT.int .i64)) b604.w (.slice A417 l609.length c418) l609 hs607 ∧ l609.length = m413) ?_ ?_
        ·
          have hm := hj611
          refine c_block ?_
          refine c_loopM (unc2 fun x734 l735 => fun b729 e' hp' => ∃ (hs732 : Hp), [(7, .slice A417 (l735).length c418), (8, .int .i64 (x734))] = e' ∧ (hs732 ++ R) = hp' ∧ b407.Le b729 ∧ OS 3 (OT.fr (RT.int .i64)) b729.w (.slice A417 l735.length c418) l735 hs732 ∧ l735.length = m413) hm (e' := [(7, .slice A417 (cpyI (List.replicate m413 (0 : Int)) 0 ((List.replicate m413 (0 : Int)).length : Int) l4).length c418), (8, .int .i64 (cpyN 0 ((List.replicate m413 (0 : Int)).length : Int) l4))]) (hp' := (hs422 ++ R)) ⟨rfl, rfl, trivial⟩ (sub_app hs422 (.refl _)) ⟨hs422, rfl, rfl, (Base.Le.refl _), h423, ((cpyI_length (show (0 : Int) = ((0 : Nat) : Int) from rfl) rfl (Nat.zero_le _) (Nat.le_refl _)).trans List.length_replicate)⟩ ?_
          rintro ⟨x734, l735⟩ b729 _ _ oL612 ⟨hs732, rfl, rfl, hle730, h733, hln736⟩ hstepL612 houtL612
          unfold mSlicesRepeat_L612 at hstepL612
          have hm := (unc2E hstepL612)
          refine c_seq ?_
          refine c_seq ?_
          refine c_region ?_
          refine t_st rfl (st_move rfl) ?_
          refine t_st rfl (st_move rfl) ?_
          refine t_st rfl (st_len rfl sl45) ?_
          refine t_st rfl (st_lss rfl rfl) ?_
          refine t_nil ?_
          refine x_then_normal ?_
          refine c_cond _ rfl (fun hc737 => ?_) (fun hc737 => ?_)
          ·
            rw [if_pos (of_decide_eq_true hc737)] at hm
            refine c_skip ?_
            refine x_then_normal ?_
            refine c_block ?_
            obtain ⟨l765, h766, hm⟩ := bindS hm
            obtain ⟨l775, h776, hm⟩ := bindS hm
            obtain ⟨_, h791, hm⟩ := bindS hm
            refine D_drawS (R) mixed ?_
            refine D_st (Base.Le.refl _) 0 rfl (by kernel_rfl) (by kernel_rfl) (by kernel_rfl) rfl (st_move rfl) (sub_skip hs732 (.refl _)) ?_
            refine D_st (Base.Le.refl _) 1 rfl (by kernel_rfl) (by kernel_rfl) (by kernel_rfl) rfl (st_move rfl) (sub_skip hs732 (.refl _)) ?_
            refine D_st (Base.Le.refl _) 2 rfl (by kernel_rfl) (by kernel_rfl) (by kernel_rfl) rfl (st_move rfl) (sub_skip hs732 (.refl _)) ?_
            obtain ⟨j767, j768, hj769, hj770, hj771, hj772, hx773⟩ := cutS_some h766
            have h774 := OS.lc h733
            refine D_st (Base.Le.refl _) 3 rfl (by kernel_rfl) (by kernel_rfl) (by kernel_rfl) rfl (hx773 ▸ st_part (l := l735) j767 j768 rfl (.inr ⟨_, _, _, rfl, rfl, hj769⟩) (.inl ⟨rfl, by omega⟩) hj771 hj772 h774 sl45) (sub_skip hs732 (.refl _)) ?_
            refine D_st (Base.Le.refl _) 4 rfl (by kernel_rfl) (by kernel_rfl) (by kernel_rfl) rfl (st_move rfl) (sub_skip hs732 (.refl _)) ?_
            refine D_st (Base.Le.refl _) 5 rfl (by kernel_rfl) (by kernel_rfl) (by kernel_rfl) rfl (st_move rfl) (sub_skip hs732 (.refl _)) ?_
            obtain ⟨j777, j778, hj779, hj780, hj781, hj782, hx783⟩ := cutS_some h776
            have h784 := OS.lc h733
            refine D_st (Base.Le.refl _) 6 rfl (by kernel_rfl) (by kernel_rfl) (by kernel_rfl) rfl (hx783 ▸ st_part (l := l735) j777 j778 rfl (.inl ⟨rfl, by omega⟩) (.inr ⟨_, _, _, rfl, rfl, hj780⟩) hj781 hj782 h784 sl45) (sub_skip hs732 (.refl _)) ?_
            obtain ⟨css785, h786, h787⟩ := rd_own h733 (List.sublist_append_left _ _)
            have h788 := OS.lc h733
            refine D_all [7] (by kernel_rfl) rfl ?_
            refine R_do (Base.Le.refl _) rfl rfl (u_copyI (r := (RT.int .i64)) (m := l775) hj769 hj770 [] R ((css785.take j778).drop j777) rfl sl45 rfl rfl rfl (cut_len hx773 hj771 hj772) rfl hj771 hj772 h733 rfl (fun w ho => rd_part rfl hj781 hj782 h788 (h786 w ho) ⟨_, h787⟩) (cut_all hx783 h787)) ?_ ?_
            ·
              rintro _ _ ⟨rfl, hs789, rfl, h790⟩
              refine ⟨.inr (sub_skip hs789 (.refl _)), ?_⟩
              refine d_resp 7 rfl (v' := .slice A417 (cpyI l735 x734 (l735.length : Int) l775).length c418) (by rw [(cpyI_length hj769 hj770 hj771 hj772)]) ?_
              have h791 := (chk_some h791).2
              refine D_st (Base.Le.refl _) 8 rfl (by kernel_rfl) (by kernel_rfl) (by kernel_rfl) rfl (st_add rfl rfl h791) (sub_skip hs789 (.refl _)) ?_
              refine D_st (Base.Le.refl _) 9 rfl (by kernel_rfl) (by kernel_rfl) (by kernel_rfl) rfl (st_assign rfl) (sub_skip hs789 (.refl _)) ?_
              refine D_done (by kernel_rfl) ?_
              refine x_block_normal ?_
              exact x_againM (x734 + (cpyN x734 (l735.length : Int) l775), cpyI l735 x734 (l735.length : Int) l775) (Option.some.inj hm).symm (e' := [(7, .slice A417 (cpyI l735 x734 (l735.length : Int) l775).length c418), (8, .int .i64 (x734 + (cpyN x734 (l735.length : Int) l775)))]) (hp' := (hs789 ++ R)) ⟨rfl, rfl, trivial⟩ (sub_app hs789 (.refl _)) ⟨hs789, rfl, rfl, (hle730), h790, ((cpyI_length hj769 hj770 hj771 hj772).trans hln736)⟩
            exact R_nil
          ·
            rw [if_neg (of_decide_eq_false hc737)] at hm
            refine c_exit ?_
            refine x_then_exit ?_
            refine x_then_exit ?_
            refine x_block_out ?_
            have hm := congrArg some (houtL612 _ (Option.some.inj hm).symm)
            obtain rfl := some1 hm
            exact x_join (e' := [(7, .slice A417 (l735).length c418)]) (hp' := (hs732 ++ R)) ⟨rfl, trivial⟩ (sub_app hs732 (.refl _)) ⟨hs732, rfl, rfl, hle730, h733, hln736⟩
        ·
          rintro b604 _ _ ⟨hs607, rfl, rfl, hle605, h608, hln610⟩
          have hm := hk611
          refine c_seq ?_
          refine c_region ?_
          refine t_st rfl (st_move rfl) ?_
          refine t_st rfl (st_assign rfl) ?_
          refine t_nil ?_
          refine x_then_normal ?_
          refine c_ret ?_
          obtain rfl := some1 hm
          exact retM (rs := [.tmp 4]) [.slice A417 (l609).length c418] (hle408.trans hle605) (by decide) rfl ⟨rfl, trivial⟩ rfl (hp' := (hs607 ++ R)) (sub_app hs607 (.refl _)) ⟨A417, c418, hs607, rfl, rfl, h608⟩

end Go.Proofs.Ytajmocgpjkhjlaa
