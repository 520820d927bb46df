/- Contracts: the code computes its model (part 4). -/
import Derived.Test.YtajmocgpjkhjlaaP3
set_option linter.unusedVariables false
set_option linter.unusedSimpArgs false
namespace Go.Proofs.Ytajmocgpjkhjlaa
open Go.RowKit Go.Fp

set_option maxRecDepth 20000 in
theorem cFleetMay (b : Base) (R : Hp) (l4 : (List FleetTask)) (l8 : (List Int)) (s9 : FleetSet) (s10 : FleetShop) (x11 : Int) (A1 : Option Addr) (c2 : Nat) (A5 : Option Addr) (c6 : Nat) (h3 : FZ rFleetTask b.w A1 c2 l4) (h7 : FZ (RT.int .i64) b.w A5 c6 l8) (x285 : Bool) (hm : mFleetMay l4 l8 s9 s10 x11 = some x285) :
    CallsG Try.prog 82 [.slice A1 (l4).length c2, .slice A5 (l8).length c6, .agg #[.int .i64 (s9.Home), .int .i64 (s9.Km)], .agg #[.int .i64 (s10.Place), .int .i64 (s10.Long), .int .i64 (s10.Limit)], .int .i64 (x11)] b (R) (fun v b' hp' => .bool (x285) = v ∧ R = hp') := by
  refine fn_enterG 60 Try.func82 rfl Try.ntmps82 rfl ?_
  unfold mFleetMay at hm
  refine c_seq ?_
  refine c_region ?_
  refine t_do rfl (u_box _ rfl rfl) ?_
  rintro _ _ ⟨g286, rfl, rfl⟩
  refine t_do rfl (u_box _ rfl rfl) ?_
  rintro _ _ ⟨g287, rfl, rfl⟩
  refine t_st rfl (st_assign rfl) ?_
  refine t_nil ?_
  refine x_then_normal ?_
  refine c_seq ?_
  refine c_region ?_
  refine t_st rfl (st_field rfl fld47_0) ?_
  refine t_st rfl (st_load 1 rfl one3 rfl rfl) ?_
  refine t_st rfl (st_assign rfl) ?_
  refine t_st rfl (st_assign rfl) ?_
  refine t_nil ?_
  refine x_then_normal ?_
  obtain ⟨⟨x375, x376⟩, hj377, hk377⟩ := bindS hm
  refine c_join (fun b373 e' hp' => [(0, .slice A1 (l4).length c2), (1, .slice A5 (l8).length c6), (4, .int .i64 (x11)), (8, .pointer (some ⟨g287, 0, none⟩)), (11, .int .i64 (x375)), (12, .int .i64 (x376))] = e' ∧ (g287, Cl 40 [.int .i64 (s10.Place), .int .i64 (s10.Long), .int .i64 (s10.Limit)]) :: R = hp' ∧ b.Le b373) ?_ ?_
  ·
    have hm := hj377
    refine c_seq ?_
    refine c_region ?_
    refine t_st rfl (st_move rfl) ?_
    refine t_st rfl (st_gtr rfl rfl) ?_
    refine t_nil ?_
    refine x_then_normal ?_
    refine c_cond _ rfl (fun hc378 => ?_) (fun hc378 => ?_)
    ·
      rw [if_pos (of_decide_eq_true hc378)] at hm
      obtain ⟨_, h421, hm⟩ := bindS hm
      obtain ⟨x422, h423, hm⟩ := bindS hm
      obtain ⟨x432, h433, hm⟩ := bindS hm
      obtain ⟨_, h442, hm⟩ := bindS hm
      obtain ⟨x443, h444, hm⟩ := bindS hm
      obtain ⟨x453, h454, hm⟩ := bindS hm
      refine D_drawS ((g287, Cl 40 [.int .i64 (s10.Place), .int .i64 (s10.Long), .int .i64 (s10.Limit)]) :: (g286, Cl 47 [.int .i64 (s9.Home), .int .i64 (s9.Km)]) :: R) mixed ?_
      refine D_st (Base.Le.refl _) 0 rfl (by kernel_rfl) (by kernel_rfl) (by kernel_rfl) rfl (st_move rfl) (.cons_cons _ (.cons_cons _ (.refl _))) ?_
      refine D_st (Base.Le.refl _) 1 rfl (by kernel_rfl) (by kernel_rfl) (by kernel_rfl) rfl (st_move rfl) (.cons_cons _ (.cons_cons _ (.refl _))) ?_
      refine D_st (Base.Le.refl _) 2 rfl (by kernel_rfl) (by kernel_rfl) (by kernel_rfl) rfl (st_move rfl) (.cons_cons _ (.cons_cons _ (.refl _))) ?_
      have h421 := (chk_some h421).2
      refine D_st (Base.Le.refl _) 3 rfl (by kernel_rfl) (by kernel_rfl) (by kernel_rfl) rfl (st_sub rfl rfl h421) (.cons_cons _ (.cons_cons _ (.refl _))) ?_
      obtain ⟨j424, hj425, hx426⟩ := idx_some h423
      obtain ⟨cs427, hr428, hcs429, hA430, hlt431⟩ := FZ.get (sz := 1) rfl (by decide) h7 hx426
      obtain rfl := hr428
      refine D_st (Base.Le.refl _) 4 rfl (by kernel_rfl) (by kernel_rfl) (by kernel_rfl) rfl (st_index_old j424 rfl rfl hj425 hlt431 hA430 sl45) (.cons_cons _ (.cons_cons _ (.refl _))) ?_
      refine D_st (Base.Le.refl _) 5 rfl (by kernel_rfl) (by kernel_rfl) (by kernel_rfl) rfl (st_load_old rfl one3 (hcs429 0 _ rfl)) (.cons_cons _ (.cons_cons _ (.refl _))) ?_
      obtain ⟨j434, hj435, hx436⟩ := idx_some h433
      obtain ⟨cs437, hr438, hcs439, hA440, hlt441⟩ := FZ.get (sz := 6) rfl (by decide) h3 hx436
      obtain ⟨_, _, rfl, rfl, ⟨_, _, rfl, rfl, ⟨_, _, rfl, rfl, ⟨_, _, rfl, rfl, ⟨_, _, rfl, rfl, rfl⟩⟩⟩⟩⟩ := hr438
      refine D_st (Base.Le.refl _) 6 rfl (by kernel_rfl) (by kernel_rfl) (by kernel_rfl) rfl (st_index_old j434 rfl rfl hj435 hlt441 hA440 sl22) (.cons_cons _ (.cons_cons _ (.refl _))) ?_
      refine D_st (Base.Le.refl _) 7 rfl (by kernel_rfl) (by kernel_rfl) (by kernel_rfl) rfl (st_field_old rfl hA440 fld36_1) (.cons_cons _ (.cons_cons _ (.refl _))) ?_
      refine D_st (Base.Le.refl _) 8 rfl (by kernel_rfl) (by kernel_rfl) (by kernel_rfl) rfl (st_load_old rfl one3 (hcs439 1 _ rfl)) (.cons_cons _ (.cons_cons _ (.refl _))) ?_
      refine D_st (Base.Le.refl _) 9 rfl (by kernel_rfl) (by kernel_rfl) (by kernel_rfl) rfl (st_move rfl) (.cons_cons _ (.cons_cons _ (.refl _))) ?_
      refine D_st (Base.Le.refl _) 10 rfl (by kernel_rfl) (by kernel_rfl) (by kernel_rfl) rfl (st_move rfl) (.cons_cons _ (.cons_cons _ (.refl _))) ?_
      refine D_st (Base.Le.refl _) 11 rfl (by kernel_rfl) (by kernel_rfl) (by kernel_rfl) rfl (st_move rfl) (.cons_cons _ (.cons_cons _ (.refl _))) ?_
      have h442 := (chk_some h442).2
      refine D_st (Base.Le.refl _) 12 rfl (by kernel_rfl) (by kernel_rfl) (by kernel_rfl) rfl (st_sub rfl rfl h442) (.cons_cons _ (.cons_cons _ (.refl _))) ?_
      obtain ⟨j445, hj446, hx447⟩ := idx_some h444
      obtain ⟨cs448, hr449, hcs450, hA451, hlt452⟩ := FZ.get (sz := 1) rfl (by decide) h7 hx447
      obtain rfl := hr449
      refine D_st (Base.Le.refl _) 13 rfl (by kernel_rfl) (by kernel_rfl) (by kernel_rfl) rfl (st_index_old j445 rfl rfl hj446 hlt452 hA451 sl45) (.cons_cons _ (.cons_cons _ (.refl _))) ?_
      refine D_st (Base.Le.refl _) 14 rfl (by kernel_rfl) (by kernel_rfl) (by kernel_rfl) rfl (st_load_old rfl one3 (hcs450 0 _ rfl)) (.cons_cons _ (.cons_cons _ (.refl _))) ?_
      obtain ⟨j455, hj456, hx457⟩ := idx_some h454
      obtain ⟨cs458, hr459, hcs460, hA461, hlt462⟩ := FZ.get (sz := 6) rfl (by decide) h3 hx457
      obtain ⟨_, _, rfl, rfl, ⟨_, _, rfl, rfl, ⟨_, _, rfl, rfl, ⟨_, _, rfl, rfl, ⟨_, _, rfl, rfl, rfl⟩⟩⟩⟩⟩ := hr459
      refine D_st (Base.Le.refl _) 15 rfl (by kernel_rfl) (by kernel_rfl) (by kernel_rfl) rfl (st_index_old j455 rfl rfl hj456 hlt462 hA461 sl22) (.cons_cons _ (.cons_cons _ (.refl _))) ?_
      refine D_st (Base.Le.refl _) 16 rfl (by kernel_rfl) (by kernel_rfl) (by kernel_rfl) rfl (st_field_old rfl hA461 fld36_3) (.cons_cons _ (.cons_cons _ (.refl _))) ?_
      refine D_st (Base.Le.refl _) 17 rfl (by kernel_rfl) (by kernel_rfl) (by kernel_rfl) rfl (st_load_old rfl one3 (hcs460 3 _ rfl)) (.cons_cons _ (.cons_cons _ (.refl _))) ?_
      refine D_st (Base.Le.refl _) 18 rfl (by kernel_rfl) (by kernel_rfl) (by kernel_rfl) rfl (st_assign rfl) (.cons_cons _ (.cons_cons _ (.refl _))) ?_
      refine D_st (Base.Le.refl _) 19 rfl (by kernel_rfl) (by kernel_rfl) (by kernel_rfl) rfl (st_assign rfl) (.cons_cons _ (.cons_cons _ (.refl _))) ?_
      refine D_done (by kernel_rfl) ?_
      obtain ⟨rfl, rfl⟩ := some2 hm
      exact x_join (e' := [(0, .slice A1 (l4).length c2), (1, .slice A5 (l8).length c6), (4, .int .i64 (x11)), (8, .pointer (some ⟨g287, 0, none⟩)), (11, .int .i64 (x432.To)), (12, .int .i64 (x453.Arr))]) (hp' := (g287, Cl 40 [.int .i64 (s10.Place), .int .i64 (s10.Long), .int .i64 (s10.Limit)]) :: R) ⟨rfl, rfl, rfl, rfl, rfl, rfl, trivial⟩ (.cons_cons _ (.cons _ (.refl _))) ⟨rfl, rfl, (Base.Le.refl _)⟩
    ·
      rw [if_neg (of_decide_eq_false hc378)] at hm
      refine c_skip ?_
      obtain ⟨rfl, rfl⟩ := some2 hm
      exact x_join (e' := [(0, .slice A1 (l4).length c2), (1, .slice A5 (l8).length c6), (4, .int .i64 (x11)), (8, .pointer (some ⟨g287, 0, none⟩)), (11, .int .i64 (s9.Home)), (12, .int .i64 (0))]) (hp' := (g287, Cl 40 [.int .i64 (s10.Place), .int .i64 (s10.Long), .int .i64 (s10.Limit)]) :: R) ⟨rfl, rfl, rfl, rfl, rfl, rfl, trivial⟩ (.cons_cons _ (.cons _ (.refl _))) ⟨rfl, rfl, (Base.Le.refl _)⟩
  ·
    rintro b373 _ _ ⟨rfl, rfl, hle374⟩
    have hm := (unc2E hk377)
    obtain ⟨x511, hj512, hk512⟩ := bindS hm
    refine c_join (fun b509 e' hp' => [(10, .bool (x511))] = e' ∧ R = hp' ∧ b373.Le b509) ?_ ?_
    ·
      have hm := hj512
      by_cases hc536 : x375 = s10.Place
      ·
        rw [if_pos hc536] at hm
        by_cases hc537 : x11 = (l8.length : Int)
        ·
          rw [if_pos hc537] at hm
          refine D_drawS ((g287, Cl 40 [.int .i64 (s10.Place), .int .i64 (s10.Long), .int .i64 (s10.Limit)]) :: R) mixed ?_
          refine D_st (Base.Le.refl _) 0 rfl (by kernel_rfl) (by kernel_rfl) (by kernel_rfl) rfl (st_move rfl) (.cons_cons _ (.refl _)) ?_
          refine D_st (Base.Le.refl _) 1 rfl (by kernel_rfl) (by kernel_rfl) (by kernel_rfl) rfl (st_field rfl fld40_0) (.cons_cons _ (.refl _)) ?_
          refine D_st (Base.Le.refl _) 2 rfl (by kernel_rfl) (by kernel_rfl) (by kernel_rfl) rfl (st_load 0 rfl one3 rfl rfl) (.cons_cons _ (.refl _)) ?_
          refine D_st (Base.Le.refl _) 3 rfl (by kernel_rfl) (by kernel_rfl) (by kernel_rfl) rfl (st_eql_t rfl rfl hc536) (.cons_cons _ (.refl _)) ?_
          refine D_st (Base.Le.refl _) 4 rfl (by kernel_rfl) (by kernel_rfl) (by kernel_rfl) rfl (st_move rfl) (.cons_cons _ (.refl _)) ?_
          refine D_yes (Base.Le.refl _) 5 39 rfl (by kernel_rfl) (by kernel_rfl) (by kernel_rfl) rfl rfl rfl rfl (st_move rfl) (.cons_cons _ (.refl _)) ?_
          refine D_yes (Base.Le.refl _) 6 39 rfl (by kernel_rfl) (by kernel_rfl) (by kernel_rfl) rfl rfl rfl rfl (st_move rfl) (.cons_cons _ (.refl _)) ?_
          refine D_yes (Base.Le.refl _) 7 39 rfl (by kernel_rfl) (by kernel_rfl) (by kernel_rfl) rfl rfl rfl rfl (st_len rfl sl45) (.cons_cons _ (.refl _)) ?_
          refine D_yes (Base.Le.refl _) 8 39 rfl (by kernel_rfl) (by kernel_rfl) (by kernel_rfl) rfl rfl rfl rfl (st_eql_t rfl rfl hc537) (.cons_cons _ (.refl _)) ?_
          refine D_yes (Base.Le.refl _) 9 39 rfl (by kernel_rfl) (by kernel_rfl) (by kernel_rfl) rfl rfl rfl rfl (st_move rfl) (.cons_cons _ (.refl _)) ?_
          refine D_no (Base.Le.refl _) 10 44 rfl (by kernel_rfl) (by kernel_rfl) (by kernel_rfl) rfl rfl rfl rfl rfl (.cons_cons _ (.refl _)) ?_
          refine D_no (Base.Le.refl _) 11 44 rfl (by kernel_rfl) (by kernel_rfl) (by kernel_rfl) rfl rfl rfl rfl rfl (.cons_cons _ (.refl _)) ?_
          refine D_no (Base.Le.refl _) 12 44 rfl (by kernel_rfl) (by kernel_rfl) (by kernel_rfl) rfl rfl rfl rfl rfl (.cons_cons _ (.refl _)) ?_
          refine D_no (Base.Le.refl _) 13 44 rfl (by kernel_rfl) (by kernel_rfl) (by kernel_rfl) rfl rfl rfl rfl rfl (.cons_cons _ (.refl _)) ?_
          refine D_no (Base.Le.refl _) 14 44 rfl (by kernel_rfl) (by kernel_rfl) (by kernel_rfl) rfl rfl rfl rfl rfl (.cons_cons _ (.refl _)) ?_
          refine D_no (Base.Le.refl _) 15 44 rfl (by kernel_rfl) (by kernel_rfl) (by kernel_rfl) rfl rfl rfl rfl rfl (.cons_cons _ (.refl _)) ?_
          refine D_no (Base.Le.refl _) 16 44 rfl (by kernel_rfl) (by kernel_rfl) (by kernel_rfl) rfl rfl rfl rfl rfl (.cons_cons _ (.refl _)) ?_
          refine D_no (Base.Le.refl _) 17 44 rfl (by kernel_rfl) (by kernel_rfl) (by kernel_rfl) rfl rfl rfl rfl rfl (.cons_cons _ (.refl _)) ?_
          refine D_no (Base.Le.refl _) 18 44 rfl (by kernel_rfl) (by kernel_rfl) (by kernel_rfl) rfl rfl rfl rfl rfl (.cons_cons _ (.refl _)) ?_
          refine D_no (Base.Le.refl _) 19 44 rfl (by kernel_rfl) (by kernel_rfl) (by kernel_rfl) rfl rfl rfl rfl rfl (.cons_cons _ (.refl _)) ?_
          refine D_no (Base.Le.refl _) 20 44 rfl (by kernel_rfl) (by kernel_rfl) (by kernel_rfl) rfl rfl rfl rfl rfl (.cons_cons _ (.refl _)) ?_
          refine D_no (Base.Le.refl _) 21 44 rfl (by kernel_rfl) (by kernel_rfl) (by kernel_rfl) rfl rfl rfl rfl rfl (.cons_cons _ (.refl _)) ?_
          refine D_no (Base.Le.refl _) 22 44 rfl (by kernel_rfl) (by kernel_rfl) (by kernel_rfl) rfl rfl rfl rfl rfl (.cons_cons _ (.refl _)) ?_
          refine D_yes (Base.Le.refl _) 23 39 rfl (by kernel_rfl) (by kernel_rfl) (by kernel_rfl) rfl rfl rfl rfl (st_pick_t rfl rfl) (.cons_cons _ (.refl _)) ?_
          refine D_st (Base.Le.refl _) 24 rfl (by kernel_rfl) (by kernel_rfl) (by kernel_rfl) rfl (st_pick_t rfl rfl) (.cons_cons _ (.refl _)) ?_
          refine D_st (Base.Le.refl _) 25 rfl (by kernel_rfl) (by kernel_rfl) (by kernel_rfl) rfl (st_assign rfl) (.cons_cons _ (.refl _)) ?_
          refine D_done (by kernel_rfl) ?_
          obtain rfl := some1 hm
          exact x_join (e' := [(10, .bool (true))]) (hp' := R) ⟨rfl, trivial⟩ (.cons _ (.refl _)) ⟨rfl, rfl, (Base.Le.refl _)⟩
        ·
          rw [if_neg hc537] at hm
          obtain ⟨x538, h539, hm⟩ := bindS hm
          obtain ⟨x548, h549, hm⟩ := bindS hm
          obtain ⟨_, h558, hm⟩ := bindS hm
          refine D_drawS ((g287, Cl 40 [.int .i64 (s10.Place), .int .i64 (s10.Long), .int .i64 (s10.Limit)]) :: R) mixed ?_
          refine D_st (Base.Le.refl _) 0 rfl (by kernel_rfl) (by kernel_rfl) (by kernel_rfl) rfl (st_move rfl) (.cons_cons _ (.refl _)) ?_
          refine D_st (Base.Le.refl _) 1 rfl (by kernel_rfl) (by kernel_rfl) (by kernel_rfl) rfl (st_field rfl fld40_0) (.cons_cons _ (.refl _)) ?_
          refine D_st (Base.Le.refl _) 2 rfl (by kernel_rfl) (by kernel_rfl) (by kernel_rfl) rfl (st_load 0 rfl one3 rfl rfl) (.cons_cons _ (.refl _)) ?_
          refine D_st (Base.Le.refl _) 3 rfl (by kernel_rfl) (by kernel_rfl) (by kernel_rfl) rfl (st_eql_t rfl rfl hc536) (.cons_cons _ (.refl _)) ?_
          refine D_st (Base.Le.refl _) 4 rfl (by kernel_rfl) (by kernel_rfl) (by kernel_rfl) rfl (st_move rfl) (.cons_cons _ (.refl _)) ?_
          refine D_yes (Base.Le.refl _) 5 39 rfl (by kernel_rfl) (by kernel_rfl) (by kernel_rfl) rfl rfl rfl rfl (st_move rfl) (.cons_cons _ (.refl _)) ?_
          refine D_yes (Base.Le.refl _) 6 39 rfl (by kernel_rfl) (by kernel_rfl) (by kernel_rfl) rfl rfl rfl rfl (st_move rfl) (.cons_cons _ (.refl _)) ?_
          refine D_yes (Base.Le.refl _) 7 39 rfl (by kernel_rfl) (by kernel_rfl) (by kernel_rfl) rfl rfl rfl rfl (st_len rfl sl45) (.cons_cons _ (.refl _)) ?_
          refine D_yes (Base.Le.refl _) 8 39 rfl (by kernel_rfl) (by kernel_rfl) (by kernel_rfl) rfl rfl rfl rfl (st_eql_f rfl rfl hc537) (.cons_cons _ (.refl _)) ?_
          refine D_yes (Base.Le.refl _) 9 39 rfl (by kernel_rfl) (by kernel_rfl) (by kernel_rfl) rfl rfl rfl rfl (st_move rfl) (.cons_cons _ (.refl _)) ?_
          refine D_yes (Base.Le.refl _) 10 44 rfl (by kernel_rfl) (by kernel_rfl) (by kernel_rfl) rfl rfl rfl rfl (st_move rfl) (.cons_cons _ (.refl _)) ?_
          refine D_yes (Base.Le.refl _) 11 44 rfl (by kernel_rfl) (by kernel_rfl) (by kernel_rfl) rfl rfl rfl rfl (st_move rfl) (.cons_cons _ (.refl _)) ?_
          refine D_yes (Base.Le.refl _) 12 44 rfl (by kernel_rfl) (by kernel_rfl) (by kernel_rfl) rfl rfl rfl rfl (st_move rfl) (.cons_cons _ (.refl _)) ?_
          obtain ⟨j540, hj541, hx542⟩ := idx_some h539
          obtain ⟨cs543, hr544, hcs545, hA546, hlt547⟩ := FZ.get (sz := 1) rfl (by decide) (h7.le hle374) hx542
          obtain rfl := hr544
          refine D_yes (Base.Le.refl _) 13 44 rfl (by kernel_rfl) (by kernel_rfl) (by kernel_rfl) rfl rfl rfl rfl (st_index_old j540 rfl rfl hj541 hlt547 hA546 sl45) (.cons_cons _ (.refl _)) ?_
          refine D_yes (Base.Le.refl _) 14 44 rfl (by kernel_rfl) (by kernel_rfl) (by kernel_rfl) rfl rfl rfl rfl (st_load_old rfl one3 (hcs545 0 _ rfl)) (.cons_cons _ (.refl _)) ?_
          obtain ⟨j550, hj551, hx552⟩ := idx_some h549
          obtain ⟨cs553, hr554, hcs555, hA556, hlt557⟩ := FZ.get (sz := 6) rfl (by decide) (h3.le hle374) hx552
          obtain ⟨_, _, rfl, rfl, ⟨_, _, rfl, rfl, ⟨_, _, rfl, rfl, ⟨_, _, rfl, rfl, ⟨_, _, rfl, rfl, rfl⟩⟩⟩⟩⟩ := hr554
          refine D_yes (Base.Le.refl _) 15 44 rfl (by kernel_rfl) (by kernel_rfl) (by kernel_rfl) rfl rfl rfl rfl (st_index_old j550 rfl rfl hj551 hlt557 hA556 sl22) (.cons_cons _ (.refl _)) ?_
          refine D_yes (Base.Le.refl _) 16 44 rfl (by kernel_rfl) (by kernel_rfl) (by kernel_rfl) rfl rfl rfl rfl (st_field_old rfl hA556 fld36_2) (.cons_cons _ (.refl _)) ?_
          refine D_yes (Base.Le.refl _) 17 44 rfl (by kernel_rfl) (by kernel_rfl) (by kernel_rfl) rfl rfl rfl rfl (st_load_old rfl one3 (hcs555 2 _ rfl)) (.cons_cons _ (.refl _)) ?_
          refine D_yes (Base.Le.refl _) 18 44 rfl (by kernel_rfl) (by kernel_rfl) (by kernel_rfl) rfl rfl rfl rfl (st_move rfl) (.cons_cons _ (.refl _)) ?_
          refine D_yes (Base.Le.refl _) 19 44 rfl (by kernel_rfl) (by kernel_rfl) (by kernel_rfl) rfl rfl rfl rfl (st_field rfl fld40_1) (.cons_cons _ (.refl _)) ?_
          refine D_yes (Base.Le.refl _) 20 44 rfl (by kernel_rfl) (by kernel_rfl) (by kernel_rfl) rfl rfl rfl rfl (st_load 0 rfl one3 rfl rfl) (.cons_cons _ (.refl _)) ?_
          have h558 := (chk_some h558).2
          refine D_yes (Base.Le.refl _) 21 44 rfl (by kernel_rfl) (by kernel_rfl) (by kernel_rfl) rfl rfl rfl rfl (st_add rfl rfl h558) (.cons_cons _ (.refl _)) ?_
          refine D_yes (Base.Le.refl _) 22 44 rfl (by kernel_rfl) (by kernel_rfl) (by kernel_rfl) rfl rfl rfl rfl (st_geq rfl rfl) (.cons_cons _ (.refl _)) ?_
          refine D_yes (Base.Le.refl _) 23 39 rfl (by kernel_rfl) (by kernel_rfl) (by kernel_rfl) rfl rfl rfl rfl (st_pick_f rfl rfl) (.cons_cons _ (.refl _)) ?_
          refine D_st (Base.Le.refl _) 24 rfl (by kernel_rfl) (by kernel_rfl) (by kernel_rfl) rfl (st_pick_t rfl rfl) (.cons_cons _ (.refl _)) ?_
          refine D_st (Base.Le.refl _) 25 rfl (by kernel_rfl) (by kernel_rfl) (by kernel_rfl) rfl (st_assign rfl) (.cons_cons _ (.refl _)) ?_
          refine D_done (by kernel_rfl) ?_
          obtain rfl := some1 hm
          exact x_join (e' := [(10, .bool (decide ((x376 + s10.Long) ≤ x548.Dep)))]) (hp' := R) ⟨rfl, trivial⟩ (.cons _ (.refl _)) ⟨rfl, rfl, (Base.Le.refl _)⟩
      ·
        rw [if_neg hc536] at hm
        refine D_drawS ((g287, Cl 40 [.int .i64 (s10.Place), .int .i64 (s10.Long), .int .i64 (s10.Limit)]) :: R) mixed ?_
        refine D_st (Base.Le.refl _) 0 rfl (by kernel_rfl) (by kernel_rfl) (by kernel_rfl) rfl (st_move rfl) (.cons_cons _ (.refl _)) ?_
        refine D_st (Base.Le.refl _) 1 rfl (by kernel_rfl) (by kernel_rfl) (by kernel_rfl) rfl (st_field rfl fld40_0) (.cons_cons _ (.refl _)) ?_
        refine D_st (Base.Le.refl _) 2 rfl (by kernel_rfl) (by kernel_rfl) (by kernel_rfl) rfl (st_load 0 rfl one3 rfl rfl) (.cons_cons _ (.refl _)) ?_
        refine D_st (Base.Le.refl _) 3 rfl (by kernel_rfl) (by kernel_rfl) (by kernel_rfl) rfl (st_eql_f rfl rfl hc536) (.cons_cons _ (.refl _)) ?_
        refine D_st (Base.Le.refl _) 4 rfl (by kernel_rfl) (by kernel_rfl) (by kernel_rfl) rfl (st_move rfl) (.cons_cons _ (.refl _)) ?_
        refine D_no (Base.Le.refl _) 5 39 rfl (by kernel_rfl) (by kernel_rfl) (by kernel_rfl) rfl rfl rfl rfl rfl (.cons_cons _ (.refl _)) ?_
        refine D_no (Base.Le.refl _) 6 39 rfl (by kernel_rfl) (by kernel_rfl) (by kernel_rfl) rfl rfl rfl rfl rfl (.cons_cons _ (.refl _)) ?_
        refine D_no (Base.Le.refl _) 7 39 rfl (by kernel_rfl) (by kernel_rfl) (by kernel_rfl) rfl rfl rfl rfl rfl (.cons_cons _ (.refl _)) ?_
        refine D_no (Base.Le.refl _) 8 39 rfl (by kernel_rfl) (by kernel_rfl) (by kernel_rfl) rfl rfl rfl rfl rfl (.cons_cons _ (.refl _)) ?_
        refine D_no (Base.Le.refl _) 9 39 rfl (by kernel_rfl) (by kernel_rfl) (by kernel_rfl) rfl rfl rfl rfl rfl (.cons_cons _ (.refl _)) ?_
        refine D_no (Base.Le.refl _) 10 44 rfl (by kernel_rfl) (by kernel_rfl) (by kernel_rfl) rfl rfl rfl rfl rfl (.cons_cons _ (.refl _)) ?_
        refine D_no (Base.Le.refl _) 11 44 rfl (by kernel_rfl) (by kernel_rfl) (by kernel_rfl) rfl rfl rfl rfl rfl (.cons_cons _ (.refl _)) ?_
        refine D_no (Base.Le.refl _) 12 44 rfl (by kernel_rfl) (by kernel_rfl) (by kernel_rfl) rfl rfl rfl rfl rfl (.cons_cons _ (.refl _)) ?_
        refine D_no (Base.Le.refl _) 13 44 rfl (by kernel_rfl) (by kernel_rfl) (by kernel_rfl) rfl rfl rfl rfl rfl (.cons_cons _ (.refl _)) ?_
        refine D_no (Base.Le.refl _) 14 44 rfl (by kernel_rfl) (by kernel_rfl) (by kernel_rfl) rfl rfl rfl rfl rfl (.cons_cons _ (.refl _)) ?_
        refine D_no (Base.Le.refl _) 15 44 rfl (by kernel_rfl) (by kernel_rfl) (by kernel_rfl) rfl rfl rfl rfl rfl (.cons_cons _ (.refl _)) ?_
        refine D_no (Base.Le.refl _) 16 44 rfl (by kernel_rfl) (by kernel_rfl) (by kernel_rfl) rfl rfl rfl rfl rfl (.cons_cons _ (.refl _)) ?_
        refine D_no (Base.Le.refl _) 17 44 rfl (by kernel_rfl) (by kernel_rfl) (by kernel_rfl) rfl rfl rfl rfl rfl (.cons_cons _ (.refl _)) ?_
        refine D_no (Base.Le.refl _) 18 44 rfl (by kernel_rfl) (by kernel_rfl) (by kernel_rfl) rfl rfl rfl rfl rfl (.cons_cons _ (.refl _)) ?_
        refine D_no (Base.Le.refl _) 19 44 rfl (by kernel_rfl) (by kernel_rfl) (by kernel_rfl) rfl rfl rfl rfl rfl (.cons_cons _ (.refl _)) ?_
        refine D_no (Base.Le.refl _) 20 44 rfl (by kernel_rfl) (by kernel_rfl) (by kernel_rfl) rfl rfl rfl rfl rfl (.cons_cons _ (.refl _)) ?_
        refine D_no (Base.Le.refl _) 21 44 rfl (by kernel_rfl) (by kernel_rfl) (by kernel_rfl) rfl rfl rfl rfl rfl (.cons_cons _ (.refl _)) ?_
        refine D_no (Base.Le.refl _) 22 44 rfl (by kernel_rfl) (by kernel_rfl) (by kernel_rfl) rfl rfl rfl rfl rfl (.cons_cons _ (.refl _)) ?_
        refine D_no (Base.Le.refl _) 23 39 rfl (by kernel_rfl) (by kernel_rfl) (by kernel_rfl) rfl rfl rfl rfl rfl (.cons_cons _ (.refl _)) ?_
        refine D_st (Base.Le.refl _) 24 rfl (by kernel_rfl) (by kernel_rfl) (by kernel_rfl) rfl (st_pick_f rfl rfl) (.cons_cons _ (.refl _)) ?_
        refine D_st (Base.Le.refl _) 25 rfl (by kernel_rfl) (by kernel_rfl) (by kernel_rfl) rfl (st_assign rfl) (.cons_cons _ (.refl _)) ?_
        refine D_done (by kernel_rfl) ?_
        obtain rfl := some1 hm
        exact x_join (e' := [(10, .bool (false))]) (hp' := R) ⟨rfl, trivial⟩ (.cons _ (.refl _)) ⟨rfl, rfl, (Base.Le.refl _)⟩
    ·
      rintro b509 _ _ ⟨rfl, rfl, hle510⟩
      have hm := hk512
      refine c_ret ?_
      obtain rfl := some1 hm
      exact retM (rs := [.tmp 10]) [.bool (x511)] (hle374.trans hle510) (by decide) rfl ⟨rfl, trivial⟩ rfl (hp' := R) (.refl _) ⟨rfl, rfl⟩

set_option maxRecDepth 20000 in
theorem cFleetPositions (b : Base) (R : Hp) (l4 : (List FleetTask)) (l8 : (List Int)) (s9 : FleetSet) (s10 : FleetShop) (A1 : Option Addr) (c2 : Nat) (A5 : Option Addr) (c6 : Nat) (h3 : FZ rFleetTask b.w A1 c2 l4) (h7 : FZ (RT.int .i64) b.w A5 c6 l8) (x502 : Bool) (l503 : (List Int)) (hm : mFleetPositions l4 l8 s9 s10 = some (x502, l503)) :
    CallsG Try.prog 49 [.slice A1 (l4).length c2, .slice A5 (l8).length c6, .agg #[.int .i64 (s9.Home), .int .i64 (s9.Km)], .agg #[.int .i64 (s10.Place), .int .i64 (s10.Long), .int .i64 (s10.Limit)]] b (R) (fun v b' hp' => ∃ (A499 : Option Addr), ∃ (c500 : Nat), ∃ (hs498 : Hp), .tuple #[.slice A499 (l503).length c500, .bool (x502)] = v ∧ (hs498 ++ R) = hp' ∧ OS 3 (OT.fr (RT.int .i64)) b'.w (.slice A499 l503.length c500) l503 hs498) := by
  refine fn_enterG 76 Try.func49 rfl Try.ntmps49 rfl ?_
  unfold mFleetPositions at hm
  refine c_seq ?_
  refine c_region ?_
  refine t_do rfl (u_box _ rfl rfl) ?_
  rintro _ _ ⟨g504, rfl, rfl⟩
  refine t_do rfl (u_box _ rfl rfl) ?_
  rintro _ _ ⟨g505, rfl, rfl⟩
  refine t_st rfl (st_assign rfl) ?_
  refine t_st rfl (st_assign rfl) ?_
  refine t_nil ?_
  refine x_then_normal ?_
  refine c_seq ?_
  refine c_region ?_
  refine t_st rfl (st_assign rfl) ?_
  refine t_nil ?_
  refine x_then_normal ?_
  refine c_seq ?_
  refine c_region ?_
  refine t_st rfl (st_field rfl fld47_1) ?_
  refine t_st rfl (st_load 1 rfl one3 rfl rfl) ?_
  refine t_st rfl (st_assign rfl) ?_
  refine t_st rfl (st_assign rfl) ?_
  refine t_st rfl (st_assign rfl) ?_
  refine t_nil ?_
  refine x_then_normal ?_
  refine c_seq ?_
  refine c_region ?_
  refine t_st rfl (st_assign rfl) ?_
  refine t_nil ?_
  refine x_then_normal ?_
  obtain ⟨t750, hj749, hk749⟩ := bindS hm
  refine c_join (fun b741 e' hp' => ∃ (l748 : (List Int)), ∃ (A745 : Option Addr), ∃ (c746 : Nat), ∃ (hs744 : Hp), [(10, .slice A745 (l748).length c746)] = e' ∧ (hs744 ++ R) = hp' ∧ b.Le b741 ∧ OS 3 (OT.fr (RT.int .i64)) b741.w (.slice A745 l748.length c746) l748 hs744 ∧ t750 = .inl l748) ?_ ?_
  ·
    have hm := hj749
    refine c_seq ?_
    refine c_region ?_
    refine t_st rfl (st_move rfl) ?_
    refine t_st rfl (st_len rfl sl45) ?_
    obtain ⟨_, h751, hm⟩ := bindS hm
    have h751 := (chk_some h751).2
    refine t_st rfl (st_add rfl rfl h751) ?_
    refine t_st rfl (st_move rfl) ?_
    refine t_nil ?_
    refine x_then_normal ?_
    refine c_block ?_
    obtain ⟨_, h753, hm⟩ := bindS hm
    have h753 := (chk_some h753).2
    refine c_pullb 1 rfl ?_
    obtain ⟨t913, hl914, hk915⟩ := bindS hm
    refine c_forM (fun k912 => unc5 fun x907 x908 x909 x910 l911 => fun b900 e' hp' => ∃ (A904 : Option Addr), ∃ (c905 : Nat), ∃ (hs903 : Hp), [(0, .slice A1 (l4).length c2), (1, .slice A5 (l8).length c6), (6, .pointer (some ⟨g504, 0, none⟩)), (7, .pointer (some ⟨g505, 0, none⟩)), (10, .slice A904 (l911).length c905), (11, .int .i64 (x907)), (12, .int .i64 (x908)), (13, .int .i64 (x909)), (14, .int .i64 (x910)), (20, .int .i64 ((l8.length : Int) + 1)), (21, .int .i64 ((k912 : Int)))] = e' ∧ (g504, Cl 47 [.int .i64 (s9.Home), .int .i64 (s9.Km)]) :: (g505, Cl 40 [.int .i64 (s10.Place), .int .i64 (s10.Long), .int .i64 (s10.Limit)]) :: (hs903 ++ R) = hp' ∧ b.Le b900 ∧ OS 3 (OT.fr (RT.int .i64)) b900.w (.slice A904 l911.length c905) l911 hs903) hl914 (e' := [(0, .slice A1 (l4).length c2), (1, .slice A5 (l8).length c6), (6, .pointer (some ⟨g504, 0, none⟩)), (7, .pointer (some ⟨g505, 0, none⟩)), (10, .slice none 0 0), (11, .int .i64 (s9.Km)), (12, .int .i64 ((-1))), (13, .int .i64 ((-1))), (14, .int .i64 (0)), (20, .int .i64 ((l8.length : Int) + 1)), (21, .int .i64 0)]) (hp' := (g504, Cl 47 [.int .i64 (s9.Home), .int .i64 (s9.Km)]) :: (g505, Cl 40 [.int .i64 (s10.Place), .int .i64 (s10.Long), .int .i64 (s10.Limit)]) :: ([] ++ R)) ⟨rfl, rfl, rfl, rfl, rfl, rfl, rfl, rfl, rfl, rfl, rfl, trivial⟩ (.cons_cons _ (.cons_cons _ (.refl _))) ⟨none, 0, [], rfl, rfl, (Base.Le.refl _), OS.nil⟩ ?_ ?_
    ·
      rintro k912 ⟨x907, x908, x909, x910, l911⟩ b900 _ _ oL752 hknL752 ⟨A904, c905, hs903, rfl, rfl, hle901, h906⟩ hstepL752 houtL752
      unfold mFleetPositions_L752 at hstepL752
      have hm := (unc5E hstepL752)
      refine c_seq ?_
      refine c_region ?_
      refine t_st rfl (st_lss_t rfl rfl (by omega)) ?_
      refine t_nil ?_
      refine x_then_normal ?_
      refine c_seq ?_
      refine c_cond_t rfl ?_
      refine c_skip ?_
      refine x_then_normal ?_
      refine c_seq ?_
      refine c_block ?_
      refine c_seq ?_
      refine c_region ?_
      refine t_st rfl (st_move rfl) ?_
      refine t_st rfl (st_assign rfl) ?_
      refine t_nil ?_
      refine x_then_normal ?_
      obtain ⟨⟨x921, x922⟩, hj923, hk923⟩ := bindS hm
      refine c_join (fun b919 e' hp' => [(0, .slice A1 (l4).length c2), (1, .slice A5 (l8).length c6), (6, .pointer (some ⟨g504, 0, none⟩)), (7, .pointer (some ⟨g505, 0, none⟩)), (10, .slice A904 (l911).length c905), (11, .int .i64 (x907)), (12, .int .i64 (x921)), (13, .int .i64 (x909)), (14, .int .i64 (x922)), (15, .int .i64 ((k912 : Int))), (20, .int .i64 ((l8.length : Int) + 1)), (21, .int .i64 ((k912 : Int)))] = e' ∧ (g504, Cl 47 [.int .i64 (s9.Home), .int .i64 (s9.Km)]) :: (g505, Cl 40 [.int .i64 (s10.Place), .int .i64 (s10.Long), .int .i64 (s10.Limit)]) :: (hs903 ++ R) = hp' ∧ b900.Le b919) ?_ ?_
      ·
        have hm := hj923
        refine c_seq ?_
        refine c_region ?_
        refine t_st rfl (st_move rfl) ?_
        refine t_st rfl (st_move rfl) ?_
        refine t_st rfl (st_loadD (vs := [_, _]) 0 2 rfl agg47 rfl rfl rfl) ?_
        refine t_st rfl (st_loadD (vs := [_, _, _]) 1 3 rfl agg40 rfl rfl rfl) ?_
        refine t_st rfl (st_move rfl) ?_
        obtain ⟨x924, hcl925, hm⟩ := bindS hm
        refine t_do rfl (u_callW0 _ call82 rfl (fun w ho => cFleetMay _ [] l4 l8 s9 s10 (k912 : Int) A1 c2 A5 c6 ((h3.le hle901).old ho) ((h7.le hle901).old ho) x924 hcl925) (fun _ _ _ h => h.2.symm)) ?_
        rintro _ _ ⟨⟨_, rfl, _⟩, rfl⟩
        refine t_nil ?_
        refine x_then_normal ?_
        refine c_cond _ rfl (fun hc926 => ?_) (fun hc926 => ?_)
        ·
          rw [if_pos hc926] at hm
          refine c_region ?_
          refine t_st rfl (st_move rfl) ?_
          refine t_st rfl (st_assign rfl) ?_
          refine t_st rfl (st_assign rfl) ?_
          refine t_nil ?_
          obtain ⟨rfl, rfl⟩ := some2 hm
          refine x_pullb 1 rfl ?_
          refine x_pullb 1 rfl ?_
          exact x_join (e' := [(0, .slice A1 (l4).length c2), (1, .slice A5 (l8).length c6), (6, .pointer (some ⟨g504, 0, none⟩)), (7, .pointer (some ⟨g505, 0, none⟩)), (10, .slice A904 (l911).length c905), (11, .int .i64 (x907)), (12, .int .i64 ((k912 : Int))), (13, .int .i64 (x909)), (14, .int .i64 (0)), (15, .int .i64 ((k912 : Int))), (20, .int .i64 ((l8.length : Int) + 1)), (21, .int .i64 ((k912 : Int)))]) (hp' := (g504, Cl 47 [.int .i64 (s9.Home), .int .i64 (s9.Km)]) :: (g505, Cl 40 [.int .i64 (s10.Place), .int .i64 (s10.Long), .int .i64 (s10.Limit)]) :: (hs903 ++ R)) ⟨rfl, rfl, rfl, rfl, rfl, rfl, rfl, rfl, rfl, rfl, rfl, rfl, trivial⟩ (.cons_cons _ (.cons_cons _ (sub_app hs903 (.refl _)))) ⟨rfl, rfl, (Base.Le.refl _)⟩
        ·
          rw [if_neg (fun hh => Bool.noConfusion (hh.symm.trans hc926))] at hm
          refine c_skip ?_
          obtain ⟨rfl, rfl⟩ := some2 hm
          refine x_pullb 1 rfl ?_
          refine x_pullb 1 rfl ?_
          exact x_join (e' := [(0, .slice A1 (l4).length c2), (1, .slice A5 (l8).length c6), (6, .pointer (some ⟨g504, 0, none⟩)), (7, .pointer (some ⟨g505, 0, none⟩)), (10, .slice A904 (l911).length c905), (11, .int .i64 (x907)), (12, .int .i64 (x908)), (13, .int .i64 (x909)), (14, .int .i64 (x910)), (15, .int .i64 ((k912 : Int))), (20, .int .i64 ((l8.length : Int) + 1)), (21, .int .i64 ((k912 : Int)))]) (hp' := (g504, Cl 47 [.int .i64 (s9.Home), .int .i64 (s9.Km)]) :: (g505, Cl 40 [.int .i64 (s10.Place), .int .i64 (s10.Long), .int .i64 (s10.Limit)]) :: (hs903 ++ R)) ⟨rfl, rfl, rfl, rfl, rfl, rfl, rfl, rfl, rfl, rfl, rfl, rfl, trivial⟩ (.cons_cons _ (.cons_cons _ (sub_app hs903 (.refl _)))) ⟨rfl, rfl, (Base.Le.refl _)⟩
      ·
        rintro b919 _ _ ⟨rfl, rfl, hle920⟩
        have hm := (unc2E hk923)
        refine c_seq ?_
        refine c_seq ?_
        refine c_region ?_
        refine t_st rfl (st_move rfl) ?_
        refine t_st rfl (st_move rfl) ?_
        refine t_st rfl (st_len rfl sl45) ?_
        refine t_st rfl (st_eql rfl rfl) ?_
        refine t_nil ?_
        refine x_then_normal ?_
        refine c_cond _ rfl (fun hc927 => ?_) (fun hc927 => ?_)
        ·
          rw [if_pos (of_decide_eq_true hc927)] at hm
          refine c_exit ?_
          refine x_then_exit ?_
          refine x_block_on rfl ?_
          refine x_then_exit ?_
          refine x_then_exit ?_
          refine x_block_out ?_
          have hq928 := houtL752 _ (Option.some.inj hm).symm
          rw [hq928] at hk915
          have hm := elimR hk915
          have hq := (Option.some.inj hm).symm
          exact x_join (e' := [(10, .slice A904 (l911).length c905)]) (hp' := (hs903 ++ R)) ⟨rfl, trivial⟩ (.cons _ (.cons _ (sub_app hs903 (.refl _)))) ⟨l911, A904, c905, hs903, rfl, rfl, (hle901.trans hle920), (h906.le hle920), hq⟩
        ·
          rw [if_neg (of_decide_eq_false hc927)] at hm
          refine c_skip ?_
          refine x_then_normal ?_
          refine c_seq ?_
          refine c_region ?_
          refine t_st rfl (st_move rfl) ?_
          refine t_st rfl (st_move rfl) ?_
          refine t_st rfl (st_move rfl) ?_
          refine t_st rfl (st_move rfl) ?_
          obtain ⟨x929, h930, hm⟩ := bindS hm
          obtain ⟨j931, hj932, hx933⟩ := idx_some h930
          obtain ⟨cs934, hr935, hcs936, hA937, hlt938⟩ := FZ.get (sz := 1) rfl (by decide) (h7.le (hle901.trans hle920)) hx933
          obtain rfl := hr935
          refine t_st rfl (st_index_old j931 rfl rfl hj932 hlt938 hA937 sl45) ?_
          refine t_st rfl (st_load_old rfl one3 (hcs936 0 _ rfl)) ?_
          obtain ⟨x939, h940, hm⟩ := bindS hm
          obtain ⟨j941, hj942, hx943⟩ := idx_some h940
          obtain ⟨cs944, hr945, hcs946, hA947, hlt948⟩ := FZ.get (sz := 6) rfl (by decide) (h3.le (hle901.trans hle920)) hx943
          obtain ⟨_, _, rfl, rfl, ⟨_, _, rfl, rfl, ⟨_, _, rfl, rfl, ⟨_, _, rfl, rfl, ⟨_, _, rfl, rfl, rfl⟩⟩⟩⟩⟩ := hr945
          refine t_st rfl (st_index_old j941 rfl rfl hj942 hlt948 hA947 sl22) ?_
          refine t_st rfl (st_field_old rfl hA947 fld36_4) ?_
          refine t_st rfl (st_load_old rfl one3 (hcs946 4 _ rfl)) ?_
          obtain ⟨_, h949, hm⟩ := bindS hm
          have h949 := (chk_some h949).2
          refine t_st rfl (st_add rfl rfl h949) ?_
          refine t_st rfl (st_assign rfl) ?_
          refine t_nil ?_
          refine x_then_normal ?_
          refine c_seq ?_
          refine c_region ?_
          refine t_st rfl (st_move rfl) ?_
          refine t_st rfl (st_move rfl) ?_
          refine t_st rfl (st_move rfl) ?_
          refine t_st rfl (st_move rfl) ?_
          obtain ⟨x950, h951, hm⟩ := bindS hm
          obtain ⟨j952, hj953, hx954⟩ := idx_some h951
          obtain ⟨cs955, hr956, hcs957, hA958, hlt959⟩ := FZ.get (sz := 1) rfl (by decide) (h7.le (hle901.trans hle920)) hx954
          obtain rfl := hr956
          refine t_st rfl (st_index_old j952 rfl rfl hj953 hlt959 hA958 sl45) ?_
          refine t_st rfl (st_load_old rfl one3 (hcs957 0 _ rfl)) ?_
          obtain ⟨x960, h961, hm⟩ := bindS hm
          obtain ⟨j962, hj963, hx964⟩ := idx_some h961
          obtain ⟨cs965, hr966, hcs967, hA968, hlt969⟩ := FZ.get (sz := 6) rfl (by decide) (h3.le (hle901.trans hle920)) hx964
          obtain ⟨_, _, rfl, rfl, ⟨_, _, rfl, rfl, ⟨_, _, rfl, rfl, ⟨_, _, rfl, rfl, ⟨_, _, rfl, rfl, rfl⟩⟩⟩⟩⟩ := hr966
          refine t_st rfl (st_index_old j962 rfl rfl hj963 hlt969 hA968 sl22) ?_
          refine t_st rfl (st_field_old rfl hA968 fld36_4) ?_
          refine t_st rfl (st_load_old rfl one3 (hcs967 4 _ rfl)) ?_
          obtain ⟨_, h970, hm⟩ := bindS hm
          have h970 := (chk_some h970).2
          refine t_st rfl (st_add rfl rfl h970) ?_
          refine t_st rfl (st_assign rfl) ?_
          refine t_nil ?_
          refine x_then_normal ?_
          refine c_seq ?_
          refine c_seq ?_
          refine c_region ?_
          refine t_st rfl (st_move rfl) ?_
          refine t_st rfl (st_field rfl fld40_2) ?_
          refine t_st rfl (st_load 1 rfl one3 rfl rfl) ?_
          refine t_st rfl (st_leq rfl rfl) ?_
          refine t_nil ?_
          refine x_then_normal ?_
          refine c_cond _ rfl (fun hc971 => ?_) (fun hc971 => ?_)
          ·
            rw [if_pos (of_decide_eq_true hc971)] at hm
            refine c_exit ?_
            refine x_then_exit ?_
            refine x_block_out ?_
            refine x_then_normal ?_
            refine c_region ?_
            refine t_st rfl (st_add rfl rfl (by omega)) ?_
            refine t_st rfl (st_move rfl) ?_
            refine t_nil ?_
            refine x_pullb 1 rfl ?_
            refine x_pullb 1 rfl ?_
            exact x_againM (x907 + x939.Km, x921, x909, x922 + x960.Km, l911) (Option.some.inj hm).symm (e' := [(0, .slice A1 (l4).length c2), (1, .slice A5 (l8).length c6), (6, .pointer (some ⟨g504, 0, none⟩)), (7, .pointer (some ⟨g505, 0, none⟩)), (10, .slice A904 (l911).length c905), (11, .int .i64 (x907 + x939.Km)), (12, .int .i64 (x921)), (13, .int .i64 (x909)), (14, .int .i64 (x922 + x960.Km)), (20, .int .i64 ((l8.length : Int) + 1)), (21, .int .i64 ((k912 : Int) + 1))]) (hp' := (g504, Cl 47 [.int .i64 (s9.Home), .int .i64 (s9.Km)]) :: (g505, Cl 40 [.int .i64 (s10.Place), .int .i64 (s10.Long), .int .i64 (s10.Limit)]) :: (hs903 ++ R)) ⟨rfl, rfl, rfl, rfl, rfl, rfl, rfl, rfl, rfl, rfl, rfl, trivial⟩ (.cons_cons _ (.cons_cons _ (sub_app hs903 (.refl _)))) ⟨A904, c905, hs903, rfl, rfl, ((hle901.trans hle920)), (h906.le hle920)⟩
          ·
            rw [if_neg (of_decide_eq_false hc971)] at hm
            refine c_skip ?_
            refine x_then_normal ?_
            refine c_seq ?_
            obtain ⟨x975, hj976, hk976⟩ := bindS hm
            refine c_join (fun b973 e' hp' => [(0, .slice A1 (l4).length c2), (1, .slice A5 (l8).length c6), (6, .pointer (some ⟨g504, 0, none⟩)), (7, .pointer (some ⟨g505, 0, none⟩)), (10, .slice A904 (l911).length c905), (12, .int .i64 (x921)), (14, .int .i64 (x922 + x960.Km)), (20, .int .i64 ((l8.length : Int) + 1)), (21, .int .i64 ((k912 : Int))), (67, .bool (x975))] = e' ∧ (g504, Cl 47 [.int .i64 (s9.Home), .int .i64 (s9.Km)]) :: (g505, Cl 40 [.int .i64 (s10.Place), .int .i64 (s10.Long), .int .i64 (s10.Limit)]) :: (hs903 ++ R) = hp' ∧ b919.Le b973) ?_ ?_
            ·
              have hm := hj976
              refine c_region ?_
              refine t_st rfl (st_move rfl) ?_
              refine t_st rfl (st_move rfl) ?_
              refine t_bool rfl (st_leq rfl rfl) (fun hc977 => ?_) (fun hc977 => ?_)
              ·
                rw [if_pos hc977] at hm
                refine t_st rfl (st_move rfl) ?_
                refine t_no 62 rfl rfl rfl rfl rfl ?_
                refine t_no 62 rfl rfl rfl rfl rfl ?_
                refine t_no 62 rfl rfl rfl rfl rfl ?_
                refine t_no 62 rfl rfl rfl rfl rfl ?_
                refine t_st rfl (st_pick_t rfl rfl) ?_
                refine t_nil ?_
                obtain rfl := some1 hm
                refine x_pullb 1 rfl ?_
                refine x_pullb 1 rfl ?_
                exact x_join (e' := [(0, .slice A1 (l4).length c2), (1, .slice A5 (l8).length c6), (6, .pointer (some ⟨g504, 0, none⟩)), (7, .pointer (some ⟨g505, 0, none⟩)), (10, .slice A904 (l911).length c905), (12, .int .i64 (x921)), (14, .int .i64 (x922 + x960.Km)), (20, .int .i64 ((l8.length : Int) + 1)), (21, .int .i64 ((k912 : Int))), (67, .bool (true))]) (hp' := (g504, Cl 47 [.int .i64 (s9.Home), .int .i64 (s9.Km)]) :: (g505, Cl 40 [.int .i64 (s10.Place), .int .i64 (s10.Long), .int .i64 (s10.Limit)]) :: (hs903 ++ R)) ⟨rfl, rfl, rfl, rfl, rfl, rfl, rfl, rfl, rfl, rfl, trivial⟩ (.cons_cons _ (.cons_cons _ (sub_app hs903 (.refl _)))) ⟨rfl, rfl, (Base.Le.refl _)⟩
              ·
                rw [if_neg hc977] at hm
                refine t_st rfl (st_move rfl) ?_
                refine t_yes 62 rfl rfl rfl ?_
                refine t_st rfl (st_move rfl) ?_
                refine t_yes 62 rfl rfl rfl ?_
                refine t_st rfl (st_field rfl fld40_2) ?_
                refine t_yes 62 rfl rfl rfl ?_
                refine t_st rfl (st_load 1 rfl one3 rfl rfl) ?_
                refine t_yes 62 rfl rfl rfl ?_
                refine t_st rfl (st_gtr rfl rfl) ?_
                refine t_st rfl (st_pick_f rfl rfl) ?_
                refine t_nil ?_
                obtain rfl := some1 hm
                refine x_pullb 1 rfl ?_
                refine x_pullb 1 rfl ?_
                exact x_join (e' := [(0, .slice A1 (l4).length c2), (1, .slice A5 (l8).length c6), (6, .pointer (some ⟨g504, 0, none⟩)), (7, .pointer (some ⟨g505, 0, none⟩)), (10, .slice A904 (l911).length c905), (12, .int .i64 (x921)), (14, .int .i64 (x922 + x960.Km)), (20, .int .i64 ((l8.length : Int) + 1)), (21, .int .i64 ((k912 : Int))), (67, .bool (decide (s10.Limit < (x922 + x960.Km))))]) (hp' := (g504, Cl 47 [.int .i64 (s9.Home), .int .i64 (s9.Km)]) :: (g505, Cl 40 [.int .i64 (s10.Place), .int .i64 (s10.Long), .int .i64 (s10.Limit)]) :: (hs903 ++ R)) ⟨rfl, rfl, rfl, rfl, rfl, rfl, rfl, rfl, rfl, rfl, trivial⟩ (.cons_cons _ (.cons_cons _ (sub_app hs903 (.refl _)))) ⟨rfl, rfl, (Base.Le.refl _)⟩
            ·
              rintro b973 _ _ ⟨rfl, rfl, hle974⟩
              have hm := hk976
              refine c_cond _ rfl (fun hc978 => ?_) (fun hc978 => ?_)
              ·
                rw [if_pos hc978] at hm
                refine c_seq ?_
                refine c_region ?_
                refine t_st rfl (st_assign rfl) ?_
                refine t_st rfl (st_assign rfl) ?_
                refine t_nil ?_
                refine x_then_normal ?_
                refine c_ret ?_
                refine x_then_ret ?_
                refine x_block_ret ?_
                refine x_then_ret ?_
                refine x_then_ret ?_
                refine x_block_ret ?_
                refine x_then_ret ?_
                have hq979 := houtL752 _ (Option.some.inj hm).symm
                rw [hq979] at hk915
                have hm := elimR hk915
                have hq980 := (Option.some.inj hm).symm
                rw [hq980] at hk749
                have hm := elimR hk749
                obtain ⟨rfl, rfl⟩ := some2 hm
                exact retM (rs := [.tmp 8, .tmp 9]) [.slice none 0 0, .bool (false)] (hle901.trans (hle920.trans hle974)) (by decide) rfl ⟨rfl, ⟨rfl, trivial⟩⟩ rfl (hp' := ([] ++ R)) (.cons _ (.cons _ (sub_skip hs903 (.refl _)))) ⟨none, 0, [], rfl, rfl, OS.nil⟩
              ·
                rw [if_neg (fun hh => Bool.noConfusion (hh.symm.trans hc978))] at hm
                refine c_skip ?_
                refine x_then_normal ?_
                refine c_seq ?_
                refine c_region ?_
                refine t_st rfl (st_move rfl) ?_
                refine t_st rfl (st_move rfl) ?_
                refine t_do rfl (u_bslice (el := 3) [(0, .int .i64 (x921))] [.int .i64 (x921)] rfl (fun _ => by kernel_rfl)) ?_
                rintro _ _ ⟨g981, rfl, rfl⟩
                obtain ⟨_, h982, hm⟩ := bindS hm
                have h982 := room_some h982
                refine t_do rfl (u_appOS (r := (RT.int .i64)) (l := l911) [_, _, _] R [[.int .i64 (x921)]] [x921] rfl (by decide) sl45 inf3 rfl rfl rfl rfl (h906.le (hle920.trans hle974)) rfl (fun w ho => Rd.own (i := 0) ho rfl) ⟨rfl, trivial⟩ h982) ?_
                rintro _ _ ⟨hs983, rfl, h984⟩
                obtain ⟨A985, c986, rfl, _⟩ := h984.form
                refine t_st rfl (st_assign rfl) ?_
                refine t_nil ?_
                refine x_then_normal ?_
                refine c_region ?_
                refine t_st rfl (st_move rfl) ?_
                refine t_st rfl (st_move rfl) ?_
                refine t_st rfl (st_assign rfl) ?_
                refine t_st rfl (st_assign rfl) ?_
                refine t_nil ?_
                refine x_block_normal ?_
                refine x_then_normal ?_
                refine c_region ?_
                refine t_st rfl (st_add rfl rfl (by omega)) ?_
                refine t_st rfl (st_move rfl) ?_
                refine t_nil ?_
                refine x_pullb 2 rfl ?_
                refine x_pullb 2 rfl ?_
                exact x_againM (x922 + x960.Km, x921, x921, x922 + x960.Km, l911 ++ [x921]) (Option.some.inj hm).symm (e' := [(0, .slice A1 (l4).length c2), (1, .slice A5 (l8).length c6), (6, .pointer (some ⟨g504, 0, none⟩)), (7, .pointer (some ⟨g505, 0, none⟩)), (10, .slice A985 (l911 ++ [x921]).length c986), (11, .int .i64 (x922 + x960.Km)), (12, .int .i64 (x921)), (13, .int .i64 (x921)), (14, .int .i64 (x922 + x960.Km)), (20, .int .i64 ((l8.length : Int) + 1)), (21, .int .i64 ((k912 : Int) + 1))]) (hp' := (g504, Cl 47 [.int .i64 (s9.Home), .int .i64 (s9.Km)]) :: (g505, Cl 40 [.int .i64 (s10.Place), .int .i64 (s10.Long), .int .i64 (s10.Limit)]) :: (hs983 ++ R)) ⟨rfl, rfl, rfl, rfl, rfl, rfl, rfl, rfl, rfl, rfl, rfl, trivial⟩ (.cons_cons _ (.cons_cons _ (.cons _ (sub_app hs983 (.refl _))))) ⟨A985, c986, hs983, rfl, rfl, ((hle901.trans (hle920.trans hle974))), h984⟩
    ·
      rintro ⟨x907, x908, x909, x910, l911⟩ b900 _ _ ⟨A904, c905, hs903, rfl, rfl, hle901, h906⟩ hq987
      rw [hq987] at hk915
      have hm := elimL hk915
      have hm := (unc5E hm)
      refine c_seq ?_
      refine c_region ?_
      refine t_st rfl (st_lss_f rfl rfl (by omega)) ?_
      refine t_nil ?_
      refine x_then_normal ?_
      refine c_seq ?_
      refine c_cond_f rfl ?_
      refine c_exit ?_
      refine x_then_exit ?_
      refine x_then_exit ?_
      refine x_block_out ?_
      have hq := (Option.some.inj hm).symm
      exact x_join (e' := [(10, .slice A904 (l911).length c905)]) (hp' := (hs903 ++ R)) ⟨rfl, trivial⟩ (.cons _ (.cons _ (sub_app hs903 (.refl _)))) ⟨l911, A904, c905, hs903, rfl, rfl, hle901, h906, hq⟩
  ·
    rintro b741 _ _ ⟨l748, A745, c746, hs744, rfl, rfl, hle742, h747, hq988⟩
    rw [hq988] at hk749
    have hm := elimL hk749
    refine c_seq ?_
    refine c_region ?_
    refine t_st rfl (st_move rfl) ?_
    refine t_st rfl (st_assign rfl) ?_
    refine t_st rfl (st_assign rfl) ?_
    refine t_nil ?_
    refine x_then_normal ?_
    refine c_ret ?_
    obtain ⟨rfl, rfl⟩ := some2 hm
    exact retM (rs := [.tmp 8, .tmp 9]) [.slice A745 (l748).length c746, .bool (true)] hle742 (by decide) rfl ⟨rfl, ⟨rfl, trivial⟩⟩ rfl (hp' := (hs744 ++ R)) (sub_app hs744 (.refl _)) ⟨A745, c746, hs744, rfl, rfl, h747⟩

set_option maxRecDepth 20000 in
theorem cFleetInspect (b : Base) (R : Hp) (l4 : (List FleetTask)) (l8 : (List (List Int))) (l12 : (List FleetSet)) (s13 : FleetShop) (A1 : Option Addr) (c2 : Nat) (A5 : Option Addr) (c6 : Nat) (A9 : Option Addr) (c10 : Nat) (h3 : FZ rFleetTask b.w A1 c2 l4) (h7 : FZ (RT.list (RT.int .i64)) b.w A5 c6 l8) (h11 : FZ rFleetSet b.w A9 c10 l12) (x1809 : Int) (l1810 : (List (List Int))) (hm : mFleetInspect l4 l8 l12 s13 = some (x1809, l1810)) :
    CallsG Try.prog 18 [.slice A1 (l4).length c2, .slice A5 (l8).length c6, .slice A9 (l12).length c10, .agg #[.int .i64 (s13.Place), .int .i64 (s13.Long), .int .i64 (s13.Limit)]] b (R) (fun v b' hp' => ∃ (A1806 : Option Addr), ∃ (c1807 : Nat), ∃ (hs1805 : Hp), .tuple #[.slice A1806 (l1810).length c1807, .int .i64 (x1809)] = v ∧ (hs1805 ++ R) = hp' ∧ OS 45 (OT.fr (RT.list (RT.int .i64))) b'.w (.slice A1806 l1810.length c1807) l1810 hs1805) := by
  refine fn_enterG 120 Try.func18 rfl Try.ntmps18 rfl ?_
  unfold mFleetInspect at hm
  refine c_seq ?_
  refine c_region ?_
  refine t_do rfl (u_box _ rfl rfl) ?_
  rintro _ _ ⟨g1811, rfl, rfl⟩
  refine t_st rfl (st_assign rfl) ?_
  refine t_st rfl (st_assign rfl) ?_
  refine t_nil ?_
  refine x_then_normal ?_
  refine c_seq ?_
  refine c_seq ?_
  refine c_region ?_
  refine t_st rfl (st_move rfl) ?_
  obtain ⟨x1812, hcl1813, hm⟩ := bindS hm
  refine t_do rfl (u_callW0 _ call47 rfl (fun w ho => cFleetCheckTasks _ [] l4 A1 c2 (h3.old ho) x1812 hcl1813) (fun _ _ _ h => h.2.symm)) ?_
  rintro _ _ ⟨⟨_, rfl, _⟩, rfl⟩
  refine t_st rfl (st_assign rfl) ?_
  refine t_nil ?_
  refine x_then_normal ?_
  refine c_seq ?_
  refine c_region ?_
  refine t_st rfl (st_move rfl) ?_
  refine t_st rfl (st_neq rfl rfl) ?_
  refine t_nil ?_
  refine x_then_normal ?_
  refine c_cond _ rfl (fun hc1814 => ?_) (fun hc1814 => ?_)
  ·
    rw [if_pos (of_decide_eq_true hc1814)] at hm
    refine c_seq ?_
    refine c_region ?_
    refine t_st rfl (st_move rfl) ?_
    refine t_st rfl (st_assign rfl) ?_
    refine t_st rfl (st_assign rfl) ?_
    refine t_nil ?_
    refine x_then_normal ?_
    refine c_ret ?_
    refine x_then_ret ?_
    obtain ⟨rfl, rfl⟩ := some2 hm
    exact retM (rs := [.tmp 8, .tmp 9]) [.slice none 0 0, .int .i64 (x1812)] (Base.Le.refl _) (by decide) rfl ⟨rfl, ⟨rfl, trivial⟩⟩ rfl (hp' := ([] ++ R)) (.cons _ (.refl _)) ⟨none, 0, [], rfl, rfl, OS.nil⟩
  ·
    rw [if_neg (of_decide_eq_false hc1814)] at hm
    refine c_skip ?_
    refine x_then_normal ?_
    refine c_seq ?_
    refine c_seq ?_
    refine c_region ?_
    refine t_st rfl (st_move rfl) ?_
    refine t_st rfl (st_loadD (vs := [_, _, _]) 0 3 rfl agg40 rfl rfl rfl) ?_
    obtain ⟨x1815, hcl1816, hm⟩ := bindS hm
    refine t_do rfl (u_callW0 _ call48 rfl (fun w ho => cFleetCheckSets _ [] l12 s13 40 A9 c10 (h11.old ho) x1815 hcl1816) (fun _ _ _ h => h.2.symm)) ?_
    rintro _ _ ⟨⟨_, rfl, _⟩, rfl⟩
    refine t_st rfl (st_assign rfl) ?_
    refine t_nil ?_
    refine x_then_normal ?_
    refine c_seq ?_
    refine c_region ?_
    refine t_st rfl (st_move rfl) ?_
    refine t_st rfl (st_neq rfl rfl) ?_
    refine t_nil ?_
    refine x_then_normal ?_
    refine c_cond _ rfl (fun hc1817 => ?_) (fun hc1817 => ?_)
    ·
      rw [if_pos (of_decide_eq_true hc1817)] at hm
      refine c_seq ?_
      refine c_region ?_
      refine t_st rfl (st_move rfl) ?_
      refine t_st rfl (st_assign rfl) ?_
      refine t_st rfl (st_assign rfl) ?_
      refine t_nil ?_
      refine x_then_normal ?_
      refine c_ret ?_
      refine x_then_ret ?_
      obtain ⟨rfl, rfl⟩ := some2 hm
      exact retM (rs := [.tmp 8, .tmp 9]) [.slice none 0 0, .int .i64 (x1815)] (Base.Le.refl _) (by decide) rfl ⟨rfl, ⟨rfl, trivial⟩⟩ rfl (hp' := ([] ++ R)) (.cons _ (.refl _)) ⟨none, 0, [], rfl, rfl, OS.nil⟩
    ·
      rw [if_neg (of_decide_eq_false hc1817)] at hm
      refine c_skip ?_
      refine x_then_normal ?_
      refine c_seq ?_
      refine c_seq ?_
      refine c_region ?_
      refine t_st rfl (st_move rfl) ?_
      refine t_st rfl (st_len rfl sl26) ?_
      refine t_st rfl (st_move rfl) ?_
      refine t_st rfl (st_len rfl sl38) ?_
      refine t_st rfl (st_neq rfl rfl) ?_
      refine t_nil ?_
      refine x_then_normal ?_
      refine c_cond _ rfl (fun hc1818 => ?_) (fun hc1818 => ?_)
      ·
        rw [if_pos (of_decide_eq_true hc1818)] at hm
        refine c_seq ?_
        refine c_region ?_
        refine t_st rfl (st_assign rfl) ?_
        refine t_st rfl (st_assign rfl) ?_
        refine t_nil ?_
        refine x_then_normal ?_
        refine c_ret ?_
        refine x_then_ret ?_
        obtain ⟨rfl, rfl⟩ := some2 hm
        exact retM (rs := [.tmp 8, .tmp 9]) [.slice none 0 0, .int .i64 (1)] (Base.Le.refl _) (by decide) rfl ⟨rfl, ⟨rfl, trivial⟩⟩ rfl (hp' := ([] ++ R)) (.cons _ (.refl _)) ⟨none, 0, [], rfl, rfl, OS.nil⟩
      ·
        rw [if_neg (of_decide_eq_false hc1818)] at hm
        refine c_skip ?_
        refine x_then_normal ?_
        refine c_seq ?_
        refine c_seq ?_
        refine c_region ?_
        refine t_st rfl (st_move rfl) ?_
        refine t_st rfl (st_len rfl sl26) ?_
        refine t_st rfl (st_move rfl) ?_
        refine t_nil ?_
        refine x_then_normal ?_
        refine c_block ?_
        have hb1820 := (FZ.bd h7)
        obtain ⟨t2604, hl2605, hk2606⟩ := bindS hm
        refine c_forM (fun k2603 => fun _ => fun b2601 e' hp' => [(0, .slice A1 (l4).length c2), (1, .slice A5 (l8).length c6), (2, .slice A9 (l12).length c10), (7, .pointer (some ⟨g1811, 0, none⟩)), (37, .slice A5 (l8).length c6), (38, .int .i64 ((l8.length : Int))), (39, .int .i64 ((k2603 : Int)))] = e' ∧ (g1811, Cl 40 [.int .i64 (s13.Place), .int .i64 (s13.Long), .int .i64 (s13.Limit)]) :: R = hp' ∧ b.Le b2601) hl2605 (e' := [(0, .slice A1 (l4).length c2), (1, .slice A5 (l8).length c6), (2, .slice A9 (l12).length c10), (7, .pointer (some ⟨g1811, 0, none⟩)), (37, .slice A5 (l8).length c6), (38, .int .i64 ((l8.length : Int))), (39, .int .i64 0)]) (hp' := (g1811, Cl 40 [.int .i64 (s13.Place), .int .i64 (s13.Long), .int .i64 (s13.Limit)]) :: R) ⟨rfl, rfl, rfl, rfl, rfl, rfl, rfl, trivial⟩ (.cons_cons _ (.refl _)) ⟨rfl, rfl, (Base.Le.refl _)⟩ ?_ ?_
        ·
          rintro k2603 _ b2601 _ _ oL1819 hknL1819 ⟨rfl, rfl, hle2602⟩ hstepL1819 houtL1819
          unfold mFleetInspect_L1819 at hstepL1819
          have hm := hstepL1819
          refine c_seq ?_
          refine c_region ?_
          refine t_st rfl (st_lss_t rfl rfl (by omega)) ?_
          refine t_nil ?_
          refine x_then_normal ?_
          refine c_seq ?_
          refine c_cond_t rfl ?_
          refine c_skip ?_
          refine x_then_normal ?_
          refine c_seq ?_
          refine c_block ?_
          refine c_seq ?_
          refine c_region ?_
          refine t_st rfl (st_move rfl) ?_
          obtain ⟨x2607, h2608, hm⟩ := bindS hm
          obtain ⟨j2609, hj2610, hx2611⟩ := idx_some h2608
          obtain ⟨cs2612, hr2613, hcs2614, hA2615, hlt2616⟩ := FZ.get (sz := 1) rfl (by decide) (h7.le hle2602) hx2611
          obtain ⟨A2617, c2618, rfl, h2619⟩ := hr2613
          refine t_st rfl (st_index_old j2609 rfl rfl hj2610 hlt2616 hA2615 sl26) ?_
          refine t_st rfl (st_load_old rfl one45 (hcs2614 0 _ rfl)) ?_
          refine t_st rfl (st_assign rfl) ?_
          refine t_st rfl (st_assign rfl) ?_
          refine t_nil ?_
          refine x_then_normal ?_
          refine c_seq ?_
          refine c_region ?_
          refine t_st rfl (st_move rfl) ?_
          refine t_st rfl (st_len rfl sl45) ?_
          refine t_st rfl (st_move rfl) ?_
          refine t_nil ?_
          refine x_then_normal ?_
          refine c_block ?_
          have hb2621 := (FZ.bd h2619)
          obtain ⟨t3004, hl3005, hk3006⟩ := bindS hm
          refine c_forM (fun k3003 => fun _ => fun b3001 e' hp' => [(0, .slice A1 (l4).length c2), (1, .slice A5 (l8).length c6), (2, .slice A9 (l12).length c10), (7, .pointer (some ⟨g1811, 0, none⟩)), (12, .int .i64 ((k2603 : Int))), (13, .slice A2617 (x2607).length c2618), (37, .slice A5 (l8).length c6), (38, .int .i64 ((l8.length : Int))), (39, .int .i64 ((k2603 : Int))), (44, .slice A2617 (x2607).length c2618), (45, .int .i64 ((x2607.length : Int))), (46, .int .i64 ((k3003 : Int)))] = e' ∧ (g1811, Cl 40 [.int .i64 (s13.Place), .int .i64 (s13.Long), .int .i64 (s13.Limit)]) :: R = hp' ∧ b2601.Le b3001) hl3005 (e' := [(0, .slice A1 (l4).length c2), (1, .slice A5 (l8).length c6), (2, .slice A9 (l12).length c10), (7, .pointer (some ⟨g1811, 0, none⟩)), (12, .int .i64 ((k2603 : Int))), (13, .slice A2617 (x2607).length c2618), (37, .slice A5 (l8).length c6), (38, .int .i64 ((l8.length : Int))), (39, .int .i64 ((k2603 : Int))), (44, .slice A2617 (x2607).length c2618), (45, .int .i64 ((x2607.length : Int))), (46, .int .i64 0)]) (hp' := (g1811, Cl 40 [.int .i64 (s13.Place), .int .i64 (s13.Long), .int .i64 (s13.Limit)]) :: R) ⟨rfl, rfl, rfl, rfl, rfl, rfl, rfl, rfl, rfl, rfl, rfl, rfl, trivial⟩ (.cons_cons _ (.refl _)) ⟨rfl, rfl, (Base.Le.refl _)⟩ ?_ ?_
          ·
            rintro k3003 _ b3001 _ _ oL2620 hknL2620 ⟨rfl, rfl, hle3002⟩ hstepL2620 houtL2620
            unfold mFleetInspect_L2620 at hstepL2620
            have hm := hstepL2620
            refine c_seq ?_
            refine c_region ?_
            refine t_st rfl (st_lss_t rfl rfl (by omega)) ?_
            refine t_nil ?_
            refine x_then_normal ?_
            refine c_seq ?_
            refine c_cond_t rfl ?_
            refine c_skip ?_
            refine x_then_normal ?_
            refine c_seq ?_
            refine c_block ?_
            refine c_seq ?_
            refine c_region ?_
            refine t_st rfl (st_move rfl) ?_
            obtain ⟨x3007, h3008, hm⟩ := bindS hm
            obtain ⟨j3009, hj3010, hx3011⟩ := idx_some h3008
            obtain ⟨cs3012, hr3013, hcs3014, hA3015, hlt3016⟩ := FZ.get (sz := 1) rfl (by decide) (h2619.le hle3002) hx3011
            obtain rfl := hr3013
            refine t_st rfl (st_index_old j3009 rfl rfl hj3010 hlt3016 hA3015 sl45) ?_
            refine t_st rfl (st_load_old rfl one3 (hcs3014 0 _ rfl)) ?_
            refine t_st rfl (st_assign rfl) ?_
            refine t_st rfl (st_assign rfl) ?_
            refine t_nil ?_
            refine x_then_normal ?_
            refine c_seq ?_
            refine c_seq ?_
            refine c_region ?_
            refine t_st rfl (st_move rfl) ?_
            refine t_st rfl (st_move rfl) ?_
            refine t_st rfl (st_len rfl sl22) ?_
            obtain ⟨_, h3017, hm⟩ := bindS hm
            have h3017 := (chk_some h3017).2
            refine t_st rfl (st_sub rfl rfl h3017) ?_
            obtain ⟨x3018, hcl3019, hm⟩ := bindS hm
            refine t_do rfl (u_callW0 _ call46 rfl (fun w ho => cFleetWithin _ [] x3007 0 ((l4.length : Int) - 1) x3018 hcl3019) (fun _ _ _ h => h.2.symm)) ?_
            rintro _ _ ⟨⟨_, rfl, _⟩, rfl⟩
            refine t_st rfl (st_not rfl) ?_
            refine t_nil ?_
            refine x_then_normal ?_
            refine c_cond _ rfl (fun hc3020 => ?_) (fun hc3020 => ?_)
            ·
              rw [if_neg (fun hh => Bool.noConfusion (hh.symm.trans (notT hc3020)))] at hm
              refine c_seq ?_
              refine c_region ?_
              refine t_st rfl (st_assign rfl) ?_
              refine t_st rfl (st_assign rfl) ?_
              refine t_nil ?_
              refine x_then_normal ?_
              refine c_ret ?_
              refine x_then_ret ?_
              refine x_block_ret ?_
              refine x_then_ret ?_
              refine x_then_ret ?_
              refine x_block_ret ?_
              refine x_block_ret ?_
              refine x_then_ret ?_
              refine x_then_ret ?_
              refine x_block_ret ?_
              refine x_then_ret ?_
              have hq3021 := houtL2620 _ (Option.some.inj hm).symm
              rw [hq3021] at hk3006
              have hm := elimR hk3006
              have hq3022 := houtL1819 _ (Option.some.inj hm).symm
              rw [hq3022] at hk2606
              have hm := elimR hk2606
              obtain ⟨rfl, rfl⟩ := some2 hm
              exact retM (rs := [.tmp 8, .tmp 9]) [.slice none 0 0, .int .i64 (2)] (hle2602.trans hle3002) (by decide) rfl ⟨rfl, ⟨rfl, trivial⟩⟩ rfl (hp' := ([] ++ R)) (.cons _ (.refl _)) ⟨none, 0, [], rfl, rfl, OS.nil⟩
            ·
              rw [if_pos (notF hc3020)] at hm
              refine c_skip ?_
              refine x_then_normal ?_
              obtain ⟨x3205, hj3206, hk3206⟩ := bindS hm
              refine c_join (fun b3203 e' hp' => [(0, .slice A1 (l4).length c2), (1, .slice A5 (l8).length c6), (2, .slice A9 (l12).length c10), (7, .pointer (some ⟨g1811, 0, none⟩)), (12, .int .i64 ((k2603 : Int))), (13, .slice A2617 (x2607).length c2618), (37, .slice A5 (l8).length c6), (38, .int .i64 ((l8.length : Int))), (39, .int .i64 ((k2603 : Int))), (44, .slice A2617 (x2607).length c2618), (45, .int .i64 ((x2607.length : Int))), (46, .int .i64 ((k3003 : Int))), (91, .bool (x3205))] = e' ∧ (g1811, Cl 40 [.int .i64 (s13.Place), .int .i64 (s13.Long), .int .i64 (s13.Limit)]) :: R = hp' ∧ b3001.Le b3203) ?_ ?_
              ·
                have hm := hj3206
                by_cases hc3297 : (k3003 : Int) = 0
                ·
                  rw [if_pos hc3297] at hm
                  obtain ⟨x3298, h3299, hm⟩ := bindS hm
                  obtain ⟨x3308, h3309, hm⟩ := bindS hm
                  by_cases hc3318 : x3298.From ≠ x3308.Home
                  ·
                    rw [if_pos hc3318] at hm
                    refine D_drawS ((g1811, Cl 40 [.int .i64 (s13.Place), .int .i64 (s13.Long), .int .i64 (s13.Limit)]) :: R) mixed ?_
                    refine D_st (Base.Le.refl _) 0 rfl (by kernel_rfl) (by kernel_rfl) (by kernel_rfl) rfl (st_move rfl) (.cons_cons _ (.refl _)) ?_
                    refine D_st (Base.Le.refl _) 1 rfl (by kernel_rfl) (by kernel_rfl) (by kernel_rfl) rfl (st_eql_t rfl rfl hc3297) (.cons_cons _ (.refl _)) ?_
                    refine D_st (Base.Le.refl _) 2 rfl (by kernel_rfl) (by kernel_rfl) (by kernel_rfl) rfl (st_move rfl) (.cons_cons _ (.refl _)) ?_
                    refine D_yes (Base.Le.refl _) 3 59 rfl (by kernel_rfl) (by kernel_rfl) (by kernel_rfl) rfl rfl rfl rfl (st_move rfl) (.cons_cons _ (.refl _)) ?_
                    refine D_yes (Base.Le.refl _) 4 59 rfl (by kernel_rfl) (by kernel_rfl) (by kernel_rfl) rfl rfl rfl rfl (st_move rfl) (.cons_cons _ (.refl _)) ?_
                    obtain ⟨j3300, hj3301, hx3302⟩ := idx_some h3299
                    obtain ⟨cs3303, hr3304, hcs3305, hA3306, hlt3307⟩ := FZ.get (sz := 6) rfl (by decide) (h3.le (hle2602.trans hle3002)) hx3302
                    obtain ⟨_, _, rfl, rfl, ⟨_, _, rfl, rfl, ⟨_, _, rfl, rfl, ⟨_, _, rfl, rfl, ⟨_, _, rfl, rfl, rfl⟩⟩⟩⟩⟩ := hr3304
                    refine D_yes (Base.Le.refl _) 5 59 rfl (by kernel_rfl) (by kernel_rfl) (by kernel_rfl) rfl rfl rfl rfl (st_index_old j3300 rfl rfl hj3301 hlt3307 hA3306 sl22) (.cons_cons _ (.refl _)) ?_
                    refine D_yes (Base.Le.refl _) 6 59 rfl (by kernel_rfl) (by kernel_rfl) (by kernel_rfl) rfl rfl rfl rfl (st_field_old rfl hA3306 fld36_0) (.cons_cons _ (.refl _)) ?_
                    refine D_yes (Base.Le.refl _) 7 59 rfl (by kernel_rfl) (by kernel_rfl) (by kernel_rfl) rfl rfl rfl rfl (st_load_old rfl one3 (hcs3305 0 _ rfl)) (.cons_cons _ (.refl _)) ?_
                    refine D_yes (Base.Le.refl _) 8 59 rfl (by kernel_rfl) (by kernel_rfl) (by kernel_rfl) rfl rfl rfl rfl (st_move rfl) (.cons_cons _ (.refl _)) ?_
                    refine D_yes (Base.Le.refl _) 9 59 rfl (by kernel_rfl) (by kernel_rfl) (by kernel_rfl) rfl rfl rfl rfl (st_move rfl) (.cons_cons _ (.refl _)) ?_
                    obtain ⟨j3310, hj3311, hx3312⟩ := idx_some h3309
                    obtain ⟨cs3313, hr3314, hcs3315, hA3316, hlt3317⟩ := FZ.get (sz := 2) rfl (by decide) (h11.le (hle2602.trans hle3002)) hx3312
                    obtain ⟨_, _, rfl, rfl, rfl⟩ := hr3314
                    refine D_yes (Base.Le.refl _) 10 59 rfl (by kernel_rfl) (by kernel_rfl) (by kernel_rfl) rfl rfl rfl rfl (st_index_old j3310 rfl rfl hj3311 hlt3317 hA3316 sl38) (.cons_cons _ (.refl _)) ?_
                    refine D_yes (Base.Le.refl _) 11 59 rfl (by kernel_rfl) (by kernel_rfl) (by kernel_rfl) rfl rfl rfl rfl (st_field_old rfl hA3316 fld47_0) (.cons_cons _ (.refl _)) ?_
                    refine D_yes (Base.Le.refl _) 12 59 rfl (by kernel_rfl) (by kernel_rfl) (by kernel_rfl) rfl rfl rfl rfl (st_load_old rfl one3 (hcs3315 0 _ rfl)) (.cons_cons _ (.refl _)) ?_
                    refine D_yes (Base.Le.refl _) 13 59 rfl (by kernel_rfl) (by kernel_rfl) (by kernel_rfl) rfl rfl rfl rfl (st_neq_t rfl rfl hc3318) (.cons_cons _ (.refl _)) ?_
                    refine D_st (Base.Le.refl _) 14 rfl (by kernel_rfl) (by kernel_rfl) (by kernel_rfl) rfl (st_pick_t rfl rfl) (.cons_cons _ (.refl _)) ?_
                    refine D_st (Base.Le.refl _) 15 rfl (by kernel_rfl) (by kernel_rfl) (by kernel_rfl) rfl (st_move rfl) (.cons_cons _ (.refl _)) ?_
                    refine D_no (Base.Le.refl _) 16 72 rfl (by kernel_rfl) (by kernel_rfl) (by kernel_rfl) rfl rfl rfl rfl rfl (.cons_cons _ (.refl _)) ?_
                    refine D_no (Base.Le.refl _) 17 72 rfl (by kernel_rfl) (by kernel_rfl) (by kernel_rfl) rfl rfl rfl rfl rfl (.cons_cons _ (.refl _)) ?_
                    refine D_no (Base.Le.refl _) 18 72 rfl (by kernel_rfl) (by kernel_rfl) (by kernel_rfl) rfl rfl rfl rfl rfl (.cons_cons _ (.refl _)) ?_
                    refine D_no (Base.Le.refl _) 19 75 rfl (by kernel_rfl) (by kernel_rfl) (by kernel_rfl) rfl rfl rfl rfl rfl (.cons_cons _ (.refl _)) ?_
                    refine D_no (Base.Le.refl _) 20 75 rfl (by kernel_rfl) (by kernel_rfl) (by kernel_rfl) rfl rfl rfl rfl rfl (.cons_cons _ (.refl _)) ?_
                    refine D_no (Base.Le.refl _) 21 75 rfl (by kernel_rfl) (by kernel_rfl) (by kernel_rfl) rfl rfl rfl rfl rfl (.cons_cons _ (.refl _)) ?_
                    refine D_no (Base.Le.refl _) 22 75 rfl (by kernel_rfl) (by kernel_rfl) (by kernel_rfl) rfl rfl rfl rfl rfl (.cons_cons _ (.refl _)) ?_
                    refine D_no (Base.Le.refl _) 23 75 rfl (by kernel_rfl) (by kernel_rfl) (by kernel_rfl) rfl rfl rfl rfl rfl (.cons_cons _ (.refl _)) ?_
                    refine D_no (Base.Le.refl _) 24 75 rfl (by kernel_rfl) (by kernel_rfl) (by kernel_rfl) rfl rfl rfl rfl rfl (.cons_cons _ (.refl _)) ?_
                    refine D_no (Base.Le.refl _) 25 75 rfl (by kernel_rfl) (by kernel_rfl) (by kernel_rfl) rfl rfl rfl rfl rfl (.cons_cons _ (.refl _)) ?_
                    refine D_no (Base.Le.refl _) 26 75 rfl (by kernel_rfl) (by kernel_rfl) (by kernel_rfl) rfl rfl rfl rfl rfl (.cons_cons _ (.refl _)) ?_
                    refine D_no (Base.Le.refl _) 27 75 rfl (by kernel_rfl) (by kernel_rfl) (by kernel_rfl) rfl rfl rfl rfl rfl (.cons_cons _ (.refl _)) ?_
                    refine D_no (Base.Le.refl _) 28 75 rfl (by kernel_rfl) (by kernel_rfl) (by kernel_rfl) rfl rfl rfl rfl rfl (.cons_cons _ (.refl _)) ?_
                    refine D_no (Base.Le.refl _) 29 75 rfl (by kernel_rfl) (by kernel_rfl) (by kernel_rfl) rfl rfl rfl rfl rfl (.cons_cons _ (.refl _)) ?_
                    refine D_no (Base.Le.refl _) 30 75 rfl (by kernel_rfl) (by kernel_rfl) (by kernel_rfl) rfl rfl rfl rfl rfl (.cons_cons _ (.refl _)) ?_
                    refine D_no (Base.Le.refl _) 31 75 rfl (by kernel_rfl) (by kernel_rfl) (by kernel_rfl) rfl rfl rfl rfl rfl (.cons_cons _ (.refl _)) ?_
                    refine D_no (Base.Le.refl _) 32 75 rfl (by kernel_rfl) (by kernel_rfl) (by kernel_rfl) rfl rfl rfl rfl rfl (.cons_cons _ (.refl _)) ?_
                    refine D_no (Base.Le.refl _) 33 72 rfl (by kernel_rfl) (by kernel_rfl) (by kernel_rfl) rfl rfl rfl rfl rfl (.cons_cons _ (.refl _)) ?_
                    refine D_st (Base.Le.refl _) 34 rfl (by kernel_rfl) (by kernel_rfl) (by kernel_rfl) rfl (st_pick_t rfl rfl) (.cons_cons _ (.refl _)) ?_
                    refine D_done (by kernel_rfl) ?_
                    obtain rfl := some1 hm
                    exact x_join (e' := [(0, .slice A1 (l4).length c2), (1, .slice A5 (l8).length c6), (2, .slice A9 (l12).length c10), (7, .pointer (some ⟨g1811, 0, none⟩)), (12, .int .i64 ((k2603 : Int))), (13, .slice A2617 (x2607).length c2618), (37, .slice A5 (l8).length c6), (38, .int .i64 ((l8.length : Int))), (39, .int .i64 ((k2603 : Int))), (44, .slice A2617 (x2607).length c2618), (45, .int .i64 ((x2607.length : Int))), (46, .int .i64 ((k3003 : Int))), (91, .bool (true))]) (hp' := (g1811, Cl 40 [.int .i64 (s13.Place), .int .i64 (s13.Long), .int .i64 (s13.Limit)]) :: R) ⟨rfl, rfl, rfl, rfl, rfl, rfl, rfl, rfl, rfl, rfl, rfl, rfl, rfl, trivial⟩ (.cons_cons _ (.refl _)) ⟨rfl, rfl, (Base.Le.refl _)⟩
                  ·
                    rw [if_neg hc3318] at hm
                    by_cases hc3319 : 0 < (k3003 : Int)
                    ·
                      rw [if_pos hc3319] at hm
                      obtain ⟨_, h3320, hm⟩ := bindS hm
                      obtain ⟨x3321, h3322, hm⟩ := bindS hm
                      obtain ⟨x3331, h3332, hm⟩ := bindS hm
                      obtain ⟨x3341, h3342, hm⟩ := bindS hm
                      obtain ⟨x3351, hcl3352, hm⟩ := bindS hm
                      refine D_drawS ((g1811, Cl 40 [.int .i64 (s13.Place), .int .i64 (s13.Long), .int .i64 (s13.Limit)]) :: R) mixed ?_
                      refine D_st (Base.Le.refl _) 0 rfl (by kernel_rfl) (by kernel_rfl) (by kernel_rfl) rfl (st_move rfl) (.cons_cons _ (.refl _)) ?_
                      refine D_st (Base.Le.refl _) 1 rfl (by kernel_rfl) (by kernel_rfl) (by kernel_rfl) rfl (st_eql_t rfl rfl hc3297) (.cons_cons _ (.refl _)) ?_
                      refine D_st (Base.Le.refl _) 2 rfl (by kernel_rfl) (by kernel_rfl) (by kernel_rfl) rfl (st_move rfl) (.cons_cons _ (.refl _)) ?_
                      refine D_yes (Base.Le.refl _) 3 59 rfl (by kernel_rfl) (by kernel_rfl) (by kernel_rfl) rfl rfl rfl rfl (st_move rfl) (.cons_cons _ (.refl _)) ?_
                      refine D_yes (Base.Le.refl _) 4 59 rfl (by kernel_rfl) (by kernel_rfl) (by kernel_rfl) rfl rfl rfl rfl (st_move rfl) (.cons_cons _ (.refl _)) ?_
                      obtain ⟨j3300, hj3301, hx3302⟩ := idx_some h3299
                      obtain ⟨cs3303, hr3304, hcs3305, hA3306, hlt3307⟩ := FZ.get (sz := 6) rfl (by decide) (h3.le (hle2602.trans hle3002)) hx3302
                      obtain ⟨_, _, rfl, rfl, ⟨_, _, rfl, rfl, ⟨_, _, rfl, rfl, ⟨_, _, rfl, rfl, ⟨_, _, rfl, rfl, rfl⟩⟩⟩⟩⟩ := hr3304
                      refine D_yes (Base.Le.refl _) 5 59 rfl (by kernel_rfl) (by kernel_rfl) (by kernel_rfl) rfl rfl rfl rfl (st_index_old j3300 rfl rfl hj3301 hlt3307 hA3306 sl22) (.cons_cons _ (.refl _)) ?_
                      refine D_yes (Base.Le.refl _) 6 59 rfl (by kernel_rfl) (by kernel_rfl) (by kernel_rfl) rfl rfl rfl rfl (st_field_old rfl hA3306 fld36_0) (.cons_cons _ (.refl _)) ?_
                      refine D_yes (Base.Le.refl _) 7 59 rfl (by kernel_rfl) (by kernel_rfl) (by kernel_rfl) rfl rfl rfl rfl (st_load_old rfl one3 (hcs3305 0 _ rfl)) (.cons_cons _ (.refl _)) ?_
                      refine D_yes (Base.Le.refl _) 8 59 rfl (by kernel_rfl) (by kernel_rfl) (by kernel_rfl) rfl rfl rfl rfl (st_move rfl) (.cons_cons _ (.refl _)) ?_
                      refine D_yes (Base.Le.refl _) 9 59 rfl (by kernel_rfl) (by kernel_rfl) (by kernel_rfl) rfl rfl rfl rfl (st_move rfl) (.cons_cons _ (.refl _)) ?_
                      obtain ⟨j3310, hj3311, hx3312⟩ := idx_some h3309
                      obtain ⟨cs3313, hr3314, hcs3315, hA3316, hlt3317⟩ := FZ.get (sz := 2) rfl (by decide) (h11.le (hle2602.trans hle3002)) hx3312
                      obtain ⟨_, _, rfl, rfl, rfl⟩ := hr3314
                      refine D_yes (Base.Le.refl _) 10 59 rfl (by kernel_rfl) (by kernel_rfl) (by kernel_rfl) rfl rfl rfl rfl (st_index_old j3310 rfl rfl hj3311 hlt3317 hA3316 sl38) (.cons_cons _ (.refl _)) ?_
                      refine D_yes (Base.Le.refl _) 11 59 rfl (by kernel_rfl) (by kernel_rfl) (by kernel_rfl) rfl rfl rfl rfl (st_field_old rfl hA3316 fld47_0) (.cons_cons _ (.refl _)) ?_
                      refine D_yes (Base.Le.refl _) 12 59 rfl (by kernel_rfl) (by kernel_rfl) (by kernel_rfl) rfl rfl rfl rfl (st_load_old rfl one3 (hcs3315 0 _ rfl)) (.cons_cons _ (.refl _)) ?_
                      refine D_yes (Base.Le.refl _) 13 59 rfl (by kernel_rfl) (by kernel_rfl) (by kernel_rfl) rfl rfl rfl rfl (st_neq_f rfl rfl hc3318) (.cons_cons _ (.refl _)) ?_
                      refine D_st (Base.Le.refl _) 14 rfl (by kernel_rfl) (by kernel_rfl) (by kernel_rfl) rfl (st_pick_t rfl rfl) (.cons_cons _ (.refl _)) ?_
                      refine D_st (Base.Le.refl _) 15 rfl (by kernel_rfl) (by kernel_rfl) (by kernel_rfl) rfl (st_move rfl) (.cons_cons _ (.refl _)) ?_
                      refine D_yes (Base.Le.refl _) 16 72 rfl (by kernel_rfl) (by kernel_rfl) (by kernel_rfl) rfl rfl rfl rfl (st_move rfl) (.cons_cons _ (.refl _)) ?_
                      refine D_yes (Base.Le.refl _) 17 72 rfl (by kernel_rfl) (by kernel_rfl) (by kernel_rfl) rfl rfl rfl rfl (st_gtr_t rfl rfl hc3319) (.cons_cons _ (.refl _)) ?_
                      refine D_yes (Base.Le.refl _) 18 72 rfl (by kernel_rfl) (by kernel_rfl) (by kernel_rfl) rfl rfl rfl rfl (st_move rfl) (.cons_cons _ (.refl _)) ?_
                      refine D_yes (Base.Le.refl _) 19 75 rfl (by kernel_rfl) (by kernel_rfl) (by kernel_rfl) rfl rfl rfl rfl (st_move rfl) (.cons_cons _ (.refl _)) ?_
                      refine D_yes (Base.Le.refl _) 20 75 rfl (by kernel_rfl) (by kernel_rfl) (by kernel_rfl) rfl rfl rfl rfl (st_move rfl) (.cons_cons _ (.refl _)) ?_
                      refine D_yes (Base.Le.refl _) 21 75 rfl (by kernel_rfl) (by kernel_rfl) (by kernel_rfl) rfl rfl rfl rfl (st_move rfl) (.cons_cons _ (.refl _)) ?_
                      have h3320 := (chk_some h3320).2
                      refine D_yes (Base.Le.refl _) 22 75 rfl (by kernel_rfl) (by kernel_rfl) (by kernel_rfl) rfl rfl rfl rfl (st_sub rfl rfl h3320) (.cons_cons _ (.refl _)) ?_
                      obtain ⟨j3323, hj3324, hx3325⟩ := idx_some h3322
                      obtain ⟨cs3326, hr3327, hcs3328, hA3329, hlt3330⟩ := FZ.get (sz := 1) rfl (by decide) (h2619.le hle3002) hx3325
                      obtain rfl := hr3327
                      refine D_yes (Base.Le.refl _) 23 75 rfl (by kernel_rfl) (by kernel_rfl) (by kernel_rfl) rfl rfl rfl rfl (st_index_old j3323 rfl rfl hj3324 hlt3330 hA3329 sl45) (.cons_cons _ (.refl _)) ?_
                      refine D_yes (Base.Le.refl _) 24 75 rfl (by kernel_rfl) (by kernel_rfl) (by kernel_rfl) rfl rfl rfl rfl (st_load_old rfl one3 (hcs3328 0 _ rfl)) (.cons_cons _ (.refl _)) ?_
                      obtain ⟨j3333, hj3334, hx3335⟩ := idx_some h3332
                      obtain ⟨cs3336, hr3337, hcs3338, hA3339, hlt3340⟩ := FZ.get (sz := 6) rfl (by decide) (h3.le (hle2602.trans hle3002)) hx3335
                      obtain ⟨_, _, rfl, rfl, ⟨_, _, rfl, rfl, ⟨_, _, rfl, rfl, ⟨_, _, rfl, rfl, ⟨_, _, rfl, rfl, rfl⟩⟩⟩⟩⟩ := hr3337
                      refine D_yes (Base.Le.refl _) 25 75 rfl (by kernel_rfl) (by kernel_rfl) (by kernel_rfl) rfl rfl rfl rfl (st_index_old j3333 rfl rfl hj3334 hlt3340 hA3339 sl22) (.cons_cons _ (.refl _)) ?_
                      refine D_yes (Base.Le.refl _) 26 75 rfl (by kernel_rfl) (by kernel_rfl) (by kernel_rfl) rfl rfl rfl rfl (st_loadN_old (vs := [.int .i64 (x3331.From), .int .i64 (x3331.To), .int .i64 (x3331.Dep), .int .i64 (x3331.Arr), .int .i64 (x3331.Km), .int .i64 (x3331.Units)]) 6 rfl agg36 hA3339 rfl (fun j u hu => hcs3338 j u hu)) (.cons_cons _ (.refl _)) ?_
                      refine D_yes (Base.Le.refl _) 27 75 rfl (by kernel_rfl) (by kernel_rfl) (by kernel_rfl) rfl rfl rfl rfl (st_move rfl) (.cons_cons _ (.refl _)) ?_
                      refine D_yes (Base.Le.refl _) 28 75 rfl (by kernel_rfl) (by kernel_rfl) (by kernel_rfl) rfl rfl rfl rfl (st_move rfl) (.cons_cons _ (.refl _)) ?_
                      obtain ⟨j3343, hj3344, hx3345⟩ := idx_some h3342
                      obtain ⟨cs3346, hr3347, hcs3348, hA3349, hlt3350⟩ := FZ.get (sz := 6) rfl (by decide) (h3.le (hle2602.trans hle3002)) hx3345
                      obtain ⟨_, _, rfl, rfl, ⟨_, _, rfl, rfl, ⟨_, _, rfl, rfl, ⟨_, _, rfl, rfl, ⟨_, _, rfl, rfl, rfl⟩⟩⟩⟩⟩ := hr3347
                      refine D_yes (Base.Le.refl _) 29 75 rfl (by kernel_rfl) (by kernel_rfl) (by kernel_rfl) rfl rfl rfl rfl (st_index_old j3343 rfl rfl hj3344 hlt3350 hA3349 sl22) (.cons_cons _ (.refl _)) ?_
                      refine D_yes (Base.Le.refl _) 30 75 rfl (by kernel_rfl) (by kernel_rfl) (by kernel_rfl) rfl rfl rfl rfl (st_loadN_old (vs := [.int .i64 (x3341.From), .int .i64 (x3341.To), .int .i64 (x3341.Dep), .int .i64 (x3341.Arr), .int .i64 (x3341.Km), .int .i64 (x3341.Units)]) 6 rfl agg36 hA3349 rfl (fun j u hu => hcs3348 j u hu)) (.cons_cons _ (.refl _)) ?_
                      refine D_all [31] (by kernel_rfl) rfl ?_
                      refine R_doY (Base.Le.refl _) rfl rfl 75 rfl rfl rfl (u_callW0 _ call45 rfl (fun w ho => cFleetFollows _ [] x3331 x3341 0 x3351 hcl3352) (fun _ _ _ h => h.2.symm)) ?_ ?_
                      ·
                        rintro _ _ ⟨⟨_, rfl, _⟩, rfl⟩
                        refine ⟨.inr (.cons_cons _ (.refl _)), ?_⟩
                        refine D_yes (Base.Le.refl _) 32 75 rfl (by kernel_rfl) (by kernel_rfl) (by kernel_rfl) rfl rfl rfl rfl (st_not rfl) (.cons_cons _ (.refl _)) ?_
                        refine D_yes (Base.Le.refl _) 33 72 rfl (by kernel_rfl) (by kernel_rfl) (by kernel_rfl) rfl rfl rfl rfl (st_pick_t rfl rfl) (.cons_cons _ (.refl _)) ?_
                        refine D_st (Base.Le.refl _) 34 rfl (by kernel_rfl) (by kernel_rfl) (by kernel_rfl) rfl (st_pick_f rfl rfl) (.cons_cons _ (.refl _)) ?_
                        refine D_done (by kernel_rfl) ?_
                        obtain rfl := some1 hm
                        exact x_join (e' := [(0, .slice A1 (l4).length c2), (1, .slice A5 (l8).length c6), (2, .slice A9 (l12).length c10), (7, .pointer (some ⟨g1811, 0, none⟩)), (12, .int .i64 ((k2603 : Int))), (13, .slice A2617 (x2607).length c2618), (37, .slice A5 (l8).length c6), (38, .int .i64 ((l8.length : Int))), (39, .int .i64 ((k2603 : Int))), (44, .slice A2617 (x2607).length c2618), (45, .int .i64 ((x2607.length : Int))), (46, .int .i64 ((k3003 : Int))), (91, .bool (!x3351))]) (hp' := (g1811, Cl 40 [.int .i64 (s13.Place), .int .i64 (s13.Long), .int .i64 (s13.Limit)]) :: R) ⟨rfl, rfl, rfl, rfl, rfl, rfl, rfl, rfl, rfl, rfl, rfl, rfl, rfl, trivial⟩ (.cons_cons _ (.refl _)) ⟨rfl, rfl, (Base.Le.refl _)⟩
                      exact R_nil
                    ·
                      rw [if_neg hc3319] at hm
                      refine D_drawS ((g1811, Cl 40 [.int .i64 (s13.Place), .int .i64 (s13.Long), .int .i64 (s13.Limit)]) :: R) mixed ?_
                      refine D_st (Base.Le.refl _) 0 rfl (by kernel_rfl) (by kernel_rfl) (by kernel_rfl) rfl (st_move rfl) (.cons_cons _ (.refl _)) ?_
                      refine D_st (Base.Le.refl _) 1 rfl (by kernel_rfl) (by kernel_rfl) (by kernel_rfl) rfl (st_eql_t rfl rfl hc3297) (.cons_cons _ (.refl _)) ?_
                      refine D_st (Base.Le.refl _) 2 rfl (by kernel_rfl) (by kernel_rfl) (by kernel_rfl) rfl (st_move rfl) (.cons_cons _ (.refl _)) ?_
                      refine D_yes (Base.Le.refl _) 3 59 rfl (by kernel_rfl) (by kernel_rfl) (by kernel_rfl) rfl rfl rfl rfl (st_move rfl) (.cons_cons _ (.refl _)) ?_
                      refine D_yes (Base.Le.refl _) 4 59 rfl (by kernel_rfl) (by kernel_rfl) (by kernel_rfl) rfl rfl rfl rfl (st_move rfl) (.cons_cons _ (.refl _)) ?_
                      obtain ⟨j3300, hj3301, hx3302⟩ := idx_some h3299
                      obtain ⟨cs3303, hr3304, hcs3305, hA3306, hlt3307⟩ := FZ.get (sz := 6) rfl (by decide) (h3.le (hle2602.trans hle3002)) hx3302
                      obtain ⟨_, _, rfl, rfl, ⟨_, _, rfl, rfl, ⟨_, _, rfl, rfl, ⟨_, _, rfl, rfl, ⟨_, _, rfl, rfl, rfl⟩⟩⟩⟩⟩ := hr3304
                      refine D_yes (Base.Le.refl _) 5 59 rfl (by kernel_rfl) (by kernel_rfl) (by kernel_rfl) rfl rfl rfl rfl (st_index_old j3300 rfl rfl hj3301 hlt3307 hA3306 sl22) (.cons_cons _ (.refl _)) ?_
                      refine D_yes (Base.Le.refl _) 6 59 rfl (by kernel_rfl) (by kernel_rfl) (by kernel_rfl) rfl rfl rfl rfl (st_field_old rfl hA3306 fld36_0) (.cons_cons _ (.refl _)) ?_
                      refine D_yes (Base.Le.refl _) 7 59 rfl (by kernel_rfl) (by kernel_rfl) (by kernel_rfl) rfl rfl rfl rfl (st_load_old rfl one3 (hcs3305 0 _ rfl)) (.cons_cons _ (.refl _)) ?_
                      refine D_yes (Base.Le.refl _) 8 59 rfl (by kernel_rfl) (by kernel_rfl) (by kernel_rfl) rfl rfl rfl rfl (st_move rfl) (.cons_cons _ (.refl _)) ?_
                      refine D_yes (Base.Le.refl _) 9 59 rfl (by kernel_rfl) (by kernel_rfl) (by kernel_rfl) rfl rfl rfl rfl (st_move rfl) (.cons_cons _ (.refl _)) ?_
                      obtain ⟨j3310, hj3311, hx3312⟩ := idx_some h3309
                      obtain ⟨cs3313, hr3314, hcs3315, hA3316, hlt3317⟩ := FZ.get (sz := 2) rfl (by decide) (h11.le (hle2602.trans hle3002)) hx3312
                      obtain ⟨_, _, rfl, rfl, rfl⟩ := hr3314
                      refine D_yes (Base.Le.refl _) 10 59 rfl (by kernel_rfl) (by kernel_rfl) (by kernel_rfl) rfl rfl rfl rfl (st_index_old j3310 rfl rfl hj3311 hlt3317 hA3316 sl38) (.cons_cons _ (.refl _)) ?_
                      refine D_yes (Base.Le.refl _) 11 59 rfl (by kernel_rfl) (by kernel_rfl) (by kernel_rfl) rfl rfl rfl rfl (st_field_old rfl hA3316 fld47_0) (.cons_cons _ (.refl _)) ?_
                      refine D_yes (Base.Le.refl _) 12 59 rfl (by kernel_rfl) (by kernel_rfl) (by kernel_rfl) rfl rfl rfl rfl (st_load_old rfl one3 (hcs3315 0 _ rfl)) (.cons_cons _ (.refl _)) ?_
                      refine D_yes (Base.Le.refl _) 13 59 rfl (by kernel_rfl) (by kernel_rfl) (by kernel_rfl) rfl rfl rfl rfl (st_neq_f rfl rfl hc3318) (.cons_cons _ (.refl _)) ?_
                      refine D_st (Base.Le.refl _) 14 rfl (by kernel_rfl) (by kernel_rfl) (by kernel_rfl) rfl (st_pick_t rfl rfl) (.cons_cons _ (.refl _)) ?_
                      refine D_st (Base.Le.refl _) 15 rfl (by kernel_rfl) (by kernel_rfl) (by kernel_rfl) rfl (st_move rfl) (.cons_cons _ (.refl _)) ?_
                      refine D_yes (Base.Le.refl _) 16 72 rfl (by kernel_rfl) (by kernel_rfl) (by kernel_rfl) rfl rfl rfl rfl (st_move rfl) (.cons_cons _ (.refl _)) ?_
                      refine D_yes (Base.Le.refl _) 17 72 rfl (by kernel_rfl) (by kernel_rfl) (by kernel_rfl) rfl rfl rfl rfl (st_gtr_f rfl rfl hc3319) (.cons_cons _ (.refl _)) ?_
                      refine D_yes (Base.Le.refl _) 18 72 rfl (by kernel_rfl) (by kernel_rfl) (by kernel_rfl) rfl rfl rfl rfl (st_move rfl) (.cons_cons _ (.refl _)) ?_
                      refine D_no (Base.Le.refl _) 19 75 rfl (by kernel_rfl) (by kernel_rfl) (by kernel_rfl) rfl rfl rfl rfl rfl (.cons_cons _ (.refl _)) ?_
                      refine D_no (Base.Le.refl _) 20 75 rfl (by kernel_rfl) (by kernel_rfl) (by kernel_rfl) rfl rfl rfl rfl rfl (.cons_cons _ (.refl _)) ?_
                      refine D_no (Base.Le.refl _) 21 75 rfl (by kernel_rfl) (by kernel_rfl) (by kernel_rfl) rfl rfl rfl rfl rfl (.cons_cons _ (.refl _)) ?_
                      refine D_no (Base.Le.refl _) 22 75 rfl (by kernel_rfl) (by kernel_rfl) (by kernel_rfl) rfl rfl rfl rfl rfl (.cons_cons _ (.refl _)) ?_
                      refine D_no (Base.Le.refl _) 23 75 rfl (by kernel_rfl) (by kernel_rfl) (by kernel_rfl) rfl rfl rfl rfl rfl (.cons_cons _ (.refl _)) ?_
                      refine D_no (Base.Le.refl _) 24 75 rfl (by kernel_rfl) (by kernel_rfl) (by kernel_rfl) rfl rfl rfl rfl rfl (.cons_cons _ (.refl _)) ?_
                      refine D_no (Base.Le.refl _) 25 75 rfl (by kernel_rfl) (by kernel_rfl) (by kernel_rfl) rfl rfl rfl rfl rfl (.cons_cons _ (.refl _)) ?_
                      refine D_no (Base.Le.refl _) 26 75 rfl (by kernel_rfl) (by kernel_rfl) (by kernel_rfl) rfl rfl rfl rfl rfl (.cons_cons _ (.refl _)) ?_
                      refine D_no (Base.Le.refl _) 27 75 rfl (by kernel_rfl) (by kernel_rfl) (by kernel_rfl) rfl rfl rfl rfl rfl (.cons_cons _ (.refl _)) ?_
                      refine D_no (Base.Le.refl _) 28 75 rfl (by kernel_rfl) (by kernel_rfl) (by kernel_rfl) rfl rfl rfl rfl rfl (.cons_cons _ (.refl _)) ?_
                      refine D_no (Base.Le.refl _) 29 75 rfl (by kernel_rfl) (by kernel_rfl) (by kernel_rfl) rfl rfl rfl rfl rfl (.cons_cons _ (.refl _)) ?_
                      refine D_no (Base.Le.refl _) 30 75 rfl (by kernel_rfl) (by kernel_rfl) (by kernel_rfl) rfl rfl rfl rfl rfl (.cons_cons _ (.refl _)) ?_
                      refine D_no (Base.Le.refl _) 31 75 rfl (by kernel_rfl) (by kernel_rfl) (by kernel_rfl) rfl rfl rfl rfl rfl (.cons_cons _ (.refl _)) ?_
                      refine D_no (Base.Le.refl _) 32 75 rfl (by kernel_rfl) (by kernel_rfl) (by kernel_rfl) rfl rfl rfl rfl rfl (.cons_cons _ (.refl _)) ?_
                      refine D_yes (Base.Le.refl _) 33 72 rfl (by kernel_rfl) (by kernel_rfl) (by kernel_rfl) rfl rfl rfl rfl (st_pick_f rfl rfl) (.cons_cons _ (.refl _)) ?_
                      refine D_st (Base.Le.refl _) 34 rfl (by kernel_rfl) (by kernel_rfl) (by kernel_rfl) rfl (st_pick_f rfl rfl) (.cons_cons _ (.refl _)) ?_
                      refine D_done (by kernel_rfl) ?_
                      obtain rfl := some1 hm
                      exact x_join (e' := [(0, .slice A1 (l4).length c2), (1, .slice A5 (l8).length c6), (2, .slice A9 (l12).length c10), (7, .pointer (some ⟨g1811, 0, none⟩)), (12, .int .i64 ((k2603 : Int))), (13, .slice A2617 (x2607).length c2618), (37, .slice A5 (l8).length c6), (38, .int .i64 ((l8.length : Int))), (39, .int .i64 ((k2603 : Int))), (44, .slice A2617 (x2607).length c2618), (45, .int .i64 ((x2607.length : Int))), (46, .int .i64 ((k3003 : Int))), (91, .bool (false))]) (hp' := (g1811, Cl 40 [.int .i64 (s13.Place), .int .i64 (s13.Long), .int .i64 (s13.Limit)]) :: R) ⟨rfl, rfl, rfl, rfl, rfl, rfl, rfl, rfl, rfl, rfl, rfl, rfl, rfl, trivial⟩ (.cons_cons _ (.refl _)) ⟨rfl, rfl, (Base.Le.refl _)⟩
                ·
                  rw [if_neg hc3297] at hm
                  by_cases hc3353 : 0 < (k3003 : Int)
                  ·
                    rw [if_pos hc3353] at hm
                    obtain ⟨_, h3354, hm⟩ := bindS hm
                    obtain ⟨x3355, h3356, hm⟩ := bindS hm
                    obtain ⟨x3365, h3366, hm⟩ := bindS hm
                    obtain ⟨x3375, h3376, hm⟩ := bindS hm
                    obtain ⟨x3385, hcl3386, hm⟩ := bindS hm
                    refine D_drawS ((g1811, Cl 40 [.int .i64 (s13.Place), .int .i64 (s13.Long), .int .i64 (s13.Limit)]) :: R) mixed ?_
                    refine D_st (Base.Le.refl _) 0 rfl (by kernel_rfl) (by kernel_rfl) (by kernel_rfl) rfl (st_move rfl) (.cons_cons _ (.refl _)) ?_
                    refine D_st (Base.Le.refl _) 1 rfl (by kernel_rfl) (by kernel_rfl) (by kernel_rfl) rfl (st_eql_f rfl rfl hc3297) (.cons_cons _ (.refl _)) ?_
                    refine D_st (Base.Le.refl _) 2 rfl (by kernel_rfl) (by kernel_rfl) (by kernel_rfl) rfl (st_move rfl) (.cons_cons _ (.refl _)) ?_
                    refine D_no (Base.Le.refl _) 3 59 rfl (by kernel_rfl) (by kernel_rfl) (by kernel_rfl) rfl rfl rfl rfl rfl (.cons_cons _ (.refl _)) ?_
                    refine D_no (Base.Le.refl _) 4 59 rfl (by kernel_rfl) (by kernel_rfl) (by kernel_rfl) rfl rfl rfl rfl rfl (.cons_cons _ (.refl _)) ?_
                    refine D_no (Base.Le.refl _) 5 59 rfl (by kernel_rfl) (by kernel_rfl) (by kernel_rfl) rfl rfl rfl rfl rfl (.cons_cons _ (.refl _)) ?_
                    refine D_no (Base.Le.refl _) 6 59 rfl (by kernel_rfl) (by kernel_rfl) (by kernel_rfl) rfl rfl rfl rfl rfl (.cons_cons _ (.refl _)) ?_
                    refine D_no (Base.Le.refl _) 7 59 rfl (by kernel_rfl) (by kernel_rfl) (by kernel_rfl) rfl rfl rfl rfl rfl (.cons_cons _ (.refl _)) ?_
                    refine D_no (Base.Le.refl _) 8 59 rfl (by kernel_rfl) (by kernel_rfl) (by kernel_rfl) rfl rfl rfl rfl rfl (.cons_cons _ (.refl _)) ?_
                    refine D_no (Base.Le.refl _) 9 59 rfl (by kernel_rfl) (by kernel_rfl) (by kernel_rfl) rfl rfl rfl rfl rfl (.cons_cons _ (.refl _)) ?_
                    refine D_no (Base.Le.refl _) 10 59 rfl (by kernel_rfl) (by kernel_rfl) (by kernel_rfl) rfl rfl rfl rfl rfl (.cons_cons _ (.refl _)) ?_
                    refine D_no (Base.Le.refl _) 11 59 rfl (by kernel_rfl) (by kernel_rfl) (by kernel_rfl) rfl rfl rfl rfl rfl (.cons_cons _ (.refl _)) ?_
                    refine D_no (Base.Le.refl _) 12 59 rfl (by kernel_rfl) (by kernel_rfl) (by kernel_rfl) rfl rfl rfl rfl rfl (.cons_cons _ (.refl _)) ?_
                    refine D_no (Base.Le.refl _) 13 59 rfl (by kernel_rfl) (by kernel_rfl) (by kernel_rfl) rfl rfl rfl rfl rfl (.cons_cons _ (.refl _)) ?_
                    refine D_st (Base.Le.refl _) 14 rfl (by kernel_rfl) (by kernel_rfl) (by kernel_rfl) rfl (st_pick_f rfl rfl) (.cons_cons _ (.refl _)) ?_
                    refine D_st (Base.Le.refl _) 15 rfl (by kernel_rfl) (by kernel_rfl) (by kernel_rfl) rfl (st_move rfl) (.cons_cons _ (.refl _)) ?_
                    refine D_yes (Base.Le.refl _) 16 72 rfl (by kernel_rfl) (by kernel_rfl) (by kernel_rfl) rfl rfl rfl rfl (st_move rfl) (.cons_cons _ (.refl _)) ?_
                    refine D_yes (Base.Le.refl _) 17 72 rfl (by kernel_rfl) (by kernel_rfl) (by kernel_rfl) rfl rfl rfl rfl (st_gtr_t rfl rfl hc3353) (.cons_cons _ (.refl _)) ?_
                    refine D_yes (Base.Le.refl _) 18 72 rfl (by kernel_rfl) (by kernel_rfl) (by kernel_rfl) rfl rfl rfl rfl (st_move rfl) (.cons_cons _ (.refl _)) ?_
                    refine D_yes (Base.Le.refl _) 19 75 rfl (by kernel_rfl) (by kernel_rfl) (by kernel_rfl) rfl rfl rfl rfl (st_move rfl) (.cons_cons _ (.refl _)) ?_
                    refine D_yes (Base.Le.refl _) 20 75 rfl (by kernel_rfl) (by kernel_rfl) (by kernel_rfl) rfl rfl rfl rfl (st_move rfl) (.cons_cons _ (.refl _)) ?_
                    refine D_yes (Base.Le.refl _) 21 75 rfl (by kernel_rfl) (by kernel_rfl) (by kernel_rfl) rfl rfl rfl rfl (st_move rfl) (.cons_cons _ (.refl _)) ?_
                    have h3354 := (chk_some h3354).2
                    refine D_yes (Base.Le.refl _) 22 75 rfl (by kernel_rfl) (by kernel_rfl) (by kernel_rfl) rfl rfl rfl rfl (st_sub rfl rfl h3354) (.cons_cons _ (.refl _)) ?_
                    obtain ⟨j3357, hj3358, hx3359⟩ := idx_some h3356
                    obtain ⟨cs3360, hr3361, hcs3362, hA3363, hlt3364⟩ := FZ.get (sz := 1) rfl (by decide) (h2619.le hle3002) hx3359
                    obtain rfl := hr3361
                    refine D_yes (Base.Le.refl _) 23 75 rfl (by kernel_rfl) (by kernel_rfl) (by kernel_rfl) rfl rfl rfl rfl (st_index_old j3357 rfl rfl hj3358 hlt3364 hA3363 sl45) (.cons_cons _ (.refl _)) ?_
                    refine D_yes (Base.Le.refl _) 24 75 rfl (by kernel_rfl) (by kernel_rfl) (by kernel_rfl) rfl rfl rfl rfl (st_load_old rfl one3 (hcs3362 0 _ rfl)) (.cons_cons _ (.refl _)) ?_
                    obtain ⟨j3367, hj3368, hx3369⟩ := idx_some h3366
                    obtain ⟨cs3370, hr3371, hcs3372, hA3373, hlt3374⟩ := FZ.get (sz := 6) rfl (by decide) (h3.le (hle2602.trans hle3002)) hx3369
                    obtain ⟨_, _, rfl, rfl, ⟨_, _, rfl, rfl, ⟨_, _, rfl, rfl, ⟨_, _, rfl, rfl, ⟨_, _, rfl, rfl, rfl⟩⟩⟩⟩⟩ := hr3371
                    refine D_yes (Base.Le.refl _) 25 75 rfl (by kernel_rfl) (by kernel_rfl) (by kernel_rfl) rfl rfl rfl rfl (st_index_old j3367 rfl rfl hj3368 hlt3374 hA3373 sl22) (.cons_cons _ (.refl _)) ?_
                    refine D_yes (Base.Le.refl _) 26 75 rfl (by kernel_rfl) (by kernel_rfl) (by kernel_rfl) rfl rfl rfl rfl (st_loadN_old (vs := [.int .i64 (x3365.From), .int .i64 (x3365.To), .int .i64 (x3365.Dep), .int .i64 (x3365.Arr), .int .i64 (x3365.Km), .int .i64 (x3365.Units)]) 6 rfl agg36 hA3373 rfl (fun j u hu => hcs3372 j u hu)) (.cons_cons _ (.refl _)) ?_
                    refine D_yes (Base.Le.refl _) 27 75 rfl (by kernel_rfl) (by kernel_rfl) (by kernel_rfl) rfl rfl rfl rfl (st_move rfl) (.cons_cons _ (.refl _)) ?_
                    refine D_yes (Base.Le.refl _) 28 75 rfl (by kernel_rfl) (by kernel_rfl) (by kernel_rfl) rfl rfl rfl rfl (st_move rfl) (.cons_cons _ (.refl _)) ?_
                    obtain ⟨j3377, hj3378, hx3379⟩ := idx_some h3376
                    obtain ⟨cs3380, hr3381, hcs3382, hA3383, hlt3384⟩ := FZ.get (sz := 6) rfl (by decide) (h3.le (hle2602.trans hle3002)) hx3379
                    obtain ⟨_, _, rfl, rfl, ⟨_, _, rfl, rfl, ⟨_, _, rfl, rfl, ⟨_, _, rfl, rfl, ⟨_, _, rfl, rfl, rfl⟩⟩⟩⟩⟩ := hr3381
                    refine D_yes (Base.Le.refl _) 29 75 rfl (by kernel_rfl) (by kernel_rfl) (by kernel_rfl) rfl rfl rfl rfl (st_index_old j3377 rfl rfl hj3378 hlt3384 hA3383 sl22) (.cons_cons _ (.refl _)) ?_
                    refine D_yes (Base.Le.refl _) 30 75 rfl (by kernel_rfl) (by kernel_rfl) (by kernel_rfl) rfl rfl rfl rfl (st_loadN_old (vs := [.int .i64 (x3375.From), .int .i64 (x3375.To), .int .i64 (x3375.Dep), .int .i64 (x3375.Arr), .int .i64 (x3375.Km), .int .i64 (x3375.Units)]) 6 rfl agg36 hA3383 rfl (fun j u hu => hcs3382 j u hu)) (.cons_cons _ (.refl _)) ?_
                    refine D_all [31] (by kernel_rfl) rfl ?_
                    refine R_doY (Base.Le.refl _) rfl rfl 75 rfl rfl rfl (u_callW0 _ call45 rfl (fun w ho => cFleetFollows _ [] x3365 x3375 0 x3385 hcl3386) (fun _ _ _ h => h.2.symm)) ?_ ?_
                    ·
                      rintro _ _ ⟨⟨_, rfl, _⟩, rfl⟩
                      refine ⟨.inr (.cons_cons _ (.refl _)), ?_⟩
                      refine D_yes (Base.Le.refl _) 32 75 rfl (by kernel_rfl) (by kernel_rfl) (by kernel_rfl) rfl rfl rfl rfl (st_not rfl) (.cons_cons _ (.refl _)) ?_
                      refine D_yes (Base.Le.refl _) 33 72 rfl (by kernel_rfl) (by kernel_rfl) (by kernel_rfl) rfl rfl rfl rfl (st_pick_t rfl rfl) (.cons_cons _ (.refl _)) ?_
                      refine D_st (Base.Le.refl _) 34 rfl (by kernel_rfl) (by kernel_rfl) (by kernel_rfl) rfl (st_pick_f rfl rfl) (.cons_cons _ (.refl _)) ?_
                      refine D_done (by kernel_rfl) ?_
                      obtain rfl := some1 hm
                      exact x_join (e' := [(0, .slice A1 (l4).length c2), (1, .slice A5 (l8).length c6), (2, .slice A9 (l12).length c10), (7, .pointer (some ⟨g1811, 0, none⟩)), (12, .int .i64 ((k2603 : Int))), (13, .slice A2617 (x2607).length c2618), (37, .slice A5 (l8).length c6), (38, .int .i64 ((l8.length : Int))), (39, .int .i64 ((k2603 : Int))), (44, .slice A2617 (x2607).length c2618), (45, .int .i64 ((x2607.length : Int))), (46, .int .i64 ((k3003 : Int))), (91, .bool (!x3385))]) (hp' := (g1811, Cl 40 [.int .i64 (s13.Place), .int .i64 (s13.Long), .int .i64 (s13.Limit)]) :: R) ⟨rfl, rfl, rfl, rfl, rfl, rfl, rfl, rfl, rfl, rfl, rfl, rfl, rfl, trivial⟩ (.cons_cons _ (.refl _)) ⟨rfl, rfl, (Base.Le.refl _)⟩
                    exact R_nil
                  ·
                    rw [if_neg hc3353] at hm
                    refine D_drawS ((g1811, Cl 40 [.int .i64 (s13.Place), .int .i64 (s13.Long), .int .i64 (s13.Limit)]) :: R) mixed ?_
                    refine D_st (Base.Le.refl _) 0 rfl (by kernel_rfl) (by kernel_rfl) (by kernel_rfl) rfl (st_move rfl) (.cons_cons _ (.refl _)) ?_
                    refine D_st (Base.Le.refl _) 1 rfl (by kernel_rfl) (by kernel_rfl) (by kernel_rfl) rfl (st_eql_f rfl rfl hc3297) (.cons_cons _ (.refl _)) ?_
                    refine D_st (Base.Le.refl _) 2 rfl (by kernel_rfl) (by kernel_rfl) (by kernel_rfl) rfl (st_move rfl) (.cons_cons _ (.refl _)) ?_
                    refine D_no (Base.Le.refl _) 3 59 rfl (by kernel_rfl) (by kernel_rfl) (by kernel_rfl) rfl rfl rfl rfl rfl (.cons_cons _ (.refl _)) ?_
                    refine D_no (Base.Le.refl _) 4 59 rfl (by kernel_rfl) (by kernel_rfl) (by kernel_rfl) rfl rfl rfl rfl rfl (.cons_cons _ (.refl _)) ?_
                    refine D_no (Base.Le.refl _) 5 59 rfl (by kernel_rfl) (by kernel_rfl) (by kernel_rfl) rfl rfl rfl rfl rfl (.cons_cons _ (.refl _)) ?_
                    refine D_no (Base.Le.refl _) 6 59 rfl (by kernel_rfl) (by kernel_rfl) (by kernel_rfl) rfl rfl rfl rfl rfl (.cons_cons _ (.refl _)) ?_
                    refine D_no (Base.Le.refl _) 7 59 rfl (by kernel_rfl) (by kernel_rfl) (by kernel_rfl) rfl rfl rfl rfl rfl (.cons_cons _ (.refl _)) ?_
                    refine D_no (Base.Le.refl _) 8 59 rfl (by kernel_rfl) (by kernel_rfl) (by kernel_rfl) rfl rfl rfl rfl rfl (.cons_cons _ (.refl _)) ?_
                    refine D_no (Base.Le.refl _) 9 59 rfl (by kernel_rfl) (by kernel_rfl) (by kernel_rfl) rfl rfl rfl rfl rfl (.cons_cons _ (.refl _)) ?_
                    refine D_no (Base.Le.refl _) 10 59 rfl (by kernel_rfl) (by kernel_rfl) (by kernel_rfl) rfl rfl rfl rfl rfl (.cons_cons _ (.refl _)) ?_
                    refine D_no (Base.Le.refl _) 11 59 rfl (by kernel_rfl) (by kernel_rfl) (by kernel_rfl) rfl rfl rfl rfl rfl (.cons_cons _ (.refl _)) ?_
                    refine D_no (Base.Le.refl _) 12 59 rfl (by kernel_rfl) (by kernel_rfl) (by kernel_rfl) rfl rfl rfl rfl rfl (.cons_cons _ (.refl _)) ?_
                    refine D_no (Base.Le.refl _) 13 59 rfl (by kernel_rfl) (by kernel_rfl) (by kernel_rfl) rfl rfl rfl rfl rfl (.cons_cons _ (.refl _)) ?_
                    refine D_st (Base.Le.refl _) 14 rfl (by kernel_rfl) (by kernel_rfl) (by kernel_rfl) rfl (st_pick_f rfl rfl) (.cons_cons _ (.refl _)) ?_
                    refine D_st (Base.Le.refl _) 15 rfl (by kernel_rfl) (by kernel_rfl) (by kernel_rfl) rfl (st_move rfl) (.cons_cons _ (.refl _)) ?_
                    refine D_yes (Base.Le.refl _) 16 72 rfl (by kernel_rfl) (by kernel_rfl) (by kernel_rfl) rfl rfl rfl rfl (st_move rfl) (.cons_cons _ (.refl _)) ?_
                    refine D_yes (Base.Le.refl _) 17 72 rfl (by kernel_rfl) (by kernel_rfl) (by kernel_rfl) rfl rfl rfl rfl (st_gtr_f rfl rfl hc3353) (.cons_cons _ (.refl _)) ?_
                    refine D_yes (Base.Le.refl _) 18 72 rfl (by kernel_rfl) (by kernel_rfl) (by kernel_rfl) rfl rfl rfl rfl (st_move rfl) (.cons_cons _ (.refl _)) ?_
                    refine D_no (Base.Le.refl _) 19 75 rfl (by kernel_rfl) (by kernel_rfl) (by kernel_rfl) rfl rfl rfl rfl rfl (.cons_cons _ (.refl _)) ?_
                    refine D_no (Base.Le.refl _) 20 75 rfl (by kernel_rfl) (by kernel_rfl) (by kernel_rfl) rfl rfl rfl rfl rfl (.cons_cons _ (.refl _)) ?_
                    refine D_no (Base.Le.refl _) 21 75 rfl (by kernel_rfl) (by kernel_rfl) (by kernel_rfl) rfl rfl rfl rfl rfl (.cons_cons _ (.refl _)) ?_
                    refine D_no (Base.Le.refl _) 22 75 rfl (by kernel_rfl) (by kernel_rfl) (by kernel_rfl) rfl rfl rfl rfl rfl (.cons_cons _ (.refl _)) ?_
                    refine D_no (Base.Le.refl _) 23 75 rfl (by kernel_rfl) (by kernel_rfl) (by kernel_rfl) rfl rfl rfl rfl rfl (.cons_cons _ (.refl _)) ?_
                    refine D_no (Base.Le.refl _) 24 75 rfl (by kernel_rfl) (by kernel_rfl) (by kernel_rfl) rfl rfl rfl rfl rfl (.cons_cons _ (.refl _)) ?_
                    refine D_no (Base.Le.refl _) 25 75 rfl (by kernel_rfl) (by kernel_rfl) (by kernel_rfl) rfl rfl rfl rfl rfl (.cons_cons _ (.refl _)) ?_
                    refine D_no (Base.Le.refl _) 26 75 rfl (by kernel_rfl) (by kernel_rfl) (by kernel_rfl) rfl rfl rfl rfl rfl (.cons_cons _ (.refl _)) ?_
                    refine D_no (Base.Le.refl _) 27 75 rfl (by kernel_rfl) (by kernel_rfl) (by kernel_rfl) rfl rfl rfl rfl rfl (.cons_cons _ (.refl _)) ?_
                    refine D_no (Base.Le.refl _) 28 75 rfl (by kernel_rfl) (by kernel_rfl) (by kernel_rfl) rfl rfl rfl rfl rfl (.cons_cons _ (.refl _)) ?_
                    refine D_no (Base.Le.refl _) 29 75 rfl (by kernel_rfl) (by kernel_rfl) (by kernel_rfl) rfl rfl rfl rfl rfl (.cons_cons _ (.refl _)) ?_
                    refine D_no (Base.Le.refl _) 30 75 rfl (by kernel_rfl) (by kernel_rfl) (by kernel_rfl) rfl rfl rfl rfl rfl (.cons_cons _ (.refl _)) ?_
                    refine D_no (Base.Le.refl _) 31 75 rfl (by kernel_rfl) (by kernel_rfl) (by kernel_rfl) rfl rfl rfl rfl rfl (.cons_cons _ (.refl _)) ?_
                    refine D_no (Base.Le.refl _) 32 75 rfl (by kernel_rfl) (by kernel_rfl) (by kernel_rfl) rfl rfl rfl rfl rfl (.cons_cons _ (.refl _)) ?_
                    refine D_yes (Base.Le.refl _) 33 72 rfl (by kernel_rfl) (by kernel_rfl) (by kernel_rfl) rfl rfl rfl rfl (st_pick_f rfl rfl) (.cons_cons _ (.refl _)) ?_
                    refine D_st (Base.Le.refl _) 34 rfl (by kernel_rfl) (by kernel_rfl) (by kernel_rfl) rfl (st_pick_f rfl rfl) (.cons_cons _ (.refl _)) ?_
                    refine D_done (by kernel_rfl) ?_
                    obtain rfl := some1 hm
                    exact x_join (e' := [(0, .slice A1 (l4).length c2), (1, .slice A5 (l8).length c6), (2, .slice A9 (l12).length c10), (7, .pointer (some ⟨g1811, 0, none⟩)), (12, .int .i64 ((k2603 : Int))), (13, .slice A2617 (x2607).length c2618), (37, .slice A5 (l8).length c6), (38, .int .i64 ((l8.length : Int))), (39, .int .i64 ((k2603 : Int))), (44, .slice A2617 (x2607).length c2618), (45, .int .i64 ((x2607.length : Int))), (46, .int .i64 ((k3003 : Int))), (91, .bool (false))]) (hp' := (g1811, Cl 40 [.int .i64 (s13.Place), .int .i64 (s13.Long), .int .i64 (s13.Limit)]) :: R) ⟨rfl, rfl, rfl, rfl, rfl, rfl, rfl, rfl, rfl, rfl, rfl, rfl, rfl, trivial⟩ (.cons_cons _ (.refl _)) ⟨rfl, rfl, (Base.Le.refl _)⟩
              ·
                rintro b3203 _ _ ⟨rfl, rfl, hle3204⟩
                have hm := hk3206
                refine c_cond _ rfl (fun hc3387 => ?_) (fun hc3387 => ?_)
                ·
                  rw [if_pos hc3387] at hm
                  refine c_seq ?_
                  refine c_region ?_
                  refine t_st rfl (st_assign rfl) ?_
                  refine t_st rfl (st_assign rfl) ?_
                  refine t_nil ?_
                  refine x_then_normal ?_
                  refine c_ret ?_
                  refine x_block_ret ?_
                  refine x_then_ret ?_
                  refine x_then_ret ?_
                  refine x_block_ret ?_
                  refine x_block_ret ?_
                  refine x_then_ret ?_
                  refine x_then_ret ?_
                  refine x_block_ret ?_
                  refine x_then_ret ?_
                  have hq3388 := houtL2620 _ (Option.some.inj hm).symm
                  rw [hq3388] at hk3006
                  have hm := elimR hk3006
                  have hq3389 := houtL1819 _ (Option.some.inj hm).symm
                  rw [hq3389] at hk2606
                  have hm := elimR hk2606
                  obtain ⟨rfl, rfl⟩ := some2 hm
                  exact retM (rs := [.tmp 8, .tmp 9]) [.slice none 0 0, .int .i64 (13)] (hle2602.trans (hle3002.trans hle3204)) (by decide) rfl ⟨rfl, ⟨rfl, trivial⟩⟩ rfl (hp' := ([] ++ R)) (.cons _ (.refl _)) ⟨none, 0, [], rfl, rfl, OS.nil⟩
                ·
                  rw [if_neg (fun hh => Bool.noConfusion (hh.symm.trans hc3387))] at hm
                  refine c_skip ?_
                  refine x_block_normal ?_
                  refine x_then_normal ?_
                  refine c_region ?_
                  refine t_st rfl (st_add rfl rfl (by omega)) ?_
                  refine t_st rfl (st_move rfl) ?_
                  refine t_nil ?_
                  exact x_againM () (Option.some.inj hm).symm (e' := [(0, .slice A1 (l4).length c2), (1, .slice A5 (l8).length c6), (2, .slice A9 (l12).length c10), (7, .pointer (some ⟨g1811, 0, none⟩)), (12, .int .i64 ((k2603 : Int))), (13, .slice A2617 (x2607).length c2618), (37, .slice A5 (l8).length c6), (38, .int .i64 ((l8.length : Int))), (39, .int .i64 ((k2603 : Int))), (44, .slice A2617 (x2607).length c2618), (45, .int .i64 ((x2607.length : Int))), (46, .int .i64 ((k3003 : Int) + 1))]) (hp' := (g1811, Cl 40 [.int .i64 (s13.Place), .int .i64 (s13.Long), .int .i64 (s13.Limit)]) :: R) ⟨rfl, rfl, rfl, rfl, rfl, rfl, rfl, rfl, rfl, rfl, rfl, rfl, trivial⟩ (.cons_cons _ (.refl _)) ⟨rfl, rfl, ((hle3002.trans hle3204))⟩
          ·
            rintro _ b3001 _ _ ⟨rfl, rfl, hle3002⟩ hq3390
            rw [hq3390] at hk3006
            have hm := elimL hk3006
            refine c_seq ?_
            refine c_region ?_
            refine t_st rfl (st_lss_f rfl rfl (by omega)) ?_
            refine t_nil ?_
            refine x_then_normal ?_
            refine c_seq ?_
            refine c_cond_f rfl ?_
            refine c_exit ?_
            refine x_then_exit ?_
            refine x_then_exit ?_
            refine x_block_out ?_
            refine x_block_normal ?_
            refine x_then_normal ?_
            refine c_region ?_
            refine t_st rfl (st_add rfl rfl (by omega)) ?_
            refine t_st rfl (st_move rfl) ?_
            refine t_nil ?_
            exact x_againM () (Option.some.inj hm).symm (e' := [(0, .slice A1 (l4).length c2), (1, .slice A5 (l8).length c6), (2, .slice A9 (l12).length c10), (7, .pointer (some ⟨g1811, 0, none⟩)), (37, .slice A5 (l8).length c6), (38, .int .i64 ((l8.length : Int))), (39, .int .i64 ((k2603 : Int) + 1))]) (hp' := (g1811, Cl 40 [.int .i64 (s13.Place), .int .i64 (s13.Long), .int .i64 (s13.Limit)]) :: R) ⟨rfl, rfl, rfl, rfl, rfl, rfl, rfl, trivial⟩ (.cons_cons _ (.refl _)) ⟨rfl, rfl, ((hle2602.trans hle3002))⟩
        ·
          rintro _ b2601 _ _ ⟨rfl, rfl, hle2602⟩ hq3391
          rw [hq3391] at hk2606
          have hm := elimL hk2606
          refine c_seq ?_
          refine c_region ?_
          refine t_st rfl (st_lss_f rfl rfl (by omega)) ?_
          refine t_nil ?_
          refine x_then_normal ?_
          refine c_seq ?_
          refine c_cond_f rfl ?_
          refine c_exit ?_
          refine x_then_exit ?_
          refine x_then_exit ?_
          refine x_block_out ?_
          refine x_then_normal ?_
          refine c_seq ?_
          refine c_region ?_
          refine t_st rfl (st_assign rfl) ?_
          refine t_nil ?_
          refine x_then_normal ?_
          refine c_seq ?_
          refine c_seq ?_
          refine c_region ?_
          refine t_st rfl (st_move rfl) ?_
          refine t_st rfl (st_len rfl sl26) ?_
          refine t_st rfl (st_move rfl) ?_
          refine t_nil ?_
          refine x_then_normal ?_
          refine c_block ?_
          have hb3393 := (FZ.bd (h7.le hle2602))
          obtain ⟨t3534, hl3535, hk3536⟩ := bindS hm
          refine c_forM (fun k3533 => fun l3532 => fun b3525 e' hp' => ∃ (A3529 : Option Addr), ∃ (c3530 : Nat), ∃ (hs3528 : Hp), [(0, .slice A1 (l4).length c2), (2, .slice A9 (l12).length c10), (7, .pointer (some ⟨g1811, 0, none⟩)), (16, .slice A3529 (l3532).length c3530), (94, .slice A5 (l8).length c6), (95, .int .i64 ((l8.length : Int))), (96, .int .i64 ((k3533 : Int)))] = e' ∧ (g1811, Cl 40 [.int .i64 (s13.Place), .int .i64 (s13.Long), .int .i64 (s13.Limit)]) :: (hs3528 ++ R) = hp' ∧ b2601.Le b3525 ∧ OS 45 (OT.fr (RT.list (RT.int .i64))) b3525.w (.slice A3529 l3532.length c3530) l3532 hs3528) hl3535 (e' := [(0, .slice A1 (l4).length c2), (2, .slice A9 (l12).length c10), (7, .pointer (some ⟨g1811, 0, none⟩)), (16, .slice none 0 0), (94, .slice A5 (l8).length c6), (95, .int .i64 ((l8.length : Int))), (96, .int .i64 0)]) (hp' := (g1811, Cl 40 [.int .i64 (s13.Place), .int .i64 (s13.Long), .int .i64 (s13.Limit)]) :: ([] ++ R)) ⟨rfl, rfl, rfl, rfl, rfl, rfl, rfl, trivial⟩ (.cons_cons _ (.refl _)) ⟨none, 0, [], rfl, rfl, (Base.Le.refl _), OS.nil⟩ ?_ ?_
          ·
            rintro k3533 l3532 b3525 _ _ oL3392 hknL3392 ⟨A3529, c3530, hs3528, rfl, rfl, hle3526, h3531⟩ hstepL3392 houtL3392
            unfold mFleetInspect_L3392 at hstepL3392
            have hm := hstepL3392
            refine c_seq ?_
            refine c_region ?_
            refine t_st rfl (st_lss_t rfl rfl (by omega)) ?_
            refine t_nil ?_
            refine x_then_normal ?_
            refine c_seq ?_
            refine c_cond_t rfl ?_
            refine c_skip ?_
            refine x_then_normal ?_
            refine c_seq ?_
            refine c_block ?_
            refine c_seq ?_
            refine c_region ?_
            refine t_st rfl (st_move rfl) ?_
            obtain ⟨x3537, h3538, hm⟩ := bindS hm
            obtain ⟨j3539, hj3540, hx3541⟩ := idx_some h3538
            obtain ⟨cs3542, hr3543, hcs3544, hA3545, hlt3546⟩ := FZ.get (sz := 1) rfl (by decide) (h7.le (hle2602.trans hle3526)) hx3541
            obtain ⟨A3547, c3548, rfl, h3549⟩ := hr3543
            refine t_st rfl (st_index_old j3539 rfl rfl hj3540 hlt3546 hA3545 sl26) ?_
            refine t_st rfl (st_load_old rfl one45 (hcs3544 0 _ rfl)) ?_
            refine t_st rfl (st_assign rfl) ?_
            refine t_st rfl (st_assign rfl) ?_
            refine t_nil ?_
            refine x_then_normal ?_
            refine c_seq ?_
            obtain ⟨x3569, h3570, hm⟩ := bindS hm
            obtain ⟨⟨x3579, l3580⟩, hcl3581, hm⟩ := bindS hm
            have hm := (unc2E hm)
            refine D_drawS ((g1811, Cl 40 [.int .i64 (s13.Place), .int .i64 (s13.Long), .int .i64 (s13.Limit)]) :: (hs3528 ++ R)) mixed ?_
            refine D_st (Base.Le.refl _) 0 rfl (by kernel_rfl) (by kernel_rfl) (by kernel_rfl) rfl (st_move rfl) (.cons_cons _ (sub_app hs3528 (.refl _))) ?_
            refine D_st (Base.Le.refl _) 1 rfl (by kernel_rfl) (by kernel_rfl) (by kernel_rfl) rfl (st_move rfl) (.cons_cons _ (sub_app hs3528 (.refl _))) ?_
            refine D_st (Base.Le.refl _) 2 rfl (by kernel_rfl) (by kernel_rfl) (by kernel_rfl) rfl (st_move rfl) (.cons_cons _ (sub_app hs3528 (.refl _))) ?_
            refine D_st (Base.Le.refl _) 3 rfl (by kernel_rfl) (by kernel_rfl) (by kernel_rfl) rfl (st_move rfl) (.cons_cons _ (sub_app hs3528 (.refl _))) ?_
            obtain ⟨j3571, hj3572, hx3573⟩ := idx_some h3570
            obtain ⟨cs3574, hr3575, hcs3576, hA3577, hlt3578⟩ := FZ.get (sz := 2) rfl (by decide) (h11.le (hle2602.trans hle3526)) hx3573
            obtain ⟨_, _, rfl, rfl, rfl⟩ := hr3575
            refine D_st (Base.Le.refl _) 4 rfl (by kernel_rfl) (by kernel_rfl) (by kernel_rfl) rfl (st_index_old j3571 rfl rfl hj3572 hlt3578 hA3577 sl38) (.cons_cons _ (sub_app hs3528 (.refl _))) ?_
            refine D_st (Base.Le.refl _) 5 rfl (by kernel_rfl) (by kernel_rfl) (by kernel_rfl) rfl (st_loadN_old (vs := [.int .i64 (x3569.Home), .int .i64 (x3569.Km)]) 2 rfl agg47 hA3577 rfl (fun j u hu => hcs3576 j u hu)) (.cons_cons _ (sub_app hs3528 (.refl _))) ?_
            refine D_st (Base.Le.refl _) 6 rfl (by kernel_rfl) (by kernel_rfl) (by kernel_rfl) rfl (st_loadD (vs := [_, _, _]) 0 3 rfl agg40 rfl rfl rfl) (.cons_cons _ (sub_app hs3528 (.refl _))) ?_
            refine D_all [7] (by kernel_rfl) rfl ?_
            refine R_callGl (Base.Le.refl _) rfl rfl _ call49 rfl (cFleetPositions _ _ l4 x3537 x3569 s13 A1 c2 A3547 c3548 (h3.le (hle2602.trans hle3526)) h3549 x3579 l3580 hcl3581) ?_ ?_
            ·
              rintro _ b3582 _ hle3583 ⟨A3584, c3585, hs3586, rfl, rfl, h3587⟩
              refine ⟨.inr (sub_skip hs3586 (.cons_cons _ (sub_app hs3528 (.refl _)))), ?_⟩
              refine d_in1 [] [_] hs3586 (hs3528 ++ R) rfl ?_
              refine D_st hle3583 8 rfl (by kernel_rfl) (by kernel_rfl) (by kernel_rfl) rfl (st_move rfl) (.cons_cons _ (sub_skip hs3586 (sub_app hs3528 (.refl _)))) ?_
              refine D_st hle3583 9 rfl (by kernel_rfl) (by kernel_rfl) (by kernel_rfl) rfl (st_extract rfl rfl) (.cons_cons _ (sub_skip hs3586 (sub_app hs3528 (.refl _)))) ?_
              refine D_st hle3583 10 rfl (by kernel_rfl) (by kernel_rfl) (by kernel_rfl) rfl (st_extract rfl rfl) (.cons_cons _ (sub_skip hs3586 (sub_app hs3528 (.refl _)))) ?_
              refine D_st hle3583 11 rfl (by kernel_rfl) (by kernel_rfl) (by kernel_rfl) rfl (st_assign rfl) (.cons_cons _ (sub_skip hs3586 (sub_app hs3528 (.refl _)))) ?_
              refine D_st hle3583 12 rfl (by kernel_rfl) (by kernel_rfl) (by kernel_rfl) rfl (st_assign rfl) (.cons_cons _ (sub_skip hs3586 (sub_app hs3528 (.refl _)))) ?_
              refine D_done (by kernel_rfl) ?_
              refine x_then_normal ?_
              refine c_seq ?_
              refine c_seq ?_
              refine c_region ?_
              refine t_st rfl (st_move rfl) ?_
              refine t_st rfl (st_not rfl) ?_
              refine t_nil ?_
              refine x_then_normal ?_
              refine c_cond _ rfl (fun hc3588 => ?_) (fun hc3588 => ?_)
              ·
                rw [if_neg (fun hh => Bool.noConfusion (hh.symm.trans (notT hc3588)))] at hm
                refine c_seq ?_
                refine c_region ?_
                refine t_st rfl (st_assign rfl) ?_
                refine t_st rfl (st_assign rfl) ?_
                refine t_nil ?_
                refine x_then_normal ?_
                refine c_ret ?_
                refine x_then_ret ?_
                refine x_block_ret ?_
                refine x_then_ret ?_
                refine x_then_ret ?_
                refine x_block_ret ?_
                refine x_then_ret ?_
                have hq3589 := houtL3392 _ (Option.some.inj hm).symm
                rw [hq3589] at hk3536
                have hm := elimR hk3536
                obtain ⟨rfl, rfl⟩ := some2 hm
                exact retM (rs := [.tmp 8, .tmp 9]) [.slice none 0 0, .int .i64 (9)] (hle2602.trans (hle3526.trans hle3583)) (by decide) rfl ⟨rfl, ⟨rfl, trivial⟩⟩ rfl (hp' := ([] ++ R)) (.cons _ (sub_skip hs3586 (sub_skip hs3528 (.refl _)))) ⟨none, 0, [], rfl, rfl, OS.nil⟩
              ·
                rw [if_pos (notF hc3588)] at hm
                refine c_skip ?_
                refine x_then_normal ?_
                refine c_region ?_
                refine t_st rfl (st_move rfl) ?_
                refine t_st rfl (st_move rfl) ?_
                refine t_do rfl (u_bslice (el := 45) [(0, .slice A3584 (l3580).length c3585)] [.slice A3584 (l3580).length c3585] rfl (fun _ => by kernel_rfl)) ?_
                rintro _ _ ⟨g3590, rfl, rfl⟩
                refine t_frz [_, _] hs3586 (hs3528 ++ R) rfl ?_
                intro b3591 hle3592 hz3593
                have h3594 := OS.frz (l := l3580) h3587 hle3592.cells hz3593
                obtain ⟨_, h3595, hm⟩ := bindS hm
                have h3595 := room_some h3595
                refine t_do rfl (u_appOS (r := (RT.list (RT.int .i64))) (l := l3532) [_, _] R [[.slice A3584 (l3580).length c3585]] [l3580] rfl (by decide) sl26 inf45 rfl rfl rfl rfl (h3531.le (hle3583.trans hle3592)) rfl (fun w ho => Rd.own (i := 0) ho rfl) ⟨(RT.list_mk h3594), trivial⟩ h3595) ?_
                rintro _ _ ⟨hs3596, rfl, h3597⟩
                obtain ⟨A3598, c3599, rfl, _⟩ := h3597.form
                refine t_st rfl (st_assign rfl) ?_
                refine t_nil ?_
                refine x_block_normal ?_
                refine x_then_normal ?_
                refine c_region ?_
                refine t_st rfl (st_add rfl rfl (by omega)) ?_
                refine t_st rfl (st_move rfl) ?_
                refine t_nil ?_
                refine x_pullb 1 rfl ?_
                exact x_againM (l3532 ++ [l3580]) (Option.some.inj hm).symm (e' := [(0, .slice A1 (l4).length c2), (2, .slice A9 (l12).length c10), (7, .pointer (some ⟨g1811, 0, none⟩)), (16, .slice A3598 (l3532 ++ [l3580]).length c3599), (94, .slice A5 (l8).length c6), (95, .int .i64 ((l8.length : Int))), (96, .int .i64 ((k3533 : Int) + 1))]) (hp' := (g1811, Cl 40 [.int .i64 (s13.Place), .int .i64 (s13.Long), .int .i64 (s13.Limit)]) :: (hs3596 ++ R)) ⟨rfl, rfl, rfl, rfl, rfl, rfl, rfl, trivial⟩ (.cons_cons _ (.cons _ (sub_app hs3596 (.refl _)))) ⟨A3598, c3599, hs3596, rfl, rfl, ((hle3526.trans (hle3583.trans hle3592))), h3597⟩
            exact R_nil
          ·
            rintro l3532 b3525 _ _ ⟨A3529, c3530, hs3528, rfl, rfl, hle3526, h3531⟩ hq3600
            rw [hq3600] at hk3536
            have hm := elimL hk3536
            refine c_seq ?_
            refine c_region ?_
            refine t_st rfl (st_lss_f rfl rfl (by omega)) ?_
            refine t_nil ?_
            refine x_then_normal ?_
            refine c_seq ?_
            refine c_cond_f rfl ?_
            refine c_exit ?_
            refine x_then_exit ?_
            refine x_then_exit ?_
            refine x_block_out ?_
            refine x_then_normal ?_
            refine c_seq ?_
            refine c_region ?_
            refine t_st rfl (st_move rfl) ?_
            refine t_st rfl (st_assign rfl) ?_
            refine t_st rfl (st_assign rfl) ?_
            refine t_nil ?_
            refine x_then_normal ?_
            refine c_ret ?_
            obtain ⟨rfl, rfl⟩ := some2 hm
            exact retM (rs := [.tmp 8, .tmp 9]) [.slice A3529 (l3532).length c3530, .int .i64 (0)] (hle2602.trans hle3526) (by decide) rfl ⟨rfl, ⟨rfl, trivial⟩⟩ rfl (hp' := (hs3528 ++ R)) (.cons _ (sub_app hs3528 (.refl _))) ⟨A3529, c3530, hs3528, rfl, rfl, h3531⟩

set_option maxRecDepth 20000 in
theorem cFishref2CanInspect (b : Base) (R : Hp) (l4 : (List FleetTask)) (l8 : (List Int)) (s9 : FleetSet) (s10 : FleetShop) (x11 : Int) (A1 : Option Addr) (c2 : Nat) (A5 : Option Addr) (c6 : Nat) (h3 : FZ rFleetTask b.w A1 c2 l4) (h7 : FZ (RT.int .i64) b.w A5 c6 l8) (x285 : Bool) (hm : mFishref2CanInspect l4 l8 s9 s10 x11 = some x285) :
    CallsG Try.prog 83 [.slice A1 (l4).length c2, .slice A5 (l8).length c6, .agg #[.int .i64 (s9.Home), .int .i64 (s9.Km)], .agg #[.int .i64 (s10.Place), .int .i64 (s10.Long), .int .i64 (s10.Limit)], .int .i64 (x11)] b (R) (fun v b' hp' => .bool (x285) = v ∧ R = hp') := by
  refine fn_enterG 60 Try.func83 rfl Try.ntmps83 rfl ?_
  unfold mFishref2CanInspect at hm
  refine c_seq ?_
  refine c_region ?_
  refine t_do rfl (u_box _ rfl rfl) ?_
  rintro _ _ ⟨g286, rfl, rfl⟩
  refine t_do rfl (u_box _ rfl rfl) ?_
  rintro _ _ ⟨g287, rfl, rfl⟩
  refine t_st rfl (st_assign rfl) ?_
  refine t_nil ?_
  refine x_then_normal ?_
  refine c_seq ?_
  refine c_region ?_
  refine t_st rfl (st_field rfl fld47_0) ?_
  refine t_st rfl (st_load 1 rfl one3 rfl rfl) ?_
  refine t_st rfl (st_assign rfl) ?_
  refine t_st rfl (st_assign rfl) ?_
  refine t_nil ?_
  refine x_then_normal ?_
  obtain ⟨⟨x375, x376⟩, hj377, hk377⟩ := bindS hm
  refine c_join (fun b373 e' hp' => [(0, .slice A1 (l4).length c2), (1, .slice A5 (l8).length c6), (4, .int .i64 (x11)), (8, .pointer (some ⟨g287, 0, none⟩)), (11, .int .i64 (x375)), (12, .int .i64 (x376))] = e' ∧ (g287, Cl 40 [.int .i64 (s10.Place), .int .i64 (s10.Long), .int .i64 (s10.Limit)]) :: R = hp' ∧ b.Le b373) ?_ ?_
  ·
    have hm := hj377
    refine c_seq ?_
    refine c_region ?_
    refine t_st rfl (st_move rfl) ?_
    refine t_st rfl (st_gtr rfl rfl) ?_
    refine t_nil ?_
    refine x_then_normal ?_
    refine c_cond _ rfl (fun hc378 => ?_) (fun hc378 => ?_)
    ·
      rw [if_pos (of_decide_eq_true hc378)] at hm
      obtain ⟨_, h421, hm⟩ := bindS hm
      obtain ⟨x422, h423, hm⟩ := bindS hm
      obtain ⟨x432, h433, hm⟩ := bindS hm
      obtain ⟨_, h442, hm⟩ := bindS hm
      obtain ⟨x443, h444, hm⟩ := bindS hm
      obtain ⟨x453, h454, hm⟩ := bindS hm
      refine D_drawS ((g287, Cl 40 [.int .i64 (s10.Place), .int .i64 (s10.Long), .int .i64 (s10.Limit)]) :: (g286, Cl 47 [.int .i64 (s9.Home), .int .i64 (s9.Km)]) :: R) mixed ?_
      refine D_st (Base.Le.refl _) 0 rfl (by kernel_rfl) (by kernel_rfl) (by kernel_rfl) rfl (st_move rfl) (.cons_cons _ (.cons_cons _ (.refl _))) ?_
      refine D_st (Base.Le.refl _) 1 rfl (by kernel_rfl) (by kernel_rfl) (by kernel_rfl) rfl (st_move rfl) (.cons_cons _ (.cons_cons _ (.refl _))) ?_
      refine D_st (Base.Le.refl _) 2 rfl (by kernel_rfl) (by kernel_rfl) (by kernel_rfl) rfl (st_move rfl) (.cons_cons _ (.cons_cons _ (.refl _))) ?_
      have h421 := (chk_some h421).2
      refine D_st (Base.Le.refl _) 3 rfl (by kernel_rfl) (by kernel_rfl) (by kernel_rfl) rfl (st_sub rfl rfl h421) (.cons_cons _ (.cons_cons _ (.refl _))) ?_
      obtain ⟨j424, hj425, hx426⟩ := idx_some h423
      obtain ⟨cs427, hr428, hcs429, hA430, hlt431⟩ := FZ.get (sz := 1) rfl (by decide) h7 hx426
      obtain rfl := hr428
      refine D_st (Base.Le.refl _) 4 rfl (by kernel_rfl) (by kernel_rfl) (by kernel_rfl) rfl (st_index_old j424 rfl rfl hj425 hlt431 hA430 sl45) (.cons_cons _ (.cons_cons _ (.refl _))) ?_
      refine D_st (Base.Le.refl _) 5 rfl (by kernel_rfl) (by kernel_rfl) (by kernel_rfl) rfl (st_load_old rfl one3 (hcs429 0 _ rfl)) (.cons_cons _ (.cons_cons _ (.refl _))) ?_
      obtain ⟨j434, hj435, hx436⟩ := idx_some h433
      obtain ⟨cs437, hr438, hcs439, hA440, hlt441⟩ := FZ.get (sz := 6) rfl (by decide) h3 hx436
      obtain ⟨_, _, rfl, rfl, ⟨_, _, rfl, rfl, ⟨_, _, rfl, rfl, ⟨_, _, rfl, rfl, ⟨_, _, rfl, rfl, rfl⟩⟩⟩⟩⟩ := hr438
      refine D_st (Base.Le.refl _) 6 rfl (by kernel_rfl) (by kernel_rfl) (by kernel_rfl) rfl (st_index_old j434 rfl rfl hj435 hlt441 hA440 sl22) (.cons_cons _ (.cons_cons _ (.refl _))) ?_
      refine D_st (Base.Le.refl _) 7 rfl (by kernel_rfl) (by kernel_rfl) (by kernel_rfl) rfl (st_field_old rfl hA440 fld36_1) (.cons_cons _ (.cons_cons _ (.refl _))) ?_
      refine D_st (Base.Le.refl _) 8 rfl (by kernel_rfl) (by kernel_rfl) (by kernel_rfl) rfl (st_load_old rfl one3 (hcs439 1 _ rfl)) (.cons_cons _ (.cons_cons _ (.refl _))) ?_
      refine D_st (Base.Le.refl _) 9 rfl (by kernel_rfl) (by kernel_rfl) (by kernel_rfl) rfl (st_move rfl) (.cons_cons _ (.cons_cons _ (.refl _))) ?_
      refine D_st (Base.Le.refl _) 10 rfl (by kernel_rfl) (by kernel_rfl) (by kernel_rfl) rfl (st_move rfl) (.cons_cons _ (.cons_cons _ (.refl _))) ?_
      refine D_st (Base.Le.refl _) 11 rfl (by kernel_rfl) (by kernel_rfl) (by kernel_rfl) rfl (st_move rfl) (.cons_cons _ (.cons_cons _ (.refl _))) ?_
      have h442 := (chk_some h442).2
      refine D_st (Base.Le.refl _) 12 rfl (by kernel_rfl) (by kernel_rfl) (by kernel_rfl) rfl (st_sub rfl rfl h442) (.cons_cons _ (.cons_cons _ (.refl _))) ?_
      obtain ⟨j445, hj446, hx447⟩ := idx_some h444
      obtain ⟨cs448, hr449, hcs450, hA451, hlt452⟩ := FZ.get (sz := 1) rfl (by decide) h7 hx447
      obtain rfl := hr449
      refine D_st (Base.Le.refl _) 13 rfl (by kernel_rfl) (by kernel_rfl) (by kernel_rfl) rfl (st_index_old j445 rfl rfl hj446 hlt452 hA451 sl45) (.cons_cons _ (.cons_cons _ (.refl _))) ?_
      refine D_st (Base.Le.refl _) 14 rfl (by kernel_rfl) (by kernel_rfl) (by kernel_rfl) rfl (st_load_old rfl one3 (hcs450 0 _ rfl)) (.cons_cons _ (.cons_cons _ (.refl _))) ?_
      obtain ⟨j455, hj456, hx457⟩ := idx_some h454
      obtain ⟨cs458, hr459, hcs460, hA461, hlt462⟩ := FZ.get (sz := 6) rfl (by decide) h3 hx457
      obtain ⟨_, _, rfl, rfl, ⟨_, _, rfl, rfl, ⟨_, _, rfl, rfl, ⟨_, _, rfl, rfl, ⟨_, _, rfl, rfl, rfl⟩⟩⟩⟩⟩ := hr459
      refine D_st (Base.Le.refl _) 15 rfl (by kernel_rfl) (by kernel_rfl) (by kernel_rfl) rfl (st_index_old j455 rfl rfl hj456 hlt462 hA461 sl22) (.cons_cons _ (.cons_cons _ (.refl _))) ?_
      refine D_st (Base.Le.refl _) 16 rfl (by kernel_rfl) (by kernel_rfl) (by kernel_rfl) rfl (st_field_old rfl hA461 fld36_3) (.cons_cons _ (.cons_cons _ (.refl _))) ?_
      refine D_st (Base.Le.refl _) 17 rfl (by kernel_rfl) (by kernel_rfl) (by kernel_rfl) rfl (st_load_old rfl one3 (hcs460 3 _ rfl)) (.cons_cons _ (.cons_cons _ (.refl _))) ?_
      refine D_st (Base.Le.refl _) 18 rfl (by kernel_rfl) (by kernel_rfl) (by kernel_rfl) rfl (st_assign rfl) (.cons_cons _ (.cons_cons _ (.refl _))) ?_
      refine D_st (Base.Le.refl _) 19 rfl (by kernel_rfl) (by kernel_rfl) (by kernel_rfl) rfl (st_assign rfl) (.cons_cons _ (.cons_cons _ (.refl _))) ?_
      refine D_done (by kernel_rfl) ?_
      obtain ⟨rfl, rfl⟩ := some2 hm
      exact x_join (e' := [(0, .slice A1 (l4).length c2), (1, .slice A5 (l8).length c6), (4, .int .i64 (x11)), (8, .pointer (some ⟨g287, 0, none⟩)), (11, .int .i64 (x432.To)), (12, .int .i64 (x453.Arr))]) (hp' := (g287, Cl 40 [.int .i64 (s10.Place), .int .i64 (s10.Long), .int .i64 (s10.Limit)]) :: R) ⟨rfl, rfl, rfl, rfl, rfl, rfl, trivial⟩ (.cons_cons _ (.cons _ (.refl _))) ⟨rfl, rfl, (Base.Le.refl _)⟩
    ·
      rw [if_neg (of_decide_eq_false hc378)] at hm
      refine c_skip ?_
      obtain ⟨rfl, rfl⟩ := some2 hm
      exact x_join (e' := [(0, .slice A1 (l4).length c2), (1, .slice A5 (l8).length c6), (4, .int .i64 (x11)), (8, .pointer (some ⟨g287, 0, none⟩)), (11, .int .i64 (s9.Home)), (12, .int .i64 (0))]) (hp' := (g287, Cl 40 [.int .i64 (s10.Place), .int .i64 (s10.Long), .int .i64 (s10.Limit)]) :: R) ⟨rfl, rfl, rfl, rfl, rfl, rfl, trivial⟩ (.cons_cons _ (.cons _ (.refl _))) ⟨rfl, rfl, (Base.Le.refl _)⟩
  ·
    rintro b373 _ _ ⟨rfl, rfl, hle374⟩
    have hm := (unc2E hk377)
    obtain ⟨x511, hj512, hk512⟩ := bindS hm
    refine c_join (fun b509 e' hp' => [(10, .bool (x511))] = e' ∧ R = hp' ∧ b373.Le b509) ?_ ?_
    ·
      have hm := hj512
      by_cases hc536 : x375 = s10.Place
      ·
        rw [if_pos hc536] at hm
        by_cases hc537 : x11 = (l8.length : Int)
        ·
          rw [if_pos hc537] at hm
          refine D_drawS ((g287, Cl 40 [.int .i64 (s10.Place), .int .i64 (s10.Long), .int .i64 (s10.Limit)]) :: R) mixed ?_
          refine D_st (Base.Le.refl _) 0 rfl (by kernel_rfl) (by kernel_rfl) (by kernel_rfl) rfl (st_move rfl) (.cons_cons _ (.refl _)) ?_
          refine D_st (Base.Le.refl _) 1 rfl (by kernel_rfl) (by kernel_rfl) (by kernel_rfl) rfl (st_field rfl fld40_0) (.cons_cons _ (.refl _)) ?_
          refine D_st (Base.Le.refl _) 2 rfl (by kernel_rfl) (by kernel_rfl) (by kernel_rfl) rfl (st_load 0 rfl one3 rfl rfl) (.cons_cons _ (.refl _)) ?_
          refine D_st (Base.Le.refl _) 3 rfl (by kernel_rfl) (by kernel_rfl) (by kernel_rfl) rfl (st_eql_t rfl rfl hc536) (.cons_cons _ (.refl _)) ?_
          refine D_st (Base.Le.refl _) 4 rfl (by kernel_rfl) (by kernel_rfl) (by kernel_rfl) rfl (st_move rfl) (.cons_cons _ (.refl _)) ?_
          refine D_yes (Base.Le.refl _) 5 39 rfl (by kernel_rfl) (by kernel_rfl) (by kernel_rfl) rfl rfl rfl rfl (st_move rfl) (.cons_cons _ (.refl _)) ?_
          refine D_yes (Base.Le.refl _) 6 39 rfl (by kernel_rfl) (by kernel_rfl) (by kernel_rfl) rfl rfl rfl rfl (st_move rfl) (.cons_cons _ (.refl _)) ?_
          refine D_yes (Base.Le.refl _) 7 39 rfl (by kernel_rfl) (by kernel_rfl) (by kernel_rfl) rfl rfl rfl rfl (st_len rfl sl45) (.cons_cons _ (.refl _)) ?_
          refine D_yes (Base.Le.refl _) 8 39 rfl (by kernel_rfl) (by kernel_rfl) (by kernel_rfl) rfl rfl rfl rfl (st_eql_t rfl rfl hc537) (.cons_cons _ (.refl _)) ?_
          refine D_yes (Base.Le.refl _) 9 39 rfl (by kernel_rfl) (by kernel_rfl) (by kernel_rfl) rfl rfl rfl rfl (st_move rfl) (.cons_cons _ (.refl _)) ?_
          refine D_no (Base.Le.refl _) 10 44 rfl (by kernel_rfl) (by kernel_rfl) (by kernel_rfl) rfl rfl rfl rfl rfl (.cons_cons _ (.refl _)) ?_
          refine D_no (Base.Le.refl _) 11 44 rfl (by kernel_rfl) (by kernel_rfl) (by kernel_rfl) rfl rfl rfl rfl rfl (.cons_cons _ (.refl _)) ?_
          refine D_no (Base.Le.refl _) 12 44 rfl (by kernel_rfl) (by kernel_rfl) (by kernel_rfl) rfl rfl rfl rfl rfl (.cons_cons _ (.refl _)) ?_
          refine D_no (Base.Le.refl _) 13 44 rfl (by kernel_rfl) (by kernel_rfl) (by kernel_rfl) rfl rfl rfl rfl rfl (.cons_cons _ (.refl _)) ?_
          refine D_no (Base.Le.refl _) 14 44 rfl (by kernel_rfl) (by kernel_rfl) (by kernel_rfl) rfl rfl rfl rfl rfl (.cons_cons _ (.refl _)) ?_
          refine D_no (Base.Le.refl _) 15 44 rfl (by kernel_rfl) (by kernel_rfl) (by kernel_rfl) rfl rfl rfl rfl rfl (.cons_cons _ (.refl _)) ?_
          refine D_no (Base.Le.refl _) 16 44 rfl (by kernel_rfl) (by kernel_rfl) (by kernel_rfl) rfl rfl rfl rfl rfl (.cons_cons _ (.refl _)) ?_
          refine D_no (Base.Le.refl _) 17 44 rfl (by kernel_rfl) (by kernel_rfl) (by kernel_rfl) rfl rfl rfl rfl rfl (.cons_cons _ (.refl _)) ?_
          refine D_no (Base.Le.refl _) 18 44 rfl (by kernel_rfl) (by kernel_rfl) (by kernel_rfl) rfl rfl rfl rfl rfl (.cons_cons _ (.refl _)) ?_
          refine D_no (Base.Le.refl _) 19 44 rfl (by kernel_rfl) (by kernel_rfl) (by kernel_rfl) rfl rfl rfl rfl rfl (.cons_cons _ (.refl _)) ?_
          refine D_no (Base.Le.refl _) 20 44 rfl (by kernel_rfl) (by kernel_rfl) (by kernel_rfl) rfl rfl rfl rfl rfl (.cons_cons _ (.refl _)) ?_
          refine D_no (Base.Le.refl _) 21 44 rfl (by kernel_rfl) (by kernel_rfl) (by kernel_rfl) rfl rfl rfl rfl rfl (.cons_cons _ (.refl _)) ?_
          refine D_no (Base.Le.refl _) 22 44 rfl (by kernel_rfl) (by kernel_rfl) (by kernel_rfl) rfl rfl rfl rfl rfl (.cons_cons _ (.refl _)) ?_
          refine D_yes (Base.Le.refl _) 23 39 rfl (by kernel_rfl) (by kernel_rfl) (by kernel_rfl) rfl rfl rfl rfl (st_pick_t rfl rfl) (.cons_cons _ (.refl _)) ?_
          refine D_st (Base.Le.refl _) 24 rfl (by kernel_rfl) (by kernel_rfl) (by kernel_rfl) rfl (st_pick_t rfl rfl) (.cons_cons _ (.refl _)) ?_
          refine D_st (Base.Le.refl _) 25 rfl (by kernel_rfl) (by kernel_rfl) (by kernel_rfl) rfl (st_assign rfl) (.cons_cons _ (.refl _)) ?_
          refine D_done (by kernel_rfl) ?_
          obtain rfl := some1 hm
          exact x_join (e' := [(10, .bool (true))]) (hp' := R) ⟨rfl, trivial⟩ (.cons _ (.refl _)) ⟨rfl, rfl, (Base.Le.refl _)⟩
        ·
          rw [if_neg hc537] at hm
          obtain ⟨x538, h539, hm⟩ := bindS hm
          obtain ⟨x548, h549, hm⟩ := bindS hm
          obtain ⟨_, h558, hm⟩ := bindS hm
          refine D_drawS ((g287, Cl 40 [.int .i64 (s10.Place), .int .i64 (s10.Long), .int .i64 (s10.Limit)]) :: R) mixed ?_
          refine D_st (Base.Le.refl _) 0 rfl (by kernel_rfl) (by kernel_rfl) (by kernel_rfl) rfl (st_move rfl) (.cons_cons _ (.refl _)) ?_
          refine D_st (Base.Le.refl _) 1 rfl (by kernel_rfl) (by kernel_rfl) (by kernel_rfl) rfl (st_field rfl fld40_0) (.cons_cons _ (.refl _)) ?_
          refine D_st (Base.Le.refl _) 2 rfl (by kernel_rfl) (by kernel_rfl) (by kernel_rfl) rfl (st_load 0 rfl one3 rfl rfl) (.cons_cons _ (.refl _)) ?_
          refine D_st (Base.Le.refl _) 3 rfl (by kernel_rfl) (by kernel_rfl) (by kernel_rfl) rfl (st_eql_t rfl rfl hc536) (.cons_cons _ (.refl _)) ?_
          refine D_st (Base.Le.refl _) 4 rfl (by kernel_rfl) (by kernel_rfl) (by kernel_rfl) rfl (st_move rfl) (.cons_cons _ (.refl _)) ?_
          refine D_yes (Base.Le.refl _) 5 39 rfl (by kernel_rfl) (by kernel_rfl) (by kernel_rfl) rfl rfl rfl rfl (st_move rfl) (.cons_cons _ (.refl _)) ?_
          refine D_yes (Base.Le.refl _) 6 39 rfl (by kernel_rfl) (by kernel_rfl) (by kernel_rfl) rfl rfl rfl rfl (st_move rfl) (.cons_cons _ (.refl _)) ?_
          refine D_yes (Base.Le.refl _) 7 39 rfl (by kernel_rfl) (by kernel_rfl) (by kernel_rfl) rfl rfl rfl rfl (st_len rfl sl45) (.cons_cons _ (.refl _)) ?_
          refine D_yes (Base.Le.refl _) 8 39 rfl (by kernel_rfl) (by kernel_rfl) (by kernel_rfl) rfl rfl rfl rfl (st_eql_f rfl rfl hc537) (.cons_cons _ (.refl _)) ?_
          refine D_yes (Base.Le.refl _) 9 39 rfl (by kernel_rfl) (by kernel_rfl) (by kernel_rfl) rfl rfl rfl rfl (st_move rfl) (.cons_cons _ (.refl _)) ?_
          refine D_yes (Base.Le.refl _) 10 44 rfl (by kernel_rfl) (by kernel_rfl) (by kernel_rfl) rfl rfl rfl rfl (st_move rfl) (.cons_cons _ (.refl _)) ?_
          refine D_yes (Base.Le.refl _) 11 44 rfl (by kernel_rfl) (by kernel_rfl) (by kernel_rfl) rfl rfl rfl rfl (st_move rfl) (.cons_cons _ (.refl _)) ?_
          refine D_yes (Base.Le.refl _) 12 44 rfl (by kernel_rfl) (by kernel_rfl) (by kernel_rfl) rfl rfl rfl rfl (st_move rfl) (.cons_cons _ (.refl _)) ?_
          obtain ⟨j540, hj541, hx542⟩ := idx_some h539
          obtain ⟨cs543, hr544, hcs545, hA546, hlt547⟩ := FZ.get (sz := 1) rfl (by decide) (h7.le hle374) hx542
          obtain rfl := hr544
          refine D_yes (Base.Le.refl _) 13 44 rfl (by kernel_rfl) (by kernel_rfl) (by kernel_rfl) rfl rfl rfl rfl (st_index_old j540 rfl rfl hj541 hlt547 hA546 sl45) (.cons_cons _ (.refl _)) ?_
          refine D_yes (Base.Le.refl _) 14 44 rfl (by kernel_rfl) (by kernel_rfl) (by kernel_rfl) rfl rfl rfl rfl (st_load_old rfl one3 (hcs545 0 _ rfl)) (.cons_cons _ (.refl _)) ?_
          obtain ⟨j550, hj551, hx552⟩ := idx_some h549
          obtain ⟨cs553, hr554, hcs555, hA556, hlt557⟩ := FZ.get (sz := 6) rfl (by decide) (h3.le hle374) hx552
          obtain ⟨_, _, rfl, rfl, ⟨_, _, rfl, rfl, ⟨_, _, rfl, rfl, ⟨_, _, rfl, rfl, ⟨_, _, rfl, rfl, rfl⟩⟩⟩⟩⟩ := hr554
          refine D_yes (Base.Le.refl _) 15 44 rfl (by kernel_rfl) (by kernel_rfl) (by kernel_rfl) rfl rfl rfl rfl (st_index_old j550 rfl rfl hj551 hlt557 hA556 sl22) (.cons_cons _ (.refl _)) ?_
          refine D_yes (Base.Le.refl _) 16 44 rfl (by kernel_rfl) (by kernel_rfl) (by kernel_rfl) rfl rfl rfl rfl (st_field_old rfl hA556 fld36_2) (.cons_cons _ (.refl _)) ?_
          refine D_yes (Base.Le.refl _) 17 44 rfl (by kernel_rfl) (by kernel_rfl) (by kernel_rfl) rfl rfl rfl rfl (st_load_old rfl one3 (hcs555 2 _ rfl)) (.cons_cons _ (.refl _)) ?_
          refine D_yes (Base.Le.refl _) 18 44 rfl (by kernel_rfl) (by kernel_rfl) (by kernel_rfl) rfl rfl rfl rfl (st_move rfl) (.cons_cons _ (.refl _)) ?_
          refine D_yes (Base.Le.refl _) 19 44 rfl (by kernel_rfl) (by kernel_rfl) (by kernel_rfl) rfl rfl rfl rfl (st_field rfl fld40_1) (.cons_cons _ (.refl _)) ?_
          refine D_yes (Base.Le.refl _) 20 44 rfl (by kernel_rfl) (by kernel_rfl) (by kernel_rfl) rfl rfl rfl rfl (st_load 0 rfl one3 rfl rfl) (.cons_cons _ (.refl _)) ?_
          have h558 := (chk_some h558).2
          refine D_yes (Base.Le.refl _) 21 44 rfl (by kernel_rfl) (by kernel_rfl) (by kernel_rfl) rfl rfl rfl rfl (st_add rfl rfl h558) (.cons_cons _ (.refl _)) ?_
          refine D_yes (Base.Le.refl _) 22 44 rfl (by kernel_rfl) (by kernel_rfl) (by kernel_rfl) rfl rfl rfl rfl (st_geq rfl rfl) (.cons_cons _ (.refl _)) ?_
          refine D_yes (Base.Le.refl _) 23 39 rfl (by kernel_rfl) (by kernel_rfl) (by kernel_rfl) rfl rfl rfl rfl (st_pick_f rfl rfl) (.cons_cons _ (.refl _)) ?_
          refine D_st (Base.Le.refl _) 24 rfl (by kernel_rfl) (by kernel_rfl) (by kernel_rfl) rfl (st_pick_t rfl rfl) (.cons_cons _ (.refl _)) ?_
          refine D_st (Base.Le.refl _) 25 rfl (by kernel_rfl) (by kernel_rfl) (by kernel_rfl) rfl (st_assign rfl) (.cons_cons _ (.refl _)) ?_
          refine D_done (by kernel_rfl) ?_
          obtain rfl := some1 hm
          exact x_join (e' := [(10, .bool (decide ((x376 + s10.Long) ≤ x548.Dep)))]) (hp' := R) ⟨rfl, trivial⟩ (.cons _ (.refl _)) ⟨rfl, rfl, (Base.Le.refl _)⟩
      ·
        rw [if_neg hc536] at hm
        refine D_drawS ((g287, Cl 40 [.int .i64 (s10.Place), .int .i64 (s10.Long), .int .i64 (s10.Limit)]) :: R) mixed ?_
        refine D_st (Base.Le.refl _) 0 rfl (by kernel_rfl) (by kernel_rfl) (by kernel_rfl) rfl (st_move rfl) (.cons_cons _ (.refl _)) ?_
        refine D_st (Base.Le.refl _) 1 rfl (by kernel_rfl) (by kernel_rfl) (by kernel_rfl) rfl (st_field rfl fld40_0) (.cons_cons _ (.refl _)) ?_
        refine D_st (Base.Le.refl _) 2 rfl (by kernel_rfl) (by kernel_rfl) (by kernel_rfl) rfl (st_load 0 rfl one3 rfl rfl) (.cons_cons _ (.refl _)) ?_
        refine D_st (Base.Le.refl _) 3 rfl (by kernel_rfl) (by kernel_rfl) (by kernel_rfl) rfl (st_eql_f rfl rfl hc536) (.cons_cons _ (.refl _)) ?_
        refine D_st (Base.Le.refl _) 4 rfl (by kernel_rfl) (by kernel_rfl) (by kernel_rfl) rfl (st_move rfl) (.cons_cons _ (.refl _)) ?_
        refine D_no (Base.Le.refl _) 5 39 rfl (by kernel_rfl) (by kernel_rfl) (by kernel_rfl) rfl rfl rfl rfl rfl (.cons_cons _ (.refl _)) ?_
        refine D_no (Base.Le.refl _) 6 39 rfl (by kernel_rfl) (by kernel_rfl) (by kernel_rfl) rfl rfl rfl rfl rfl (.cons_cons _ (.refl _)) ?_
        refine D_no (Base.Le.refl _) 7 39 rfl (by kernel_rfl) (by kernel_rfl) (by kernel_rfl) rfl rfl rfl rfl rfl (.cons_cons _ (.refl _)) ?_
        refine D_no (Base.Le.refl _) 8 39 rfl (by kernel_rfl) (by kernel_rfl) (by kernel_rfl) rfl rfl rfl rfl rfl (.cons_cons _ (.refl _)) ?_
        refine D_no (Base.Le.refl _) 9 39 rfl (by kernel_rfl) (by kernel_rfl) (by kernel_rfl) rfl rfl rfl rfl rfl (.cons_cons _ (.refl _)) ?_
        refine D_no (Base.Le.refl _) 10 44 rfl (by kernel_rfl) (by kernel_rfl) (by kernel_rfl) rfl rfl rfl rfl rfl (.cons_cons _ (.refl _)) ?_
        refine D_no (Base.Le.refl _) 11 44 rfl (by kernel_rfl) (by kernel_rfl) (by kernel_rfl) rfl rfl rfl rfl rfl (.cons_cons _ (.refl _)) ?_
        refine D_no (Base.Le.refl _) 12 44 rfl (by kernel_rfl) (by kernel_rfl) (by kernel_rfl) rfl rfl rfl rfl rfl (.cons_cons _ (.refl _)) ?_
        refine D_no (Base.Le.refl _) 13 44 rfl (by kernel_rfl) (by kernel_rfl) (by kernel_rfl) rfl rfl rfl rfl rfl (.cons_cons _ (.refl _)) ?_
        refine D_no (Base.Le.refl _) 14 44 rfl (by kernel_rfl) (by kernel_rfl) (by kernel_rfl) rfl rfl rfl rfl rfl (.cons_cons _ (.refl _)) ?_
        refine D_no (Base.Le.refl _) 15 44 rfl (by kernel_rfl) (by kernel_rfl) (by kernel_rfl) rfl rfl rfl rfl rfl (.cons_cons _ (.refl _)) ?_
        refine D_no (Base.Le.refl _) 16 44 rfl (by kernel_rfl) (by kernel_rfl) (by kernel_rfl) rfl rfl rfl rfl rfl (.cons_cons _ (.refl _)) ?_
        refine D_no (Base.Le.refl _) 17 44 rfl (by kernel_rfl) (by kernel_rfl) (by kernel_rfl) rfl rfl rfl rfl rfl (.cons_cons _ (.refl _)) ?_
        refine D_no (Base.Le.refl _) 18 44 rfl (by kernel_rfl) (by kernel_rfl) (by kernel_rfl) rfl rfl rfl rfl rfl (.cons_cons _ (.refl _)) ?_
        refine D_no (Base.Le.refl _) 19 44 rfl (by kernel_rfl) (by kernel_rfl) (by kernel_rfl) rfl rfl rfl rfl rfl (.cons_cons _ (.refl _)) ?_
        refine D_no (Base.Le.refl _) 20 44 rfl (by kernel_rfl) (by kernel_rfl) (by kernel_rfl) rfl rfl rfl rfl rfl (.cons_cons _ (.refl _)) ?_
        refine D_no (Base.Le.refl _) 21 44 rfl (by kernel_rfl) (by kernel_rfl) (by kernel_rfl) rfl rfl rfl rfl rfl (.cons_cons _ (.refl _)) ?_
        refine D_no (Base.Le.refl _) 22 44 rfl (by kernel_rfl) (by kernel_rfl) (by kernel_rfl) rfl rfl rfl rfl rfl (.cons_cons _ (.refl _)) ?_
        refine D_no (Base.Le.refl _) 23 39 rfl (by kernel_rfl) (by kernel_rfl) (by kernel_rfl) rfl rfl rfl rfl rfl (.cons_cons _ (.refl _)) ?_
        refine D_st (Base.Le.refl _) 24 rfl (by kernel_rfl) (by kernel_rfl) (by kernel_rfl) rfl (st_pick_f rfl rfl) (.cons_cons _ (.refl _)) ?_
        refine D_st (Base.Le.refl _) 25 rfl (by kernel_rfl) (by kernel_rfl) (by kernel_rfl) rfl (st_assign rfl) (.cons_cons _ (.refl _)) ?_
        refine D_done (by kernel_rfl) ?_
        obtain rfl := some1 hm
        exact x_join (e' := [(10, .bool (false))]) (hp' := R) ⟨rfl, trivial⟩ (.cons _ (.refl _)) ⟨rfl, rfl, (Base.Le.refl _)⟩
    ·
      rintro b509 _ _ ⟨rfl, rfl, hle510⟩
      have hm := hk512
      refine c_ret ?_
      obtain rfl := some1 hm
      exact retM (rs := [.tmp 10]) [.bool (x511)] (hle374.trans hle510) (by decide) rfl ⟨rfl, trivial⟩ rfl (hp' := R) (.refl _) ⟨rfl, rfl⟩

set_option maxRecDepth 20000 in
theorem cSlicesIndex (b : Base) (R : Hp) (l4 : (List Int)) (x5 : Int) (A1 : Option Addr) (c2 : Nat) (h3 : FZ (RT.int .i64) b.w A1 c2 l4) (x38 : Int) (hm : mSlicesIndex l4 x5 = some x38) :
    CallsG Try.prog 51 [.slice A1 (l4).length c2, .int .i64 (x5)] b (R) (fun v b' hp' => .int .i64 (x38) = v ∧ R = hp') := by
  refine fn_enterG 19 Try.func51 rfl Try.ntmps51 rfl ?_
  unfold mSlicesIndex at hm
  refine c_seq ?_
  refine c_region ?_
  refine t_st rfl (st_assign rfl) ?_
  refine t_nil ?_
  refine x_then_normal ?_
  refine c_seq ?_
  refine c_seq ?_
  refine c_region ?_
  refine t_st rfl (st_move rfl) ?_
  refine t_st rfl (st_len rfl sl45) ?_
  refine t_st rfl (st_move rfl) ?_
  refine t_nil ?_
  refine x_then_normal ?_
  refine c_block ?_
  have hb40 := (FZ.bd h3)
  obtain ⟨t55, hl56, hk57⟩ := bindS hm
  refine c_forM (fun k54 => fun _ => fun b52 e' hp' => [(0, .slice A1 (l4).length c2), (1, .int .i64 (x5)), (7, .int .i64 ((l4.length : Int))), (8, .int .i64 ((k54 : Int)))] = e' ∧ R = hp' ∧ b.Le b52) hl56 (e' := [(0, .slice A1 (l4).length c2), (1, .int .i64 (x5)), (7, .int .i64 ((l4.length : Int))), (8, .int .i64 0)]) (hp' := R) ⟨rfl, rfl, rfl, rfl, trivial⟩ (.refl _) ⟨rfl, rfl, (Base.Le.refl _)⟩ ?_ ?_
  ·
    rintro k54 _ b52 _ _ oL39 hknL39 ⟨rfl, rfl, hle53⟩ hstepL39 houtL39
    unfold mSlicesIndex_L39 at hstepL39
    have hm := hstepL39
    refine c_seq ?_
    refine c_region ?_
    refine t_st rfl (st_lss_t rfl rfl (by omega)) ?_
    refine t_nil ?_
    refine x_then_normal ?_
    refine c_seq ?_
    refine c_cond_t rfl ?_
    refine c_skip ?_
    refine x_then_normal ?_
    refine c_seq ?_
    refine c_block ?_
    refine c_seq ?_
    refine c_region ?_
    refine t_st rfl (st_move rfl) ?_
    refine t_st rfl (st_assign rfl) ?_
    refine t_nil ?_
    refine x_then_normal ?_
    refine c_seq ?_
    refine c_region ?_
    refine t_st rfl (st_move rfl) ?_
    refine t_st rfl (st_move rfl) ?_
    refine t_st rfl (st_move rfl) ?_
    obtain ⟨x58, h59, hm⟩ := bindS hm
    obtain ⟨j60, hj61, hx62⟩ := idx_some h59
    obtain ⟨cs63, hr64, hcs65, hA66, hlt67⟩ := FZ.get (sz := 1) rfl (by decide) (h3.le hle53) hx62
    obtain rfl := hr64
    refine t_st rfl (st_index_old j60 rfl rfl hj61 hlt67 hA66 sl45) ?_
    refine t_st rfl (st_load_old rfl one3 (hcs65 0 _ rfl)) ?_
    refine t_st rfl (st_eql rfl rfl) ?_
    refine t_nil ?_
    refine x_then_normal ?_
    refine c_cond _ rfl (fun hc68 => ?_) (fun hc68 => ?_)
    ·
      rw [if_pos (of_decide_eq_true hc68)] at hm
      refine c_seq ?_
      refine c_region ?_
      refine t_st rfl (st_move rfl) ?_
      refine t_st rfl (st_assign rfl) ?_
      refine t_nil ?_
      refine x_then_normal ?_
      refine c_ret ?_
      refine x_block_ret ?_
      refine x_then_ret ?_
      refine x_then_ret ?_
      refine x_block_ret ?_
      refine x_then_ret ?_
      have hq69 := houtL39 _ (Option.some.inj hm).symm
      rw [hq69] at hk57
      have hm := elimR hk57
      obtain rfl := some1 hm
      exact retM (rs := [.tmp 4]) [.int .i64 ((k54 : Int))] hle53 (by decide) rfl ⟨rfl, trivial⟩ rfl (hp' := R) (.refl _) ⟨rfl, rfl⟩
    ·
      rw [if_neg (of_decide_eq_false hc68)] at hm
      refine c_skip ?_
      refine x_block_normal ?_
      refine x_then_normal ?_
      refine c_region ?_
      refine t_st rfl (st_add rfl rfl (by omega)) ?_
      refine t_st rfl (st_move rfl) ?_
      refine t_nil ?_
      exact x_againM () (Option.some.inj hm).symm (e' := [(0, .slice A1 (l4).length c2), (1, .int .i64 (x5)), (7, .int .i64 ((l4.length : Int))), (8, .int .i64 ((k54 : Int) + 1))]) (hp' := R) ⟨rfl, rfl, rfl, rfl, trivial⟩ (.refl _) ⟨rfl, rfl, (hle53)⟩
  ·
    rintro _ b52 _ _ ⟨rfl, rfl, hle53⟩ hq70
    rw [hq70] at hk57
    have hm := elimL hk57
    refine c_seq ?_
    refine c_region ?_
    refine t_st rfl (st_lss_f rfl rfl (by omega)) ?_
    refine t_nil ?_
    refine x_then_normal ?_
    refine c_seq ?_
    refine c_cond_f rfl ?_
    refine c_exit ?_
    refine x_then_exit ?_
    refine x_then_exit ?_
    refine x_block_out ?_
    refine x_then_normal ?_
    refine c_seq ?_
    refine c_region ?_
    refine t_st rfl (st_assign rfl) ?_
    refine t_nil ?_
    refine x_then_normal ?_
    refine c_ret ?_
    obtain rfl := some1 hm
    exact retM (rs := [.tmp 4]) [.int .i64 ((-1))] hle53 (by decide) rfl ⟨rfl, trivial⟩ rfl (hp' := R) (.refl _) ⟨rfl, rfl⟩

set_option maxRecDepth 20000 in
theorem cSlicesContains (b : Base) (R : Hp) (l4 : (List Int)) (x5 : Int) (A1 : Option Addr) (c2 : Nat) (h3 : FZ (RT.int .i64) b.w A1 c2 l4) (x8 : Bool) (hm : mSlicesContains l4 x5 = some x8) :
    CallsG Try.prog 20 [.slice A1 (l4).length c2, .int .i64 (x5)] b (R) (fun v b' hp' => .bool (x8) = v ∧ R = hp') := by
  refine fn_enterG 9 Try.func20 rfl Try.ntmps20 rfl ?_
  unfold mSlicesContains at hm
  refine c_seq ?_
  refine c_region ?_
  refine t_st rfl (st_assign rfl) ?_
  refine t_nil ?_
  refine x_then_normal ?_
  refine c_seq ?_
  refine c_region ?_
  refine t_st rfl (st_move rfl) ?_
  refine t_st rfl (st_move rfl) ?_
  obtain ⟨x9, hcl10, hm⟩ := bindS hm
  refine t_do rfl (u_callW0 _ call51 rfl (fun w ho => cSlicesIndex _ [] l4 x5 A1 c2 (h3.old ho) x9 hcl10) (fun _ _ _ h => h.2.symm)) ?_
  rintro _ _ ⟨⟨_, rfl, _⟩, rfl⟩
  refine t_st rfl (st_geq rfl rfl) ?_
  refine t_st rfl (st_assign rfl) ?_
  refine t_nil ?_
  refine x_then_normal ?_
  refine c_ret ?_
  obtain rfl := some1 hm
  exact retM (rs := [.tmp 4]) [.bool (decide (0 ≤ x9))] (Base.Le.refl _) (by decide) rfl ⟨rfl, trivial⟩ rfl (hp' := R) (.refl _) ⟨rfl, rfl⟩

end Go.Proofs.Ytajmocgpjkhjlaa
