/- Contracts: the code computes its model (part 3). -/
import Derived.Test.YtajmocgpjkhjlaaHP2
set_option linter.unusedVariables false
set_option linter.unusedSimpArgs false
namespace Go.Proofs.Ytajmocgpjkhjlaa
open Go.RowKit Go.Fp

set_option maxRecDepth 20000 in
theorem cFleetDo (b : Base) (R : Hp) (s1 : FleetDepot) (s8 : FleetMove) (A2 : Option Addr) (c3 : Nat) (A5 : Option Addr) (c6 : Nat) (h4 : FZ (RT.int .i64) b.w A2 c3 s1.Room) (h7 : FZ (RT.list (RT.int .i64)) b.w A5 c6 s1.Tracks) (x591 : Int) (x592 : Int) (l593 : (List Int)) (l594 : (List (List Int))) (hm : mFleetDo s1 s8 = some (x591, x592, l593, l594)) :
    CallsG Try.prog 64 [.agg #[.slice A2 (s1.Room).length c3, .slice A5 (s1.Tracks).length c6], .agg #[.int .i64 (s8.From), .int .i64 (s8.To)]] b (R) (fun v b' hp' => ∃ (A583 : Option Addr), ∃ (c584 : Nat), ∃ (hs582 : Hp), ∃ (A588 : Option Addr), ∃ (c589 : Nat), ∃ (hs587 : Hp), .tuple #[.agg #[.slice A583 (l593).length c584, .slice A588 (l594).length c589], .int .i64 (x591), .int .i64 (x592)] = v ∧ (hs582 ++ (hs587 ++ R)) = hp' ∧ OS 3 (OT.fr (RT.int .i64)) b'.w (.slice A583 l593.length c584) l593 hs582 ∧ OS 45 (OT.list 3 (OT.fr (RT.int .i64))) b'.w (.slice A588 l594.length c589) l594 hs587 ∧ (A588 = none ↔ l594 = [])) := by
  refine fn_enterG 131 Try.func64 rfl Try.ntmps64 rfl ?_
  unfold mFleetDo at hm
  refine c_sr ?_
  refine t_do rfl (u_box _ rfl rfl) ?_
  rintro _ _ ⟨g596, rfl, rfl⟩
  refine t_do rfl (u_box _ rfl rfl) ?_
  rintro _ _ ⟨g597, rfl, rfl⟩
  refine t_do rfl (u_alloc [.slice none 0 0, .slice none 0 0] zero63 rfl) ?_
  rintro _ _ ⟨g598, rfl, rfl⟩
  refine t_as rfl rfl ?_
  refine t_as rfl rfl ?_
  refine t_ne ?_
  refine c_sr ?_
  refine t_st rfl (st_func _ _ rfl rfl) ?_
  refine t_as rfl rfl ?_
  refine t_ne ?_
  refine c_seq ?_
  refine c_block ?_
  obtain ⟨x611, hj612, hk612⟩ := bindS hm
  refine c_join (fun b609 e' hp' => [(2, .pointer (some ⟨g596, 0, none⟩)), (3, .pointer (some ⟨g597, 0, none⟩)), (4, .pointer (some ⟨g598, 0, none⟩)), (14, .bool (x611))] = e' ∧ (g596, Cl 63 [.slice A2 (s1.Room).length c3, .slice A5 (s1.Tracks).length c6]) :: (g597, Cl 126 [.int .i64 (s8.From), .int .i64 (s8.To)]) :: (g598, Cl 63 [.slice none 0 0, .slice none 0 0]) :: R = hp' ∧ b.Le b609) ?_ ?_
  ·
   have hm := hj612
   refine c_region ?_
   refine t_mv rfl rfl ?_
   refine t_st rfl (st_field rfl fld126_0) ?_
   refine t_st rfl (st_load 1 rfl one3 rfl rfl) ?_
   obtain ⟨x613, hcl614, hm⟩ := bindS hm
   refine t_pullb 2 rfl ?_
   refine t_callvG #[] #[.pointer (some ⟨g596, 0, none⟩)] [.int .i64 (s8.From)] rfl rfl call96 rfl (cFleetDo_1 _ _ s8.From s1.Room s1.Tracks g596 A2 c3 A5 c6 h4 h7 x613 hcl614) ?_
   rintro _ b615 _ hle616 ⟨rfl, rfl⟩
   rcases Bool.eq_false_or_eq_true x613 with hc617 | hc617
   ·
    rw [if_pos hc617] at hm
    refine t_resp 18 rfl (v' := .bool true) (by rw [hc617] <;> rfl) ?_
    refine t_st rfl (st_not_t rfl) ?_
    refine t_mv rfl rfl ?_
    refine t_yes 20 rfl rfl rfl ?_
    refine t_mv rfl rfl ?_
    refine t_yes 20 rfl rfl rfl ?_
    refine t_st rfl (st_field rfl fld126_1) ?_
    refine t_yes 20 rfl rfl rfl ?_
    refine t_st rfl (st_load 2 rfl one3 rfl rfl) ?_
    refine t_yes 20 rfl rfl rfl ?_
    obtain ⟨x618, hcl619, hm⟩ := bindS hm
    refine t_callvG #[] #[.pointer (some ⟨g596, 0, none⟩)] [.int .i64 (s8.To)] rfl rfl call96 rfl (cFleetDo_1 _ _ s8.To s1.Room s1.Tracks g596 A2 c3 A5 c6 (h4.le hle616) (h7.le hle616) x618 hcl619) ?_
    rintro _ b620 _ hle621 ⟨rfl, rfl⟩
    rcases Bool.eq_false_or_eq_true x618 with hc622 | hc622
    ·
     rw [if_pos hc622] at hm
     refine t_resp 24 rfl (v' := .bool true) (by rw [hc622] <;> rfl) ?_
     refine t_yes 20 rfl rfl rfl ?_
     refine t_st rfl (st_not_t rfl) ?_
     refine t_yes 20 rfl rfl rfl ?_
     refine t_mv rfl rfl ?_
     refine t_no 26 rfl rfl rfl rfl rfl ?_
     refine t_no 26 rfl rfl rfl rfl rfl ?_
     refine t_no 26 rfl rfl rfl rfl rfl ?_
     refine t_yes 20 rfl rfl rfl ?_
     refine t_st rfl (st_pick_f rfl rfl) ?_
     refine t_st rfl (st_pick_f rfl rfl) ?_
     refine t_as rfl rfl ?_
     refine t_nil ?_
     obtain rfl := some1 hm
     refine x_pullb 1 rfl ?_
     refine x_pullb 2 rfl ?_
     refine x_pullb 2 rfl ?_
     exact x_join (e' := [(2, .pointer (some ⟨g596, 0, none⟩)), (3, .pointer (some ⟨g597, 0, none⟩)), (4, .pointer (some ⟨g598, 0, none⟩)), (14, .bool (false))]) ⟨rfl, rfl, rfl, rfl, trivial⟩ (.refl _) ⟨rfl, rfl, (hle616.trans hle621)⟩
    ·
     rw [if_neg (fun hh => Bool.noConfusion (hh.symm.trans hc622))] at hm
     refine t_resp 24 rfl (v' := .bool false) (by rw [hc622] <;> rfl) ?_
     refine t_yes 20 rfl rfl rfl ?_
     refine t_st rfl (st_not_f rfl) ?_
     refine t_yes 20 rfl rfl rfl ?_
     refine t_mv rfl rfl ?_
     refine t_yes 26 rfl rfl rfl ?_
     refine t_st rfl (st_field rfl fld126_1) ?_
     refine t_yes 26 rfl rfl rfl ?_
     refine t_st rfl (st_load 2 rfl one3 rfl rfl) ?_
     refine t_yes 26 rfl rfl rfl ?_
     refine t_st rfl (st_neq rfl rfl) ?_
     refine t_yes 20 rfl rfl rfl ?_
     refine t_st rfl (st_pick_t rfl rfl) ?_
     refine t_st rfl (st_pick_f rfl rfl) ?_
     refine t_as rfl rfl ?_
     refine t_nil ?_
     obtain rfl := some1 hm
     refine x_pullb 1 rfl ?_
     refine x_pullb 2 rfl ?_
     refine x_pullb 2 rfl ?_
     exact x_join (e' := [(2, .pointer (some ⟨g596, 0, none⟩)), (3, .pointer (some ⟨g597, 0, none⟩)), (4, .pointer (some ⟨g598, 0, none⟩)), (14, .bool (decide (s8.To ≠ (-1))))]) ⟨rfl, rfl, rfl, rfl, trivial⟩ (.refl _) ⟨rfl, rfl, (hle616.trans hle621)⟩
   ·
    rw [if_neg (fun hh => Bool.noConfusion (hh.symm.trans hc617))] at hm
    refine t_resp 18 rfl (v' := .bool false) (by rw [hc617] <;> rfl) ?_
    refine t_st rfl (st_not_f rfl) ?_
    refine t_mv rfl rfl ?_
    refine t_no 20 rfl rfl rfl rfl rfl ?_
    refine t_no 20 rfl rfl rfl rfl rfl ?_
    refine t_no 20 rfl rfl rfl rfl rfl ?_
    refine t_no 20 rfl rfl rfl rfl rfl ?_
    refine t_no 20 rfl rfl rfl rfl rfl ?_
    refine t_no 20 rfl rfl rfl rfl rfl ?_
    refine t_no 26 rfl rfl rfl rfl rfl ?_
    refine t_no 26 rfl rfl rfl rfl rfl ?_
    refine t_no 26 rfl rfl rfl rfl rfl ?_
    refine t_no 20 rfl rfl rfl rfl rfl ?_
    refine t_st rfl (st_pick_t rfl rfl) ?_
    refine t_as rfl rfl ?_
    refine t_nil ?_
    obtain rfl := some1 hm
    refine x_pullb 1 rfl ?_
    refine x_pullb 2 rfl ?_
    refine x_pullb 2 rfl ?_
    exact x_join (e' := [(2, .pointer (some ⟨g596, 0, none⟩)), (3, .pointer (some ⟨g597, 0, none⟩)), (4, .pointer (some ⟨g598, 0, none⟩)), (14, .bool (true))]) ⟨rfl, rfl, rfl, rfl, trivial⟩ (.refl _) ⟨rfl, rfl, hle616⟩
  ·
   rintro b609 _ _ ⟨rfl, rfl, hle610⟩
   have hm := hk612
   refine c_cond _ rfl (fun hc623 => ?_) (fun hc623 => ?_)
   ·
    rw [if_pos hc623] at hm
    refine c_sr ?_
    refine t_st rfl (st_build (v := .agg #[.slice none 0 0, .slice none 0 0]) [] rfl (fun _ => by kernel_rfl)) ?_
    refine t_do rfl (u_storeN (vs := [_, _]) 2 2 rfl rfl rfl siz63 rfl (mem_c rfl (mem_c rfl mem_n)) rfl (by simp)) ?_
    rintro _ _ rfl
    refine t_as rfl rfl ?_
    refine t_as rfl rfl ?_
    refine t_ne ?_
    refine c_ret ?_
    refine x_block_ret ?_
    refine x_then_ret ?_
    obtain ⟨rfl, rfl, rfl, rfl⟩ := some4 hm
    exact retM (rs := [.cell 4 63, .tmp 5, .tmp 6]) [.agg #[.slice none 0 0, .slice none 0 0], .int .i64 (0), .int .i64 (2)] hle610 (by decide) rfl ⟨⟨_, rfl, fun w ho => cell_agg (vs := [_, _]) 2 2 agg63 rfl rfl rfl w ho⟩, ⟨rfl, ⟨rfl, trivial⟩⟩⟩ rfl (.cons _ (.cons _ (.cons _ (.refl _)))) ⟨none, 0, [], none, 0, [], rfl, rfl, OS.nil, OS.nil, ⟨fun _ => rfl, fun _ => rfl⟩⟩
   ·
    rw [if_neg (fun hh => Bool.noConfusion (hh.symm.trans hc623))] at hm
    refine c_sr ?_
    refine t_st rfl (st_field rfl fld126_0) ?_
    refine t_st rfl (st_load 1 rfl one3 rfl rfl) ?_
    refine t_st rfl (st_field rfl fld126_1) ?_
    refine t_st rfl (st_load 1 rfl one3 rfl rfl) ?_
    refine t_st rfl (st_eql rfl rfl) ?_
    refine t_as rfl rfl ?_
    refine t_ne ?_
    refine c_cond _ rfl (fun hc624 => ?_) (fun hc624 => ?_)
    ·
     rw [if_pos (of_decide_eq_true hc624)] at hm
     refine c_sr ?_
     refine t_st rfl (st_build (v := .agg #[.slice none 0 0, .slice none 0 0]) [] rfl (fun _ => by kernel_rfl)) ?_
     refine t_do rfl (u_storeN (vs := [_, _]) 2 2 rfl rfl rfl siz63 rfl (mem_c rfl (mem_c rfl mem_n)) rfl (by simp)) ?_
     rintro _ _ rfl
     refine t_as rfl rfl ?_
     refine t_as rfl rfl ?_
     refine t_ne ?_
     refine c_ret ?_
     refine x_block_ret ?_
     refine x_then_ret ?_
     obtain ⟨rfl, rfl, rfl, rfl⟩ := some4 hm
     exact retM (rs := [.cell 4 63, .tmp 5, .tmp 6]) [.agg #[.slice none 0 0, .slice none 0 0], .int .i64 (0), .int .i64 (1)] hle610 (by decide) rfl ⟨⟨_, rfl, fun w ho => cell_agg (vs := [_, _]) 2 2 agg63 rfl rfl rfl w ho⟩, ⟨rfl, ⟨rfl, trivial⟩⟩⟩ rfl (.cons _ (.cons _ (.cons _ (.refl _)))) ⟨none, 0, [], none, 0, [], rfl, rfl, OS.nil, OS.nil, ⟨fun _ => rfl, fun _ => rfl⟩⟩
    ·
     rw [if_neg (of_decide_eq_false hc624)] at hm
     refine c_sr ?_
     refine t_st rfl (st_field rfl fld63_1) ?_
     refine t_st rfl (st_load 0 rfl one26 rfl rfl) ?_
     refine t_st rfl (st_field rfl fld126_0) ?_
     refine t_st rfl (st_load 1 rfl one3 rfl rfl) ?_
     obtain ⟨x625, h626, hm⟩ := bindS hm
     obtain ⟨j627, hj628, hx629⟩ := idx_some h626
     obtain ⟨cs630, hr631, hcs632, hA633, hlt634⟩ := FZ.get (sz := 1) rfl (by decide) (h7.le hle610) hx629
     obtain ⟨A635, c636, rfl, h637⟩ := hr631
     refine t_st rfl (st_index_old j627 rfl rfl hj628 hlt634 hA633 sl26) ?_
     refine t_st rfl (st_load_old rfl one45 (hcs632 0 _ rfl)) ?_
     refine t_st rfl (st_len rfl sl45) ?_
     refine t_st rfl (st_eql rfl rfl) ?_
     refine t_as rfl rfl ?_
     refine t_ne ?_
     refine c_cond _ rfl (fun hc638 => ?_) (fun hc638 => ?_)
     ·
      rw [if_pos (of_decide_eq_true hc638)] at hm
      refine c_sr ?_
      refine t_st rfl (st_build (v := .agg #[.slice none 0 0, .slice none 0 0]) [] rfl (fun _ => by kernel_rfl)) ?_
      refine t_do rfl (u_storeN (vs := [_, _]) 2 2 rfl rfl rfl siz63 rfl (mem_c rfl (mem_c rfl mem_n)) rfl (by simp)) ?_
      rintro _ _ rfl
      refine t_as rfl rfl ?_
      refine t_as rfl rfl ?_
      refine t_ne ?_
      refine c_ret ?_
      refine x_block_ret ?_
      refine x_then_ret ?_
      obtain ⟨rfl, rfl, rfl, rfl⟩ := some4 hm
      exact retM (rs := [.cell 4 63, .tmp 5, .tmp 6]) [.agg #[.slice none 0 0, .slice none 0 0], .int .i64 (0), .int .i64 (9)] hle610 (by decide) rfl ⟨⟨_, rfl, fun w ho => cell_agg (vs := [_, _]) 2 2 agg63 rfl rfl rfl w ho⟩, ⟨rfl, ⟨rfl, trivial⟩⟩⟩ rfl (.cons _ (.cons _ (.cons _ (.refl _)))) ⟨none, 0, [], none, 0, [], rfl, rfl, OS.nil, OS.nil, ⟨fun _ => rfl, fun _ => rfl⟩⟩
     ·
      rw [if_neg (of_decide_eq_false hc638)] at hm
      obtain ⟨x689, hj690, hk690⟩ := bindS hm
      refine c_join (fun b687 e' hp' => [(2, .pointer (some ⟨g596, 0, none⟩)), (3, .pointer (some ⟨g597, 0, none⟩)), (4, .pointer (some ⟨g598, 0, none⟩)), (50, .bool (x689))] = e' ∧ (g596, Cl 63 [.slice A2 (s1.Room).length c3, .slice A5 (s1.Tracks).length c6]) :: (g597, Cl 126 [.int .i64 (s8.From), .int .i64 (s8.To)]) :: (g598, Cl 63 [.slice none 0 0, .slice none 0 0]) :: R = hp' ∧ b609.Le b687) ?_ ?_
      ·
       have hm := hj690
       by_cases hc715 : 0 ≤ s8.To
       ·
        rw [if_pos hc715] at hm
        obtain ⟨x716, h717, hm⟩ := bindS hm
        obtain ⟨x729, h730, hm⟩ := bindS hm
        refine D_drawI mixed (.refl _) ?_
        refine E_st 0 rfl (st_field rfl fld126_1) ?_
        refine E_st 1 rfl (st_load 1 rfl one3 rfl rfl) ?_
        refine E_st 2 rfl (st_geq_t rfl rfl hc715) ?_
        refine E_st 3 rfl (st_move rfl) ?_
        refine E_yes 4 54 rfl (st_field rfl fld63_1) ?_
        refine E_yes 5 54 rfl (st_load 0 rfl one26 rfl rfl) ?_
        refine E_yes 6 54 rfl (st_field rfl fld126_1) ?_
        refine E_yes 7 54 rfl (st_load 1 rfl one3 rfl rfl) ?_
        obtain ⟨j718, hj719, hx720⟩ := idx_some h717
        obtain ⟨cs721, hr722, hcs723, hA724, hlt725⟩ := FZ.get (sz := 1) rfl (by decide) (h7.le hle610) hx720
        obtain ⟨A726, c727, rfl, h728⟩ := hr722
        refine E_yes 8 54 rfl (st_index_old j718 rfl rfl hj719 hlt725 hA724 sl26) ?_
        refine E_yes 9 54 rfl (st_load_old rfl one45 (hcs723 0 _ rfl)) ?_
        refine E_yes 10 54 rfl (st_len rfl sl45) ?_
        refine E_yes 11 54 rfl (st_field rfl fld63_0) ?_
        refine E_yes 12 54 rfl (st_load 0 rfl one45 rfl rfl) ?_
        refine E_yes 13 54 rfl (st_field rfl fld126_1) ?_
        refine E_yes 14 54 rfl (st_load 1 rfl one3 rfl rfl) ?_
        obtain ⟨j731, hj732, hx733⟩ := idx_some h730
        obtain ⟨cs734, hr735, hcs736, hA737, hlt738⟩ := FZ.get (sz := 1) rfl (by decide) (h4.le hle610) hx733
        obtain rfl := hr735
        refine E_yes 15 54 rfl (st_index_old j731 rfl rfl hj732 hlt738 hA737 sl45) ?_
        refine E_yes 16 54 rfl (st_load_old rfl one3 (hcs736 0 _ rfl)) ?_
        refine E_yes 17 54 rfl (st_geq rfl rfl) ?_
        refine E_st 18 rfl (st_pick_t rfl rfl) ?_
        refine E_st 19 rfl (st_assign rfl) ?_
        refine E_out ?_
        refine D_done (by kernel_rfl) ?_
        obtain rfl := some1 hm
        refine x_pullb 2 rfl ?_
        refine x_pullb 2 rfl ?_
        refine x_pullb 2 rfl ?_
        exact x_join (e' := [(2, .pointer (some ⟨g596, 0, none⟩)), (3, .pointer (some ⟨g597, 0, none⟩)), (4, .pointer (some ⟨g598, 0, none⟩)), (50, .bool (decide (x729 ≤ (x716.length : Int))))]) ⟨rfl, rfl, rfl, rfl, trivial⟩ (.refl _) ⟨rfl, rfl, (Base.Le.refl _)⟩
       ·
        rw [if_neg hc715] at hm
        refine D_drawI mixed (.refl _) ?_
        refine E_st 0 rfl (st_field rfl fld126_1) ?_
        refine E_st 1 rfl (st_load 1 rfl one3 rfl rfl) ?_
        refine E_st 2 rfl (st_geq_f rfl rfl hc715) ?_
        refine E_st 3 rfl (st_move rfl) ?_
        refine E_no 4 54 rfl rfl rfl ?_
        refine E_no 5 54 rfl rfl rfl ?_
        refine E_no 6 54 rfl rfl rfl ?_
        refine E_no 7 54 rfl rfl rfl ?_
        refine E_no 8 54 rfl rfl rfl ?_
        refine E_no 9 54 rfl rfl rfl ?_
        refine E_no 10 54 rfl rfl rfl ?_
        refine E_no 11 54 rfl rfl rfl ?_
        refine E_no 12 54 rfl rfl rfl ?_
        refine E_no 13 54 rfl rfl rfl ?_
        refine E_no 14 54 rfl rfl rfl ?_
        refine E_no 15 54 rfl rfl rfl ?_
        refine E_no 16 54 rfl rfl rfl ?_
        refine E_no 17 54 rfl rfl rfl ?_
        refine E_st 18 rfl (st_pick_f rfl rfl) ?_
        refine E_st 19 rfl (st_assign rfl) ?_
        refine E_out ?_
        refine D_done (by kernel_rfl) ?_
        obtain rfl := some1 hm
        refine x_pullb 2 rfl ?_
        refine x_pullb 2 rfl ?_
        refine x_pullb 2 rfl ?_
        exact x_join (e' := [(2, .pointer (some ⟨g596, 0, none⟩)), (3, .pointer (some ⟨g597, 0, none⟩)), (4, .pointer (some ⟨g598, 0, none⟩)), (50, .bool (false))]) ⟨rfl, rfl, rfl, rfl, trivial⟩ (.refl _) ⟨rfl, rfl, (Base.Le.refl _)⟩
      ·
       rintro b687 _ _ ⟨rfl, rfl, hle688⟩
       have hm := hk690
       refine c_cond _ rfl (fun hc739 => ?_) (fun hc739 => ?_)
       ·
        rw [if_pos hc739] at hm
        refine c_sr ?_
        refine t_st rfl (st_build (v := .agg #[.slice none 0 0, .slice none 0 0]) [] rfl (fun _ => by kernel_rfl)) ?_
        refine t_do rfl (u_storeN (vs := [_, _]) 2 2 rfl rfl rfl siz63 rfl (mem_c rfl (mem_c rfl mem_n)) rfl (by simp)) ?_
        rintro _ _ rfl
        refine t_as rfl rfl ?_
        refine t_as rfl rfl ?_
        refine t_ne ?_
        refine c_ret ?_
        refine x_block_ret ?_
        refine x_then_ret ?_
        obtain ⟨rfl, rfl, rfl, rfl⟩ := some4 hm
        exact retM (rs := [.cell 4 63, .tmp 5, .tmp 6]) [.agg #[.slice none 0 0, .slice none 0 0], .int .i64 (0), .int .i64 (14)] (hle610.trans hle688) (by decide) rfl ⟨⟨_, rfl, fun w ho => cell_agg (vs := [_, _]) 2 2 agg63 rfl rfl rfl w ho⟩, ⟨rfl, ⟨rfl, trivial⟩⟩⟩ rfl (.cons _ (.cons _ (.cons _ (.refl _)))) ⟨none, 0, [], none, 0, [], rfl, rfl, OS.nil, OS.nil, ⟨fun _ => rfl, fun _ => rfl⟩⟩
       ·
        rw [if_neg (fun hh => Bool.noConfusion (hh.symm.trans hc739))] at hm
        refine c_skip ?_
        refine x_block_normal ?_
        refine x_then_normal ?_
        refine c_sr ?_
        refine t_st rfl (st_field rfl fld63_0) ?_
        refine t_st rfl (st_load 0 rfl one45 rfl rfl) ?_
        obtain ⟨l740, hcl741, hm⟩ := bindS hm
        refine t_callG _ rfl call66 rfl (cSlicesClone _ _ s1.Room A2 c3 (h4.le (hle610.trans hle688)) l740 hcl741) ?_
        rintro _ b742 _ hle743 ⟨A744, c745, hs746, rfl, rfl, h747⟩
        refine t_in1 [] [_, _, _] hs746 R rfl ?_
        refine t_st rfl (st_build (v := .agg #[.slice A744 (l740).length c745, .slice none 0 0]) [(0, .slice A744 (l740).length c745)] rfl (fun _ => by kernel_rfl)) ?_
        refine t_do rfl (u_alloc [.slice none 0 0, .slice none 0 0] zero63 rfl) ?_
        rintro _ _ ⟨g748, rfl, rfl⟩
        refine t_do rfl (u_storeN (vs := [_, _]) 0 2 rfl rfl rfl siz63 rfl (mem_c rfl (mem_c rfl mem_n)) rfl (by simp)) ?_
        rintro _ _ rfl
        refine t_ne ?_
        refine c_seq ?_
        refine c_sr ?_
        refine t_st rfl (st_field rfl fld63_1) ?_
        refine t_st rfl (st_load 1 rfl one26 rfl rfl) ?_
        refine t_st rfl (st_len rfl sl26) ?_
        refine t_mv rfl rfl ?_
        refine t_ne ?_
        refine c_block ?_
        have hb750 : s1.Tracks.length ≤ 9223372036854775807 := (FZ.bd (h7.le (hle610.trans (hle688.trans hle743))))
        refine c_pullb 3 rfl ?_
        refine c_pullb 3 rfl ?_
        obtain ⟨l849, hl852, hk853⟩ := bindS hm
        refine c_forS (fun k851 => fun l849 => fun b842 e' hp' => ∃ (A846 : Option Addr), ∃ (c847 : Nat), ∃ (hs845 : Hp), [(3, .pointer (some ⟨g597, 0, none⟩)), (4, .pointer (some ⟨g598, 0, none⟩)), (8, .pointer (some ⟨g748, 0, none⟩)), (76, .slice A5 (s1.Tracks).length c6), (77, .int .i64 ((s1.Tracks.length : Int))), (78, .int .i64 ((k851 : Int)))] = e' ∧ (g597, Cl 126 [.int .i64 (s8.From), .int .i64 (s8.To)]) :: (g598, Cl 63 [.slice none 0 0, .slice none 0 0]) :: (g748, Cl 63 [.slice A744 (l740).length c745, .slice A846 (l849).length c847]) :: (hs746 ++ (hs845 ++ R)) = hp' ∧ b742.Le b842 ∧ OS 45 (OT.list 3 (OT.fr (RT.int .i64))) b842.w (.slice A846 l849.length c847) l849 hs845 ∧ (A846 = none ↔ l849 = [])) hl852 (e' := [(3, .pointer (some ⟨g597, 0, none⟩)), (4, .pointer (some ⟨g598, 0, none⟩)), (8, .pointer (some ⟨g748, 0, none⟩)), (76, .slice A5 (s1.Tracks).length c6), (77, .int .i64 ((s1.Tracks.length : Int))), (78, .int .i64 0)]) ⟨rfl, rfl, rfl, rfl, rfl, rfl, trivial⟩ (.cons_cons _ (.cons_cons _ (.cons_cons _ (.cons _ (.refl _))))) ⟨none, 0, [], rfl, rfl, (Base.Le.refl _), OS.nil, ⟨fun _ => rfl, fun _ => rfl⟩⟩ ?_ ?_
        ·
         rintro k851 l849 b842 _ _ oL749 hknL749 ⟨A846, c847, hs845, rfl, rfl, hle843, h848, hnz850⟩ hstepL749
         unfold mFleetDo_L749 at hstepL749
         have hm := hstepL749
         refine c_sr ?_
         refine t_st rfl (st_lss_t rfl rfl (by omega)) ?_
         refine t_ne ?_
         refine c_seq ?_
         refine c_cond_t rfl ?_
         refine c_skip ?_
         refine x_then_normal ?_
         refine c_seq ?_
         refine c_block ?_
         refine c_sr ?_
         obtain ⟨x854, h855, hm⟩ := bindS hm
         obtain ⟨j856, hj857, hx858⟩ := idx_some h855
         obtain ⟨cs859, hr860, hcs861, hA862, hlt863⟩ := FZ.get (sz := 1) rfl (by decide) (h7.le (hle610.trans (hle688.trans (hle743.trans hle843)))) hx858
         obtain ⟨A864, c865, rfl, h866⟩ := hr860
         refine t_st rfl (st_index_old j856 rfl rfl hj857 hlt863 hA862 sl26) ?_
         refine t_st rfl (st_load_old rfl one45 (hcs861 0 _ rfl)) ?_
         refine t_as rfl rfl ?_
         refine t_ne ?_
         obtain ⟨l881, hcl882, hm⟩ := bindS hm
         obtain ⟨_, h890, hm⟩ := bindS hm
         refine D_drawI mixed (.cons_cons _ (.cons_cons _ (.cons _ (sub_app hs746 (sub_skip hs845 (.refl _)))))) ?_
         refine E_st 0 rfl (st_field rfl fld63_1) ?_
         refine E_st 2 rfl (st_move rfl) ?_
         refine E_out ?_
         refine D_all [1, 3] (by kernel_rfl) rfl ?_
         refine R_do (Base.Le.refl _) rfl rfl (Stable.does (st_load 2 rfl one26 rfl rfl)) ?_ ?_
         ·
          rintro _ _ ⟨rfl, rfl⟩
          refine ⟨.inr (.cons_cons _ (.cons_cons _ (.cons _ (sub_app hs746 (sub_skip hs845 (.refl _)))))), ?_⟩
          refine D_all [3] (by kernel_rfl) rfl ?_
          refine R_callGl (Base.Le.refl _) rfl rfl _ call66 rfl (cSlicesClone _ _ x854 A864 c865 h866 l881 hcl882) ?_ ?_
          ·
           rintro _ b883 _ hle884 ⟨A885, c886, hs887, rfl, rfl, h888⟩
           refine ⟨.inr (sub_skip hs887 (.cons_cons _ (.cons_cons _ (.cons _ (sub_app hs746 (sub_skip hs845 (.refl _))))))), ?_⟩
           refine d_in1 [] [_, _, _] hs887 (hs746 ++ (hs845 ++ R)) rfl ?_
           refine D_all [4] (by kernel_rfl) rfl ?_
           refine R_do hle884 rfl rfl (u_bslice (el := 45) [(0, .slice A885 (l881).length c886)] [.slice A885 (l881).length c886] rfl (fun _ => by kernel_rfl)) ?_ ?_
           ·
            rintro _ _ ⟨g889, rfl, rfl⟩
            refine ⟨.inr (.cons _ (.cons_cons _ (.cons_cons _ (.cons _ (sub_skip hs887 (sub_app hs746 (sub_skip hs845 (.refl _)))))))), ?_⟩
            have h890 := room_some h890
            refine d_front3 [_, _, _, _] hs887 hs746 hs845 R rfl ?_
            refine D_all [5] (by kernel_rfl) rfl ?_
            refine R_do hle884 rfl rfl (u_appOO (o := (OT.list 3 (OT.fr (RT.int .i64)))) (a := l881) [_, _, _, _] hs887 (hs746 ++ R) [.slice A885 (l881).length c886] rfl (by decide) sl26 inf45 rfl rfl rfl (h848.le hle884) rfl (fun w ho => Rd.own (i := 0) ho rfl) ⟨_, rfl, h888⟩ h890) ?_ ?_
            ·
             rintro _ _ ⟨hs891, rfl, h892⟩
             obtain ⟨A893, c894, rfl, _⟩ := h892.form
             refine ⟨.inr (.cons _ (.cons_cons _ (.cons_cons _ (.cons _ (sub_skip hs891 (.refl _)))))), ?_⟩
             refine D_st hle884 6 rfl (by kernel_rfl) (by kernel_rfl) (by kernel_rfl) rfl (st_field rfl fld63_1) (.cons _ (.cons_cons _ (.cons_cons _ (.cons _ (sub_skip hs891 (.refl _)))))) ?_
             refine D_all [7] (by kernel_rfl) rfl ?_
             refine R_do hle884 rfl rfl (u_store 3 rfl rfl siz26 rfl rfl (by simp)) ?_ ?_
             ·
              rintro _ _ rfl
              refine ⟨.inl (by kernel_rfl), ?_⟩
              refine D_done (by kernel_rfl) ?_
              refine x_block_normal ?_
              refine x_then_normal ?_
              refine c_region ?_
              refine t_st rfl (st_add rfl rfl (by omega)) ?_
              refine t_mv rfl rfl ?_
              refine t_nil ?_
              refine x_pullb 3 rfl ?_
              refine x_pullb 3 rfl ?_
              refine x_pullb 3 rfl ?_
              refine x_front2 [_, _, _, _] hs891 hs746 R rfl ?_
              obtain rfl := some1 hm
              exact x_againS (e' := [(3, .pointer (some ⟨g597, 0, none⟩)), (4, .pointer (some ⟨g598, 0, none⟩)), (8, .pointer (some ⟨g748, 0, none⟩)), (76, .slice A5 (s1.Tracks).length c6), (77, .int .i64 ((s1.Tracks.length : Int))), (78, .int .i64 ((k851 : Int) + 1))]) ⟨rfl, rfl, rfl, rfl, rfl, rfl, trivial⟩ (.cons_cons _ (.cons_cons _ (.cons_cons _ (.cons _ (.refl _))))) ⟨A893, c894, hs891, rfl, rfl, ((hle843.trans hle884)), h892, (OS.nz h892 (by simp))⟩
             exact R_nil
            exact R_nil
           exact R_nil
          exact R_nil
         refine R_callGl (Base.Le.refl _) rfl rfl _ call66 rfl (cSlicesClone _ _ x854 A864 c865 h866 l881 hcl882) ?_ ?_
         ·
          rintro _ b883 _ hle884 ⟨A885, c886, hs887, rfl, rfl, h888⟩
          refine ⟨.inr (sub_skip hs887 (.cons_cons _ (.cons_cons _ (.cons _ (sub_app hs746 (sub_skip hs845 (.refl _))))))), ?_⟩
          refine d_in1 [] [_, _, _] hs887 (hs746 ++ (hs845 ++ R)) rfl ?_
          refine D_all [1, 4] (by kernel_rfl) rfl ?_
          refine R_do hle884 rfl rfl (Stable.does (st_load 2 rfl one26 rfl rfl)) ?_ ?_
          ·
           rintro _ _ ⟨rfl, rfl⟩
           refine ⟨.inr (.cons_cons _ (.cons_cons _ (.cons _ (sub_skip hs887 (sub_app hs746 (sub_skip hs845 (.refl _))))))), ?_⟩
           refine D_all [4] (by kernel_rfl) rfl ?_
           refine R_do hle884 rfl rfl (u_bslice (el := 45) [(0, .slice A885 (l881).length c886)] [.slice A885 (l881).length c886] rfl (fun _ => by kernel_rfl)) ?_ ?_
           ·
            rintro _ _ ⟨g889, rfl, rfl⟩
            refine ⟨.inr (.cons _ (.cons_cons _ (.cons_cons _ (.cons _ (sub_skip hs887 (sub_app hs746 (sub_skip hs845 (.refl _)))))))), ?_⟩
            have h890 := room_some h890
            refine d_front3 [_, _, _, _] hs887 hs746 hs845 R rfl ?_
            refine D_all [5] (by kernel_rfl) rfl ?_
            refine R_do hle884 rfl rfl (u_appOO (o := (OT.list 3 (OT.fr (RT.int .i64)))) (a := l881) [_, _, _, _] hs887 (hs746 ++ R) [.slice A885 (l881).length c886] rfl (by decide) sl26 inf45 rfl rfl rfl (h848.le hle884) rfl (fun w ho => Rd.own (i := 0) ho rfl) ⟨_, rfl, h888⟩ h890) ?_ ?_
            ·
             rintro _ _ ⟨hs891, rfl, h892⟩
             obtain ⟨A893, c894, rfl, _⟩ := h892.form
             refine ⟨.inr (.cons _ (.cons_cons _ (.cons_cons _ (.cons _ (sub_skip hs891 (.refl _)))))), ?_⟩
             refine D_st hle884 6 rfl (by kernel_rfl) (by kernel_rfl) (by kernel_rfl) rfl (st_field rfl fld63_1) (.cons _ (.cons_cons _ (.cons_cons _ (.cons _ (sub_skip hs891 (.refl _)))))) ?_
             refine D_all [7] (by kernel_rfl) rfl ?_
             refine R_do hle884 rfl rfl (u_store 3 rfl rfl siz26 rfl rfl (by simp)) ?_ ?_
             ·
              rintro _ _ rfl
              refine ⟨.inl (by kernel_rfl), ?_⟩
              refine D_done (by kernel_rfl) ?_
              refine x_block_normal ?_
              refine x_then_normal ?_
              refine c_region ?_
              refine t_st rfl (st_add rfl rfl (by omega)) ?_
              refine t_mv rfl rfl ?_
              refine t_nil ?_
              refine x_pullb 3 rfl ?_
              refine x_pullb 3 rfl ?_
              refine x_pullb 3 rfl ?_
              refine x_front2 [_, _, _, _] hs891 hs746 R rfl ?_
              obtain rfl := some1 hm
              exact x_againS (e' := [(3, .pointer (some ⟨g597, 0, none⟩)), (4, .pointer (some ⟨g598, 0, none⟩)), (8, .pointer (some ⟨g748, 0, none⟩)), (76, .slice A5 (s1.Tracks).length c6), (77, .int .i64 ((s1.Tracks.length : Int))), (78, .int .i64 ((k851 : Int) + 1))]) ⟨rfl, rfl, rfl, rfl, rfl, rfl, trivial⟩ (.cons_cons _ (.cons_cons _ (.cons_cons _ (.cons _ (.refl _))))) ⟨A893, c894, hs891, rfl, rfl, ((hle843.trans hle884)), h892, (OS.nz h892 (by simp))⟩
             exact R_nil
            exact R_nil
           exact R_nil
          refine R_do hle884 rfl rfl (u_bslice (el := 45) [(0, .slice A885 (l881).length c886)] [.slice A885 (l881).length c886] rfl (fun _ => by kernel_rfl)) ?_ ?_
          ·
           rintro _ _ ⟨g889, rfl, rfl⟩
           refine ⟨.inr (.cons _ (.cons_cons _ (.cons_cons _ (.cons _ (sub_skip hs887 (sub_app hs746 (sub_skip hs845 (.refl _)))))))), ?_⟩
           refine D_all [1] (by kernel_rfl) rfl ?_
           refine R_do hle884 rfl rfl (Stable.does (st_load 3 rfl one26 rfl rfl)) ?_ ?_
           ·
            rintro _ _ ⟨rfl, rfl⟩
            refine ⟨.inr (.cons _ (.cons_cons _ (.cons_cons _ (.cons _ (sub_skip hs887 (sub_app hs746 (sub_skip hs845 (.refl _)))))))), ?_⟩
            have h890 := room_some h890
            refine d_front3 [_, _, _, _] hs887 hs746 hs845 R rfl ?_
            refine D_all [5] (by kernel_rfl) rfl ?_
            refine R_do hle884 rfl rfl (u_appOO (o := (OT.list 3 (OT.fr (RT.int .i64)))) (a := l881) [_, _, _, _] hs887 (hs746 ++ R) [.slice A885 (l881).length c886] rfl (by decide) sl26 inf45 rfl rfl rfl (h848.le hle884) rfl (fun w ho => Rd.own (i := 0) ho rfl) ⟨_, rfl, h888⟩ h890) ?_ ?_
            ·
             rintro _ _ ⟨hs891, rfl, h892⟩
             obtain ⟨A893, c894, rfl, _⟩ := h892.form
             refine ⟨.inr (.cons _ (.cons_cons _ (.cons_cons _ (.cons _ (sub_skip hs891 (.refl _)))))), ?_⟩
             refine D_st hle884 6 rfl (by kernel_rfl) (by kernel_rfl) (by kernel_rfl) rfl (st_field rfl fld63_1) (.cons _ (.cons_cons _ (.cons_cons _ (.cons _ (sub_skip hs891 (.refl _)))))) ?_
             refine D_all [7] (by kernel_rfl) rfl ?_
             refine R_do hle884 rfl rfl (u_store 3 rfl rfl siz26 rfl rfl (by simp)) ?_ ?_
             ·
              rintro _ _ rfl
              refine ⟨.inl (by kernel_rfl), ?_⟩
              refine D_done (by kernel_rfl) ?_
              refine x_block_normal ?_
              refine x_then_normal ?_
              refine c_region ?_
              refine t_st rfl (st_add rfl rfl (by omega)) ?_
              refine t_mv rfl rfl ?_
              refine t_nil ?_
              refine x_pullb 3 rfl ?_
              refine x_pullb 3 rfl ?_
              refine x_pullb 3 rfl ?_
              refine x_front2 [_, _, _, _] hs891 hs746 R rfl ?_
              obtain rfl := some1 hm
              exact x_againS (e' := [(3, .pointer (some ⟨g597, 0, none⟩)), (4, .pointer (some ⟨g598, 0, none⟩)), (8, .pointer (some ⟨g748, 0, none⟩)), (76, .slice A5 (s1.Tracks).length c6), (77, .int .i64 ((s1.Tracks.length : Int))), (78, .int .i64 ((k851 : Int) + 1))]) ⟨rfl, rfl, rfl, rfl, rfl, rfl, trivial⟩ (.cons_cons _ (.cons_cons _ (.cons_cons _ (.cons _ (.refl _))))) ⟨A893, c894, hs891, rfl, rfl, ((hle843.trans hle884)), h892, (OS.nz h892 (by simp))⟩
             exact R_nil
            exact R_nil
           exact R_nil
          exact R_nil
         exact R_nil
        ·
         rintro b842 _ _ ⟨A846, c847, hs845, rfl, rfl, hle843, h848, hnz850⟩
         have hm := hk853
         refine c_sr ?_
         refine t_st rfl (st_lss_f rfl rfl (by omega)) ?_
         refine t_ne ?_
         refine c_seq ?_
         refine c_cond_f rfl ?_
         refine c_exit ?_
         refine x_then_exit ?_
         refine x_then_exit ?_
         refine x_block_out ?_
         refine x_then_normal ?_
         refine c_sr ?_
         refine t_st rfl (st_field rfl fld63_1) ?_
         refine t_st rfl (st_load 2 rfl one26 rfl rfl) ?_
         refine t_st rfl (st_field rfl fld126_0) ?_
         refine t_st rfl (st_load 0 rfl one3 rfl rfl) ?_
         obtain ⟨x895, h896, hm⟩ := bindS hm
         obtain ⟨j897, hj898, hx899⟩ := idx_some h896
         obtain ⟨cs900, hs905, P906, P907, hq908, hr901, hcs902, hA903, hlt904, hb909, hho910⟩ := OS.get (sz := 1) rfl (by decide) h848 hx899
         obtain ⟨v911, rfl, h912⟩ := hr901
         obtain ⟨A913, c914, rfl, _⟩ := h912.form
         refine t_st rfl (st_index_old j897 rfl rfl hj898 hlt904 hA903 sl26) ?_
         refine t_st rfl (st_load_rd rfl one45 (fun w ho => hcs902 w _ ho (.cons _ (.cons _ (.cons _ (sub_skip hs746 (List.sublist_append_left _ _))))) 0 _ rfl)) ?_
         refine t_as rfl rfl ?_
         refine t_ne ?_
         refine c_sr ?_
         refine t_mv rfl rfl ?_
         refine t_mv rfl rfl ?_
         refine t_st rfl (st_len rfl sl45) ?_
         obtain ⟨_, h915, hm⟩ := bindS hm
         have h915 := (chk_some h915).2
         refine t_st rfl (st_sub rfl rfl h915) ?_
         obtain ⟨x916, h917, hm⟩ := bindS hm
         obtain ⟨j918, hj919, hx920⟩ := idx_some h917
         obtain ⟨cs921, hs926, P927, P928, hq929, hr922, hcs923, hA924, hlt925, hb930, _⟩ := OS.get (sz := 1) rfl (by decide) h912 hx920
         obtain ⟨rfl, rfl⟩ := hr922
         have hcs931 := fun (w : World) (hp : Hp) (ho : Own b842 hp w) (hh : hs845.Sublist hp) => hcs923 w hp ho ((show hs905.Sublist hs845 by rw [hq908]; exact sub_skip _ (List.sublist_append_left _ _)).trans hh)
         refine t_st rfl (st_index_old j918 rfl rfl hj919 hlt925 hA924 sl45) ?_
         refine t_st rfl (st_load_rd rfl one3 (fun w ho => hcs931 w _ ho (.cons _ (.cons _ (.cons _ (sub_skip hs746 (List.sublist_append_left _ _))))) 0 _ rfl)) ?_
         refine t_as rfl rfl ?_
         refine t_ne ?_
         refine c_seq ?_
         obtain ⟨_, h968, hm⟩ := bindS hm
         obtain ⟨l969, h970, hm⟩ := bindS hm
         obtain ⟨x979, h980, hm⟩ := bindS hm
         refine c_front2 [_, _, _] hs746 hs845 R rfl ?_
         refine D_drawI mixed (.refl _) ?_
         refine E_st 0 rfl (st_field rfl fld63_1) ?_
         refine E_st 1 rfl (st_load 2 rfl one26 rfl rfl) ?_
         refine E_st 2 rfl (st_field rfl fld126_0) ?_
         refine E_st 3 rfl (st_load 0 rfl one3 rfl rfl) ?_
         refine E_st 4 rfl (st_move rfl) ?_
         refine E_st 5 rfl (st_move rfl) ?_
         refine E_st 6 rfl (st_len rfl sl45) ?_
         have h968 := (chk_some h968).2
         refine E_st 7 rfl (st_sub rfl rfl h968) ?_
         obtain ⟨j971, j972, hj973, hj974, hj975, hj976, hx977⟩ := cutS_some h970
         have h978 := OS.lc h912
         refine E_st 8 rfl (hx977 ▸ st_part (l := x895) j971 j972 rfl (.inl ⟨rfl, by omega⟩) (.inr ⟨_, _, _, rfl, rfl, hj974⟩) hj975 hj976 h978 sl45) ?_
         obtain ⟨j981, hj982, hx983⟩ := idx_some h980
         obtain ⟨cs984, hs989, P990, P991, hq992, hr985, hcs986, hA987, hlt988, hb993, hho994⟩ := OS.get (sz := 1) rfl (by decide) h848 hx983
         obtain ⟨v995, rfl, h996⟩ := hr985
         obtain ⟨A997, c998, rfl, _⟩ := h996.form
         refine E_st 9 rfl (st_index_old j981 rfl rfl hj982 hlt988 hA987 sl26) ?_
         refine E_out ?_
         obtain ⟨hs1001, hq1002, h1003⟩ := OS.sub (sz := 1) rfl h912 hj975 hj976
         rw [← hx977] at h1003
         obtain rfl : j897 = j981 := by omega
         refine D_all [10] (by kernel_rfl) rfl ?_
         refine R_do (Base.Le.refl _) rfl rfl (does_pre (own_cut [_, _, _] (hs746 ++ R) hq908 hq1002 rfl) (u_putHole hj898 (sz := 1) (a' := l969) rfl [_, _, _] hs1001 (hs746 ++ R) 1 [.slice (subA A913 c914 j971 1) (l969).length (c914 - j971)] rfl (hho910 _ (Base.Le.refl _)) rfl rfl rfl siz45 rfl (by decide) ⟨_, rfl, h1003⟩)) ?_ ?_
         ·
          rintro _ _ ⟨hs999, rfl, h1000⟩
          refine ⟨.inl (by kernel_rfl), ?_⟩
          refine d_hresp 2 rfl (o' := Cl 63 [.slice A744 (l740).length c745, .slice A846 (put l849 s8.From l969).length c847]) (by simp only [put_length]) ?_
          refine D_done (by kernel_rfl) ?_
          refine x_then_normal ?_
          obtain ⟨l1088, hj1090, hk1090⟩ := bindS hm
          refine c_join (fun b1081 e' hp' => ∃ (A1085 : Option Addr), ∃ (c1086 : Nat), ∃ (hs1084 : Hp), [(4, .pointer (some ⟨g598, 0, none⟩)), (8, .pointer (some ⟨g748, 0, none⟩)), (12, .int .i64 (x916))] = e' ∧ (g598, Cl 63 [.slice none 0 0, .slice none 0 0]) :: (g748, Cl 63 [.slice A744 (l740).length c745, .slice A1085 (l1088).length c1086]) :: (hs746 ++ (hs1084 ++ R)) = hp' ∧ b842.Le b1081 ∧ OS 45 (OT.list 3 (OT.fr (RT.int .i64))) b1081.w (.slice A1085 l1088.length c1086) l1088 hs1084 ∧ (A1085 = none ↔ l1088 = [])) ?_ ?_
          ·
           have hm := hj1090
           refine c_sr ?_
           refine t_st rfl (st_field rfl fld126_1) ?_
           refine t_st rfl (st_load 0 rfl one3 rfl rfl) ?_
           refine t_st rfl (st_geq rfl rfl) ?_
           refine t_ne ?_
           refine c_cond _ rfl (fun hc1091 => ?_) (fun hc1091 => ?_)
           ·
            rw [if_pos (of_decide_eq_true hc1091)] at hm
            obtain ⟨x1130, h1131, hm⟩ := bindS hm
            obtain ⟨_, h1151, hm⟩ := bindS hm
            obtain ⟨x1156, h1157, hm⟩ := bindS hm
            refine D_drawI mixed (.cons_cons _ (.cons_cons _ (.cons _ (sub_skip hs999 (.refl _))))) ?_
            refine E_st 0 rfl (st_field rfl fld63_1) ?_
            refine E_st 2 rfl (st_field rfl fld126_1) ?_
            refine E_st 3 rfl (st_load 0 rfl one3 rfl rfl) ?_
            refine E_st 4 rfl (st_field rfl fld63_1) ?_
            refine E_st 6 rfl (st_field rfl fld126_1) ?_
            refine E_st 7 rfl (st_load 0 rfl one3 rfl rfl) ?_
            refine E_st 10 rfl (st_move rfl) ?_
            refine E_out ?_
            refine D_all [1, 5, 11] (by kernel_rfl) rfl ?_
            refine R_do (Base.Le.refl _) rfl rfl (Stable.does (st_load 2 rfl one26 rfl rfl)) ?_ ?_
            ·
             rintro _ _ ⟨rfl, rfl⟩
             refine ⟨.inr (.cons_cons _ (.cons_cons _ (.cons _ (sub_skip hs999 (.refl _))))), ?_⟩
             refine D_all [5, 11] (by kernel_rfl) rfl ?_
             refine R_do (Base.Le.refl _) rfl rfl (Stable.does (st_load 2 rfl one26 rfl rfl)) ?_ ?_
             ·
              rintro _ _ ⟨rfl, rfl⟩
              refine ⟨.inr (.cons_cons _ (.cons_cons _ (.cons _ (sub_skip hs999 (.refl _))))), ?_⟩
              obtain ⟨j1132, hj1133, hx1134⟩ := idx_some h1131
              obtain ⟨cs1135, hs1140, P1141, P1142, hq1143, hr1136, hcs1137, hA1138, hlt1139, hb1144, hho1145⟩ := OS.get (sz := 1) rfl (by decide) h1000 hx1134
              obtain ⟨v1146, rfl, h1147⟩ := hr1136
              obtain ⟨A1148, c1149, rfl, _⟩ := h1147.form
              refine E_in (.cons_cons _ (.cons_cons _ (.cons _ (sub_skip hs999 (.refl _))))) ?_
              refine E_st 8 rfl (st_index_old j1132 rfl rfl hj1133 hlt1139 hA1138 sl26) ?_
              refine E_out ?_
              refine D_all [9, 11] (by kernel_rfl) rfl ?_
              refine R_do (Base.Le.refl _) rfl rfl (Stable.does (st_load_rd rfl one45 (fun w ho => hcs1137 w _ ho (.cons _ (.cons _ (.cons _ (List.sublist_append_left _ _)))) 0 _ rfl))) ?_ ?_
              ·
               rintro _ _ ⟨rfl, rfl⟩
               refine ⟨.inr (.cons_cons _ (.cons_cons _ (.cons _ (sub_skip hs999 (.refl _))))), ?_⟩
               refine D_all [11] (by kernel_rfl) rfl ?_
               refine R_do (Base.Le.refl _) rfl rfl (u_bslice (el := 3) [(0, .int .i64 (x916))] [.int .i64 (x916)] rfl (fun _ => by kernel_rfl)) ?_ ?_
               ·
                rintro _ _ ⟨g1150, rfl, rfl⟩
                refine ⟨.inr (.cons _ (.cons_cons _ (.cons_cons _ (.cons _ (sub_skip hs999 (.refl _)))))), ?_⟩
                have h1151 := room_some h1151
                refine D_all [12] (by kernel_rfl) rfl ?_
                refine R_do (Base.Le.refl _) rfl rfl (u_appIn (r := (RT.int .i64)) [_, _, _, _] (hs746 ++ R) [[.int .i64 (x916)]] [x916] rfl (by decide) sl45 inf3 rfl rfl rfl rfl hq1143 h1147 rfl (fun w ho => Rd.own (i := 0) ho rfl) ⟨rfl, trivial⟩ h1151) ?_ ?_
                ·
                 rintro _ _ ⟨hs1152, rfl, h1153⟩
                 obtain ⟨A1154, c1155, rfl, _⟩ := h1153.form
                 refine ⟨.inr (.cons _ (.cons_cons _ (.cons_cons _ (.cons _ (sub_skip hs1152 (sub_skip (P1141 ++ P1142) (.refl _))))))), ?_⟩
                 refine d_resp 116 rfl (v' := .slice A846 (put l849 s8.From l969).length c847) (by simp only [put_length]) ?_
                 refine d_hresp 3 rfl (o' := Cl 63 [.slice A744 (l740).length c745, .slice A846 (put l849 s8.From l969).length c847]) (by simp only [put_length]) ?_
                 obtain ⟨j1158, hj1159, hx1160⟩ := idx_some h1157
                 obtain rfl : j1132 = j1158 := by omega
                 refine E_in (.cons _ (.cons_cons _ (.cons_cons _ (.cons _ (sub_skip hs1152 (sub_skip (P1141 ++ P1142) (.refl _))))))) ?_
                 refine E_st 13 rfl (st_index_old j1132 rfl rfl hj1133 hlt1139 hA1138 sl26) ?_
                 refine E_out ?_
                 refine d_front2 [_, _, _, _] hs1152 (P1141 ++ P1142) (hs746 ++ R) rfl ?_
                 refine D_all [14] (by kernel_rfl) rfl ?_
                 refine R_do (Base.Le.refl _) rfl rfl (u_putHole hj1133 (sz := 1) (a' := x1130 ++ [x916]) rfl [_, _, _, _] hs1152 (hs746 ++ R) 1 [.slice A1154 (x1130 ++ [x916]).length c1155] rfl (hho1145 _ (Base.Le.refl _)) rfl rfl rfl siz45 rfl (by decide) ⟨_, rfl, h1153⟩) ?_ ?_
                 ·
                  rintro _ _ ⟨hs1166, rfl, h1167⟩
                  refine ⟨.inl (by kernel_rfl), ?_⟩
                  refine d_hresp 3 rfl (o' := Cl 63 [.slice A744 (l740).length c745, .slice A846 (put (put l849 s8.From l969) s8.To (x1130 ++ [x916])).length c847]) (by simp only [put_length]) ?_
                  refine D_done (by kernel_rfl) ?_
                  obtain rfl := some1 hm
                  refine x_pullb 3 rfl ?_
                  refine x_pullb 3 rfl ?_
                  refine x_front2 [_, _, _, _] hs1166 hs746 R rfl ?_
                  exact x_join (e' := [(4, .pointer (some ⟨g598, 0, none⟩)), (8, .pointer (some ⟨g748, 0, none⟩)), (12, .int .i64 (x916))]) ⟨rfl, rfl, rfl, trivial⟩ (.cons_cons _ (.cons_cons _ (.cons _ (.cons _ (.refl _))))) ⟨A846, c847, hs1166, rfl, rfl, (Base.Le.refl _), h1167, (put_nz (put_nz hnz850))⟩
                 exact R_nil
                exact R_nil
               exact R_nil
              refine R_do (Base.Le.refl _) rfl rfl (u_bslice (el := 3) [(0, .int .i64 (x916))] [.int .i64 (x916)] rfl (fun _ => by kernel_rfl)) ?_ ?_
              ·
               rintro _ _ ⟨g1150, rfl, rfl⟩
               refine ⟨.inr (.cons _ (.cons_cons _ (.cons_cons _ (.cons _ (sub_skip hs999 (.refl _)))))), ?_⟩
               refine D_all [9] (by kernel_rfl) rfl ?_
               refine R_do (Base.Le.refl _) rfl rfl (Stable.does (st_load_rd rfl one45 (fun w ho => hcs1137 w _ ho (.cons _ (.cons _ (.cons _ (.cons _ (List.sublist_append_left _ _))))) 0 _ rfl))) ?_ ?_
               ·
                rintro _ _ ⟨rfl, rfl⟩
                refine ⟨.inr (.cons _ (.cons_cons _ (.cons_cons _ (.cons _ (sub_skip hs999 (.refl _)))))), ?_⟩
                have h1151 := room_some h1151
                refine D_all [12] (by kernel_rfl) rfl ?_
                refine R_do (Base.Le.refl _) rfl rfl (u_appIn (r := (RT.int .i64)) [_, _, _, _] (hs746 ++ R) [[.int .i64 (x916)]] [x916] rfl (by decide) sl45 inf3 rfl rfl rfl rfl hq1143 h1147 rfl (fun w ho => Rd.own (i := 0) ho rfl) ⟨rfl, trivial⟩ h1151) ?_ ?_
                ·
                 rintro _ _ ⟨hs1152, rfl, h1153⟩
                 obtain ⟨A1154, c1155, rfl, _⟩ := h1153.form
                 refine ⟨.inr (.cons _ (.cons_cons _ (.cons_cons _ (.cons _ (sub_skip hs1152 (sub_skip (P1141 ++ P1142) (.refl _))))))), ?_⟩
                 refine d_resp 116 rfl (v' := .slice A846 (put l849 s8.From l969).length c847) (by simp only [put_length]) ?_
                 refine d_hresp 3 rfl (o' := Cl 63 [.slice A744 (l740).length c745, .slice A846 (put l849 s8.From l969).length c847]) (by simp only [put_length]) ?_
                 obtain ⟨j1158, hj1159, hx1160⟩ := idx_some h1157
                 obtain rfl : j1132 = j1158 := by omega
                 refine E_in (.cons _ (.cons_cons _ (.cons_cons _ (.cons _ (sub_skip hs1152 (sub_skip (P1141 ++ P1142) (.refl _))))))) ?_
                 refine E_st 13 rfl (st_index_old j1132 rfl rfl hj1133 hlt1139 hA1138 sl26) ?_
                 refine E_out ?_
                 refine d_front2 [_, _, _, _] hs1152 (P1141 ++ P1142) (hs746 ++ R) rfl ?_
                 refine D_all [14] (by kernel_rfl) rfl ?_
                 refine R_do (Base.Le.refl _) rfl rfl (u_putHole hj1133 (sz := 1) (a' := x1130 ++ [x916]) rfl [_, _, _, _] hs1152 (hs746 ++ R) 1 [.slice A1154 (x1130 ++ [x916]).length c1155] rfl (hho1145 _ (Base.Le.refl _)) rfl rfl rfl siz45 rfl (by decide) ⟨_, rfl, h1153⟩) ?_ ?_
                 ·
                  rintro _ _ ⟨hs1166, rfl, h1167⟩
                  refine ⟨.inl (by kernel_rfl), ?_⟩
                  refine d_hresp 3 rfl (o' := Cl 63 [.slice A744 (l740).length c745, .slice A846 (put (put l849 s8.From l969) s8.To (x1130 ++ [x916])).length c847]) (by simp only [put_length]) ?_
                  refine D_done (by kernel_rfl) ?_
                  obtain rfl := some1 hm
                  refine x_pullb 3 rfl ?_
                  refine x_pullb 3 rfl ?_
                  refine x_front2 [_, _, _, _] hs1166 hs746 R rfl ?_
                  exact x_join (e' := [(4, .pointer (some ⟨g598, 0, none⟩)), (8, .pointer (some ⟨g748, 0, none⟩)), (12, .int .i64 (x916))]) ⟨rfl, rfl, rfl, trivial⟩ (.cons_cons _ (.cons_cons _ (.cons _ (.cons _ (.refl _))))) ⟨A846, c847, hs1166, rfl, rfl, (Base.Le.refl _), h1167, (put_nz (put_nz hnz850))⟩
                 exact R_nil
                exact R_nil
               exact R_nil
              exact R_nil
             refine R_do (Base.Le.refl _) rfl rfl (u_bslice (el := 3) [(0, .int .i64 (x916))] [.int .i64 (x916)] rfl (fun _ => by kernel_rfl)) ?_ ?_
             ·
              rintro _ _ ⟨g1150, rfl, rfl⟩
              refine ⟨.inr (.cons _ (.cons_cons _ (.cons_cons _ (.cons _ (sub_skip hs999 (.refl _)))))), ?_⟩
              refine D_all [5] (by kernel_rfl) rfl ?_
              refine R_do (Base.Le.refl _) rfl rfl (Stable.does (st_load 3 rfl one26 rfl rfl)) ?_ ?_
              ·
               rintro _ _ ⟨rfl, rfl⟩
               refine ⟨.inr (.cons _ (.cons_cons _ (.cons_cons _ (.cons _ (sub_skip hs999 (.refl _)))))), ?_⟩
               obtain ⟨j1132, hj1133, hx1134⟩ := idx_some h1131
               obtain ⟨cs1135, hs1140, P1141, P1142, hq1143, hr1136, hcs1137, hA1138, hlt1139, hb1144, hho1145⟩ := OS.get (sz := 1) rfl (by decide) h1000 hx1134
               obtain ⟨v1146, rfl, h1147⟩ := hr1136
               obtain ⟨A1148, c1149, rfl, _⟩ := h1147.form
               refine E_in (.cons _ (.cons_cons _ (.cons_cons _ (.cons _ (sub_skip hs999 (.refl _)))))) ?_
               refine E_st 8 rfl (st_index_old j1132 rfl rfl hj1133 hlt1139 hA1138 sl26) ?_
               refine E_out ?_
               refine D_all [9] (by kernel_rfl) rfl ?_
               refine R_do (Base.Le.refl _) rfl rfl (Stable.does (st_load_rd rfl one45 (fun w ho => hcs1137 w _ ho (.cons _ (.cons _ (.cons _ (.cons _ (List.sublist_append_left _ _))))) 0 _ rfl))) ?_ ?_
               ·
                rintro _ _ ⟨rfl, rfl⟩
                refine ⟨.inr (.cons _ (.cons_cons _ (.cons_cons _ (.cons _ (sub_skip hs999 (.refl _)))))), ?_⟩
                have h1151 := room_some h1151
                refine D_all [12] (by kernel_rfl) rfl ?_
                refine R_do (Base.Le.refl _) rfl rfl (u_appIn (r := (RT.int .i64)) [_, _, _, _] (hs746 ++ R) [[.int .i64 (x916)]] [x916] rfl (by decide) sl45 inf3 rfl rfl rfl rfl hq1143 h1147 rfl (fun w ho => Rd.own (i := 0) ho rfl) ⟨rfl, trivial⟩ h1151) ?_ ?_
                ·
                 rintro _ _ ⟨hs1152, rfl, h1153⟩
                 obtain ⟨A1154, c1155, rfl, _⟩ := h1153.form
                 refine ⟨.inr (.cons _ (.cons_cons _ (.cons_cons _ (.cons _ (sub_skip hs1152 (sub_skip (P1141 ++ P1142) (.refl _))))))), ?_⟩
                 refine d_resp 116 rfl (v' := .slice A846 (put l849 s8.From l969).length c847) (by simp only [put_length]) ?_
                 refine d_hresp 3 rfl (o' := Cl 63 [.slice A744 (l740).length c745, .slice A846 (put l849 s8.From l969).length c847]) (by simp only [put_length]) ?_
                 obtain ⟨j1158, hj1159, hx1160⟩ := idx_some h1157
                 obtain rfl : j1132 = j1158 := by omega
                 refine E_in (.cons _ (.cons_cons _ (.cons_cons _ (.cons _ (sub_skip hs1152 (sub_skip (P1141 ++ P1142) (.refl _))))))) ?_
                 refine E_st 13 rfl (st_index_old j1132 rfl rfl hj1133 hlt1139 hA1138 sl26) ?_
                 refine E_out ?_
                 refine d_front2 [_, _, _, _] hs1152 (P1141 ++ P1142) (hs746 ++ R) rfl ?_
                 refine D_all [14] (by kernel_rfl) rfl ?_
                 refine R_do (Base.Le.refl _) rfl rfl (u_putHole hj1133 (sz := 1) (a' := x1130 ++ [x916]) rfl [_, _, _, _] hs1152 (hs746 ++ R) 1 [.slice A1154 (x1130 ++ [x916]).length c1155] rfl (hho1145 _ (Base.Le.refl _)) rfl rfl rfl siz45 rfl (by decide) ⟨_, rfl, h1153⟩) ?_ ?_
                 ·
                  rintro _ _ ⟨hs1166, rfl, h1167⟩
                  refine ⟨.inl (by kernel_rfl), ?_⟩
                  refine d_hresp 3 rfl (o' := Cl 63 [.slice A744 (l740).length c745, .slice A846 (put (put l849 s8.From l969) s8.To (x1130 ++ [x916])).length c847]) (by simp only [put_length]) ?_
                  refine D_done (by kernel_rfl) ?_
                  obtain rfl := some1 hm
                  refine x_pullb 3 rfl ?_
                  refine x_pullb 3 rfl ?_
                  refine x_front2 [_, _, _, _] hs1166 hs746 R rfl ?_
                  exact x_join (e' := [(4, .pointer (some ⟨g598, 0, none⟩)), (8, .pointer (some ⟨g748, 0, none⟩)), (12, .int .i64 (x916))]) ⟨rfl, rfl, rfl, trivial⟩ (.cons_cons _ (.cons_cons _ (.cons _ (.cons _ (.refl _))))) ⟨A846, c847, hs1166, rfl, rfl, (Base.Le.refl _), h1167, (put_nz (put_nz hnz850))⟩
                 exact R_nil
                exact R_nil
               exact R_nil
              exact R_nil
             exact R_nil
            refine R_do (Base.Le.refl _) rfl rfl (Stable.does (st_load 2 rfl one26 rfl rfl)) ?_ ?_
            ·
             rintro _ _ ⟨rfl, rfl⟩
             refine ⟨.inr (.cons_cons _ (.cons_cons _ (.cons _ (sub_skip hs999 (.refl _))))), ?_⟩
             obtain ⟨j1132, hj1133, hx1134⟩ := idx_some h1131
             obtain ⟨cs1135, hs1140, P1141, P1142, hq1143, hr1136, hcs1137, hA1138, hlt1139, hb1144, hho1145⟩ := OS.get (sz := 1) rfl (by decide) h1000 hx1134
             obtain ⟨v1146, rfl, h1147⟩ := hr1136
             obtain ⟨A1148, c1149, rfl, _⟩ := h1147.form
             refine E_in (.cons_cons _ (.cons_cons _ (.cons _ (sub_skip hs999 (.refl _))))) ?_
             refine E_st 8 rfl (st_index_old j1132 rfl rfl hj1133 hlt1139 hA1138 sl26) ?_
             refine E_out ?_
             refine D_all [1, 9, 11] (by kernel_rfl) rfl ?_
             refine R_do (Base.Le.refl _) rfl rfl (Stable.does (st_load 2 rfl one26 rfl rfl)) ?_ ?_
             ·
              rintro _ _ ⟨rfl, rfl⟩
              refine ⟨.inr (.cons_cons _ (.cons_cons _ (.cons _ (sub_skip hs999 (.refl _))))), ?_⟩
              refine D_all [9, 11] (by kernel_rfl) rfl ?_
              refine R_do (Base.Le.refl _) rfl rfl (Stable.does (st_load_rd rfl one45 (fun w ho => hcs1137 w _ ho (.cons _ (.cons _ (.cons _ (List.sublist_append_left _ _)))) 0 _ rfl))) ?_ ?_
              ·
               rintro _ _ ⟨rfl, rfl⟩
               refine ⟨.inr (.cons_cons _ (.cons_cons _ (.cons _ (sub_skip hs999 (.refl _))))), ?_⟩
               refine D_all [11] (by kernel_rfl) rfl ?_
               refine R_do (Base.Le.refl _) rfl rfl (u_bslice (el := 3) [(0, .int .i64 (x916))] [.int .i64 (x916)] rfl (fun _ => by kernel_rfl)) ?_ ?_
               ·
                rintro _ _ ⟨g1150, rfl, rfl⟩
                refine ⟨.inr (.cons _ (.cons_cons _ (.cons_cons _ (.cons _ (sub_skip hs999 (.refl _)))))), ?_⟩
                have h1151 := room_some h1151
                refine D_all [12] (by kernel_rfl) rfl ?_
                refine R_do (Base.Le.refl _) rfl rfl (u_appIn (r := (RT.int .i64)) [_, _, _, _] (hs746 ++ R) [[.int .i64 (x916)]] [x916] rfl (by decide) sl45 inf3 rfl rfl rfl rfl hq1143 h1147 rfl (fun w ho => Rd.own (i := 0) ho rfl) ⟨rfl, trivial⟩ h1151) ?_ ?_
                ·
                 rintro _ _ ⟨hs1152, rfl, h1153⟩
                 obtain ⟨A1154, c1155, rfl, _⟩ := h1153.form
                 refine ⟨.inr (.cons _ (.cons_cons _ (.cons_cons _ (.cons _ (sub_skip hs1152 (sub_skip (P1141 ++ P1142) (.refl _))))))), ?_⟩
                 refine d_resp 116 rfl (v' := .slice A846 (put l849 s8.From l969).length c847) (by simp only [put_length]) ?_
                 refine d_hresp 3 rfl (o' := Cl 63 [.slice A744 (l740).length c745, .slice A846 (put l849 s8.From l969).length c847]) (by simp only [put_length]) ?_
                 obtain ⟨j1158, hj1159, hx1160⟩ := idx_some h1157
                 obtain rfl : j1132 = j1158 := by omega
                 refine E_in (.cons _ (.cons_cons _ (.cons_cons _ (.cons _ (sub_skip hs1152 (sub_skip (P1141 ++ P1142) (.refl _))))))) ?_
                 refine E_st 13 rfl (st_index_old j1132 rfl rfl hj1133 hlt1139 hA1138 sl26) ?_
                 refine E_out ?_
                 refine d_front2 [_, _, _, _] hs1152 (P1141 ++ P1142) (hs746 ++ R) rfl ?_
                 refine D_all [14] (by kernel_rfl) rfl ?_
                 refine R_do (Base.Le.refl _) rfl rfl (u_putHole hj1133 (sz := 1) (a' := x1130 ++ [x916]) rfl [_, _, _, _] hs1152 (hs746 ++ R) 1 [.slice A1154 (x1130 ++ [x916]).length c1155] rfl (hho1145 _ (Base.Le.refl _)) rfl rfl rfl siz45 rfl (by decide) ⟨_, rfl, h1153⟩) ?_ ?_
                 ·
                  rintro _ _ ⟨hs1166, rfl, h1167⟩
                  refine ⟨.inl (by kernel_rfl), ?_⟩
                  refine d_hresp 3 rfl (o' := Cl 63 [.slice A744 (l740).length c745, .slice A846 (put (put l849 s8.From l969) s8.To (x1130 ++ [x916])).length c847]) (by simp only [put_length]) ?_
                  refine D_done (by kernel_rfl) ?_
                  obtain rfl := some1 hm
                  refine x_pullb 3 rfl ?_
                  refine x_pullb 3 rfl ?_
                  refine x_front2 [_, _, _, _] hs1166 hs746 R rfl ?_
                  exact x_join (e' := [(4, .pointer (some ⟨g598, 0, none⟩)), (8, .pointer (some ⟨g748, 0, none⟩)), (12, .int .i64 (x916))]) ⟨rfl, rfl, rfl, trivial⟩ (.cons_cons _ (.cons_cons _ (.cons _ (.cons _ (.refl _))))) ⟨A846, c847, hs1166, rfl, rfl, (Base.Le.refl _), h1167, (put_nz (put_nz hnz850))⟩
                 exact R_nil
                exact R_nil
               exact R_nil
              refine R_do (Base.Le.refl _) rfl rfl (u_bslice (el := 3) [(0, .int .i64 (x916))] [.int .i64 (x916)] rfl (fun _ => by kernel_rfl)) ?_ ?_
              ·
               rintro _ _ ⟨g1150, rfl, rfl⟩
               refine ⟨.inr (.cons _ (.cons_cons _ (.cons_cons _ (.cons _ (sub_skip hs999 (.refl _)))))), ?_⟩
               refine D_all [9] (by kernel_rfl) rfl ?_
               refine R_do (Base.Le.refl _) rfl rfl (Stable.does (st_load_rd rfl one45 (fun w ho => hcs1137 w _ ho (.cons _ (.cons _ (.cons _ (.cons _ (List.sublist_append_left _ _))))) 0 _ rfl))) ?_ ?_
               ·
                rintro _ _ ⟨rfl, rfl⟩
                refine ⟨.inr (.cons _ (.cons_cons _ (.cons_cons _ (.cons _ (sub_skip hs999 (.refl _)))))), ?_⟩
                have h1151 := room_some h1151
                refine D_all [12] (by kernel_rfl) rfl ?_
                refine R_do (Base.Le.refl _) rfl rfl (u_appIn (r := (RT.int .i64)) [_, _, _, _] (hs746 ++ R) [[.int .i64 (x916)]] [x916] rfl (by decide) sl45 inf3 rfl rfl rfl rfl hq1143 h1147 rfl (fun w ho => Rd.own (i := 0) ho rfl) ⟨rfl, trivial⟩ h1151) ?_ ?_
                ·
                 rintro _ _ ⟨hs1152, rfl, h1153⟩
                 obtain ⟨A1154, c1155, rfl, _⟩ := h1153.form
                 refine ⟨.inr (.cons _ (.cons_cons _ (.cons_cons _ (.cons _ (sub_skip hs1152 (sub_skip (P1141 ++ P1142) (.refl _))))))), ?_⟩
                 refine d_resp 116 rfl (v' := .slice A846 (put l849 s8.From l969).length c847) (by simp only [put_length]) ?_
                 refine d_hresp 3 rfl (o' := Cl 63 [.slice A744 (l740).length c745, .slice A846 (put l849 s8.From l969).length c847]) (by simp only [put_length]) ?_
                 obtain ⟨j1158, hj1159, hx1160⟩ := idx_some h1157
                 obtain rfl : j1132 = j1158 := by omega
                 refine E_in (.cons _ (.cons_cons _ (.cons_cons _ (.cons _ (sub_skip hs1152 (sub_skip (P1141 ++ P1142) (.refl _))))))) ?_
                 refine E_st 13 rfl (st_index_old j1132 rfl rfl hj1133 hlt1139 hA1138 sl26) ?_
                 refine E_out ?_
                 refine d_front2 [_, _, _, _] hs1152 (P1141 ++ P1142) (hs746 ++ R) rfl ?_
                 refine D_all [14] (by kernel_rfl) rfl ?_
                 refine R_do (Base.Le.refl _) rfl rfl (u_putHole hj1133 (sz := 1) (a' := x1130 ++ [x916]) rfl [_, _, _, _] hs1152 (hs746 ++ R) 1 [.slice A1154 (x1130 ++ [x916]).length c1155] rfl (hho1145 _ (Base.Le.refl _)) rfl rfl rfl siz45 rfl (by decide) ⟨_, rfl, h1153⟩) ?_ ?_
                 ·
                  rintro _ _ ⟨hs1166, rfl, h1167⟩
                  refine ⟨.inl (by kernel_rfl), ?_⟩
                  refine d_hresp 3 rfl (o' := Cl 63 [.slice A744 (l740).length c745, .slice A846 (put (put l849 s8.From l969) s8.To (x1130 ++ [x916])).length c847]) (by simp only [put_length]) ?_
                  refine D_done (by kernel_rfl) ?_
                  obtain rfl := some1 hm
                  refine x_pullb 3 rfl ?_
                  refine x_pullb 3 rfl ?_
                  refine x_front2 [_, _, _, _] hs1166 hs746 R rfl ?_
                  exact x_join (e' := [(4, .pointer (some ⟨g598, 0, none⟩)), (8, .pointer (some ⟨g748, 0, none⟩)), (12, .int .i64 (x916))]) ⟨rfl, rfl, rfl, trivial⟩ (.cons_cons _ (.cons_cons _ (.cons _ (.cons _ (.refl _))))) ⟨A846, c847, hs1166, rfl, rfl, (Base.Le.refl _), h1167, (put_nz (put_nz hnz850))⟩
                 exact R_nil
                exact R_nil
               exact R_nil
              exact R_nil
             refine R_do (Base.Le.refl _) rfl rfl (Stable.does (st_load_rd rfl one45 (fun w ho => hcs1137 w _ ho (.cons _ (.cons _ (.cons _ (List.sublist_append_left _ _)))) 0 _ rfl))) ?_ ?_
             ·
              rintro _ _ ⟨rfl, rfl⟩
              refine ⟨.inr (.cons_cons _ (.cons_cons _ (.cons _ (sub_skip hs999 (.refl _))))), ?_⟩
              refine D_all [1, 11] (by kernel_rfl) rfl ?_
              refine R_do (Base.Le.refl _) rfl rfl (Stable.does (st_load 2 rfl one26 rfl rfl)) ?_ ?_
              ·
               rintro _ _ ⟨rfl, rfl⟩
               refine ⟨.inr (.cons_cons _ (.cons_cons _ (.cons _ (sub_skip hs999 (.refl _))))), ?_⟩
               refine D_all [11] (by kernel_rfl) rfl ?_
               refine R_do (Base.Le.refl _) rfl rfl (u_bslice (el := 3) [(0, .int .i64 (x916))] [.int .i64 (x916)] rfl (fun _ => by kernel_rfl)) ?_ ?_
               ·
                rintro _ _ ⟨g1150, rfl, rfl⟩
                refine ⟨.inr (.cons _ (.cons_cons _ (.cons_cons _ (.cons _ (sub_skip hs999 (.refl _)))))), ?_⟩
                have h1151 := room_some h1151
                refine D_all [12] (by kernel_rfl) rfl ?_
                refine R_do (Base.Le.refl _) rfl rfl (u_appIn (r := (RT.int .i64)) [_, _, _, _] (hs746 ++ R) [[.int .i64 (x916)]] [x916] rfl (by decide) sl45 inf3 rfl rfl rfl rfl hq1143 h1147 rfl (fun w ho => Rd.own (i := 0) ho rfl) ⟨rfl, trivial⟩ h1151) ?_ ?_
                ·
                 rintro _ _ ⟨hs1152, rfl, h1153⟩
                 obtain ⟨A1154, c1155, rfl, _⟩ := h1153.form
                 refine ⟨.inr (.cons _ (.cons_cons _ (.cons_cons _ (.cons _ (sub_skip hs1152 (sub_skip (P1141 ++ P1142) (.refl _))))))), ?_⟩
                 refine d_resp 116 rfl (v' := .slice A846 (put l849 s8.From l969).length c847) (by simp only [put_length]) ?_
                 refine d_hresp 3 rfl (o' := Cl 63 [.slice A744 (l740).length c745, .slice A846 (put l849 s8.From l969).length c847]) (by simp only [put_length]) ?_
                 obtain ⟨j1158, hj1159, hx1160⟩ := idx_some h1157
                 obtain rfl : j1132 = j1158 := by omega
                 refine E_in (.cons _ (.cons_cons _ (.cons_cons _ (.cons _ (sub_skip hs1152 (sub_skip (P1141 ++ P1142) (.refl _))))))) ?_
                 refine E_st 13 rfl (st_index_old j1132 rfl rfl hj1133 hlt1139 hA1138 sl26) ?_
                 refine E_out ?_
                 refine d_front2 [_, _, _, _] hs1152 (P1141 ++ P1142) (hs746 ++ R) rfl ?_
                 refine D_all [14] (by kernel_rfl) rfl ?_
                 refine R_do (Base.Le.refl _) rfl rfl (u_putHole hj1133 (sz := 1) (a' := x1130 ++ [x916]) rfl [_, _, _, _] hs1152 (hs746 ++ R) 1 [.slice A1154 (x1130 ++ [x916]).length c1155] rfl (hho1145 _ (Base.Le.refl _)) rfl rfl rfl siz45 rfl (by decide) ⟨_, rfl, h1153⟩) ?_ ?_
                 ·
                  rintro _ _ ⟨hs1166, rfl, h1167⟩
                  refine ⟨.inl (by kernel_rfl), ?_⟩
                  refine d_hresp 3 rfl (o' := Cl 63 [.slice A744 (l740).length c745, .slice A846 (put (put l849 s8.From l969) s8.To (x1130 ++ [x916])).length c847]) (by simp only [put_length]) ?_
                  refine D_done (by kernel_rfl) ?_
                  obtain rfl := some1 hm
                  refine x_pullb 3 rfl ?_
                  refine x_pullb 3 rfl ?_
                  refine x_front2 [_, _, _, _] hs1166 hs746 R rfl ?_
                  exact x_join (e' := [(4, .pointer (some ⟨g598, 0, none⟩)), (8, .pointer (some ⟨g748, 0, none⟩)), (12, .int .i64 (x916))]) ⟨rfl, rfl, rfl, trivial⟩ (.cons_cons _ (.cons_cons _ (.cons _ (.cons _ (.refl _))))) ⟨A846, c847, hs1166, rfl, rfl, (Base.Le.refl _), h1167, (put_nz (put_nz hnz850))⟩
                 exact R_nil
                exact R_nil
               exact R_nil
              refine R_do (Base.Le.refl _) rfl rfl (u_bslice (el := 3) [(0, .int .i64 (x916))] [.int .i64 (x916)] rfl (fun _ => by kernel_rfl)) ?_ ?_
              ·
               rintro _ _ ⟨g1150, rfl, rfl⟩
               refine ⟨.inr (.cons _ (.cons_cons _ (.cons_cons _ (.cons _ (sub_skip hs999 (.refl _)))))), ?_⟩
               have h1151 := room_some h1151
               refine D_all [1, 12] (by kernel_rfl) rfl ?_
               refine R_do (Base.Le.refl _) rfl rfl (Stable.does (st_load 3 rfl one26 rfl rfl)) ?_ ?_
               ·
                rintro _ _ ⟨rfl, rfl⟩
                refine ⟨.inr (.cons _ (.cons_cons _ (.cons_cons _ (.cons _ (sub_skip hs999 (.refl _)))))), ?_⟩
                refine D_all [12] (by kernel_rfl) rfl ?_
                refine R_do (Base.Le.refl _) rfl rfl (u_appIn (r := (RT.int .i64)) [_, _, _, _] (hs746 ++ R) [[.int .i64 (x916)]] [x916] rfl (by decide) sl45 inf3 rfl rfl rfl rfl hq1143 h1147 rfl (fun w ho => Rd.own (i := 0) ho rfl) ⟨rfl, trivial⟩ h1151) ?_ ?_
                ·
                 rintro _ _ ⟨hs1152, rfl, h1153⟩
                 obtain ⟨A1154, c1155, rfl, _⟩ := h1153.form
                 refine ⟨.inr (.cons _ (.cons_cons _ (.cons_cons _ (.cons _ (sub_skip hs1152 (sub_skip (P1141 ++ P1142) (.refl _))))))), ?_⟩
                 refine d_resp 116 rfl (v' := .slice A846 (put l849 s8.From l969).length c847) (by simp only [put_length]) ?_
                 refine d_hresp 3 rfl (o' := Cl 63 [.slice A744 (l740).length c745, .slice A846 (put l849 s8.From l969).length c847]) (by simp only [put_length]) ?_
                 obtain ⟨j1158, hj1159, hx1160⟩ := idx_some h1157
                 obtain rfl : j1132 = j1158 := by omega
                 refine E_in (.cons _ (.cons_cons _ (.cons_cons _ (.cons _ (sub_skip hs1152 (sub_skip (P1141 ++ P1142) (.refl _))))))) ?_
                 refine E_st 13 rfl (st_index_old j1132 rfl rfl hj1133 hlt1139 hA1138 sl26) ?_
                 refine E_out ?_
                 refine d_front2 [_, _, _, _] hs1152 (P1141 ++ P1142) (hs746 ++ R) rfl ?_
                 refine D_all [14] (by kernel_rfl) rfl ?_
                 refine R_do (Base.Le.refl _) rfl rfl (u_putHole hj1133 (sz := 1) (a' := x1130 ++ [x916]) rfl [_, _, _, _] hs1152 (hs746 ++ R) 1 [.slice A1154 (x1130 ++ [x916]).length c1155] rfl (hho1145 _ (Base.Le.refl _)) rfl rfl rfl siz45 rfl (by decide) ⟨_, rfl, h1153⟩) ?_ ?_
                 ·
                  rintro _ _ ⟨hs1166, rfl, h1167⟩
                  refine ⟨.inl (by kernel_rfl), ?_⟩
                  refine d_hresp 3 rfl (o' := Cl 63 [.slice A744 (l740).length c745, .slice A846 (put (put l849 s8.From l969) s8.To (x1130 ++ [x916])).length c847]) (by simp only [put_length]) ?_
                  refine D_done (by kernel_rfl) ?_
                  obtain rfl := some1 hm
                  refine x_pullb 3 rfl ?_
                  refine x_pullb 3 rfl ?_
                  refine x_front2 [_, _, _, _] hs1166 hs746 R rfl ?_
                  exact x_join (e' := [(4, .pointer (some ⟨g598, 0, none⟩)), (8, .pointer (some ⟨g748, 0, none⟩)), (12, .int .i64 (x916))]) ⟨rfl, rfl, rfl, trivial⟩ (.cons_cons _ (.cons_cons _ (.cons _ (.cons _ (.refl _))))) ⟨A846, c847, hs1166, rfl, rfl, (Base.Le.refl _), h1167, (put_nz (put_nz hnz850))⟩
                 exact R_nil
                exact R_nil
               refine R_do (Base.Le.refl _) rfl rfl (u_appIn (r := (RT.int .i64)) [_, _, _, _] (hs746 ++ R) [[.int .i64 (x916)]] [x916] rfl (by decide) sl45 inf3 rfl rfl rfl rfl hq1143 h1147 rfl (fun w ho => Rd.own (i := 0) ho rfl) ⟨rfl, trivial⟩ h1151) ?_ ?_
               ·
                rintro _ _ ⟨hs1152, rfl, h1153⟩
                obtain ⟨A1154, c1155, rfl, _⟩ := h1153.form
                refine ⟨.inr (.cons _ (.cons_cons _ (.cons_cons _ (.cons _ (sub_skip hs1152 (sub_skip (P1141 ++ P1142) (.refl _))))))), ?_⟩
                refine d_hresp 3 rfl (o' := Cl 63 [.slice A744 (l740).length c745, .slice A846 (put l849 s8.From l969).length c847]) (by simp only [put_length]) ?_
                refine D_all [1] (by kernel_rfl) rfl ?_
                refine R_do (Base.Le.refl _) rfl rfl (Stable.does (st_load 3 rfl one26 rfl rfl)) ?_ ?_
                ·
                 rintro _ _ ⟨rfl, rfl⟩
                 refine ⟨.inr (.cons _ (.cons_cons _ (.cons_cons _ (.cons _ (sub_skip hs1152 (sub_skip (P1141 ++ P1142) (.refl _))))))), ?_⟩
                 obtain ⟨j1158, hj1159, hx1160⟩ := idx_some h1157
                 obtain rfl : j1132 = j1158 := by omega
                 refine E_in (.cons _ (.cons_cons _ (.cons_cons _ (.cons _ (sub_skip hs1152 (sub_skip (P1141 ++ P1142) (.refl _))))))) ?_
                 refine E_st 13 rfl (st_index_old j1132 rfl rfl hj1133 hlt1139 hA1138 sl26) ?_
                 refine E_out ?_
                 refine d_front2 [_, _, _, _] hs1152 (P1141 ++ P1142) (hs746 ++ R) rfl ?_
                 refine D_all [14] (by kernel_rfl) rfl ?_
                 refine R_do (Base.Le.refl _) rfl rfl (u_putHole hj1133 (sz := 1) (a' := x1130 ++ [x916]) rfl [_, _, _, _] hs1152 (hs746 ++ R) 1 [.slice A1154 (x1130 ++ [x916]).length c1155] rfl (hho1145 _ (Base.Le.refl _)) rfl rfl rfl siz45 rfl (by decide) ⟨_, rfl, h1153⟩) ?_ ?_
                 ·
                  rintro _ _ ⟨hs1166, rfl, h1167⟩
                  refine ⟨.inl (by kernel_rfl), ?_⟩
                  refine d_hresp 3 rfl (o' := Cl 63 [.slice A744 (l740).length c745, .slice A846 (put (put l849 s8.From l969) s8.To (x1130 ++ [x916])).length c847]) (by simp only [put_length]) ?_
                  refine D_done (by kernel_rfl) ?_
                  obtain rfl := some1 hm
                  refine x_pullb 3 rfl ?_
                  refine x_pullb 3 rfl ?_
                  refine x_front2 [_, _, _, _] hs1166 hs746 R rfl ?_
                  exact x_join (e' := [(4, .pointer (some ⟨g598, 0, none⟩)), (8, .pointer (some ⟨g748, 0, none⟩)), (12, .int .i64 (x916))]) ⟨rfl, rfl, rfl, trivial⟩ (.cons_cons _ (.cons_cons _ (.cons _ (.cons _ (.refl _))))) ⟨A846, c847, hs1166, rfl, rfl, (Base.Le.refl _), h1167, (put_nz (put_nz hnz850))⟩
                 exact R_nil
                exact R_nil
               exact R_nil
              exact R_nil
             refine R_do (Base.Le.refl _) rfl rfl (u_bslice (el := 3) [(0, .int .i64 (x916))] [.int .i64 (x916)] rfl (fun _ => by kernel_rfl)) ?_ ?_
             ·
              rintro _ _ ⟨g1150, rfl, rfl⟩
              refine ⟨.inr (.cons _ (.cons_cons _ (.cons_cons _ (.cons _ (sub_skip hs999 (.refl _)))))), ?_⟩
              refine D_all [1, 9] (by kernel_rfl) rfl ?_
              refine R_do (Base.Le.refl _) rfl rfl (Stable.does (st_load 3 rfl one26 rfl rfl)) ?_ ?_
              ·
               rintro _ _ ⟨rfl, rfl⟩
               refine ⟨.inr (.cons _ (.cons_cons _ (.cons_cons _ (.cons _ (sub_skip hs999 (.refl _)))))), ?_⟩
               refine D_all [9] (by kernel_rfl) rfl ?_
               refine R_do (Base.Le.refl _) rfl rfl (Stable.does (st_load_rd rfl one45 (fun w ho => hcs1137 w _ ho (.cons _ (.cons _ (.cons _ (.cons _ (List.sublist_append_left _ _))))) 0 _ rfl))) ?_ ?_
               ·
                rintro _ _ ⟨rfl, rfl⟩
                refine ⟨.inr (.cons _ (.cons_cons _ (.cons_cons _ (.cons _ (sub_skip hs999 (.refl _)))))), ?_⟩
                have h1151 := room_some h1151
                refine D_all [12] (by kernel_rfl) rfl ?_
                refine R_do (Base.Le.refl _) rfl rfl (u_appIn (r := (RT.int .i64)) [_, _, _, _] (hs746 ++ R) [[.int .i64 (x916)]] [x916] rfl (by decide) sl45 inf3 rfl rfl rfl rfl hq1143 h1147 rfl (fun w ho => Rd.own (i := 0) ho rfl) ⟨rfl, trivial⟩ h1151) ?_ ?_
                ·
                 rintro _ _ ⟨hs1152, rfl, h1153⟩
                 obtain ⟨A1154, c1155, rfl, _⟩ := h1153.form
                 refine ⟨.inr (.cons _ (.cons_cons _ (.cons_cons _ (.cons _ (sub_skip hs1152 (sub_skip (P1141 ++ P1142) (.refl _))))))), ?_⟩
                 refine d_resp 116 rfl (v' := .slice A846 (put l849 s8.From l969).length c847) (by simp only [put_length]) ?_
                 refine d_hresp 3 rfl (o' := Cl 63 [.slice A744 (l740).length c745, .slice A846 (put l849 s8.From l969).length c847]) (by simp only [put_length]) ?_
                 obtain ⟨j1158, hj1159, hx1160⟩ := idx_some h1157
                 obtain rfl : j1132 = j1158 := by omega
                 refine E_in (.cons _ (.cons_cons _ (.cons_cons _ (.cons _ (sub_skip hs1152 (sub_skip (P1141 ++ P1142) (.refl _))))))) ?_
                 refine E_st 13 rfl (st_index_old j1132 rfl rfl hj1133 hlt1139 hA1138 sl26) ?_
                 refine E_out ?_
                 refine d_front2 [_, _, _, _] hs1152 (P1141 ++ P1142) (hs746 ++ R) rfl ?_
                 refine D_all [14] (by kernel_rfl) rfl ?_
                 refine R_do (Base.Le.refl _) rfl rfl (u_putHole hj1133 (sz := 1) (a' := x1130 ++ [x916]) rfl [_, _, _, _] hs1152 (hs746 ++ R) 1 [.slice A1154 (x1130 ++ [x916]).length c1155] rfl (hho1145 _ (Base.Le.refl _)) rfl rfl rfl siz45 rfl (by decide) ⟨_, rfl, h1153⟩) ?_ ?_
                 ·
                  rintro _ _ ⟨hs1166, rfl, h1167⟩
                  refine ⟨.inl (by kernel_rfl), ?_⟩
                  refine d_hresp 3 rfl (o' := Cl 63 [.slice A744 (l740).length c745, .slice A846 (put (put l849 s8.From l969) s8.To (x1130 ++ [x916])).length c847]) (by simp only [put_length]) ?_
                  refine D_done (by kernel_rfl) ?_
                  obtain rfl := some1 hm
                  refine x_pullb 3 rfl ?_
                  refine x_pullb 3 rfl ?_
                  refine x_front2 [_, _, _, _] hs1166 hs746 R rfl ?_
                  exact x_join (e' := [(4, .pointer (some ⟨g598, 0, none⟩)), (8, .pointer (some ⟨g748, 0, none⟩)), (12, .int .i64 (x916))]) ⟨rfl, rfl, rfl, trivial⟩ (.cons_cons _ (.cons_cons _ (.cons _ (.cons _ (.refl _))))) ⟨A846, c847, hs1166, rfl, rfl, (Base.Le.refl _), h1167, (put_nz (put_nz hnz850))⟩
                 exact R_nil
                exact R_nil
               exact R_nil
              refine R_do (Base.Le.refl _) rfl rfl (Stable.does (st_load_rd rfl one45 (fun w ho => hcs1137 w _ ho (.cons _ (.cons _ (.cons _ (.cons _ (List.sublist_append_left _ _))))) 0 _ rfl))) ?_ ?_
              ·
               rintro _ _ ⟨rfl, rfl⟩
               refine ⟨.inr (.cons _ (.cons_cons _ (.cons_cons _ (.cons _ (sub_skip hs999 (.refl _)))))), ?_⟩
               have h1151 := room_some h1151
               refine D_all [1, 12] (by kernel_rfl) rfl ?_
               refine R_do (Base.Le.refl _) rfl rfl (Stable.does (st_load 3 rfl one26 rfl rfl)) ?_ ?_
               ·
                rintro _ _ ⟨rfl, rfl⟩
                refine ⟨.inr (.cons _ (.cons_cons _ (.cons_cons _ (.cons _ (sub_skip hs999 (.refl _)))))), ?_⟩
                refine D_all [12] (by kernel_rfl) rfl ?_
                refine R_do (Base.Le.refl _) rfl rfl (u_appIn (r := (RT.int .i64)) [_, _, _, _] (hs746 ++ R) [[.int .i64 (x916)]] [x916] rfl (by decide) sl45 inf3 rfl rfl rfl rfl hq1143 h1147 rfl (fun w ho => Rd.own (i := 0) ho rfl) ⟨rfl, trivial⟩ h1151) ?_ ?_
                ·
                 rintro _ _ ⟨hs1152, rfl, h1153⟩
                 obtain ⟨A1154, c1155, rfl, _⟩ := h1153.form
                 refine ⟨.inr (.cons _ (.cons_cons _ (.cons_cons _ (.cons _ (sub_skip hs1152 (sub_skip (P1141 ++ P1142) (.refl _))))))), ?_⟩
                 refine d_resp 116 rfl (v' := .slice A846 (put l849 s8.From l969).length c847) (by simp only [put_length]) ?_
                 refine d_hresp 3 rfl (o' := Cl 63 [.slice A744 (l740).length c745, .slice A846 (put l849 s8.From l969).length c847]) (by simp only [put_length]) ?_
                 obtain ⟨j1158, hj1159, hx1160⟩ := idx_some h1157
                 obtain rfl : j1132 = j1158 := by omega
                 refine E_in (.cons _ (.cons_cons _ (.cons_cons _ (.cons _ (sub_skip hs1152 (sub_skip (P1141 ++ P1142) (.refl _))))))) ?_
                 refine E_st 13 rfl (st_index_old j1132 rfl rfl hj1133 hlt1139 hA1138 sl26) ?_
                 refine E_out ?_
                 refine d_front2 [_, _, _, _] hs1152 (P1141 ++ P1142) (hs746 ++ R) rfl ?_
                 refine D_all [14] (by kernel_rfl) rfl ?_
                 refine R_do (Base.Le.refl _) rfl rfl (u_putHole hj1133 (sz := 1) (a' := x1130 ++ [x916]) rfl [_, _, _, _] hs1152 (hs746 ++ R) 1 [.slice A1154 (x1130 ++ [x916]).length c1155] rfl (hho1145 _ (Base.Le.refl _)) rfl rfl rfl siz45 rfl (by decide) ⟨_, rfl, h1153⟩) ?_ ?_
                 ·
                  rintro _ _ ⟨hs1166, rfl, h1167⟩
                  refine ⟨.inl (by kernel_rfl), ?_⟩
                  refine d_hresp 3 rfl (o' := Cl 63 [.slice A744 (l740).length c745, .slice A846 (put (put l849 s8.From l969) s8.To (x1130 ++ [x916])).length c847]) (by simp only [put_length]) ?_
                  refine D_done (by kernel_rfl) ?_
                  obtain rfl := some1 hm
                  refine x_pullb 3 rfl ?_
                  refine x_pullb 3 rfl ?_
                  refine x_front2 [_, _, _, _] hs1166 hs746 R rfl ?_
                  exact x_join (e' := [(4, .pointer (some ⟨g598, 0, none⟩)), (8, .pointer (some ⟨g748, 0, none⟩)), (12, .int .i64 (x916))]) ⟨rfl, rfl, rfl, trivial⟩ (.cons_cons _ (.cons_cons _ (.cons _ (.cons _ (.refl _))))) ⟨A846, c847, hs1166, rfl, rfl, (Base.Le.refl _), h1167, (put_nz (put_nz hnz850))⟩
                 exact R_nil
                exact R_nil
               refine R_do (Base.Le.refl _) rfl rfl (u_appIn (r := (RT.int .i64)) [_, _, _, _] (hs746 ++ R) [[.int .i64 (x916)]] [x916] rfl (by decide) sl45 inf3 rfl rfl rfl rfl hq1143 h1147 rfl (fun w ho => Rd.own (i := 0) ho rfl) ⟨rfl, trivial⟩ h1151) ?_ ?_
               ·
                rintro _ _ ⟨hs1152, rfl, h1153⟩
                obtain ⟨A1154, c1155, rfl, _⟩ := h1153.form
                refine ⟨.inr (.cons _ (.cons_cons _ (.cons_cons _ (.cons _ (sub_skip hs1152 (sub_skip (P1141 ++ P1142) (.refl _))))))), ?_⟩
                refine d_hresp 3 rfl (o' := Cl 63 [.slice A744 (l740).length c745, .slice A846 (put l849 s8.From l969).length c847]) (by simp only [put_length]) ?_
                refine D_all [1] (by kernel_rfl) rfl ?_
                refine R_do (Base.Le.refl _) rfl rfl (Stable.does (st_load 3 rfl one26 rfl rfl)) ?_ ?_
                ·
                 rintro _ _ ⟨rfl, rfl⟩
                 refine ⟨.inr (.cons _ (.cons_cons _ (.cons_cons _ (.cons _ (sub_skip hs1152 (sub_skip (P1141 ++ P1142) (.refl _))))))), ?_⟩
                 obtain ⟨j1158, hj1159, hx1160⟩ := idx_some h1157
                 obtain rfl : j1132 = j1158 := by omega
                 refine E_in (.cons _ (.cons_cons _ (.cons_cons _ (.cons _ (sub_skip hs1152 (sub_skip (P1141 ++ P1142) (.refl _))))))) ?_
                 refine E_st 13 rfl (st_index_old j1132 rfl rfl hj1133 hlt1139 hA1138 sl26) ?_
                 refine E_out ?_
                 refine d_front2 [_, _, _, _] hs1152 (P1141 ++ P1142) (hs746 ++ R) rfl ?_
                 refine D_all [14] (by kernel_rfl) rfl ?_
                 refine R_do (Base.Le.refl _) rfl rfl (u_putHole hj1133 (sz := 1) (a' := x1130 ++ [x916]) rfl [_, _, _, _] hs1152 (hs746 ++ R) 1 [.slice A1154 (x1130 ++ [x916]).length c1155] rfl (hho1145 _ (Base.Le.refl _)) rfl rfl rfl siz45 rfl (by decide) ⟨_, rfl, h1153⟩) ?_ ?_
                 ·
                  rintro _ _ ⟨hs1166, rfl, h1167⟩
                  refine ⟨.inl (by kernel_rfl), ?_⟩
                  refine d_hresp 3 rfl (o' := Cl 63 [.slice A744 (l740).length c745, .slice A846 (put (put l849 s8.From l969) s8.To (x1130 ++ [x916])).length c847]) (by simp only [put_length]) ?_
                  refine D_done (by kernel_rfl) ?_
                  obtain rfl := some1 hm
                  refine x_pullb 3 rfl ?_
                  refine x_pullb 3 rfl ?_
                  refine x_front2 [_, _, _, _] hs1166 hs746 R rfl ?_
                  exact x_join (e' := [(4, .pointer (some ⟨g598, 0, none⟩)), (8, .pointer (some ⟨g748, 0, none⟩)), (12, .int .i64 (x916))]) ⟨rfl, rfl, rfl, trivial⟩ (.cons_cons _ (.cons_cons _ (.cons _ (.cons _ (.refl _))))) ⟨A846, c847, hs1166, rfl, rfl, (Base.Le.refl _), h1167, (put_nz (put_nz hnz850))⟩
                 exact R_nil
                exact R_nil
               exact R_nil
              exact R_nil
             exact R_nil
            refine R_do (Base.Le.refl _) rfl rfl (u_bslice (el := 3) [(0, .int .i64 (x916))] [.int .i64 (x916)] rfl (fun _ => by kernel_rfl)) ?_ ?_
            ·
             rintro _ _ ⟨g1150, rfl, rfl⟩
             refine ⟨.inr (.cons _ (.cons_cons _ (.cons_cons _ (.cons _ (sub_skip hs999 (.refl _)))))), ?_⟩
             refine D_all [1, 5] (by kernel_rfl) rfl ?_
             refine R_do (Base.Le.refl _) rfl rfl (Stable.does (st_load 3 rfl one26 rfl rfl)) ?_ ?_
             ·
              rintro _ _ ⟨rfl, rfl⟩
              refine ⟨.inr (.cons _ (.cons_cons _ (.cons_cons _ (.cons _ (sub_skip hs999 (.refl _)))))), ?_⟩
              refine D_all [5] (by kernel_rfl) rfl ?_
              refine R_do (Base.Le.refl _) rfl rfl (Stable.does (st_load 3 rfl one26 rfl rfl)) ?_ ?_
              ·
               rintro _ _ ⟨rfl, rfl⟩
               refine ⟨.inr (.cons _ (.cons_cons _ (.cons_cons _ (.cons _ (sub_skip hs999 (.refl _)))))), ?_⟩
               obtain ⟨j1132, hj1133, hx1134⟩ := idx_some h1131
               obtain ⟨cs1135, hs1140, P1141, P1142, hq1143, hr1136, hcs1137, hA1138, hlt1139, hb1144, hho1145⟩ := OS.get (sz := 1) rfl (by decide) h1000 hx1134
               obtain ⟨v1146, rfl, h1147⟩ := hr1136
               obtain ⟨A1148, c1149, rfl, _⟩ := h1147.form
               refine E_in (.cons _ (.cons_cons _ (.cons_cons _ (.cons _ (sub_skip hs999 (.refl _)))))) ?_
               refine E_st 8 rfl (st_index_old j1132 rfl rfl hj1133 hlt1139 hA1138 sl26) ?_
               refine E_out ?_
               refine D_all [9] (by kernel_rfl) rfl ?_
               refine R_do (Base.Le.refl _) rfl rfl (Stable.does (st_load_rd rfl one45 (fun w ho => hcs1137 w _ ho (.cons _ (.cons _ (.cons _ (.cons _ (List.sublist_append_left _ _))))) 0 _ rfl))) ?_ ?_
               ·
                rintro _ _ ⟨rfl, rfl⟩
                refine ⟨.inr (.cons _ (.cons_cons _ (.cons_cons _ (.cons _ (sub_skip hs999 (.refl _)))))), ?_⟩
                have h1151 := room_some h1151
                refine D_all [12] (by kernel_rfl) rfl ?_
                refine R_do (Base.Le.refl _) rfl rfl (u_appIn (r := (RT.int .i64)) [_, _, _, _] (hs746 ++ R) [[.int .i64 (x916)]] [x916] rfl (by decide) sl45 inf3 rfl rfl rfl rfl hq1143 h1147 rfl (fun w ho => Rd.own (i := 0) ho rfl) ⟨rfl, trivial⟩ h1151) ?_ ?_
                ·
                 rintro _ _ ⟨hs1152, rfl, h1153⟩
                 obtain ⟨A1154, c1155, rfl, _⟩ := h1153.form
                 refine ⟨.inr (.cons _ (.cons_cons _ (.cons_cons _ (.cons _ (sub_skip hs1152 (sub_skip (P1141 ++ P1142) (.refl _))))))), ?_⟩
                 refine d_resp 116 rfl (v' := .slice A846 (put l849 s8.From l969).length c847) (by simp only [put_length]) ?_
                 refine d_hresp 3 rfl (o' := Cl 63 [.slice A744 (l740).length c745, .slice A846 (put l849 s8.From l969).length c847]) (by simp only [put_length]) ?_
                 obtain ⟨j1158, hj1159, hx1160⟩ := idx_some h1157
                 obtain rfl : j1132 = j1158 := by omega
                 refine E_in (.cons _ (.cons_cons _ (.cons_cons _ (.cons _ (sub_skip hs1152 (sub_skip (P1141 ++ P1142) (.refl _))))))) ?_
                 refine E_st 13 rfl (st_index_old j1132 rfl rfl hj1133 hlt1139 hA1138 sl26) ?_
                 refine E_out ?_
                 refine d_front2 [_, _, _, _] hs1152 (P1141 ++ P1142) (hs746 ++ R) rfl ?_
                 refine D_all [14] (by kernel_rfl) rfl ?_
                 refine R_do (Base.Le.refl _) rfl rfl (u_putHole hj1133 (sz := 1) (a' := x1130 ++ [x916]) rfl [_, _, _, _] hs1152 (hs746 ++ R) 1 [.slice A1154 (x1130 ++ [x916]).length c1155] rfl (hho1145 _ (Base.Le.refl _)) rfl rfl rfl siz45 rfl (by decide) ⟨_, rfl, h1153⟩) ?_ ?_
                 ·
                  rintro _ _ ⟨hs1166, rfl, h1167⟩
                  refine ⟨.inl (by kernel_rfl), ?_⟩
                  refine d_hresp 3 rfl (o' := Cl 63 [.slice A744 (l740).length c745, .slice A846 (put (put l849 s8.From l969) s8.To (x1130 ++ [x916])).length c847]) (by simp only [put_length]) ?_
                  refine D_done (by kernel_rfl) ?_
                  obtain rfl := some1 hm
                  refine x_pullb 3 rfl ?_
                  refine x_pullb 3 rfl ?_
                  refine x_front2 [_, _, _, _] hs1166 hs746 R rfl ?_
                  exact x_join (e' := [(4, .pointer (some ⟨g598, 0, none⟩)), (8, .pointer (some ⟨g748, 0, none⟩)), (12, .int .i64 (x916))]) ⟨rfl, rfl, rfl, trivial⟩ (.cons_cons _ (.cons_cons _ (.cons _ (.cons _ (.refl _))))) ⟨A846, c847, hs1166, rfl, rfl, (Base.Le.refl _), h1167, (put_nz (put_nz hnz850))⟩
                 exact R_nil
                exact R_nil
               exact R_nil
              exact R_nil
             refine R_do (Base.Le.refl _) rfl rfl (Stable.does (st_load 3 rfl one26 rfl rfl)) ?_ ?_
             ·
              rintro _ _ ⟨rfl, rfl⟩
              refine ⟨.inr (.cons _ (.cons_cons _ (.cons_cons _ (.cons _ (sub_skip hs999 (.refl _)))))), ?_⟩
              obtain ⟨j1132, hj1133, hx1134⟩ := idx_some h1131
              obtain ⟨cs1135, hs1140, P1141, P1142, hq1143, hr1136, hcs1137, hA1138, hlt1139, hb1144, hho1145⟩ := OS.get (sz := 1) rfl (by decide) h1000 hx1134
              obtain ⟨v1146, rfl, h1147⟩ := hr1136
              obtain ⟨A1148, c1149, rfl, _⟩ := h1147.form
              refine E_in (.cons _ (.cons_cons _ (.cons_cons _ (.cons _ (sub_skip hs999 (.refl _)))))) ?_
              refine E_st 8 rfl (st_index_old j1132 rfl rfl hj1133 hlt1139 hA1138 sl26) ?_
              refine E_out ?_
              refine D_all [1, 9] (by kernel_rfl) rfl ?_
              refine R_do (Base.Le.refl _) rfl rfl (Stable.does (st_load 3 rfl one26 rfl rfl)) ?_ ?_
              ·
               rintro _ _ ⟨rfl, rfl⟩
               refine ⟨.inr (.cons _ (.cons_cons _ (.cons_cons _ (.cons _ (sub_skip hs999 (.refl _)))))), ?_⟩
               refine D_all [9] (by kernel_rfl) rfl ?_
               refine R_do (Base.Le.refl _) rfl rfl (Stable.does (st_load_rd rfl one45 (fun w ho => hcs1137 w _ ho (.cons _ (.cons _ (.cons _ (.cons _ (List.sublist_append_left _ _))))) 0 _ rfl))) ?_ ?_
               ·
                rintro _ _ ⟨rfl, rfl⟩
                refine ⟨.inr (.cons _ (.cons_cons _ (.cons_cons _ (.cons _ (sub_skip hs999 (.refl _)))))), ?_⟩
                have h1151 := room_some h1151
                refine D_all [12] (by kernel_rfl) rfl ?_
                refine R_do (Base.Le.refl _) rfl rfl (u_appIn (r := (RT.int .i64)) [_, _, _, _] (hs746 ++ R) [[.int .i64 (x916)]] [x916] rfl (by decide) sl45 inf3 rfl rfl rfl rfl hq1143 h1147 rfl (fun w ho => Rd.own (i := 0) ho rfl) ⟨rfl, trivial⟩ h1151) ?_ ?_
                ·
                 rintro _ _ ⟨hs1152, rfl, h1153⟩
                 obtain ⟨A1154, c1155, rfl, _⟩ := h1153.form
                 refine ⟨.inr (.cons _ (.cons_cons _ (.cons_cons _ (.cons _ (sub_skip hs1152 (sub_skip (P1141 ++ P1142) (.refl _))))))), ?_⟩
                 refine d_resp 116 rfl (v' := .slice A846 (put l849 s8.From l969).length c847) (by simp only [put_length]) ?_
                 refine d_hresp 3 rfl (o' := Cl 63 [.slice A744 (l740).length c745, .slice A846 (put l849 s8.From l969).length c847]) (by simp only [put_length]) ?_
                 obtain ⟨j1158, hj1159, hx1160⟩ := idx_some h1157
                 obtain rfl : j1132 = j1158 := by omega
                 refine E_in (.cons _ (.cons_cons _ (.cons_cons _ (.cons _ (sub_skip hs1152 (sub_skip (P1141 ++ P1142) (.refl _))))))) ?_
                 refine E_st 13 rfl (st_index_old j1132 rfl rfl hj1133 hlt1139 hA1138 sl26) ?_
                 refine E_out ?_
                 refine d_front2 [_, _, _, _] hs1152 (P1141 ++ P1142) (hs746 ++ R) rfl ?_
                 refine D_all [14] (by kernel_rfl) rfl ?_
                 refine R_do (Base.Le.refl _) rfl rfl (u_putHole hj1133 (sz := 1) (a' := x1130 ++ [x916]) rfl [_, _, _, _] hs1152 (hs746 ++ R) 1 [.slice A1154 (x1130 ++ [x916]).length c1155] rfl (hho1145 _ (Base.Le.refl _)) rfl rfl rfl siz45 rfl (by decide) ⟨_, rfl, h1153⟩) ?_ ?_
                 ·
                  rintro _ _ ⟨hs1166, rfl, h1167⟩
                  refine ⟨.inl (by kernel_rfl), ?_⟩
                  refine d_hresp 3 rfl (o' := Cl 63 [.slice A744 (l740).length c745, .slice A846 (put (put l849 s8.From l969) s8.To (x1130 ++ [x916])).length c847]) (by simp only [put_length]) ?_
                  refine D_done (by kernel_rfl) ?_
                  obtain rfl := some1 hm
                  refine x_pullb 3 rfl ?_
                  refine x_pullb 3 rfl ?_
                  refine x_front2 [_, _, _, _] hs1166 hs746 R rfl ?_
                  exact x_join (e' := [(4, .pointer (some ⟨g598, 0, none⟩)), (8, .pointer (some ⟨g748, 0, none⟩)), (12, .int .i64 (x916))]) ⟨rfl, rfl, rfl, trivial⟩ (.cons_cons _ (.cons_cons _ (.cons _ (.cons _ (.refl _))))) ⟨A846, c847, hs1166, rfl, rfl, (Base.Le.refl _), h1167, (put_nz (put_nz hnz850))⟩
                 exact R_nil
                exact R_nil
               exact R_nil
              refine R_do (Base.Le.refl _) rfl rfl (Stable.does (st_load_rd rfl one45 (fun w ho => hcs1137 w _ ho (.cons _ (.cons _ (.cons _ (.cons _ (List.sublist_append_left _ _))))) 0 _ rfl))) ?_ ?_
              ·
               rintro _ _ ⟨rfl, rfl⟩
               refine ⟨.inr (.cons _ (.cons_cons _ (.cons_cons _ (.cons _ (sub_skip hs999 (.refl _)))))), ?_⟩
               have h1151 := room_some h1151
               refine D_all [1, 12] (by kernel_rfl) rfl ?_
               refine R_do (Base.Le.refl _) rfl rfl (Stable.does (st_load 3 rfl one26 rfl rfl)) ?_ ?_
               ·
                rintro _ _ ⟨rfl, rfl⟩
                refine ⟨.inr (.cons _ (.cons_cons _ (.cons_cons _ (.cons _ (sub_skip hs999 (.refl _)))))), ?_⟩
                refine D_all [12] (by kernel_rfl) rfl ?_
                refine R_do (Base.Le.refl _) rfl rfl (u_appIn (r := (RT.int .i64)) [_, _, _, _] (hs746 ++ R) [[.int .i64 (x916)]] [x916] rfl (by decide) sl45 inf3 rfl rfl rfl rfl hq1143 h1147 rfl (fun w ho => Rd.own (i := 0) ho rfl) ⟨rfl, trivial⟩ h1151) ?_ ?_
                ·
                 rintro _ _ ⟨hs1152, rfl, h1153⟩
                 obtain ⟨A1154, c1155, rfl, _⟩ := h1153.form
                 refine ⟨.inr (.cons _ (.cons_cons _ (.cons_cons _ (.cons _ (sub_skip hs1152 (sub_skip (P1141 ++ P1142) (.refl _))))))), ?_⟩
                 refine d_resp 116 rfl (v' := .slice A846 (put l849 s8.From l969).length c847) (by simp only [put_length]) ?_
                 refine d_hresp 3 rfl (o' := Cl 63 [.slice A744 (l740).length c745, .slice A846 (put l849 s8.From l969).length c847]) (by simp only [put_length]) ?_
                 obtain ⟨j1158, hj1159, hx1160⟩ := idx_some h1157
                 obtain rfl : j1132 = j1158 := by omega
                 refine E_in (.cons _ (.cons_cons _ (.cons_cons _ (.cons _ (sub_skip hs1152 (sub_skip (P1141 ++ P1142) (.refl _))))))) ?_
                 refine E_st 13 rfl (st_index_old j1132 rfl rfl hj1133 hlt1139 hA1138 sl26) ?_
                 refine E_out ?_
                 refine d_front2 [_, _, _, _] hs1152 (P1141 ++ P1142) (hs746 ++ R) rfl ?_
                 refine D_all [14] (by kernel_rfl) rfl ?_
                 refine R_do (Base.Le.refl _) rfl rfl (u_putHole hj1133 (sz := 1) (a' := x1130 ++ [x916]) rfl [_, _, _, _] hs1152 (hs746 ++ R) 1 [.slice A1154 (x1130 ++ [x916]).length c1155] rfl (hho1145 _ (Base.Le.refl _)) rfl rfl rfl siz45 rfl (by decide) ⟨_, rfl, h1153⟩) ?_ ?_
                 ·
                  rintro _ _ ⟨hs1166, rfl, h1167⟩
                  refine ⟨.inl (by kernel_rfl), ?_⟩
                  refine d_hresp 3 rfl (o' := Cl 63 [.slice A744 (l740).length c745, .slice A846 (put (put l849 s8.From l969) s8.To (x1130 ++ [x916])).length c847]) (by simp only [put_length]) ?_
                  refine D_done (by kernel_rfl) ?_
                  obtain rfl := some1 hm
                  refine x_pullb 3 rfl ?_
                  refine x_pullb 3 rfl ?_
                  refine x_front2 [_, _, _, _] hs1166 hs746 R rfl ?_
                  exact x_join (e' := [(4, .pointer (some ⟨g598, 0, none⟩)), (8, .pointer (some ⟨g748, 0, none⟩)), (12, .int .i64 (x916))]) ⟨rfl, rfl, rfl, trivial⟩ (.cons_cons _ (.cons_cons _ (.cons _ (.cons _ (.refl _))))) ⟨A846, c847, hs1166, rfl, rfl, (Base.Le.refl _), h1167, (put_nz (put_nz hnz850))⟩
                 exact R_nil
                exact R_nil
               refine R_do (Base.Le.refl _) rfl rfl (u_appIn (r := (RT.int .i64)) [_, _, _, _] (hs746 ++ R) [[.int .i64 (x916)]] [x916] rfl (by decide) sl45 inf3 rfl rfl rfl rfl hq1143 h1147 rfl (fun w ho => Rd.own (i := 0) ho rfl) ⟨rfl, trivial⟩ h1151) ?_ ?_
               ·
                rintro _ _ ⟨hs1152, rfl, h1153⟩
                obtain ⟨A1154, c1155, rfl, _⟩ := h1153.form
                refine ⟨.inr (.cons _ (.cons_cons _ (.cons_cons _ (.cons _ (sub_skip hs1152 (sub_skip (P1141 ++ P1142) (.refl _))))))), ?_⟩
                refine d_hresp 3 rfl (o' := Cl 63 [.slice A744 (l740).length c745, .slice A846 (put l849 s8.From l969).length c847]) (by simp only [put_length]) ?_
                refine D_all [1] (by kernel_rfl) rfl ?_
                refine R_do (Base.Le.refl _) rfl rfl (Stable.does (st_load 3 rfl one26 rfl rfl)) ?_ ?_
                ·
                 rintro _ _ ⟨rfl, rfl⟩
                 refine ⟨.inr (.cons _ (.cons_cons _ (.cons_cons _ (.cons _ (sub_skip hs1152 (sub_skip (P1141 ++ P1142) (.refl _))))))), ?_⟩
                 obtain ⟨j1158, hj1159, hx1160⟩ := idx_some h1157
                 obtain rfl : j1132 = j1158 := by omega
                 refine E_in (.cons _ (.cons_cons _ (.cons_cons _ (.cons _ (sub_skip hs1152 (sub_skip (P1141 ++ P1142) (.refl _))))))) ?_
                 refine E_st 13 rfl (st_index_old j1132 rfl rfl hj1133 hlt1139 hA1138 sl26) ?_
                 refine E_out ?_
                 refine d_front2 [_, _, _, _] hs1152 (P1141 ++ P1142) (hs746 ++ R) rfl ?_
                 refine D_all [14] (by kernel_rfl) rfl ?_
                 refine R_do (Base.Le.refl _) rfl rfl (u_putHole hj1133 (sz := 1) (a' := x1130 ++ [x916]) rfl [_, _, _, _] hs1152 (hs746 ++ R) 1 [.slice A1154 (x1130 ++ [x916]).length c1155] rfl (hho1145 _ (Base.Le.refl _)) rfl rfl rfl siz45 rfl (by decide) ⟨_, rfl, h1153⟩) ?_ ?_
                 ·
                  rintro _ _ ⟨hs1166, rfl, h1167⟩
                  refine ⟨.inl (by kernel_rfl), ?_⟩
                  refine d_hresp 3 rfl (o' := Cl 63 [.slice A744 (l740).length c745, .slice A846 (put (put l849 s8.From l969) s8.To (x1130 ++ [x916])).length c847]) (by simp only [put_length]) ?_
                  refine D_done (by kernel_rfl) ?_
                  obtain rfl := some1 hm
                  refine x_pullb 3 rfl ?_
                  refine x_pullb 3 rfl ?_
                  refine x_front2 [_, _, _, _] hs1166 hs746 R rfl ?_
                  exact x_join (e' := [(4, .pointer (some ⟨g598, 0, none⟩)), (8, .pointer (some ⟨g748, 0, none⟩)), (12, .int .i64 (x916))]) ⟨rfl, rfl, rfl, trivial⟩ (.cons_cons _ (.cons_cons _ (.cons _ (.cons _ (.refl _))))) ⟨A846, c847, hs1166, rfl, rfl, (Base.Le.refl _), h1167, (put_nz (put_nz hnz850))⟩
                 exact R_nil
                exact R_nil
               exact R_nil
              exact R_nil
             exact R_nil
            exact R_nil
           ·
            rw [if_neg (of_decide_eq_false hc1091)] at hm
            refine c_skip ?_
            obtain rfl := some1 hm
            refine x_pullb 2 rfl ?_
            refine x_pullb 2 rfl ?_
            refine x_front2 [_, _, _] hs999 hs746 R rfl ?_
            exact x_join (e' := [(4, .pointer (some ⟨g598, 0, none⟩)), (8, .pointer (some ⟨g748, 0, none⟩)), (12, .int .i64 (x916))]) ⟨rfl, rfl, rfl, trivial⟩ (.cons_cons _ (.cons_cons _ (.cons _ (.refl _)))) ⟨A846, c847, hs999, rfl, rfl, (Base.Le.refl _), h1000, (put_nz hnz850)⟩
          ·
           rintro b1081 _ _ ⟨A1085, c1086, hs1084, rfl, rfl, hle1082, h1087, hnz1089⟩
           have hm := hk1090
           refine c_sr ?_
           refine t_st rfl (st_loadD (vs := [_, _]) 1 2 rfl agg63 rfl rfl rfl) ?_
           refine t_mv rfl rfl ?_
           refine t_do rfl (u_storeN (vs := [_, _]) 0 2 rfl rfl rfl siz63 rfl (mem_c rfl (mem_c rfl mem_n)) rfl (by simp)) ?_
           rintro _ _ rfl
           refine t_as rfl rfl ?_
           refine t_as rfl rfl ?_
           refine t_ne ?_
           refine c_ret ?_
           obtain ⟨rfl, rfl, rfl, rfl⟩ := some4 hm
           refine x_front2 [_, _] hs746 hs1084 R rfl ?_
           refine x_front2 [_, _] hs1084 hs746 R rfl ?_
           have he1168 := (h747.le (hle843.trans hle1082))
           exact retM (rs := [.cell 4 63, .tmp 5, .tmp 6]) [.agg #[.slice A744 (l740).length c745, .slice A1085 (l1088).length c1086], .int .i64 (x916), .int .i64 (0)] (hle610.trans (hle688.trans (hle743.trans (hle843.trans hle1082)))) (by decide) rfl ⟨⟨_, rfl, fun w ho => cell_agg (vs := [_, _]) 0 2 agg63 rfl rfl rfl w ho⟩, ⟨rfl, ⟨rfl, trivial⟩⟩⟩ rfl (.cons _ (.cons _ (.refl _))) ⟨A744, c745, hs746, A1085, c1086, hs1084, rfl, rfl, he1168, h1087, hnz1089⟩
         exact R_nil

set_option maxRecDepth 20000 in
theorem clSlicesClone_2 (A : Option Addr) (n c : Nat) (xs : List Value) (w : World) (hR : Rd w A xs) (hl : xs.length = n * 2) (hn : n * 16 ≤ 140737488355328 ∧ n ≤ 9223372036854775807) :
    CallsH Try.prog 65 [.slice A n c] w [] (fun v hp' => Seg0 126 2 v n xs hp') := by
  refine fn_enter 8 Try.func65 rfl Try.ntmps65 rfl ?_
  refine c_sr ?_
  refine t_as rfl rfl ?_
  refine t_ne ?_
  refine c_seq ?_
  refine c_sr ?_
  refine t_mv rfl rfl ?_
  refine t_bool rfl (st_eqnil rfl rfl sl65) (fun hc1 => ?_) (fun hc1 => ?_)
  ·
    refine t_ne ?_
    refine c_cond_t rfl ?_
    refine c_sr ?_
    refine t_as rfl rfl ?_
    refine t_ne ?_
    refine c_ret ?_
    refine x_then_ret ?_
    subst hc1
    obtain rfl := hR.none_nil
    obtain rfl : n = 0 := by simp at hl; omega
    refine x_drop (hp' := []) (by repeat (first | exact List.Sublist.refl _ | exact List.nil_sublist _ | exact List.sublist_append_left _ _ | exact List.sublist_append_right _ _ | exact (List.sublist_append_right _ _).trans (List.sublist_append_right _ _) | apply List.Sublist.cons_cons | apply List.Sublist.cons)) ?_
    exact ret1 (Base.Le.refl _) rfl rfl (Seg0.nil)
  ·
    refine t_ne ?_
    refine c_cond_f rfl ?_
    refine c_skip ?_
    refine x_then_normal ?_
    refine c_sr ?_
    refine t_do rfl (u_bslice (el := 126) [] [] rfl (fun _ => by kernel_rfl)) ?_
    rintro _ _ ⟨g0, rfl, rfl⟩
    refine t_mv rfl rfl ?_
    refine t_do rfl (u_app0 xs sl65 inf126 rfl (by decide) rfl rfl hl (fun w ho => hR.old ho) hn.2 hn.1) ?_
    rintro _ _ ⟨hs, rfl, hseg⟩
    refine t_as rfl rfl ?_
    refine t_ne ?_
    refine c_ret ?_
    refine x_drop (hp' := hs) (by repeat (first | exact List.Sublist.refl _ | exact List.nil_sublist _ | exact List.sublist_append_left _ _ | exact List.sublist_append_right _ _ | exact (List.sublist_append_right _ _).trans (List.sublist_append_right _ _) | apply List.Sublist.cons_cons | apply List.Sublist.cons)) ?_
    exact ret1 (Base.Le.refl _) rfl rfl hseg

set_option maxRecDepth 20000 in
theorem cSlicesClone_2 (b : Base) (R : Hp) (l4 : (List FleetMove)) (A1 : Option Addr) (c2 : Nat) (h3 : FZ rFleetMove b.w A1 c2 l4) (l10 : (List FleetMove)) (hm : mSlicesClone_2 l4 = some l10) :
    CallsG Try.prog 65 [.slice A1 (l4).length c2] b (R) (fun v b' hp' => ∃ (A7 : Option Addr), ∃ (c8 : Nat), ∃ (hs6 : Hp), .slice A7 (l10).length c8 = v ∧ (hs6 ++ R) = hp' ∧ OS 126 (OT.fr rFleetMove) b'.w (.slice A7 l10.length c8) l10 hs6) := by
  unfold mSlicesClone_2 at hm
  obtain ⟨_, hroom, hm⟩ := bindS hm
  have hroom := room_some hroom
  obtain rfl := some1 hm
  exact clone_of (r := rFleetMove) (sz := 2) (by_ := 16) rfl (by decide) clSlicesClone_2 h3 hroom

set_option maxRecDepth 20000 in
theorem cFleetQueuePut_2 (b : Base) (R : Hp) (l15 : (List Int)) (l19 : (List (List Int))) (x20 : Int) (l21 : (List FleetMove)) (l23 : (List FleetTry)) (g11 : Nat) (A12 : Option Addr) (c13 : Nat) (A16 : Option Addr) (c17 : Nat) (A3 : Option Addr) (c4 : Nat) (hs2 : Hp) (A8 : Option Addr) (c9 : Nat) (hs7 : Hp) (h14 : FZ (RT.int .i64) b.w A12 c13 l15) (h18 : FZ (RT.list (RT.int .i64)) b.w A16 c17 l19) (h5 : OS 126 (OT.fr rFleetMove) b.w (.slice A3 l21.length c4) l21 hs2) (hnz22 : (A3 = none ↔ l21 = [])) (h10 : OS 122 (OT.fr rFleetTry) b.w (.slice A8 l23.length c9) l23 hs7) (l47 : (List FleetTry)) (hm : mFleetQueuePut_2 l15 l19 x20 l21 l23 = some l47) :
    CallsG Try.prog 62 [.pointer (some ⟨g11, 0, none⟩), .agg #[.slice A12 (l15).length c13, .slice A16 (l19).length c17, .int .i64 (x20), .slice A3 (l21).length c4]] b ((g11, Cl 119 [.slice A8 (l23).length c9]) :: (hs2 ++ (hs7 ++ R))) (fun v b' hp' => ∃ (A44 : Option Addr), ∃ (c45 : Nat), ∃ (hs43 : Hp), .tuple #[] = v ∧ (g11, Cl 119 [.slice A44 (l47).length c45]) :: (hs43 ++ R) = hp' ∧ OS 122 (OT.fr rFleetTry) b'.w (.slice A44 l47.length c45) l47 hs43 ∧ (A44 = none ↔ l47 = [])) := by
  refine fn_enterG 14 Try.func62 rfl Try.ntmps62 rfl ?_
  unfold mFleetQueuePut_2 at hm
  refine c_sr ?_
  refine t_do rfl (u_box _ rfl rfl) ?_
  rintro _ _ ⟨g49, rfl, rfl⟩
  refine t_ne ?_
  refine c_frz [_, _] hs2 (hs7 ++ R) rfl ?_
  intro b51 hle52 hz53
  have h54 := OS.frz (l := l21) h5 hle52.cells hz53
  obtain ⟨_, h62, hm⟩ := bindS hm
  refine D_drawI mixed (.cons_cons _ (.cons _ (sub_skip hs7 (.refl _)))) ?_
  refine E_st 0 rfl (st_move rfl) ?_
  refine E_st 1 rfl (st_move rfl) ?_
  refine E_st 2 rfl (st_nil rfl) ?_
  refine E_st 3 rfl (st_field rfl fld119_0) ?_
  refine E_st 5 rfl (st_loadD (vs := [_, _, _, _]) 0 4 rfl agg122 rfl rfl rfl) ?_
  refine E_out ?_
  refine D_all [4, 6] (by kernel_rfl) rfl ?_
  refine R_do (Base.Le.refl _) rfl rfl (Stable.does (st_load 1 rfl one117 rfl rfl)) ?_ ?_
  ·
   rintro _ _ ⟨rfl, rfl⟩
   refine ⟨.inr (.cons_cons _ (.cons _ (sub_skip hs7 (.refl _)))), ?_⟩
   refine D_all [6] (by kernel_rfl) rfl ?_
   refine R_do (Base.Le.refl _) rfl rfl (u_bslice (el := 122) [(0, .agg #[.slice A12 (l15).length c13, .slice A16 (l19).length c17, .int .i64 (x20), .slice A3 (l21).length c4])] [.slice A12 (l15).length c13, .slice A16 (l19).length c17, .int .i64 (x20), .slice A3 (l21).length c4] rfl (fun _ => by kernel_rfl)) ?_ ?_
   ·
    rintro _ _ ⟨g61, rfl, rfl⟩
    refine ⟨.inr (.cons _ (.cons_cons _ (.cons _ (sub_skip hs7 (.refl _))))), ?_⟩
    have h62 := room_some h62
    refine D_all [7] (by kernel_rfl) rfl ?_
    refine R_do (Base.Le.refl _) rfl rfl (u_appOS (r := rFleetTry) (l := l23) [_, _, _] R [[.slice A12 (l15).length c13, .slice A16 (l19).length c17, .int .i64 (x20), .slice A3 (l21).length c4]] [(⟨(⟨l15, l19⟩ : FleetDepot), x20, l21⟩ : FleetTry)] rfl (by decide) sl117 inf122 rfl rfl rfl rfl (h10.le hle52) rfl (fun w ho => Rd.own (i := 0) ho rfl) ⟨⟨[.slice A12 (l15).length c13, .slice A16 (l19).length c17], _, rfl, ⟨[.slice A12 (l15).length c13], _, rfl, (RT.list_mk (h14.le hle52)), (RT.list_mk (h18.le hle52))⟩, ⟨[.int .i64 (x20)], _, rfl, rfl, (RT.list_mk h54)⟩⟩, trivial⟩ h62) ?_ ?_
    ·
     rintro _ _ ⟨hs63, rfl, h64⟩
     obtain ⟨A65, c66, rfl, _⟩ := h64.form
     refine ⟨.inr (.cons _ (.cons_cons _ (.cons _ (sub_skip hs63 (.refl _))))), ?_⟩
     refine E_in (.cons _ (.cons_cons _ (.cons _ (sub_skip hs63 (.refl _))))) ?_
     refine E_st 8 rfl (st_nil rfl) ?_
     refine E_st 9 rfl (st_field rfl fld119_0) ?_
     refine E_out ?_
     refine D_all [10] (by kernel_rfl) rfl ?_
     refine R_do (Base.Le.refl _) rfl rfl (u_store 2 rfl rfl siz117 rfl rfl (by simp)) ?_ ?_
     ·
      rintro _ _ rfl
      refine ⟨.inr (.cons _ (.cons_cons _ (.cons _ (sub_skip hs63 (.refl _))))), ?_⟩
      refine D_done (by kernel_rfl) ?_
      obtain rfl := some1 hm
      refine x_pullb 2 rfl ?_
      exact endM hle52 rfl (.cons_cons _ (.cons _ (.cons _ (.refl _)))) ⟨A65, c66, hs63, rfl, rfl, h64, (OS.nz h64 (by simp))⟩
     exact R_nil
    exact R_nil
   exact R_nil
  refine R_do (Base.Le.refl _) rfl rfl (u_bslice (el := 122) [(0, .agg #[.slice A12 (l15).length c13, .slice A16 (l19).length c17, .int .i64 (x20), .slice A3 (l21).length c4])] [.slice A12 (l15).length c13, .slice A16 (l19).length c17, .int .i64 (x20), .slice A3 (l21).length c4] rfl (fun _ => by kernel_rfl)) ?_ ?_
  ·
   rintro _ _ ⟨g61, rfl, rfl⟩
   refine ⟨.inr (.cons _ (.cons_cons _ (.cons _ (sub_skip hs7 (.refl _))))), ?_⟩
   refine D_all [4] (by kernel_rfl) rfl ?_
   refine R_do (Base.Le.refl _) rfl rfl (Stable.does (st_load 2 rfl one117 rfl rfl)) ?_ ?_
   ·
    rintro _ _ ⟨rfl, rfl⟩
    refine ⟨.inr (.cons _ (.cons_cons _ (.cons _ (sub_skip hs7 (.refl _))))), ?_⟩
    have h62 := room_some h62
    refine D_all [7] (by kernel_rfl) rfl ?_
    refine R_do (Base.Le.refl _) rfl rfl (u_appOS (r := rFleetTry) (l := l23) [_, _, _] R [[.slice A12 (l15).length c13, .slice A16 (l19).length c17, .int .i64 (x20), .slice A3 (l21).length c4]] [(⟨(⟨l15, l19⟩ : FleetDepot), x20, l21⟩ : FleetTry)] rfl (by decide) sl117 inf122 rfl rfl rfl rfl (h10.le hle52) rfl (fun w ho => Rd.own (i := 0) ho rfl) ⟨⟨[.slice A12 (l15).length c13, .slice A16 (l19).length c17], _, rfl, ⟨[.slice A12 (l15).length c13], _, rfl, (RT.list_mk (h14.le hle52)), (RT.list_mk (h18.le hle52))⟩, ⟨[.int .i64 (x20)], _, rfl, rfl, (RT.list_mk h54)⟩⟩, trivial⟩ h62) ?_ ?_
    ·
     rintro _ _ ⟨hs63, rfl, h64⟩
     obtain ⟨A65, c66, rfl, _⟩ := h64.form
     refine ⟨.inr (.cons _ (.cons_cons _ (.cons _ (sub_skip hs63 (.refl _))))), ?_⟩
     refine E_in (.cons _ (.cons_cons _ (.cons _ (sub_skip hs63 (.refl _))))) ?_
     refine E_st 8 rfl (st_nil rfl) ?_
     refine E_st 9 rfl (st_field rfl fld119_0) ?_
     refine E_out ?_
     refine D_all [10] (by kernel_rfl) rfl ?_
     refine R_do (Base.Le.refl _) rfl rfl (u_store 2 rfl rfl siz117 rfl rfl (by simp)) ?_ ?_
     ·
      rintro _ _ rfl
      refine ⟨.inr (.cons _ (.cons_cons _ (.cons _ (sub_skip hs63 (.refl _))))), ?_⟩
      refine D_done (by kernel_rfl) ?_
      obtain rfl := some1 hm
      refine x_pullb 2 rfl ?_
      exact endM hle52 rfl (.cons_cons _ (.cons _ (.cons _ (.refl _)))) ⟨A65, c66, hs63, rfl, rfl, h64, (OS.nz h64 (by simp))⟩
     exact R_nil
    exact R_nil
   exact R_nil
  exact R_nil

set_option maxRecDepth 20000 in
theorem cFleetQueueTake_2 (b : Base) (R : Hp) (l7 : (List FleetTry)) (g6 : Nat) (A3 : Option Addr) (c4 : Nat) (hs2 : Hp) (h5 : OS 122 (OT.fr rFleetTry) b.w (.slice A3 l7.length c4) l7 hs2) (l58 : (List Int)) (l62 : (List (List Int))) (x63 : Int) (l67 : (List FleetMove)) (x68 : Bool) (l69 : (List FleetTry)) (hm : mFleetQueueTake_2 l7 = some (l58, l62, x63, l67, x68, l69)) :
    CallsG Try.prog 63 [.pointer (some ⟨g6, 0, none⟩)] b ((g6, Cl 119 [.slice A3 (l7).length c4]) :: (hs2 ++ R)) (fun v b' hp' => ∃ (A55 : Option Addr), ∃ (c56 : Nat), ∃ (A59 : Option Addr), ∃ (c60 : Nat), ∃ (A64 : Option Addr), ∃ (c65 : Nat), ∃ (A52 : Option Addr), ∃ (c53 : Nat), ∃ (hs51 : Hp), .tuple #[.agg #[.slice A55 (l58).length c56, .slice A59 (l62).length c60, .int .i64 (x63), .slice A64 (l67).length c65], .bool (x68)] = v ∧ (g6, Cl 119 [.slice A52 (l69).length c53]) :: (hs51 ++ R) = hp' ∧ FZ (RT.int .i64) b'.w A55 c56 l58 ∧ FZ (RT.list (RT.int .i64)) b'.w A59 c60 l62 ∧ FZ rFleetMove b'.w A64 c65 l67 ∧ OS 122 (OT.fr rFleetTry) b'.w (.slice A52 l69.length c53) l69 hs51) := by
  refine fn_enterG 28 Try.func63 rfl Try.ntmps63 rfl ?_
  unfold mFleetQueueTake_2 at hm
  refine c_sr ?_
  refine t_do rfl (u_alloc [.slice none 0 0, .slice none 0 0, .int .i64 0, .slice none 0 0] zero122 rfl) ?_
  rintro _ _ ⟨g70, rfl, rfl⟩
  refine t_as rfl rfl ?_
  refine t_ne ?_
  refine c_sr ?_
  refine t_do rfl (u_alloc [.slice none 0 0, .slice none 0 0, .int .i64 0, .slice none 0 0] zero122 rfl) ?_
  rintro _ _ ⟨g71, rfl, rfl⟩
  refine t_ne ?_
  refine c_seq ?_
  refine c_sr ?_
  refine t_mv rfl rfl ?_
  refine t_st rfl (st_nil rfl) ?_
  refine t_st rfl (st_field rfl fld119_0) ?_
  refine t_st rfl (st_load 2 rfl one117 rfl rfl) ?_
  refine t_st rfl (st_len rfl sl117) ?_
  refine t_st rfl (st_eql rfl rfl) ?_
  refine t_ne ?_
  refine c_cond _ rfl (fun hc72 => ?_) (fun hc72 => ?_)
  ·
   rw [if_pos (of_decide_eq_true hc72)] at hm
   refine c_sr ?_
   refine t_st rfl (st_loadD (vs := [_, _, _, _]) 0 4 rfl agg122 rfl rfl rfl) ?_
   refine t_do rfl (u_storeN (vs := [_, _, _, _]) 1 4 rfl rfl rfl siz122 rfl (mem_c rfl (mem_c rfl (mem_c rfl (mem_c rfl mem_n)))) rfl (by simp)) ?_
   rintro _ _ rfl
   refine t_as rfl rfl ?_
   refine t_ne ?_
   refine c_ret ?_
   refine x_then_ret ?_
   obtain ⟨rfl, rfl, rfl, rfl, rfl, rfl⟩ := some6 hm
   refine x_pullb 2 rfl ?_
   exact retM (rs := [.cell 2 122, .tmp 3]) [.agg #[.slice none 0 0, .slice none 0 0, .int .i64 (0), .slice none 0 0], .bool (false)] (Base.Le.refl _) (by decide) rfl ⟨⟨_, rfl, fun w ho => cell_agg (vs := [_, _, _, _]) 2 4 agg122 rfl rfl rfl w ho⟩, ⟨rfl, trivial⟩⟩ rfl (.cons_cons _ (.cons _ (.cons _ (.refl _)))) ⟨none, 0, none, 0, none, 0, A3, c4, hs2, rfl, rfl, FZ.nil, FZ.nil, FZ.nil, h5⟩
  ·
   rw [if_neg (of_decide_eq_false hc72)] at hm
   refine c_skip ?_
   refine x_then_normal ?_
   refine c_sr ?_
   refine t_mv rfl rfl ?_
   refine t_st rfl (st_nil rfl) ?_
   refine t_st rfl (st_field rfl fld119_0) ?_
   refine t_st rfl (st_load 2 rfl one117 rfl rfl) ?_
   obtain ⟨x73, h74, hm⟩ := bindS hm
   obtain ⟨j75, hj76, hx77⟩ := idx_some h74
   obtain ⟨cs78, hs83, P84, P85, hq86, hr79, hcs80, hA81, hlt82, hb87, hho88⟩ := OS.get (sz := 4) rfl (by decide) h5 hx77
   obtain ⟨⟨_, _, rfl, ⟨_, _, rfl, ⟨A89, c90, rfl, h91⟩, ⟨A92, c93, rfl, h94⟩⟩, ⟨_, _, rfl, rfl, ⟨A95, c96, rfl, h97⟩⟩⟩, rfl⟩ := hr79
   refine t_st rfl (st_index_old j75 rfl rfl hj76 hlt82 hA81 sl117) ?_
   refine t_st rfl (st_loadN_rd (vs := [.slice A89 (x73.depot.Room).length c90, .slice A92 (x73.depot.Tracks).length c93, .int .i64 (x73.left), .slice A95 (x73.moves).length c96]) 4 rfl agg122 hA81 rfl (fun w ho j u hu => hcs80 w _ ho (.cons _ (.cons _ (.cons _ (List.sublist_append_left _ _)))) j u hu)) ?_
   refine t_do rfl (u_alloc [.slice none 0 0, .slice none 0 0, .int .i64 0, .slice none 0 0] zero122 rfl) ?_
   rintro _ _ ⟨g98, rfl, rfl⟩
   refine t_do rfl (u_storeN (vs := [_, _, _, _]) 0 4 rfl rfl rfl siz122 rfl (mem_c rfl (mem_c rfl (mem_c rfl (mem_c rfl mem_n)))) rfl (by simp)) ?_
   rintro _ _ rfl
   refine t_ne ?_
   refine c_sr ?_
   refine t_mv rfl rfl ?_
   refine t_mv rfl rfl ?_
   refine t_st rfl (st_nil rfl) ?_
   refine t_st rfl (st_field rfl fld119_0) ?_
   refine t_st rfl (st_load 3 rfl one117 rfl rfl) ?_
   obtain ⟨l99, h100, hm⟩ := bindS hm
   obtain ⟨j101, j102, hj103, hj104, hj105, hj106, hx107⟩ := cutS_some h100
   have h108 := OS.lc h5
   refine t_st rfl (hx107 ▸ st_part (l := l7) j101 j102 rfl (.inr ⟨_, _, _, rfl, rfl, hj103⟩) (.inl ⟨rfl, by omega⟩) hj105 hj106 h108 sl117) ?_
   obtain ⟨hs109, hq110, h111⟩ := OS.sub (sz := 4) rfl h5 hj105 hj106
   rw [← hx107] at h111
   refine t_less [_, _, _, _] hs2 hs109 R rfl hq110 ?_
   refine t_st rfl (st_nil rfl) ?_
   refine t_st rfl (st_field rfl fld119_0) ?_
   refine t_do rfl (u_store 3 rfl rfl siz117 rfl rfl (by simp)) ?_
   rintro _ _ rfl
   refine t_ne ?_
   refine c_sr ?_
   refine t_st rfl (st_loadD (vs := [_, _, _, _]) 0 4 rfl agg122 rfl rfl rfl) ?_
   refine t_do rfl (u_storeN (vs := [_, _, _, _]) 2 4 rfl rfl rfl siz122 rfl (mem_c rfl (mem_c rfl (mem_c rfl (mem_c rfl mem_n)))) rfl (by simp)) ?_
   rintro _ _ rfl
   refine t_as rfl rfl ?_
   refine t_ne ?_
   refine c_ret ?_
   obtain ⟨rfl, rfl, rfl, rfl, rfl, rfl⟩ := some6 hm
   refine x_pullb 3 rfl ?_
   exact retM (rs := [.cell 2 122, .tmp 3]) [.agg #[.slice A89 (x73.depot.Room).length c90, .slice A92 (x73.depot.Tracks).length c93, .int .i64 (x73.left), .slice A95 (x73.moves).length c96], .bool (true)] (Base.Le.refl _) (by decide) rfl ⟨⟨_, rfl, fun w ho => cell_agg (vs := [_, _, _, _]) 3 4 agg122 rfl rfl rfl w ho⟩, ⟨rfl, trivial⟩⟩ rfl (.cons_cons _ (.cons _ (.cons _ (.cons _ (.refl _))))) ⟨A89, c90, A92, c93, A95, c96, (subA A3 c4 j101 4), (c4 - j101), hs109, rfl, rfl, h91, h94, h97, h111⟩

end Go.Proofs.Ytajmocgpjkhjlaa
