/- Contracts: the code computes its model (part 7). -/
import Derived.Test.YtakehdnblmonlaaCP6
set_option linter.unusedVariables false
set_option linter.unusedSimpArgs false
namespace Go.Proofs.Ytakehdnblmonlaa
open Go.RowKit Go.Fp

set_option maxRecDepth 20000 in
theorem cMendProduct (b : Base) (R : Hp) (l4 : (List (List Int))) (l8 : (List (List Int))) (A1 : Option Addr) (c2 : Nat) (A5 : Option Addr) (c6 : Nat) (h3 : FZ (RT.list (RT.int .i64)) b.w A1 c2 l4) (h7 : FZ (RT.list (RT.int .i64)) b.w A5 c6 l8) (x7475 : Int) (l7476 : (List (List Int))) (hm : mMendProduct l4 l8 = some (x7475, l7476)) :
    CallsG Try.prog 23 [.slice A1 (l4).length c2, .slice A5 (l8).length c6] b (R) (fun v b' hp' => ∃ (A7472 : Option Addr), ∃ (c7473 : Nat), ∃ (hs7471 : Hp), .tuple #[.slice A7472 (l7476).length c7473, .int .i64 (x7475)] = v ∧ (hs7471 ++ R) = hp' ∧ OS 22 (OT.list 3 (OT.fr (RT.int .i64))) b'.w (.slice A7472 l7476.length c7473) l7476 hs7471) := by
  refine fn_enterG 119 Try.func23 rfl Try.ntmps23 rfl ?_
  unfold mMendProduct at hm
  refine c_seq ?_
  refine c_region ?_
  refine t_do rfl (u_box _ rfl rfl) ?_
  rintro _ _ ⟨g7477, rfl, rfl⟩
  refine t_st rfl (st_assign rfl) ?_
  refine t_st rfl (st_assign rfl) ?_
  refine t_nil ?_
  refine x_then_normal ?_
  refine c_seq ?_
  obtain ⟨x7481, hj7482, hk7482⟩ := bindS hm
  refine c_join (fun b7479 e' hp' => [(0, .slice A1 (l4).length c2), (3, .pointer (some ⟨g7477, 0, none⟩)), (23, .bool (x7481))] = e' ∧ (g7477, Cl 45 [.slice A5 (l8).length c6]) :: R = hp' ∧ b.Le b7479) ?_ ?_
  ·
    have hm := hj7482
    refine c_region ?_
    refine t_st rfl (st_move rfl) ?_
    refine t_st rfl (st_len rfl sl45) ?_
    refine t_bool rfl (st_gtr rfl rfl) (fun hc7483 => ?_) (fun hc7483 => ?_)
    ·
      rw [if_pos hc7483] at hm
      refine t_st rfl (st_move rfl) ?_
      refine t_no 19 rfl rfl rfl rfl rfl ?_
      refine t_no 19 rfl rfl rfl rfl rfl ?_
      refine t_no 19 rfl rfl rfl rfl rfl ?_
      refine t_st rfl (st_pick_t rfl rfl) ?_
      refine t_nil ?_
      obtain rfl := some1 hm
      exact x_join (e' := [(0, .slice A1 (l4).length c2), (3, .pointer (some ⟨g7477, 0, none⟩)), (23, .bool (true))]) (hp' := (g7477, Cl 45 [.slice A5 (l8).length c6]) :: R) ⟨rfl, rfl, rfl, trivial⟩ (.cons_cons _ (.refl _)) ⟨rfl, rfl, (Base.Le.refl _)⟩
    ·
      rw [if_neg hc7483] at hm
      refine t_st rfl (st_move rfl) ?_
      refine t_yes 19 rfl rfl rfl ?_
      refine t_st rfl (st_load 0 rfl one45 rfl rfl) ?_
      refine t_yes 19 rfl rfl rfl ?_
      refine t_st rfl (st_len rfl sl45) ?_
      refine t_yes 19 rfl rfl rfl ?_
      refine t_st rfl (st_gtr rfl rfl) ?_
      refine t_st rfl (st_pick_f rfl rfl) ?_
      refine t_nil ?_
      obtain rfl := some1 hm
      exact x_join (e' := [(0, .slice A1 (l4).length c2), (3, .pointer (some ⟨g7477, 0, none⟩)), (23, .bool (decide (8 < (l8.length : Int))))]) (hp' := (g7477, Cl 45 [.slice A5 (l8).length c6]) :: R) ⟨rfl, rfl, rfl, trivial⟩ (.cons_cons _ (.refl _)) ⟨rfl, rfl, (Base.Le.refl _)⟩
  ·
    rintro b7479 _ _ ⟨rfl, rfl, hle7480⟩
    have hm := hk7482
    refine c_cond _ rfl (fun hc7484 => ?_) (fun hc7484 => ?_)
    ·
      rw [if_pos hc7484] at hm
      refine c_seq ?_
      refine c_region ?_
      refine t_st rfl (st_assign rfl) ?_
      refine t_st rfl (st_assign rfl) ?_
      refine t_nil ?_
      refine x_then_normal ?_
      refine c_ret ?_
      refine x_then_ret ?_
      obtain ⟨rfl, rfl⟩ := some2 hm
      exact retM (rs := [.tmp 4, .tmp 5]) [.slice none 0 0, .int .i64 (4)] hle7480 (by decide) rfl ⟨rfl, ⟨rfl, trivial⟩⟩ rfl (hp' := ([] ++ R)) (.cons _ (.refl _)) ⟨none, 0, [], rfl, rfl, OS.nil⟩
    ·
      rw [if_neg (fun hh => Bool.noConfusion (hh.symm.trans hc7484))] at hm
      refine c_skip ?_
      refine x_then_normal ?_
      refine c_seq ?_
      obtain ⟨x7496, hj7497, hk7497⟩ := bindS hm
      refine c_join (fun b7494 e' hp' => [(0, .slice A1 (l4).length c2), (3, .pointer (some ⟨g7477, 0, none⟩)), (31, .bool (x7496))] = e' ∧ (g7477, Cl 45 [.slice A5 (l8).length c6]) :: R = hp' ∧ b7479.Le b7494) ?_ ?_
      ·
        have hm := hj7497
        refine c_region ?_
        refine t_st rfl (st_move rfl) ?_
        refine t_st rfl (st_func _ _ rfl rfl) ?_
        obtain ⟨x7498, hcl7499, hm⟩ := bindS hm
        refine t_callG _ rfl call29 rfl (cSlicesContainsFunc_3 _ _ l4 l8 g7477 A1 c2 A5 c6 (h3.le hle7480) (h7.le hle7480) x7498 hcl7499) ?_
        rintro _ b7500 _ hle7501 ⟨rfl, rfl⟩
        rcases Bool.eq_false_or_eq_true x7498 with hc7502 | hc7502
        ·
          rw [if_pos hc7502] at hm
          refine t_resp 26 rfl (v' := .bool true) (by rw [hc7502] <;> rfl) ?_
          refine t_st rfl (st_move rfl) ?_
          refine t_no 27 rfl rfl rfl rfl rfl ?_
          refine t_no 27 rfl rfl rfl rfl rfl ?_
          refine t_no 27 rfl rfl rfl rfl rfl ?_
          refine t_st rfl (st_pick_t rfl rfl) ?_
          refine t_nil ?_
          obtain rfl := some1 hm
          exact x_join (e' := [(0, .slice A1 (l4).length c2), (3, .pointer (some ⟨g7477, 0, none⟩)), (31, .bool (true))]) (hp' := (g7477, Cl 45 [.slice A5 (l8).length c6]) :: R) ⟨rfl, rfl, rfl, trivial⟩ (.cons_cons _ (.refl _)) ⟨rfl, rfl, hle7501⟩
        ·
          rw [if_neg (fun hh => Bool.noConfusion (hh.symm.trans hc7502))] at hm
          refine t_resp 26 rfl (v' := .bool false) (by rw [hc7502] <;> rfl) ?_
          refine t_st rfl (st_move rfl) ?_
          refine t_yes 27 rfl rfl rfl ?_
          refine t_st rfl (st_load 0 rfl one45 rfl rfl) ?_
          refine t_yes 27 rfl rfl rfl ?_
          refine t_st rfl (st_func _ _ rfl rfl) ?_
          refine t_yes 27 rfl rfl rfl ?_
          obtain ⟨x7503, hcl7504, hm⟩ := bindS hm
          refine t_callG _ rfl call29 rfl (cSlicesContainsFunc_4 _ _ l8 l8 g7477 A5 c6 A5 c6 (h7.le (hle7480.trans hle7501)) (h7.le (hle7480.trans hle7501)) x7503 hcl7504) ?_
          rintro _ b7505 _ hle7506 ⟨rfl, rfl⟩
          refine t_st rfl (st_pick_f rfl rfl) ?_
          refine t_nil ?_
          obtain rfl := some1 hm
          exact x_join (e' := [(0, .slice A1 (l4).length c2), (3, .pointer (some ⟨g7477, 0, none⟩)), (31, .bool (x7503))]) (hp' := (g7477, Cl 45 [.slice A5 (l8).length c6]) :: R) ⟨rfl, rfl, rfl, trivial⟩ (.cons_cons _ (.refl _)) ⟨rfl, rfl, (hle7501.trans hle7506)⟩
      ·
        rintro b7494 _ _ ⟨rfl, rfl, hle7495⟩
        have hm := hk7497
        refine c_cond _ rfl (fun hc7507 => ?_) (fun hc7507 => ?_)
        ·
          rw [if_pos hc7507] at hm
          refine c_seq ?_
          refine c_region ?_
          refine t_st rfl (st_assign rfl) ?_
          refine t_st rfl (st_assign rfl) ?_
          refine t_nil ?_
          refine x_then_normal ?_
          refine c_ret ?_
          refine x_then_ret ?_
          obtain ⟨rfl, rfl⟩ := some2 hm
          exact retM (rs := [.tmp 4, .tmp 5]) [.slice none 0 0, .int .i64 (1)] (hle7480.trans hle7495) (by decide) rfl ⟨rfl, ⟨rfl, trivial⟩⟩ rfl (hp' := ([] ++ R)) (.cons _ (.refl _)) ⟨none, 0, [], rfl, rfl, OS.nil⟩
        ·
          rw [if_neg (fun hh => Bool.noConfusion (hh.symm.trans hc7507))] at hm
          refine c_skip ?_
          refine x_then_normal ?_
          refine c_seq ?_
          refine c_region ?_
          refine t_st rfl (st_assign rfl) ?_
          refine t_nil ?_
          refine x_then_normal ?_
          obtain ⟨x7524, hj7525, hk7525⟩ := bindS hm
          refine c_join (fun b7522 e' hp' => [(0, .slice A1 (l4).length c2), (3, .pointer (some ⟨g7477, 0, none⟩)), (6, .int .i64 (x7524))] = e' ∧ (g7477, Cl 45 [.slice A5 (l8).length c6]) :: R = hp' ∧ b7494.Le b7522) ?_ ?_
          ·
            have hm := hj7525
            refine c_seq ?_
            refine c_region ?_
            refine t_st rfl (st_load 0 rfl one45 rfl rfl) ?_
            refine t_st rfl (st_len rfl sl45) ?_
            refine t_st rfl (st_gtr rfl rfl) ?_
            refine t_nil ?_
            refine x_then_normal ?_
            refine c_cond _ rfl (fun hc7526 => ?_) (fun hc7526 => ?_)
            ·
              rw [if_pos (of_decide_eq_true hc7526)] at hm
              refine c_region ?_
              refine t_st rfl (st_load 0 rfl one45 rfl rfl) ?_
              obtain ⟨x7527, h7528, hm⟩ := bindS hm
              obtain ⟨j7529, hj7530, hx7531⟩ := idx_some h7528
              obtain ⟨cs7532, hr7533, hcs7534, hA7535, hlt7536⟩ := FZ.get (sz := 1) rfl (by decide) (h7.le (hle7480.trans hle7495)) hx7531
              obtain ⟨A7537, c7538, rfl, h7539⟩ := hr7533
              refine t_st rfl (st_index_old j7529 rfl rfl hj7530 hlt7536 hA7535 sl45) ?_
              refine t_st rfl (st_load_old rfl one22 (hcs7534 0 _ rfl)) ?_
              refine t_st rfl (st_len rfl sl22) ?_
              refine t_st rfl (st_assign rfl) ?_
              refine t_nil ?_
              obtain rfl := some1 hm
              exact x_join (e' := [(0, .slice A1 (l4).length c2), (3, .pointer (some ⟨g7477, 0, none⟩)), (6, .int .i64 ((x7527.length : Int)))]) (hp' := (g7477, Cl 45 [.slice A5 (l8).length c6]) :: R) ⟨rfl, rfl, rfl, trivial⟩ (.cons_cons _ (.refl _)) ⟨rfl, rfl, (Base.Le.refl _)⟩
            ·
              rw [if_neg (of_decide_eq_false hc7526)] at hm
              refine c_skip ?_
              obtain rfl := some1 hm
              exact x_join (e' := [(0, .slice A1 (l4).length c2), (3, .pointer (some ⟨g7477, 0, none⟩)), (6, .int .i64 (0))]) (hp' := (g7477, Cl 45 [.slice A5 (l8).length c6]) :: R) ⟨rfl, rfl, rfl, trivial⟩ (.cons_cons _ (.refl _)) ⟨rfl, rfl, (Base.Le.refl _)⟩
          ·
            rintro b7522 _ _ ⟨rfl, rfl, hle7523⟩
            have hm := hk7525
            refine c_seq ?_
            refine c_seq ?_
            refine c_region ?_
            refine t_st rfl (st_move rfl) ?_
            refine t_st rfl (st_gtr rfl rfl) ?_
            refine t_nil ?_
            refine x_then_normal ?_
            refine c_cond _ rfl (fun hc7540 => ?_) (fun hc7540 => ?_)
            ·
              rw [if_pos (of_decide_eq_true hc7540)] at hm
              refine c_seq ?_
              refine c_region ?_
              refine t_st rfl (st_assign rfl) ?_
              refine t_st rfl (st_assign rfl) ?_
              refine t_nil ?_
              refine x_then_normal ?_
              refine c_ret ?_
              refine x_then_ret ?_
              obtain ⟨rfl, rfl⟩ := some2 hm
              exact retM (rs := [.tmp 4, .tmp 5]) [.slice none 0 0, .int .i64 (4)] (hle7480.trans (hle7495.trans hle7523)) (by decide) rfl ⟨rfl, ⟨rfl, trivial⟩⟩ rfl (hp' := ([] ++ R)) (.cons _ (.refl _)) ⟨none, 0, [], rfl, rfl, OS.nil⟩
            ·
              rw [if_neg (of_decide_eq_false hc7540)] at hm
              refine c_skip ?_
              refine x_then_normal ?_
              refine c_seq ?_
              refine c_seq ?_
              refine c_region ?_
              refine t_st rfl (st_move rfl) ?_
              refine t_st rfl (st_load 0 rfl one45 rfl rfl) ?_
              refine t_st rfl (st_build (v := .agg #[.slice A1 (l4).length c2, .slice A5 (l8).length c6]) [(0, .slice A1 (l4).length c2), (1, .slice A5 (l8).length c6)] rfl (fun _ => by kernel_rfl)) ?_
              refine t_st rfl (st_move rfl) ?_
              refine t_nil ?_
              refine x_then_normal ?_
              refine c_block ?_
              obtain ⟨t7560, hl7561, hk7562⟩ := bindS hm
              refine c_forM (fun k7559 => fun _ => fun b7557 e' hp' => [(0, .slice A1 (l4).length c2), (3, .pointer (some ⟨g7477, 0, none⟩)), (6, .int .i64 (x7524)), (43, .agg #[.slice A1 (l4).length c2, .slice A5 (l8).length c6]), (44, .int .i64 ((k7559 : Int)))] = e' ∧ (g7477, Cl 45 [.slice A5 (l8).length c6]) :: R = hp' ∧ b7522.Le b7557) hl7561 (e' := [(0, .slice A1 (l4).length c2), (3, .pointer (some ⟨g7477, 0, none⟩)), (6, .int .i64 (x7524)), (43, .agg #[.slice A1 (l4).length c2, .slice A5 (l8).length c6]), (44, .int .i64 0)]) (hp' := (g7477, Cl 45 [.slice A5 (l8).length c6]) :: R) ⟨rfl, rfl, rfl, rfl, rfl, trivial⟩ (.cons_cons _ (.refl _)) ⟨rfl, rfl, (Base.Le.refl _)⟩ ?_ ?_
              ·
                rintro k7559 _ b7557 _ _ oL7541 hknL7541 ⟨rfl, rfl, hle7558⟩ hstepL7541 houtL7541
                unfold mMendProduct_L7541 at hstepL7541
                have hm := hstepL7541
                refine c_seq ?_
                refine c_region ?_
                refine t_st rfl (st_lss_t rfl rfl (by omega)) ?_
                refine t_nil ?_
                refine x_then_normal ?_
                refine c_seq ?_
                refine c_cond_t rfl ?_
                refine c_skip ?_
                refine x_then_normal ?_
                refine c_seq ?_
                refine c_block ?_
                refine c_seq ?_
                refine c_region ?_
                obtain ⟨x7563, h7564, hm⟩ := bindS hm
                obtain ⟨j7565, hj7566, hx7567⟩ := idx_some h7564
                obtain ⟨cs7568, hr7569, hcs7570, hlt7571⟩ := arr_get (r := (RT.list (RT.list (RT.int .i64)))) (w := b7557.w) (css := [[.slice A1 (l4).length c2], [.slice A5 (l8).length c6]]) (l := [l4, l8]) (sz := 1) rfl ⟨(RT.list_mk (h3.le (hle7480.trans (hle7495.trans (hle7523.trans hle7558))))), ⟨(RT.list_mk (h7.le (hle7480.trans (hle7495.trans (hle7523.trans hle7558))))), trivial⟩⟩ hx7567
                obtain ⟨A7572, c7573, rfl, h7574⟩ := hr7569
                refine t_st rfl (st_aidx1 (cs := ([[.slice A1 (l4).length c2], [.slice A5 (l8).length c6]] : List (List Value)).flatten) j7565 rfl rfl hj7566 hlt7571 (hcs7570 0 _ rfl) arr85 one45) ?_
                refine t_st rfl (st_assign rfl) ?_
                refine t_nil ?_
                refine x_then_normal ?_
                refine c_seq ?_
                refine c_region ?_
                refine t_st rfl (st_move rfl) ?_
                obtain ⟨x7575, hcl7576, hm⟩ := bindS hm
                refine t_do rfl (u_callW0 _ call44 rfl (fun w ho => cMendCheckTable _ [] x7563 A7572 c7573 (h7574.old ho) x7575 hcl7576) (fun _ _ _ h => h.2.symm)) ?_
                rintro _ _ ⟨⟨_, rfl, _⟩, rfl⟩
                refine t_st rfl (st_assign rfl) ?_
                refine t_nil ?_
                refine x_then_normal ?_
                refine c_seq ?_
                refine c_region ?_
                refine t_st rfl (st_move rfl) ?_
                refine t_st rfl (st_neq rfl rfl) ?_
                refine t_nil ?_
                refine x_then_normal ?_
                refine c_cond _ rfl (fun hc7577 => ?_) (fun hc7577 => ?_)
                ·
                  rw [if_pos (of_decide_eq_true hc7577)] at hm
                  refine c_seq ?_
                  refine c_region ?_
                  refine t_st rfl (st_move rfl) ?_
                  refine t_st rfl (st_assign rfl) ?_
                  refine t_st rfl (st_assign rfl) ?_
                  refine t_nil ?_
                  refine x_then_normal ?_
                  refine c_ret ?_
                  refine x_block_ret ?_
                  refine x_then_ret ?_
                  refine x_then_ret ?_
                  refine x_block_ret ?_
                  refine x_then_ret ?_
                  have hq7578 := houtL7541 _ (Option.some.inj hm).symm
                  rw [hq7578] at hk7562
                  have hm := elimR hk7562
                  obtain ⟨rfl, rfl⟩ := some2 hm
                  exact retM (rs := [.tmp 4, .tmp 5]) [.slice none 0 0, .int .i64 (x7575)] (hle7480.trans (hle7495.trans (hle7523.trans hle7558))) (by decide) rfl ⟨rfl, ⟨rfl, trivial⟩⟩ rfl (hp' := ([] ++ R)) (.cons _ (.refl _)) ⟨none, 0, [], rfl, rfl, OS.nil⟩
                ·
                  rw [if_neg (of_decide_eq_false hc7577)] at hm
                  refine c_skip ?_
                  refine x_block_normal ?_
                  refine x_then_normal ?_
                  refine c_region ?_
                  refine t_st rfl (st_add rfl rfl (by omega)) ?_
                  refine t_st rfl (st_move rfl) ?_
                  refine t_nil ?_
                  exact x_againM () (Option.some.inj hm).symm (e' := [(0, .slice A1 (l4).length c2), (3, .pointer (some ⟨g7477, 0, none⟩)), (6, .int .i64 (x7524)), (43, .agg #[.slice A1 (l4).length c2, .slice A5 (l8).length c6]), (44, .int .i64 ((k7559 : Int) + 1))]) (hp' := (g7477, Cl 45 [.slice A5 (l8).length c6]) :: R) ⟨rfl, rfl, rfl, rfl, rfl, trivial⟩ (.cons_cons _ (.refl _)) ⟨rfl, rfl, (hle7558)⟩
              ·
                rintro _ b7557 _ _ ⟨rfl, rfl, hle7558⟩ hq7579
                rw [hq7579] at hk7562
                have hm := elimL hk7562
                refine c_seq ?_
                refine c_region ?_
                refine t_st rfl (st_lss_f rfl rfl (by omega)) ?_
                refine t_nil ?_
                refine x_then_normal ?_
                refine c_seq ?_
                refine c_cond_f rfl ?_
                refine c_exit ?_
                refine x_then_exit ?_
                refine x_then_exit ?_
                refine x_block_out ?_
                refine x_then_normal ?_
                refine c_seq ?_
                refine c_region ?_
                refine t_st rfl (st_move rfl) ?_
                refine t_st rfl (st_len rfl sl45) ?_
                obtain ⟨m7580, h7581, hm⟩ := bindS hm
                have h7581 := mkLen_some h7581
                refine t_do rfl (u_mkOO (o := (OT.list 3 (OT.fr (RT.int .i64)))) [_] R [.slice none 0 0] ([] : List Int) m7580 rfl h7581.1 rfl rfl sl45 inf22 rfl rfl rfl (by decide) ⟨_, rfl, OS.nil⟩ h7581.2.1 h7581.2.2) ?_
                rintro _ _ ⟨hs7582, rfl, h7583⟩
                obtain ⟨A7584, c7585, rfl, _⟩ := h7583.form
                refine t_st rfl (st_assign rfl) ?_
                refine t_nil ?_
                refine x_then_normal ?_
                refine c_seq ?_
                refine c_seq ?_
                refine c_region ?_
                refine t_st rfl (st_move rfl) ?_
                refine t_st rfl (st_len rfl sl45) ?_
                refine t_st rfl (st_move rfl) ?_
                refine t_nil ?_
                refine x_then_normal ?_
                refine c_block ?_
                have hb7587 := (FZ.bd (h3.le (hle7480.trans (hle7495.trans (hle7523.trans hle7558)))))
                obtain ⟨l12488, hl12491, hk12492⟩ := bindS hm
                refine c_forS (fun k12490 => fun l12488 => fun b12483 e' hp' => ∃ (hs12486 : Hp), [(3, .pointer (some ⟨g7477, 0, none⟩)), (6, .int .i64 (x7524)), (10, .slice A7584 (l12488).length c7585), (56, .slice A1 (l4).length c2), (57, .int .i64 ((l4.length : Int))), (58, .int .i64 ((k12490 : Int)))] = e' ∧ (g7477, Cl 45 [.slice A5 (l8).length c6]) :: (hs12486 ++ R) = hp' ∧ b7557.Le b12483 ∧ OS 22 (OT.list 3 (OT.fr (RT.int .i64))) b12483.w (.slice A7584 l12488.length c7585) l12488 hs12486 ∧ l12488.length = m7580) hl12491 (e' := [(3, .pointer (some ⟨g7477, 0, none⟩)), (6, .int .i64 (x7524)), (10, .slice A7584 (List.replicate m7580 (([] : List Int) : (List Int))).length c7585), (56, .slice A1 (l4).length c2), (57, .int .i64 ((l4.length : Int))), (58, .int .i64 0)]) (hp' := (g7477, Cl 45 [.slice A5 (l8).length c6]) :: (hs7582 ++ R)) ⟨rfl, rfl, rfl, rfl, rfl, rfl, trivial⟩ (.cons_cons _ (sub_app hs7582 (.refl _))) ⟨hs7582, rfl, rfl, (Base.Le.refl _), h7583, List.length_replicate⟩ ?_ ?_
                ·
                  rintro k12490 l12488 b12483 _ _ oL7586 hknL7586 ⟨hs12486, rfl, rfl, hle12484, h12487, hln12489⟩ hstepL7586
                  unfold mMendProduct_L7586 at hstepL7586
                  have hm := hstepL7586
                  refine c_seq ?_
                  refine c_region ?_
                  refine t_st rfl (st_lss_t rfl rfl (by omega)) ?_
                  refine t_nil ?_
                  refine x_then_normal ?_
                  refine c_seq ?_
                  refine c_cond_t rfl ?_
                  refine c_skip ?_
                  refine x_then_normal ?_
                  refine c_seq ?_
                  refine c_block ?_
                  refine c_seq ?_
                  refine c_region ?_
                  refine t_st rfl (st_move rfl) ?_
                  obtain ⟨x12493, h12494, hm⟩ := bindS hm
                  obtain ⟨j12495, hj12496, hx12497⟩ := idx_some h12494
                  obtain ⟨cs12498, hr12499, hcs12500, hA12501, hlt12502⟩ := FZ.get (sz := 1) rfl (by decide) (h3.le (hle7480.trans (hle7495.trans (hle7523.trans (hle7558.trans hle12484))))) hx12497
                  obtain ⟨A12503, c12504, rfl, h12505⟩ := hr12499
                  refine t_st rfl (st_index_old j12495 rfl rfl hj12496 hlt12502 hA12501 sl45) ?_
                  refine t_st rfl (st_load_old rfl one22 (hcs12500 0 _ rfl)) ?_
                  refine t_st rfl (st_assign rfl) ?_
                  refine t_st rfl (st_assign rfl) ?_
                  refine t_nil ?_
                  refine x_then_normal ?_
                  refine c_seq ?_
                  refine c_region ?_
                  refine t_st rfl (st_move rfl) ?_
                  refine t_st rfl (st_move rfl) ?_
                  refine t_do rfl (u_bslice (el := 3) [(0, .int .i64 ((-4611686018427387904)))] [.int .i64 ((-4611686018427387904))] rfl (fun _ => by kernel_rfl)) ?_
                  rintro _ _ ⟨g12506, rfl, rfl⟩
                  refine t_st rfl (st_move rfl) ?_
                  refine t_seg 0 [_] (hs12486 ++ R) rfl rfl ?_
                  have h12508 : OS 3 (OT.fr (RT.int .i64)) b12483.w (.slice (some ⟨g12506, 0, none⟩) 1 1) [(-4611686018427387904)] [(g12506, Cl 3 [.int .i64 ((-4611686018427387904))])] := OS.lit [[.int .i64 ((-4611686018427387904))]] rfl ⟨rfl, trivial⟩ rfl (by decide)
                  obtain ⟨l12509, hcl12510, hm⟩ := bindS hm
                  refine t_do rfl (u_callWF [_] ([(g12506, Cl 3 [.int .i64 ((-4611686018427387904))])] ++ (hs12486 ++ R)) _ rfl call47 rfl (fun w ho => cSlicesRepeat _ [] [(-4611686018427387904)] x7524 (some ⟨g12506, 0, none⟩) 1 (OS.now (o := (OT.fr (RT.int .i64))) (l := [(-4611686018427387904)]) (hs := [(g12506, Cl 3 [.int .i64 ((-4611686018427387904))])]) h12508 ho (.cons _ (List.sublist_append_left _ _))) l12509 hcl12510)) ?_
                  rintro _ _ ⟨_, _, rfl, A12511, c12512, hs12513, rfl, hq12516, h12514⟩
                  obtain rfl := List.append_cancel_right hq12516
                  have h12515 := flat_fz (w' := b12483.w) (fun _ _ _ _ h => h) h12514
                  obtain ⟨x12517, h12518, hm⟩ := bindS hm
                  obtain ⟨j12519, hj12520, hx12521⟩ := idx_some h12518
                  obtain ⟨cs12522, hs12527, P12528, P12529, hq12530, hr12523, hcs12524, hA12525, hlt12526, hb12531, hho12532⟩ := OS.get (sz := 1) rfl (by decide) h12487 hx12521
                  obtain ⟨v12533, rfl, h12534⟩ := hr12523
                  obtain ⟨A12535, c12536, rfl, _⟩ := h12534.form
                  refine t_st rfl (st_index_old j12519 rfl rfl hj12520 hlt12526 hA12525 sl45) ?_
                  refine t_front3 [_] hs12513 [(g12506, Cl 3 [.int .i64 ((-4611686018427387904))])] hs12486 R rfl ?_
                  refine t_do rfl (u_putOO hj12520 (sz := 1) (a' := l12509) rfl [_] hs12513 ([(g12506, Cl 3 [.int .i64 ((-4611686018427387904))])] ++ R) 1 [.slice A12511 (l12509).length c12512] rfl h12487 hx12521 rfl rfl rfl siz22 rfl (by decide) ⟨_, rfl, h12515⟩) ?_
                  rintro _ _ ⟨hs12537, rfl, h12538⟩
                  refine t_resp 10 rfl (v' := .slice A7584 (put l12488 (k12490 : Int) l12509).length c7585) (by simp only [put_length]) ?_
                  refine t_nil ?_
                  refine x_then_normal ?_
                  refine c_seq ?_
                  refine c_region ?_
                  refine t_st rfl (st_move rfl) ?_
                  refine t_st rfl (st_move rfl) ?_
                  refine t_nil ?_
                  refine x_then_normal ?_
                  refine c_block ?_
                  obtain ⟨_, h12540, hm⟩ := bindS hm
                  have h12540 := (chk_some h12540).2
                  obtain ⟨l14139, hl14142, hk14143⟩ := bindS hm
                  refine c_forS (fun k14141 => fun l14139 => fun b14134 e' hp' => ∃ (hs14137 : Hp), [(3, .pointer (some ⟨g7477, 0, none⟩)), (6, .int .i64 (x7524)), (10, .slice A7584 (l14139).length c7585), (11, .int .i64 ((k12490 : Int))), (12, .slice A12503 (x12493).length c12504), (56, .slice A1 (l4).length c2), (57, .int .i64 ((l4.length : Int))), (58, .int .i64 ((k12490 : Int))), (69, .int .i64 (x7524)), (70, .int .i64 ((k14141 : Int)))] = e' ∧ (g7477, Cl 45 [.slice A5 (l8).length c6]) :: (hs14137 ++ R) = hp' ∧ b12483.Le b14134 ∧ OS 22 (OT.list 3 (OT.fr (RT.int .i64))) b14134.w (.slice A7584 l14139.length c7585) l14139 hs14137 ∧ l14139.length = m7580) hl14142 (e' := [(3, .pointer (some ⟨g7477, 0, none⟩)), (6, .int .i64 (x7524)), (10, .slice A7584 (put l12488 (k12490 : Int) l12509).length c7585), (11, .int .i64 ((k12490 : Int))), (12, .slice A12503 (x12493).length c12504), (56, .slice A1 (l4).length c2), (57, .int .i64 ((l4.length : Int))), (58, .int .i64 ((k12490 : Int))), (69, .int .i64 (x7524)), (70, .int .i64 0)]) (hp' := (g7477, Cl 45 [.slice A5 (l8).length c6]) :: (hs12537 ++ R)) ⟨rfl, rfl, rfl, rfl, rfl, rfl, rfl, rfl, rfl, rfl, trivial⟩ (.cons_cons _ (sub_app hs12537 (sub_skip [(g12506, Cl 3 [.int .i64 ((-4611686018427387904))])] (.refl _)))) ⟨hs12537, rfl, rfl, (Base.Le.refl _), h12538, ((put_length _ _ _).trans hln12489)⟩ ?_ ?_
                  ·
                    rintro k14141 l14139 b14134 _ _ oL12539 hknL12539 ⟨hs14137, rfl, rfl, hle14135, h14138, hln14140⟩ hstepL12539
                    unfold mMendProduct_L12539 at hstepL12539
                    have hm := hstepL12539
                    refine c_seq ?_
                    refine c_region ?_
                    refine t_st rfl (st_lss_t rfl rfl (by omega)) ?_
                    refine t_nil ?_
                    refine x_then_normal ?_
                    refine c_seq ?_
                    refine c_cond_t rfl ?_
                    refine c_skip ?_
                    refine x_then_normal ?_
                    refine c_seq ?_
                    refine c_block ?_
                    refine c_seq ?_
                    refine c_region ?_
                    refine t_st rfl (st_move rfl) ?_
                    refine t_st rfl (st_assign rfl) ?_
                    refine t_nil ?_
                    refine x_then_normal ?_
                    refine c_seq ?_
                    refine c_region ?_
                    refine t_st rfl (st_move rfl) ?_
                    refine t_st rfl (st_len rfl sl22) ?_
                    refine t_st rfl (st_move rfl) ?_
                    refine t_nil ?_
                    refine x_then_normal ?_
                    refine c_block ?_
                    have hb14145 := (FZ.bd (h12505.le hle14135))
                    obtain ⟨l14674, hl14677, hk14678⟩ := bindS hm
                    refine c_forS (fun k14676 => fun l14674 => fun b14669 e' hp' => ∃ (hs14672 : Hp), [(3, .pointer (some ⟨g7477, 0, none⟩)), (6, .int .i64 (x7524)), (10, .slice A7584 (l14674).length c7585), (11, .int .i64 ((k12490 : Int))), (12, .slice A12503 (x12493).length c12504), (13, .int .i64 ((k14141 : Int))), (56, .slice A1 (l4).length c2), (57, .int .i64 ((l4.length : Int))), (58, .int .i64 ((k12490 : Int))), (69, .int .i64 (x7524)), (70, .int .i64 ((k14141 : Int))), (73, .slice A12503 (x12493).length c12504), (74, .int .i64 ((x12493.length : Int))), (75, .int .i64 ((k14676 : Int)))] = e' ∧ (g7477, Cl 45 [.slice A5 (l8).length c6]) :: (hs14672 ++ R) = hp' ∧ b14134.Le b14669 ∧ OS 22 (OT.list 3 (OT.fr (RT.int .i64))) b14669.w (.slice A7584 l14674.length c7585) l14674 hs14672 ∧ l14674.length = m7580) hl14677 (e' := [(3, .pointer (some ⟨g7477, 0, none⟩)), (6, .int .i64 (x7524)), (10, .slice A7584 (l14139).length c7585), (11, .int .i64 ((k12490 : Int))), (12, .slice A12503 (x12493).length c12504), (13, .int .i64 ((k14141 : Int))), (56, .slice A1 (l4).length c2), (57, .int .i64 ((l4.length : Int))), (58, .int .i64 ((k12490 : Int))), (69, .int .i64 (x7524)), (70, .int .i64 ((k14141 : Int))), (73, .slice A12503 (x12493).length c12504), (74, .int .i64 ((x12493.length : Int))), (75, .int .i64 0)]) (hp' := (g7477, Cl 45 [.slice A5 (l8).length c6]) :: (hs14137 ++ R)) ⟨rfl, rfl, rfl, rfl, rfl, rfl, rfl, rfl, rfl, rfl, rfl, rfl, rfl, rfl, trivial⟩ (.cons_cons _ (sub_app hs14137 (.refl _))) ⟨hs14137, rfl, rfl, (Base.Le.refl _), h14138, hln14140⟩ ?_ ?_
                    ·
                      rintro k14676 l14674 b14669 _ _ oL14144 hknL14144 ⟨hs14672, rfl, rfl, hle14670, h14673, hln14675⟩ hstepL14144
                      unfold mMendProduct_L14144 at hstepL14144
                      have hm := hstepL14144
                      refine c_seq ?_
                      refine c_region ?_
                      refine t_st rfl (st_lss_t rfl rfl (by omega)) ?_
                      refine t_nil ?_
                      refine x_then_normal ?_
                      refine c_seq ?_
                      refine c_cond_t rfl ?_
                      refine c_skip ?_
                      refine x_then_normal ?_
                      refine c_seq ?_
                      refine c_block ?_
                      refine c_seq ?_
                      refine c_region ?_
                      refine t_st rfl (st_move rfl) ?_
                      obtain ⟨x14679, h14680, hm⟩ := bindS hm
                      obtain ⟨j14681, hj14682, hx14683⟩ := idx_some h14680
                      obtain ⟨cs14684, hr14685, hcs14686, hA14687, hlt14688⟩ := FZ.get (sz := 1) rfl (by decide) (h12505.le (hle14135.trans hle14670)) hx14683
                      obtain rfl := hr14685
                      refine t_st rfl (st_index_old j14681 rfl rfl hj14682 hlt14688 hA14687 sl22) ?_
                      refine t_st rfl (st_load_old rfl one3 (hcs14686 0 _ rfl)) ?_
                      refine t_st rfl (st_assign rfl) ?_
                      refine t_st rfl (st_assign rfl) ?_
                      refine t_nil ?_
                      refine x_then_normal ?_
                      obtain ⟨x14715, hj14716, hk14716⟩ := bindS hm
                      refine c_join (fun b14713 e' hp' => [(3, .pointer (some ⟨g7477, 0, none⟩)), (6, .int .i64 (x7524)), (10, .slice A7584 (l14674).length c7585), (11, .int .i64 ((k12490 : Int))), (12, .slice A12503 (x12493).length c12504), (13, .int .i64 ((k14141 : Int))), (14, .int .i64 ((k14676 : Int))), (15, .int .i64 (x14679)), (56, .slice A1 (l4).length c2), (57, .int .i64 ((l4.length : Int))), (58, .int .i64 ((k12490 : Int))), (69, .int .i64 (x7524)), (70, .int .i64 ((k14141 : Int))), (73, .slice A12503 (x12493).length c12504), (74, .int .i64 ((x12493.length : Int))), (75, .int .i64 ((k14676 : Int))), (91, .bool (x14715))] = e' ∧ (g7477, Cl 45 [.slice A5 (l8).length c6]) :: (hs14672 ++ R) = hp' ∧ b14669.Le b14713) ?_ ?_
                      ·
                        have hm := hj14716
                        refine c_region ?_
                        refine t_st rfl (st_move rfl) ?_
                        refine t_bool rfl (st_neq rfl rfl) (fun hc14717 => ?_) (fun hc14717 => ?_)
                        ·
                          rw [if_pos hc14717] at hm
                          refine t_st rfl (st_move rfl) ?_
                          refine t_yes 82 rfl rfl rfl ?_
                          refine t_st rfl (st_load 0 rfl one45 rfl rfl) ?_
                          refine t_yes 82 rfl rfl rfl ?_
                          refine t_st rfl (st_move rfl) ?_
                          refine t_yes 82 rfl rfl rfl ?_
                          obtain ⟨x14718, h14719, hm⟩ := bindS hm
                          obtain ⟨j14720, hj14721, hx14722⟩ := idx_some h14719
                          obtain ⟨cs14723, hr14724, hcs14725, hA14726, hlt14727⟩ := FZ.get (sz := 1) rfl (by decide) (h7.le (hle7480.trans (hle7495.trans (hle7523.trans (hle7558.trans (hle12484.trans (hle14135.trans hle14670))))))) hx14722
                          obtain ⟨A14728, c14729, rfl, h14730⟩ := hr14724
                          refine t_st rfl (st_index_old j14720 rfl rfl hj14721 hlt14727 hA14726 sl45) ?_
                          refine t_yes 82 rfl rfl rfl ?_
                          refine t_st rfl (st_load_old rfl one22 (hcs14725 0 _ rfl)) ?_
                          refine t_yes 82 rfl rfl rfl ?_
                          refine t_st rfl (st_move rfl) ?_
                          refine t_yes 82 rfl rfl rfl ?_
                          obtain ⟨x14731, h14732, hm⟩ := bindS hm
                          obtain ⟨j14733, hj14734, hx14735⟩ := idx_some h14732
                          obtain ⟨cs14736, hr14737, hcs14738, hA14739, hlt14740⟩ := FZ.get (sz := 1) rfl (by decide) h14730 hx14735
                          obtain rfl := hr14737
                          refine t_st rfl (st_index_old j14733 rfl rfl hj14734 hlt14740 hA14739 sl22) ?_
                          refine t_yes 82 rfl rfl rfl ?_
                          refine t_st rfl (st_load_old rfl one3 (hcs14738 0 _ rfl)) ?_
                          refine t_yes 82 rfl rfl rfl ?_
                          refine t_st rfl (st_neq rfl rfl) ?_
                          refine t_st rfl (st_pick_t rfl rfl) ?_
                          refine t_nil ?_
                          obtain rfl := some1 hm
                          exact x_join (e' := [(3, .pointer (some ⟨g7477, 0, none⟩)), (6, .int .i64 (x7524)), (10, .slice A7584 (l14674).length c7585), (11, .int .i64 ((k12490 : Int))), (12, .slice A12503 (x12493).length c12504), (13, .int .i64 ((k14141 : Int))), (14, .int .i64 ((k14676 : Int))), (15, .int .i64 (x14679)), (56, .slice A1 (l4).length c2), (57, .int .i64 ((l4.length : Int))), (58, .int .i64 ((k12490 : Int))), (69, .int .i64 (x7524)), (70, .int .i64 ((k14141 : Int))), (73, .slice A12503 (x12493).length c12504), (74, .int .i64 ((x12493.length : Int))), (75, .int .i64 ((k14676 : Int))), (91, .bool (decide (x14731 ≠ (-4611686018427387904))))]) (hp' := (g7477, Cl 45 [.slice A5 (l8).length c6]) :: (hs14672 ++ R)) ⟨rfl, rfl, rfl, rfl, rfl, rfl, rfl, rfl, rfl, rfl, rfl, rfl, rfl, rfl, rfl, rfl, rfl, trivial⟩ (.cons_cons _ (sub_app hs14672 (.refl _))) ⟨rfl, rfl, (Base.Le.refl _)⟩
                        ·
                          rw [if_neg hc14717] at hm
                          refine t_st rfl (st_move rfl) ?_
                          refine t_no 82 rfl rfl rfl rfl rfl ?_
                          refine t_no 82 rfl rfl rfl rfl rfl ?_
                          refine t_no 82 rfl rfl rfl rfl rfl ?_
                          refine t_no 82 rfl rfl rfl rfl rfl ?_
                          refine t_no 82 rfl rfl rfl rfl rfl ?_
                          refine t_no 82 rfl rfl rfl rfl rfl ?_
                          refine t_no 82 rfl rfl rfl rfl rfl ?_
                          refine t_no 82 rfl rfl rfl rfl rfl ?_
                          refine t_st rfl (st_pick_f rfl rfl) ?_
                          refine t_nil ?_
                          obtain rfl := some1 hm
                          exact x_join (e' := [(3, .pointer (some ⟨g7477, 0, none⟩)), (6, .int .i64 (x7524)), (10, .slice A7584 (l14674).length c7585), (11, .int .i64 ((k12490 : Int))), (12, .slice A12503 (x12493).length c12504), (13, .int .i64 ((k14141 : Int))), (14, .int .i64 ((k14676 : Int))), (15, .int .i64 (x14679)), (56, .slice A1 (l4).length c2), (57, .int .i64 ((l4.length : Int))), (58, .int .i64 ((k12490 : Int))), (69, .int .i64 (x7524)), (70, .int .i64 ((k14141 : Int))), (73, .slice A12503 (x12493).length c12504), (74, .int .i64 ((x12493.length : Int))), (75, .int .i64 ((k14676 : Int))), (91, .bool (false))]) (hp' := (g7477, Cl 45 [.slice A5 (l8).length c6]) :: (hs14672 ++ R)) ⟨rfl, rfl, rfl, rfl, rfl, rfl, rfl, rfl, rfl, rfl, rfl, rfl, rfl, rfl, rfl, rfl, rfl, trivial⟩ (.cons_cons _ (sub_app hs14672 (.refl _))) ⟨rfl, rfl, (Base.Le.refl _)⟩
                      ·
                        rintro b14713 _ _ ⟨rfl, rfl, hle14714⟩
                        have hm := hk14716
                        refine c_cond _ rfl (fun hc14741 => ?_) (fun hc14741 => ?_)
                        ·
                          rw [if_pos hc14741] at hm
                          obtain ⟨x14840, h14841, hm⟩ := bindS hm
                          obtain ⟨x14860, h14861, hm⟩ := bindS hm
                          obtain ⟨x14880, h14881, hm⟩ := bindS hm
                          obtain ⟨x14896, h14897, hm⟩ := bindS hm
                          obtain ⟨x14909, h14910, hm⟩ := bindS hm
                          obtain ⟨_, h14919, hm⟩ := bindS hm
                          obtain ⟨x14920, h14921, hm⟩ := bindS hm
                          refine D_drawS ((g7477, Cl 45 [.slice A5 (l8).length c6]) :: (hs14672 ++ R)) mixed ?_
                          refine D_st (Base.Le.refl _) 0 rfl (by kernel_rfl) (by kernel_rfl) (by kernel_rfl) rfl (st_move rfl) (.cons_cons _ (sub_app hs14672 (.refl _))) ?_
                          refine D_st (Base.Le.refl _) 1 rfl (by kernel_rfl) (by kernel_rfl) (by kernel_rfl) rfl (st_move rfl) (.cons_cons _ (sub_app hs14672 (.refl _))) ?_
                          obtain ⟨j14842, hj14843, hx14844⟩ := idx_some h14841
                          obtain ⟨cs14845, hs14850, P14851, P14852, hq14853, hr14846, hcs14847, hA14848, hlt14849, hb14854, hho14855⟩ := OS.get (sz := 1) rfl (by decide) (h14673.le hle14714) hx14844
                          obtain ⟨v14856, rfl, h14857⟩ := hr14846
                          obtain ⟨A14858, c14859, rfl, _⟩ := h14857.form
                          refine D_st (Base.Le.refl _) 2 rfl (by kernel_rfl) (by kernel_rfl) (by kernel_rfl) rfl (st_index_old j14842 rfl rfl hj14843 hlt14849 hA14848 sl45) (.cons_cons _ (sub_app hs14672 (.refl _))) ?_
                          refine D_st (Base.Le.refl _) 3 rfl (by kernel_rfl) (by kernel_rfl) (by kernel_rfl) rfl (st_load_rd rfl one22 (fun w ho => hcs14847 w _ ho (.cons _ (List.sublist_append_left _ _)) 0 _ rfl)) (.cons_cons _ (sub_app hs14672 (.refl _))) ?_
                          refine D_st (Base.Le.refl _) 4 rfl (by kernel_rfl) (by kernel_rfl) (by kernel_rfl) rfl (st_move rfl) (.cons_cons _ (sub_app hs14672 (.refl _))) ?_
                          refine D_st (Base.Le.refl _) 5 rfl (by kernel_rfl) (by kernel_rfl) (by kernel_rfl) rfl (st_move rfl) (.cons_cons _ (sub_app hs14672 (.refl _))) ?_
                          refine D_st (Base.Le.refl _) 6 rfl (by kernel_rfl) (by kernel_rfl) (by kernel_rfl) rfl (st_move rfl) (.cons_cons _ (sub_app hs14672 (.refl _))) ?_
                          obtain ⟨j14862, hj14863, hx14864⟩ := idx_some h14861
                          obtain ⟨cs14865, hs14870, P14871, P14872, hq14873, hr14866, hcs14867, hA14868, hlt14869, hb14874, hho14875⟩ := OS.get (sz := 1) rfl (by decide) (h14673.le hle14714) hx14864
                          obtain ⟨v14876, rfl, h14877⟩ := hr14866
                          obtain ⟨A14878, c14879, rfl, _⟩ := h14877.form
                          refine D_st (Base.Le.refl _) 7 rfl (by kernel_rfl) (by kernel_rfl) (by kernel_rfl) rfl (st_index_old j14862 rfl rfl hj14863 hlt14869 hA14868 sl45) (.cons_cons _ (sub_app hs14672 (.refl _))) ?_
                          refine D_st (Base.Le.refl _) 8 rfl (by kernel_rfl) (by kernel_rfl) (by kernel_rfl) rfl (st_load_rd rfl one22 (fun w ho => hcs14867 w _ ho (.cons _ (List.sublist_append_left _ _)) 0 _ rfl)) (.cons_cons _ (sub_app hs14672 (.refl _))) ?_
                          refine D_st (Base.Le.refl _) 9 rfl (by kernel_rfl) (by kernel_rfl) (by kernel_rfl) rfl (st_move rfl) (.cons_cons _ (sub_app hs14672 (.refl _))) ?_
                          obtain ⟨j14882, hj14883, hx14884⟩ := idx_some h14881
                          obtain ⟨cs14885, hs14890, P14891, P14892, hq14893, hr14886, hcs14887, hA14888, hlt14889, hb14894, _⟩ := OS.get (sz := 1) rfl (by decide) h14877 hx14884
                          obtain ⟨rfl, rfl⟩ := hr14886
                          have hcs14895 := fun (w : World) (hp : Hp) (ho : Own b14713 hp w) (hh : hs14672.Sublist hp) => hcs14887 w hp ho ((show hs14870.Sublist hs14672 by rw [hq14873]; exact sub_skip _ (List.sublist_append_left _ _)).trans hh)
                          refine D_st (Base.Le.refl _) 10 rfl (by kernel_rfl) (by kernel_rfl) (by kernel_rfl) rfl (st_index_old j14882 rfl rfl hj14883 hlt14889 hA14888 sl22) (.cons_cons _ (sub_app hs14672 (.refl _))) ?_
                          refine D_st (Base.Le.refl _) 11 rfl (by kernel_rfl) (by kernel_rfl) (by kernel_rfl) rfl (st_load_rd rfl one3 (fun w ho => hcs14895 w _ ho (.cons _ (List.sublist_append_left _ _)) 0 _ rfl)) (.cons_cons _ (sub_app hs14672 (.refl _))) ?_
                          refine D_st (Base.Le.refl _) 12 rfl (by kernel_rfl) (by kernel_rfl) (by kernel_rfl) rfl (st_move rfl) (.cons_cons _ (sub_app hs14672 (.refl _))) ?_
                          refine D_st (Base.Le.refl _) 13 rfl (by kernel_rfl) (by kernel_rfl) (by kernel_rfl) rfl (st_load 0 rfl one45 rfl rfl) (.cons_cons _ (sub_app hs14672 (.refl _))) ?_
                          refine D_st (Base.Le.refl _) 14 rfl (by kernel_rfl) (by kernel_rfl) (by kernel_rfl) rfl (st_move rfl) (.cons_cons _ (sub_app hs14672 (.refl _))) ?_
                          obtain ⟨j14898, hj14899, hx14900⟩ := idx_some h14897
                          obtain ⟨cs14901, hr14902, hcs14903, hA14904, hlt14905⟩ := FZ.get (sz := 1) rfl (by decide) (h7.le (hle7480.trans (hle7495.trans (hle7523.trans (hle7558.trans (hle12484.trans (hle14135.trans (hle14670.trans hle14714)))))))) hx14900
                          obtain ⟨A14906, c14907, rfl, h14908⟩ := hr14902
                          refine D_st (Base.Le.refl _) 15 rfl (by kernel_rfl) (by kernel_rfl) (by kernel_rfl) rfl (st_index_old j14898 rfl rfl hj14899 hlt14905 hA14904 sl45) (.cons_cons _ (sub_app hs14672 (.refl _))) ?_
                          refine D_st (Base.Le.refl _) 16 rfl (by kernel_rfl) (by kernel_rfl) (by kernel_rfl) rfl (st_load_old rfl one22 (hcs14903 0 _ rfl)) (.cons_cons _ (sub_app hs14672 (.refl _))) ?_
                          refine D_st (Base.Le.refl _) 17 rfl (by kernel_rfl) (by kernel_rfl) (by kernel_rfl) rfl (st_move rfl) (.cons_cons _ (sub_app hs14672 (.refl _))) ?_
                          obtain ⟨j14911, hj14912, hx14913⟩ := idx_some h14910
                          obtain ⟨cs14914, hr14915, hcs14916, hA14917, hlt14918⟩ := FZ.get (sz := 1) rfl (by decide) h14908 hx14913
                          obtain rfl := hr14915
                          refine D_st (Base.Le.refl _) 18 rfl (by kernel_rfl) (by kernel_rfl) (by kernel_rfl) rfl (st_index_old j14911 rfl rfl hj14912 hlt14918 hA14917 sl22) (.cons_cons _ (sub_app hs14672 (.refl _))) ?_
                          refine D_st (Base.Le.refl _) 19 rfl (by kernel_rfl) (by kernel_rfl) (by kernel_rfl) rfl (st_load_old rfl one3 (hcs14916 0 _ rfl)) (.cons_cons _ (sub_app hs14672 (.refl _))) ?_
                          have h14919 := (chk_some h14919).2
                          refine D_st (Base.Le.refl _) 20 rfl (by kernel_rfl) (by kernel_rfl) (by kernel_rfl) rfl (st_add rfl rfl h14919) (.cons_cons _ (sub_app hs14672 (.refl _))) ?_
                          refine D_st (Base.Le.refl _) 21 rfl (by kernel_rfl) (by kernel_rfl) (by kernel_rfl) rfl (st_max rfl rfl) (.cons_cons _ (sub_app hs14672 (.refl _))) ?_
                          obtain ⟨j14922, hj14923, hx14924⟩ := idx_some h14921
                          obtain ⟨cs14925, hs14930, P14931, P14932, hq14933, hr14926, hcs14927, hA14928, hlt14929, hb14934, _⟩ := OS.get (sz := 1) rfl (by decide) h14857 hx14924
                          obtain ⟨rfl, rfl⟩ := hr14926
                          have hcs14935 := fun (w : World) (hp : Hp) (ho : Own b14713 hp w) (hh : hs14672.Sublist hp) => hcs14927 w hp ho ((show hs14850.Sublist hs14672 by rw [hq14853]; exact sub_skip _ (List.sublist_append_left _ _)).trans hh)
                          refine D_st (Base.Le.refl _) 22 rfl (by kernel_rfl) (by kernel_rfl) (by kernel_rfl) rfl (st_index_old j14922 rfl rfl hj14923 hlt14929 hA14928 sl22) (.cons_cons _ (sub_app hs14672 (.refl _))) ?_
                          refine D_all [23] (by kernel_rfl) rfl ?_
                          refine R_do (Base.Le.refl _) rfl rfl (u_putIn hj14843 hj14923 (z' := max x14880 (x14679 + x14909)) (sz := 1) rfl [_] R 0 1 [.int .i64 (max x14880 (x14679 + x14909))] rfl rfl hq14853 h14857 hb14854 hx14924 rfl rfl rfl siz3 rfl (by intro u hu; simp only [List.mem_cons, List.not_mem_nil, or_false] at hu; subst hu; rfl) (fun cs hsj hh => by obtain ⟨rfl, rfl⟩ := hh; exact ⟨by decide, rfl, rfl⟩)) ?_ ?_
                          ·
                            rintro _ _ ⟨hs14936, rfl, h14937⟩
                            refine ⟨.inl (by kernel_rfl), ?_⟩
                            refine d_resp 10 rfl (v' := .slice A7584 (put l14674 (k12490 : Int) (put x14840 (k14141 : Int) (max x14880 (x14679 + x14909)))).length c7585) (by simp only [put_length]) ?_
                            refine D_done (by kernel_rfl) ?_
                            refine x_block_normal ?_
                            refine x_then_normal ?_
                            refine c_region ?_
                            refine t_st rfl (st_add rfl rfl (by omega)) ?_
                            refine t_st rfl (st_move rfl) ?_
                            refine t_nil ?_
                            obtain rfl := some1 hm
                            exact x_againS (e' := [(3, .pointer (some ⟨g7477, 0, none⟩)), (6, .int .i64 (x7524)), (10, .slice A7584 (put l14674 (k12490 : Int) (put x14840 (k14141 : Int) (max x14880 (x14679 + x14909)))).length c7585), (11, .int .i64 ((k12490 : Int))), (12, .slice A12503 (x12493).length c12504), (13, .int .i64 ((k14141 : Int))), (56, .slice A1 (l4).length c2), (57, .int .i64 ((l4.length : Int))), (58, .int .i64 ((k12490 : Int))), (69, .int .i64 (x7524)), (70, .int .i64 ((k14141 : Int))), (73, .slice A12503 (x12493).length c12504), (74, .int .i64 ((x12493.length : Int))), (75, .int .i64 ((k14676 : Int) + 1))]) (hp' := (g7477, Cl 45 [.slice A5 (l8).length c6]) :: (hs14936 ++ R)) ⟨rfl, rfl, rfl, rfl, rfl, rfl, rfl, rfl, rfl, rfl, rfl, rfl, rfl, rfl, trivial⟩ (.cons_cons _ (sub_app hs14936 (.refl _))) ⟨hs14936, rfl, rfl, ((hle14670.trans hle14714)), h14937, ((put_length _ _ _).trans hln14675)⟩
                          exact R_nil
                        ·
                          rw [if_neg (fun hh => Bool.noConfusion (hh.symm.trans hc14741))] at hm
                          refine c_skip ?_
                          refine x_block_normal ?_
                          refine x_then_normal ?_
                          refine c_region ?_
                          refine t_st rfl (st_add rfl rfl (by omega)) ?_
                          refine t_st rfl (st_move rfl) ?_
                          refine t_nil ?_
                          obtain rfl := some1 hm
                          exact x_againS (e' := [(3, .pointer (some ⟨g7477, 0, none⟩)), (6, .int .i64 (x7524)), (10, .slice A7584 (l14674).length c7585), (11, .int .i64 ((k12490 : Int))), (12, .slice A12503 (x12493).length c12504), (13, .int .i64 ((k14141 : Int))), (56, .slice A1 (l4).length c2), (57, .int .i64 ((l4.length : Int))), (58, .int .i64 ((k12490 : Int))), (69, .int .i64 (x7524)), (70, .int .i64 ((k14141 : Int))), (73, .slice A12503 (x12493).length c12504), (74, .int .i64 ((x12493.length : Int))), (75, .int .i64 ((k14676 : Int) + 1))]) (hp' := (g7477, Cl 45 [.slice A5 (l8).length c6]) :: (hs14672 ++ R)) ⟨rfl, rfl, rfl, rfl, rfl, rfl, rfl, rfl, rfl, rfl, rfl, rfl, rfl, rfl, trivial⟩ (.cons_cons _ (sub_app hs14672 (.refl _))) ⟨hs14672, rfl, rfl, ((hle14670.trans hle14714)), (h14673.le hle14714), hln14675⟩
                    ·
                      rintro b14669 _ _ ⟨hs14672, rfl, rfl, hle14670, h14673, hln14675⟩
                      have hm := hk14678
                      refine c_seq ?_
                      refine c_region ?_
                      refine t_st rfl (st_lss_f rfl rfl (by omega)) ?_
                      refine t_nil ?_
                      refine x_then_normal ?_
                      refine c_seq ?_
                      refine c_cond_f rfl ?_
                      refine c_exit ?_
                      refine x_then_exit ?_
                      refine x_then_exit ?_
                      refine x_block_out ?_
                      refine x_block_normal ?_
                      refine x_then_normal ?_
                      refine c_region ?_
                      refine t_st rfl (st_add rfl rfl (by omega)) ?_
                      refine t_st rfl (st_move rfl) ?_
                      refine t_nil ?_
                      obtain rfl := some1 hm
                      exact x_againS (e' := [(3, .pointer (some ⟨g7477, 0, none⟩)), (6, .int .i64 (x7524)), (10, .slice A7584 (l14674).length c7585), (11, .int .i64 ((k12490 : Int))), (12, .slice A12503 (x12493).length c12504), (56, .slice A1 (l4).length c2), (57, .int .i64 ((l4.length : Int))), (58, .int .i64 ((k12490 : Int))), (69, .int .i64 (x7524)), (70, .int .i64 ((k14141 : Int) + 1))]) (hp' := (g7477, Cl 45 [.slice A5 (l8).length c6]) :: (hs14672 ++ R)) ⟨rfl, rfl, rfl, rfl, rfl, rfl, rfl, rfl, rfl, rfl, trivial⟩ (.cons_cons _ (sub_app hs14672 (.refl _))) ⟨hs14672, rfl, rfl, ((hle14135.trans hle14670)), h14673, hln14675⟩
                  ·
                    rintro b14134 _ _ ⟨hs14137, rfl, rfl, hle14135, h14138, hln14140⟩
                    have hm := hk14143
                    refine c_seq ?_
                    refine c_region ?_
                    refine t_st rfl (st_lss_f rfl rfl (by omega)) ?_
                    refine t_nil ?_
                    refine x_then_normal ?_
                    refine c_seq ?_
                    refine c_cond_f rfl ?_
                    refine c_exit ?_
                    refine x_then_exit ?_
                    refine x_then_exit ?_
                    refine x_block_out ?_
                    refine x_block_normal ?_
                    refine x_then_normal ?_
                    refine c_region ?_
                    refine t_st rfl (st_add rfl rfl (by omega)) ?_
                    refine t_st rfl (st_move rfl) ?_
                    refine t_nil ?_
                    obtain rfl := some1 hm
                    exact x_againS (e' := [(3, .pointer (some ⟨g7477, 0, none⟩)), (6, .int .i64 (x7524)), (10, .slice A7584 (l14139).length c7585), (56, .slice A1 (l4).length c2), (57, .int .i64 ((l4.length : Int))), (58, .int .i64 ((k12490 : Int) + 1))]) (hp' := (g7477, Cl 45 [.slice A5 (l8).length c6]) :: (hs14137 ++ R)) ⟨rfl, rfl, rfl, rfl, rfl, rfl, trivial⟩ (.cons_cons _ (sub_app hs14137 (.refl _))) ⟨hs14137, rfl, rfl, ((hle12484.trans hle14135)), h14138, hln14140⟩
                ·
                  rintro b12483 _ _ ⟨hs12486, rfl, rfl, hle12484, h12487, hln12489⟩
                  have hm := hk12492
                  refine c_seq ?_
                  refine c_region ?_
                  refine t_st rfl (st_lss_f rfl rfl (by omega)) ?_
                  refine t_nil ?_
                  refine x_then_normal ?_
                  refine c_seq ?_
                  refine c_cond_f rfl ?_
                  refine c_exit ?_
                  refine x_then_exit ?_
                  refine x_then_exit ?_
                  refine x_block_out ?_
                  refine x_then_normal ?_
                  refine c_seq ?_
                  refine c_region ?_
                  refine t_st rfl (st_move rfl) ?_
                  refine t_st rfl (st_assign rfl) ?_
                  refine t_st rfl (st_assign rfl) ?_
                  refine t_nil ?_
                  refine x_then_normal ?_
                  refine c_ret ?_
                  obtain ⟨rfl, rfl⟩ := some2 hm
                  exact retM (rs := [.tmp 4, .tmp 5]) [.slice A7584 (l12488).length c7585, .int .i64 (0)] (hle7480.trans (hle7495.trans (hle7523.trans (hle7558.trans hle12484)))) (by decide) rfl ⟨rfl, ⟨rfl, trivial⟩⟩ rfl (hp' := (hs12486 ++ R)) (.cons _ (sub_app hs12486 (.refl _))) ⟨A7584, c7585, hs12486, rfl, rfl, h12487⟩

set_option maxRecDepth 20000 in
theorem cFishkeep2MendCloses (b : Base) (R : Hp) (l4 : (List (List Int))) (A1 : Option Addr) (c2 : Nat) (h3 : FZ (RT.list (RT.int .i64)) b.w A1 c2 l4) (x765 : Bool) (hm : mFishkeep2MendCloses l4 = some x765) :
    CallsG Try.prog 5 [.slice A1 (l4).length c2] b (R) (fun v b' hp' => .bool (x765) = v ∧ R = hp') := by
  refine fn_enterG 98 Try.func5 rfl Try.ntmps5 rfl ?_
  unfold mFishkeep2MendCloses at hm
  refine c_seq ?_
  refine c_region ?_
  refine t_st rfl (st_assign rfl) ?_
  refine t_nil ?_
  refine x_then_normal ?_
  refine c_seq ?_
  refine c_seq ?_
  refine c_region ?_
  obtain ⟨x766, hcl767, hm⟩ := bindS hm
  refine t_do rfl (u_callW0 _ call7 rfl (fun w ho => cFishkeep2AwakeMend _ [] x766 hcl767) (fun _ _ _ h => h.2.symm)) ?_
  rintro _ _ ⟨⟨_, rfl, _⟩, rfl⟩
  refine t_st rfl (st_not rfl) ?_
  refine t_nil ?_
  refine x_then_normal ?_
  refine c_cond _ rfl (fun hc768 => ?_) (fun hc768 => ?_)
  ·
    rw [if_neg (fun hh => Bool.noConfusion (hh.symm.trans (notT hc768)))] at hm
    refine c_seq ?_
    refine c_region ?_
    refine t_st rfl (st_assign rfl) ?_
    refine t_nil ?_
    refine x_then_normal ?_
    refine c_ret ?_
    refine x_then_ret ?_
    obtain rfl := some1 hm
    exact retM (rs := [.tmp 2]) [.bool (false)] (Base.Le.refl _) (by decide) rfl ⟨rfl, trivial⟩ rfl (hp' := R) (.refl _) ⟨rfl, rfl⟩
  ·
    rw [if_pos (notF hc768)] at hm
    refine c_skip ?_
    refine x_then_normal ?_
    refine c_seq ?_
    refine c_seq ?_
    refine c_region ?_
    obtain ⟨x769, hcl770, hm⟩ := bindS hm
    refine t_do rfl (u_callW0 _ call18 rfl (fun w ho => cFishkeep2Rounds _ [] x769 hcl770) (fun _ _ _ h => h.2.symm)) ?_
    rintro _ _ ⟨⟨_, rfl, _⟩, rfl⟩
    refine t_st rfl (st_not rfl) ?_
    refine t_nil ?_
    refine x_then_normal ?_
    refine c_cond _ rfl (fun hc771 => ?_) (fun hc771 => ?_)
    ·
      rw [if_neg (fun hh => Bool.noConfusion (hh.symm.trans (notT hc771)))] at hm
      refine c_seq ?_
      refine c_region ?_
      refine t_st rfl (st_assign rfl) ?_
      refine t_nil ?_
      refine x_then_normal ?_
      refine c_ret ?_
      refine x_then_ret ?_
      obtain rfl := some1 hm
      exact retM (rs := [.tmp 2]) [.bool (false)] (Base.Le.refl _) (by decide) rfl ⟨rfl, trivial⟩ rfl (hp' := R) (.refl _) ⟨rfl, rfl⟩
    ·
      rw [if_pos (notF hc771)] at hm
      refine c_skip ?_
      refine x_then_normal ?_
      refine c_seq ?_
      refine c_region ?_
      refine t_st rfl (st_move rfl) ?_
      obtain ⟨⟨x772, l773⟩, hcl774, hm⟩ := bindS hm
      have hm := (unc2E hm)
      refine t_callG _ rfl call19 rfl (cMendClosure _ _ l4 A1 c2 h3 x772 l773 hcl774) ?_
      rintro _ b775 _ hle776 ⟨A777, c778, hs779, rfl, rfl, h780⟩
      refine t_in1 [] [] hs779 R rfl ?_
      refine t_st rfl (st_move rfl) ?_
      refine t_st rfl (st_extract rfl rfl) ?_
      refine t_st rfl (st_extract rfl rfl) ?_
      refine t_st rfl (st_assign rfl) ?_
      refine t_st rfl (st_assign rfl) ?_
      refine t_nil ?_
      refine x_then_normal ?_
      refine c_seq ?_
      refine c_seq ?_
      refine c_region ?_
      refine t_st rfl (st_move rfl) ?_
      refine t_st rfl (st_neq rfl rfl) ?_
      refine t_nil ?_
      refine x_then_normal ?_
      refine c_cond _ rfl (fun hc781 => ?_) (fun hc781 => ?_)
      ·
        rw [if_pos (of_decide_eq_true hc781)] at hm
        refine c_seq ?_
        refine c_region ?_
        refine t_st rfl (st_move rfl) ?_
        refine t_st rfl (st_len rfl sl45) ?_
        refine t_st rfl (st_eql rfl rfl) ?_
        refine t_st rfl (st_assign rfl) ?_
        refine t_nil ?_
        refine x_then_normal ?_
        refine c_ret ?_
        refine x_then_ret ?_
        obtain rfl := some1 hm
        exact retM (rs := [.tmp 2]) [.bool (decide ((l773.length : Int) = 0))] hle776 (by decide) rfl ⟨rfl, trivial⟩ rfl (hp' := R) (sub_skip hs779 (.refl _)) ⟨rfl, rfl⟩
      ·
        rw [if_neg (of_decide_eq_false hc781)] at hm
        refine c_skip ?_
        refine x_then_normal ?_
        refine c_seq ?_
        refine c_region ?_
        refine t_st rfl (st_move rfl) ?_
        refine t_frz [] hs779 R rfl ?_
        intro b782 hle783 hz784
        have h785 := OS.frz (l := l773) h780 hle783.cells hz784
        obtain ⟨⟨x786, l787⟩, hcl788, hm⟩ := bindS hm
        have hm := (unc2E hm)
        refine t_callG _ rfl call19 rfl (cMendClosure _ _ l773 A777 c778 h785 x786 l787 hcl788) ?_
        rintro _ b789 _ hle790 ⟨A791, c792, hs793, rfl, rfl, h794⟩
        refine t_in1 [] [] hs793 R rfl ?_
        refine t_st rfl (st_move rfl) ?_
        refine t_st rfl (st_extract rfl rfl) ?_
        refine t_st rfl (st_extract rfl rfl) ?_
        refine t_st rfl (st_assign rfl) ?_
        refine t_st rfl (st_assign rfl) ?_
        refine t_nil ?_
        refine x_then_normal ?_
        refine c_seq ?_
        obtain ⟨x800, hj801, hk801⟩ := bindS hm
        refine c_join (fun b798 e' hp' => [(0, .slice A1 (l4).length c2), (3, .slice A777 (l773).length c778), (4, .int .i64 (x786)), (5, .slice A791 (l787).length c792), (35, .bool (x800))] = e' ∧ (hs793 ++ R) = hp' ∧ b789.Le b798) ?_ ?_
        ·
          have hm := hj801
          refine c_region ?_
          refine t_st rfl (st_move rfl) ?_
          refine t_bool rfl (st_neq rfl rfl) (fun hc802 => ?_) (fun hc802 => ?_)
          ·
            rw [if_pos hc802] at hm
            refine t_st rfl (st_move rfl) ?_
            refine t_yes 31 rfl rfl rfl ?_
            refine t_st rfl (st_move rfl) ?_
            refine t_yes 31 rfl rfl rfl ?_
            obtain ⟨x803, hcl804, hm⟩ := bindS hm
            refine t_do rfl (u_callW0 _ call20 rfl (fun w ho => cFishkeep2Wide _ [] l773 A777 c778 ((h785.le hle790).old ho) x803 hcl804) (fun _ _ _ h => h.2.symm)) ?_
            rintro _ _ ⟨⟨_, rfl, _⟩, rfl⟩
            refine t_yes 31 rfl rfl rfl ?_
            refine t_st rfl (st_not rfl) ?_
            refine t_st rfl (st_pick_t rfl rfl) ?_
            refine t_nil ?_
            obtain rfl := some1 hm
            exact x_join (e' := [(0, .slice A1 (l4).length c2), (3, .slice A777 (l773).length c778), (4, .int .i64 (x786)), (5, .slice A791 (l787).length c792), (35, .bool (!x803))]) (hp' := (hs793 ++ R)) ⟨rfl, rfl, rfl, rfl, rfl, trivial⟩ (sub_app hs793 (.refl _)) ⟨rfl, rfl, (Base.Le.refl _)⟩
          ·
            rw [if_neg hc802] at hm
            refine t_st rfl (st_move rfl) ?_
            refine t_no 31 rfl rfl rfl rfl rfl ?_
            refine t_no 31 rfl rfl rfl rfl rfl ?_
            refine t_no 31 rfl rfl rfl rfl rfl ?_
            refine t_st rfl (st_pick_f rfl rfl) ?_
            refine t_nil ?_
            obtain rfl := some1 hm
            exact x_join (e' := [(0, .slice A1 (l4).length c2), (3, .slice A777 (l773).length c778), (4, .int .i64 (x786)), (5, .slice A791 (l787).length c792), (35, .bool (false))]) (hp' := (hs793 ++ R)) ⟨rfl, rfl, rfl, rfl, rfl, trivial⟩ (sub_app hs793 (.refl _)) ⟨rfl, rfl, (Base.Le.refl _)⟩
        ·
          rintro b798 _ _ ⟨rfl, rfl, hle799⟩
          have hm := hk801
          refine c_cond _ rfl (fun hc805 => ?_) (fun hc805 => ?_)
          ·
            rw [if_pos hc805] at hm
            refine c_seq ?_
            refine c_region ?_
            refine t_st rfl (st_assign rfl) ?_
            refine t_nil ?_
            refine x_then_normal ?_
            refine c_ret ?_
            refine x_then_ret ?_
            obtain rfl := some1 hm
            exact retM (rs := [.tmp 2]) [.bool (false)] (hle776.trans (hle783.trans (hle790.trans hle799))) (by decide) rfl ⟨rfl, trivial⟩ rfl (hp' := R) (sub_skip hs793 (.refl _)) ⟨rfl, rfl⟩
          ·
            rw [if_neg (fun hh => Bool.noConfusion (hh.symm.trans hc805))] at hm
            refine c_skip ?_
            refine x_then_normal ?_
            refine c_seq ?_
            obtain ⟨x811, hj812, hk812⟩ := bindS hm
            refine c_join (fun b809 e' hp' => [(0, .slice A1 (l4).length c2), (3, .slice A777 (l773).length c778), (43, .bool (x811))] = e' ∧ R = hp' ∧ b798.Le b809) ?_ ?_
            ·
              have hm := hj812
              refine c_region ?_
              refine t_st rfl (st_move rfl) ?_
              refine t_bool rfl (st_eql rfl rfl) (fun hc813 => ?_) (fun hc813 => ?_)
              ·
                rw [if_pos hc813] at hm
                refine t_st rfl (st_move rfl) ?_
                refine t_yes 38 rfl rfl rfl ?_
                refine t_st rfl (st_move rfl) ?_
                refine t_yes 38 rfl rfl rfl ?_
                refine t_st rfl (st_move rfl) ?_
                refine t_yes 38 rfl rfl rfl ?_
                obtain ⟨x814, hcl815, hm⟩ := bindS hm
                refine t_do rfl (u_callW0 _ call21 rfl (fun w ho => cSlicesEqualFunc _ [] l787 l773 A791 c792 A777 c778 (OS.now (o := (OT.list 3 (OT.fr (RT.int .i64)))) (l := l787) (hs := hs793) (h794.le hle799) ho (List.sublist_append_left _ _)) ((h785.le (hle790.trans hle799)).old ho) x814 hcl815) (fun _ _ _ h => h.2.symm)) ?_
                rintro _ _ ⟨⟨_, rfl, _⟩, rfl⟩
                refine t_yes 38 rfl rfl rfl ?_
                refine t_st rfl (st_not rfl) ?_
                refine t_st rfl (st_pick_t rfl rfl) ?_
                refine t_nil ?_
                obtain rfl := some1 hm
                exact x_join (e' := [(0, .slice A1 (l4).length c2), (3, .slice A777 (l773).length c778), (43, .bool (!x814))]) (hp' := R) ⟨rfl, rfl, rfl, trivial⟩ (sub_skip hs793 (.refl _)) ⟨rfl, rfl, (Base.Le.refl _)⟩
              ·
                rw [if_neg hc813] at hm
                refine t_st rfl (st_move rfl) ?_
                refine t_no 38 rfl rfl rfl rfl rfl ?_
                refine t_no 38 rfl rfl rfl rfl rfl ?_
                refine t_no 38 rfl rfl rfl rfl rfl ?_
                refine t_no 38 rfl rfl rfl rfl rfl ?_
                refine t_st rfl (st_pick_f rfl rfl) ?_
                refine t_nil ?_
                obtain rfl := some1 hm
                exact x_join (e' := [(0, .slice A1 (l4).length c2), (3, .slice A777 (l773).length c778), (43, .bool (false))]) (hp' := R) ⟨rfl, rfl, rfl, trivial⟩ (sub_skip hs793 (.refl _)) ⟨rfl, rfl, (Base.Le.refl _)⟩
            ·
              rintro b809 _ _ ⟨rfl, rfl, hle810⟩
              have hm := hk812
              refine c_cond _ rfl (fun hc816 => ?_) (fun hc816 => ?_)
              ·
                rw [if_pos hc816] at hm
                refine c_seq ?_
                refine c_region ?_
                refine t_st rfl (st_assign rfl) ?_
                refine t_nil ?_
                refine x_then_normal ?_
                refine c_ret ?_
                refine x_then_ret ?_
                obtain rfl := some1 hm
                exact retM (rs := [.tmp 2]) [.bool (false)] (hle776.trans (hle783.trans (hle790.trans (hle799.trans hle810)))) (by decide) rfl ⟨rfl, trivial⟩ rfl (hp' := R) (.refl _) ⟨rfl, rfl⟩
              ·
                rw [if_neg (fun hh => Bool.noConfusion (hh.symm.trans hc816))] at hm
                refine c_skip ?_
                refine x_then_normal ?_
                refine c_seq ?_
                refine c_region ?_
                refine t_st rfl (st_move rfl) ?_
                refine t_st rfl (st_len rfl sl45) ?_
                obtain ⟨m817, h818, hm⟩ := bindS hm
                have h818 := mkLen_some h818
                refine t_do rfl (u_mkOO (o := (OT.list 3 (OT.fr (RT.int .i64)))) [] R [.slice none 0 0] ([] : List Int) m817 rfl h818.1 rfl rfl sl45 inf22 rfl rfl rfl (by decide) ⟨_, rfl, OS.nil⟩ h818.2.1 h818.2.2) ?_
                rintro _ _ ⟨hs819, rfl, h820⟩
                obtain ⟨A821, c822, rfl, _⟩ := h820.form
                refine t_st rfl (st_assign rfl) ?_
                refine t_nil ?_
                refine x_then_normal ?_
                refine c_seq ?_
                refine c_seq ?_
                refine c_region ?_
                refine t_st rfl (st_move rfl) ?_
                refine t_st rfl (st_len rfl sl45) ?_
                refine t_st rfl (st_move rfl) ?_
                refine t_nil ?_
                refine x_then_normal ?_
                refine c_block ?_
                have hb824 := (FZ.bd (h3.le (hle776.trans (hle783.trans (hle790.trans (hle799.trans hle810))))))
                obtain ⟨t1222, hl1223, hk1224⟩ := bindS hm
                refine c_forM (fun k1221 => fun l1219 => fun b1214 e' hp' => ∃ (hs1217 : Hp), [(0, .slice A1 (l4).length c2), (3, .slice A777 (l773).length c778), (6, .slice A821 (l1219).length c822), (47, .slice A1 (l4).length c2), (48, .int .i64 ((l4.length : Int))), (49, .int .i64 ((k1221 : Int)))] = e' ∧ (hs1217 ++ R) = hp' ∧ b809.Le b1214 ∧ OS 22 (OT.list 3 (OT.fr (RT.int .i64))) b1214.w (.slice A821 l1219.length c822) l1219 hs1217 ∧ l1219.length = m817) hl1223 (e' := [(0, .slice A1 (l4).length c2), (3, .slice A777 (l773).length c778), (6, .slice A821 (List.replicate m817 (([] : List Int) : (List Int))).length c822), (47, .slice A1 (l4).length c2), (48, .int .i64 ((l4.length : Int))), (49, .int .i64 0)]) (hp' := (hs819 ++ R)) ⟨rfl, rfl, rfl, rfl, rfl, rfl, trivial⟩ (sub_app hs819 (.refl _)) ⟨hs819, rfl, rfl, (Base.Le.refl _), h820, List.length_replicate⟩ ?_ ?_
                ·
                  rintro k1221 l1219 b1214 _ _ oL823 hknL823 ⟨hs1217, rfl, rfl, hle1215, h1218, hln1220⟩ hstepL823 houtL823
                  unfold mFishkeep2MendCloses_L823 at hstepL823
                  have hm := hstepL823
                  refine c_seq ?_
                  refine c_region ?_
                  refine t_st rfl (st_lss_t rfl rfl (by omega)) ?_
                  refine t_nil ?_
                  refine x_then_normal ?_
                  refine c_seq ?_
                  refine c_cond_t rfl ?_
                  refine c_skip ?_
                  refine x_then_normal ?_
                  refine c_seq ?_
                  refine c_block ?_
                  refine c_seq ?_
                  refine c_region ?_
                  refine t_st rfl (st_move rfl) ?_
                  obtain ⟨x1225, h1226, hm⟩ := bindS hm
                  obtain ⟨j1227, hj1228, hx1229⟩ := idx_some h1226
                  obtain ⟨cs1230, hr1231, hcs1232, hA1233, hlt1234⟩ := FZ.get (sz := 1) rfl (by decide) (h3.le (hle776.trans (hle783.trans (hle790.trans (hle799.trans (hle810.trans hle1215)))))) hx1229
                  obtain ⟨A1235, c1236, rfl, h1237⟩ := hr1231
                  refine t_st rfl (st_index_old j1227 rfl rfl hj1228 hlt1234 hA1233 sl45) ?_
                  refine t_st rfl (st_load_old rfl one22 (hcs1232 0 _ rfl)) ?_
                  refine t_st rfl (st_assign rfl) ?_
                  refine t_st rfl (st_assign rfl) ?_
                  refine t_nil ?_
                  refine x_then_normal ?_
                  refine c_seq ?_
                  refine c_seq ?_
                  refine c_region ?_
                  refine t_st rfl (st_move rfl) ?_
                  refine t_st rfl (st_len rfl sl22) ?_
                  refine t_st rfl (st_move rfl) ?_
                  refine t_st rfl (st_len rfl sl45) ?_
                  refine t_st rfl (st_neq rfl rfl) ?_
                  refine t_nil ?_
                  refine x_then_normal ?_
                  refine c_cond _ rfl (fun hc1238 => ?_) (fun hc1238 => ?_)
                  ·
                    rw [if_pos (of_decide_eq_true hc1238)] at hm
                    refine c_seq ?_
                    refine c_region ?_
                    refine t_st rfl (st_assign rfl) ?_
                    refine t_nil ?_
                    refine x_then_normal ?_
                    refine c_ret ?_
                    refine x_then_ret ?_
                    refine x_block_ret ?_
                    refine x_then_ret ?_
                    refine x_then_ret ?_
                    refine x_block_ret ?_
                    refine x_then_ret ?_
                    have hq1239 := houtL823 _ (Option.some.inj hm).symm
                    rw [hq1239] at hk1224
                    have hm := elimR hk1224
                    obtain rfl := some1 hm
                    exact retM (rs := [.tmp 2]) [.bool (false)] (hle776.trans (hle783.trans (hle790.trans (hle799.trans (hle810.trans hle1215))))) (by decide) rfl ⟨rfl, trivial⟩ rfl (hp' := R) (sub_skip hs1217 (.refl _)) ⟨rfl, rfl⟩
                  ·
                    rw [if_neg (of_decide_eq_false hc1238)] at hm
                    refine c_skip ?_
                    refine x_then_normal ?_
                    refine c_seq ?_
                    refine c_region ?_
                    refine t_st rfl (st_move rfl) ?_
                    refine t_st rfl (st_move rfl) ?_
                    refine t_st rfl (st_move rfl) ?_
                    obtain ⟨l1240, hcl1241, hm⟩ := bindS hm
                    refine t_callG _ rfl call12 rfl (cSlicesClone _ _ x1225 A1235 c1236 h1237 l1240 hcl1241) ?_
                    rintro _ b1242 _ hle1243 ⟨A1244, c1245, hs1246, rfl, rfl, h1247⟩
                    refine t_in1 [] [] hs1246 (hs1217 ++ R) rfl ?_
                    obtain ⟨x1248, h1249, hm⟩ := bindS hm
                    obtain ⟨j1250, hj1251, hx1252⟩ := idx_some h1249
                    obtain ⟨cs1253, hs1258, P1259, P1260, hq1261, hr1254, hcs1255, hA1256, hlt1257, hb1262, hho1263⟩ := OS.get (sz := 1) rfl (by decide) (h1218.le hle1243) hx1252
                    obtain ⟨v1264, rfl, h1265⟩ := hr1254
                    obtain ⟨A1266, c1267, rfl, _⟩ := h1265.form
                    refine t_st rfl (st_index_old j1250 rfl rfl hj1251 hlt1257 hA1256 sl45) ?_
                    refine t_front2 [] hs1246 hs1217 R rfl ?_
                    refine t_do rfl (u_putOO hj1251 (sz := 1) (a' := l1240) rfl [] hs1246 R 1 [.slice A1244 (l1240).length c1245] rfl (h1218.le hle1243) hx1252 rfl rfl rfl siz22 rfl (by decide) ⟨_, rfl, h1247⟩) ?_
                    rintro _ _ ⟨hs1268, rfl, h1269⟩
                    refine t_resp 6 rfl (v' := .slice A821 (put l1219 (k1221 : Int) l1240).length c822) (by simp only [put_length]) ?_
                    refine t_nil ?_
                    refine x_then_normal ?_
                    obtain ⟨x1344, h1345, hm⟩ := bindS hm
                    obtain ⟨x1364, h1365, hm⟩ := bindS hm
                    obtain ⟨x1384, h1385, hm⟩ := bindS hm
                    obtain ⟨x1400, h1401, hm⟩ := bindS hm
                    refine D_drawS ((hs1268 ++ R)) mixed ?_
                    refine D_st (Base.Le.refl _) 0 rfl (by kernel_rfl) (by kernel_rfl) (by kernel_rfl) rfl (st_move rfl) (sub_app hs1268 (.refl _)) ?_
                    refine D_st (Base.Le.refl _) 1 rfl (by kernel_rfl) (by kernel_rfl) (by kernel_rfl) rfl (st_move rfl) (sub_app hs1268 (.refl _)) ?_
                    obtain ⟨j1346, hj1347, hx1348⟩ := idx_some h1345
                    obtain ⟨cs1349, hs1354, P1355, P1356, hq1357, hr1350, hcs1351, hA1352, hlt1353, hb1358, hho1359⟩ := OS.get (sz := 1) rfl (by decide) h1269 hx1348
                    obtain ⟨v1360, rfl, h1361⟩ := hr1350
                    obtain ⟨A1362, c1363, rfl, _⟩ := h1361.form
                    refine D_st (Base.Le.refl _) 2 rfl (by kernel_rfl) (by kernel_rfl) (by kernel_rfl) rfl (st_index_old j1346 rfl rfl hj1347 hlt1353 hA1352 sl45) (sub_app hs1268 (.refl _)) ?_
                    refine D_st (Base.Le.refl _) 3 rfl (by kernel_rfl) (by kernel_rfl) (by kernel_rfl) rfl (st_load_rd rfl one22 (fun w ho => hcs1351 w _ ho (List.sublist_append_left _ _) 0 _ rfl)) (sub_app hs1268 (.refl _)) ?_
                    refine D_st (Base.Le.refl _) 4 rfl (by kernel_rfl) (by kernel_rfl) (by kernel_rfl) rfl (st_move rfl) (sub_app hs1268 (.refl _)) ?_
                    refine D_st (Base.Le.refl _) 5 rfl (by kernel_rfl) (by kernel_rfl) (by kernel_rfl) rfl (st_move rfl) (sub_app hs1268 (.refl _)) ?_
                    refine D_st (Base.Le.refl _) 6 rfl (by kernel_rfl) (by kernel_rfl) (by kernel_rfl) rfl (st_move rfl) (sub_app hs1268 (.refl _)) ?_
                    obtain ⟨j1366, hj1367, hx1368⟩ := idx_some h1365
                    obtain ⟨cs1369, hs1374, P1375, P1376, hq1377, hr1370, hcs1371, hA1372, hlt1373, hb1378, hho1379⟩ := OS.get (sz := 1) rfl (by decide) h1269 hx1368
                    obtain ⟨v1380, rfl, h1381⟩ := hr1370
                    obtain ⟨A1382, c1383, rfl, _⟩ := h1381.form
                    refine D_st (Base.Le.refl _) 7 rfl (by kernel_rfl) (by kernel_rfl) (by kernel_rfl) rfl (st_index_old j1366 rfl rfl hj1367 hlt1373 hA1372 sl45) (sub_app hs1268 (.refl _)) ?_
                    refine D_st (Base.Le.refl _) 8 rfl (by kernel_rfl) (by kernel_rfl) (by kernel_rfl) rfl (st_load_rd rfl one22 (fun w ho => hcs1371 w _ ho (List.sublist_append_left _ _) 0 _ rfl)) (sub_app hs1268 (.refl _)) ?_
                    refine D_st (Base.Le.refl _) 9 rfl (by kernel_rfl) (by kernel_rfl) (by kernel_rfl) rfl (st_move rfl) (sub_app hs1268 (.refl _)) ?_
                    obtain ⟨j1386, hj1387, hx1388⟩ := idx_some h1385
                    obtain ⟨cs1389, hs1394, P1395, P1396, hq1397, hr1390, hcs1391, hA1392, hlt1393, hb1398, _⟩ := OS.get (sz := 1) rfl (by decide) h1381 hx1388
                    obtain ⟨rfl, rfl⟩ := hr1390
                    have hcs1399 := fun (w : World) (hp : Hp) (ho : Own b1242 hp w) (hh : hs1268.Sublist hp) => hcs1391 w hp ho ((show hs1374.Sublist hs1268 by rw [hq1377]; exact sub_skip _ (List.sublist_append_left _ _)).trans hh)
                    refine D_st (Base.Le.refl _) 10 rfl (by kernel_rfl) (by kernel_rfl) (by kernel_rfl) rfl (st_index_old j1386 rfl rfl hj1387 hlt1393 hA1392 sl22) (sub_app hs1268 (.refl _)) ?_
                    refine D_st (Base.Le.refl _) 11 rfl (by kernel_rfl) (by kernel_rfl) (by kernel_rfl) rfl (st_load_rd rfl one3 (fun w ho => hcs1399 w _ ho (List.sublist_append_left _ _) 0 _ rfl)) (sub_app hs1268 (.refl _)) ?_
                    refine D_st (Base.Le.refl _) 12 rfl (by kernel_rfl) (by kernel_rfl) (by kernel_rfl) rfl (st_max rfl rfl) (sub_app hs1268 (.refl _)) ?_
                    obtain ⟨j1402, hj1403, hx1404⟩ := idx_some h1401
                    obtain ⟨cs1405, hs1410, P1411, P1412, hq1413, hr1406, hcs1407, hA1408, hlt1409, hb1414, _⟩ := OS.get (sz := 1) rfl (by decide) h1361 hx1404
                    obtain ⟨rfl, rfl⟩ := hr1406
                    have hcs1415 := fun (w : World) (hp : Hp) (ho : Own b1242 hp w) (hh : hs1268.Sublist hp) => hcs1407 w hp ho ((show hs1354.Sublist hs1268 by rw [hq1357]; exact sub_skip _ (List.sublist_append_left _ _)).trans hh)
                    refine D_st (Base.Le.refl _) 13 rfl (by kernel_rfl) (by kernel_rfl) (by kernel_rfl) rfl (st_index_old j1402 rfl rfl hj1403 hlt1409 hA1408 sl22) (sub_app hs1268 (.refl _)) ?_
                    refine D_all [14] (by kernel_rfl) rfl ?_
                    refine R_do (Base.Le.refl _) rfl rfl (u_putIn hj1347 hj1403 (z' := max x1384 0) (sz := 1) rfl [] R 0 1 [.int .i64 (max x1384 0)] rfl rfl hq1357 h1361 hb1358 hx1404 rfl rfl rfl siz3 rfl (by intro u hu; simp only [List.mem_cons, List.not_mem_nil, or_false] at hu; subst hu; rfl) (fun cs hsj hh => by obtain ⟨rfl, rfl⟩ := hh; exact ⟨by decide, rfl, rfl⟩)) ?_ ?_
                    ·
                      rintro _ _ ⟨hs1416, rfl, h1417⟩
                      refine ⟨.inl (by kernel_rfl), ?_⟩
                      refine d_resp 6 rfl (v' := .slice A821 (put (put l1219 (k1221 : Int) l1240) (k1221 : Int) (put x1344 (k1221 : Int) (max x1384 0))).length c822) (by simp only [put_length]) ?_
                      refine D_done (by kernel_rfl) ?_
                      refine x_block_normal ?_
                      refine x_then_normal ?_
                      refine c_region ?_
                      refine t_st rfl (st_add rfl rfl (by omega)) ?_
                      refine t_st rfl (st_move rfl) ?_
                      refine t_nil ?_
                      exact x_againM (put (put l1219 (k1221 : Int) l1240) (k1221 : Int) (put x1344 (k1221 : Int) (max x1384 0))) (Option.some.inj hm).symm (e' := [(0, .slice A1 (l4).length c2), (3, .slice A777 (l773).length c778), (6, .slice A821 (put (put l1219 (k1221 : Int) l1240) (k1221 : Int) (put x1344 (k1221 : Int) (max x1384 0))).length c822), (47, .slice A1 (l4).length c2), (48, .int .i64 ((l4.length : Int))), (49, .int .i64 ((k1221 : Int) + 1))]) (hp' := (hs1416 ++ R)) ⟨rfl, rfl, rfl, rfl, rfl, rfl, trivial⟩ (sub_app hs1416 (.refl _)) ⟨hs1416, rfl, rfl, ((hle1215.trans hle1243)), h1417, ((put_length _ _ _).trans ((put_length _ _ _).trans hln1220))⟩
                    exact R_nil
                ·
                  rintro l1219 b1214 _ _ ⟨hs1217, rfl, rfl, hle1215, h1218, hln1220⟩ hq1418
                  rw [hq1418] at hk1224
                  have hm := elimL hk1224
                  refine c_seq ?_
                  refine c_region ?_
                  refine t_st rfl (st_lss_f rfl rfl (by omega)) ?_
                  refine t_nil ?_
                  refine x_then_normal ?_
                  refine c_seq ?_
                  refine c_cond_f rfl ?_
                  refine c_exit ?_
                  refine x_then_exit ?_
                  refine x_then_exit ?_
                  refine x_block_out ?_
                  refine x_then_normal ?_
                  refine c_seq ?_
                  refine c_region ?_
                  refine t_st rfl (st_move rfl) ?_
                  refine t_st rfl (st_assign rfl) ?_
                  refine t_nil ?_
                  refine x_then_normal ?_
                  refine c_seq ?_
                  refine c_seq ?_
                  refine c_region ?_
                  refine t_st rfl (st_move rfl) ?_
                  refine t_st rfl (st_len rfl sl45) ?_
                  refine t_st rfl (st_move rfl) ?_
                  refine t_nil ?_
                  refine x_then_normal ?_
                  refine c_block ?_
                  have hb1420 := (FZ.bd (h3.le (hle776.trans (hle783.trans (hle790.trans (hle799.trans (hle810.trans hle1215)))))))
                  refine c_frz [] hs1217 R rfl ?_
                  intro b1438 hle1439 hz1440
                  have h1441 := OS.frz (l := l1219) h1218 hle1439.cells hz1440
                  obtain ⟨t1501, hl1502, hk1503⟩ := bindS hm
                  refine c_forM (fun k1500 => unc2 fun l1495 l1499 => fun b1490 e' hp' => ∃ (A1492 : Option Addr), ∃ (c1493 : Nat), ∃ (A1496 : Option Addr), ∃ (c1497 : Nat), [(3, .slice A777 (l773).length c778), (6, .slice A1492 (l1495).length c1493), (9, .slice A1496 (l1499).length c1497), (81, .int .i64 ((l4.length : Int))), (82, .int .i64 ((k1500 : Int)))] = e' ∧ R = hp' ∧ b1438.Le b1490 ∧ FZ (RT.list (RT.int .i64)) b1490.w A1492 c1493 l1495 ∧ FZ (RT.list (RT.int .i64)) b1490.w A1496 c1497 l1499) hl1502 (e' := [(3, .slice A777 (l773).length c778), (6, .slice A821 (l1219).length c822), (9, .slice A821 (l1219).length c822), (81, .int .i64 ((l4.length : Int))), (82, .int .i64 0)]) (hp' := R) ⟨rfl, rfl, rfl, rfl, rfl, trivial⟩ (.refl _) ⟨A821, c822, A821, c822, rfl, rfl, (Base.Le.refl _), h1441, h1441⟩ ?_ ?_
                  ·
                    rintro k1500 ⟨l1495, l1499⟩ b1490 _ _ oL1419 hknL1419 ⟨A1492, c1493, A1496, c1497, rfl, rfl, hle1491, h1494, h1498⟩ hstepL1419 houtL1419
                    unfold mFishkeep2MendCloses_L1419 at hstepL1419
                    have hm := (unc2E hstepL1419)
                    refine c_seq ?_
                    refine c_region ?_
                    refine t_st rfl (st_lss_t rfl rfl (by omega)) ?_
                    refine t_nil ?_
                    refine x_then_normal ?_
                    refine c_seq ?_
                    refine c_cond_t rfl ?_
                    refine c_skip ?_
                    refine x_then_normal ?_
                    refine c_seq ?_
                    refine c_block ?_
                    refine c_seq ?_
                    refine c_seq ?_
                    refine c_region ?_
                    refine t_st rfl (st_move rfl) ?_
                    obtain ⟨x1504, hcl1505, hm⟩ := bindS hm
                    refine t_do rfl (u_callW0 _ call20 rfl (fun w ho => cFishkeep2Wide _ [] l1499 A1496 c1497 (h1498.old ho) x1504 hcl1505) (fun _ _ _ h => h.2.symm)) ?_
                    rintro _ _ ⟨⟨_, rfl, _⟩, rfl⟩
                    refine t_nil ?_
                    refine x_then_normal ?_
                    refine c_cond _ rfl (fun hc1506 => ?_) (fun hc1506 => ?_)
                    ·
                      rw [if_pos hc1506] at hm
                      refine c_seq ?_
                      refine c_region ?_
                      refine t_st rfl (st_assign rfl) ?_
                      refine t_nil ?_
                      refine x_then_normal ?_
                      refine c_ret ?_
                      refine x_then_ret ?_
                      refine x_block_ret ?_
                      refine x_then_ret ?_
                      refine x_then_ret ?_
                      refine x_block_ret ?_
                      refine x_then_ret ?_
                      have hq1507 := houtL1419 _ (Option.some.inj hm).symm
                      rw [hq1507] at hk1503
                      have hm := elimR hk1503
                      obtain rfl := some1 hm
                      exact retM (rs := [.tmp 2]) [.bool (true)] (hle776.trans (hle783.trans (hle790.trans (hle799.trans (hle810.trans (hle1215.trans (hle1439.trans hle1491))))))) (by decide) rfl ⟨rfl, trivial⟩ rfl (hp' := R) (.refl _) ⟨rfl, rfl⟩
                    ·
                      rw [if_neg (fun hh => Bool.noConfusion (hh.symm.trans hc1506))] at hm
                      refine c_skip ?_
                      refine x_then_normal ?_
                      refine c_seq ?_
                      refine c_region ?_
                      refine t_st rfl (st_move rfl) ?_
                      refine t_st rfl (st_move rfl) ?_
                      obtain ⟨⟨x1508, l1509⟩, hcl1510, hm⟩ := bindS hm
                      have hm := (unc2E hm)
                      refine t_callG _ rfl call23 rfl (cMendProduct _ _ l1499 l1495 A1496 c1497 A1492 c1493 h1498 h1494 x1508 l1509 hcl1510) ?_
                      rintro _ b1511 _ hle1512 ⟨A1513, c1514, hs1515, rfl, rfl, h1516⟩
                      refine t_in1 [] [] hs1515 R rfl ?_
                      refine t_st rfl (st_move rfl) ?_
                      refine t_st rfl (st_extract rfl rfl) ?_
                      refine t_st rfl (st_extract rfl rfl) ?_
                      refine t_st rfl (st_assign rfl) ?_
                      refine t_st rfl (st_assign rfl) ?_
                      refine t_nil ?_
                      refine x_then_normal ?_
                      refine c_seq ?_
                      refine c_region ?_
                      refine t_st rfl (st_move rfl) ?_
                      refine t_st rfl (st_neq rfl rfl) ?_
                      refine t_nil ?_
                      refine x_then_normal ?_
                      refine c_cond _ rfl (fun hc1517 => ?_) (fun hc1517 => ?_)
                      ·
                        rw [if_pos (of_decide_eq_true hc1517)] at hm
                        refine c_seq ?_
                        refine c_region ?_
                        refine t_st rfl (st_assign rfl) ?_
                        refine t_nil ?_
                        refine x_then_normal ?_
                        refine c_ret ?_
                        refine x_block_ret ?_
                        refine x_then_ret ?_
                        refine x_then_ret ?_
                        refine x_block_ret ?_
                        refine x_then_ret ?_
                        have hq1518 := houtL1419 _ (Option.some.inj hm).symm
                        rw [hq1518] at hk1503
                        have hm := elimR hk1503
                        obtain rfl := some1 hm
                        exact retM (rs := [.tmp 2]) [.bool (false)] (hle776.trans (hle783.trans (hle790.trans (hle799.trans (hle810.trans (hle1215.trans (hle1439.trans (hle1491.trans hle1512)))))))) (by decide) rfl ⟨rfl, trivial⟩ rfl (hp' := R) (sub_skip hs1515 (.refl _)) ⟨rfl, rfl⟩
                      ·
                        rw [if_neg (of_decide_eq_false hc1517)] at hm
                        refine c_skip ?_
                        refine x_block_normal ?_
                        refine x_then_normal ?_
                        refine c_region ?_
                        refine t_st rfl (st_add rfl rfl (by omega)) ?_
                        refine t_st rfl (st_move rfl) ?_
                        refine t_nil ?_
                        refine x_frz [] hs1515 R rfl ?_
                        intro b1519 hle1520 hz1521
                        have h1522 := OS.frz (l := l1509) h1516 hle1520.cells hz1521
                        exact x_againM (l1495, l1509) (Option.some.inj hm).symm (e' := [(3, .slice A777 (l773).length c778), (6, .slice A1492 (l1495).length c1493), (9, .slice A1513 (l1509).length c1514), (81, .int .i64 ((l4.length : Int))), (82, .int .i64 ((k1500 : Int) + 1))]) (hp' := R) ⟨rfl, rfl, rfl, rfl, rfl, trivial⟩ (.refl _) ⟨A1492, c1493, A1513, c1514, rfl, rfl, ((hle1491.trans (hle1512.trans hle1520))), (h1494.le (hle1512.trans hle1520)), h1522⟩
                  ·
                    rintro ⟨l1495, l1499⟩ b1490 _ _ ⟨A1492, c1493, A1496, c1497, rfl, rfl, hle1491, h1494, h1498⟩ hq1523
                    rw [hq1523] at hk1503
                    have hm := elimL hk1503
                    have hm := (unc2E hm)
                    refine c_seq ?_
                    refine c_region ?_
                    refine t_st rfl (st_lss_f rfl rfl (by omega)) ?_
                    refine t_nil ?_
                    refine x_then_normal ?_
                    refine c_seq ?_
                    refine c_cond_f rfl ?_
                    refine c_exit ?_
                    refine x_then_exit ?_
                    refine x_then_exit ?_
                    refine x_block_out ?_
                    refine x_then_normal ?_
                    refine c_seq ?_
                    refine c_region ?_
                    refine t_st rfl (st_move rfl) ?_
                    refine t_st rfl (st_move rfl) ?_
                    obtain ⟨x1524, hcl1525, hm⟩ := bindS hm
                    refine t_do rfl (u_callW0 _ call21 rfl (fun w ho => cSlicesEqualFunc _ [] l1499 l773 A1496 c1497 A777 c778 (h1498.old ho) ((h785.le (hle790.trans (hle799.trans (hle810.trans (hle1215.trans (hle1439.trans hle1491)))))).old ho) x1524 hcl1525) (fun _ _ _ h => h.2.symm)) ?_
                    rintro _ _ ⟨⟨_, rfl, _⟩, rfl⟩
                    refine t_st rfl (st_assign rfl) ?_
                    refine t_nil ?_
                    refine x_then_normal ?_
                    refine c_ret ?_
                    obtain rfl := some1 hm
                    exact retM (rs := [.tmp 2]) [.bool (x1524)] (hle776.trans (hle783.trans (hle790.trans (hle799.trans (hle810.trans (hle1215.trans (hle1439.trans hle1491))))))) (by decide) rfl ⟨rfl, trivial⟩ rfl (hp' := R) (.refl _) ⟨rfl, rfl⟩

end Go.Proofs.Ytakehdnblmonlaa
